/-
  Part of a proof.
-/
import Derived.Test.YtmdkimnlbaahbaaGreatDoorBComposeCard0
import Derived.Test.YtmdkimnlbaahbaaGreatDoorBComposeCard1
import Derived.Test.YtmdkimnlbaahbaaGreatDoorRows
set_option linter.unusedSimpArgs false
set_option linter.unusedVariables false
set_option maxHeartbeats 400000000
set_option maxRecDepth 100000
namespace Go.Proofs.YtmdkimnlbaahbaaGreatDoor
open Go.RowKit
def Zd5 (s:Srt):List C:=[.sl (nR (up s)),.sl (nR (down s)),.sl (nR (kinds s))]
theorem Zh3:∀ s,Zd5 s=[.sl (nR (up s)),.sl (nR (down s)),.sl (nR (kinds s))]:=fun _=>rfl
section
variable {s:Srt}
theorem kdg (hs:SortsOk s) {k:Int} (h:0<=k∧k < s.names.length):(nR (kinds s))[k.toNat]?=some [.lit (.int .i64 (kd s k:Nat))]:=by
 have hk:=Zh2 (SortsOk.subsIn hs.subs);have hl:k.toNat < (kinds s).length:=by rw [hk.1];omega
 rw [ZaQ (Taa hl),kd,List.getD_eq_getElem?_getD,Taa hl];rfl
theorem ZBk (hs:SortsOk s):(nR (kinds s)).length=s.names.length:=by rw [ZaR,(Zh2 (SortsOk.subsIn hs.subs)).1]
theorem Zyc (hs:SortsOk s) (k:Int):Con e0 94 [.agg (Zd5 s),.one (.lit (.int .i64 k))] [.one (.lit (.bool (decide (0<=k∧k < s.names.length))))]:=by
 have hl:(nR (up s)).length=s.names.length:=by rw [ZaR,(Zft (SortsOk.subsIn hs.subs)).1]
 rw [Zd5];refine gI 23 Tryz.func94 ?_;by_cases h0:0<=k
 ·by_cases h1:k < s.names.length
  ·exact fT (aj3 @h0 @hl @h1)
  ·exact fT (aj3 @h0 @hl @h1)
 ·exact fT @h0
theorem Zwz {l:List Int} {p:Int->Prop} {j:Nat} {c:Int} (hc:l[j]?=some c) (h:∀ (i:Nat) (c:Int),i < j->l[i]?=some c->p c) (hp:p c):∀ (i:Nat) (c:Int),i < j+1->l[i]?=some c->p c:=fun i c' hi hc'=>by
 by_cases hij:i=j
 ·subst hij;rw [hc] at hc';injection hc' with hc';subst hc';exact hp
 ·exact h i c' om hc'
theorem Zlg {f d:Dcl} {i:Nat} {a:Int} (ha:d.args[i]?=some a) (hall:∀ (i':Nat) a,i' < i->d.args[i']?=some a->(0<=a∧a < s.names.length)∧∀ b,f.args[i']?=some b->kd s a=kd s b) (h1:0<=a∧a < s.names.length) (h2:∀ b,f.args[i]?=some b->kd s a=kd s b) :
  ∀ (i':Nat) a,i' < i+1->d.args[i']?=some a->(0<=a∧a < s.names.length)∧∀ b,f.args[i']?=some b->kd s a=kd s b:=fun i' a' h ha'=>by
 by_cases e:i'=i
 ·subst e;rw [ha] at ha';injection ha' with ha'
  subst ha';exact ⟨h1,h2⟩
 ·exact hall i' a' om ha'
theorem ZmT {f d:Dcl} (h1:d.args.length=f.args.length) (h2:0<=d.res∧d.res < s.names.length) (h3:kd s d.res=kd s f.res) (hall:∀ (i':Nat) a,i' < d.args.length->d.args[i']?=some a->(0<=a∧a < s.names.length)∧∀ b,f.args[i']?=some b->kd s a=kd s b):DeclOk s f d :=
 ⟨h1,h2,fun k hk=>by obtain ⟨i,hi⟩:=Tbk hk;exact (hall i k (Tad.1 hi).1 hi).1,h3,fun i a b ha hb=>(hall i a (Tad.1 ha).1 ha).2 b hb⟩
theorem Zlh {l:List Dcl} {P:Dcl->Prop} {j:Nat} {d:Dcl} (hd:l[j]?=some d) (hall:∀ (j':Nat) d,j' < j->l[j']?=some d->P d) (h:P d):∀ (j':Nat) d,j' < j+1->l[j']?=some d->P d:=fun j' d' hj hd'=>by
 by_cases e:j'=j
 ·subst e;rw [hd] at hd';injection hd' with hd'
  subst hd';exact h
 ·exact hall j' d' om hd'
theorem ZnI (hs:SortsOk s) (o:Opr):Con e0 89 [.agg (Zd5 s),.agg (Zax o)] [.one (.lit (.bool (Zcq s o)))]:=by
 have hno:¬ DeclsOk s o->Zcq s o=false:=Ziq;have cH:=Zyc hs;have rK:=ZaL (l:=kinds s);rw [Zd5] at cH ⊢;rw [Zax];refine gI 83076759175850041743779962279694015 Tryz.func89 ?_;by_cases h1:1<=o.decls.length;rotate_left
 ·have hf:=hno fun h=>h1 h.len1;have z1:=lT o.decls.length 1;exact fT (ai @z1 @hf)
 have z1:=lF o.decls.length 1;by_cases h4:o.decls.length<=4;rotate_left
 ·have hf:=hno fun h=>h4 h.len4;have z2:=lT 4 o.decls.length;exact fT (aj3 @z1 @z2 @hf)
 have z2:=lF 4 o.decls.length;obtain ⟨f,hf0⟩:∃ f,o.decls[0]?=some f:=⟨_,Taa om⟩;have hfm:=Tac hf0;by_cases h3:f.args.length<=3;rotate_left
 ·have hf:=hno fun h=>h3 (h.ar f hf0);have z3:=lT 3 f.args.length;exact fT (aj6 @z1 @z2 @hf0 @ZaN @z3 @hf)
 have z3:=lF 3 f.args.length;refine fB (aj5 @z1 @z2 @hf0 @ZaN @z3) ?_;refine fC @e0P (cH f.res) ?_;by_cases hr:0<=f.res∧f.res < (s.names.length:Int);rotate_left
 ·have hf:=hno fun h=>hr (h.all f hf0 f hfm).res;have y1:decide (0<=f.res∧f.res < (s.names.length:Int))=false:=decide_eq_false hr;refine fR @y1 ?_;exact fT @hf
 have y1:decide (0<=f.res∧f.res < (s.names.length:Int))=true:=decide_eq_true hr;have gr:=kdg hs hr;have ir:=hr.1;refine fR @y1 ?_;refine fG @e0P ?_;have F:=@e0P;refine gL (ι:=Nat) [4,7,43,44,50] [] (fun i=>[(43,A.d (.one (.lit (.int .i64 i))))]) (fun i=>[]) (fun i=>i<=f.args.length∧∀ (i':Nat) k,i' < i->f.args[i']?=some k->0<=k∧k < s.names.length) (fun i=>f.args.length - i) (0) (⟨Taj _,fun i' k h=>absurd h om⟩) (fun i hi=>?_);clear F
 obtain ⟨hil,hfa⟩:=hi;by_cases hlt:i < f.args.length
 ·have q1:(i:Int) < (f.args.length:Int):=om;obtain ⟨k,hk⟩:∃ k,f.args[i]?=some k:=⟨_,Taa hlt⟩;have hw:=Zat (k:=i) om;refine fB (aj3 @q1 @hk @Zaz) ?_;refine fC @e0P (cH k) ?_;by_cases hkr:0<=k∧k < (s.names.length:Int);rotate_left
  ·have hf:=hno fun h=>hkr ((h.all f hf0 f hfm).args k (Tac hk));have y2:decide (0<=k∧k < (s.names.length:Int))=false:=decide_eq_false hkr;refine fR @y2 ?_;exact fT @hf
  have y2:decide (0<=k∧k < (s.names.length:Int))=true:=decide_eq_true hkr;have hq:i+1<=f.args.length∧_:=⟨hlt,Zwz hk hfa hkr⟩;refine fR @y2 ?_;have F:=@hw;refine gG ?_;exact ⟨i+1,hq,gw,gw,om⟩
 obtain rfl:i=f.args.length:=by omega
 have q1:¬ ((f.args.length:Int) < (f.args.length:Int)):=om;refine fG @q1 ?_;have F:=@e0P;refine gL (ι:=Nat) [4,9,10,11,55,56,87,89,90,91,92,116] [] (fun j=>[(55,A.d (.one (.lit (.int .i64 j))))]) (fun j=>[]) (fun j=>j<=o.decls.length∧∀ (j':Nat) d,j' < j->o.decls[j']?=some d->DeclOk s f d) (fun j=>o.decls.length - j) (0) (⟨Taj _,fun j' d h=>absurd h om⟩) (fun j hj=>?_);clear F;obtain ⟨hjl,hdo⟩:=hj;by_cases hlj:j < o.decls.length
 rotate_left
 ·have q2:¬ ((j:Int) < (o.decls.length:Int)):=om;have ht:=ZeY (s:=s) (o:=o) ⟨h1,h4,fun f' h=>by rw [hf0] at h;injection h with h;subst h;exact h3,fun f' h d hd=>by
   rw [hf0] at h;injection h with h;subst h
   obtain ⟨j',hj'⟩:=Tbk hd;exact hdo j' d (by have:=(Tad.1 hj').1;omega) hj'⟩
  exact fT (ai @q2 @ht)
 have q2:(j:Int) < (o.decls.length:Int):=om;obtain ⟨d,hd⟩:∃ d,o.decls[j]?=some d:=⟨_,Taa hlj⟩;have hdm:=Tac hd;have hwj:=Zat (k:=j) om;have hbad:¬ DeclOk s f d->Zcq s o=false:=fun h=>hno fun hD=>h (hD.all f hf0 d hdm);by_cases hdl:d.args.length=f.args.length;rotate_left
 ·have hf:=hbad fun h=>hdl h.len;have y3:((d.args.length:Int)=(f.args.length:Int))=False:=eq_false om;exact fT (aj5 @q2 @hd @ZaN @y3 @hf)
 have y3:((d.args.length:Int)=(f.args.length:Int))=True:=eq_true om;refine fB (aj3 @q2 @hd @ZaN) ?_;refine fC @y3 (cH d.res) ?_;by_cases hdr:0<=d.res∧d.res < (s.names.length:Int);rotate_left
 ·have hf:=hbad fun h=>hdr h.res;have y4:decide (0<=d.res∧d.res < (s.names.length:Int))=false:=decide_eq_false hdr;refine fR (ai @y3 @y4) ?_;exact fT @hf
 have y4:decide (0<=d.res∧d.res < (s.names.length:Int))=true:=decide_eq_true hdr;have gd:=kdg hs hdr;have id':=hdr.1;have jd:=hdr.2;by_cases hkr:kd s d.res=kd s f.res;rotate_left
 ·have hf:=hbad fun h=>hkr h.kres;have y5:((kd s d.res:Int)=(kd s f.res:Int))=False:=eq_false om;refine fR (aj9 @y3 @y4 @gr @gd @ir @id' @jd @rK @y5) ?_;exact fT @hf
 have y5:((kd s d.res:Int)=(kd s f.res:Int))=True:=eq_true om;refine fR (aj9 @y3 @y4 @gr @gd @ir @id' @jd @rK @y5) ?_;refine fG @e0P ?_;have F:=@e0P;refine gL (ι:=Nat) [4,10,11,91,92,116] [] (fun i=>[(91,A.d (.one (.lit (.int .i64 i))))]) (fun i=>[]) (fun i=>i<=d.args.length∧∀ (i':Nat) a,i' < i->d.args[i']?=some a->(0<=a∧a < s.names.length)∧∀ b,f.args[i']?=some b->kd s a=kd s b) (fun i=>d.args.length - i) (0) (⟨Taj _,fun i' a h=>absurd h om⟩) (fun i hi=>?_);clear F
 obtain ⟨hil2,hka⟩:=hi;by_cases hlt:i < d.args.length;rotate_left
 ·obtain rfl:i=d.args.length:=by omega
  have q3:¬ ((d.args.length:Int) < (d.args.length:Int)):=om;have hq:j+1<=o.decls.length∧_:=⟨hlj,Zlh hd hdo (ZmT hdl hdr hkr hka)⟩;have F:=ai @q3 @hwj;refine gG ?_;exact ⟨j+1,hq,gw,gw,om⟩
 have q3:(i:Int) < (d.args.length:Int):=om;obtain ⟨a,ha⟩:∃ k,d.args[i]?=some k:=⟨_,Taa hlt⟩;obtain ⟨b,hb⟩:∃ k,f.args[i]?=some k:=⟨_,Taa om⟩;have hw:=Zat (k:=i) om;have hbr:=hfa i b om hb;have gb:=kdg hs hbr;have ib:=hbr.1;refine fB (aj3 @q3 @ha @Zaz) ?_;refine fC @e0P (cH a) ?_;by_cases har:0<=a∧a < (s.names.length:Int);rotate_left
 ·have hf:=hbad fun h=>har (h.args a (Tac ha));have y6:decide (0<=a∧a < (s.names.length:Int))=false:=decide_eq_false har;refine fR @y6 ?_;exact fT @hf
 have y6:decide (0<=a∧a < (s.names.length:Int))=true:=decide_eq_true har;have ga:=kdg hs har;have ia:=har.1;have ja:=har.2;by_cases hkk:kd s a=kd s b;rotate_left
 ·have hf:=hbad fun h=>hkk (h.kargs i a b ha hb);have y7:((kd s a:Int)=(kd s b:Int))=False:=eq_false om;refine fR (aj10 @y6 @ga @gb @ia @ja @ib @hb @Zaz @rK @y7) ?_;exact fT @hf
 have y7:((kd s a:Int)=(kd s b:Int))=True:=eq_true om;have hq:i+1<=d.args.length∧_:=⟨hlt,Zlg (f:=f) ha hka har fun b' hb'=>by rw [hb] at hb';injection hb' with hb';subst hb';exact hkk⟩;refine fR (aj10 @y6 @ga @gb @ia @ja @ib @hb @Zaz @rK @y7) ?_;have F:=@hw;refine gG ?_;exact ⟨i+1,hq,gw,gw,om⟩
theorem Zqf {g:Sgn} (hs:SortsOk g.sorts) (o:Opr):Con e0 50 [.agg (Zak g),.agg (Zax o)] [.one (.lit (.bool (Zcq g.sorts o)))]:=by
 have hno:¬ DeclsOk g.sorts o->Zcq g.sorts o=false:=Ziq;have cK:=ZdP hs;rw [show (Zb8 (kinds g.sorts)).map ZbA=nR (kinds g.sorts) from rfl] at cK;have rK:=ZaL (l:=kinds g.sorts);have lK:=ZBk hs;have n1:=hs.n1;have n8:=hs.n8;have hw1n:IntKind.i64.wrap ((g.sorts.names.length:Int) - 1)=(g.sorts.names.length:Int) - 1:=IntWalk.i64_in _ om;rw [Za9] at cK;rw [Zak,Zax];refine gI 1298708039934125393111688421573631 Tryz.func50 ?_
 by_cases h1:1<=o.decls.length;rotate_left
 ·have hf:=hno fun h=>h1 h.len1;have z1:=lT o.decls.length 1;exact fT (ai @z1 @hf)
 have z1:=lF o.decls.length 1;by_cases h4:o.decls.length<=4;rotate_left
 ·have hf:=hno fun h=>h4 h.len4;have z2:=lT 4 o.decls.length;exact fT (aj3 @z1 @z2 @hf)
 have z2:=lF 4 o.decls.length;obtain ⟨f,hf0⟩:∃ f,o.decls[0]?=some f:=⟨_,Taa om⟩;have hfm:=Tac hf0;by_cases h3:f.args.length<=3;rotate_left
 ·have hf:=hno fun h=>h3 (h.ar f hf0);have z3:=lT 3 f.args.length;exact fT (aj6 @z1 @z2 @hf0 @ZaN @z3 @hf)
 have z3:=lF 3 f.args.length;refine fB (aj5 @z1 @z2 @hf0 @ZaN @z3) ?_;refine fC @e0P (cK) ?_;refine fR @e0P ?_;refine fG (ai @hf0 @ZaN) ?_;have F:=@e0P;refine gL (ι:=Nat) [4,7,8,9,40,63,68,99,110] [] (fun j=>[(7,A.d (.one (.lit (.int .i64 j))))]) (fun j=>[]) (fun j=>j<=o.decls.length∧∀ (j':Nat) d,j' < j->o.decls[j']?=some d->DeclOk g.sorts f d) (fun j=>o.decls.length - j) (0) (⟨Taj _,fun j' d h=>absurd h om⟩) (fun j hj=>?_);clear F
 obtain ⟨hjl,hdo⟩:=hj;by_cases hlj:j < o.decls.length;rotate_left
 ·have q2:¬ ((j:Int) < (o.decls.length:Int)):=om;have ht:=ZeY (s:=g.sorts) (o:=o) ⟨h1,h4,fun f' h=>by rw [hf0] at h;injection h with h;subst h;exact h3,fun f' h d hd=>by
   rw [hf0] at h;injection h with h;subst h
   obtain ⟨j',hj'⟩:=Tbk hd;exact hdo j' d (by have:=(Tad.1 hj').1;omega) hj'⟩
  exact fT (ai @q2 @ht)
 have q2:(j:Int) < (o.decls.length:Int):=om;obtain ⟨d,hd⟩:∃ d,o.decls[j]?=some d:=⟨_,Taa hlj⟩;have hdm:=Tac hd;have hwj:=Zat (k:=j) om;have hbad:¬ DeclOk g.sorts f d->Zcq g.sorts o=false:=fun h=>hno fun hD=>h (hD.all f hf0 d hdm);have hj0:d=f∨DeclOk g.sorts f f:=by
  rcases Nat.eq_zero_or_pos j with h | h
  ·subst h;rw [hf0] at hd;injection hd with hd;exact .inl hd.symm
  ·exact .inr (hdo 0 f h hf0)
 by_cases hdl:d.args.length=f.args.length;rotate_left
 ·have hf:=hbad fun h=>hdl h.len;have y3:((d.args.length:Int)=(f.args.length:Int))=False:=eq_false om;exact fT (aj5 @q2 @hd @ZaN @y3 @hf)
 have y3:((d.args.length:Int)=(f.args.length:Int))=True:=eq_true om;refine fB (aj3 @q2 @hd @ZaN) ?_;refine fC (aj3 @y3 @lK @hw1n) (ZdH d.res 0 ((g.sorts.names.length:Int) - 1)) ?_;by_cases hdr:0<=d.res∧d.res < (g.sorts.names.length:Int);rotate_left
 ·have hf:=hbad fun h=>hdr h.res;have y4:decide (0<=d.res∧d.res<=(g.sorts.names.length:Int) - 1)=false:=decide_eq_false om;refine fR (ai @y3 @y4) ?_;exact fT @hf
 have y4:decide (0<=d.res∧d.res<=(g.sorts.names.length:Int) - 1)=true:=decide_eq_true om;have gd:=kdg hs hdr;have id':=hdr.1;have hfr:0<=f.res∧f.res < (g.sorts.names.length:Int):=by
  rcases hj0 with h | h
  ·rw [<- h];exact hdr
  ·exact h.res
 have gr:=kdg hs hfr;have ir:=hfr.1;refine fR (ai @y3 @y4) ?_;refine fG @e0P ?_;have F:=@e0P;refine gL (ι:=Nat) [4,9,68,99] [] (fun i=>[(9,A.d (.one (.lit (.int .i64 i))))]) (fun i=>[]) (fun i=>i<=d.args.length∧∀ (i':Nat) a,i' < i->d.args[i']?=some a->(0<=a∧a < g.sorts.names.length)∧∀ b,f.args[i']?=some b->kd g.sorts a=kd g.sorts b) (fun i=>d.args.length - i) (0) (⟨Taj _,fun i' a h=>absurd h om⟩) (fun i hi=>?_);clear F
 obtain ⟨hil2,hka⟩:=hi;by_cases hlt:i < d.args.length;rotate_left
 ·obtain rfl:i=d.args.length:=by omega
  have q3:¬ ((d.args.length:Int) < (d.args.length:Int)):=om;by_cases hkr:kd g.sorts d.res=kd g.sorts f.res;rotate_left
  ·have hf:=hbad fun h=>hkr h.kres;have y5:((kd g.sorts d.res:Int)=(kd g.sorts f.res:Int))=False:=eq_false om;exact fT (aj8 @q3 @gr @gd @ir @id' @rK @y5 @hf)
  have y5:((kd g.sorts d.res:Int)=(kd g.sorts f.res:Int))=True:=eq_true om;have hq:j+1<=o.decls.length∧_:=⟨hlj,Zlh hd hdo (ZmT hdl hdr hkr hka)⟩;have F:=aj8 @q3 @gr @gd @ir @id' @rK @y5 @hwj;refine gG ?_;exact ⟨j+1,hq,gw,gw,om⟩
 have q3:(i:Int) < (d.args.length:Int):=om;obtain ⟨a,ha⟩:∃ k,d.args[i]?=some k:=⟨_,Taa hlt⟩;obtain ⟨b,hb⟩:∃ k,f.args[i]?=some k:=⟨_,Taa om⟩;have hw:=Zat (k:=i) om;refine fB @q3 ?_;refine fC (aj4 @ha @Zaz @lK @hw1n) (ZdH a 0 ((g.sorts.names.length:Int) - 1)) ?_;by_cases har:0<=a∧a < (g.sorts.names.length:Int);rotate_left
 ·have hf:=hbad fun h=>har (h.args a (Tac ha));have y6:decide (0<=a∧a<=(g.sorts.names.length:Int) - 1)=false:=decide_eq_false om;refine fR @y6 ?_;exact fT @hf
 have y6:decide (0<=a∧a<=(g.sorts.names.length:Int) - 1)=true:=decide_eq_true om;have y8:(a<=(g.sorts.names.length:Int) - 1)=True:=eq_true om;have ga:=kdg hs har;have ia:=har.1;have hbr:0<=b∧b < (g.sorts.names.length:Int):=by
  rcases hj0 with h | h
  ·rw [<- h,ha] at hb;injection hb with hb;rw [<- hb];exact har
  ·exact h.args b (Tac hb)
 have gb:=kdg hs hbr;have ib:=hbr.1;by_cases hkk:kd g.sorts a=kd g.sorts b;rotate_left
 ·have hf:=hbad fun h=>hkk (h.kargs i a b ha hb);have y7:((kd g.sorts a:Int)=(kd g.sorts b:Int))=False:=eq_false om;refine fR (aj11 @y6 @y8 @ga @gb @ia @ib @ha @hb @Zaz @rK @y7) ?_;exact fT @hf
 have y7:((kd g.sorts a:Int)=(kd g.sorts b:Int))=True:=eq_true om;have hq:i+1<=d.args.length∧_:=⟨hlt,Zlg (f:=f) ha hka har fun b' hb'=>by rw [hb] at hb';injection hb' with hb';subst hb';exact hkk⟩;refine fR (aj11 @y6 @y8 @ga @gb @ia @ib @ha @hb @Zaz @rK @y7) ?_;have F:=@hw;refine gG ?_;exact ⟨i+1,hq,gw,gw,om⟩
end
theorem Zeo {o:Opr} {d:Dcl} (hd:o.decls[0]?=some d):Con e0 87 [.agg (Zax o)] [.one (.lit (.int .i64 d.args.length))]:=by
 refine gI 7 Tryz.func87 ?_;exact fT (aj3 @Zag @hd @ZaN)
section
variable {g:Sgn} {o:Opr}
theorem Zjv {d:Dcl} (hd:o.decls[0]?=some d) (h1:0<=o.unit) (h2:o.unit<=g.ops.length) (h3:d.args.length=2) {a b:Int} (ha:d.args[0]?=some a) (hb:d.args[1]?=some b) (hk:kd g.sorts a=kd g.sorts b) (hr:¬ ((o.assoc=true∨o.unit≠0)∧kd g.sorts a≠kd g.sorts d.res))
  (hu:o.unit≠0->∀ (p:Opr) (u:Dcl),g.ops[o.unit.toNat - 1]?=some p->p.decls[0]?=some u->u.args.length=0∧kd g.sorts u.res=kd g.sorts d.res):AxOk g o :=
 ⟨h1,h2,fun _ d' hd'=>by
  rw [hd] at hd';injection hd' with hd';subst hd'
  refine ⟨h3,fun a' b' ha' hb'=>?_⟩;rw [ha] at ha';injection ha' with ha';subst ha'
  rw [hb] at hb';injection hb' with hb';subst hb'
  exact ⟨hk,fun h=>Classical.byContradiction fun hn=>hr ⟨h,hn⟩,hu⟩⟩
theorem ZoQ (h:o.assoc=false∧o.comm=false∧o.unit=0):AxOk g o:=⟨by rw [h.2.2];exact Int.le_refl _,by rw [h.2.2];omega,fun h2=>by
 rcases h2 with h2 | h2 | h2
 ·rw [h.1] at h2;cases h2
 ·rw [h.2.1] at h2;cases h2
 ·exact absurd h.2.2 h2⟩
theorem Zsc (h:¬ (o.assoc=false∧o.comm=false∧o.unit=0)):o.assoc=true∨o.comm=true∨o.unit≠0:=by
 by_cases h1:o.assoc=true
 ·exact .inl h1
 by_cases h2:o.comm=true
 ·exact .inr (.inl h2)
 exact .inr (.inr fun h3=>h ⟨by simpa using h1,by simpa using h2,h3⟩)
theorem Zmj (hs:SortsOk g.sorts) (hall:∀ p∈g.ops,DeclsOk g.sorts p) (ho:o∈g.ops) (hol:g.ops.length<=14):Con e0 90 [.agg (Zd5 g.sorts),.agg (Zak g),.agg (Zax o)] [.one (.lit (.bool (axOk g o)))]:=by
 have hno:¬ AxOk g o->axOk g o=false:=Zlb;have rK:=ZaL (l:=kinds g.sorts);obtain ⟨d,hd,hdd⟩:=(hall o ho).first;have gr:=kdg hs hdd.res;have ir:=hdd.res.1;rw [Zd5,Zak,Zax];refine gI 87042659588714057177760255 Tryz.func90 ?_;by_cases h1:0<=o.unit;rotate_left
 ·have hf:=hno fun h=>h1 h.lo;have z1:(o.unit < 0)=True:=eq_true om;exact fT (ai @z1 @hf)
 have z1:(o.unit < 0)=False:=eq_false om;by_cases h2:o.unit<=g.ops.length;rotate_left
 ·have hf:=hno fun h=>h2 h.hi;have z2:=lT g.ops.length o.unit;exact fT (aj3 @z1 @z2 @hf)
 have z2:=lF g.ops.length o.unit;by_cases hp:o.assoc=false∧o.comm=false∧o.unit=0
 ·have ht:=Zdy (ZoQ (g:=g) hp);obtain ⟨p1,p2,p3⟩:=hp;have p3:(o.unit=0)=True:=eq_true p3;exact fT (aj6 @z1 @z2 @p1 @p2 @p3 @ht)
 have hnd:=Zsc hp;refine fN 3 (ai @z1 @z2) ?_;refine gM (ι:=Unit) [32] [] (fun v=>[(32,A.d (.one (.lit (.bool false))))]) (fun v=>[]) (fun v=>True) ?_ (fun v hv=>Exists.intro _ (ai (Wk.refl _) ?_))
 ·cases q1:o.assoc with
  | true=>(have F:=@q1;refine gG ?_;exact ⟨(),trivial,gw,gw⟩)
  | false =>
  cases q2:o.comm with
  | true=>(have F:=ai @q1 @q2;refine gG ?_;exact ⟨(),trivial,gw,gw⟩)
  | false =>
   have q3:(o.unit=0)=False:=eq_false fun h=>hp ⟨q1,q2,h⟩;have F:=aj3 @q1 @q2 @q3;refine gG ?_;exact ⟨(),trivial,gw,gw⟩
 clear hv;by_cases h3:d.args.length=2;rotate_left
 ·have hf:=hno fun h=>h3 (h.two hnd d hd).1;have z3:((d.args.length:Int)=2)=False:=eq_false om;exact fT (aj4 @hd @ZaN @z3 @hf)
 have z3:((d.args.length:Int)=2)=True:=eq_true om;obtain ⟨a,ha⟩:∃ k,d.args[0]?=some k:=⟨_,Taa om⟩;obtain ⟨b,hb⟩:∃ k,d.args[1]?=some k:=⟨_,Taa om⟩;have har:=hdd.args a (Tac ha);have hbr:=hdd.args b (Tac hb);have ga:=kdg hs har;have gb:=kdg hs hbr;have ia:=har.1;have ib:=hbr.1;by_cases hk:kd g.sorts a=kd g.sorts b;rotate_left
 ·have hf:=hno fun h=>hk ((h.two hnd d hd).2 a b ha hb).1;have z4:((kd g.sorts a:Int)=(kd g.sorts b:Int))=False:=eq_false om;exact fT (aj13 @hd @ZaN @z3 @ha @hb @Zaz @ga @gb @ia @ib @rK @z4 @hf)
 have z4:((kd g.sorts a:Int)=(kd g.sorts b:Int))=True:=eq_true om;refine fN 8 (aj12 @hd @ZaN @z3 @ha @hb @Zaz @ga @gb @ia @ib @rK @z4) ?_;refine gM (ι:=Bool) [83] [] (fun v=>[(83,A.d (.one (.lit (.bool v))))]) (fun v=>[]) (fun v=>(v=true->((o.assoc=true∨o.unit≠0)∧kd g.sorts a≠kd g.sorts d.res))∧(v=false->¬ ((o.assoc=true∨o.unit≠0)∧kd g.sorts a≠kd g.sorts d.res))) ?_ (fun v hv=>Exists.intro _ (ai (Wk.refl _) ?_))
 ·cases q1:o.assoc with
  | true =>
   by_cases hr:kd g.sorts a=kd g.sorts d.res
   ·have z5:((kd g.sorts a:Int)=(kd g.sorts d.res:Int))=True:=eq_true om;have F:=aj9 @q1 @ha @Zaz @ga @gr @ia @ir @rK @z5;refine gG ?_;exact ⟨false,⟨fun h=>(by cases h),fun _ h=>h.2 hr⟩,gw,gw⟩
   ·have z5:((kd g.sorts a:Int)=(kd g.sorts d.res:Int))=False:=eq_false om;have F:=aj9 @q1 @ha @Zaz @ga @gr @ia @ir @rK @z5;refine gG ?_;exact ⟨true,⟨fun _=>⟨.inl rfl,hr⟩,fun h=>(by cases h)⟩,gw,gw⟩
  | false =>
  by_cases q3:o.unit=0
  ·have z6:(o.unit=0)=True:=eq_true q3;have F:=ai @q1 @z6;refine gG ?_;exact ⟨false,⟨fun h=>(by cases h),fun _ h=>h.1.elim (fun h=>(by cases h)) fun h=>h q3⟩,gw,gw⟩
  ·have z6:(o.unit=0)=False:=eq_false q3;by_cases hr:kd g.sorts a=kd g.sorts d.res
   ·have z5:((kd g.sorts a:Int)=(kd g.sorts d.res:Int))=True:=eq_true om;have F:=aj10 @q1 @z6 @ha @Zaz @ga @gr @ia @ir @rK @z5;refine gG ?_;exact ⟨false,⟨fun h=>(by cases h),fun _ h=>h.2 hr⟩,gw,gw⟩
   ·have z5:((kd g.sorts a:Int)=(kd g.sorts d.res:Int))=False:=eq_false om;have F:=aj10 @q1 @z6 @ha @Zaz @ga @gr @ia @ir @rK @z5;refine gG ?_;exact ⟨true,⟨fun _=>⟨.inr q3,hr⟩,fun h=>(by cases h)⟩,gw,gw⟩
 obtain ⟨hv1,hv2⟩:=hv
 cases v with
 | true =>
  have hf:=hno fun h=>(hv1 rfl).2 (((h.two hnd d hd).2 a b ha hb).2.1 (hv1 rfl).1);exact fT @hf
 | false =>
 have hr:=hv2 rfl;by_cases q3:o.unit=0
 ·have z6:(o.unit=0)=True:=eq_true q3;have ht:=Zdy (Zjv hd h1 h2 h3 ha hb hk hr fun h=>absurd q3 h);exact fT (ai @z6 @ht)
 have z6:(o.unit=0)=False:=eq_false q3;have hsub:IntKind.i64.wrap (o.unit - 1)=((o.unit.toNat - 1:Nat):Int):=ZaJ om om om;obtain ⟨p,hp⟩:∃ p,g.ops[o.unit.toNat - 1]?=some p:=⟨_,Taa om⟩;obtain ⟨u,hu,huu⟩:=(hall p (Tac hp)).first;have gu':=kdg hs huu.res;have iu:=huu.res.1;have key:(u.args.length=0∧kd g.sorts u.res=kd g.sorts d.res)->axOk g o=true:=fun h=>Zdy (Zjv hd h1 h2 h3 ha hb hk hr fun _ p' u' hp' hu'=>by
  rw [hp] at hp';injection hp' with hp';subst hp'
  rw [hu] at hu';injection hu' with hu';subst hu'
  exact h)
 have keyn:¬ (u.args.length=0∧kd g.sorts u.res=kd g.sorts d.res)->axOk g o=false:=fun h=>hno fun hA=>h (((hA.two hnd d hd).2 a b ha hb).2.2 q3 p u hp hu);by_cases hl0:u.args.length=0;rotate_left
 ·have hf:=keyn fun h=>hl0 h.1;have z7:((u.args.length:Int)=0)=False:=eq_false om;exact fT (aj9 @z6 @hsub @hp @Zag @hu @ZaN @Zar @z7 @hf)
 have z7:((u.args.length:Int)=0)=True:=eq_true om;by_cases hku:kd g.sorts u.res=kd g.sorts d.res
 ·have ht:=key ⟨hl0,hku⟩;have z8:((kd g.sorts u.res:Int)=(kd g.sorts d.res:Int))=True:=eq_true om;exact fT (aj15 @z6 @hsub @hp @Zag @hu @ZaN @Zar @z7 @gu' @gr @iu @ir @rK @z8 @ht)
 ·have hf:=keyn fun h=>hku h.2;have z8:((kd g.sorts u.res:Int)=(kd g.sorts d.res:Int))=False:=eq_false om;exact fT (aj15 @z6 @hsub @hp @Zag @hu @ZaN @Zar @z7 @gu' @gr @iu @ir @rK @z8 @hf)
theorem ZoR (hs:SortsOk g.sorts) (hall:∀ p∈g.ops,DeclsOk g.sorts p) {k:Nat} (hk0:g.ops[k]?=some o) (hol:g.ops.length<=14):Con e0 51 [.agg (Zak g),.one (.lit (.int .i64 k))] [.one (.lit (.bool (axOk g o)))]:=by
 have hno:¬ AxOk g o->axOk g o=false:=Zlb;have ho:=Tac hk0;have hkl:=(Tad.1 hk0).1;have cK:=ZdP hs;rw [show (Zb8 (kinds g.sorts)).map ZbA=nR (kinds g.sorts) from rfl] at cK;have rK:=ZaL (l:=kinds g.sorts);obtain ⟨d,hd,hdd⟩:=(hall o ho).first;have cA:=Zeo hd;have gr:=kdg hs hdd.res;have ir:=hdd.res.1;rw [Za9] at cK;rw [Zax] at cA;rw [Zak];refine gI 174085318024508800717819895 Tryz.func51 ?_;by_cases hp:o.assoc=false∧o.comm=false∧o.unit=0
 ·have ht:=Zdy (ZoQ (g:=g) hp);obtain ⟨p1,p2,p3⟩:=hp;have p3:(o.unit=0)=True:=eq_true p3;exact fT (aj6 @hk0 @Zag @p1 @p2 @p3 @ht)
 have hnd:=Zsc hp;refine fN 2 (ai @hk0 @Zag) ?_;refine gM (ι:=Unit) [29] [] (fun v=>[(29,A.d (.one (.lit (.bool false))))]) (fun v=>[]) (fun v=>True) ?_ (fun v hv=>Exists.intro _ (ai (Wk.refl _) ?_))
 ·cases q1:o.assoc with
  | true=>(have F:=@q1;refine gG ?_;exact ⟨(),trivial,gw,gw⟩)
  | false =>
  cases q2:o.comm with
  | true=>(have F:=ai @q1 @q2;refine gG ?_;exact ⟨(),trivial,gw,gw⟩)
  | false =>
   have q3:(o.unit=0)=False:=eq_false fun h=>hp ⟨q1,q2,h⟩;have F:=aj3 @q1 @q2 @q3;refine gG ?_;exact ⟨(),trivial,gw,gw⟩
 clear hv;refine fB @e0P ?_;refine fC @e0P (cA) ?_;by_cases h3:d.args.length=2;rotate_left
 ·have hf:=hno fun h=>h3 (h.two hnd d hd).1;have z3:((d.args.length:Int)=2)=False:=eq_false om;refine fR @z3 ?_;exact fT @hf
 have z3:((d.args.length:Int)=2)=True:=eq_true om;refine fC @z3 (ZdH o.unit 0 (g.ops.length:Int)) ?_;by_cases h12:0<=o.unit∧o.unit<=(g.ops.length:Int);rotate_left
 ·have hf:=hno fun h=>h12 ⟨h.lo,h.hi⟩;have z1:decide (0<=o.unit∧o.unit<=(g.ops.length:Int))=false:=decide_eq_false h12;refine fR (ai @z3 @z1) ?_;exact fT @hf
 have z1:decide (0<=o.unit∧o.unit<=(g.ops.length:Int))=true:=decide_eq_true h12;obtain ⟨h1,h2⟩:=h12;obtain ⟨a,ha⟩:∃ k,d.args[0]?=some k:=⟨_,Taa om⟩;obtain ⟨b,hb⟩:∃ k,d.args[1]?=some k:=⟨_,Taa om⟩;have har:=hdd.args a (Tac ha);have hbr:=hdd.args b (Tac hb);have ga:=kdg hs har;have gb:=kdg hs hbr;have ia:=har.1;have ib:=hbr.1;refine fR (ai @z3 @z1) ?_;refine fB @e0P ?_;refine fC @e0P (cK) ?_;refine fR @e0P ?_
 refine fN 8 (ai @hd @ZaN) ?_;refine Zao 22 (by decide +kernel) ?_;intro ds hds;simp only [List.map] at hds;subst hds;refine (have F:=aj10 ha hb Zaz ga gb gr ia ib ir rK;gP 19 ?_);refine (have F:=ia;gAq ?_);refine (have F:=ia;gAq ?_);refine (have F:=ia;gAq ?_);refine fR @e0P ?_;refine fN 9 @e0P ?_;refine gM (ι:=Bool) [84] [] (fun v=>[(84,A.d (.one (.lit (.bool v))))]) (fun v=>[]) (fun v=>(v=true->kd g.sorts a≠kd g.sorts b∨((o.assoc=true∨o.unit≠0)∧kd g.sorts a≠kd g.sorts d.res))∧(v=false->kd g.sorts a=kd g.sorts b∧¬ ((o.assoc=true∨o.unit≠0)∧kd g.sorts a≠kd g.sorts d.res))) ?_ (fun v hv=>Exists.intro _ (ai (Wk.refl _) ?_))
 ·by_cases hk:kd g.sorts a=kd g.sorts b;rotate_left
  ·have z4:((kd g.sorts a:Int)=(kd g.sorts b:Int))=False:=eq_false om;have F:=@z4;refine gG ?_;exact ⟨true,⟨fun _=>.inl hk,fun h=>(by cases h)⟩,gw,gw⟩
  have z4:((kd g.sorts a:Int)=(kd g.sorts b:Int))=True:=eq_true om
  cases q1:o.assoc with
  | true =>
   by_cases hr:kd g.sorts a=kd g.sorts d.res
   ·have z5:((kd g.sorts a:Int)=(kd g.sorts d.res:Int))=True:=eq_true om;have F:=aj4 @q1 @Zag @z4 @z5;refine gG ?_;exact ⟨false,⟨fun h=>(by cases h),fun _=>⟨hk,fun h=>h.2 hr⟩⟩,gw,gw⟩
   ·have z5:((kd g.sorts a:Int)=(kd g.sorts d.res:Int))=False:=eq_false om;have F:=aj4 @q1 @Zag @z4 @z5;refine gG ?_;exact ⟨true,⟨fun _=>.inr ⟨.inl rfl,hr⟩,fun h=>(by cases h)⟩,gw,gw⟩
  | false =>
  by_cases q3:o.unit=0
  ·have z6:=lF 0 o.unit;have F:=aj4 @q1 @Zag @z4 @z6;refine gG ?_;exact ⟨false,⟨fun h=>(by cases h),fun _=>⟨hk,fun h=>h.1.elim (fun h=>(by cases h)) fun h=>h q3⟩⟩,gw,gw⟩
  ·have z6:=lT 0 o.unit;by_cases hr:kd g.sorts a=kd g.sorts d.res
   ·have z5:((kd g.sorts a:Int)=(kd g.sorts d.res:Int))=True:=eq_true om;have F:=aj5 @q1 @Zag @z4 @z6 @z5;refine gG ?_;exact ⟨false,⟨fun h=>(by cases h),fun _=>⟨hk,fun h=>h.2 hr⟩⟩,gw,gw⟩
   ·have z5:((kd g.sorts a:Int)=(kd g.sorts d.res:Int))=False:=eq_false om;have F:=aj5 @q1 @Zag @z4 @z6 @z5;refine gG ?_;exact ⟨true,⟨fun _=>.inr ⟨.inr q3,hr⟩,fun h=>(by cases h)⟩,gw,gw⟩
 obtain ⟨hv1,hv2⟩:=hv
 cases v with
 | true =>
  have hf:=hno fun h=>(hv1 rfl).elim (fun h'=>h' ((h.two hnd d hd).2 a b ha hb).1) fun h'=>h'.2 (((h.two hnd d hd).2 a b ha hb).2.1 h'.1);exact fT @hf
 | false =>
 obtain ⟨hk,hr⟩:=hv2 rfl;by_cases q3:o.unit=0
 ·have z6:(o.unit=0)=True:=eq_true q3;have ht:=Zdy (Zjv hd h1 h2 h3 ha hb hk hr fun h=>absurd q3 h);exact fT (aj3 @Zag @z6 @ht)
 have z6:(o.unit=0)=False:=eq_false q3;have hsub:IntKind.i64.wrap (o.unit - 1)=((o.unit.toNat - 1:Nat):Int):=ZaJ om om om;obtain ⟨p,hp⟩:∃ p,g.ops[o.unit.toNat - 1]?=some p:=⟨_,Taa om⟩;obtain ⟨u,hu,huu⟩:=(hall p (Tac hp)).first;have cP:=Zeo hu;rw [Zax] at cP;have gu':=kdg hs huu.res;have iu:=huu.res.1;have key:(u.args.length=0∧kd g.sorts u.res=kd g.sorts d.res)->axOk g o=true:=fun h=>Zdy (Zjv hd h1 h2 h3 ha hb hk hr fun _ p' u' hp' hu'=>by
  rw [hp] at hp';injection hp' with hp';subst hp'
  rw [hu] at hu';injection hu' with hu';subst hu'
  exact h)
 have keyn:¬ (u.args.length=0∧kd g.sorts u.res=kd g.sorts d.res)->axOk g o=false:=fun h=>hno fun hA=>h (((hA.two hnd d hd).2 a b ha hb).2.2 q3 p u hp hu);refine fB (aj5 @z6 @hsub @hp @Zag @Zar) ?_;refine fC @e0P (cP) ?_;by_cases hl0:u.args.length=0;rotate_left
 ·have hf:=keyn fun h=>hl0 h.1;have z7:((u.args.length:Int)=0)=False:=eq_false om;refine fR @z7 ?_;exact fT @hf
 have z7:((u.args.length:Int)=0)=True:=eq_true om;by_cases hku:kd g.sorts u.res=kd g.sorts d.res
 ·have ht:=key ⟨hl0,hku⟩;have z8:((kd g.sorts u.res:Int)=(kd g.sorts d.res:Int))=True:=eq_true om;refine fR (aj7 @z7 @hu @ZaN @gu' @iu @rK @z8) ?_;exact fT @ht
 ·have hf:=keyn fun h=>hku h.2;have z8:((kd g.sorts u.res:Int)=(kd g.sorts d.res:Int))=False:=eq_false om;refine fR (aj7 @z7 @hu @ZaN @gu' @iu @rK @z8) ?_;exact fT @hf
end
theorem Zhe (a b:List Tm):sizeTms (a++b)=sizeTms a+sizeTms b:=by
 induction a with
 | nil=>simp [sizeTms]
 | cons x xs ih=>simp only [Taf,sizeTms,ih];omega
theorem Za5 {ts:List Tm} {t:Tm} (h:t∈ts):sizeTm t<=sizeTms ts:=by
 induction ts with
 | nil=>cases h
 | cons x xs ih =>
  simp only [sizeTms];rcases Tbg.1 h with rfl | h
  ·omega
  ·have:=ih h;omega
theorem ZoS {ts:List Tm} {i:Nat} {t:Tm} (h:ts[i]?=some t):sizeTms (ts.take (i+1))=sizeTms (ts.take i)+sizeTm t:=by
 rw [ZcC h,Zhe];simp [sizeTms]
theorem ZoT (ts:List Tm) (i:Nat):sizeTms (ts.take i)<=sizeTms ts:=by
 have:=Zhe (ts.take i) (ts.drop i);rw [Tbm] at this;omega
theorem Zbq (ts:List Tm):ts.length<=sizeTms ts:=by
 induction ts with
 | nil=>simp [sizeTms]
 | cons x xs ih=>cases x;simp only [Tag,sizeTms,sizeTm];omega
mutual
def depthTm:Tm->Nat
 | .mk _ _ _ a=>1+depthTms a
def depthTms:List Tm->Nat
 | []=>0
 | t::ts=>max (depthTm t) (depthTms ts)
end
mutual
theorem Zli:∀ t:Tm,depthTm t<=sizeTm t
 | .mk _ _ _ a=>by
  have:=Zfv a;simp only [depthTm,sizeTm];omega
theorem Zfv:∀ ts:List Tm,depthTms ts<=sizeTms ts
 | []=>by simp [depthTms]
 | t::ts=>by
  have:=Zli t;have:=Zfv ts;simp only [depthTms,sizeTms];omega
end
theorem Zgz (a b:List Tm):depthTms (a++b)=max (depthTms a) (depthTms b):=by
 induction a with
 | nil=>simp [depthTms]
 | cons x xs ih=>simp only [Taf,depthTms,ih];omega
theorem Zit {ts:List Tm} {i:Nat} {t:Tm} (h:ts[i]?=some t):depthTms (ts.take (i+1))=max (depthTms (ts.take i)) (depthTm t):=by
 rw [ZcC h,Zgz];simp [depthTms]
theorem ZeZ {ts:List Tm} {t:Tm} (h:t∈ts):depthTm t<=depthTms ts:=by
 induction ts with
 | nil=>cases h
 | cons x xs ih =>
  simp only [depthTms];rcases Tbg.1 h with rfl | h
  ·omega
  ·have:=ih h;omega
theorem Zmk:∀ op nm so args,Zab (.mk op nm so args)=[.lit (.int .i64 op),.lit (.string nm),.lit (.int .i64 so),.sl (Zac args)]:=fun _ _ _ _=>by rw [Zab]
theorem Zyd:∀ op nm so args,sizeTm (.mk op nm so args)=1+sizeTms args:=fun _ _ _ _=>by rw [sizeTm]
theorem ZmU:∀ op nm so args,depthTm (.mk op nm so args)=1+depthTms args:=fun _ _ _ _=>by rw [depthTm]
theorem ZmV:sizeTms []=0:=by rw [sizeTms]
theorem Zlj:depthTms []=0:=by rw [depthTms]
def big:Nat:=4611686018427387904
theorem Zks:∀ (n:Nat) (t:Tm),sizeTm t < n->sizeTm t<=big->Con e0 75 [.agg (Zab t)] [.one (.lit (.int .i64 (sizeTm t)))]:=by
 intro n
 induction n with
 | zero=>intro t h;omega
 | succ n ih =>
  intro t hn hb;obtain ⟨op,nm,so,args⟩:=t;simp only [sizeTm,big] at hn hb;have hal:=Zbq args;refine gI 1967 Tryz.func75 ?_;refine fG (ai @Zmk @tmz) ?_;have F:=@ZmV;refine gL (ι:=Nat) [3,5,9,10] [] (fun i=>[(9,A.d (.one (.lit (.int .i64 i)))),(3,A.d (.one (.lit (.int .i64 ((1+sizeTms (args.take i):Nat):Int)))))]) (fun i=>[]) (fun i=>i<=args.length) (fun i=>args.length - i) (0) om (fun i hi=>?_);clear F
  by_cases hl:i < args.length;rotate_left
  ·have hl':¬ ((i:Int) < (args.length:Int)):=om;have e:args.take i=args:=List.take_of_length_le om;exact fT (aj3 @hl' @e @Zyd)
  have hl':(i:Int) < (args.length:Int):=om;obtain ⟨a,ha⟩:∃ a,args[i]?=some a:=⟨_,Taa hl⟩;have hs:=ZoS ha;have ht:=ZoT args (i+1);have hm:=Za5 (Tac ha);have hw:IntKind.i64.wrap (((1+sizeTms (args.take i):Nat):Int)+(sizeTm a:Int))=((1+sizeTms (args.take (i+1)):Nat):Int):=ZaJ om om om;have hw1:=Zat (k:=i) om;refine fB (aj3 @hl' @tmz @ha) ?_;refine fC @tmz (ih a om (by unfold big;omega)) ?_;refine fR @hw ?_
  have F:=aj3 @hw1 @hw @tmz;refine gG ?_;exact ⟨i+1,om,gw,gw,om⟩
theorem ZiN {t:Tm} (h:sizeTm t<=big):Con e0 75 [.agg (Zab t)] [.one (.lit (.int .i64 (sizeTm t)))]:=Zks _ t (Tan _) h
theorem ZjM:∀ (n:Nat) (t:Tm),sizeTm t < n->sizeTm t<=big->Con e0 76 [.agg (Zab t)] [.one (.lit (.int .i64 (depthTm t)))]:=by
 intro n
 induction n with
 | zero=>intro t h;omega
 | succ n ih =>
  intro t hn hb;obtain ⟨op,nm,so,args⟩:=t;simp only [sizeTm,big] at hn hb;have hal:=Zbq args;have hds:=Zfv args;refine gI 1967 Tryz.func76 ?_;refine fG (ai @Zmk @tmz) ?_;have F:=@Zlj;refine gL (ι:=Nat) [3,5,9,10] [] (fun i=>[(9,A.d (.one (.lit (.int .i64 i)))),(3,A.d (.one (.lit (.int .i64 ((depthTms (args.take i):Nat):Int)))))]) (fun i=>[]) (fun i=>i<=args.length) (fun i=>args.length - i) (0) om (fun i hi=>?_);clear F
  by_cases hl:i < args.length;rotate_left
  ·have hl':¬ ((i:Int) < (args.length:Int)):=om;have e:args.take i=args:=List.take_of_length_le om;have hw:IntKind.i64.wrap ((depthTms args:Int)+1)=((1+depthTms args:Nat):Int):=ZaJ om om om;exact fT (aj4 @hl' @e @hw @ZmU)
  have hl':(i:Int) < (args.length:Int):=om;obtain ⟨a,ha⟩:∃ a,args[i]?=some a:=⟨_,Taa hl⟩;have hs:=Zit ha;have hm:=Za5 (Tac ha);have hw:(if (depthTm a:Int) > (depthTms (args.take i):Int) then (depthTm a:Int) else (depthTms (args.take i):Int))=((depthTms (args.take (i+1)):Nat):Int):=by
   split <;> omega
  have hw1:=Zat (k:=i) om;refine fB (aj3 @hl' @tmz @ha) ?_;refine fC @tmz (ih a om (by unfold big;omega)) ?_;refine fR @hw ?_;have F:=aj3 @hw1 @hw @tmz;refine gG ?_;exact ⟨i+1,om,gw,gw,om⟩
theorem Ziu {t:Tm} (h:sizeTm t<=big):Con e0 76 [.agg (Zab t)] [.one (.lit (.int .i64 (depthTm t)))]:=ZjM _ t (Tan _) h
theorem ZwA (a b:Int):Con e0 120 [.one (.lit (.int .i64 a)),.one (.lit (.int .i64 b))] [.one (.lit (.int .i64 (max a b)))]:=by
 refine gI 147 Tryz.func120 ?_;by_cases h:b < a
 ·have e:max a b=a:=om;exact fT (ai @h @e)
 ·have e:max a b=b:=om;exact fT (ai @h @e)
theorem ZjN:∀ (n:Nat) (t:Tm),sizeTm t < n->sizeTm t<=big->Con e0 72 [.agg (Zab t)] [.one (.lit (.int .i64 (depthTm t)))]:=by
 intro n
 induction n with
 | zero=>intro t h;omega
 | succ n ih =>
  intro t hn hb;obtain ⟨op,nm,so,args⟩:=t;simp only [sizeTm,big] at hn hb;have hal:=Zbq args;have hds:=Zfv args;refine gI 543 Tryz.func72 ?_;refine fG (ai @Zmk @tmz) ?_;have F:=@Zlj;refine gL (ι:=Nat) [3,4,9] [] (fun i=>[(4,A.d (.one (.lit (.int .i64 i)))),(3,A.d (.one (.lit (.int .i64 ((depthTms (args.take i):Nat):Int)))))]) (fun i=>[]) (fun i=>i<=args.length) (fun i=>args.length - i) (0) om (fun i hi=>?_);clear F
  by_cases hl:i < args.length;rotate_left
  ·have hl':¬ ((i:Int) < (args.length:Int)):=om;have e:args.take i=args:=List.take_of_length_le om;have hw:IntKind.i64.wrap ((depthTms args:Int)+1)=((1+depthTms args:Nat):Int):=ZaJ om om om;exact fT (aj5 @hl' @e @hw @ZmU @tmz)
  have hl':(i:Int) < (args.length:Int):=om;obtain ⟨a,ha⟩:∃ a,args[i]?=some a:=⟨_,Taa hl⟩;have hs:=Zit ha;have hm:=Za5 (Tac ha);have hw:max (depthTms (args.take i):Int) (depthTm a:Int)=((depthTms (args.take (i+1)):Nat):Int):=om;have hw1:=Zat (k:=i) om;refine fB (aj3 @hl' @tmz @ha) ?_;refine fC (ai @tmz @ha) (ih a om (by unfold big;omega)) ?_;refine fC @tmz (ZwA _ _) ?_;refine fR @hw ?_;have F:=aj3 @hw1 @hw @tmz;refine gG ?_;exact ⟨i+1,om,gw,gw,om⟩
theorem ZnJ {t:Tm} (h:sizeTm t<=big):Con e0 72 [.agg (Zab t)] [.one (.lit (.int .i64 (depthTm t)))]:=ZjN _ t (Tan _) h
def Lks (sb:List (Nat × A)) (mb:List (Nat × Bk)) (σ:St):Prop:=(∀ p∈sb,gs σ.s p.1=p.2)∧∀ p∈mb,gm σ.m p.1=some p.2
def keyB (k:Nat):A->Bool
 | .ref k' _=>k'==k
 | .buf k'=>k'==k
 | .row k' _ _ _=>k'==k
 | _=>false
def ZeA (d:Nat) (sb:List (Nat × A)) (mb:List (Nat × Bk)):Bool:=sb.all (fun p=>p.1 != d && !keyB d p.2) && mb.all (fun p=>p.1 != d)
theorem ZeB (k t:Nat):∀ (s:List (Nat × A)),keyB k (gs s t)=false->gs (Zaq k s) t=gs s t
 | [],_=>rfl
 | (t',x)::r,h=>by
  have ih:=ZeB k t r;by_cases ht:t=t'
  ·cases x <;> simp_all [Zaq,gs,keyB]
  ·have h2:keyB k (gs r t)=false:=by simpa [gs,ht] using h
   have h3:=ih h2;clear h ih
   cases x <;> simp [Zaq,gs,ht,h3]
theorem ZwB {d:Nat} {a:Option Addr} {n cap:Nat} {x:A} (h:keyB d x=false):litB d a n cap x=x:=by
 cases x <;> simp_all [litB,keyB]
section
variable {sb sb':List (Nat × A)} {mb mb':List (Nat × Bk)} {s:List (Nat × A)} {m:List (Nat × Bk)} {d:Nat} {α:A} {bk:Bk} {σ:St}
theorem Lks.app (h:Lks sb mb σ) (h':Lks sb' mb' σ):Lks (sb++sb') (mb++mb') σ :=
 ⟨fun p hp=>(Tbh.1 hp).elim (h.1 p) (h'.1 p),fun p hp=>(Tbh.1 hp).elim (h.2 p) (h'.2 p)⟩
theorem Lks.born (h:Lks sb mb ⟨s,m⟩) (hf:ZeA d sb mb=true):Lks sb mb ⟨(d,α)::Zaq d s,(d,bk)::remM d m⟩:=by
 simp only [ZeA,Tar,List.all_eq_true,bne_iff_ne,ne_eq,Bool.not_eq_true'] at hf;refine ⟨fun p hp=>?_,fun p hp=>?_⟩
 ·have h1:=hf.1 p hp;have h2:=h.1 p hp;simp only [gs,h1.1,if_false];rw [ZeB _ _ _ (by rw [h2];exact h1.2)];exact h2
 ·have h1:=hf.2 p hp;simp only [gm,h1,if_false,ZaC];exact h.2 p hp
theorem Lks.pin (h:Lks sb mb ⟨s,m⟩) (hf:ZeA d sb mb=true) {a:Option Addr} {n cap:Nat}:Lks sb mb ⟨(d,α)::mapS (litB d a n cap) (Zaq d s),(d,bk)::remM d (remM d m)⟩:=by
 simp only [ZeA,Tar,List.all_eq_true,bne_iff_ne,ne_eq,Bool.not_eq_true'] at hf;refine ⟨fun p hp=>?_,fun p hp=>?_⟩
 ·have h1:=hf.1 p hp;have h2:=h.1 p hp;simp only [gs,h1.1,if_false];rw [Zjo rfl,ZeB _ _ _ (by rw [h2];exact h1.2),h2];exact ZwB h1.2
 ·have h1:=hf.2 p hp;simp only [gm,h1,if_false,ZaC];exact h.2 p hp
theorem Lks.slot (h:Lks sb mb ⟨s,m⟩) (hf:sb.all (fun p=>p.1 != d)=true):Lks sb mb ⟨(d,α)::s,m⟩:=by
 simp only [List.all_eq_true,bne_iff_ne,ne_eq] at hf;refine ⟨fun p hp=>?_,h.2⟩;simp only [gs,hf p hp,if_false];exact h.1 p hp
theorem Lks.own (h:Lks sb mb ⟨s,m⟩) (hf:mb.all (fun p=>p.1 != d)=true):Lks sb mb ⟨s,(d,bk)::remM d m⟩:=by
 simp only [List.all_eq_true,bne_iff_ne,ne_eq] at hf;refine ⟨h.1,fun p hp=>?_⟩;simp only [gm,hf p hp,if_false,ZaC];exact h.2 p hp
theorem Zlk:∀ {sb:List (Nat × A)} (t:Nat),(∀ p∈sb,gs σ.s p.1=p.2)->gs sb t=gs σ.s t∨gs sb t=.undef
 | [],t,_=>.inr rfl
 | (t',x)::r,t,h=>by
  simp only [gs];by_cases ht:t=t'
  ·have:=h (t',x) (by simp);rw [if_pos ht,ht];exact .inl this.symm
  ·rw [if_neg ht];exact Zlk t fun p hp=>h p (by simp [hp])
theorem Zll:∀ {mb:List (Nat × Bk)} (t:Nat) (bk:Bk),(∀ p∈mb,gm σ.m p.1=some p.2)->gm mb t=some bk->gm σ.m t=some bk
 | [],t,bk,_,h=>by simp [gm] at h
 | (t',x)::r,t,bk,h,hg=>by
  simp only [gm] at hg;by_cases ht:t=t'
  ·rw [if_pos ht] at hg;injection hg with hg
   have:=h (t',x) (by simp);rw [ht,this,hg]
  ·rw [if_neg ht] at hg;exact Zll t bk (fun p hp=>h p (by simp [hp])) hg
end
section
variable {e:Env} {mask:Nat} {Q:PX->St->Prop} {ds:List (Option Nat)}
theorem Zlm {os:List Oper} {σ:St} {K K':St->Prop} (h:Runs e ds 0 os σ K) (hk:∀ σ',K σ'->K' σ'):Runs e ds 0 os σ K':=by
 simp only [Runs] at h ⊢;exact fun he U w0 S0 nt a w ops Q hds hd hQ hs=>h he U w0 S0 nt a w ops Q hds hd (fun a w σ' k1 k2=>hQ a w σ' (hk σ' k1) k2) hs
def Zjw (l:List Oper):Bool:=(List.range l.length).all fun i=>match l[i]? with
 | none=>true
 | some o=>o.guard.isNone && o.after.toList.all fun e=>!Region.binds .any e || decide (e.on < i)
def Zep (o:Oper):List Nat:=(o.after.toList.filter fun e=>Region.binds .any e).map (·.on)
def ZbT (L:List Oper) (j:Nat):List Nat:=match L[j]? with
 | some o=>Zep o
 | none=>[]
def ZgA (e:Env) (ds:List (Option Nat)) (L:List Oper) (B:St->Prop) (P:Nat->St->Prop):Nat->List Oper->Prop
 | _,[]=>True
 | i,o::os=>(∀ s m,B ⟨s,m⟩->(∀ j∈Zep o,P j ⟨s,m⟩)->Runs e ds 0 [o] ⟨s,m⟩ (fun σ'=>B σ'∧P i σ'∧∀ j,j≠i->i ∉ ZbT L j->P j ⟨s,m⟩->P j σ'))∧ZgA e ds L B P (i+1) os
theorem ZgA.get {L:List Oper} {B:St->Prop} {P:Nat->St->Prop}:∀ {l:List Oper} {k i:Nat} {o:Oper},ZgA e ds L B P k l->l[i]?=some o->∀ s m,B ⟨s,m⟩->(∀ j∈Zep o,P j ⟨s,m⟩)->Runs e ds 0 [o] ⟨s,m⟩ (fun σ'=>B σ'∧P (k+i) σ'∧∀ j,j≠k+i->k+i ∉ ZbT L j->P j ⟨s,m⟩->P j σ')
 | [],k,i,o,_,h=>by simp at h
 | x::l,k,0,o,h,ho=>by
  simp only [Tat,Taq] at ho;subst ho;exact h.1
 | x::l,k,i+1,o,h,ho=>by
  have:=ZgA.get (l:=l) (k:=k+1) (i:=i) (o:=o) h.2 (by simpa using ho);rw [show k+1+i=k+(i+1) by omega] at this;exact this
theorem Zs3 {l:List Oper} {K B:St->Prop} {P:Nat->St->Prop} (hb:Zjw l=true) (hstep:ZgA e ds l B P 0 l) (hK:∀ s m,B ⟨s,m⟩->(∀ i,i < l.length->P i ⟨s,m⟩)->K ⟨s,m⟩) :
  ∀ (f:Nat) (listed:Array Bool) (σ:St),listed.size=l.length->(List.range l.length).countP (fun i=>!listed.getD i true)=f->B σ->(∀ j,listed.getD j false=true->P j σ∧∀ q∈ZbT l j,listed.getD q false=true)->ZdV e ds l.toArray K f listed σ:=by
 have hback:∀ i o,l[i]?=some o->o.guard=none∧∀ e∈o.after,Region.binds .any e=true->e.on < i:=fun i o ho=>by
  have h1:=List.all_eq_true.1 hb i (List.mem_range.2 (Tad.1 ho).1);rw [ho] at h1;simp only [Tar,Option.isNone_iff_eq_none,List.all_eq_true,Bool.or_eq_true,Bool.not_eq_true',decide_eq_true_eq] at h1;refine ⟨h1.1,fun e he hbe=>?_⟩;rcases h1.2 e (Array.mem_toList_iff.2 he) with h2 | h2
  ·rw [hbe] at h2;cases h2
  ·exact h2
 have hfirst:∀ (listed:Array Bool),listed.size=l.length->Region.ready .any l.toArray listed=[]->∀ i,i < l.length->listed.getD i false=true:=fun listed hsz h0 i=>by
  induction i using Nat.strongRecOn with
  | _ i ih =>
   intro hi;rw [<- Zbf (by omega:i < listed.size)]
   cases hun:listed.getD i true with
   | true=>rfl
   | false =>
   obtain ⟨o,ho⟩:∃ o,l[i]?=some o:=⟨_,Taa hi⟩;have:=(mem_ready (ops:=l.toArray) (md:=.any)).2 ⟨hun,o,by simpa using ho,fun e he hbe=>ih e.on ((hback i o ho).2 e he hbe) (by have:=(hback i o ho).2 e he hbe;omega)⟩;rw [h0] at this
   cases this
 intro f
 induction f with
 | zero =>
  intro listed σ hsz hc hB hP;have hall:∀ i,i < l.length->listed.getD i true=true:=fun i hi=>by
   have:=List.countP_eq_zero.1 hc i (List.mem_range.2 hi);simpa using this
  refine ⟨?_,hK σ.s σ.m hB fun i hi=>(hP i (by rw [<- Zbf om];exact hall i hi)).1⟩
  cases hr:Region.ready .any l.toArray listed with
  | nil=>rfl
  | cons i r =>
   have hi:i∈Region.ready .any l.toArray listed:=by rw [hr];simp
   obtain ⟨hun,oi,hoi,_⟩:=mem_ready.1 hi;have hil:i < l.length:=by
    have:=(Tbl.1 hoi).1;simpa using this
   rw [hall i hil] at hun
   cases hun
 | succ f ih =>
  intro listed σ hsz hc hB hP;refine ⟨fun h0=>hK σ.s σ.m hB fun i hi=>(hP i (hfirst listed hsz h0 i hi)).1,fun i hi=>?_⟩;obtain ⟨hun,o,hoi,hall⟩:=mem_ready.1 hi;have ho:l[i]?=some o:=by simpa using hoi
  have hil:i < l.length:=(Tad.1 ho).1;have hls:i < listed.size:=om;refine ⟨o,hoi,(hback i o ho).1,Zdt (hback i o ho).1 ?_⟩;have h1:=ZgA.get hstep ho σ.s σ.m hB fun j hj=>by
   simp only [Zep,Tbi,List.mem_filter] at hj;obtain ⟨e,⟨he,hbe⟩,rfl⟩:=hj;exact (hP e.on (hall e (Array.mem_toList_iff.1 he) hbe)).1
  rw [Nat.zero_add] at h1;refine Zlm h1 fun σ' ⟨k1,k2,k3⟩=>ih _ σ' (by simpa using hsz) ?_ k1 fun j hj=>?_
  ·have h1:(List.range l.length).countP (fun j=>!(listed.setIfInBounds i true).getD j true)+1=(List.range l.length).countP (fun j=>!listed.getD j true):=by
    have hperm:=List.perm_cons_erase (List.mem_range.2 hil);rw [hperm.countP_eq,hperm.countP_eq,List.countP_cons,List.countP_cons];have hcong:((List.range l.length).erase i).countP (fun j=>!(listed.setIfInBounds i true).getD j true)=((List.range l.length).erase i).countP (fun j=>!listed.getD j true):=by
     refine List.countP_congr fun j hj=>?_;have hne:j≠i:=fun e=>by
      subst e;exact List.Nodup.not_mem_erase (List.nodup_range) hj
     rw [getD_set_ne true (Ne.symm hne)]
    rw [hcong,hun];simp [hls]
   omega
  ·by_cases hji:j=i
   ·subst hji;refine ⟨k2,fun q hq=>?_⟩;have hda:ZbT l j=Zep o:=by unfold ZbT;rw [ho]
    rw [hda] at hq;simp only [Zep,Tbi,List.mem_filter] at hq;obtain ⟨e,⟨he,hbe⟩,rfl⟩:=hq;have hlt:=(hback j o ho).2 e (Array.mem_toList_iff.1 he) hbe;rw [getD_set_ne false om];exact hall e (Array.mem_toList_iff.1 he) hbe
   ·rw [getD_set_ne false (Ne.symm hji)] at hj;obtain ⟨p1,p2⟩:=hP j hj;have hni:i ∉ ZbT l j:=fun hm=>by
     have h2:=p2 i hm;rw [<- Zbf hls,hun] at h2
     cases h2
    refine ⟨k3 j hji hni p1,fun q hq=>?_⟩;by_cases hqi:q=i
    ·subst hqi;exact absurd hq hni
    ·rw [getD_set_ne false (Ne.symm hqi)];exact p2 q hq
theorem gGd {id:Nat} {l:List Oper} {s:List (Nat × A)} {m:List (Nat × Bk)} (B:St->Prop) (P:Nat->St->Prop) (hB:B ⟨s,m⟩) (hS:ZgA e (l.map (·.dst)) l B P 0 l) (hK:∀ s' m',B ⟨s',m'⟩->(∀ i,i < l.length->P i ⟨s',m'⟩)->∃ sf mf,Lks sf mf ⟨s',m'⟩∧Q .normal ⟨sf,mf⟩)
  (hb:Zjw l=true:=by decide +kernel) (hT:regT l.toArray 0=true:=by decide +kernel):pwp e mask (.region id l.toArray true) ⟨s,m⟩ Q:=fun he U w0 S0 nt a w hok hs=>by
 refine Zkq he hT (K:=fun σ'=>∃ sf mf,Lks sf mf σ'∧Q .normal ⟨sf,mf⟩) (fun a w σ' ⟨sf,mf,h1,h2⟩ h3=>⟨⟨sf,mf⟩,h2,h3.weak (fun t=>Zlk t h1.1) (fun t bk=>Zll t bk h1.2)⟩) (Zlc hok) hs ?_;simp only [List.take_zero,Runs]
 have:=Zs3 (K:=fun σ'=>∃ sf mf,Lks sf mf σ'∧Q .normal ⟨sf,mf⟩) hb hS hK l.length (Zbp l.length 0) ⟨s,m⟩ (by simp [Zbp]) (by
  rw [List.countP_eq_length.2]
  ·simp
  ·intro i hi;have hi':=List.mem_range.1 hi;simp [Zbp,hi']) hB (fun j hj=>by
   have h0:(Zbp l.length 0).getD j false=false:=by
    by_cases hjl:j < l.length
    ·simp [Zbp,hjl]
    ·simp [Zbp,hjl]
   rw [h0] at hj
   cases hj)
 simpa using this
def PG {X:Type} (S:X->Nat->List (Nat × A)) (M:X->Nat->List (Nat × Bk)) (i:Nat) (σ:St):Prop:=∃ x,Lks (S x i) (M x i) σ
section
variable {X:Type} {S:X->Nat->List (Nat × A)} {M:X->Nat->List (Nat × Bk)} {d i:Nat} {L:List Oper} {s:List (Nat × A)} {m:List (Nat × Bk)} {α:A} {bk:Bk}
theorem PG.slot (hf:∀ j,j≠i->i ∉ ZbT L j->∀ x,(S x j).all (fun p=>p.1 != d)=true):∀ j,j≠i->i ∉ ZbT L j->PG S M j ⟨s,m⟩->PG S M j ⟨(d,α)::s,m⟩:=fun j h1 h2 ⟨x,h⟩=>⟨x,h.slot (hf j h1 h2 x)⟩
theorem PG.born (hf:∀ j,j≠i->i ∉ ZbT L j->∀ x,ZeA d (S x j) (M x j)=true):∀ j,j≠i->i ∉ ZbT L j->PG S M j ⟨s,m⟩->PG S M j ⟨(d,α)::Zaq d s,(d,bk)::remM d m⟩:=fun j h1 h2 ⟨x,h⟩=>⟨x,h.born (hf j h1 h2 x)⟩
theorem PG.pin (hf:∀ j,j≠i->i ∉ ZbT L j->∀ x,ZeA d (S x j) (M x j)=true) {a:Option Addr} {n cap:Nat}:∀ j,j≠i->i ∉ ZbT L j->PG S M j ⟨s,m⟩->PG S M j ⟨(d,α)::mapS (litB d a n cap) (Zaq d s),(d,bk)::remM d (remM d m)⟩:=fun j h1 h2 ⟨x,h⟩=>⟨x,h.pin (hf j h1 h2 x)⟩
end
end
theorem Zs4 {e:Env} {σ:St} {k k' ety ety' sz sz' cap cap':Nat} {ad ad':Option Addr} {rows rows':List (List C)} (hne:k≠k') (h:gm σ.m k=some (.buf (some (ad,cap)) ety sz rows)) (h':gm σ.m k'=some (.buf (some (ad',cap')) ety' sz' rows')) (hr:0 < rows.length) (hr':0 < rows'.length):Turn e σ (fun σ'=>σ'=σ∧ad≠ad'):=fun he U w0 S0 nt act w hs=>by
 refine ⟨σ,⟨rfl,fun e=>?_⟩,hs⟩;obtain ⟨S,L,h1⟩:=hs;have key:∀ {k ety sz cap:Nat} {ad:Option Addr} {rows:List (List C)},gm σ.m k=some (.buf (some (ad,cap)) ety sz rows)->0 < rows.length->∃ g,vblk (L.v k)=some g∧ad=some ⟨g,0,none⟩:=fun {k ety sz cap ad rows} h hr=>by
  obtain ⟨o1,o2⟩:=h1.cls.own k _ h;have o1:=o1 _ rfl;rcases o2.2.2 with ⟨h3,_⟩ | ⟨g,cap2,cur,hv,hc,_⟩
  ·rw [h3] at hr;simp at hr
  ·refine ⟨g,by rw [hv];simp [vblk];omega,?_⟩;rw [o1] at hv;injection hv with hv _ _
 obtain ⟨g,v1,e1⟩:=key h hr;obtain ⟨g',v2,e2⟩:=key h' hr';rw [e1,e2] at e;injection e with e
 injection e with e _ _
 rw [<- e] at v2;exact hne (h1.cls.inj k k' _ _ g h h' v1 v2)
theorem pA {e:Env} {mask:Nat} {Q:PX->St->Prop} {c:Code} {s:List (Nat × A)} {m:List (Nat × Bk)} {ety ety' sz sz' cap cap':Nat} {ad ad':Option Addr} {rows rows':List (List C)} (k k':Nat) (hK:ad≠ad'->pwp e mask c ⟨s,m⟩ Q) (hr:0 < rows.length) (hr':0 < rows'.length) (hne:k≠k':=by decide) (h:gm m k=some (.buf (some (ad,cap)) ety sz rows):=by exact snv) (h':gm m k'=some (.buf (some (ad',cap')) ety' sz' rows'):=by exact snv):pwp e mask c ⟨s,m⟩ Q :=
 Zcc (Zs4 hne h h' hr hr') fun σ' ⟨hσ,ha⟩=>by subst hσ;exact hK ha
def ordS (s:Srt) (f:(Nat->Option Addr × Nat) × C × C × C):Nat->List (Nat × A)
 | 0=>[(20,.d (.agg (Za9 s)))]
 | 1=>[(21,.d (.one (.sl (nR (up s)))))]
 | 2=>[(22,.d (.one (.lit (.int .i64 s.names.length))))]
 | 3=>[(23,.d (.one (.lit (.slice (f.1 23).1 s.names.length (f.1 23).2))))]
 | 4=>[(24,.d (.one (.lit (.int .i64 s.names.length))))]
 | 5=>[(25,.d (.one (.lit (.slice (f.1 25).1 s.names.length (f.1 25).2))))]
 | 6=>[(26,.d (.agg [.sl (nR (up s)),.lit (.slice (f.1 23).1 s.names.length (f.1 23).2),.lit (.slice (f.1 25).1 s.names.length (f.1 25).2)]))]
 | 7=>[(5,.ref 5 0)]
 | 8=>[(5,.ref 5 0)]
 | _=>[]
def ordM (s:Srt) (f:(Nat->Option Addr × Nat) × C × C × C):Nat->List (Nat × Bk)
 | 3=>[(23,.buf (some (f.1 23)) 3 1 (nR (List.replicate s.names.length 0)))]
 | 5=>[(25,.buf (some (f.1 25)) 3 1 (nR (List.replicate s.names.length 0)))]
 | 6=>[(23,.buf (some (f.1 23)) 3 1 (nR (List.replicate s.names.length 0))),(25,.buf (some (f.1 25)) 3 1 (nR (List.replicate s.names.length 0)))]
 | 7=>[(5,.var none [f.2.1,f.2.2.1,f.2.2.2])]
 | 8=>[(5,.var none [.sl (nR (up s)),.lit (.slice (f.1 23).1 s.names.length (f.1 23).2),.lit (.slice (f.1 25).1 s.names.length (f.1 25).2)]),(23,.buf (some (f.1 23)) 3 1 (nR (List.replicate s.names.length 0))),(25,.buf (some (f.1 25)) 3 1 (nR (List.replicate s.names.length 0)))]
 | _=>[]
theorem ZBR:(∀ (u l:List Nat),downs u 0 l=l)∧∀ n,ZdU n 0=List.replicate n 0:=⟨fun _ _=>rfl,fun n=>by simp [ZdU]⟩
theorem ZBl (i:Nat) (l:List Nat):downIn i l []=l:=rfl
theorem ZwC {ks:List Nat} {j k:Nat} (h:ks[j]?=some k) (i:Nat) (l:List Nat):downIn i l (ks.take (j+1))=(downIn i l (ks.take j)).set k ((downIn i l (ks.take j)).getD k 0 ||| 2 ^ i):=Zh1 h l
def Zln (s:Srt):List (Nat × A):=[(1,.ref 1 0),(2,.ref 2 0),(3,.d (.one (.lit (.bool false)))),(4,.d (.one (.lit (.int .i64 s.names.length))))]
def Zn4 (s:Srt):List (Nat × Bk):=[(1,.var none (Za9 s)),(2,.var none [.sl [],.sl [],.sl []])]
def ordB (s:Srt) (σ:St):Prop:=Lks (Zln s) (Zn4 s) σ
section
variable {s:Srt}
theorem Zkt (hok:Zk8 s) (hs:¬ SortsOk s):Con e0 54 [.agg (Za9 s)] [.agg [.sl [],.sl [],.sl []],.one (.lit (.bool false))]:=by
 have cI:=Zis hok;rw [ZfV hs,Za9] at cI;rw [Za9];refine gI (ts:=[.cell 2 91,.slot 3]) 569543224310601128703 Tryz.func54 ?_;refine fB @e0P ?_;refine fC @e0P (cI) ?_;refine fR @e0P ?_;exact fD @e0P
theorem ZiO (hok:Zk8 s) (hs:SortsOk s):Con e0 54 [.agg (Za9 s)] [.agg (Zd5 s),.one (.lit (.bool true))]:=by
 have cI:=Zis hok;have hSI:=SortsOk.subsIn hs.subs;have cA:=Zir hs.n1 hs.n8 hs.m16 hSI;rw [ZeX hs] at cI;rw [Za9] at cI ⊢;refine gI (ts:=[.cell 2 91,.slot 3]) 569543224310601128703 Tryz.func54 ?_;refine fB @e0P ?_;refine fC @e0P (cI) ?_;refine fR @e0P ?_;refine fN 4 @e0P ?_;have hmx:((s.names.length:Int)<=(maxApp:Int))=True:=eq_true (by have:=hs.n8;unfold maxApp;omega);refine gGd (ordB s) (PG (ordS s) (ordM s)) ⟨by simp [Zln,gs],by simp [Zn4,gm,Za9]⟩ ⟨?_,?_,?_,?_,?_,?_,?_,?_,?_,trivial⟩ ?_
 rotate_right
 all_goals (intro s' m' hB)
 all_goals (have g1:gs s' 1=.ref 1 0:=hB.1 (1,.ref 1 0) (by simp [Zln]))
 all_goals (have g4:gs s' 4=.d (.one (.lit (.int .i64 s.names.length))):=hB.1 (4,_) (by simp [Zln]))
 all_goals (have k1:gm m' 1=some (.var none [.sl (s.names.map ZbR),.sl (s.subs.map ZbS)]):=hB.2 (1,_) (by simp [Zn4,Za9]))
 ·intro hP;clear g1 g4 k1;obtain ⟨f,h⟩:=hP 8 (by decide);refine ⟨_,_,h.app hB,?_⟩;generalize hp:f.1 23=p;generalize hq:f.1 25=q;obtain ⟨a3,c3⟩:=p;obtain ⟨a5,c5⟩:=q;simp only [ordS,ordM,Zln,Zn4,Taf,Tah,Za9,hp,hq];clear hp hq h hB hP s' m' f;refine ⟨_,Wk.refl _,?_⟩;have hU:=Zft hSI;have lU:=ZaR (l:=up s);rw [hU.1] at lU;have h8:=hs.n8;have rU:=ZaL (l:=up s);refine fN 5 @e0P ?_;have hn1:=hs.n1;have l00:0 < (nR (List.replicate s.names.length 0)).length:=by rw [ZaR,List.length_replicate];omega
  refine pA 23 25 (fun hne=>?_) l00 l00;have hn5:∀ p,(a5=a3∧p)=False:=fun p=>eq_false fun e=>hne e.1.symm;refine fG @lU ?_;have F:=@ZBR;refine gL (ι:=Nat) [6,7,9,30,31,36,37,38,39] [23,25] (fun i=>[(30,A.d (.one (.lit (.int .i64 i))))]) (fun i=>[(23,.buf (some (a3,c3)) 3 1 (nR (downs (up s) i (List.replicate s.names.length 0)))),(25,.buf (some (a5,c5)) 3 1 (nR (ZdU s.names.length i)))]) (fun i=>i<=s.names.length) (fun i=>s.names.length - i) (0) (Taj _) (fun i hi=>?_);clear F
  have hDi:=UpOk.downs hU i (l:=List.replicate s.names.length 0) hi (UpOk.zeros _);have lK:=ZaR (l:=ZdU s.names.length i);rw [ZmO hi] at lK;by_cases hlt:i < s.names.length
  ·have q1:(i:Int) < (s.names.length:Int):=om;have hw:=Zat (k:=i) om;obtain ⟨gi,bi⟩:=hU.get hlt;have r1:=ZaQ gi;have p256:2 ^ s.names.length<=256:=Tbe (Tbs om h8) (by decide);have cL:=Zs1 (a:=(up s).getD i 0) om;have hdn:downs (up s) (i+1) (List.replicate s.names.length 0)=downIn i (downs (up s) i (List.replicate s.names.length 0)) (Zen ((up s).getD i 0)):=rfl;have hks:=ZmN bi;have lks:=ZaR (l:=Zen ((up s).getD i 0))
   have rks:=ZaL (l:=Zen ((up s).getD i 0));have hks16:(Zen ((up s).getD i 0)).length<=64:=Tbe (Zla _ _) (by decide);have hsh:=Zf6 (k:=i) om;refine fB (aj4 @q1 @lU @r1 @rU) ?_;refine fC @e0P (cL) ?_;refine fR @lks ?_;generalize Zen ((up s).getD i 0)=ks at hdn hks lks rks hks16 ⊢;generalize downs (up s) i (List.replicate s.names.length 0)=l at hdn hDi ⊢;refine fG @lks ?_;have F:=@ZBl;refine gL (ι:=Nat) [9,38,39] [23] (fun j=>[(38,A.d (.one (.lit (.int .i64 j))))]) (fun j=>[(23,.buf (some (a3,c3)) 3 1 (nR (downIn i l (ks.take j))))]) (fun j=>j<=ks.length) (fun j=>ks.length - j) (0) (Taj _) (fun j hj=>?_);clear F
   by_cases hlj:j < ks.length
   ·have q2:(j:Int) < (ks.length:Int):=om;have hwj:=Zat (k:=j) om;obtain ⟨k,hk⟩:∃ k,ks[j]?=some k:=⟨_,Taa hlj⟩;have hkn:=hks k (Tac hk);have r2:=ZaQ hk;have hst:=ZwC hk i l;have hV:=UpOk.downIn hlt hDi (ks:=ks.take j) fun q hq=>hks q (List.mem_of_mem_take hq);generalize downIn i l (ks.take j)=v at hst hV ⊢;obtain ⟨gk,bk⟩:=hV.get hkn;have r3:=ZaQ gk;have l3:=ZaR (l:=v);rw [hV.1] at l3;have l4:=ZaL (l:=v)
    have l5:=ZcG (l:=v) k (v.getD k 0 ||| 2 ^ i);have p2:2 ^ i < 4611686018427387904:=Zgt om;have hor:=Zds (a:=v.getD k 0) (b:=2 ^ i) om p2;have F:=aj14 @q2 @r2 @rks @lks @r3 @l3 @l4 @l5 @hsh @hor @hkn @Zar @hwj @hst;refine gG ?_;exact ⟨j+1,hlj,gw,gw,om⟩
   obtain rfl:j=ks.length:=by omega
   have q2:¬ ((ks.length:Int) < (ks.length:Int)):=om;rw [Tap,<- hdn];have l6:=ZaL (l:=ZdU s.names.length i);have l7:=ZcG (l:=ZdU s.names.length i) i i;rw [Zwr hlt] at l7;obtain ⟨y,gy⟩:∃ y,(ZdU s.names.length i)[i]?=some y:=⟨_,Taa (by rw [ZmO hi];exact hlt)⟩;have r5:=ZaQ gy;have F:=aj9 @q2 @hn5 @lK @l6 @l7 @r5 @hlt @hw @Zar;refine gG ?_;exact ⟨i+1,hlt,gw,gw,om⟩
  obtain rfl:i=s.names.length:=by omega
  have q1:¬ ((s.names.length:Int) < (s.names.length:Int)):=om;rw [Zws,show downs (up s) s.names.length (List.replicate s.names.length 0)=down s from rfl];clear hDi lK;have hK:=KOk.start s.names.length;refine fG @q1 ?_;have F:=@Zsb;refine gL (ι:=Nat) [11,12,62,63,65,66,67,68] [25] (fun j=>[(62,A.d (.one (.lit (.int .i64 j))))]) (fun j=>[(25,.buf (some (a5,c5)) 3 1 (nR (ZdG s.subs j (List.range s.names.length))))]) (fun j=>j<=s.names.length) (fun j=>s.names.length - j) (0) (Taj _) (fun j hj=>?_);clear F
  have hKj:=KOk.iter hSI j hK;have l0:=ZaR (l:=ZdG s.subs j (List.range s.names.length));rw [hKj.1] at l0;by_cases hlj:j < s.names.length;rotate_left
  ·obtain rfl:j=s.names.length:=by omega
   have q2:¬ ((s.names.length:Int) < (s.names.length:Int)):=om;rw [show ZdG s.subs s.names.length (List.range s.names.length)=kinds s from rfl];refine fN 25 @q2 ?_;have lD:=ZaR (l:=down s);rw [(ZAw hSI).1] at lD;have lK:=ZaR (l:=kinds s);rw [(Zh2 hSI).1] at lK;refine pD 23 [] [5] ?_ (hr:=by simp only [pz,↓reduceIte,Nat.reduceEqDiff,Nat.reduceAdd,Nat.reduceSub,Nat.reduceMul,Nat.reduceLeDiff,Nat.reduceBEq,Tam,decide_true,decide_false,Int.reduceLE,Int.reduceToNat,Int.reduceLT,Int.reduceEq,eq_self,Nat.reduceShiftRight,Nat.reduceAnd,Nat.reduceBneDiff,lD,hn5,if_false];exact rfl)
   refine pD 25 [] [5] ?_ (hr:=by simp only [pz,↓reduceIte,Nat.reduceEqDiff,Nat.reduceAdd,Nat.reduceSub,Nat.reduceMul,Nat.reduceLeDiff,Nat.reduceBEq,Tam,decide_true,decide_false,Int.reduceLE,Int.reduceToNat,Int.reduceLT,Int.reduceEq,eq_self,Nat.reduceShiftRight,Nat.reduceAnd,Nat.reduceBneDiff,lK,hn5,if_false];exact rfl);exact fD @Zh3
  have q2:(j:Int) < (s.names.length:Int):=om;have hwj:=Zat (k:=j) om;have hnx:ZdG s.subs (j+1) (List.range s.names.length)=s.subs.foldl kSub (ZdG s.subs j (List.range s.names.length)):=rfl;generalize ZdG s.subs j (List.range s.names.length)=u at hKj hnx l0 ⊢;refine fG (ai @l0 @q2) ?_;have hm16:=hs.m16;have F:=@Zww;refine gL (ι:=Nat) [11,12,67,68] [25] (fun i=>[(67,A.d (.one (.lit (.int .i64 i))))]) (fun i=>[(25,.buf (some (a5,c5)) 3 1 (nR ((s.subs.take i).foldl kSub u)))]) (fun i=>i<=s.subs.length) (fun i=>s.subs.length - i) (0) (Taj _) (fun i hi=>?_);clear F
  by_cases hli:i < s.subs.length;rotate_left
  ·obtain rfl:i=s.subs.length:=by omega
   have q3:¬ ((s.subs.length:Int) < (s.subs.length:Int)):=om;rw [Tap,<- hnx];have F:=ai @q3 @hwj;refine gG ?_;exact ⟨j+1,hlj,gw,gw,om⟩
  have q3:(i:Int) < (s.subs.length:Int):=om;have hwi:=Zat (k:=i) om;obtain ⟨p,hp⟩:∃ p,s.subs[i]?=some p:=⟨_,Taa hli⟩;have hps:=hSI p (Tac hp);have hst:=ZmR hp u;have hUi:=KOk.foldl hKj (hSI.take i);generalize (s.subs.take i).foldl kSub u=v at hUi hst ⊢;obtain ⟨g1,b1⟩:=hUi.get (i:=p.1.toNat) om;obtain ⟨g2,b2⟩:=hUi.get (i:=p.2.toNat) om;have l1:=ZaQ g1;have l2:=ZaQ g2;have l3:=ZaR (l:=v);rw [hUi.1] at l3
  have l4:=ZaL (l:=v);have hmin:(if (v.getD p.2.toNat 0:Int) < (v.getD p.1.toNat 0:Int) then (v.getD p.2.toNat 0:Int) else (v.getD p.1.toNat 0:Int))=((min (v.getD p.1.toNat 0) (v.getD p.2.toNat 0):Nat):Int):=by
   split <;> omega
  generalize hmn:min (v.getD p.1.toNat 0) (v.getD p.2.toNat 0)=mn at hmin hst;have l5:=ZcG (l:=v) p.1.toNat mn;have l6:=ZcG (l:=v.set p.1.toNat mn) p.2.toNat mn;have l7:=ZaR (l:=v.set p.1.toNat mn);rw [Taz,hUi.1] at l7;have l8:=ZaL (l:=v.set p.1.toNat mn);obtain ⟨x9,g9⟩:∃ x,(v.set p.1.toNat mn)[p.2.toNat]?=some x:=⟨_,Taa (by rw [Taz,hUi.1];omega)⟩;have l9:=ZaQ g9;have i1:0<=p.1:=hps.1;have i2:0<=p.2:=hps.2.2.1
  have i3:p.1.toNat < s.names.length:=om;have i4:p.2.toNat < s.names.length:=om;have hst:(s.subs.take (i+1)).foldl kSub u=(v.set p.1.toNat mn).set p.2.toNat mn:=by rw [hst];unfold kSub;rw [hmn]
  have F:=aj16 @q3 @hp @Zck @hn5 @l1 @l2 @l3 @l4 @l5 @l6 @l7 @l8 @l9 @i1 @i2 (aj5 @i3 @i4 @hmin @hwi @hst);refine gG ?_;exact ⟨i+1,hli,gw,gw,om⟩
 ·intro _;refine (have F:=ai g1 k1;gO3 ?_);exact ⟨hB.slot rfl,⟨(fun _=>(none,0),.sl [],.sl [],.sl []),by simp [ordS,gs,Za9],by simp [ordM]⟩,PG.slot (by intro j h1 h2 x;rcases j with _ | _ | _ | _ | _ | _ | _ | _ | _ | j <;> first | rfl | exact absurd rfl h1 | exact absurd (by decide) h2)⟩
 ·intro hP;obtain ⟨f,h0,_⟩:=hP 0 (by decide);have g20:gs s' 20=.d (.agg (Za9 s)):=h0 (_,_) (by simp [ordS]);refine (have F:=g20;gC cA ?_);refine Zdk ?_;exact ⟨hB.slot rfl,⟨(fun _=>(none,0),.sl [],.sl [],.sl []),by simp [ordS,gs],by simp [ordM]⟩,PG.slot (by intro j h1 h2 x;rcases j with _ | _ | _ | _ | _ | _ | _ | _ | _ | j <;> first | rfl | exact absurd rfl h1 | exact absurd (by decide) h2)⟩
 ·intro _;refine (have F:=g4;gO3 ?_);exact ⟨hB.slot rfl,⟨(fun _=>(none,0),.sl [],.sl [],.sl []),by simp [ordS,gs],by simp [ordM]⟩,PG.slot (by intro j h1 h2 x;rcases j with _ | _ | _ | _ | _ | _ | _ | _ | _ | j <;> first | rfl | exact absurd rfl h1 | exact absurd (by decide) h2)⟩
 ·intro hP;obtain ⟨f,h0,_⟩:=hP 2 (by decide);have g22:gs s' 22=.d (.one (.lit (.int .i64 s.names.length))):=h0 (_,_) (by simp [ordS]);refine (have F:=aj4 g22 hmx @Tbw @Zmi;gP 1 ?_);refine gS 23 fun a cap=>?_;refine Zdk ?_;exact ⟨hB.pin rfl,⟨(fun _=>(a,cap),.sl [],.sl [],.sl []),by simp [ordS,gs],by simp [ordM,gm,nR_0]⟩,PG.pin (by intro j h1 h2 x;rcases j with _ | _ | _ | _ | _ | _ | _ | _ | _ | j <;> first | rfl | exact absurd rfl h1 | exact absurd (by decide) h2)⟩
 ·intro _;refine (have F:=g4;gO3 ?_);exact ⟨hB.slot rfl,⟨(fun _=>(none,0),.sl [],.sl [],.sl []),by simp [ordS,gs],by simp [ordM]⟩,PG.slot (by intro j h1 h2 x;rcases j with _ | _ | _ | _ | _ | _ | _ | _ | _ | j <;> first | rfl | exact absurd rfl h1 | exact absurd (by decide) h2)⟩
 ·intro hP;obtain ⟨f,h0,_⟩:=hP 4 (by decide);have g24:gs s' 24=.d (.one (.lit (.int .i64 s.names.length))):=h0 (_,_) (by simp [ordS]);refine (have F:=aj4 g24 hmx @Tbw @Zmi;gP 1 ?_);refine gS 25 fun a cap=>?_;refine Zdk ?_;exact ⟨hB.pin rfl,⟨(fun _=>(a,cap),.sl [],.sl [],.sl []),by simp [ordS,gs],by simp [ordM,gm,nR_0]⟩,PG.pin (by intro j h1 h2 x;rcases j with _ | _ | _ | _ | _ | _ | _ | _ | _ | j <;> first | rfl | exact absurd rfl h1 | exact absurd (by decide) h2)⟩
 ·intro hP;obtain ⟨f1,h1,_⟩:=hP 1 (by decide);obtain ⟨f3,h3,h3'⟩:=hP 3 (by decide);obtain ⟨f5,h5,h5'⟩:=hP 5 (by decide);have g21:gs s' 21=.d (.one (.sl (nR (up s)))):=h1 (_,_) (by simp [ordS]);have g23:gs s' 23=.d (.one (.lit (.slice (f3.1 23).1 s.names.length (f3.1 23).2))):=h3 (_,_) (by simp [ordS]);have g25:gs s' 25=.d (.one (.lit (.slice (f5.1 25).1 s.names.length (f5.1 25).2))):=h5 (_,_) (by simp [ordS])
  have k23:=h3' (23,_) (by simp [ordM];rfl);have k25:=h5' (25,_) (by simp [ordM];rfl);refine (have F:=aj3 g21 g23 g25;gO3 ?_);exact ⟨hB.slot rfl,⟨(fun k=>if k=23 then f3.1 23 else f5.1 25,.sl [],.sl [],.sl []),by simp [ordS,gs],by simp [ordM];exact ⟨k23,k25⟩⟩,PG.slot (by intro j h1 h2 x;rcases j with _ | _ | _ | _ | _ | _ | _ | _ | _ | j <;> first | rfl | exact absurd rfl h1 | exact absurd (by decide) h2)⟩
 ·intro _;refine (have F:=g4;gO3 ?_);exact ⟨hB.born rfl,⟨(fun _=>(none,0),.sl [],.sl [],.sl []),by simp [ordS,gs],by simp [ordM,gm]⟩,PG.born (by intro j h1 h2 x;rcases j with _ | _ | _ | _ | _ | _ | _ | _ | _ | j <;> first | rfl | exact absurd rfl h1 | exact absurd (by decide) h2)⟩
 ·intro hP;obtain ⟨f6,h6,h6'⟩:=hP 6 (by decide);obtain ⟨f7,h7,h7'⟩:=hP 7 (by decide);have g26:gs s' 26=.d (.agg [.sl (nR (up s)),.lit (.slice (f6.1 23).1 s.names.length (f6.1 23).2),.lit (.slice (f6.1 25).1 s.names.length (f6.1 25).2)]):=h6 (_,_) (by simp [ordS]);have g5:gs s' 5=.ref 5 0:=h7 (_,_) (by simp [ordS]);have k5:gm m' 5=some (.var none [f7.2.1,f7.2.2.1,f7.2.2.2]):=h7' (_,_) (by simp [ordM])
  have k23:=h6' (23,_) (by simp [ordM];rfl);have k25:=h6' (25,_) (by simp [ordM];rfl);refine (have F:=aj3 g26 g5 k5;gO3 ?_);refine ⟨hB.own rfl,⟨f6,by simp [ordS,g5],by simp [ordM,gm,ZaC];exact ⟨k23,k25⟩⟩,?_⟩;intro j q1 q2 ⟨x,q⟩;rcases j with _ | _ | _ | _ | _ | _ | _ | _ | _ | j
  all_goals first
   | exact ⟨x,q.own rfl⟩
   | exact absurd rfl q1
   | exact ⟨(fun _=>(none,0),.sl (nR (up s)),.lit (.slice (f6.1 23).1 s.names.length (f6.1 23).2),.lit (.slice (f6.1 25).1 s.names.length (f6.1 25).2)),by simp [ordS,g5],by simp [ordM,gm]⟩
end
section
variable {g:Sgn}
theorem Zqg {k:Nat} {o:Opr} (h:g.ops[k]?=some o):Zdp (Zbz (g.ops.take k))++[(o.name,.bool true)]=Zdp (Zbz (g.ops.take (k+1))):=by
 rw [ZiM h,Zdp,Zdp,Tbv];rfl
theorem Zqh {l:List Opr} {i k m:Nat} (h:i=k+m) {s:ByteArray} (hs:Zbe (Zbz (l.take k)) s=true):Zbe (Zbz (l.take i)) s=true:=by
 subst h;rw [List.take_add,Zbz,Tbv];unfold Zbe at hs ⊢;rw [List.any_append];rw [Zbz] at hs;rw [hs,Bool.true_or]
theorem Zye (l:List Opr):Zdp (Zbz (l.take 0))=[]∧Zdp (Zbz [])=[]:=⟨rfl,rfl⟩
theorem ZjZ (hg:ZbY g):Con e0 53 [.agg (Zak g)] [.one (.lit (.bool (Zbn g)))]:=by
 have hno:¬ SgnOk g->Zbn g=false:=Zhd;rw [Zak];refine gI 9358620764179268287 Tryz.func53 ?_;by_cases hs:SortsOk g.sorts;rotate_left
 ·have cO:=Zkt hg.1 hs;have hf:=hno fun h=>hs h.sorts;rw [Za9] at cO;refine fB @e0P ?_;refine fC @e0P (cO) ?_;refine fR @e0P ?_;exact fT @hf
 have cO:=ZiO hg.1 hs;rw [Za9] at cO;refine fB @e0P ?_;refine fC @e0P (cO) ?_;refine fR @Zh3 ?_;by_cases h14:g.ops.length<=14;rotate_left
 ·have z1:=lT 14 g.ops.length;have hf:=hno fun h=>h14 h.len;exact fT (ai @z1 @hf)
 have z1:=lF 14 g.ops.length;refine fN 4 @z1 ?_;refine gB ?_;refine gMk fun b=>?_;refine fR @e0P ?_;refine fG @e0P ?_;have F:=((Zye g.ops));refine gL (ι:=Nat) [2,7,28,29,47] [24] (fun i=>[(28,A.d (.one (.lit (.int .i64 i))))]) (fun i=>[(24,mapB b (Zdp (Zbz (g.ops.take i))))]) (fun i=>i<=g.ops.length∧(∀ (j:Nat) (o:Opr),j < i->g.ops[j]?=some o->Zba o.name=true∧Zbe (Zbz (g.ops.take j)) o.name=false)∧(∀ o∈g.ops.take i,DeclsOk g.sorts o)) (fun i=>g.ops.length - i) (0) (⟨Taj _,fun j o h=>absurd h om,fun o h=>by simp at h⟩) (fun i hi=>?_);clear F
 obtain ⟨hil,hnm,hdc⟩:=hi;by_cases hlt:i < g.ops.length
 ·have q1:(i:Int) < (g.ops.length:Int):=om;obtain ⟨o,ho⟩:∃ o,g.ops[i]?=some o:=⟨_,Taa hlt⟩;have hom:=Tac ho;have hw:=Zat (k:=i) om;have hfs:=Zlf (Zbz (g.ops.take i)) o.name;have hbad:¬ (Zba o.name=true∧Zbe (Zbz (g.ops.take i)) o.name=false)->Zbn g=false:=fun h=>hno fun hs=>h (hs.names i o ho);have hbad2:Zcq g.sorts o=false->Zbn g=false:=fun h=>hno fun hs=>by rw [ZeY (hs.decls o hom)] at h;cases h
  have cN:=Zgv (hg.2 o hom).1;have cD:=ZnI hs o;rw [Zax,Zd5] at cD;refine fN 8 (aj3 @q1 @ho @Zag) ?_;refine gB ?_;have F:=@e0P;refine gP 3 ?_;clear F
  cases hh:Zbe (Zbz (g.ops.take i)) o.name with
  | true =>
   rw [hh] at hfs hbad;have hf:=hbad fun h=>by cases h.2
   refine (have F:=e0P;gLk 24 Zgf ZdN Zju (v:=.bool true) (by rw [hfs];rfl) ?_);refine fR @e0P ?_;exact fT @hf
  | false =>
  rw [hh] at hfs hbad;refine (have F:=e0P;gLk 24 Zgf ZdN Zju (v:=.bool false) (by rw [hfs];rfl) ?_);refine fC @e0P (cN) ?_
  cases hn:Zba o.name with
  | false =>
   have hf:=hbad fun h=>by rw [hn] at h;cases h.1
   refine fR @e0P ?_;exact fT @hf
  | true =>
  refine fC @Zh3 (cD) ?_
  cases hd:Zcq g.sorts o with
  | false =>
   have hf:=hbad2 hd;refine fR @e0P ?_;exact fT @hf
  | true =>
  have hq:i+1<=g.ops.length∧(∀ (j:Nat) (o:Opr),j < i+1->g.ops[j]?=some o->Zba o.name=true∧Zbe (Zbz (g.ops.take j)) o.name=false)∧(∀ o∈g.ops.take (i+1),DeclsOk g.sorts o):=⟨hlt,fun j o' hj ho'=>by
   by_cases e:j=i
   ·subst e;rw [ho] at ho';injection ho' with ho'
    subst ho';exact ⟨hn,hh⟩
   ·exact hnm j o' om ho',fun o' ho'=>by
   rw [ZcC ho] at ho';rcases Tbh.1 ho' with h | h
   ·exact hdc o' h
   ·rw [Tbj.1 h];exact ZjW.1 hd⟩
  have hsn:=Zqg ho;refine fR @e0P ?_;refine fN 10 @e0P ?_;refine gB ?_;have F:=@e0P;refine gP 3 ?_;clear F;refine (have F:=e0P;gUp 24 Zgf ZdN (by rw [hfs];rfl) ?_);rw [hsn];refine fR @e0P ?_;have F:=@hw;refine gG ?_;exact ⟨i+1,hq,gw,gw,om⟩
 obtain rfl:i=g.ops.length:=by omega
 have q1:¬ ((g.ops.length:Int) < (g.ops.length:Int)):=om;rw [Tap] at hdc;have hnames:∀ (i:Nat) (o:Opr),g.ops[i]?=some o->Zba o.name=true∧Zbe (Zbz (g.ops.take i)) o.name=false:=fun i o ho=>hnm i o (Tad.1 ho).1 ho;refine fG @q1 ?_;have F:=@e0P;refine gL (ι:=Nat) [2,9,55,56,63] [] (fun k=>[(55,A.d (.one (.lit (.int .i64 k))))]) (fun k=>[]) (fun k=>k<=g.ops.length∧∀ o∈g.ops.take k,AxOk g o) (fun k=>g.ops.length - k) (0) (⟨Taj _,fun o h=>by simp at h⟩) (fun k hk=>?_);clear F
 obtain ⟨hkl,hax⟩:=hk;by_cases hlk:k < g.ops.length;rotate_left
 ·obtain rfl:k=g.ops.length:=by omega
  rw [Tap] at hax;have q2:¬ ((g.ops.length:Int) < (g.ops.length:Int)):=om;have ht:=Zde ⟨hs,h14,hnames,hdc,hax⟩;exact fT (ai @q2 @ht)
 have q2:(k:Int) < (g.ops.length:Int):=om;obtain ⟨o,ho⟩:∃ o,g.ops[k]?=some o:=⟨_,Taa hlk⟩;have hom:=Tac ho;have hw:=Zat (k:=k) om;have cA:=Zmj hs hdc hom h14;rw [Zax,Zd5,Zak] at cA;refine fB (aj3 @q2 @ho @Zag) ?_;refine fC @Zh3 (cA) ?_
 cases ha:axOk g o with
 | false =>
  have hf:=hno fun h=>by rw [Zdy (h.axs o hom)] at ha;cases ha
  refine fR @e0P ?_;exact fT @hf
 | true =>
 have hq:k+1<=g.ops.length∧∀ o∈g.ops.take (k+1),AxOk g o:=⟨hlk,fun o' ho'=>by
  rw [ZcC ho] at ho';rcases Tbh.1 ho' with h | h
  ·exact hax o' h
  ·rw [Tbj.1 h];exact ZoK.1 ha⟩
 refine fR @e0P ?_;have F:=@hw;refine gG ?_;exact ⟨k+1,hq,gw,gw,om⟩
theorem Zhf (hg:ZbY g):Con e0 18 [.agg (Zak g)] [.one (.lit (.bool (Zbn g)))]:=by
 have hno:¬ SgnOk g->Zbn g=false:=Zhd;have cS:=ZnH hg.1;rw [Za9] at cS;rw [Zak];refine gI 599807422667317870655 Tryz.func18 ?_;refine fB @e0P ?_;refine fC @e0P (cS) ?_
 cases hss:Zb3 g.sorts with
 | false =>
  have hf:=hno fun h=>by rw [ZeX h.sorts] at hss;cases hss
  refine fR @e0P ?_;exact fT @hf
 | true =>
 have hs:=Zqb.1 hss;by_cases h14:g.ops.length<=14;rotate_left
 ·have z1:=lT 14 g.ops.length;have hf:=hno fun h=>h14 h.len;refine fR @z1 ?_;exact fT @hf
 have z1:=lF 14 g.ops.length;refine fR @z1 ?_;refine fG @e0P ?_;have F:=@e0P;refine gL (ι:=Nat) [2,3,4,20,40,43,58] [] (fun i=>[(3,A.d (.one (.lit (.int .i64 i))))]) (fun i=>[]) (fun i=>i<=g.ops.length∧(∀ (j:Nat) (o:Opr),j < i->g.ops[j]?=some o->Zba o.name=true∧Zbe (Zbz (g.ops.take j)) o.name=false)∧(∀ o∈g.ops.take i,DeclsOk g.sorts o)) (fun i=>g.ops.length - i) (0) (⟨Taj _,fun j o h=>absurd h om,fun o h=>by simp at h⟩) (fun i hi=>?_);clear F
 obtain ⟨hil,hnm,hdc⟩:=hi;by_cases hlt:i < g.ops.length
 ·have q1:(i:Int) < (g.ops.length:Int):=om;obtain ⟨o,ho⟩:∃ o,g.ops[i]?=some o:=⟨_,Taa hlt⟩;have hom:=Tac ho;have hw:=Zat (k:=i) om;have hbad:¬ (Zba o.name=true∧Zbe (Zbz (g.ops.take i)) o.name=false)->Zbn g=false:=fun h=>hno fun hs=>h (hs.names i o ho);have hbad2:Zcq g.sorts o=false->Zbn g=false:=fun h=>hno fun hs=>by rw [ZeY (hs.decls o hom)] at h;cases h
  have cN:=Zgw (hg.2 o hom).1;have cD:=Zqf (g:=g) hs o;rw [Zax,Zak] at cD;refine fB @q1 ?_;refine fC (ai @ho @Zag) (cN) ?_
  cases hn:Zba o.name with
  | false =>
   have hf:=hbad fun h=>by rw [hn] at h;cases h.1
   refine fR @e0P ?_;exact fT @hf
  | true =>
  refine fC (ai @ho @Zag) (cD) ?_
  cases hd:Zcq g.sorts o with
  | false =>
   have hf:=hbad2 hd;refine fR @e0P ?_;exact fT @hf
  | true =>
  refine fR @e0P ?_;refine fG @e0P ?_;have F:=@e0P;refine gL (ι:=Nat) [2,4,43,58] [] (fun k=>[(4,A.d (.one (.lit (.int .i64 k))))]) (fun k=>[]) (fun k=>k<=i∧Zbe (Zbz (g.ops.take k)) o.name=false) (fun k=>i - k) (0) (⟨Taj _,rfl⟩) (fun k hk=>?_);clear F;obtain ⟨hkl,hseen⟩:=hk;by_cases hlk:k < i
  ·have q2:(k:Int) < (i:Int):=om;obtain ⟨p,hp⟩:∃ o,g.ops[k]?=some o:=⟨_,Taa om⟩;have hw2:=Zat (k:=k) om;have hsn:=Zqd (Zbz (g.ops.take k)) p.name o.name;rw [hseen,Bool.false_or,Zr8,<- ZiM hp] at hsn
   cases hb:(p.name.toList==o.name.toList) with
   | true =>
    rw [hb] at hsn;have hbp:(p.name.toList==o.name.toList)=true:=hb;have hf:=hbad fun h=>by
     obtain ⟨m,hm⟩:∃ m,i=k+1+m:=⟨i - (k+1),om⟩;have h2:=h.2;rw [Zqh hm hsn] at h2
     cases h2
    exact fT (aj6 @q2 @ho @hp @Zag @hb @hf)
   | false =>
    rw [hb] at hsn;have F:=aj6 @q2 @ho @hp @Zag @hb @hw2;refine gG ?_;exact ⟨k+1,⟨hlk,hsn⟩,gw,gw,om⟩
  obtain rfl:k=i:=by omega
  have q2:=lF k k;have hq:k+1<=g.ops.length∧(∀ (j:Nat) (o:Opr),j < k+1->g.ops[j]?=some o->Zba o.name=true∧Zbe (Zbz (g.ops.take j)) o.name=false)∧(∀ o∈g.ops.take (k+1),DeclsOk g.sorts o):=⟨hlt,fun j o' hj ho'=>by
   by_cases e:j=k
   ·subst e;rw [ho] at ho';injection ho' with ho'
    subst ho';exact ⟨hn,hseen⟩
   ·exact hnm j o' om ho',fun o' ho'=>by
   rw [ZcC ho] at ho';rcases Tbh.1 ho' with h | h
   ·exact hdc o' h
   ·rw [Tbj.1 h];exact ZjW.1 hd⟩
  have F:=ai @q2 @hw;refine gG ?_;exact ⟨k+1,hq,gw,gw,om⟩
 obtain rfl:i=g.ops.length:=by omega
 have q1:¬ ((g.ops.length:Int) < (g.ops.length:Int)):=om;rw [Tap] at hdc;have hnames:∀ (i:Nat) (o:Opr),g.ops[i]?=some o->Zba o.name=true∧Zbe (Zbz (g.ops.take i)) o.name=false:=fun i o ho=>hnm i o (Tad.1 ho).1 ho;refine fG @q1 ?_;have F:=@e0P;refine gL (ι:=Nat) [2,5,63,69] [] (fun k=>[(5,A.d (.one (.lit (.int .i64 k))))]) (fun k=>[]) (fun k=>k<=g.ops.length∧∀ o∈g.ops.take k,AxOk g o) (fun k=>g.ops.length - k) (0) (⟨Taj _,fun o h=>by simp at h⟩) (fun k hk=>?_);clear F
 obtain ⟨hkl,hax⟩:=hk;by_cases hlk:k < g.ops.length;rotate_left
 ·obtain rfl:k=g.ops.length:=by omega
  rw [Tap] at hax;have q2:¬ ((g.ops.length:Int) < (g.ops.length:Int)):=om;have ht:=Zde ⟨hs,h14,hnames,hdc,hax⟩;exact fT (ai @q2 @ht)
 have q2:(k:Int) < (g.ops.length:Int):=om;obtain ⟨o,ho⟩:∃ o,g.ops[k]?=some o:=⟨_,Taa hlk⟩;have hom:=Tac ho;have hw:=Zat (k:=k) om;have cA:=ZoR hs hdc ho h14;rw [Zak] at cA;refine fB @q2 ?_;refine fC @e0P (cA) ?_
 cases ha:axOk g o with
 | false =>
  have hf:=hno fun h=>by rw [Zdy (h.axs o hom)] at ha;cases ha
  refine fR @e0P ?_;exact fT @hf
 | true =>
 have hq:k+1<=g.ops.length∧∀ o∈g.ops.take (k+1),AxOk g o:=⟨hlk,fun o' ho'=>by
  rw [ZcC ho] at ho';rcases Tbh.1 ho' with h | h
  ·exact hax o' h
  ·rw [Tbj.1 h];exact ZoK.1 ha⟩
 refine fR @e0P ?_;have F:=@hw;refine gG ?_;exact ⟨k+1,hq,gw,gw,om⟩
end
theorem Zee (s:ByteArray):(s.toList==ByteArray.toList { data:=#[] })=decide (s=ByteArray.empty):=by
 rw [Bool.eq_iff_iff,beq_iff_eq,decide_eq_true_iff,ByteArray.toList_eq,ByteArray.toList_eq];constructor
 ·intro h
  cases s with
  | mk d =>
   have:d=#[]:=by apply Array.toList_inj.1;exact h
   rw [this];rfl
 ·rintro rfl;rfl
def encX (g:Sgn) (mc:C):List C:=[.sl ((Zb8 (up g.sorts)).map ZbA),.sl ((Zb8 (down g.sorts)).map ZbA),.sl ((Zb8 (kinds g.sorts)).map ZbA),.sl (g.sorts.names.map ZbR),.sl (g.sorts.subs.map ZbS),.sl (g.ops.map Zax),mc]
theorem Zbb:∀ (g:Sgn) (mc:C),encX g mc=[.sl ((Zb8 (up g.sorts)).map ZbA),.sl ((Zb8 (down g.sorts)).map ZbA),.sl ((Zb8 (kinds g.sorts)).map ZbA),.sl (g.sorts.names.map ZbR),.sl (g.sorts.subs.map ZbS),.sl (g.ops.map Zax),mc]:=fun _ _=>rfl
theorem ZoU {s:Srt} (h:SortsOk s):(up s).length=s.names.length:=(Zft (SortsOk.subsIn h.subs)).1
theorem ZfK {s:Srt} (h:SortsOk s) {k:Int} (h0:0<=k) (h1:k < s.names.length):(Zb8 (kinds s))[k.toNat]?=some ((kd s k:Nat):Int):=by
 have hk:=Zh2 (SortsOk.subsIn h.subs);have hl:k.toNat < (kinds s).length:=by rw [hk.1];omega
 unfold Zb8 kd;rw [Tba,Taa hl];simp [List.getD,Taa hl]
def Zcg (g:Sgn) (t:Tm):Prop:=t.op=-1∧Zba t.name=true∧0<=t.sort∧t.sort < g.sorts.names.length∧t.args=[]
open Classical in
noncomputable def Ze0 (g:Sgn) (t:Tm):Bool:=decide (Zcg g t)
structure AppOk (g:Sgn) (t:Tm) (o:Opr) (d:Dcl):Prop where
 lo:0<=t.op
 at':g.ops[t.op.toNat]?=some o
 fst:o.decls[0]?=some d
 nm:t.name=ByteArray.empty
 so:t.sort=0
 asc:o.assoc=true->2<=t.args.length∧t.args.length<=7
 nas:o.assoc=false->t.args.length=d.args.length
def ZcN (g:Sgn) (t:Tm):Prop:=Zcg g t∨∃ o d,AppOk g t o d
def Zs5 (g:Sgn) (op:Int):Int:=((g.ops[op.toNat]?.bind (·.decls[0]?)).map (·.res)).getD 0
def ZbK (g:Sgn) (t:Tm):Int:=if t.op=-1 then kd g.sorts t.sort else kd g.sorts (Zs5 g t.op)
def argAt (o:Opr) (i:Nat):Nat:=if o.assoc=true then 0 else i
theorem Zgg:∀ (o:Opr) (i:Nat),argAt o i=if o.assoc=true then 0 else i:=fun _ _=>rfl
structure ArgOk (g:Sgn) (op:Int) (o:Opr) (d:Dcl) (args:List Tm) (i:Nat) (a:Tm):Prop where
 kind:∀ k,d.args[argAt o i]?=some k->ZbK g a=kd g.sorts k
 nest:o.assoc=true->a.op≠op
 unit:o.unit≠0->a.op≠o.unit - 1
 ord:o.comm=true->∀ (j:Nat) p,i=j+1->args[j]?=some p->Zai p a<=0
def Zjx (g:Sgn) (op:Int) (args:List Tm):Prop:=∀ o d,g.ops[op.toNat]?=some o->o.decls[0]?=some d->∀ (i:Nat) a,args[i]?=some a->ArgOk g op o d args i a
mutual
def ZaH (g:Sgn):Tm->Prop
 | .mk op nm so args=>ZcN g (.mk op nm so args)∧Zc6 g args∧(op=-1∨Zjx g op args)
def Zc6 (g:Sgn):List Tm->Prop
 | []=>True
 | t::ts=>ZaH g t∧Zc6 g ts
end
theorem Zhg {g:Sgn} {ts:List Tm}:Zc6 g ts ↔ ∀ a∈ts,ZaH g a:=by
 induction ts with
 | nil=>simp [Zc6]
 | cons t ts ih=>simp [Zc6,ih]
theorem ZaY {g:Sgn} {t:Tm}:ZaH g t ↔ ZcN g t∧(∀ a∈t.args,ZaH g a)∧(t.op=-1∨Zjx g t.op t.args):=by
 cases t
 simp only [ZaH,Zhg,Tm.args,Tm.op]
theorem ZaH.node {g:Sgn} {t:Tm} (h:ZaH g t):ZcN g t:=(ZaY.1 h).1
open Classical in
noncomputable def Zb0 (g:Sgn) (t:Tm):Bool:=decide (ZaH g t)
theorem Zfw {g:Sgn} {t:Tm} (h:ZaH g t):Zb0 g t=true:=by simp [Zb0,h]
theorem ZiP {g:Sgn} {t:Tm} (h:¬ ZaH g t):Zb0 g t=false:=by simp [Zb0,h]
theorem Zlo {g:Sgn} {t:Tm}:Zb0 g t=true ↔ ZaH g t:=by simp [Zb0]
theorem SgnOk.first {g:Sgn} (h:SgnOk g) {i:Nat} {o:Opr} (ho:g.ops[i]?=some o):∃ d,o.decls[0]?=some d∧(0:Int)<=d.res∧d.res < (g.sorts.names.length:Int)∧∀ k:Int,k∈d.args->0<=k∧k < (g.sorts.names.length:Int):=by
 have hm:=Tac ho;obtain ⟨d,hd,hD⟩:=(h.decls o hm).first;exact ⟨d,hd,hD.res.1,hD.res.2,hD.args⟩
theorem Zh4 {g:Sgn} {op:Int} {o:Opr} {d:Dcl} (ho:g.ops[op.toNat]?=some o) (hd:o.decls[0]?=some d):Zs5 g op=d.res:=by simp [Zs5,ho,hd]
theorem AppOk.op {g:Sgn} {t:Tm} {o:Opr} {d:Dcl} (h:AppOk g t o d):t.op≠-1:=by have:=h.lo;omega
section
variable {g:Sgn} {mc:C}
theorem ZAB (hg:SgnOk g) (k:Int):Con e0 94 [.agg [.sl ((Zb8 (up g.sorts)).map ZbA),.sl ((Zb8 (down g.sorts)).map ZbA),.sl ((Zb8 (kinds g.sorts)).map ZbA)],.one (.lit (.int .i64 k))] [.one (.lit (.bool (decide (0<=k∧k < g.sorts.names.length))))]:=by
 have hl:=ZoU hg.sorts;refine gI 23 Tryz.func94 ?_;by_cases h0:0<=k
 ·have e:decide (0<=k∧k < (g.sorts.names.length:Int))=decide (k < (g.sorts.names.length:Int)):=by simp [h0]
  rw [e];exact fT (aj3 @h0 @ZmL @hl)
 ·have e:decide (0<=k∧k < (g.sorts.names.length:Int))=false:=by simp [h0]
  rw [e];exact fT @h0
theorem Zlp (hg:SgnOk g) {t:Tm} (ht:ZcN g t):Con e0 99 [.one (.ptr (encX g mc)),.agg (Zab t)] [.one (.lit (.int .i64 (ZbK g t)))]:=by
 refine gI 155 Tryz.func99 ?_;rcases ht with ⟨h1,h2,h3,h4,h5⟩ | ⟨o,d,h⟩
 ·have hn:(-1:Int) < 0:=om;have hk:=ZfK hg.sorts h3 h4;have e:ZbK g t=kd g.sorts t.sort:=by simp [ZbK,h1]
  exact fT (aj8 @tmz @h1 @hn @Zbb @h3 @hk @Zaz @e)
 ·have hn:¬ (t.op < 0):=by have:=h.lo;omega
  obtain ⟨d',hd',hr0,hr1,_⟩:=hg.first h.at';rw [h.fst] at hd';injection hd' with hd'
  subst hd';have hk:=ZfK hg.sorts hr0 hr1;have e:ZbK g t=kd g.sorts d.res:=by simp [ZbK,h.op,Zh4 h.at' h.fst]
  have hlo:=h.lo;have hat:=h.at';have hfst:=h.fst;exact fT (aj12 @tmz @hn @Zbb @hlo @hat @Zag @hfst @ZaN @hr0 @hk @Zaz @e)
theorem Zj0 (hg:SgnOk g) {op:Int} {i:Nat} {o:Opr} {d:Dcl} {k:Int} (h0:0<=op) (ho:g.ops[op.toNat]?=some o) (hd:o.decls[0]?=some d) (hk:d.args[argAt o i]?=some k):Con e0 100 [.one (.ptr (encX g mc)),.one (.lit (.int .i64 op)),.one (.lit (.int .i64 i))] [.one (.lit (.int .i64 (kd g.sorts k)))]:=by
 obtain ⟨d',hd',_,_,hk0⟩:=hg.first ho;rw [hd] at hd';injection hd' with hd'
 subst hd';obtain ⟨k0,k1⟩:=hk0 k (Tac hk);have hkd:=ZfK hg.sorts k0 k1;refine gI 131271 Tryz.func100 ?_;unfold argAt at hk
 cases ha:o.assoc with
 | true =>
  rw [ha] at hk;simp only [↓reduceIte] at hk;exact fT (aj11 @Zbb @h0 @ho @Zag @ha @hd @ZaN @hk @k0 @hkd @Zaz)
 | false =>
  rw [ha] at hk;simp only [Tam,↓reduceIte] at hk;exact fT (aj11 @Zbb @h0 @ho @Zag @ha @hd @ZaN @hk @k0 @hkd @Zaz)
theorem Zlq (hg:SgnOk g) {op:Int} {o:Opr} (h0:0<=op) (ho:g.ops[op.toNat]?=some o) (t:Tm):Con e0 101 [.one (.ptr (encX g mc)),.one (.lit (.int .i64 op)),.agg (Zab t)] [.one (.lit (.bool (decide (o.unit≠0∧t.op=o.unit - 1))))]:=by
 have hax:=hg.axs o (Tac ho);have hlo:=hax.lo;have hhi:=hax.hi;have hln:=hg.len;have hw:IntKind.i64.wrap (o.unit - 1)=o.unit - 1:=ZaJ rfl om om;refine gI 103 Tryz.func101 ?_;by_cases hu:o.unit=0
 ·have e:decide (o.unit≠0∧t.op=o.unit - 1)=false:=by simp [hu]
  rw [e];exact fT (aj6 @Zbb @tmz @h0 @ho @Zag @hu)
 ·have e:decide (o.unit≠0∧t.op=o.unit - 1)=decide (t.op=o.unit - 1):=by simp [hu]
  rw [e];exact fT (aj7 @Zbb @tmz @h0 @ho @Zag @hu @hw)
theorem ZhC (hg:SgnOk g) {t:Tm} (hs:t.name.size<=maxLen):Con e0 55 [.one (.ptr (encX g mc)),.agg (Zab t)] [.one (.lit (.bool (Ze0 g t)))]:=by
 have hno:¬ Zcg g t->Ze0 g t=false:=fun h=>by simp [Ze0,h]
 refine gI 27 Tryz.func55 ?_;refine fG @tmz ?_;by_cases h1:t.op=-1;rotate_left
 ·have hf:=hno fun h=>h1 h.1;exact fT (aj3 @tmz @h1 @hf)
 refine gB ?_;refine fC (ai @tmz @h1) (Zgv hs) ?_;by_cases h2:Zba t.name=true;rotate_left
 ·have hf:=hno fun h=>h2 h.2.1;have h2':Zba t.name=false:=by simpa using h2
  refine fR (ai @tmz @h2') ?_;exact fT (ai @tmz @hf)
 refine fC (aj3 @tmz @h2 @Zbb) (ZAB hg t.sort) ?_;by_cases h3:0<=t.sort∧t.sort < g.sorts.names.length;rotate_left
 ·have hf:=hno fun h=>h3 ⟨h.2.2.1,h.2.2.2.1⟩;have h3':decide (0<=t.sort∧t.sort < (g.sorts.names.length:Int))=false:=by simp only [decide_eq_false_iff_not];exact h3
  refine fR (ai @tmz @h3') ?_;exact fT (ai @tmz @hf)
 have h3':decide (0<=t.sort∧t.sort < (g.sorts.names.length:Int))=true:=by simp only [decide_eq_true_eq];exact h3
 by_cases h4:t.args=[]
 ·have hT:Ze0 g t=true:=by simp only [Ze0,decide_eq_true_eq];exact ⟨h1,h2,h3.1,h3.2,h4⟩
  refine fR (aj3 @tmz @h3' @h4) ?_;exact fT (ai @tmz @hT)
 ·have hf:=hno fun h=>h4 h.2.2.2.2;have h4':¬ ((t.args.length:Int)=0):=by
   intro h;apply h4;apply Tao;omega
  refine fR (aj3 @tmz @h3' @h4') ?_;exact fT (ai @tmz @hf)
end
theorem Zff {t:Tm}:okTm t ↔ I64 t.op∧t.name.size<=maxLen∧I64 t.sort∧ZaF t.args:=by cases t;simp only [okTm,Tm.op,Tm.name,Tm.sort,Tm.args]
theorem ZaM (t:Tm):sizeTm t=1+sizeTms t.args:=by cases t;simp only [sizeTm,Tm.args]
theorem ZcB (t:Tm):depthTm t=1+depthTms t.args:=by cases t;simp only [depthTm,Tm.args]
theorem Zs6 {g:Sgn} {t:Tm} (h:t.op=-1):Zb0 g t=Ze0 g t:=by
 unfold Zb0 Ze0;congr 1;rw [ZaY];apply propext;constructor
 ·rintro ⟨h1 | ⟨o,d,h1⟩,_⟩
  ·exact h1
  ·have:=h1.lo;omega
 ·intro h1;exact ⟨.inl h1,fun a ha=>(by rw [h1.2.2.2.2] at ha;cases ha),.inl h⟩
theorem ZcN.app {g:Sgn} {t:Tm} (h:ZcN g t) (hop:t.op≠-1):∃ o d,AppOk g t o d:=by
 rcases h with h | h
 ·exact absurd h.1 hop
 ·exact h
theorem ZfL {g:Sgn} (hg:SgnOk g) {i:Nat} {o:Opr} {d:Dcl} {n j:Nat} (ho:g.ops[i]?=some o) (hd:o.decls[0]?=some d) (nas:o.assoc=false->n=d.args.length) (hj:j < n):∃ k,d.args[argAt o j]?=some k:=by
 unfold argAt
 cases ha:o.assoc with
 | true =>
  have h2:=((hg.axs o (Tac ho)).two (.inl ha) d hd).1;exact ⟨_,Taa (by simp only [↓reduceIte];omega)⟩
 | false=>exact ⟨_,Taa (by simp only [Tam,↓reduceIte];have:=nas ha;omega)⟩
section
variable {g:Sgn} {mc:C}
theorem Zku (hg:SgnOk g):∀ (n:Nat) (t:Tm),sizeTm t < n->okTm t->sizeTm t<=big->Con e0 77 [.one (.ptr (encX g mc)),.agg (Zab t)] [.one (.lit (.bool (Zb0 g t)))]:=by
 intro n
 induction n with
 | zero=>intro t h;omega
 | succ n ih =>
  intro t hn hok hb;have hno:¬ ZaH g t->Zb0 g t=false:=ZiP;obtain ⟨k1,k2,k3,k4⟩:=Zff.1 hok;have hsz:=ZaM t;have hal:=Zbq t.args;unfold big at hb;refine gI 43556142965880125627826793391928073259515 Tryz.func77 ?_;by_cases h1:t.op=-1
  ·have e:=Zs6 (g:=g) h1;rw [e];refine fB (ai @tmz @h1) ?_;refine fC (ai @tmz @h1) (ZhC hg k2) ?_;refine fR @tmz ?_;exact fT @tmz
  by_cases h2:t.op < 0
  ·have hf:=hno fun h=>by
    obtain ⟨o,d,h⟩:=h.node.app h1;have:=h.lo;omega
   exact fT (aj4 @tmz @h1 @h2 @hf)
  by_cases h3:(g.ops.length:Int)<=t.op
  ·have hf:=hno fun h=>by
    obtain ⟨o,d,h⟩:=h.node.app h1;have:=(Tad.1 h.at').1;omega
   exact fT (aj6 @tmz @h1 @h2 @h3 @Zbb @hf)
  by_cases h4:t.name=ByteArray.empty;rotate_left
  ·have hf:=hno fun h=>by
    obtain ⟨o,d,h⟩:=h.node.app h1;exact h4 h.nm
   exact fT (aj8 @tmz @h1 @h2 @h3 @Zbb @Zee @h4 @hf)
  by_cases h5:t.sort=0;rotate_left
  ·have hf:=hno fun h=>by
    obtain ⟨o,d,h⟩:=h.node.app h1;exact h5 h.so
   exact fT (aj9 @tmz @h1 @h2 @h3 @Zbb @Zee @h4 @h5 @hf)
  have h0:0<=t.op:=om;obtain ⟨o,ho⟩:∃ o,g.ops[t.op.toNat]?=some o:=⟨_,Taa om⟩;obtain ⟨d,hd,hr0,hr1,hargs⟩:=hg.first ho;have hgt:ZaH g t->AppOk g t o d:=fun h=>by
   obtain ⟨o',d',h⟩:=h.node.app h1;have e1:=h.at';rw [ho] at e1;injection e1 with e1
   subst e1;have e2:=h.fst;rw [hd] at e2;injection e2 with e2
   subst e2;exact h
  by_cases hW:(o.assoc=true->2<=t.args.length∧t.args.length<=7)∧(o.assoc=false->t.args.length=d.args.length);rotate_left
  ·have hf:=hno fun h=>hW ⟨(hgt h).asc,(hgt h).nas⟩
   cases ha:o.assoc with
   | true =>
    by_cases c1:t.args.length < 2
    ·have c1':(t.args.length:Int) < 2:=om;exact fT (aj14 @tmz @h1 @h2 @h3 @Zbb @Zee @h4 @h5 @h0 @ho @Zag @ha @c1' @hf)
    ·have c1':¬ ((t.args.length:Int) < 2):=om;have c2:(7:Int) < (t.args.length:Int):=by
      by_cases c2:t.args.length<=7
      ·exact absurd ⟨fun _=>⟨om,c2⟩,fun h=>by rw [ha] at h;cases h⟩ hW
      ·omega
     exact fT (aj15 @tmz @h1 @h2 @h3 @Zbb @Zee @h4 @h5 @h0 @ho @Zag @ha @c1' @c2 @hf)
   | false =>
    have c3:¬ ((t.args.length:Int)=(d.args.length:Int)):=fun c=>hW ⟨fun h=>(by rw [ha] at h;cases h),fun _=>om⟩;exact fT (aj16 @tmz @h1 @h2 @h3 @Zbb @Zee @h4 @h5 @h0 @ho @Zag @ha @hd @ZaN @c3 @hf)
  have hA:AppOk g t o d:=⟨h0,ho,hd,h4,h5,hW.1,hW.2⟩;refine fG (aj11 @tmz @h1 @h2 @h3 @Zbb @Zee @h4 @h5 @h0 @ho @Zag) ?_;refine gM (ι:=Unit) [75] [] (fun u=>[(75,A.d (.one (.lit (.bool false))))]) (fun u=>[]) (fun u=>True) ?_ (fun u hu=>Exists.intro _ (ai (Wk.refl _) ?_))
  ·cases ha:o.assoc with
   | true =>
    have c:=hW.1 ha;have c1':¬ ((t.args.length:Int) < 2):=om;have c2:¬ ((7:Int) < (t.args.length:Int)):=om;have F:=aj5 @tmz @Zag @ha @c1' @c2;refine gG ?_;exact ⟨(),trivial,gw,gw⟩
   | false =>
    have c3:((t.args.length:Int)=(d.args.length:Int)):=by have:=hW.2 ha;omega
    have F:=aj6 @tmz @Zag @ha @hd @ZaN @c3;refine gG ?_;exact ⟨(),trivial,gw,gw⟩
  refine fG @tmz ?_;have F:=@e0P;refine gL (ι:=Nat) [4,7,8,79,80,135] [] (fun i=>[(79,A.d (.one (.lit (.int .i64 i))))]) (fun i=>[]) (fun i=>i<=t.args.length∧∀ (j:Nat) a,j < i->t.args[j]?=some a->ZaH g a∧ArgOk g t.op o d t.args j a) (fun i=>t.args.length - i) (0) (⟨om,fun j a h=>absurd h om⟩) (fun i hi=>?_);clear F;obtain ⟨hil,hall⟩:=hi;by_cases hl:i < t.args.length;rotate_left
  ·have hl':¬ ((i:Int) < (t.args.length:Int)):=om;have hT:=Zfw (ZaY.2 ⟨.inr ⟨o,d,hA⟩,fun a ha=>by
     obtain ⟨j,hj⟩:=Tbk ha;exact (hall j a (by have:=(Tad.1 hj).1;omega) hj).1,.inr fun o' d' ho' hd' j a hj=>by
     rw [ho] at ho';injection ho' with ho'
     subst ho';rw [hd] at hd';injection hd' with hd'
     subst hd';exact (hall j a (by have:=(Tad.1 hj).1;omega) hj).2⟩)
   exact fT (ai @hl' @hT)
  have hl':(i:Int) < (t.args.length:Int):=om;obtain ⟨a,ha⟩:∃ a,t.args[i]?=some a:=⟨_,Taa hl⟩;have hm:=Tac ha;have hsa:=Za5 hm;have hw1:=Zat (k:=i) om;have hnoA:¬ ArgOk g t.op o d t.args i a->Zb0 g t=false:=fun h=>hno fun hF=>by
   obtain ⟨_,_,h3⟩:=ZaY.1 hF;rcases h3 with h3 | h3
   ·exact h1 h3
   ·exact h (h3 o d ho hd i a ha)
  obtain ⟨k,hk⟩:=ZfL hg ho hd hA.nas hl;refine fB (aj3 @hl' @tmz @ha) ?_;refine fC @tmz (ih a om (k4.mem hm) (by unfold big;omega)) ?_;by_cases hfa:Zb0 g a=true;rotate_left
  ·have hf:=hno fun h=>hfa (Zfw ((ZaY.1 h).2.1 a hm));have hfa':Zb0 g a=false:=by simpa using hfa
   refine fR (ai @tmz @hfa') ?_;exact fT @hf
  have hFa:=Zlo.1 hfa;refine fC (ai @tmz @hfa) (Zlp hg hFa.node) ?_;refine fC @tmz (Zj0 hg h0 ho hd hk) ?_;by_cases hkd:ZbK g a=((kd g.sorts k:Nat):Int);rotate_left
  ·have hf:=hnoA fun h=>hkd (h.kind k hk);refine fR (ai @tmz @hkd) ?_;exact fT @hf
  by_cases hN:o.assoc=true∧a.op=t.op
  ·have hf:=hnoA fun h=>h.nest hN.1 hN.2;obtain ⟨hN1,hN2⟩:=hN;refine fR (aj5 @tmz @hkd @Zag @hN1 @hN2) ?_;exact fT @hf
  have hne:o.assoc=true->¬ a.op=t.op:=fun h1 h2=>hN ⟨h1,h2⟩;have cU:=Zlq (mc:=mc) hg h0 ho a;generalize hU:decide (o.unit≠0∧a.op=o.unit - 1)=U at cU;have hnext:(U=false)->(o.comm=true->∀ (j:Nat) p,i=j+1->t.args[j]?=some p->Zai p a<=0)->i+1<=t.args.length∧∀ (j:Nat) a,j < i+1->t.args[j]?=some a->ZaH g a∧ArgOk g t.op o d t.args j a:=fun hU' hc=>⟨om,fun j a' hj ha'=>by
   by_cases e:j=i
   ·subst e;rw [ha] at ha';injection ha' with ha'
    subst ha';refine ⟨hFa,fun k' hk'=>?_,fun h1 h2=>hN ⟨h1,h2⟩,fun h1 h2=>?_,hc⟩
    ·rw [hk] at hk';injection hk' with hk'
     subst hk';exact hkd
    ·rw [hU'] at hU;simp only [decide_eq_false_iff_not] at hU;exact hU ⟨h1,h2⟩
   ·exact hall j a' om ha'⟩
  rcases Bool.eq_false_or_eq_true o.assoc with hac | hac
  all_goals (
   refine fC (aj5 @tmz @hkd @Zag @hac @hne) (cU) ?_;rcases Bool.eq_false_or_eq_true U with hu | hu
   ·have hf:=hnoA fun h=>by
     rw [hu] at hU;simp only [decide_eq_true_eq] at hU;exact h.unit hU.1 hU.2
    refine fR (ai @tmz @hu) ?_;exact fT @hf
   rcases Bool.eq_false_or_eq_true o.comm with hcm | hcm
   rotate_left
   ·have hq:=hnext hu (fun h=>by rw [hcm] at h;cases h);refine fR (aj4 @tmz @hu @Zag @hcm) ?_;have F:=aj5 @hw1 @tmz @Zag @hcm @hac;refine gG ?_;exact ⟨i+1,hq,gw,gw,om⟩
   rcases Nat.eq_zero_or_pos i with hi0 | hi0
   ·have hq:=hnext hu (fun _ j p h=>om);have hi0':¬ ((0:Int) < (i:Int)):=om;refine fR (aj5 @tmz @hu @Zag @hcm @hi0') ?_;have F:=aj5 @hw1 @tmz @Zag @hcm @hac;refine gG ?_;exact ⟨i+1,hq,gw,gw,om⟩
   obtain ⟨j,rfl⟩:∃ j,i=j+1:=⟨i - 1,om⟩;obtain ⟨p,hp⟩:∃ p,t.args[j]?=some p:=⟨_,Taa om⟩;have cC:=ZjV (k4.mem (Tac hp)) (k4.mem hm);have hgt0:(0:Int) < ((j+1:Nat):Int):=om;have hsub:IntKind.i64.wrap (((j+1:Nat):Int) - 1)=(j:Int):=ZaJ om om om;refine fC (aj7 @tmz @hu @Zag @hcm @hgt0 @hsub @hp) (cC) ?_;by_cases hc:0 < Zai p a
   ·have hf:=hnoA fun h=>by have:=h.ord hcm j p rfl hp;omega
    refine fR (ai @tmz @hc) ?_;exact fT @hf
   ·have hq:=hnext hu (fun _ j' p' h hp'=>by
     have:j'=j:=om;subst this;rw [hp] at hp';injection hp' with hp'
     subst hp';omega)
    refine fR (ai @tmz @hc) ?_
    (have F:=aj5 @hw1 @tmz @Zag @hcm @hac;refine gG ?_;exact ⟨j+1+1,hq,gw,gw,om⟩))
theorem ZoV (hg:SgnOk g) {t:Tm} (hok:okTm t) (hb:sizeTm t<=big):Con e0 77 [.one (.ptr (encX g mc)),.agg (Zab t)] [.one (.lit (.bool (Zb0 g t)))]:=Zku hg _ t (Tan _) hok hb
structure TermOk (g:Sgn) (t:Tm):Prop where
 size:sizeTm t<=60
 depth:depthTm t<=20
 form:ZaH g t
open Classical in
noncomputable def ZbO (g:Sgn) (t:Tm):Bool:=decide (TermOk g t)
theorem Zfx {g:Sgn} {t:Tm} (h:TermOk g t):ZbO g t=true:=by simp [ZbO,h]
theorem ZiQ {g:Sgn} {t:Tm} (h:¬ TermOk g t):ZbO g t=false:=by simp [ZbO,h]
theorem ZcS {g:Sgn} {t:Tm}:ZbO g t=true ↔ TermOk g t:=by simp [ZbO]
theorem Zj1 {g:Sgn} {t:Tm} (h1:sizeTm t<=60) (h2:depthTm t<=20):Zb0 g t=ZbO g t:=by
 unfold Zb0 ZbO;congr 1;exact propext ⟨fun h=>⟨h1,h2,h⟩,fun h=>h.form⟩
theorem Zj2 (hg:SgnOk g) {t:Tm} (hok:okTm t) (hb:sizeTm t<=big):Con e0 38 [.one (.ptr (encX g mc)),.agg (Zab t)] [.one (.lit (.bool (ZbO g t)))]:=by
 have hno:¬ TermOk g t->ZbO g t=false:=ZiQ;refine gI 27 Tryz.func38 ?_;refine fB @tmz ?_;refine fC @tmz (ZiN hb) ?_;by_cases h1:sizeTm t<=60;rotate_left
 ·have h1':¬ ((sizeTm t:Int)<=60):=om;have hf:=hno fun h=>h1 h.size;refine fR (ai @tmz @h1') ?_;exact fT @hf
 have h1':((sizeTm t:Int)<=60):=om;refine fC (ai @tmz @h1') (Ziu hb) ?_;by_cases h2:depthTm t<=20;rotate_left
 ·have h2':¬ ((depthTm t:Int)<=20):=om;have hf:=hno fun h=>h2 h.depth;refine fR (ai @tmz @h2') ?_;exact fT @hf
 have h2':((depthTm t:Int)<=20):=om;refine fC (ai @tmz @h2') (ZoV hg hok hb) ?_;have e:=Zj1 (g:=g) h1 h2;refine fR @tmz ?_;exact fT @e
end
mutual
theorem Zf8:∀ {a b:Tm},Zai a b=0->a=b
 | .mk o n s x,.mk o' n' s' x',h=>by
  simp only [Zai,ZaT] at h;split at h
  ·rename_i h1;split at h
   ·rename_i h2;split at h
    ·rename_i h3;split at h
     ·rename_i h4;rw [ZcX.1 h1,Zfs.1 h2,ZcX.1 h3,Zj3 h4]
     ·contradiction
    ·contradiction
   ·contradiction
  ·contradiction
theorem Zj3:∀ {a b:List Tm},ZaP a b=0->a=b
 | [],[],_=>rfl
 | [],_::_,h=>by simp [ZaP] at h
 | _::_,[],h=>by simp [ZaP] at h
 | x::xs,y::ys,h=>by
  simp only [ZaP,ZaT] at h;split at h
  ·rename_i h1;split at h
   ·rename_i h2;rw [Zf8 h1,Zj3 h2]
   ·contradiction
  ·contradiction
end
mutual
theorem Zef:∀ (a:Tm),Zai a a=0
 | .mk o n s x=>by simp only [Zai,ZaT,ZcX.2 (rfl:o=o),ZcX.2 (rfl:s=s),Zfs.2 (rfl:n=n),Zj4 x,if_true]
theorem Zj4:∀ (a:List Tm),ZaP a a=0
 | []=>rfl
 | x::xs=>by simp only [ZaP,ZaT,Zef x,Zj4 xs,if_true]
end
theorem Zdz {a b:Tm}:Zai a b=0 ↔ a=b:=⟨Zf8,fun h=>h ▸ Zef a⟩
theorem Ze1 {a b:Tm} (ha:okTm a) (hb:okTm b):Con e0 69 [.agg (Zab a),.agg (Zab b)] [.one (.lit (.bool (decide (Zai a b=0))))]:=by
 refine gI 31 Tryz.func69 ?_;refine fB @tmz ?_;refine fC @tmz (Zdl ha hb) ?_;refine fR @tmz ?_;exact fT @tmz
section
variable {g:Sgn}
theorem Zfg (hok:ZbY g) (hg:¬ SgnOk g):Con e0 21 [.agg (Zak g)] [.one (.lit (.pointer none)),.one (.lit (.bool false))]:=by
 have hs:Zbn g=false:=Zhd hg;have c:=ZjZ hok;rw [hs,Zak] at c;refine gI 287 Tryz.func21 ?_;refine fB @Zb6 ?_;refine fC @Zb6 (c) ?_;refine fR @Zb6 ?_;exact fT @Zb6
theorem Zh5 (hok:ZbY g) (hg:SgnOk g) {t:Tm} (ht:ZcN g t):Con e0 117 [.agg (Zak g),.agg (Zab t)] [.one (.lit (.int .i64 (ZbK g t)))]:=by
 have c2:=ZdP hg.sorts;rw [Za9] at c2;refine gI 2111 Tryz.func117 ?_;refine fB (ai @tmz @Zb6) ?_;refine fC @Zb6 (c2) ?_;refine fR @Zb6 ?_;rcases ht with ⟨h1,h2,h3,h4,h5⟩ | ⟨o,d,h⟩
 ·have hk:=ZfK hg.sorts h3 h4;have e:ZbK g t=kd g.sorts t.sort:=by simp [ZbK,h1]
  exact fT (aj6 @tmz @h1 @h3 @hk @Zaz @e)
 ·have hn:=h.op;obtain ⟨d',hd',hr0,hr1,_⟩:=hg.first h.at';rw [h.fst] at hd';injection hd' with hd'
  subst hd';have hk:=ZfK hg.sorts hr0 hr1;have e:ZbK g t=kd g.sorts d.res:=by simp [ZbK,h.op,Zh4 h.at' h.fst]
  have hlo:=h.lo;have hat:=h.at';have hfst:=h.fst;exact fT (aj11 @tmz @hn @hlo @hat @Zag @hfst @ZaN @hr0 @hk @Zaz @e)
def ZaB (o:Opr):Tm:=.mk (if o.unit=0 then 0 else o.unit - 1) .empty 0 []
theorem Zlr (hg:SgnOk g) {op:Int} {o:Opr} (h0:0<=op) (ho:g.ops[op.toNat]?=some o):Con e0 116 [.agg (Zak g),.one (.lit (.int .i64 op))] [.agg (Zab (ZaB o)),.one (.lit (.bool (!decide (o.unit=0))))]:=by
 have hax:=hg.axs o (Tac ho);have hlo:=hax.lo;have hhi:=hax.hi;have hln:=hg.len;have hw:IntKind.i64.wrap (o.unit - 1)=o.unit - 1:=ZaJ rfl om om;refine gI 4151 Tryz.func116 ?_;by_cases hu:o.unit=0
 ·refine fG (aj5 @Zb6 @h0 @ho @Zag @hu) ?_;refine Zfc (Zk1 ?_);simp [Zcx,resA,Zbm,gs,hu,ZaB,Zab,Zac,gm,ptrA,varA,e0P,pz,tt_0,tt_1]
 ·refine fG (aj6 @Zb6 @h0 @ho @Zag @hu @hw) ?_;refine Zfc (Zk1 ?_);simp [Zcx,resA,Zbm,gs,hu,ZaB,Zab,Zac,gm,ptrA,varA,e0P,pz]
end
def Tri (a b c:Int):Prop:=((a<=0->b<=0->c<=0)∧(a < 0->b<=0->c < 0)∧(a<=0->b < 0->c < 0))∧((0<=a->0<=b->0<=c)∧(0 < a->0<=b->0 < c)∧(0<=a->0 < b->0 < c))
theorem Zls (p q:Int):ZaT [p,q]=if p=0 then q else p:=by
 simp only [ZaT];split
 ·split <;> simp_all
 ·rfl
theorem ZwD (p q r s:Int):ZaT [p,q,r,s]=ZaT [p,ZaT [q,ZaT [r,s]]]:=by
 simp only [Zls,ZaT];by_cases h1:p=0 <;> by_cases h2:q=0 <;> by_cases h3:r=0 <;> by_cases h4:s=0 <;> simp [h1,h2,h3,h4]
theorem Tri.lex {a b c a' b' c':Int} (h:Tri a b c) (h':Tri a' b' c'):Tri (ZaT [a,a']) (ZaT [b,b']) (ZaT [c,c']):=by
 simp only [Zls];unfold Tri at *;by_cases h1:a=0
 ·by_cases h2:b=0
  ·by_cases h3:c=0
   ·simp only [h1,h2,h3,if_true];exact h'
   ·omega
  ·by_cases h3:c=0
   ·omega
   ·simp only [h1,h2,h3,if_true,if_false];omega
 ·by_cases h2:b=0
  ·by_cases h3:c=0
   ·omega
   ·simp only [h1,h2,h3,if_true,if_false];omega
  ·by_cases h3:c=0
   ·simp only [h1,h2,h3,if_true,if_false];omega
   ·simp only [h1,h2,h3,if_false];omega
theorem Zeq (p q:Int):ZaT [-p,-q]=-ZaT [p,q]:=by
 simp only [Zls];by_cases h:p=0
 ·simp [h]
 ·have:¬ -p=0:=om;simp [h,this]
theorem Zh6 (a b c:Int):Tri (ZaU a b) (ZaU b c) (ZaU a c):=by
 unfold Tri ZaU;by_cases h1:a < b <;> by_cases h2:b < c <;> by_cases h3:a < c <;> by_cases h4:b < a <;> by_cases h5:c < b <;> by_cases h6:c < a <;> simp only [h1,h2,h3,h4,h5,h6,if_true,if_false] <;> omega
theorem Zh7 (a b:Int):ZaU b a=-ZaU a b:=by
 unfold ZaU;by_cases h1:a < b <;> by_cases h2:b < a <;> simp only [h1,h2,if_true,if_false] <;> omega
theorem Zhh (x y:UInt8) (xs ys:List UInt8):Lib.compareBytes (x::xs) (y::ys)=ZaT [ZaU x.toNat y.toNat,Lib.compareBytes xs ys]:=by
 rw [Zls];simp only [Lib.compareBytes,ZaU,UInt8.lt_iff_toNat_lt];by_cases h1:x.toNat < y.toNat
 ·have:((x.toNat:Int) < y.toNat):=om;simp [h1,this]
 ·have h1':¬ ((x.toNat:Int) < y.toNat):=om;by_cases h2:y.toNat < x.toNat
  ·have:((y.toNat:Int) < x.toNat):=om;simp [h1,h2,h1',this]
  ·have:¬ ((y.toNat:Int) < x.toNat):=om;simp [h1,h2,h1',this]
theorem ZmW:∀ (a b c:List UInt8),Tri (Lib.compareBytes a b) (Lib.compareBytes b c) (Lib.compareBytes a c)
 | [],[],[]=>by simp [Lib.compareBytes,Tri]
 | [],[],_::_=>by simp [Lib.compareBytes,Tri]
 | [],_::_,[]=>by simp [Lib.compareBytes,Tri]
 | [],y::ys,z::zs=>by
  have:Lib.compareBytes [] (y::ys)=-1:=rfl;have h2:Lib.compareBytes [] (z::zs)=-1:=rfl;rw [this,h2];unfold Tri;omega
 | _::_,[],[]=>by simp [Lib.compareBytes,Tri]
 | x::xs,[],z::zs=>by
  have:Lib.compareBytes (x::xs) []=1:=rfl;have h2:Lib.compareBytes [] (z::zs)=-1:=rfl;rw [this,h2];unfold Tri;omega
 | x::xs,y::ys,[]=>by
  have:Lib.compareBytes (x::xs) []=1:=rfl;have h2:Lib.compareBytes (y::ys) []=1:=rfl;rw [this,h2];unfold Tri;omega
 | x::xs,y::ys,z::zs=>by
  simp only [Zhh];exact (Zh6 _ _ _).lex (ZmW xs ys zs)
theorem ZmX:∀ (a b:List UInt8),Lib.compareBytes b a=-Lib.compareBytes a b
 | [],[]=>rfl
 | [],_::_=>rfl
 | _::_,[]=>rfl
 | x::xs,y::ys=>by rw [Zhh,Zhh,Zh7,ZmX xs ys,Zeq]
mutual
theorem ZbP:∀ (a b:Tm),Zai b a=-Zai a b
 | .mk o n s a,.mk o' n' s' a'=>by
  simp only [Zai,ZwD];rw [Zh7 o o',Zh7 s s',Zlt a a',show Zca n' n=-Zca n n' from ZmX _ _,Zeq,Zeq,Zeq]
theorem Zlt:∀ (a b:List Tm),ZaP b a=-ZaP a b
 | [],[]=>by simp [ZaP]
 | [],_::_=>by simp [ZaP]
 | _::_,[]=>by simp [ZaP]
 | x::xs,y::ys=>by
  simp only [ZaP];rw [ZbP x y,Zlt xs ys,Zeq]
end
mutual
theorem ZiR:∀ (a b c:Tm),Tri (Zai a b) (Zai b c) (Zai a c)
 | .mk o n s a,.mk o' n' s' a',.mk o'' n'' s'' a''=>by
  simp only [Zai,ZwD];exact (Zh6 _ _ _).lex ((ZmW _ _ _).lex ((Zh6 _ _ _).lex (Zlu a a' a'')))
theorem Zlu:∀ (a b c:List Tm),Tri (ZaP a b) (ZaP b c) (ZaP a c)
 | [],[],[]=>by simp [ZaP,Tri]
 | [],[],_::_=>by simp [ZaP,Tri]
 | [],_::_,[]=>by simp [ZaP,Tri]
 | [],_::_,_::_=>by simp only [ZaP];unfold Tri;omega
 | _::_,[],[]=>by simp [ZaP,Tri]
 | _::_,[],_::_=>by simp only [ZaP];unfold Tri;omega
 | _::_,_::_,[]=>by simp only [ZaP];unfold Tri;omega
 | x::xs,y::ys,z::zs=>by
  simp only [ZaP];exact (ZiR x y z).lex (Zlu xs ys zs)
end
theorem Zfh {a b c:Tm} (h1:Zai a b < 0) (h2:Zai b c < 0):Zai a c < 0:=(ZiR a b c).1.2.1 h1 om
theorem ZbU {a b c:Tm} (h1:Zai a b<=0) (h2:Zai b c<=0):Zai a c<=0:=(ZiR a b c).1.1 h1 h2
def Asc (l:List Tm):Prop:=l.Pairwise fun a b=>Zai a b < 0
theorem Asc.ext {l l':List Tm} (h:Asc l) (h':Asc l') (hm:∀ t,t∈l ↔ t∈l'):l=l':=by
 induction l generalizing l' with
 | nil =>
  cases l' with
  | nil=>rfl
  | cons y ys=>exact absurd ((hm y).2 (by simp)) (by simp)
 | cons x xs ih =>
  cases l' with
  | nil=>exact absurd ((hm x).1 (by simp)) (by simp)
  | cons y ys =>
   have h1:=List.pairwise_cons.1 h;have h2:=List.pairwise_cons.1 h';have e:x=y:=by
    rcases Tbg.1 ((hm x).1 (by simp)) with e | hx
    ·exact e
    ·rcases Tbg.1 ((hm y).2 (by simp)) with e | hy
     ·exact e.symm
     ·have a1:=h1.1 y hy;have a2:=h2.1 x hx;rw [ZbP x y] at a2;omega
   subst e;refine congrArg (x::·) (ih h1.2 h2.2 fun t=>⟨fun ht=>?_,fun ht=>?_⟩)
   ·rcases Tbg.1 ((hm t).1 (Tal _ ht)) with e | h3
    ·subst e;have:=h1.1 t ht;rw [Zef] at this;omega
    ·exact h3
   ·rcases Tbg.1 ((hm t).2 (Tal _ ht)) with e | h3
    ·subst e;have:=h2.1 t ht;rw [Zef] at this;omega
    ·exact h3
def ZbC (t:Tm):List Tm->List Tm
 | []=>[t]
 | x::xs=>if Zai x t < 0 then x::ZbC t xs else if Zai x t=0 then x::xs else t::x::xs
def ZBm (l:List Tm):List Tm:=l.foldl (fun r t=>ZbC t r) []
mutual
def ZbD:Tm->List Tm
 | .mk op nm so args=>if op=-1 then [.mk (-1) nm so []] else Za2 args
def Za2:List Tm->List Tm
 | []=>[]
 | t::ts=>ZbD t++Za2 ts
end
def ZhD (t:Tm):List Tm:=ZBm (ZbD t)
def zTm0:Tm:=.mk 0 ByteArray.empty 0 []
def Up (l:List Tm):Prop:=l.Pairwise fun a b=>Zai a b<=0
def Zaw (l:List Tm):List Tm:=l.mergeSort fun a b=>decide (Zai a b<=0)
theorem Zbr (l:List Tm):(Zaw l).Perm l:=List.mergeSort_perm l _
theorem ZcH (l:List Tm):Up (Zaw l):=by
 have h:=List.pairwise_mergeSort (le:=fun a b=>decide (Zai a b<=0)) (fun a b c h1 h2=>by simp only [decide_eq_true_eq] at *;exact ZbU h1 h2) (fun a b=>by
  simp only [Bool.or_eq_true,decide_eq_true_eq];have:=ZbP a b;omega) l
 exact h.imp fun h=>by simpa using h
theorem Zml:∀ {l l':List Tm},Up l->Up l'->l.Perm l'->l=l'
 | [],l',_,_,h=>by have:=h.length_eq;cases l' with | nil=>rfl | cons _ _=>simp at this
 | x::xs,[],_,_,h=>by have:=h.length_eq;simp at this
 | x::xs,y::ys,h1,h2,h=>by
  have p1:=List.pairwise_cons.1 h1;have p2:=List.pairwise_cons.1 h2;have hx:x∈y::ys:=h.mem_iff.1 Tas;have hy:y∈x::xs:=h.mem_iff.2 Tas;have e:x=y:=by
   rcases Tbg.1 hx with e | hx
   ·exact e
   ·rcases Tbg.1 hy with e | hy
    ·exact e.symm
    ·have a1:=p2.1 x hx;have a2:=p1.1 y hy;refine Zf8 ?_;rw [ZbP x y] at a1;omega
  subst e;rw [Zml p1.2 p2.2 h.cons_inv]
mutual
theorem ZmY:∀ {a b:Tm},Zab a=Zab b->a=b
 | .mk o n s a,.mk o' n' s' a',h=>by
  simp only [Zab,List.cons.injEq,C.lit.injEq,C.sl.injEq,Value.int.injEq,Value.string.injEq,true_and,and_true] at h;obtain ⟨rfl,rfl,rfl,h⟩:=h;rw [Zlv h]
theorem Zlv:∀ {a b:List Tm},Zac a=Zac b->a=b
 | [],[],_=>rfl
 | [],_::_,h=>by simp [Zac] at h
 | _::_,[],h=>by simp [Zac] at h
 | x::xs,y::ys,h=>by
  simp only [Zac,List.cons.injEq] at h;rw [ZmY h.1,Zlv h.2]
end
open Classical in
noncomputable def unT (r:List C):Tm:=if h:∃ t,r=Zab t then h.choose else zTm0
theorem Zsd (t:Tm):unT (Zab t)=t:=by
 have h:∃ t',Zab t=Zab t':=⟨t,rfl⟩;unfold unT;rw [dif_pos h];exact (ZmY h.choose_spec).symm
theorem Zer (l:List Tm) (k:Nat):(Zac l).take k=Zac (l.take k):=by rw [ZbZ,ZbZ,List.map_take]
theorem Zes (l:List Tm) (k:Nat):(Zac l).drop k=Zac (l.drop k):=by rw [ZbZ,ZbZ,List.map_drop]
theorem ZbI (a b:List Tm):Zac (a++b)=Zac a++Zac b:=by rw [ZbZ,ZbZ,ZbZ,Tbv]
theorem Zcl (t:Tm):Zac [t]=[Zab t]:=by simp [Zac]
theorem ZoW (a b:Tm):Con e0 26 [.agg (Zab a),.agg (Zab b)] [.one (.lit (.bool (decide (Zai a b=0))))]:=by
 refine gI (ts:=[.slot 4]) 31 Tryz.func26 ?_;refine fB @tmz ?_;refine fC @tmz (Zjs (ZeG a b)) ?_;refine fR @tmz ?_;exact fD @tmz
theorem ZfM {l m:List Tm} (hp:m.Perm l) (hu:Up m):m=Zaw l:=Zml hu (ZcH l) (hp.trans (Zbr l).symm)
theorem ZdQ {l:List Tm} (hu:Up l):Zaw l=l:=(ZfM (List.Perm.refl _) hu).symm
theorem ZcT (l:List Tm):(Zaw l).length=l.length:=(Zbr l).length_eq
theorem ZiS {l m:List Tm} (h:l.Perm m):Zaw l=Zaw m:=Zml (ZcH l) (ZcH m) ((Zbr l).trans (h.trans (Zbr m).symm))
theorem Up.get {l:List Tm} (h:Up l) {i j:Nat} {x y:Tm} (hij:i<=j) (hx:l[i]?=some x) (hy:l[j]?=some y):Zai x y<=0:=by
 rcases Nat.lt_or_ge i j with hl | hl
 ·obtain ⟨h1,rfl⟩:=Tad.1 hx;obtain ⟨h2,rfl⟩:=Tad.1 hy;exact List.pairwise_iff_getElem.1 h i j h1 h2 hl
 ·obtain rfl:i=j:=by omega
  rw [hx] at hy;injection hy with hy
  subst hy;rw [Zef];omega
theorem ZgB {l:List Tm} {k:Nat} {x:Tm} (h:x∈l.take k):∃ i,i < k∧l[i]?=some x:=by
 obtain ⟨i,hi⟩:=Tbk h;rw [List.getElem?_take] at hi;split at hi
 ·exact ⟨i,by assumption,hi⟩
 ·cases hi
theorem ZgC {l:List Tm} {k:Nat} {x:Tm} (h:x∈l.drop k):∃ i,k<=i∧l[i]?=some x:=by
 obtain ⟨i,hi⟩:=Tbk h;rw [Tbb] at hi;exact ⟨k+i,om,hi⟩
theorem Zn5 {x y:Tm} (h:¬ Zai x y < 0):Zai y x<=0:=by rw [ZbP x y];omega
theorem Up.append {l m:List Tm} (hl:Up l) (hm:Up m) (h:∀ x∈l,∀ y∈m,Zai x y<=0):Up (l++m):=List.pairwise_append.2 ⟨hl,hm,h⟩
theorem Up.left {l m:List Tm} (h:Up (l++m)):Up l:=(List.pairwise_append.1 h).1
theorem Up.take {l:List Tm} (h:Up l) (k:Nat):Up (l.take k):=List.Pairwise.sublist (List.take_sublist k l) h
theorem Up.drop {l:List Tm} (h:Up l) (k:Nat):Up (l.drop k):=List.Pairwise.sublist (List.drop_sublist k l) h
theorem Up.put {B:List Tm} {x:Tm} (hB:Up B) {s:Nat} (h1:0 < s->∃ y,B[s - 1]?=some y∧Zai y x<=0) (h2:s < B.length->∃ y,B[s]?=some y∧Zai x y<=0):Up (B.take s++x::B.drop s):=by
 have k2:∀ z∈B.drop s,Zai x z<=0:=fun z hz=>by
  obtain ⟨i,hi,hz⟩:=ZgC hz;have hl:=(Tad.1 hz).1;obtain ⟨y,hy,hc⟩:=h2 om;exact ZbU hc (hB.get hi hy hz)
 have k1:∀ z∈B.take s,Zai z x<=0:=fun z hz=>by
  obtain ⟨i,hi,hz⟩:=ZgB hz;obtain ⟨y,hy,hc⟩:=h1 om;exact ZbU (hB.get om hz hy) hc
 refine (hB.take s).append (List.pairwise_cons.2 ⟨k2,hB.drop s⟩) fun z hz u hu=>?_;rcases Tbg.1 hu with rfl | hu
 ·exact k1 z hz
 ·obtain ⟨i,hi,hz⟩:=ZgB hz;obtain ⟨j,hj,hu⟩:=ZgC hu;exact hB.get om hz hu
theorem Zyf {B:List Tm} {x:Tm} (s:Nat):(B.take s++x::B.drop s).Perm (x::B):=by
 refine List.perm_middle.trans ?_;rw [Tbm]
theorem ZAC {A B:List Tm} (hA:Up A) (hB:Up B) {s e:Nat} (h1:e < B.length->0 < s->∃ x y,A[s - 1]?=some x∧B[e]?=some y∧Zai x y<=0) (h2:0 < e->s < A.length->∃ x y,B[e - 1]?=some x∧A[s]?=some y∧Zai x y<=0):∀ x∈A.take s++B.take e,∀ y∈A.drop s++B.drop e,Zai x y<=0:=by
 intro x hx y hy;rcases Tbh.1 hx with hx | hx <;> rcases Tbh.1 hy with hy | hy <;> obtain ⟨i,hi,hx⟩:=ZgB hx <;> obtain ⟨j,hj,hy⟩:=ZgC hy
 ·exact hA.get om hx hy
 ·have hl:=(Tad.1 hy).1;obtain ⟨u,v,hu,hv,huv⟩:=h1 om om;exact ZbU (ZbU (hA.get om hx hu) huv) (hB.get hj hv hy)
 ·have hl:=(Tad.1 hy).1;obtain ⟨u,v,hu,hv,huv⟩:=h2 om om;exact ZbU (ZbU (hB.get om hx hu) huv) (hA.get hj hv hy)
 ·exact hB.get om hx hy
theorem Zs7 {A1 A2 B1 B2:List Tm} (h:∀ x∈A1++B1,∀ y∈A2++B2,Zai x y<=0):Zaw (A1++B1)++Zaw (A2++B2)=Zaw ((A1++A2)++(B1++B2)):=by
 refine ZfM ?_ ((ZcH _).append (ZcH _) fun x hx y hy=>h x ((Zbr _).mem_iff.1 hx) y ((Zbr _).mem_iff.1 hy));refine ((Zbr _).append (Zbr _)).trans ?_;rw [Tbf,Tbf];refine List.Perm.append_left _ ?_;rw [<- Tbf,<- Tbf];exact List.Perm.append_right _ List.perm_append_comm
inductive Blks (k:Nat):List Tm->Prop where
 | last {l:List Tm} (hl:l.length<=k) (hu:Up l):Blks k l
 | cons {X r:List Tm} (hl:X.length=k) (hu:Up X) (hr:Blks k r):Blks k (X++r)
inductive Full (k:Nat):List Tm->Prop where
 | nil:Full k []
 | cons {X r:List Tm} (hl:X.length=k) (hu:Up X) (hr:Full k r):Full k (X++r)
theorem Full.snoc {k:Nat} {X Z:List Tm} (h:Full k X) (hl:Z.length=k) (hu:Up Z):Full k (X++Z):=by
 induction h with
 | nil=>have:=Full.cons hl hu Full.nil;rwa [List.append_nil] at this
 | cons h1 h2 _ ih=>rw [Tbf];exact .cons h1 h2 ih
theorem Full.blks {k:Nat} {X Z:List Tm} (h:Full k X) (hl:Z.length<=k) (hu:Up Z):Blks k (X++Z):=by
 induction h with
 | nil=>exact .last hl hu
 | cons h1 h2 _ ih=>rw [Tbf];exact .cons h1 h2 ih
theorem Blks.up {k:Nat} {l:List Tm} (h:Blks k l) (hl:l.length<=k):Up l:=by
 cases h with
 | last h1 h2=>exact h2
 | @cons X r h1 h2 h3 =>
  rw [Tae] at hl;have:r=[]:=Tao om;subst this
  rwa [List.append_nil]
theorem Blks.split {k:Nat} {l:List Tm} (h:Blks k l) (hl:k < l.length):∃ X r,l=X++r∧X.length=k∧Up X∧Blks k r:=by
 cases h with
 | last h1 h2=>omega
 | cons h1 h2 h3=>exact ⟨_,_,rfl,h1,h2,h3⟩
theorem Blks.two {k:Nat} {l:List Tm} (h:Blks k l) (hk:0 < k) (hl:2 * k<=l.length):∃ A B r,l=A++B++r∧A.length=k∧B.length=k∧Up A∧Up B∧Blks k r:=by
 obtain ⟨A,r,rfl,h1,h2,h3⟩:=h.split om;rw [Tae] at hl;rcases Nat.lt_or_ge k r.length with h4 | h4
 ·obtain ⟨B,r',rfl,h5,h6,h7⟩:=h3.split h4;exact ⟨A,B,r',by rw [Tbf],h1,h5,h2,h6,h7⟩
 ·exact ⟨A,r,[],by rw [List.append_nil],h1,om,h2,h3.up h4,.last (by simp) List.Pairwise.nil⟩
theorem ZhE {A B:List Tm} {x y:Tm} {k:Nat} (h:A.length=k):(A++x::B).set k y=A++y::B:=by
 subst h;rw [List.set_append_right _ _ (Tai _),Nat.sub_self,List.set_cons_zero]
theorem ZhF {A B:List Tm} {x:Tm} {k:Nat} (h:A.length=k):(A++x::B)[k]?=some x:=by
 subst h;rw [Tbq (Tai _),Nat.sub_self,Tat]
theorem Zse {A B:List Tm} {x y:Tm} {k:Nat} (h:A.length=k):((A++y::x::B).set (k+1) y).set k x=A++x::y::B:=by
 have e1:(A++y::x::B).set (k+1) y=A++y::y::B:=by
  have:=ZhE (A:=A++[y]) (B:=B) (x:=x) (y:=y) (k:=k+1) (by simp [h]);simpa using this
 rw [e1,ZhE h]
theorem Zyg {A B:List Tm} {x y:Tm} {k:Nat} (h:A.length=k):((A++y::x::B).set k x).set (k+1) y=A++x::y::B:=by
 have e1:(A++x::x::B).set (k+1) y=A++x::y::B:=by
  have:=ZhE (A:=A++[x]) (B:=B) (x:=x) (y:=y) (k:=k+1) (by simp [h]);simpa using this
 rw [ZhE h,e1]
theorem Zmm {A B:List Tm} {x y:Tm} {k:Nat} (h:A.length=k):(A++y::x::B)[k+1]?=some x:=by
 have:=ZhF (A:=A++[y]) (B:=B) (x:=x) (k:=k+1) (by simp [h]);simpa using this
theorem Zdu {l:List Tm} {i:Nat} {x:Tm} (h:l[i]?=some x):l.drop i=x::l.drop (i+1):=by
 obtain ⟨h1,rfl⟩:=Tad.1 h;exact List.drop_eq_getElem_cons h1
theorem Zcm {l:List Tm} {i:Nat} {x:Tm} (h:l[i]?=some x):l.take (i+1)=l.take i++[x]:=by
 rw [List.take_add_one,h];rfl
def swR (P X Z Y Q:List Tm) (i:Nat):List Tm:=P++(Y.take i++X.drop i)++Z++(X.take i++Y.drop i)++Q
theorem Zyh (P X Z Y Q:List Tm):swR P X Z Y Q 0=P++X++Z++Y++Q:=by simp [swR]
theorem ZAD {P X Z Y Q:List Tm} (h:X.length=Y.length):swR P X Z Y Q X.length=P++Y++Z++X++Q:=by
 unfold swR;rw [Tap,List.drop_length,h,Tap,List.drop_length];simp
theorem ZAE {P X Z Y Q:List Tm} (i:Nat) (h:X.length=Y.length):(swR P X Z Y Q i).length=P.length+X.length+Z.length+Y.length+Q.length:=by
 simp only [swR,Tae,Taw,Tax];omega
theorem ZAF {P X Z Y Q:List Tm} {i:Nat} {x y:Tm} (h:X.length=Y.length) (hx:X[i]?=some x) (hy:Y[i]?=some y) :
  (swR P X Z Y Q i)[P.length+i]?=some x∧(swR P X Z Y Q i)[P.length+X.length+Z.length+i]?=some y∧((swR P X Z Y Q i).set (P.length+i) y).set (P.length+X.length+Z.length+i) x=swR P X Z Y Q (i+1):=by
 have hi:=(Tad.1 hx).1;have hi':=(Tad.1 hy).1;have e:swR P X Z Y Q i=(P++Y.take i)++x::(X.drop (i+1)++Z++X.take i++y::(Y.drop (i+1)++Q)):=by
  unfold swR;rw [Zdu hx,Zdu hy];simp
 have e2:swR P X Z Y Q i=((P++Y.take i)++x::(X.drop (i+1)++Z++X.take i))++y::(Y.drop (i+1)++Q):=by rw [e];simp
 have l1:(P++Y.take i).length=P.length+i:=by simp;omega
 have l2:∀ z:Tm,((P++Y.take i)++z::(X.drop (i+1)++Z++X.take i)).length=P.length+X.length+Z.length+i:=fun z=>by simp;omega
 refine ⟨by rw [e];exact ZhF l1,by rw [e2];exact ZhF (l2 x),?_⟩;rw [e,ZhE l1];rw [show (P++Y.take i)++y::(X.drop (i+1)++Z++X.take i++y::(Y.drop (i+1)++Q))=((P++Y.take i)++y::(X.drop (i+1)++Z++X.take i))++y::(Y.drop (i+1)++Q) by simp,ZhE (l2 y)];unfold swR;rw [Zcm hy,Zcm hx];simp
theorem Zyi {M1 M2:List Tm} {x:Tm} (h:Up (M1++M2)) (h2:∀ y∈M2,Zai x y<=0) (h1:∀ y,M1.getLast?=some y->Zai y x<=0):Up (M1++x::M2):=by
 obtain ⟨u1,u2,u3⟩:=List.pairwise_append.1 h;refine Up.append u1 (List.pairwise_cons.2 ⟨h2,u2⟩) fun z hz u hu=>?_;rcases Tbg.1 hu with rfl | hu
 ·obtain ⟨M0,y,rfl⟩:∃ M0 y,M1=M0++[y]:=⟨M1.dropLast,M1.getLast (List.ne_nil_of_mem hz),(List.dropLast_concat_getLast _).symm⟩;have hy:=h1 y (by simp);rcases Tbh.1 hz with hz | hz
  ·exact ZbU ((List.pairwise_append.1 u1).2.2 z hz y (by simp)) hy
  ·simp only [Tbj] at hz;subst hz;exact hy
 ·exact u3 z hz u hu
theorem ZoX {M1 M2 L:List Tm} {x:Tm} (e:M1++M2=Zaw L) (h2:∀ y∈M2,Zai x y<=0) (h1:∀ y,M1.getLast?=some y->Zai y x<=0):M1++x::M2=Zaw (L++[x]):=by
 have hu:Up (M1++M2):=by rw [e];exact ZcH _
 refine ZfM ?_ (Zyi hu h2 h1);refine List.perm_middle.trans ?_;rw [e];exact ((Zbr L).cons x).trans (List.perm_append_comm (l₁:=[x]) (l₂:=L))
mutual
def Zdf:Tm->Int->Int
 | .mk _ _ _ args,l=>Zbw args (l - 1)
def Zbw:List Tm->Int->Int
 | [],l=>l
 | t::ts,l=>if 0<=l then Zbw ts (Zdf t l) else l
end
theorem ZwE:∀ l,Zbw [] l=l:=fun _=>by rw [Zbw]
mutual
theorem Zj5:∀ (t:Tm) (l:Int),0<=l->(-1<=Zdf t l∧Zdf t l<=l∧((sizeTm t:Int)<=l->Zdf t l=l - sizeTm t)∧(l < sizeTm t->Zdf t l < 0))
 | .mk _ _ _ args,l,hl=>by
  have:=ZgD args (l - 1) om;simp only [Zdf,sizeTm];refine ⟨this.1,om,fun h=>?_,fun h=>?_⟩
  ·have:=this.2.2.1 om;omega
  ·by_cases h1:0<=l - 1
   ·exact this.2.2.2 om
   ·have h2:=this.2.1;omega
theorem ZgD:∀ (ts:List Tm) (l:Int),-1<=l->(-1<=Zbw ts l∧Zbw ts l<=l∧((sizeTms ts:Int)<=l->Zbw ts l=l - sizeTms ts)∧(l < sizeTms ts->Zbw ts l < 0))
 | [],l,hl=>by simp only [Zbw,sizeTms];omega
 | t::ts,l,hl=>by
  simp only [Zbw,sizeTms];by_cases h0:0<=l
  ·rw [if_pos h0];have h1:=Zj5 t l h0;have h2:=ZgD ts (Zdf t l) h1.1;refine ⟨h2.1,om,fun h=>?_,fun h=>?_⟩
   ·have e1:=h1.2.2.1 om;have e2:=h2.2.2.1 om;omega
   ·by_cases h3:(sizeTm t:Int)<=l
    ·have e1:=h1.2.2.1 h3;exact h2.2.2.2 om
    ·have e1:=h1.2.2.2 om;omega
  ·rw [if_neg h0];have:=Zbq ts;refine ⟨hl,Int.le_refl _,fun h=>om,fun h=>om⟩
end
theorem Zj6 {ts:List Tm} {l:Int} (h:¬ 0<=l):Zbw ts l=l:=by
 cases ts with
 | nil=>rfl
 | cons t ts=>simp only [Zbw,if_neg h]
theorem Zhi:∀ (a b:List Tm) (l:Int),Zbw (a++b) l=Zbw b (Zbw a l)
 | [],b,l=>rfl
 | t::ts,b,l=>by
  simp only [Taf,Zbw];by_cases h:0<=l
  ·rw [if_pos h,if_pos h,Zhi]
  ·rw [if_neg h,if_neg h,Zj6 h]
theorem ZoY {ts:List Tm} {i:Nat} {t:Tm} {l:Int} (h:ts[i]?=some t) (h0:0<=Zbw (ts.take i) l):Zbw (ts.take (i+1)) l=Zdf t (Zbw (ts.take i) l):=by
 rw [ZcC h,Zhi];simp only [Zbw,if_pos h0]
theorem ZoZ {ts:List Tm} {i:Nat} {l:Int} (h0:¬ 0<=Zbw (ts.take i) l):Zbw ts l=Zbw (ts.take i) l:=by
 conv=>lhs;rw [<- Tbm i ts]
 rw [Zhi,Zj6 h0]
theorem ZwF (t:Tm) (l:Int):Zdf t l=Zbw t.args (l - 1):=by cases t;simp only [Zdf,Tm.args]
theorem Zmn:∀ (n:Nat) (t:Tm) (l:Int),sizeTm t < n->sizeTm t<=big->0<=l->l<=60->Con e0 71 [.agg (Zab t),.one (.lit (.int .i64 l))] [.one (.lit (.int .i64 (Zdf t l)))]:=by
 intro n
 induction n with
 | zero=>intro t l h;omega
 | succ n ih =>
  intro t l hn hb hl0 hl1;have hsz:=ZaM t;have hal:=Zbq t.args;unfold big at hb;have hw:IntKind.i64.wrap (l - 1)=l - 1:=ZaJ rfl om om;rw [ZwF];refine gI 65591 Tryz.func71 ?_;refine fG (ai @tmz @hw) ?_;have F:=@ZwE;refine gL (ι:=Nat) [1,5,16] [] (fun i=>[(5,A.d (.one (.lit (.int .i64 i)))),(1,A.d (.one (.lit (.int .i64 (Zbw (t.args.take i) (l - 1))))))]) (fun i=>[]) (fun i=>i<=t.args.length) (fun i=>t.args.length - i) (0) om (fun i hi=>?_);clear F
  have hsp:=ZgD (t.args.take i) (l - 1) om;by_cases hl:i < t.args.length;rotate_left
  ·have hl':¬ ((i:Int) < (t.args.length:Int)):=om;have e:t.args.take i=t.args:=List.take_of_length_le om;exact fT (aj3 @hl' @e @tmz)
  have hl':(i:Int) < (t.args.length:Int):=om;by_cases h0:0<=Zbw (t.args.take i) (l - 1);rotate_left
  ·have e:=ZoZ h0;exact fT (aj4 @hl' @h0 @e @tmz)
  obtain ⟨a,ha⟩:∃ a,t.args[i]?=some a:=⟨_,Taa hl⟩;have hm:=Za5 (Tac ha);have hw1:=Zat (k:=i) om;have hs:=ZoY ha h0;refine fB (aj4 @hl' @h0 @tmz @ha) ?_;refine fC (ai @tmz @ha) (ih a _ om (by unfold big;omega) h0 om) ?_;refine fR @tmz ?_;have F:=aj3 @hw1 @hs @tmz;refine gG ?_;exact ⟨i+1,om,gw,gw,om⟩
theorem ZmZ {t:Tm}:0<=Zdf t 60 ↔ sizeTm t<=60:=by
 have:=Zj5 t 60 om;by_cases h:sizeTm t<=60
 ·have:=this.2.2.1 om;omega
 ·have:=this.2.2.2 om;omega
theorem Zhj {t:Tm} (hb:sizeTm t<=big):Con e0 36 [.agg (Zab t)] [.one (.lit (.bool (decide (sizeTm t<=60∧depthTm t<=20))))]:=by
 refine gI 7 Tryz.func36 ?_;refine fB @tmz ?_;refine fC @tmz (Zmn _ t 60 (Tan _) hb om om) ?_;by_cases h1:sizeTm t<=60;rotate_left
 ·have h1':¬ (0<=Zdf t 60):=fun h=>h1 (ZmZ.1 h);refine fR (ai @tmz @h1') ?_;exact fT @h1
 have h1':(0<=Zdf t 60):=ZmZ.2 h1;refine fC (ai @tmz @h1') (ZnJ hb) ?_;by_cases h2:depthTm t<=20
 ·have h2':((depthTm t:Int)<=20):=om;refine fR (ai @tmz @h2') ?_;exact fT (ai @h1 @h2)
 ·have h2':¬ ((depthTm t:Int)<=20):=om;refine fR (ai @tmz @h2') ?_;exact fT (ai @h1 @h2)
section
variable {g:Sgn}
open Classical in
noncomputable def Zd6 (g:Sgn) (t:Tm):Bool:=decide (ZcN g t)
theorem Zfy {t:Tm} (h:ZcN g t):Zd6 g t=true:=by simp [Zd6,h]
theorem Zo0 {t:Tm} (h:¬ ZcN g t):Zd6 g t=false:=by simp [Zd6,h]
theorem Zlw {t:Tm}:Zd6 g t=true ↔ ZcN g t:=by simp [Zd6]
theorem Zlx (hg:SgnOk g) {t:Tm} (hok:okTm t) (hb:sizeTm t<=big):Con e0 73 [.agg (Zak g),.agg (Zab t)] [.one (.lit (.bool (Zd6 g t)))]:=by
 have hno:¬ ZcN g t->Zd6 g t=false:=Zo0;obtain ⟨k1,k2,k3,k4⟩:=Zff.1 hok;have hsz:=ZaM t;have hal:=Zbq t.args;have hn8:=hg.sorts.n8;have hn1:=hg.sorts.n1;have hln:=hg.len;unfold big at hb;have hwn:IntKind.i64.wrap ((g.sorts.names.length:Int) - 1)=(g.sorts.names.length:Int) - 1:=ZaJ rfl om om;have hwo:IntKind.i64.wrap ((g.ops.length:Int) - 1)=(g.ops.length:Int) - 1:=ZaJ rfl om om;refine gI 9444733036108034605695 Tryz.func73 ?_
 by_cases h1:t.op=-1
 ·have hV:ZcN g t->Zcg g t:=fun h=>by
   rcases h with h | ⟨o,d,h⟩
   ·exact h
   ·exact absurd h1 h.op
  refine fB (aj3 @tmz @Zb6 @h1) ?_;refine fC @tmz (Zgw k2) ?_;by_cases h2:Zba t.name=true;rotate_left
  ·have h2':Zba t.name=false:=by simpa using h2
   have hf:=hno fun h=>h2 (hV h).2.1;refine fR (ai @tmz @h2') ?_;exact fT @hf
  refine fC (aj3 @tmz @h2 @hwn) (ZdH _ _ _) ?_;by_cases h3:0<=t.sort∧t.sort < g.sorts.names.length;rotate_left
  ·have h3':decide (0<=t.sort∧t.sort<=(g.sorts.names.length:Int) - 1)=false:=by simp only [decide_eq_false_iff_not];omega
   have hf:=hno fun h=>h3 ⟨(hV h).2.2.1,(hV h).2.2.2.1⟩;refine fR (ai @tmz @h3') ?_;exact fT @hf
  have h3':decide (0<=t.sort∧t.sort<=(g.sorts.names.length:Int) - 1)=true:=by simp only [decide_eq_true_eq];omega
  by_cases h4:t.args=[]
  ·have hT:=Zfy (g:=g) (.inl ⟨h1,h2,h3.1,h3.2,h4⟩);refine fR (aj3 @tmz @h3' @h4) ?_;exact fT @hT
  ·have hf:=hno fun h=>h4 (hV h).2.2.2.2;have h4':¬ ((t.args.length:Int)=0):=by
    intro h;apply h4;apply Tao;omega
   refine fR (aj3 @tmz @h3' @h4') ?_;exact fT @hf
 refine fB (aj3 @tmz @Zb6 @h1) ?_;refine fC (ai @tmz @hwo) (ZdH _ _ _) ?_;by_cases h2:0<=t.op∧t.op < g.ops.length;rotate_left
 ·have h2':decide (0<=t.op∧t.op<=(g.ops.length:Int) - 1)=false:=by simp only [decide_eq_false_iff_not];omega
  have hf:=hno fun h=>by
   obtain ⟨o,d,h⟩:=h.app h1;have:=(Tad.1 h.at').1;have:=h.lo;omega
  refine fR (ai @tmz @h2') ?_;exact fT @hf
 have h2':decide (0<=t.op∧t.op<=(g.ops.length:Int) - 1)=true:=by simp only [decide_eq_true_eq];omega
 by_cases h4:t.name=ByteArray.empty;rotate_left
 ·have hf:=hno fun h=>by
   obtain ⟨o,d,h⟩:=h.app h1;exact h4 h.nm
  refine fR (aj4 @tmz @h2' @Zee @h4) ?_;exact fT @hf
 by_cases h5:t.sort=0;rotate_left
 ·have hf:=hno fun h=>by
   obtain ⟨o,d,h⟩:=h.app h1;exact h5 h.so
  refine fR (aj5 @tmz @h2' @Zee @h4 @h5) ?_;exact fT @hf
 have h0:=h2.1;obtain ⟨o,ho⟩:∃ o,g.ops[t.op.toNat]?=some o:=⟨_,Taa om⟩;obtain ⟨d,hd,hr0,hr1,hargs⟩:=hg.first ho;have hgt:ZcN g t->AppOk g t o d:=fun h=>by
  obtain ⟨o',d',h⟩:=h.app h1;have e1:=h.at';rw [ho] at e1;injection e1 with e1
  subst e1;have e2:=h.fst;rw [hd] at e2;injection e2 with e2
  subst e2;exact h
 have cA:=Zeo hd;rw [Zax] at cA;refine fR (aj5 @tmz @h2' @Zee @h4 @h5) ?_;refine fG (aj4 @tmz @h0 @ho @Zag) ?_
 cases ha:o.assoc with
 | false =>
  rw [ha] at cA;refine gB ?_;refine fC (ai @tmz @ha) (cA) ?_;by_cases c:t.args.length=d.args.length
  ·have hT:=Zfy (g:=g) (.inr ⟨o,d,h0,ho,hd,h4,h5,fun h=>(by rw [ha] at h;cases h),fun _=>c⟩);have c':((t.args.length:Int)=(d.args.length:Int)):=om;refine fR (aj3 @tmz @c' @ha) ?_;exact fT @hT
  ·have hf:=hno fun h=>c ((hgt h).nas ha);have c':¬ ((t.args.length:Int)=(d.args.length:Int)):=om;refine fR (aj3 @tmz @c' @ha) ?_;exact fT @hf
 | true =>
  refine gB ?_;refine fC (ai @tmz @ha) (ZdH _ _ _) ?_;by_cases c:2<=t.args.length∧t.args.length<=7
  ·have hT:=Zfy (g:=g) (.inr ⟨o,d,h0,ho,hd,h4,h5,fun _=>c,fun h=>(by rw [ha] at h;cases h)⟩);have c':decide ((2:Int)<=(t.args.length:Int)∧(t.args.length:Int)<=7)=true:=by simp only [decide_eq_true_eq];omega
   refine fR (aj3 @tmz @c' @ha) ?_;exact fT @hT
  ·have hf:=hno fun h=>c ((hgt h).asc ha);have c':decide ((2:Int)<=(t.args.length:Int)∧(t.args.length:Int)<=7)=false:=by simp only [decide_eq_false_iff_not];omega
   refine fR (aj3 @tmz @c' @ha) ?_;exact fT @hf
end
section
variable {g:Sgn}
open Classical in
noncomputable def Zeg (g:Sgn) (op:Int) (args:List Tm):Bool:=decide (Zjx g op args)
theorem ZfN (hg:SgnOk g) {op:Int} {o:Opr} (ho:g.ops[op.toNat]?=some o) (hu:o.unit≠0) {a:Tm} (ha:ZaH g a) (hop:a.op=o.unit - 1):a=ZaB o:=by
 have hax:=hg.axs o (Tac ho);have hlo:=hax.lo;obtain ⟨p,u,h⟩:=ha.node.app om;obtain ⟨d,hd,_⟩:=hg.first ho;have e:a.op.toNat=o.unit.toNat - 1:=om;have hz:u.args.length=0:=by
  have h2:=hax.two (.inr (.inr hu)) d hd;obtain ⟨d0,hd0⟩:∃ x,d.args[0]?=some x:=⟨_,Taa om⟩;obtain ⟨d1,hd1⟩:∃ x,d.args[1]?=some x:=⟨_,Taa om⟩;exact ((h2.2 d0 d1 hd0 hd1).2.2 hu p u (by rw [<- e];exact h.at') h.fst).1
 have has:p.assoc=false:=by
  cases hp:p.assoc with
  | false=>rfl
  | true =>
   have:=((hg.axs p (Tac h.at')).two (.inl hp) u h.fst).1;omega
 have hl:=h.nas has;have hnil:a.args=[]:=Tao om;have hnm:=h.nm;have hso:=h.so
 cases a with
 | mk x n s l =>
  simp only [Tm.args,Tm.name,Tm.sort,Tm.op] at *;subst hnil hnm hso hop;simp only [ZaB,if_neg hu]
theorem ZiT {o:Opr} (h0:0<=o.unit) (h1:o.unit<=14):okTm (ZaB o):=by
 rw [Zff];simp only [ZaB,Tm.op,Tm.name,Tm.sort,Tm.args,ZaF,and_true];refine ⟨?_,by simp [maxLen],?_⟩
 ·unfold I64;split <;> omega
 ·unfold I64;omega
theorem Zqi (hokg:ZbY g) (hg:SgnOk g) {t:Tm} {o:Opr} {d:Dcl} (hA:AppOk g t o d) (hF:∀ a∈t.args,ZaH g a) (hok:okTm t) (hb:sizeTm t<=big):Con e0 74 [.agg (Zak g),.agg (Zab t)] [.one (.lit (.bool (Zeg g t.op t.args)))]:=by
 have hno:¬ Zjx g t.op t.args->Zeg g t.op t.args=false:=fun h=>by simp [Zeg,h]
 obtain ⟨k1,k2,k3,k4⟩:=Zff.1 hok;have hsz:=ZaM t;have hal:=Zbq t.args;unfold big at hb;have h0:=hA.lo;have ho:=hA.at';have hd:=hA.fst;obtain ⟨d',hd',hr0,hr1,hargs⟩:=hg.first ho;rw [hd] at hd';injection hd' with hd'
 subst hd';have hax:=hg.axs o (Tac ho);have hlo:=hax.lo;have hhi:=hax.hi;have hln:=hg.len;have cK:=ZdP hg.sorts;rw [Za9] at cK;have cUn:=Zlr hg h0 ho;rw [Zak] at cUn;have hnoA:∀ (i:Nat) a,t.args[i]?=some a->¬ ArgOk g t.op o d t.args i a->Zeg g t.op t.args=false:=fun i a ha h=>hno fun hR=>h (hR o d ho hd i a ha);refine gI 9903595872146772515857895423 Tryz.func74 ?_;refine fB (aj5 @tmz @Zb6 @h0 @ho @Zag) ?_
 refine fC @tmz (cK) ?_;refine fR @tmz ?_;refine fB @tmz ?_;refine fC @tmz (cUn) ?_;refine fR @tmz ?_;refine fG @tmz ?_;have F:=@e0P;refine gL (ι:=Nat) [4,9,10,11,32,42,76,93] [] (fun i=>[(9,A.d (.one (.lit (.int .i64 i))))]) (fun i=>[]) (fun i=>i<=t.args.length∧∀ (j:Nat) a,j < i->t.args[j]?=some a->ArgOk g t.op o d t.args j a) (fun i=>t.args.length - i) (0) (⟨om,fun j a h=>absurd h om⟩) (fun i hi=>?_);clear F
 obtain ⟨hil,hall⟩:=hi;by_cases hl:i < t.args.length;rotate_left
 ·have hl':¬ ((i:Int) < (t.args.length:Int)):=om;have hT:Zeg g t.op t.args=true:=by
   simp only [Zeg,decide_eq_true_eq];intro o' d' ho' hd' j a hj;rw [ho] at ho';injection ho' with ho'
   subst ho';rw [hd] at hd';injection hd' with hd'
   subst hd';exact hall j a (by have:=(Tad.1 hj).1;omega) hj
  exact fT (aj3 @tmz @hl' @hT)
 have hl':(i:Int) < (t.args.length:Int):=om;obtain ⟨a,ha⟩:∃ a,t.args[i]?=some a:=⟨_,Taa hl⟩;have hm:=Tac ha;have hFa:=hF a hm;have hw1:=Zat (k:=i) om;obtain ⟨k,hk⟩:=ZfL hg ho hd hA.nas hl;obtain ⟨hk0,hk1⟩:=hargs k (Tac hk);have hkd:=ZfK hg.sorts hk0 hk1;have cKa:=Zh5 hokg hg hFa.node;rw [Zak] at cKa;have cU:=Ze1 (k4.mem hm) (ZiT (o:=o) hlo om);have hUiff:o.unit≠0->(Zai a (ZaB o)=0 ↔ a.op=o.unit - 1):=fun hu=>by
  rw [Zdz];constructor
  ·rintro h;rw [h];simp [ZaB,Tm.op,hu]
  ·exact ZfN hg ho hu hFa
 generalize hU:decide (Zai a (ZaB o)=0)=U at cU;have hnext:ZbK g a=((kd g.sorts k:Nat):Int)->(o.assoc=true->¬ a.op=t.op)->(o.unit≠0->U=false)->(o.comm=true->∀ (j:Nat) p,i=j+1->t.args[j]?=some p->Zai p a<=0)->i+1<=t.args.length∧∀ (j:Nat) a,j < i+1->t.args[j]?=some a->ArgOk g t.op o d t.args j a:=fun hkk hne hU' hc=>⟨om,fun j a' hj ha'=>by
  by_cases e:j=i
  ·subst e;rw [ha] at ha';injection ha' with ha'
   subst ha';refine ⟨fun k' hk'=>?_,hne,fun h1 h2=>?_,hc⟩
   ·rw [hk] at hk';injection hk' with hk'
    subst hk';exact hkk
   ·have:=hU' h1;rw [this] at hU;simp only [decide_eq_false_iff_not] at hU;exact hU ((hUiff h1).2 h2)
  ·exact hall j a' om ha'⟩
 have hkN:d.args[(argAt o i:Nat)]?=some k:=hk;refine fG (aj3 @tmz @hl' @ha) ?_;refine gM (ι:=Unit) [11] [] (fun u=>[(11,A.d (.one (.lit (.int .i64 (argAt o i:Nat)))))]) (fun u=>[]) (fun u=>True) ?_ (fun u hu=>Exists.intro _ (ai (Wk.refl _) ?_))
 ·rcases Bool.eq_false_or_eq_true o.assoc with hac | hac
  ·have F:=aj3 @Zag @hac @Zgg;refine gG ?_;exact ⟨(),trivial,gw,gw⟩
  ·have F:=aj4 @Zag @hac @Zgg @if_false.{1};refine gG ?_;exact ⟨(),trivial,gw,gw⟩
 refine fG @tmz ?_;refine gM (ι:=Bool) [76] [] (fun x=>[(76,A.d (.one (.lit (.bool x))))]) (fun x=>[]) (fun x=>(x=true->Zeg g t.op t.args=false)∧(x=false->ZbK g a=((kd g.sorts k:Nat):Int)∧(o.assoc=true->¬ a.op=t.op)∧(o.unit≠0->U=false))) ?_ (fun x hx=>Exists.intro _ (ai (Wk.refl _) ?_))
 ·refine gB ?_;refine fC @tmz (cKa) ?_;by_cases hkk:ZbK g a=((kd g.sorts k:Nat):Int);rotate_left
  ·have hf:=hnoA i a ha fun h=>hkk (h.kind k hk);refine fR (aj9 @tmz @Zag @hd @ZaN @hkN @hk0 @hkd @Zaz @hkk) ?_;have F:=@tmz;refine gG ?_;exact ⟨true,⟨fun _=>hf,fun h=>by cases h⟩,gw,gw⟩
  by_cases hN:o.assoc=true∧a.op=t.op
  ·have hf:=hnoA i a ha fun h=>h.nest hN.1 hN.2;obtain ⟨hN1,hN2⟩:=hN;refine fR (aj11 @tmz @Zag @hd @ZaN @hkN @hk0 @hkd @Zaz @hkk @hN1 @hN2) ?_;have F:=ai @tmz @hN1;refine gG ?_;exact ⟨true,⟨fun _=>hf,fun h=>by cases h⟩,gw,gw⟩
  have hne:o.assoc=true->¬ a.op=t.op:=fun h1 h2=>hN ⟨h1,h2⟩;rcases Bool.eq_false_or_eq_true o.assoc with hac | hac
  all_goals (
   by_cases hu:o.unit=0
   ·refine fR (aj12 @tmz @Zag @hd @ZaN @hkN @hk0 @hkd @Zaz @hkk @hac @hne @hu) ?_;have F:=aj3 @tmz @hac @hu;refine gG ?_;exact ⟨false,⟨fun h=>(by cases h),fun _=>⟨hkk,hne,fun h=>absurd hu h⟩⟩,gw,gw⟩
   refine fC (aj12 @tmz @Zag @hd @ZaN @hkN @hk0 @hkd @Zaz @hkk @hac @hne @hu) (cU) ?_;rcases Bool.eq_false_or_eq_true U with hub | hub
   ·have hf:=hnoA i a ha fun h=>by
     rw [hub] at hU;simp only [decide_eq_true_eq] at hU;exact h.unit hu ((hUiff hu).1 hU)
    refine fR (ai @tmz @hub) ?_;have F:=aj3 @tmz @hac @hu;refine gG ?_;exact ⟨true,⟨fun _=>hf,fun h=>by cases h⟩,gw,gw⟩
   ·refine fR (ai @tmz @hub) ?_
    (have F:=aj3 @tmz @hac @hu;refine gG ?_;exact ⟨false,⟨fun h=>(by cases h),fun _=>⟨hkk,hne,fun _=>hub⟩⟩,gw,gw⟩))
 cases x with
 | true =>
  have hf:=hx.1 rfl;exact fT @hf
 | false =>
  obtain ⟨hkk,hne,hub⟩:=hx.2 rfl;refine fG @tmz ?_;rcases Bool.eq_false_or_eq_true o.comm with hcm | hcm
  rotate_left
  ·have hq:=hnext hkk hne hub (fun h=>by rw [hcm] at h;cases h);have F:=aj4 @hw1 @tmz @Zag @hcm;refine gG ?_;exact ⟨i+1,hq,gw,gw,om⟩
  rcases Nat.eq_zero_or_pos i with hi0 | hi0
  ·have hq:=hnext hkk hne hub (fun _ j p h=>om);have hi0':¬ ((0:Int) < (i:Int)):=om;have F:=aj5 @hw1 @tmz @Zag @hcm @hi0';refine gG ?_;exact ⟨i+1,hq,gw,gw,om⟩
  obtain ⟨j,hj⟩:∃ j,i=j+1:=⟨i - 1,om⟩;obtain ⟨p,hp⟩:∃ p,t.args[j]?=some p:=⟨_,Taa om⟩;have cC:=Zdl (k4.mem (Tac hp)) (k4.mem hm);have hgt0:(0:Int) < (i:Int):=om;have hsub:IntKind.i64.wrap ((i:Int) - 1)=(j:Int):=ZaJ om om om;refine gB ?_;refine fC (aj6 @tmz @Zag @hcm @hgt0 @hsub @hp) (cC) ?_;by_cases hc:0 < Zai p a
  ·have hf:=hnoA i a ha fun h=>by have:=h.ord hcm j p hj hp;omega
   refine fR (ai @tmz @hc) ?_;exact fT @hf
  ·have hq:=hnext hkk hne hub (fun _ j' p' h hp'=>by
    have:j'=j:=om;subst this;rw [hp] at hp';injection hp' with hp'
    subst hp';omega)
   refine fR (ai @tmz @hc) ?_;have F:=aj4 @hw1 @tmz @Zag @hcm;refine gG ?_;exact ⟨i+1,hq,gw,gw,om⟩
theorem Zmo (hokg:ZbY g) (hg:SgnOk g):∀ (n:Nat) (t:Tm),sizeTm t < n->okTm t->sizeTm t<=big->Con e0 37 [.agg (Zak g),.agg (Zab t)] [.one (.lit (.bool (Zb0 g t)))]:=by
 intro n
 induction n with
 | zero=>intro t h;omega
 | succ n ih =>
  intro t hn hok hb;have hno:¬ ZaH g t->Zb0 g t=false:=ZiP;obtain ⟨k1,k2,k3,k4⟩:=Zff.1 hok;have hsz:=ZaM t;have hal:=Zbq t.args;have cN:=Zlx hg hok hb;have hb':=hb;unfold big at hb';rw [Zak] at cN;have ih':=fun a h1 h2 h3=>ih a h1 h2 h3;simp only [Zak] at ih';refine gI 16794175 Tryz.func37 ?_;refine fB (ai @tmz @Zb6) ?_;refine fC @tmz (cN) ?_;by_cases hN:Zd6 g t=true;rotate_left
  ·have hf:=hno fun h=>hN (Zfy h.node);have hN':Zd6 g t=false:=by simpa using hN
   refine fR (ai @tmz @hN') ?_;exact fT @hf
  have hNd:=Zlw.1 hN;refine fR (ai @tmz @hN) ?_;refine fG @tmz ?_;have F:=@e0P;refine gL (ι:=Nat) [4,5,14,24] [] (fun i=>[(5,A.d (.one (.lit (.int .i64 i))))]) (fun i=>[]) (fun i=>i<=t.args.length∧∀ (j:Nat) a,j < i->t.args[j]?=some a->ZaH g a) (fun i=>t.args.length - i) (0) (⟨om,fun j a h=>absurd h om⟩) (fun i hi=>?_);clear F;obtain ⟨hil,hall⟩:=hi;by_cases hl:i < t.args.length;rotate_left
  ·have hl':¬ ((i:Int) < (t.args.length:Int)):=om;have hF:∀ a∈t.args,ZaH g a:=fun a ha=>by
    obtain ⟨j,hj⟩:=Tbk ha;exact hall j a (by have:=(Tad.1 hj).1;omega) hj
   by_cases h1:t.op=-1
   ·have hT:=Zfw (g:=g) (t:=t) (ZaY.2 ⟨hNd,hF,.inl h1⟩);exact fT (aj4 @tmz @hl' @h1 @hT)
   obtain ⟨o,d,hA⟩:=hNd.app h1;have cR:=Zqi hokg hg hA hF hok hb;rw [Zak] at cR;have e:Zeg g t.op t.args=Zb0 g t:=by
    unfold Zeg Zb0;congr 1;rw [ZaY];exact propext ⟨fun h=>⟨hNd,hF,.inr h⟩,fun h=>h.2.2.resolve_left h1⟩
   refine fB (aj3 @tmz @hl' @h1) ?_;refine fC (ai @tmz @h1) (cR) ?_;refine fR @tmz ?_;exact fT @e
  have hl':(i:Int) < (t.args.length:Int):=om;obtain ⟨a,ha⟩:∃ a,t.args[i]?=some a:=⟨_,Taa hl⟩;have hm:=Tac ha;have hsa:=Za5 hm;have hw1:=Zat (k:=i) om;refine fB (aj3 @tmz @hl' @ha) ?_;refine fC (ai @tmz @ha) (ih' a om (k4.mem hm) (by unfold big;omega)) ?_;by_cases hfa:Zb0 g a=true;rotate_left
  ·have hf:=hno fun h=>hfa (Zfw ((ZaY.1 h).2.1 a hm));have hfa':Zb0 g a=false:=by simpa using hfa
   refine fR (ai @tmz @hfa') ?_;exact fT @hf
  have hq:i+1<=t.args.length∧∀ (j:Nat) a,j < i+1->t.args[j]?=some a->ZaH g a:=⟨om,fun j a' hj ha'=>by
   by_cases e:j=i
   ·subst e;rw [ha] at ha';injection ha' with ha'
    subst ha';exact Zlo.1 hfa
   ·exact hall j a' om ha'⟩
  refine fR (ai @tmz @hfa) ?_;have F:=ai @hw1 @tmz;refine gG ?_;exact ⟨i+1,hq,gw,gw,om⟩
theorem Zs8 (hokg:ZbY g) (hg:SgnOk g) {t:Tm} (hok:okTm t) (hb:sizeTm t<=big):Con e0 37 [.agg (Zak g),.agg (Zab t)] [.one (.lit (.bool (Zb0 g t)))]:=Zmo hokg hg _ t (Tan _) hok hb
theorem Zfi (hokg:ZbY g) {t:Tm} (hok:okTm t) (hb:sizeTm t<=big):Con e0 9 [.agg (Zak g),.agg (Zab t)] [.one (.lit (.bool (Zbn g && ZbO g t)))]:=by
 have cS:=Zhf hokg;rw [Zak] at cS;refine gI 31 Tryz.func9 ?_;refine fB (ai @tmz @Zb6) ?_;refine fC @tmz (cS) ?_;by_cases hs:Zbn g=true;rotate_left
 ·have hs':Zbn g=false:=by simpa using hs
  refine fR (ai @tmz @hs') ?_;exact fT @hs'
 have hg:=ZcF.1 hs;have cF:=Zs8 hokg hg hok hb;rw [Zak] at cF;refine fC (ai @tmz @hs) (Zhj hb) ?_;by_cases h1:sizeTm t<=60∧depthTm t<=20;rotate_left
 ·have hf:ZbO g t=false:=ZiQ fun h=>h1 ⟨h.size,h.depth⟩;have h1':decide (sizeTm t<=60∧depthTm t<=20)=false:=by simp only [decide_eq_false_iff_not];exact h1
  refine fR (aj3 @tmz @h1' @hs) ?_;exact fT (ai @hs @hf)
 have h1':decide (sizeTm t<=60∧depthTm t<=20)=true:=by simp only [decide_eq_true_eq];exact h1
 have e:=Zj1 (g:=g) h1.1 h1.2;refine fC (aj3 @tmz @h1' @hs) (cF) ?_;refine fR (aj3 @tmz @h1' @hs) ?_;exact fT (ai @hs @e)
end
def ZaA (o:Opr) (op:Int) (a:Tm):List Tm:=if o.assoc=true∧a.op=op then a.args else if o.unit≠0∧a.op=o.unit - 1 then [] else [a]
def Zah (o:Opr) (op:Int) (xs:List Tm):List Tm:=xs.flatMap (ZaA o op)
def KArg (g:Sgn) (o:Opr) (d:Dcl) (i:Nat) (a:Tm):Prop:=∃ k,d.args[argAt o i]?=some k∧ZbK g a=kd g.sorts k
def srtO (o:Opr) (l:List Tm):List Tm:=if o.comm=true then Zaw l else l
def appT (op:Int) (l:List Tm):Tm:=.mk op ByteArray.empty 0 l
def BigT (o:Opr) (op:Int) (l:List Tm):Prop:=(o.assoc=true∧7 < l.length)∨60 < sizeTm (appT op l)∨20 < depthTm (appT op l)
def ArB (o:Opr) (d:Dcl) (n:Nat):Prop:=(o.assoc=true∧n < 2)∨(o.assoc=false∧n≠d.args.length)
open Classical in
noncomputable def mkL (o:Opr) (op:Int) (l:List Tm):Option Tm:=if o.unit≠0∧l.length < 2 then some (l.headD (ZaB o)) else if BigT o op (srtO o l) then none else some (appT op (srtO o l))
open Classical in
noncomputable def mkO (g:Sgn) (o:Opr) (d:Dcl) (op:Int) (xs:List Tm):Option Tm:=if ArB o d xs.length then none else if ∀ (i:Nat) a,xs[i]?=some a->KArg g o d i a then mkL o op (Zah o op xs) else none
noncomputable def mkT (g:Sgn) (op:Int) (xs:List Tm):Option Tm:=match g.ops[op.toNat]? with
 | none=>none
 | some o=>match o.decls[0]? with
  | none=>none
  | some d=>mkO g o d op xs
theorem Zd7 {g:Sgn} {op:Int} {o:Opr} {d:Dcl} (ho:g.ops[op.toNat]?=some o) (hd:o.decls[0]?=some d) (xs:List Tm):mkT g op xs=mkO g o d op xs:=by simp only [mkT,ho,hd]
theorem Zhk {o:Opr} {op:Int} {xs:List Tm} {i:Nat} {a:Tm} (h:xs[i]?=some a):Zah o op (xs.take (i+1))=Zah o op (xs.take i)++ZaA o op a:=by
 rw [Zcm h];simp [Zah]
theorem Ze2 (o:Opr) (op:Int) (xs:List Tm) (i:Nat):(Zah o op (xs.take i)).length<=(Zah o op xs).length:=by
 have:Zah o op xs=Zah o op (xs.take i)++Zah o op (xs.drop i):=by
  unfold Zah;rw [<- List.flatMap_append,Tbm]
 rw [this,Tae];omega
theorem ZcI (o:Opr) (l:List Tm):(srtO o l).Perm l:=by
 unfold srtO;split
 ·exact Zbr l
 ·exact List.Perm.refl _
theorem ZgE (o:Opr) (l:List Tm):(srtO o l).length=l.length:=(ZcI o l).length_eq
theorem Zd8 {l m:List Tm} (h:l.Perm m):sizeTms l=sizeTms m:=by
 induction h with
 | nil=>rfl
 | cons x h ih=>simp only [sizeTms,ih]
 | swap x y l=>simp only [sizeTms];omega
 | trans h1 h2 a b=>rw [a,b]
theorem Zc7 {l m:List Tm} (h:l.Perm m):depthTms l=depthTms m:=by
 induction h with
 | nil=>rfl
 | cons x h ih=>simp only [depthTms,ih]
 | swap x y l=>simp only [depthTms];omega
 | trans h1 h2 a b=>rw [a,b]
theorem Opr.two {g:Sgn} (hg:SgnOk g) {i:Nat} {o:Opr} {d:Dcl} (ho:g.ops[i]?=some o) (hd:o.decls[0]?=some d) (h:o.assoc=true∨o.comm=true∨o.unit≠0):∃ k1 k2,d.args=[k1,k2]∧kd g.sorts k1=kd g.sorts k2∧((o.assoc=true∨o.unit≠0)->kd g.sorts k1=kd g.sorts d.res):=by
 have h2:=(hg.axs o (Tac ho)).two h d hd;obtain ⟨a,b,hab⟩:=ZoL h2.1;have h3:=h2.2 a b (by rw [hab];rfl) (by rw [hab];rfl);exact ⟨a,b,hab,h3.1,h3.2.1⟩
theorem ZiU {g:Sgn} (hg:SgnOk g) {i:Nat} {o:Opr} {d:Dcl} (ho:g.ops[i]?=some o) (hd:o.decls[0]?=some d) (hu:o.unit≠0):TermOk g (ZaB o)∧ZbK g (ZaB o)=kd g.sorts d.res:=by
 have hax:=hg.axs o (Tac ho);have hlo:=hax.lo;have hhi:=hax.hi;obtain ⟨k1,k2,hk,_⟩:=Opr.two hg ho hd (.inr (.inr hu));obtain ⟨p,hp⟩:∃ p,g.ops[o.unit.toNat - 1]?=some p:=⟨_,Taa om⟩;obtain ⟨u,hfu,_⟩:=hg.first hp;have h2:=((hax.two (.inr (.inr hu)) d hd).2 k1 k2 (by rw [hk];rfl) (by rw [hk];rfl)).2.2 hu p u hp hfu;have e:ZaB o=.mk (o.unit - 1) ByteArray.empty 0 []:=by simp only [ZaB,if_neg hu]
 have hop:((o.unit - 1:Int)).toNat=o.unit.toNat - 1:=om;have has:p.assoc=false:=by
  cases hpa:p.assoc with
  | false=>rfl
  | true=>have:=((hg.axs p (Tac hp)).two (.inl hpa) u hfu).1;omega
 have hA:AppOk g (ZaB o) p u:=by
  rw [e];exact ⟨by simp only [Tm.op];omega,by simp only [Tm.op];rw [hop];exact hp,hfu,rfl,rfl,fun h=>(by rw [has] at h;cases h),fun _=>by simp only [Tm.args,Tak];omega⟩
 refine ⟨⟨?_,?_,ZaY.2 ⟨.inr ⟨p,u,hA⟩,?_,.inr ?_⟩⟩,?_⟩
 ·rw [e];simp only [sizeTm,sizeTms];omega
 ·rw [e];simp only [depthTm,depthTms];omega
 ·rw [e];intro a ha;simp [Tm.args] at ha
 ·rw [e];intro o' d' _ _ j a ha;simp [Tm.args] at ha
 ·have hneg:¬ ((ZaB o).op=-1):=hA.op;rw [ZbK,if_neg hneg,e];simp only [Tm.op];rw [Zh4 (by rw [hop];exact hp) hfu,h2.2]
structure FlOk (g:Sgn) (o:Opr) (op:Int) (b:Tm):Prop where
 form:ZaH g b
 size:sizeTm b<=60
 depth:depthTm b<=20
 nest:o.assoc=true->b.op≠op
 unit:o.unit≠0->b.op≠o.unit - 1
theorem ZBS {g:Sgn} (hg:SgnOk g) {op:Int} {o:Opr} {d:Dcl} (h0:0<=op) (ho:g.ops[op.toNat]?=some o) (hd:o.decls[0]?=some d) {a:Tm} (ha:TermOk g a):∀ b∈ZaA o op a,FlOk g o op b:=by
 intro b hb;unfold ZaA at hb;split at hb
 ·rename_i h;obtain ⟨h1,h2⟩:=h;obtain ⟨_,f2,f3⟩:=ZaY.1 ha.form;have hR:=f3.resolve_left om;rw [h2] at hR;obtain ⟨j,hj⟩:=Tbk hb;have hA:=hR o d ho hd j b hj;have s1:=Za5 hb;have s2:=ZeZ hb;have s3:=ha.size;have s4:=ha.depth;rw [ZaM] at s3;rw [ZcB] at s4;exact ⟨f2 b hb,om,om,hA.nest,hA.unit⟩
 ·rename_i h;split at hb
  ·simp at hb
  ·rename_i h';simp only [Tbj] at hb;subst hb;exact ⟨ha.form,ha.size,ha.depth,fun h1 h2=>h ⟨h1,h2⟩,fun h1 h2=>h' ⟨h1,h2⟩⟩
theorem ZiV {g:Sgn} (hg:SgnOk g) {op:Int} {o:Opr} {d:Dcl} (h0:0<=op) (ho:g.ops[op.toNat]?=some o) (hd:o.decls[0]?=some d) {xs:List Tm} (ha:∀ a∈xs,TermOk g a):∀ b∈Zah o op xs,FlOk g o op b:=by
 intro b hb;obtain ⟨a,h1,h2⟩:=List.mem_flatMap.1 hb;exact ZBS hg h0 ho hd (ha a h1) b h2
theorem ZAG {g:Sgn} (hg:SgnOk g) {op:Int} {o:Opr} {d:Dcl} {k1 k2:Int} (h0:0<=op) (ho:g.ops[op.toNat]?=some o) (hd:o.decls[0]?=some d) (hk:d.args=[k1,k2]) (hkk:kd g.sorts k1=kd g.sorts k2) {a:Tm} (ha:TermOk g a) {i:Nat} (hK:KArg g o d i a):∀ b∈ZaA o op a,ZbK g b=kd g.sorts k1:=by
 have hat:∀ (j:Nat) k,d.args[j]?=some k->kd g.sorts k=kd g.sorts k1:=fun j k h=>by
  rw [hk] at h
  match j,h with
  | 0,h=>simp only [Tat,Taq] at h;rw [h]
  | 1,h=>simp only [Tau,Tat,Taq] at h;rw [<- h,hkk]
  | j+2,h=>simp at h
 intro b hb;unfold ZaA at hb;split at hb
 ·rename_i h;obtain ⟨h1,h2⟩:=h;obtain ⟨_,f2,f3⟩:=ZaY.1 ha.form;have hR:=f3.resolve_left om;rw [h2] at hR;obtain ⟨j,hj⟩:=Tbk hb;exact (hR o d ho hd j b hj).kind k1 (by rw [argAt,if_pos h1,hk];rfl)
 ·split at hb
  ·simp at hb
  ·simp only [Tbj] at hb;subst hb;obtain ⟨k,h1,h2⟩:=hK;rw [h2,hat _ _ h1]
theorem Zj7 {g:Sgn} (hg:SgnOk g) {op:Int} {o:Opr} {d:Dcl} {k1 k2:Int} (h0:0<=op) (ho:g.ops[op.toNat]?=some o) (hd:o.decls[0]?=some d) (hk:d.args=[k1,k2]) (hkk:kd g.sorts k1=kd g.sorts k2) {xs:List Tm} (ha:∀ a∈xs,TermOk g a) (hK:∀ (i:Nat) a,xs[i]?=some a->KArg g o d i a):∀ b∈Zah o op xs,ZbK g b=kd g.sorts k1:=by
 intro b hb;obtain ⟨a,h1,h2⟩:=List.mem_flatMap.1 hb;obtain ⟨i,hi⟩:=Tbk h1;exact ZAG hg h0 ho hd hk hkk (ha a h1) (hK i a hi) b h2
theorem ZwG {o:Opr} {op:Int} (has:o.assoc=false) (a:Tm):(ZaA o op a).length<=1∧((ZaA o op a).length=1->ZaA o op a=[a]):=by
 unfold ZaA;rw [if_neg fun h=>by rw [has] at h;cases h.1];split <;> simp
theorem ZiW {o:Opr} {op:Int} (has:o.assoc=false):∀ (xs:List Tm),(Zah o op xs).length<=xs.length∧((Zah o op xs).length=xs.length->Zah o op xs=xs)
 | []=>⟨Tai _,fun _=>rfl⟩
 | a::xs=>by
  obtain ⟨i1,i2⟩:=ZiW (op:=op) has xs;obtain ⟨j1,j2⟩:=ZwG (op:=op) has a;have e:Zah o op (a::xs)=ZaA o op a++Zah o op xs:=rfl;rw [e,Tae,Tag];refine ⟨om,fun h=>?_⟩;rw [j2 om,i2 om];rfl
theorem Zj8 {o:Opr} {op:Int} (has:o.assoc=false) (hu:o.unit=0) (xs:List Tm):Zah o op xs=xs:=by
 induction xs with
 | nil=>rfl
 | cons a xs ih =>
  have e:Zah o op (a::xs)=ZaA o op a++Zah o op xs:=rfl;rw [e,ih];unfold ZaA;rw [if_neg (fun h=>by rw [has] at h;cases h.1),if_neg fun h=>h.1 hu];rfl
theorem Zly {o:Opr} {op:Int} {g:Sgn} (hg:SgnOk g) (h0:0<=op) (ho:g.ops[op.toNat]?=some o) (hac:o.assoc=true) (hu:o.unit=0):∀ {xs:List Tm},(∀ a∈xs,TermOk g a)->xs.length<=(Zah o op xs).length
 | [],_=>Tai _
 | a::xs,ha=>by
  have ih:=Zly hg h0 ho hac hu (xs:=xs) fun x hx=>ha x (Tal _ hx);have e:Zah o op (a::xs)=ZaA o op a++Zah o op xs:=rfl;rw [e,Tae,Tag];have:1<=(ZaA o op a).length:=by
   unfold ZaA;split
   ·rename_i h;obtain ⟨o',d',hA⟩:=(ha a Tas).form.node.app om;have:o'=o:=by have:=hA.at';rw [h.2,ho] at this;injection this with this;exact this.symm
    subst this;have:=(hA.asc hac).1;omega
   ·rw [if_neg fun h=>h.1 hu];simp
  omega
theorem ZBn {g:Sgn} (hg:SgnOk g) {op:Int} {o:Opr} {d:Dcl} (h0:0<=op) (ho:g.ops[op.toNat]?=some o) (hd:o.decls[0]?=some d) {xs:List Tm} (ha:∀ a∈xs,TermOk g a) {t:Tm} (h:mkO g o d op xs=some t):TermOk g t∧ZbK g t=kd g.sorts d.res:=by
 unfold mkO at h;split at h
 ·cases h
 rename_i hAr;split at h;rotate_left
 ·cases h
 rename_i hK;have hfl:=ZiV hg h0 ho hd ha;unfold mkL at h;split at h
 ·rename_i hu;obtain ⟨hu,hl⟩:=hu;injection h with h
  have hU:=ZiU hg ho hd hu;obtain ⟨k1,k2,hk,hkk,hkr⟩:=Opr.two hg ho hd (.inr (.inr hu));have hfk:=Zj7 hg h0 ho hd hk hkk ha hK
  cases hf:Zah o op xs with
  | nil=>rw [hf] at h;simp only [List.headD] at h;subst h;exact hU
  | cons b bs =>
   rw [hf] at h hfl hfk;simp only [List.headD] at h;subst h;have hb:=hfl b Tas;exact ⟨⟨hb.size,hb.depth,hb.form⟩,by rw [hfk b Tas,hkr (.inr hu)]⟩
 ·rename_i hu;split at h
  ·cases h
  rename_i hB;injection h with h
  subst h;have hB1:¬ (o.assoc=true∧7 < (srtO o (Zah o op xs)).length):=fun q=>hB (.inl q);have hB2:¬ 60 < sizeTm (appT op (srtO o (Zah o op xs))):=fun q=>hB (.inr (.inl q));have hB3:¬ 20 < depthTm (appT op (srtO o (Zah o op xs))):=fun q=>hB (.inr (.inr q));have hp:=ZcI o (Zah o op xs);have hsl:=hp.length_eq;have hmem:∀ b,b∈srtO o (Zah o op xs) ↔ b∈Zah o op xs:=fun b=>hp.mem_iff;have hneg:¬ ((appT op (srtO o (Zah o op xs))).op=-1):=by simp only [appT,Tm.op];omega
  refine ⟨⟨om,om,ZaY.2 ⟨.inr ⟨o,d,h0,ho,hd,rfl,rfl,fun hac=>?_,fun has=>?_⟩,fun a hm=>(hfl a ((hmem a).1 hm)).form,.inr ?_⟩⟩,?_⟩
  ·simp only [appT,Tm.args];have:¬ (xs.length < 2):=fun q=>hAr (.inl ⟨hac,q⟩);by_cases hu0:o.unit=0
   ·have:=Zly hg h0 ho hac hu0 ha;exact ⟨om,by have:¬ (7 < (srtO o (Zah o op xs)).length):=fun q=>hB1 ⟨hac,q⟩;omega⟩
   ·exact ⟨by have:¬ ((Zah o op xs).length < 2):=fun q=>hu ⟨hu0,q⟩;omega,by have:¬ (7 < (srtO o (Zah o op xs)).length):=fun q=>hB1 ⟨hac,q⟩;omega⟩
  ·simp only [appT,Tm.args];have hlen:xs.length=d.args.length:=Classical.byContradiction fun q=>hAr (.inr ⟨has,q⟩);rw [hsl];by_cases hu0:o.unit=0
   ·rw [Zj8 has hu0,hlen]
   ·obtain ⟨k1,k2,hk,_⟩:=Opr.two hg ho hd (.inr (.inr hu0));have h1:=(ZiW (op:=op) has xs).1;have:¬ ((Zah o op xs).length < 2):=fun q=>hu ⟨hu0,q⟩;rw [hlen,hk] at h1;rw [hk];simp only [Tag,Tak] at h1 ⊢;omega
  ·intro o' d' ho' hd' i a hi;simp only [appT,Tm.op] at ho';rw [ho] at ho';injection ho' with ho'
   subst ho';rw [hd] at hd';injection hd' with hd'
   subst hd';simp only [appT,Tm.args] at hi ⊢;have hm:=Tac hi;have hf:=hfl a ((hmem a).1 hm);refine ⟨fun k hk=>?_,hf.nest,hf.unit,fun hc j p hij hj=>?_⟩
   ·by_cases hax:o.assoc=true∨o.comm=true∨o.unit≠0
    ·obtain ⟨k1,k2,hka,hkk,_⟩:=Opr.two hg ho hd hax;have hfk:=Zj7 hg h0 ho hd hka hkk ha hK a ((hmem a).1 hm);rw [hfk];have:kd g.sorts k=kd g.sorts k1:=by
      generalize argAt o i=n at hk;rw [hka] at hk
      match n,hk with
      | 0,hk=>simp only [Tat,Taq] at hk;rw [hk]
      | 1,hk=>simp only [Tau,Tat,Taq] at hk;rw [<- hk,hkk]
      | n+2,hk=>simp at hk
     rw [this]
    ·have has:o.assoc=false:=by cases h:o.assoc with | false=>rfl | true=>exact absurd (.inl h) hax
     have hc:o.comm=false:=by cases h:o.comm with | false=>rfl | true=>exact absurd (.inr (.inl h)) hax
     have hu0:o.unit=0:=Classical.byContradiction fun q=>hax (.inr (.inr q));rw [srtO,if_neg (by rw [hc];simp),Zj8 has hu0] at hi;obtain ⟨k',h1,h2⟩:=hK i a hi;rw [hk] at h1;injection h1 with h1
     rw [h2,h1]
   ·rw [srtO,if_pos hc] at hi hj;exact (ZcH _).get om hj hi
  ·rw [ZbK,if_neg hneg];simp only [appT,Tm.op];rw [Zh4 ho hd]
theorem ZaH.ok {g:Sgn} (hg:SgnOk g):∀ (n:Nat) (t:Tm),sizeTm t < n->ZaH g t->okTm t:=by
 intro n
 induction n with
 | zero=>intro t h;omega
 | succ n ih =>
  intro t hn hf;obtain ⟨h1,h2,_⟩:=ZaY.1 hf;have hargs:ZaF t.args:=by
   have:∀ l:List Tm,(∀ a∈l,okTm a)->ZaF l:=fun l=>by
    induction l with
    | nil=>intro _;trivial
    | cons x xs ih=>intro h;exact ⟨h x Tas,ih fun a ha=>h a (Tal _ ha)⟩
   refine this _ fun a ha=>ih a ?_ (h2 a ha);have:=Za5 ha;rw [ZaM] at hn;omega
  rw [Zff];have hsn:g.sorts.names.length<=8:=hg.sorts.n8;rcases h1 with hv | ⟨o,d,hA⟩
  ·obtain ⟨v1,v2,v3,v4,v5⟩:=hv;have:t.name.size<=12:=by unfold Zba at v2;simp only [Tar,decide_eq_true_eq] at v2;exact v2.1.1.1.2
   exact ⟨by unfold I64;omega,by unfold maxLen;omega,by unfold I64;omega,hargs⟩
  ·have h3:=hA.lo;have h4:=(Tad.1 hA.at').1;have h5:=hg.len;rw [hA.nm,hA.so];exact ⟨by unfold I64;omega,by simp [maxLen],by unfold I64;omega,hargs⟩
theorem TermOk.ok {g:Sgn} (hg:SgnOk g) {t:Tm} (h:TermOk g t):okTm t:=ZaH.ok hg _ t (Tan _) h.form
theorem TermOk.arg {g:Sgn} {t a:Tm} (h:TermOk g t) (ha:a∈t.args):TermOk g a:=by
 have s1:=Za5 ha;have s2:=ZeZ ha;have s3:=h.size;have s4:=h.depth;rw [ZaM] at s3;rw [ZcB] at s4;exact ⟨om,om,(ZaY.1 h.form).2.1 a ha⟩
theorem TermOk.app {g:Sgn} {t a:Tm} (h:TermOk g t) (ha:a∈t.args):∃ o d,AppOk g t o d:=by
 rcases h.form.node with hv | h
 ·rw [hv.2.2.2.2] at ha;cases ha
 ·exact h
theorem ZwH {g:Sgn} (hg:SgnOk g) {op:Int} (h0:0<=op) {xs:List Tm} (ha:∀ a∈xs,TermOk g a) {t:Tm} (h:mkT g op xs=some t):TermOk g t:=by
 unfold mkT at h
 cases ho:g.ops[op.toNat]? with
 | none=>rw [ho] at h;cases h
 | some o =>
  rw [ho] at h;simp only at h
  cases hd:o.decls[0]? with
  | none=>rw [hd] at h;cases h
  | some d =>
   rw [hd] at h;exact (ZBn hg h0 ho hd ha h).1
theorem Zo1 {g:Sgn} {t:Tm} (h:TermOk g t):t.args.length<=60:=by
 have h1:=h.size;rw [ZaM] at h1;have:=Zbq t.args;omega
structure Bd where
 var:Tm
 to:Tm
def ZaO (b:Bd):List C:=Zab b.var++Zab b.to
def okBd (b:Bd):Prop:=okTm b.var∧okTm b.to
def Zcr (l:List Bd):Prop:=∀ b∈l,okBd b
def Zaf (l:List Bd):List (List C):=l.map ZaO
theorem ZaV (l:List Bd):(Zaf l).length=l.length:=by simp [Zaf]
theorem Zb4 (l:List Bd) (i:Nat):(Zaf l)[i]?=l[i]?.map ZaO:=by simp [Zaf]
theorem bd_l:∀ (b:Bd),(ZaO b).length=8:=fun b=>by simp [ZaO,tmz]
theorem ZAc:∀ (b:Bd),(ZaO b).take 8=ZaO b:=fun b=>List.take_of_length_le (by rw [bd_l];omega)
theorem ZAd:∀ (b:Bd),(ZaO b).drop 8=[]:=fun b=>List.drop_eq_nil_of_le (by rw [bd_l];omega)
theorem Zs9:∀ (b:Bd),(ZaO b).take 4=Zab b.var:=fun ⟨v,t⟩=>by cases v;simp [ZaO,Zab]
theorem Zta:∀ (b:Bd),(ZaO b).drop 4=Zab b.to:=fun ⟨v,t⟩=>by cases v;simp [ZaO,Zab]
theorem ZAe:∀ (b:Bd),(ZaO b).drop 2=.lit (.int .i64 b.var.sort)::.sl (Zac b.var.args)::Zab b.to:=fun ⟨v,t⟩=>by cases v;simp [ZaO,Zab,Tm.sort,Tm.args]
theorem bd_o:∀ (b:Bd),valT TK.one (ZaO b)=some (A.d (D.one (C.lit (Value.int IntKind.i64 b.var.op)))):=fun ⟨v,t⟩=>by cases v;simp [ZaO,Zab,Tm.op,valT]
theorem bd_k:∀ (b:Bd),(ZaO b).all Zau=true:=fun b=>by simp [ZaO,List.all_append,tmz]
theorem bdz:type_of% (aj8 bd_l ZAc ZAd Zs9 Zta ZAe bd_o bd_k):=aj8 bd_l ZAc ZAd Zs9 Zta ZAe bd_o bd_k
theorem Ztb:∀ (b:Bd),(ZaO b).drop 1=.lit (.string b.var.name)::.lit (.int .i64 b.var.sort)::.sl (Zac b.var.args)::Zab b.to:=fun ⟨v,t⟩=>by cases v;simp [ZaO,Zab,Tm.sort,Tm.args,Tm.name]
theorem bds8 (l:List Bd):ZaI 8 (Zaf l)=true:=by
 refine List.all_eq_true.2 fun r hr=>?_;obtain ⟨y,hy,rfl⟩:=Tbi.1 hr;simp [ZaO,List.all_append,tmz]
end Go.Proofs.YtmdkimnlbaahbaaGreatDoor
namespace Go.Proofs.YtmdkimnlbaahbaaGreatDoor
theorem Zkv (m p:Nat) (a b:Bool):(2 * m+a.toNat) &&& (2 * p+b.toNat)=2 * (m &&& p)+(a && b).toNat:=by
 apply Nat.eq_of_testBit_eq;intro i;rw [Nat.testBit_and]
 cases i with
 | zero=>simp only [Nat.testBit_zero];cases a <;> cases b <;> simp [Nat.add_mod]
 | succ i =>
  simp only [Nat.testBit_succ];have h:∀ (n:Nat) (c:Bool),(2 * n+c.toNat) / 2=n:=fun n c=>by cases c <;> simp <;> omega
  rw [h,h,h,Nat.testBit_and]
theorem ZiX (n:Nat):∃ m,∃ a:Bool,n=2 * m+a.toNat:=by
 refine ⟨n / 2,decide (n % 2=1),?_⟩;rcases Nat.mod_two_eq_zero_or_one n with h | h
 ·rw [h];simp;omega
 ·rw [h];simp;omega
theorem ZAH {m p:Nat} {a b:Bool}:2 * m+a.toNat=2 * p+b.toNat ↔ m=p∧a=b:=by
 constructor
 ·intro h;cases a <;> cases b <;> simp_all <;> omega
 ·rintro ⟨rfl,rfl⟩;rfl
theorem Zm0 {q m:Nat} (h:q &&& m=q):q<=m:=by rw [<- h];exact Nat.and_le_right
theorem Zo2:∀ (m p q:Nat),p &&& m=p->q &&& m=q->q < p->q<=(p - 1) &&& m:=by
 intro m
 induction m using Nat.strongRecOn with
 | ind m ih =>
 intro p q hp hq hlt;by_cases hm:m=0
 ·subst hm;simp at hp hq;omega
 obtain ⟨m',a,rfl⟩:=ZiX m;obtain ⟨p',b,rfl⟩:=ZiX p;obtain ⟨q',c,rfl⟩:=ZiX q;rw [Zkv,ZAH] at hp hq;have hm':m' < 2 * m'+a.toNat:=by cases a <;> simp at hm ⊢ <;> omega
 cases b with
 | true =>
  have e:2 * p'+true.toNat - 1=2 * p'+false.toNat:=by simp
  rw [e,Zkv,hp.1]
  cases c <;> simp at hlt hq ⊢ <;> omega
 | false =>
  have hlt':q' < p':=by cases c <;> simp at hlt <;> omega
  have e:2 * p'+false.toNat - 1=2 * (p' - 1)+true.toNat:=by simp;omega
  rw [e,Zkv];have:=ih m' hm' p' q' hp.1 hq.1 hlt';have h2:=hq.2
  cases c <;> cases a <;> simp at h2 ⊢ <;> omega
open Classical in
noncomputable def ofB (P:Nat->Prop):Nat->Nat
 | 0=>0
 | n+1=>ofB P n ||| (if P n then 2 ^ n else 0)
theorem Zc8 (P:Nat->Prop):∀ (n i:Nat),(ofB P n).testBit i=true ↔ i < n∧P i
 | 0,i=>by simp [ofB]
 | n+1,i=>by
  rw [ofB,Nat.testBit_or,Bool.or_eq_true,Zc8 P n i];by_cases h:P n
  ·rw [if_pos h,Nat.testBit_two_pow];simp only [decide_eq_true_eq];constructor
   ·rintro (⟨h1,h2⟩ | rfl)
    ·exact ⟨om,h2⟩
    ·exact ⟨om,h⟩
   ·rintro ⟨h1,h2⟩;by_cases h3:n=i
    ·exact .inr h3
    ·exact .inl ⟨om,h2⟩
  ·rw [if_neg h];simp only [Nat.zero_testBit,Tam,or_false];constructor
   ·rintro ⟨h1,h2⟩;exact ⟨om,h2⟩
   ·rintro ⟨h1,h2⟩;by_cases h3:i=n
    ·subst h3;exact absurd h2 h
    ·exact ⟨om,h2⟩
theorem Zb1 (P:Nat->Prop) (n:Nat):ofB P n < 2 ^ n:=by
 apply Nat.lt_pow_two_of_testBit;intro i hi
 cases h:(ofB P n).testBit i with
 | false=>rfl
 | true=>have:=((Zc8 P n i).1 h).1;omega
theorem Zlz {v n i:Nat} (h:v < 2 ^ n) (hb:v.testBit i=true):i < n:=by
 apply Classical.byContradiction;intro hc;have:v < 2 ^ i:=Tbd h (Tbs (by decide) om);rw [Tbt this] at hb
 cases hb
theorem Ztc {v u:Nat} (h:∀ i,v.testBit i=true ↔ u.testBit i=true):v=u:=by
 apply Nat.eq_of_testBit_eq;intro i;have:=h i
 cases h1:v.testBit i <;> cases h2:u.testBit i <;> simp_all
theorem ZlA {P:Nat->Prop} {n v:Nat} (hv:v < 2 ^ n) (h:∀ i,i < n->(v.testBit i=true ↔ P i)):v=ofB P n:=by
 apply Ztc;intro i;rw [Zc8];constructor
 ·intro hb;have:=Zlz hv hb;exact ⟨this,(h i this).1 hb⟩
 ·rintro ⟨h1,h2⟩;exact (h i h1).2 h2
theorem ZaX {P Q:Nat->Prop} {n:Nat} (h:∀ i,i < n->(P i ↔ Q i)):ofB P n=ofB Q n :=
 ZlA (Zb1 P n) fun i hi=>by rw [Zc8,h i hi];exact ⟨fun x=>x.2,fun x=>⟨hi,x⟩⟩
inductive BagB (R:Nat->Nat->Nat->Prop) (sets:List Nat):Nat->Nat->Prop
 | leaf {i b s:Nat}:sets[i]?=some s->s.testBit b=true->BagB R sets (2 ^ i) b
 | node {p q a c b:Nat}:p≠0->q≠0->p &&& q=0->BagB R sets p a->BagB R sets q c->R a c b->BagB R sets (p ||| q) b
inductive ChB (R:Nat->Nat->Nat->Prop) (sets:List Nat):Nat->Nat->Nat->Prop
 | leaf {i b s:Nat}:sets[i]?=some s->s.testBit b=true->ChB R sets i (i+1) b
 | node {i k j a c b:Nat}:i < k->k < j->ChB R sets i k a->ChB R sets k j c->R a c b->ChB R sets i j b
def Two (R:Nat->Nat->Nat->Prop) (s t b:Nat):Prop:=∃ a c,s.testBit a=true∧t.testBit c=true∧R a c b
theorem Zsf (i j:Nat):(2 ^ i).testBit j=true ↔ i=j:=by rw [Nat.testBit_two_pow];simp
theorem Zkw {p:Nat} (h:p≠0):∃ i,p.testBit i=true:=by
 apply Classical.byContradiction;intro hc;apply h;apply Nat.eq_of_testBit_eq;intro i
 cases hb:p.testBit i with
 | false=>simp
 | true=>exact absurd ⟨i,hb⟩ hc
theorem Zmp {p q i:Nat} (h:p &&& q=0) (h1:p.testBit i=true) (h2:q.testBit i=true):False:=by
 have:=congrArg (fun x=>x.testBit i) h;simp [h1,h2] at this
theorem Ztd {p q i:Nat} (hp:p≠0) (hq:q≠0) (h:p &&& q=0):p ||| q≠2 ^ i:=by
 intro e;obtain ⟨a,ha⟩:=Zkw hp;obtain ⟨c,hc⟩:=Zkw hq;have h1:(2 ^ i).testBit a=true:=by rw [<- e,Nat.testBit_or,ha];rfl
 have h2:(2 ^ i).testBit c=true:=by rw [<- e,Nat.testBit_or,hc];simp
 rw [Zsf] at h1 h2;subst h1;subst h2;exact Zmp h ha hc
theorem Zkx {R:Nat->Nat->Nat->Prop} {sets:List Nat} {i s b:Nat} (hs:sets[i]?=some s):BagB R sets (2 ^ i) b ↔ s.testBit b=true:=by
 constructor
 ·intro h;generalize hm:2 ^ i=m at h
  cases h with
  | leaf h1 h2 =>
   have:=(Nat.pow_right_inj (by decide)).1 hm;subst this;rw [hs] at h1;injection h1 with h1;subst h1;exact h2
  | node h1 h2 h3 _ _ _=>exact absurd hm.symm (Ztd h1 h2 h3)
 ·exact fun h=>.leaf hs h
theorem ZBo {p q:Nat} (h:p &&& q=0):(p ||| q) ^^^ p=q:=by
 apply Nat.eq_of_testBit_eq;intro i;rw [Nat.testBit_xor,Nat.testBit_or]
 cases h1:p.testBit i <;> cases h2:q.testBit i <;> simp
 exact absurd h1 (by intro h1;exact Zmp h h1 h2)
theorem Zsg {p m:Nat} (h:p &&& m=p) {i:Nat} (hi:p.testBit i=true):m.testBit i=true:=by
 rw [<- h,Nat.testBit_and] at hi;simp at hi;exact hi.2
theorem Zsh {p m:Nat} (h:p &&& m=p):p &&& (m ^^^ p)=0∧p ||| (m ^^^ p)=m:=by
 constructor
 ·apply Nat.eq_of_testBit_eq;intro i;rw [Nat.testBit_and,Nat.testBit_xor]
  cases h1:p.testBit i with
  | false=>simp
  | true=>simp [Zsg h h1]
 ·apply Nat.eq_of_testBit_eq;intro i;rw [Nat.testBit_or,Nat.testBit_xor]
  cases h1:p.testBit i with
  | false=>simp
  | true=>simp [Zsg h h1]
theorem Zo3 {p m:Nat} (h:p≠m):m ^^^ p≠0:=by
 intro e;apply h;apply Nat.eq_of_testBit_eq;intro i;have:=congrArg (fun x=>x.testBit i) e;rw [Nat.testBit_xor] at this
 cases h1:p.testBit i <;> cases h2:m.testBit i <;> simp [h1,h2] at this ⊢
theorem Zo4 {R:Nat->Nat->Nat->Prop} {sets:List Nat} {m b:Nat} (hm:∀ i,m≠2 ^ i):BagB R sets m b ↔ ∃ p,p≠0∧p≠m∧p &&& m=p∧∃ a c,BagB R sets p a∧BagB R sets (m ^^^ p) c∧R a c b:=by
 constructor
 ·intro h
  cases h with
  | leaf=>exact absurd rfl (hm _)
  | node h1 h2 h3 h4 h5 h6 =>
   rename_i p q a c;refine ⟨p,h1,?_,?_,a,c,h4,?_,h6⟩
   ·intro e;obtain ⟨i,hi⟩:=Zkw h2;exact Zmp h3 (by rw [e,Nat.testBit_or,hi];simp) hi
   ·apply Nat.eq_of_testBit_eq;intro i;rw [Nat.testBit_and,Nat.testBit_or];cases p.testBit i <;> simp
   ·rw [ZBo h3];exact h5
 ·rintro ⟨p,h1,h2,h3,a,c,h4,h5,h6⟩;have:=Zsh h3;have h:=BagB.node h1 (Zo3 h2) this.1 h4 h5 h6;rw [this.2] at h;exact h
theorem ZhG {R:Nat->Nat->Nat->Prop} {sets:List Nat} {i s b:Nat} (hs:sets[i]?=some s):ChB R sets i (i+1) b ↔ s.testBit b=true:=by
 constructor
 ·intro h;generalize hj:i+1=j at h
  cases h with
  | leaf h1 h2=>rw [hs] at h1;injection h1 with h1;subst h1;exact h2
  | node h1 h2 _ _ _=>omega
 ·exact fun h=>.leaf hs h
theorem Zsi {R:Nat->Nat->Nat->Prop} {sets:List Nat} {i j b:Nat} (hij:i+1 < j):ChB R sets i j b ↔ ∃ k,i < k∧k < j∧∃ a c,ChB R sets i k a∧ChB R sets k j c∧R a c b:=by
 constructor
 ·intro h
  cases h with
  | leaf=>omega
  | node h1 h2 h3 h4 h5=>exact ⟨_,h1,h2,_,_,h3,h4,h5⟩
 ·rintro ⟨k,h1,h2,a,c,h3,h4,h5⟩;exact .node h1 h2 h3 h4 h5
theorem ZBp {R:Nat->Nat->Nat->Prop} {s t b:Nat}:ChB R [s,t] 0 2 b ↔ Two R s t b:=by
 rw [Zsi om];constructor
 ·rintro ⟨k,h1,h2,a,c,h3,h4,h5⟩;obtain rfl:k=1:=by omega
  exact ⟨a,c,(ZhG (i:=0) rfl).1 h3,(ZhG (i:=1) rfl).1 h4,h5⟩
 ·rintro ⟨a,c,h3,h4,h5⟩;exact ⟨1,om,om,a,c,(ZhG (i:=0) rfl).2 h3,(ZhG (i:=1) rfl).2 h4,h5⟩
theorem ZwI:∀ i,3≠2 ^ i
 | 0=>by decide
 | 1=>by decide
 | i+2=>by rw [Nat.pow_succ];omega
theorem ZAI {R:Nat->Nat->Nat->Prop} {s t b:Nat}:BagB R [s,t] 3 b ↔ Two R s t b∨Two R t s b:=by
 rw [Zo4 ZwI];have l0:∀ x,BagB R [s,t] 1 x ↔ s.testBit x=true:=fun x=>Zkx (i:=0) rfl;have l1:∀ x,BagB R [s,t] 2 x ↔ t.testBit x=true:=fun x=>Zkx (i:=1) rfl;constructor
 ·rintro ⟨p,h1,h2,h3,a,c,h4,h5,h6⟩;have:=Zm0 h3;rcases (by omega:p=1∨p=2) with rfl | rfl
  ·exact .inl ⟨a,c,(l0 a).1 h4,(l1 c).1 h5,h6⟩
  ·exact .inr ⟨a,c,(l1 a).1 h4,(l0 c).1 h5,h6⟩
 ·rintro (⟨a,c,h4,h5,h6⟩ | ⟨a,c,h4,h5,h6⟩)
  ·exact ⟨1,by decide,by decide,by decide,a,c,(l0 a).2 h4,(l1 c).2 h5,h6⟩
  ·exact ⟨2,by decide,by decide,by decide,a,c,(l1 a).2 h4,(l0 c).2 h5,h6⟩
end Go.Proofs.YtmdkimnlbaahbaaGreatDoor
namespace Go.Proofs.YtmdkimnlbaahbaaGreatDoor
open Go.RowKit
theorem ZfO (P Q:Nat->Prop) (n:Nat):ofB P n ||| ofB Q n=ofB (fun b=>P b∨Q b) n :=
 ZlA (Nat.or_lt_two_pow (Zb1 P n) (Zb1 Q n)) fun i hi=>by
  rw [Nat.testBit_or,Bool.or_eq_true,Zc8,Zc8];simp only [hi,true_and]
theorem ZgF {P:Nat->Prop} {n:Nat} (h:∀ i,i < n->¬ P i):ofB P n=0 :=
 (ZlA (Nat.pos_of_ne_zero (by have:=Nat.one_le_two_pow (n:=n);omega)) fun i hi=>by
  rw [Nat.zero_testBit];exact ⟨fun e=>(by cases e),fun e=>absurd e (h i hi)⟩).symm
theorem ZgG {v n:Nat} (h:v < 2 ^ n):ofB (fun b=>v.testBit b=true) n=v:=(ZlA h fun i _=>Iff.rfl).symm
def upk (g:Sgn) (k:Int):Nat:=(up g.sorts).getD k.toNat 0
theorem ZhH {g:Sgn} (hs:SortsOk g.sorts) {k:Int} (h0:0<=k) (h1:k < g.sorts.names.length):(up g.sorts)[k.toNat]?=some (upk g k)∧upk g k < 2 ^ g.sorts.names.length :=
 (Zft (SortsOk.subsIn hs.subs)).get om
def Zdg (g:Sgn) (o:Opr) (sets:List Nat) (b:Nat):Prop:=∃ d∈o.decls,(∀ (i:Nat) k s,d.args[i]?=some k->sets[i]?=some s->s.testBit k.toNat=true)∧(upk g d.res).testBit b=true
def Rel2 (g:Sgn) (o:Opr) (a c b:Nat):Prop:=∃ d∈o.decls,d.args.map Int.toNat=[a,c]∧(upk g d.res).testBit b=true
def AnyB (g:Sgn) (o:Opr) (sets:List Nat) (b:Nat):Prop:=Zdg g o sets b∨(o.comm=true∧Zdg g o sets.reverse b)
def AppB (g:Sgn) (o:Opr) (sets:List Nat) (b:Nat):Prop:=if o.assoc=true then (if o.comm=true then BagB (Rel2 g o) sets (2 ^ sets.length - 1) b else ChB (Rel2 g o) sets 0 sets.length b) else AnyB g o sets b
noncomputable def appS (g:Sgn) (o:Opr) (sets:List Nat):Nat:=ofB (AppB g o sets) g.sorts.names.length
mutual
noncomputable def sortsTm (g:Sgn):Tm->Nat
 | .mk op _ so args=>if op=-1 then upk g so else match g.ops[op.toNat]? with
  | none=>0
  | some o=>appS g o (Zh8 g args)
noncomputable def Zh8 (g:Sgn):List Tm->List Nat
 | []=>[]
 | t::ts=>sortsTm g t::Zh8 g ts
end
theorem ZiY (g:Sgn):∀ (l:List Tm),Zh8 g l=l.map (sortsTm g)
 | []=>rfl
 | t::ts=>by simp only [Zh8,Tbu,ZiY g ts]
theorem Zhl {g:Sgn} {t:Tm} (h:t.op=-1):sortsTm g t=upk g t.sort:=by
 obtain ⟨op,nm,so,args⟩:=t;simp only [Tm.op] at h;simp only [sortsTm,if_pos h,Tm.sort]
theorem Zhm {g:Sgn} {t:Tm} {o:Opr} (h:t.op≠-1) (ho:g.ops[t.op.toNat]?=some o):sortsTm g t=appS g o (t.args.map (sortsTm g)):=by
 obtain ⟨op,nm,so,args⟩:=t;simp only [Tm.op] at h ho;simp only [sortsTm,if_neg h,ho,Tm.args,ZiY]
theorem ZdI {g:Sgn} (hg:SgnOk g) {t:Tm} (ht:ZcN g t):sortsTm g t < 2 ^ g.sorts.names.length:=by
 rcases ht with hv | ⟨o,d,hA⟩
 ·rw [Zhl hv.1];exact (ZhH hg.sorts hv.2.2.1 hv.2.2.2.1).2
 ·rw [Zhm hA.op hA.at'];exact Zb1 _ _
theorem Rel2.lt {g:Sgn} (hg:SgnOk g) {o:Opr} (ho:o∈g.ops) {a c b:Nat} (h:Rel2 g o a c b):b < g.sorts.names.length:=by
 obtain ⟨d,hd,_,hb⟩:=h;have hD:=hg.decls o ho;obtain ⟨f,hf,_⟩:=hD.first;have hd':=hD.all f hf d hd;exact Zlz (ZhH hg.sorts hd'.res.1 hd'.res.2).2 hb
theorem ZeH {g:Sgn} {o:Opr} (h2:∀ d∈o.decls,d.args.length=2) {s t b:Nat}:Zdg g o [s,t] b ↔ Two (Rel2 g o) s t b:=by
 constructor
 ·rintro ⟨d,hd,h1,hb⟩;obtain ⟨x,y,hxy⟩:=ZoL (h2 d hd);rw [hxy] at h1;exact ⟨x.toNat,y.toNat,h1 0 x s rfl rfl,h1 1 y t rfl rfl,d,hd,by rw [hxy];rfl,hb⟩
 ·rintro ⟨a,c,ha,hc,d,hd,he,hb⟩;obtain ⟨x,y,hxy⟩:=ZoL (h2 d hd);rw [hxy] at he;simp only [Tbu,List.map_nil,List.cons.injEq,and_true] at he;obtain ⟨rfl,rfl⟩:=he;refine ⟨d,hd,fun i k u hk hu=>?_,hb⟩;rw [hxy] at hk
  match i,hk,hu with
  | 0,hk,hu =>
   simp only [Tat,Taq] at hk hu;subst hk;subst hu;exact ha
  | 1,hk,hu =>
   simp only [Tau,Tat,Taq] at hk hu;subst hk;subst hu;exact hc
  | i+2,hk,hu=>simp at hk
theorem Opr.deg2 {g:Sgn} (hg:SgnOk g) {i:Nat} {o:Opr} (ho:g.ops[i]?=some o) (h:o.assoc=true∨o.comm=true∨o.unit≠0):∀ d∈o.decls,d.args.length=2:=by
 intro d hd;have hm:=Tac ho;have hD:=hg.decls o hm;obtain ⟨f,hf,_⟩:=hD.first;rw [(hD.all f hf d hd).len];exact ((hg.axs o hm).two h f hf).1
theorem ZAJ {g:Sgn} (hg:SgnOk g) {i:Nat} {o:Opr} (ho:g.ops[i]?=some o) {sets:List Nat} (h:o.assoc=true->sets.length=2):ofB (AnyB g o sets) g.sorts.names.length=appS g o sets:=by
 unfold appS;refine ZaX fun b _=>?_;unfold AppB
 cases ha:o.assoc with
 | false=>rw [if_neg (by simp)]
 | true =>
  rw [if_pos rfl];have h2:=Opr.deg2 hg ho (.inl ha);obtain ⟨s,t,hst⟩:∃ s t,sets=[s,t]:=by
   match sets,h ha with
   | [s,t],_=>exact ⟨s,t,rfl⟩
  subst hst;unfold AnyB;simp only [List.reverse_cons,List.reverse_nil,Tah,List.singleton_append];rw [ZeH h2,ZeH h2]
  cases hc:o.comm with
  | false =>
   rw [if_neg (by simp)];simp only [Tag,Tak];rw [ZBp];simp
  | true =>
   rw [if_pos rfl];simp only [Tag,Tak];rw [show 2 ^ (0+1+1) - 1=3 from rfl,ZAI];simp
theorem BagB.lt {R:Nat->Nat->Nat->Prop} {sets:List Nat} {N:Nat} (hs:∀ s∈sets,s < 2 ^ N) (hR:∀ a c b,R a c b->b < N) {m b:Nat} (h:BagB R sets m b):b < N:=by
 cases h with
 | leaf h1 h2=>exact Zlz (hs _ (Tac h1)) h2
 | node _ _ _ _ _ h=>exact hR _ _ _ h
theorem ChB.lt {R:Nat->Nat->Nat->Prop} {sets:List Nat} {N:Nat} (hs:∀ s∈sets,s < 2 ^ N) (hR:∀ a c b,R a c b->b < N) {i j b:Nat} (h:ChB R sets i j b):b < N:=by
 cases h with
 | leaf h1 h2=>exact Zlz (hs _ (Tac h1)) h2
 | node _ _ _ _ h=>exact hR _ _ _ h
def Ze3 (R:Nat->Nat->Nat->Prop) (sets:List Nat) (N m part b:Nat):Prop:=∃ p,part < p∧p≠0∧p≠m∧p &&& m=p∧Two R (ofB (BagB R sets p) N) (ofB (BagB R sets (m ^^^ p)) N) b
theorem Zjy {R:Nat->Nat->Nat->Prop} {P Q:Nat->Prop} {N b:Nat} (hP:∀ b,P b->b < N) (hQ:∀ b,Q b->b < N):Two R (ofB P N) (ofB Q N) b ↔ ∃ a c,P a∧Q c∧R a c b:=by
 unfold Two;constructor
 ·rintro ⟨a,c,h1,h2,h3⟩;exact ⟨a,c,((Zc8 _ _ _).1 h1).2,((Zc8 _ _ _).1 h2).2,h3⟩
 ·rintro ⟨a,c,h1,h2,h3⟩;exact ⟨a,c,(Zc8 _ _ _).2 ⟨hP a h1,h1⟩,(Zc8 _ _ _).2 ⟨hQ c h2,h2⟩,h3⟩
theorem ZlB {R:Nat->Nat->Nat->Prop} {sets:List Nat} {N m:Nat} (hm:m≠0):ofB (Ze3 R sets N m ((m - 1) &&& m)) N=0:=ZgF fun b _ h=>by
 obtain ⟨p,h1,h2,h3,h4,_⟩:=h;have h5:=Zm0 h4;have:=Zo2 m m p (Nat.and_self m) h4 om;omega
theorem Zm1 {R:Nat->Nat->Nat->Prop} {sets:List Nat} {N m p b:Nat} (hp:p≠0) (hm:p≠m) (h:p &&& m=p):Ze3 R sets N m ((p - 1) &&& m) b ↔ Ze3 R sets N m p b∨Two R (ofB (BagB R sets p) N) (ofB (BagB R sets (m ^^^ p)) N) b:=by
 constructor
 ·rintro ⟨q,h1,h2,h3,h4,h5⟩;by_cases hq:p < q
  ·exact .inl ⟨q,hq,h2,h3,h4,h5⟩
  ·by_cases e:q=p
   ·subst e;exact .inr h5
   ·have:=Zo2 m p q h h4 om;omega
 ·have hlt:(p - 1) &&& m < p:=by have:(p - 1) &&& m<=p - 1:=Nat.and_le_left;omega
  rintro (⟨q,h1,h2,h3,h4,h5⟩ | h5)
  ·exact ⟨q,om,h2,h3,h4,h5⟩
  ·exact ⟨p,hlt,hp,hm,h,h5⟩
theorem Zo5 {R:Nat->Nat->Nat->Prop} {sets:List Nat} {N m:Nat} (hs:∀ s∈sets,s < 2 ^ N) (hR:∀ a c b,R a c b->b < N) (hm:∀ i,m≠2 ^ i):ofB (Ze3 R sets N m 0) N=ofB (BagB R sets m) N:=ZaX fun b _=>by
 rw [Zo4 hm];unfold Ze3;constructor
 ·rintro ⟨p,h1,h2,h3,h4,h5⟩;obtain ⟨a,c,h6,h7,h8⟩:=(Zjy (fun b hb=>BagB.lt hs hR hb) (fun b hb=>BagB.lt hs hR hb)).1 h5;exact ⟨p,h2,h3,h4,a,c,h6,h7,h8⟩
 ·rintro ⟨p,h2,h3,h4,a,c,h6,h7,h8⟩;exact ⟨p,om,h2,h3,h4,(Zjy (fun b hb=>BagB.lt hs hR hb) (fun b hb=>BagB.lt hs hR hb)).2 ⟨a,c,h6,h7,h8⟩⟩
def CutB (R:Nat->Nat->Nat->Prop) (sets:List Nat) (N i j at' b:Nat):Prop:=∃ k,i < k∧k < at'∧k < j∧Two R (ofB (ChB R sets i k) N) (ofB (ChB R sets k j) N) b
theorem Zm2 {R:Nat->Nat->Nat->Prop} {sets:List Nat} {N i j:Nat}:ofB (CutB R sets N i j (i+1)) N=0:=ZgF fun b _ h=>by
 obtain ⟨k,h1,h2,_⟩:=h;omega
theorem Zo6 {R:Nat->Nat->Nat->Prop} {sets:List Nat} {N i j k b:Nat} (h1:i < k) (h2:k < j):CutB R sets N i j (k+1) b ↔ CutB R sets N i j k b∨Two R (ofB (ChB R sets i k) N) (ofB (ChB R sets k j) N) b:=by
 constructor
 ·rintro ⟨q,q1,q2,q3,q4⟩;by_cases e:q=k
  ·subst e;exact .inr q4
  ·exact .inl ⟨q,q1,om,q3,q4⟩
 ·rintro (⟨q,q1,q2,q3,q4⟩ | h)
  ·exact ⟨q,q1,om,q3,q4⟩
  ·exact ⟨k,h1,om,h2,h⟩
theorem Zsj {R:Nat->Nat->Nat->Prop} {sets:List Nat} {N i j:Nat} (hs:∀ s∈sets,s < 2 ^ N) (hR:∀ a c b,R a c b->b < N) (hij:i+1 < j):ofB (CutB R sets N i j j) N=ofB (ChB R sets i j) N:=ZaX fun b _=>by
 rw [Zsi hij];unfold CutB;constructor
 ·rintro ⟨k,h1,h2,h3,h5⟩;obtain ⟨a,c,h6,h7,h8⟩:=(Zjy (fun b hb=>ChB.lt hs hR hb) (fun b hb=>ChB.lt hs hR hb)).1 h5;exact ⟨k,h1,h2,a,c,h6,h7,h8⟩
 ·rintro ⟨k,h1,h2,a,c,h6,h7,h8⟩;exact ⟨k,h1,h2,h2,(Zjy (fun b hb=>ChB.lt hs hR hb) (fun b hb=>ChB.lt hs hR hb)).2 ⟨a,c,h6,h7,h8⟩⟩
theorem Zsk {R:Nat->Nat->Nat->Prop} {sets:List Nat} {N i s:Nat} (hs:sets[i]?=some s) (h:s < 2 ^ N):ofB (BagB R sets (2 ^ i)) N=s:=by
 rw [show ofB (BagB R sets (2 ^ i)) N=ofB (fun b=>s.testBit b=true) N from ZaX fun b _=>Zkx hs,ZgG h]
theorem ZwJ {R:Nat->Nat->Nat->Prop} {sets:List Nat} {N i s:Nat} (hs:sets[i]?=some s) (h:s < 2 ^ N):ofB (ChB R sets i (i+1)) N=s:=by
 rw [show ofB (ChB R sets i (i+1)) N=ofB (fun b=>s.testBit b=true) N from ZaX fun b _=>ZhG hs,ZgG h]
def Zbx:List Bd->Tm->Option Tm
 | [],_=>none
 | b::l,v=>if Zai b.var v=0 then some b.to else Zbx l v
mutual
noncomputable def apT (g:Sgn) (l:List Bd):Tm->Option Tm
 | .mk op nm so args=>if op=-1 then some ((Zbx l (.mk op nm so args)).getD (.mk op nm so args)) else (apTs g l args).bind (mkT g op)
noncomputable def apTs (g:Sgn) (l:List Bd):List Tm->Option (List Tm)
 | []=>some []
 | t::ts=>(apT g l t).bind fun u=>(apTs g l ts).map (u::·)
end
theorem Zgh {g:Sgn} {l:List Bd} {t:Tm} (h:t.op=-1):apT g l t=some ((Zbx l t).getD t):=by
 obtain ⟨op,nm,so,args⟩:=t;simp only [Tm.op] at h;simp only [apT,if_pos h]
theorem Zdv {g:Sgn} {l:List Bd} {t:Tm} (h:t.op≠-1):apT g l t=(apTs g l t.args).bind (mkT g t.op):=by
 obtain ⟨op,nm,so,args⟩:=t;simp only [Tm.op] at h;simp only [apT,if_neg h,Tm.op,Tm.args]
theorem ZiZ {g:Sgn} {l:List Bd} {t:Tm}:∀ (ts:List Tm),apTs g l (ts++[t])=(apTs g l ts).bind fun us=>(apT g l t).map fun u=>us++[u]
 | []=>by
  simp only [Tah,apTs,Option.bind_some]
  cases apT g l t <;> rfl
 | x::ts=>by
  simp only [Taf,apTs,ZiZ ts]
  cases apT g l x with
  | none=>rfl
  | some u =>
   simp only [Option.bind_some]
   cases apTs g l ts with
   | none=>rfl
   | some us =>
    simp only [Option.bind_some,Option.map_some]
    cases apT g l t <;> rfl
theorem Zky {g:Sgn} {l:List Bd}:∀ {ts us:List Tm},apTs g l ts=some us->us.length=ts.length
 | [],us,h=>by simp only [apTs,Taq] at h;subst h;rfl
 | t::ts,us,h=>by
  simp only [apTs] at h
  cases h1:apT g l t with
  | none=>rw [h1] at h;cases h
  | some u =>
   rw [h1] at h
   cases h2:apTs g l ts with
   | none=>rw [h2] at h;cases h
   | some vs =>
    rw [h2] at h;simp only [Option.bind_some,Option.map_some,Taq] at h;subst h;simp only [Tag,Zky h2]
theorem Zi0 {g:Sgn} {l:List Bd} {t:Tm}:∀ {ts:List Tm},t∈ts->apT g l t=none->apTs g l ts=none
 | x::ts,hm,h=>by
  simp only [apTs];rcases Tbg.1 hm with rfl | hm
  ·rw [h];rfl
  ·rw [Zi0 hm h]
   cases apT g l x <;> rfl
theorem ZgH {g:Sgn} {l:List Bd}:∀ {ts us:List Tm},apTs g l ts=some us->∀ u∈us,∃ t∈ts,apT g l t=some u
 | [],us,h,u,hu=>by simp only [apTs,Taq] at h;subst h;cases hu
 | t::ts,us,h,u,hu=>by
  simp only [apTs] at h
  cases h1:apT g l t with
  | none=>rw [h1] at h;cases h
  | some v =>
   rw [h1] at h
   cases h2:apTs g l ts with
   | none=>rw [h2] at h;cases h
   | some vs =>
    rw [h2] at h;simp only [Option.bind_some,Option.map_some,Taq] at h;subst h;rcases Tbg.1 hu with rfl | hu
    ·exact ⟨t,Tas,h1⟩
    ·obtain ⟨x,hx,hxe⟩:=ZgH h2 u hu;exact ⟨x,Tal _ hx,hxe⟩
structure SbsAt (g:Sgn) (l:List Bd) (i:Nat) (y:Bd):Prop where
 var:Zcg g y.var
 ord:∀ (j:Nat) p,i=j+1->l[j]?=some p->Zai p.var y.var < 0
 to':TermOk g y.to
 srt:(sortsTm g y.to).testBit y.var.sort.toNat=true
structure SbsOk (g:Sgn) (l:List Bd):Prop where
 len:l.length<=8
 at':∀ (i:Nat) y,l[i]?=some y->SbsAt g l i y
open Classical in
noncomputable def Zbu (g:Sgn) (l:List Bd):Bool:=decide (SbsOk g l)
theorem ZlC {g:Sgn} {l:List Bd} (h:SbsOk g l):Zbu g l=true:=by simp [Zbu,h]
theorem Zfz {g:Sgn} {l:List Bd} (h:¬ SbsOk g l):Zbu g l=false:=by simp [Zbu,h]
theorem Zsl {g:Sgn} {v u:Tm}:∀ {l:List Bd},(∀ y∈l,TermOk g y.to)->Zbx l v=some u->TermOk g u
 | b::l,h,hu=>by
  simp only [Zbx] at hu;split at hu
  ·injection hu with hu;subst hu;exact h b Tas
  ·exact Zsl (fun y hy=>h y (Tal _ hy)) hu
theorem SbsOk.to' {g:Sgn} {l:List Bd} (h:SbsOk g l):∀ y∈l,TermOk g y.to:=fun y hy=>by
 obtain ⟨i,hi⟩:=Tbk hy;exact (h.at' i y hi).to'
theorem SbsOk.var {g:Sgn} {l:List Bd} (h:SbsOk g l):∀ y∈l,Zcg g y.var:=fun y hy=>by
 obtain ⟨i,hi⟩:=Tbk hy;exact (h.at' i y hi).var
theorem Ze4 {g:Sgn} (hg:SgnOk g) {l:List Bd} (hl:∀ y∈l,TermOk g y.to):∀ (n:Nat) (t:Tm),sizeTm t < n->TermOk g t->∀ {u:Tm},apT g l t=some u->TermOk g u
 | 0,t,hn,_,_,_=>om
 | n+1,t,hn,ht,u,h=>by
  by_cases ho:t.op=-1
  ·rw [Zgh ho] at h;simp only [Taq] at h;subst h
   cases hk:Zbx l t with
   | none=>exact ht
   | some v=>exact Zsl hl hk
  ·rw [Zdv ho] at h
   cases h2:apTs g l t.args with
   | none=>rw [h2] at h;cases h
   | some us =>
    rw [h2] at h;simp only [Option.bind_some] at h;have h0:0<=t.op:=by
     rcases ht.form.node with hv | ⟨o,d,hA⟩
     ·exact absurd hv.1 ho
     ·exact hA.lo
    refine ZwH hg h0 (fun a ha=>?_) h;obtain ⟨x,hx,hxe⟩:=ZgH h2 a ha;have:=Za5 hx;rw [ZaM] at hn;exact Ze4 hg hl n x om (ht.arg hx) hxe
def Zbo (w:World):List (List C)->(Nat->Prop)->List (List Value)->Prop
 | [],_,[]=>True
 | r::rs,S,us::uss=>∃ S1 S2:Nat->Prop,(∀ x,S1 x->S x)∧(∀ x,S2 x->S x)∧(∀ x,S1 x->S2 x->False)∧Zal w r S1 us∧Zbo w rs S2 uss
 | _,_,_=>False
def ZaS (us:List Value):List C:=us.map .lit
section
variable {w w':World}
theorem Zbo.keep (hz:w.heap.size<=w'.heap.size):∀ (rows:List (List C)) (S S':Nat->Prop) (uss:List (List Value)),(∀ b,S b->w'.heap[b]?=w.heap[b]?)->(∀ b,S b->S' b)->Zbo w rows S uss->Zbo w' rows S' uss
 | [],_,_,[],_,_,_=>trivial
 | r::rs,S,S',us::uss,hk,hS,h=>by
  obtain ⟨S1,S2,h1,h2,hd,hr,hrs⟩:=h;exact ⟨S1,S2,fun x hx=>hS x (h1 x hx),fun x hx=>hS x (h2 x hx),hd,Zal.keep hz r S1 S1 us (fun x hx=>hk x (h1 x hx)) (fun _ h=>h) hr,Zbo.keep hz rs S2 S2 uss (fun x hx=>hk x (h2 x hx)) (fun _ h=>h) hrs⟩
 | [],_,_,_::_,_,_,h=>h.elim
 | _::_,_,_,[],_,_,h=>h.elim
theorem Zbo.len:∀ {rows:List (List C)} {S:Nat->Prop} {uss:List (List Value)},Zbo w rows S uss->uss.length=rows.length
 | [],_,[],_=>rfl
 | r::rs,S,us::uss,⟨S1,S2,_,_,_,_,h⟩=>by simp [Zbo.len h]
theorem Zbo.snoc:∀ {rows:List (List C)} {r:List C} {S S1 S2:Nat->Prop} {uss:List (List Value)} {us:List Value},Zbo w rows S1 uss->Zal w r S2 us->(∀ x,S1 x->S x)->(∀ x,S2 x->S x)->(∀ x,S1 x->S2 x->False)->Zbo w (rows++[r]) S (uss++[us])
 | [],r,S,S1,S2,[],us,_,h2,i1,i2,hd=>⟨S2,fun _=>False,i2,fun _ h=>h.elim,fun _ _ h=>h,h2,trivial⟩
 | q::qs,r,S,S1,S2,vs::vss,us,⟨T1,T2,a1,a2,a3,a4,a5⟩,h2,i1,i2,hd =>
  ⟨T1,fun x=>T2 x∨S2 x,fun x hx=>i1 x (a1 x hx),fun x hx=>hx.elim (fun h=>i1 x (a2 x h)) (i2 x),fun x hx hy=>hy.elim (a3 x hx) (hd x (a1 x hx)),a4,
   Zbo.snoc a5 h2 (fun _ h=>.inl h) (fun _ h=>.inr h) (fun x hx hy=>hd x (a2 x hx) hy)⟩
 | [],_,_,_,_,_::_,_,h,_,_,_,_=>h.elim
 | _::_,_,_,_,_,[],_,h,_,_,_,_=>h.elim
theorem Zbo.get:∀ {rows:List (List C)} {S:Nat->Prop} {uss:List (List Value)} {i:Nat} {r:List C} {us:List Value},Zbo w rows S uss->rows[i]?=some r->uss[i]?=some us->Zal w r S us
 | r::rs,S,us::uss,0,r',us',⟨S1,S2,h1,_,_,h,_⟩,hr,hu=>by
  simp at hr hu;subst hr hu;exact Zal.keep (Tai _) r S1 S us (fun _ _=>rfl) h1 h
 | r::rs,S,us::uss,i+1,r',us',⟨S1,S2,_,h2,_,_,h⟩,hr,hu =>
  Zal.keep (Tai _) r' S2 S us' (fun _ _=>rfl) h2 (Zbo.get h (by simpa using hr) (by simpa using hu))
 | [],_,_,_,_,_,_,hr,_=>by simp at hr
 | _::_,_,[],_,_,_,h,_,_=>h.elim
theorem Zbo.stable (rows:List (List C)) (E:Nat->Prop) (uss:List (List Value)):Zc1 E (fun w=>Zbo w rows E uss):=fun w w' hz hk h=>Zbo.keep hz rows E E uss hk (fun _ h=>h) h
theorem Zal.stable (r:List C) (E:Nat->Prop) (us:List Value):Zc1 E (fun w=>Zal w r E us):=fun w w' hz hk h=>Zal.keep hz r E E us hk (fun _ h=>h) h
theorem Own.stable (c:C) (E:Nat->Prop) (v:Value):Zc1 E (fun w=>Own w c E v):=fun w w' hz hk h=>Own.keep hz c E E v hk (fun _ h=>h) h
theorem Zhn {S:Nat->Prop}:∀ {us vs:List Value},Zad w S (ZaS us) vs->vs=us
 | [],[],_=>rfl
 | u::us,v::vs,h=>by
  simp only [ZaS,Tbu,Zad,Rep] at h;rw [h.1,Zhn h.2]
 | [],_::_,h=>by simp [ZaS,Zad] at h
 | _::_,[],h=>by simp [ZaS,Zad] at h
theorem ZaZ.close {b:Nat} {T:Nat->Prop}:∀ {rows:List (List C)} {uss:List (List Value)} {S:Nat->Prop} {off:Nat},Zap w T b off (uss.map ZaS)->Zbo w rows S uss->ZaZ w b rows S off
 | [],[],_,_,_,_=>by simp [ZaZ]
 | r::rs,us::uss,S,off,hr,⟨S1,S2,h1,h2,hd,hv,hvs⟩=>by
  simp only [Tbu,Zap] at hr;simp only [ZaZ];obtain ⟨vs,q1,q2⟩:=hr.1.vals;have e:=Zhn q1;subst e;have hl:(ZaS vs).length=r.length:=by simp [ZaS,Zal.len hv]
  refine ⟨S1,S2,h1,h2,hd,ZbJ.of_vals r S1 vs off hv q2,?_⟩;rw [<- hl];exact ZaZ.close hr.2 hvs
 | [],_::_,_,_,_,h=>h.elim
 | _::_,[],_,_,_,h=>h.elim
theorem Own.close {T:Nat->Prop} {ety sz:Nat} {rows:List (List C)} {uss:List (List Value)} {E:Nat->Prop} {a:Option Addr} {cap:Nat} (hb:ZaE w T ety sz (uss.map ZaS) (.slice a uss.length cap)) (hv:Zbo w rows E uss) (hd:∀ b,vblk (.slice a uss.length cap)=some b->¬ E b) :
  Own w (.sl rows) (fun b=>vblk (.slice a uss.length cap)=some b∨E b) (.slice a uss.length cap):=by
 have hlen:=hv.len;obtain ⟨h1,h2,h3⟩:=hb;simp only [Own];rcases h3 with ⟨h4,a',h5⟩ | ⟨g,cap',cur,h5,hc,hg,hs,hh,hl,hm,hcs,hr⟩
 ·injection h5 with e1 e2 e3
  subst e1 e3;have hu0:uss=[]:=by simpa using h4
  exact ⟨a,uss.length,0,rfl,hlen.symm,by rw [hu0];exact Tai _,by decide,fun h=>absurd h (by decide)⟩
 ·injection h5 with e1 e2 e3
  subst e1 e3;have hvb:vblk (.slice (some ⟨g,0,none⟩) uss.length cap)=some g:=by simp only [vblk];rw [if_neg om]
  simp only [Tay] at hl;refine ⟨_,uss.length,cap,rfl,hlen.symm,hl,hm,fun h0=>⟨g,0,E,rfl,.inl hvb,hg,⟨fun o=>frozen_of_row w g o cur ety hh,rfl,cur,ety,sz,hh,hcs,h1,fun r hr0=>?_⟩,fun x hx=>⟨.inr hx,fun e=>hd g hvb (e ▸ hx)⟩,ZaZ.close hr hv⟩⟩;obtain ⟨i,hi⟩:=Tbk hr0;have hil:=(Tad.1 hi).1;obtain ⟨us,hu⟩:∃ us,uss[i]?=some us:=⟨_,Taa om⟩;have hq:=(h2 (ZaS us) (Tbi.2 ⟨us,Tac hu,rfl⟩)).1;have hq2:=Zal.len (hv.get hi hu)
  simp only [ZaS,Tay] at hq;omega
theorem ZbJ.open {b:Nat}:∀ {cs:List C} {S:Nat->Prop} {off:Nat},ZbJ w b cs S off->∃ us,Zal w cs S us∧∀ j u,us[j]?=some u->w.cell? ⟨b,off+j,none⟩=some u
 | [],S,off,_=>⟨[],Zal.nil,fun j u h=>by simp at h⟩
 | c::cs,S,off,h=>by
  simp only [ZbJ] at h;obtain ⟨S1,S2,u,h1,h2,hd,hu,hc,hcs⟩:=h;obtain ⟨us,k1,k2⟩:=ZbJ.open hcs;refine ⟨u::us,Zal.cons S1 S2 hc k1 h1 h2 hd,fun j v hj=>?_⟩
  cases j with
  | zero=>simp at hj;subst hj;exact hu
  | succ j=>have:=k2 j v (by simpa using hj);rw [<- this];congr 2;omega
theorem ZaZ.open {b:Nat}:∀ {rows:List (List C)} {S:Nat->Prop} {off:Nat},ZaZ w b rows S off->∃ uss,Zbo w rows S uss∧∀ T:Nat->Prop,Zap w T b off (uss.map ZaS)
 | [],S,off,_=>⟨[],trivial,fun T=>by simp [Zap]⟩
 | r::rs,S,off,h=>by
  simp only [ZaZ] at h;obtain ⟨S1,S2,h1,h2,hd,hr,hrs⟩:=h;obtain ⟨us,k1,k2⟩:=ZbJ.open hr;obtain ⟨uss,k3,k4⟩:=ZaZ.open hrs;refine ⟨us::uss,⟨S1,S2,h1,h2,hd,k1,k3⟩,fun T=>?_⟩;simp only [Tbu,Zap];refine ⟨Zaj.of_vals _ us off (Zgp us) k2,?_⟩;rw [show (ZaS us).length=r.length by simp [ZaS,k1.len]];exact k4 T
theorem Zal.cells:∀ {cs:List C} {S:Nat->Prop} {us:List Value},Zal w cs S us->cs.all Zau=true->(ZaS us).all Zau=true
 | [],_,[],_,_=>rfl
 | c::cs,S,u::us,h,hc=>by
  simp only [Zal] at h;obtain ⟨S1,S2,_,_,_,h1,h2⟩:=h;simp only [List.all_cons,Tar] at hc;simp only [ZaS,Tbu,List.all_cons,Tar];exact ⟨Zf2 (c:=c) hc.1 (Own.rep c S1 u h1),Zal.cells h2 hc.2⟩
 | [],_,_::_,h,_=>by simp [Zal] at h
 | _::_,_,[],h,_=>by simp [Zal] at h
theorem Own.open {T:Nat->Prop} {rows:List (List C)} {E:Nat->Prop} {a:Option Addr} {n cap sz:Nat} (hT:∀ b,E b->¬ T b) (hne:rows≠[]) (hrl:rowsLen sz rows) (h:Own w (.sl rows) E (.slice a n cap)) :
  ∃ uss ety E',n=uss.length∧ZaE w T ety sz (uss.map ZaS) (.slice a uss.length cap)∧Zbo w rows E' uss∧(∀ b,E' b->E b∧vblk (.slice a uss.length cap)≠some b)∧∀ b,vblk (.slice a uss.length cap)=some b->E b:=by
 simp only [Own] at h;obtain ⟨A,n',cap',hv,hn,hle,hmx,hb⟩:=h;injection hv with e1 e2 e3
 subst e1 e2 e3;have h0:0 < rows.length:=List.length_pos_iff.2 hne;obtain ⟨b,off,S',rfl,hEb,hbl,⟨hfr,rfl,cur,ety,sz',hh,hcs,hz,hrs⟩,hS',hrows⟩:=hb om;obtain ⟨uss,k1,k2⟩:=ZaZ.open hrows;have hl:=k1.len;have hsz:sz'=sz:=by
  obtain ⟨r,hr⟩:=List.exists_mem_of_ne_nil _ hne;rw [<- hrs r hr,(hrl r hr).1]
 subst hsz;have hvb:vblk (.slice (some ⟨b,0,none⟩) uss.length cap)=some b:=by simp only [vblk];rw [if_neg om]
 have hrow:rowsLen sz' (uss.map ZaS):=fun x hx=>by
  obtain ⟨us,hus,rfl⟩:=Tbi.1 hx;obtain ⟨i,hi⟩:=Tbk hus;have hil:=(Tad.1 hi).1;obtain ⟨r,hr⟩:∃ r,rows[i]?=some r:=⟨_,Taa om⟩;have hov:=k1.get hr hi;have hrm:=hrl r (Tac hr);exact ⟨by simp only [ZaS,Tay];rw [hov.len];exact hrm.1,hov.cells hrm.2⟩
 refine ⟨uss,ety,S',om,⟨hz,hrow,.inr ⟨b,cap,cur,by simp,om,hbl,hT b hEb,hh,by simp only [Tay];omega,hmx,hcs,k2 T⟩⟩,k1,fun x hx=>⟨(hS' x hx).1,fun e=>?_⟩,fun x hx=>?_⟩
 ·rw [hvb] at e;injection e with e;exact (hS' x hx).2 e.symm
 ·rw [hvb] at hx;injection hx with hx;rw [<- hx];exact hEb
end
theorem ZhI (x:Bk):Zeu [x]:=⟨by simp,trivial⟩
theorem Zfj:Zd4 [] [.set (fun _=>False) (fun w=>Zbo w [] (fun _=>False) [])]:=fun w S _ _ =>
 ⟨fun x hx=>by simp at hx;subst hx;exact ⟨fun b h=>h.elim,trivial,Zbo.stable _ _ _⟩,ZhI _,fun g ⟨x,hx,hg⟩=>by simp at hx;subst hx;exact hg.elim⟩
theorem Zo7 {E E2:Nat->Prop} {G G2 G':World->Prop} (hG:∀ w,G w->G2 w->(∀ b,E b->E2 b->False)->G' w) (hst:Zc1 (fun b=>E b∨E2 b) G'):Zd4 [.set E G,.set E2 G2] [.set (fun b=>E b∨E2 b) G']:=fun w S h ha=>by
 have h1:=h (.set E G) (by simp);have h2:=h (.set E2 G2) (by simp);refine ⟨fun x hx=>?_,ZhI _,fun g ⟨x,hx,hg⟩=>?_⟩
 ·simp at hx;subst hx;exact ⟨fun b hb=>hb.elim (h1.1 b) (h2.1 b),hG w h1.2.1 h2.2.1 (fun b q1 q2=>ha.1 (.set E2 G2) (by simp) b q1 q2),hst⟩
 ·simp at hx;subst hx;rcases hg with hg | hg
  ·exact ⟨.set E G,by simp,hg⟩
  ·exact ⟨.set E2 G2,by simp,hg⟩
theorem Zkz {a:Option Addr} {cap ety sz:Nat} {uss:List (List Value)} {rows:List (List C)} {E:Nat->Prop} {G':World->Prop} (hG:∀ w,Own w (.sl rows) (fun b=>vblk (.slice a uss.length cap)=some b∨E b) (.slice a uss.length cap)->G' w) (hst:Zc1 (fun b=>vblk (.slice a uss.length cap)=some b∨E b) G') :
  Zd4 [.buf (some (a,cap)) ety sz (uss.map ZaS),.set E (fun w=>Zbo w rows E uss)] [.set (fun b=>vblk (.slice a uss.length cap)=some b∨E b) G']:=fun w S h ha=>by
 have h1:ZaE w S ety sz (uss.map ZaS) (.slice a (uss.map ZaS).length cap):=h (.buf (some (a,cap)) ety sz (uss.map ZaS)) (by simp);have h2:=h (.set E (fun w=>Zbo w rows E uss)) (by simp);have hd:=ha.1 (.set E (fun w=>Zbo w rows E uss)) (by simp);rw [Tay] at h1;simp only [pblk,Tay] at hd;refine ⟨fun x hx=>?_,ZhI _,fun g ⟨x,hx,hg⟩=>?_⟩
 ·simp at hx;subst hx;refine ⟨fun b hb=>?_,hG w (Own.close h1 h2.2.1 hd),hst⟩;rcases hb with hb | hb
  ·exact Own1.lt (L:=⟨fun _=>0,fun _=>.slice a uss.length cap⟩) (k:=0) (bk:=.buf none ety sz (uss.map ZaS)) ⟨by simp,h1⟩ hb
  ·exact h2.1 b hb
 ·simp at hx;subst hx;rcases hg with hg | hg
  ·exact ⟨.buf (some (a,cap)) ety sz (uss.map ZaS),by simp,by simp only [pblk,Tay];exact hg⟩
  ·exact ⟨.set E (fun w=>Zbo w rows E uss),by simp,hg⟩
def Zf9 (row:List C) (r:List D) (pm:List Bk):Prop:=∃ us E,r=[.agg (ZaS us)]∧us.length=row.length∧(ZaS us).all Zau=true∧pm=[.set E (fun w=>Zal w row E us)]
def Zi1 (ety sz:Nat) (rows:List (List C)) (r:List D) (pm:List Bk):Prop:=∃ a cap uss E,r=[.one (.lit (.slice a uss.length cap))]∧uss.length=rows.length∧pm=[.buf (some (a,cap)) ety sz (uss.map ZaS),.set E (fun w=>Zbo w rows E uss)]
theorem Zf9.mk {row:List C} {us:List Value} {E:Nat->Prop} (h:us.length=row.length) (hok:(ZaS us).all Zau=true):Zf9 row [.agg (ZaS us)] [.set E (fun w=>Zal w row E us)]:=⟨us,E,rfl,h,hok,rfl⟩
theorem Zi1.mk {ety sz:Nat} {rows:List (List C)} {a:Option Addr} {cap:Nat} {uss:List (List Value)} {E:Nat->Prop} (h:uss.length=rows.length):Zi1 ety sz rows [.one (.lit (.slice a uss.length cap))] [.buf (some (a,cap)) ety sz (uss.map ZaS),.set E (fun w=>Zbo w rows E uss)]:=⟨a,cap,uss,E,rfl,h,rfl⟩
def ZlD (rows:List (List C)) (r:List D) (pm:List Bk):Prop:=∃ v E,r=[.one (.lit v)]∧Zau (.lit v)=true∧pm=[.set E (fun w=>Own w (.sl rows) E v)]
def Zn6:Bk->Bool
 | .set _ _=>true
 | _=>false
def litC:C->Bool
 | .lit _=>true
 | _=>false
def litD:D->Bool
 | .one c=>litC c
 | .agg cs=>cs.all litC
 | _=>false
theorem Zj9 {w:World} {S S':Nat->Prop}:∀ {cs:List C} {vs:List Value},cs.all litC=true->Zad w S cs vs->Zad w S' cs vs
 | [],[],_,_=>trivial
 | .lit x::cs,v::vs,hl,h=>by
  simp only [List.all_cons,Tar] at hl;exact ⟨h.1,Zj9 hl.2 h.2⟩
 | .sl _::_,_::_,hl,_=>by simp [litC] at hl
 | .ptr _::_,_::_,hl,_=>by simp [litC] at hl
 | .fn _ _::_,_::_,hl,_=>by simp [litC] at hl
 | [],_::_,_,h=>h.elim
 | _::_,[],_,h=>h.elim
theorem Zo8 {w:World} {S S':Nat->Prop} {x:D} {v:Value} (hl:litD x=true) (h:DRel w S x v):DRel w S' x v:=by
 cases x with
 | one c=>cases c with
  | lit y=>exact h
  | _=>simp [litD,litC] at hl
 | agg cs=>obtain ⟨vs,h1,h2⟩:=h;exact ⟨vs,h1,Zj9 hl h2⟩
 | clip _=>simp [litD] at hl
theorem Zi2 {w:World} {S S':Nat->Prop}:∀ {r:List D} {vs:List Value},r.all litD=true->Zav w S r vs->Zav w S' r vs
 | [],[],_,_=>trivial
 | x::r,v::vs,hl,h=>by
  simp only [List.all_cons,Tar] at hl;exact ⟨Zo8 hl.1 h.1,Zi2 hl.2 h.2⟩
 | [],_::_,_,h=>h.elim
 | _::_,[],_,h=>h.elim
theorem Zyj {w:World} {S S':Nat->Prop} {L:Lay}:∀ {r:List D} {v:Value},r.all litD=true->ARel w S L (retA r) v->ARel w S' L (retA r) v
 | [],_,_,h=>by obtain ⟨vs,h1,h2⟩:=h;exact ⟨vs,h1,Zi2 rfl h2⟩
 | [x],v,hl,h=>by
  simp only [List.all_cons,List.all_nil,Bool.and_true] at hl;exact Zo8 (x:=x) (v:=v) hl h
 | x::y::z,_,hl,h=>by obtain ⟨vs,h1,h2⟩:=h;exact ⟨vs,h1,Zi2 hl h2⟩
theorem ZgI {w:World} {S:Nat->Prop}:∀ {us vs:List Value},Zad w S (ZaS us) vs->vs=us
 | [],[],_=>rfl
 | u::us,v::vs,h=>by
  obtain ⟨h1,h2⟩:=h;have h1:v=u:=h1;rw [h1,ZgI h2]
 | [],_::_,h=>h.elim
 | _::_,[],h=>h.elim
theorem Kept.noPin {D:Prop} {E:Nat->Prop} {B:Nat} {w w':World} (h:Kept D (fun b=>E b∨Za7 [] b) B w w'):Kept D E B w w' :=
 ⟨h.os,h.tape,h.output,h.drawn,h.size,fun k hk hn=>h.block k hk fun h=>h.elim hn fun ⟨x,hx,_⟩=>by cases hx⟩
def zTm:Tm:=.mk 0 ByteArray.empty 0 []
theorem ZeC:Zab zTm=[.lit (.int .i64 0),.lit (.string ByteArray.empty),.lit (.int .i64 0),.sl []]:=by simp [zTm,Zab,Zac]
theorem Zcn:Zac []=[]:=by simp [Zac]
theorem okc4 {u0 u1 u2 u3:Value} (h:(ZaS [u0,u1,u2,u3]).all Zau=true):Zau (.lit u0)=true∧Zau (.lit u1)=true∧Zau (.lit u2)=true∧Zau (.lit u3)=true:=by
 simpa [ZaS,Tar,and_assoc] using h
theorem ZfA (ts:List Tm) {i:Nat} {t:Tm} (h:ts[i]?=some t):Zac (ts.take (i+1))=Zac (ts.take i)++[Zab t]:=by
 simp only [ZbZ,List.take_add_one,h,Option.toList,Tbv,Tbu,List.map_nil]
theorem Zfk (u0 u1 u2 u3:Value):ZaS [u0,u1,u2,u3]=[.lit u0,.lit u1,.lit u2,.lit u3]:=rfl
theorem ZkA (uss:List (List Value)):(uss.map ZaS).length=uss.length:=Tay ..
def tmsB (ts:List Tm):Prop:=ts.length+Zam (Zac ts)<=1048576
theorem ZkB (ts:List Tm) (hB:tmsB ts) (h:∀ t∈ts,ConP e0 39 [.agg (Zab t)] [] (Zf9 (Zab t))):ConP e0 78 [.one (.sl (Zac ts))] [] (Zi1 36 4 (Zac ts)):=by
 have hl:ts.length<=1048576:=Tbe (Nat.le_add_right _ _) hB;refine gIP (ts:=[.slot 2]) [] 1005 Tryz.func78 ?_;refine fG @e0P ?_;refine pE [] [1000] Zfj ?_;have F:=ai @Zae @Zcn;refine gL (ι:=Nat × List (List Value) × (Nat->Prop)) [3,5,8,9] [3,1000] (fun x=>[(8,.d (.one (.lit (.int .i64 (x.1:Int))))),(3,.buf 3)]) (fun x=>[(3,.buf none 36 4 (x.2.1.map ZaS)),(1000,.set x.2.2 (fun w=>Zbo w (Zac (ts.take x.1)) x.2.2 x.2.1))]) (fun x=>x.1<=ts.length∧x.2.1.length=x.1) (fun x=>ts.length - x.1) ((0,[],fun _=>False)) (⟨Taj _,rfl⟩) (fun x hx=>?_);clear F
 obtain ⟨i,uss,E⟩:=x;obtain ⟨hi,hn⟩:=hx;simp only at hi hn;by_cases hlt:i < ts.length
 ·have hg:ts[i]?=some ts[i]:=Taa hlt;have hc:=h ts[i] (List.getElem_mem hlt);generalize ts[i]=t at hg hc;have q1:=lT i ts.length;refine fB (aj5 @Zae @ZbH @q1 @hg @tmz) ?_;have F:=@tmz;refine gCP [] [1001] (hc) ?_;clear F;rintro r pm ⟨us,E2,rfl,hu,hok,rfl⟩;rw [Za1] at hu;obtain ⟨u0,u1,u2,u3,rfl⟩:=len4 hu;obtain ⟨k0,k1,k2,k3⟩:=okc4 hok;have q3:IntKind.i64.wrap ((i:Int)+1)=(i:Int)+1:=IntWalk.i64_in _ om
  have q2:i+1<=maxApp:=by unfold maxApp;omega
  simp only [Zfk,setA,retA,zipM,Taf,Tah];refine fR (aj8 @Zfk @ZkA @hn @q2 @k0 @k1 @k2 @k3) ?_;refine pE [1000,1001] [1000] (Zo7 (G':=fun w=>Zbo w (Zac (ts.take (i+1))) (fun b=>E b∨E2 b) (uss++[[u0,u1,u2,u3]])) (fun w h1 h2 hd=>?_) (Zbo.stable _ _ _)) ?_
  ·rw [ZfA ts hg];exact Zbo.snoc h1 h2 (fun _ h=>.inl h) (fun _ h=>.inr h) hd
  have F:=aj4 @Zfk @q3 @Zae ((@Tbv.{0,0}));refine gG ?_;exact ⟨(i+1,uss++[[u0,u1,u2,u3]],fun b=>E b∨E2 b),⟨hlt,by simp [hn]⟩,gw,gw,om⟩
 ·obtain rfl:i=ts.length:=by omega
  have q1:=lF ts.length ts.length;refine fG (ai @Zae @q1) ?_;rw [Tap];refine pS 2 fun a cap=>?_;refine gTP [2,1000] (Zi1.mk (by rw [hn,Zae]))
theorem ZwK {w:World} {op so:Int} {nm:ByteArray} {args:List Tm} {E:Nat->Prop} {v:Value} (h:Own w (.sl (Zac args)) E v):Zal w (Zab (.mk op nm so args)) E [.int .i64 op,.string nm,.int .i64 so,v]:=by
 simp only [Zab,Zal];refine ⟨fun _=>False,E,fun _ h=>h.elim,fun _ h=>h,fun _ h _=>h,by simp [Own],fun _=>False,E,fun _ h=>h.elim,fun _ h=>h,fun _ h _=>h,by simp [Own],fun _=>False,E,fun _ h=>h.elim,fun _ h=>h,fun _ h _=>h,by simp [Own],E,fun _=>False,fun _ h=>h,fun _ h=>h.elim,fun _ _ h=>h,h,trivial⟩
theorem ZlE (t:Tm) (h:ConP e0 78 [.one (.sl (Zac t.args))] [] (Zi1 36 4 (Zac t.args))):ConP e0 39 [.agg (Zab t)] [] (Zf9 (Zab t)):=by
 obtain ⟨op,nm,so,args⟩:=t;have hc:Zab (.mk op nm so args)=[.lit (.int .i64 op),.lit (.string nm),.lit (.int .i64 so),.sl (Zac args)]:=by simp only [Zab]
 simp only [Tm.args] at h;refine gIP (ts:=[.cell 2 36]) [] 7 Tryz.func39 ?_;refine fB @hc ?_;have F:=@hc;refine gCP [] [1000,1001] (h) ?_;clear F;rintro r pm ⟨a,cap,uss,E,rfl,hu,rfl⟩;simp only [setA,retA,zipM,Taf,Tah];refine fR @hc ?_;refine fG @hc ?_;refine pE [1000,1001] [1000] (Zkz (G':=fun w=>Zal w (Zab (.mk op nm so args)) (fun b=>vblk (.slice a uss.length cap)=some b∨E b) [.int .i64 op,.string nm,.int .i64 so,.slice a uss.length cap]) (fun w h=>ZwK h) (Zal.stable _ _ _)) ?_
 have hm:=Zf9.mk (row:=Zab (.mk op nm so args)) (us:=[.int .i64 op,.string nm,.int .i64 so,.slice a uss.length cap]) (E:=fun b=>vblk (.slice a uss.length cap)=some b∨E b) (by rw [hc];rfl) rfl;rw [Zfk] at hm;exact (have F:=hc;gTP [1000] hm)
theorem Zyk (n:Nat):(∀ t:Tm,Zct (Zab t) < n->Zan (Zab t)<=1048576->ConP e0 39 [.agg (Zab t)] [] (Zf9 (Zab t))):=by
 induction n with
 | zero=>exact fun _ h=>om
 | succ n ih =>
  intro t hn hb;obtain ⟨op,nm,so,args⟩:=t;simp only [Zab,Zct,Zht,Zan,Zdm] at hn hb;refine ZlE _ (ZkB args (by unfold tmsB;have:=Zae args;omega) fun a ha=>?_);obtain ⟨i,hi⟩:=Tbk ha;have hi':(Zac args)[i]?=some (Zab a):=by rw [ZbH,hi];rfl
  have h1:=ZeL hi';have h2:=ZeD hi';exact ih a om om
theorem ZgJ (t:Tm) (hb:Zan (Zab t)<=1048576):ConP e0 39 [.agg (Zab t)] [] (Zf9 (Zab t)):=Zyk _ t (Tan _) hb
theorem ZAK {w:World} {E:Nat->Prop}:Own w (.sl []) E (.slice none 0 0):=by
 simp only [Own];exact ⟨none,0,0,rfl,rfl,Tai _,by decide,fun h=>absurd h (by decide)⟩
theorem Zo9:Zd4 [] [.set (fun _=>False) (fun w=>Zal w (Zab zTm) (fun _=>False) [.int .i64 0,.string ByteArray.empty,.int .i64 0,.slice none 0 0])]:=fun w S _ _ =>
 ⟨fun x hx=>by simp at hx;subst hx;exact ⟨fun b h=>h.elim,ZwK (args:=[]) (by simp only [Zac];exact ZAK),Zal.stable _ _ _⟩,ZhI _,fun g ⟨x,hx,hg⟩=>by simp at hx;subst hx;exact hg.elim⟩
def ZwL (x:Tm × Bool) (r:List D) (pm:List Bk):Prop:=∃ us E,r=[.agg (ZaS us),.one (.lit (.bool x.2))]∧us.length=4∧(ZaS us).all Zau=true∧pm=[.set E (fun w=>Zal w (Zab x.1) E us)]
theorem ZwL.mk {x:Tm × Bool} {b:Bool} {u0 u1 u2 u3:Value} {E:Nat->Prop} (hok:(ZaS [u0,u1,u2,u3]).all Zau=true) (hb:b=x.2):ZwL x [.agg [.lit u0,.lit u1,.lit u2,.lit u3],.one (.lit (.bool b))] [.set E (fun w=>Zal w (Zab x.1) E [u0,u1,u2,u3])]:=⟨[u0,u1,u2,u3],E,by rw [hb];rfl,rfl,hok,rfl⟩
def wo:List Tm->List Tm->List Tm × Bool
 | l,[]=>(l,true)
 | [],_::_=>([],false)
 | a::l,o::os=>if Zai a o=0 then wo l os else (a::(wo l (o::os)).1,(wo l (o::os)).2)
theorem ZBq (l:List Tm):wo l []=(l,true):=by cases l <;> rfl
def AscE (l:List Tm):Prop:=l.Pairwise fun a b=>Zai a b<=0
where wo_mem:∀ {l os:List Tm},(wo l os).2=true->∀ s∈os,s∈l
 | l,[],_,s,hs=>by cases hs
 | [],o::os,h,s,hs=>by simp [wo] at h
 | a::l,o::os,h,s,hs=>by
  by_cases hc:Zai a o=0
  ·simp only [wo,if_pos hc] at h;have e:=Zf8 hc;subst e;rcases Tbg.1 hs with rfl | hs
   ·exact Tas
   ·exact Tal _ (wo_mem h s hs)
  ·simp only [wo,if_neg hc] at h;exact Tal _ (wo_mem h s hs)
theorem Zsm (pm:List Bk):Zd4 pm pm:=fun w S h1 h2=>⟨h1,h2,fun _ h=>h⟩
theorem Zpa {ts:List Tm} {i:Nat} (h:i<=ts.length):(Zac (ts.take i)).length=i:=by rw [Zae,Taw];omega
theorem ZnK (t:Tm) (hB:tmsB t.args) (h:∀ a∈t.args,Con e0 70 [.agg (Zab a)] [.agg (Zab a)]):Con e0 70 [.agg (Zab t)] [.agg (Zab t)]:=by
 obtain ⟨op,nm,so,args⟩:=t;have hc:Zab (.mk op nm so args)=[.lit (.int .i64 op),.lit (.string nm),.lit (.int .i64 so),.sl (Zac args)]:=by simp only [Zab]
 simp only [Tm.args] at h hB;have hl:args.length<=1048576:=Tbe (Nat.le_add_right _ _) hB;refine gI (ts:=[.cell 2 36]) 65567 Tryz.func70 ?_;refine fN 1 @hc ?_;refine gB ?_;refine gP 6 ?_;refine gX ?_;refine fR @hc ?_;refine pN 1000 36 4 ?_;refine fG @hc ?_;have F:=ai @hc @Zcn;refine gL (ι:=Nat × Option Addr × Nat) [4,16] [3,1000] (fun x=>[(4,.d (.one (.lit (.int .i64 (x.1:Int)))))]) (fun x=>[(1000,.buf (some (x.2.1,x.2.2)) 36 4 (Zac (args.take x.1))),(3,.var none [.lit (.int .i64 op),.lit (.string nm),.lit (.int .i64 so),.lit (.slice x.2.1 x.1 x.2.2)])]) (fun x=>x.1<=args.length) (fun x=>args.length - x.1) ((0,none,0)) (Taj _) (fun x hx=>?_);clear F
 obtain ⟨i,p,cap⟩:=x;simp only at hx;by_cases hlt:i < args.length
 ·have hg:args[i]?=some args[i]:=Taa hlt;have hcon:=h args[i] (List.getElem_mem hlt);generalize args[i]=a at hg hcon;have q1:=lT i args.length;have q4:IntKind.i64.wrap ((i:Int)+1)=(i:Int)+1:=IntWalk.i64_in _ om;have q2:i+1<=maxApp:=by unfold maxApp;omega
  have q3:=Zpa hx;have q5:(args.take i).length=i:=by rw [Taw];omega
  refine fB (aj6 @hc @Zae @ZbH @q1 @hg @tmz) ?_;refine fC (aj3 @tmz @ZbH @hg) (hcon) ?_;have F:=aj4 @tmz @q2 @q3 @q5;refine gP 3 ?_;clear F;refine gS 28 fun p2 cap2=>?_;refine fR (aj3 @tmz @q3 @q5) ?_;refine pE [28] [1000] (Zsm _) ?_;rw [<- ZfA args hg];have F:=ai @hc @q4;refine gG ?_;exact ⟨(i+1,p2,cap2),hlt,gw,gw,om⟩
 ·obtain rfl:i=args.length:=by omega
  have q1:=lF args.length args.length;rw [Tap];refine fG (aj3 @hc @Zae @q1) ?_;refine pD 1000 [] [2] ?_ (hs:=by exact snv);exact fD (ai @hc @Zae)
theorem ZwM (n:Nat):(∀ t:Tm,Zct (Zab t) < n->Zan (Zab t)<=1048576->Con e0 70 [.agg (Zab t)] [.agg (Zab t)]):=by
 induction n with
 | zero=>exact fun _ h=>om
 | succ n ih =>
  intro t hn hb;obtain ⟨op,nm,so,args⟩:=t;simp only [Zab,Zct,Zht,Zan,Zdm] at hn hb;refine ZnK _ (by unfold tmsB;simp only [Tm.args];have:=Zae args;omega) fun a ha=>?_;simp only [Tm.args] at ha;obtain ⟨i,hi⟩:=Tbk ha;have hi':(Zac args)[i]?=some (Zab a):=by rw [ZbH,hi];rfl
  have h1:=ZeL hi';have h2:=ZeD hi';exact ih a om om
theorem Zeh (t:Tm) (hb:Zan (Zab t)<=1048576):Con e0 70 [.agg (Zab t)] [.agg (Zab t)]:=ZwM _ t (Tan _) hb
def Zjz (P:Program) (s d:TypeId):Bool:=match P.underlying s,P.underlying d with
 | some (.slice e),some .string=>match P.underlying e with
  | some (.int .u8)=>true
  | _=>false
 | _,_=>false
section
variable {e:Env} {σ:St} {o:Oper} {K:St->Prop}
end
def Zte (pm:List Bk) (l d:D):Prop:=l=d∨(∃ us row E,l=.agg (ZaS us)∧d=.agg row∧.set E (fun w=>Zal w row E us)∈pm)∨(∃ v rows E,l=.one (.lit v)∧d=.one (.sl rows)∧.set E (fun w=>Own w (.sl rows) E v)∈pm)
def Zn7 (pm:List Bk):List D->List D->Prop
 | [],[]=>True
 | l::ls,d::ds=>Zte pm l d∧Zn7 pm ls ds
 | _,_=>False
theorem Zte.same {pm:List Bk} {d:D}:Zte pm d d:=.inl rfl
theorem Zn7.rel {pm:List Bk}:∀ {lits data:List D},Zn7 pm lits data->∀ (w:World) (S:Nat->Prop) (vs:List Value),(∀ x∈pm,Zdq w S x)->Zav w S lits vs->Zav w (fun b=>S b∨Za7 pm b) data vs
 | [],[],_,w,S,[],_,_=>trivial
 | [],[],_,w,S,_::_,_,h=>h.elim
 | l::ls,d::ds,hr,w,S,[],_,h=>h.elim
 | l::ls,d::ds,⟨h1,h2⟩,w,S,v::vs,hp,⟨hv,hvs⟩=>by
  refine ⟨?_,Zn7.rel h2 w S vs hp hvs⟩;rcases h1 with rfl | ⟨us,row,E,rfl,rfl,hm⟩ | ⟨u,rows,E,rfl,rfl,hm⟩
  ·exact DRel.keep (Tai _) (fun _ _ _=>rfl) (fun b hb=>.inl hb) hv
  ·obtain ⟨vs',rfl,hr⟩:=hv;rw [Zhn hr];obtain ⟨_,h3,_⟩:=hp _ hm;exact ⟨us,rfl,Zal.rep row E _ us (fun b hb=>.inr ⟨_,hm,hb⟩) h3⟩
  ·have hv:v=u:=hv;subst hv;obtain ⟨_,h3,_⟩:=hp _ hm;exact (Own.rep _ E v h3).mono fun b hb=>.inr ⟨_,hm,hb⟩
 | [],_::_,h,_,_,_,_,_=>h.elim
 | _::_,[],h,_,_,_,_,_=>h.elim
theorem Zka (us:List Value):(ZaS us).all litC=true:=by
 induction us with
 | nil=>rfl
 | cons u us ih=>simp only [ZaS,Tbu,List.all_cons,litC,Bool.true_and];exact ih
theorem Zf9.lits {row:List C} {r:List D} {q:List Bk} (h:Zf9 row r q):r.all litD=true∧q.all Zn6=true:=by
 obtain ⟨us,E,rfl,_,_,rfl⟩:=h;exact ⟨by simp only [List.all_cons,List.all_nil,litD,Zka];rfl,rfl⟩
theorem ZlD.lits {rows:List (List C)} {r:List D} {q:List Bk} (h:ZlD rows r q):r.all litD=true∧q.all Zn6=true:=by
 obtain ⟨v,E,rfl,_,rfl⟩:=h;exact ⟨rfl,rfl⟩
def Zd9 (row:List C) (b:Bool) (r:List D) (pm:List Bk):Prop:=∃ us E,r=[.agg (ZaS us),.one (.lit (.bool b))]∧us.length=row.length∧(ZaS us).all Zau=true∧pm=[.set E (fun w=>Zal w row E us)]
theorem Zd9.lits {row:List C} {b:Bool} {r:List D} {q:List Bk} (h:Zd9 row b r q):r.all litD=true∧q.all Zn6=true:=by
 obtain ⟨us,E,rfl,_,_,rfl⟩:=h;exact ⟨by simp only [List.all_cons,List.all_nil,litD,Zka];rfl,rfl⟩
def Zcv (rows:List (List C)) (b:Bool) (r:List D) (pm:List Bk):Prop:=∃ v E,r=[.one (.lit v),.one (.lit (.bool b))]∧Zau (.lit v)=true∧pm=[.set E (fun w=>Own w (.sl rows) E v)]
theorem Zcv.lits {rows:List (List C)} {b:Bool} {r:List D} {q:List Bk} (h:Zcv rows b r q):r.all litD=true∧q.all Zn6=true:=by
 obtain ⟨v,E,rfl,_,rfl⟩:=h;exact ⟨rfl,rfl⟩
mutual
theorem Zm3:∀ t:Tm,sizeTm t<=Zan (Zab t)+1
 | .mk _ _ _ args=>by
  have:=ZlF args;simp only [sizeTm,Zab,Zan,Zdm];omega
theorem ZlF:∀ ts:List Tm,sizeTms ts<=(Zac ts).length+Zam (Zac ts)
 | []=>by simp [sizeTms]
 | t::ts=>by
  have h1:=Zm3 t;have h2:=ZlF ts;simp only [sizeTms,Zac,Tag,Zam];omega
end
theorem ZbV {t:Tm} (h:Zan (Zab t)<=1048576):sizeTm t<=big:=by
 have:=Zm3 t;unfold big;omega
theorem Zpb (a b:List C):Zan (a++b)=Zan a+Zan b:=by
 induction a with
 | nil=>simp [Zan]
 | cons x xs ih=>simp only [Taf,Zan,ih];omega
theorem Zi3 {r:List C}:∀ {rows:List (List C)},r∈rows->Zan r<=Zam rows
 | x::rs,h=>by
  simp only [Zam];rcases Tbg.1 h with rfl | h
  ·omega
  ·have:=Zi3 h;omega
theorem ZBT {P:Nat->Prop} (h:∃ n,P n):∃ n,P n∧∀ m,m < n->¬ P m:=by
 obtain ⟨n,hn⟩:=h
 induction n using Nat.strongRecOn with
 | _ n ih =>
  by_cases hx:∃ m,m < n∧P m
  ·obtain ⟨m,hm,hp⟩:=hx;exact ih m hm hp
  ·exact ⟨n,hn,fun m hm hp=>hx ⟨m,hm,hp⟩⟩
where wo_sub:∀ (l os:List Tm),((wo l os).1).Sublist l
 | l,[]=>by rw [ZBq];exact List.Sublist.refl _
 | [],o::os=>by simp [wo]
 | a::l,o::os=>by
  simp only [wo];split
  ·exact (wo_sub l os).cons _
  ·exact (wo_sub l (o::os)).cons_cons _
theorem ZwN (op so:Int) (nm:ByteArray) (args:List Tm):Zan (Zab (.mk op nm so args))=nm.size+(args.length+Zam (Zac args)):=by
 simp only [Zab,Zan,Zdm,Zae];omega
theorem Zpc:Zan (Zab zTm)=0:=by rw [zTm,ZwN];rfl
theorem Zpd:okTm zTm:=by simp only [zTm,okTm,ZaF,and_true];exact ⟨⟨by decide,by decide⟩,by simp [maxLen],⟨by decide,by decide⟩⟩
section
variable {e:Env} {U:Nat->Prop} {w0:World} {S0:Nat->Prop} {nt:Nat} {σ:St} {a:Act} {w:World} {S:Nat->Prop} {L:Lay}
end
section
variable {e:Env} {σ:St} {o:Oper} {K:St->Prop}
theorem ZwO {U:Nat->Prop} {base:Nat} {S0:Nat->Prop} {t:TypeId} {x:Operand} {lo hi:Option Operand} (ho:o.op=.slice t x lo hi none) {k cap ety sz:Nat} {a:Option Addr} {rows:List (List C)} {l h:Int} (hx:nrm σ.m (evA σ.s x)=.buf k) (hm:gm σ.m k=some (.buf (some (a,cap)) ety sz rows)) (ht:ZbL e.P t=some sz)
  (hlo:loA (lo.map (evA σ.s))=some l) (hhi:hiA rows.length (hi.map (evA σ.s))=some h) (hb:0<=l∧l<=h∧h<=rows.length):ZaW e U base S0 σ.m o (evA σ.s) (.d (.one (.lit (sliced a l.toNat h.toNat cap sz)))):=by
 refine ZaD fun w S L ρv hC hr=>?_;have hx':=Zcp hC (hr x (by simp [ho,Op.operands]));rw [hx] at hx';have hx':ρv x=L.v k:=hx';obtain ⟨hpl,_,_,hbuf⟩:=hC.own k _ hm;have hv:L.v k=.slice a rows.length cap:=hpl (a,cap) rfl;have hcap:rows.length<=cap:=by
  rcases hbuf with ⟨h4,_⟩ | ⟨g,cap',cur,h4,_,_,_,_,h5,_⟩
  ·rw [h4];exact Taj _
  ·rw [hv] at h4;injection h4 with _ _ h4;rw [h4];exact h5
 have hel:∃ ety i,e.P.underlying t=some (.slice ety)∧e.P.info? ety=some i∧i.size=sz:=by
  unfold ZbL at ht;split at ht
  ·rename_i ety hu;simp only [Tav] at ht;obtain ⟨i,hi,hs⟩:=ht;exact ⟨ety,i,hu,hi,hs⟩
  ·cases ht
 obtain ⟨el,i,hu,hi',hsz⟩:=hel;have hlo:=ZhU (w:=w) (S:=S) (L:=L) (ρv:=ρv) hlo (fun y hy=>hr y (by simp [ho,Op.operands,hy]));have hhi:=ZhV (w:=w) (S:=S) (L:=L) (ρv:=ρv) hhi (fun y hy=>hr y (by simp [ho,Op.operands,hy]));refine ⟨sliced a l.toNat h.toNat cap sz,?_,by simp [ARel,DRel,Rep]⟩;have hbnd:(Instr.sliceBounds true rows.length cap (lo.map ρv) (hi.map ρv) none).run e.P w=.ok (l.toNat,h.toNat,cap) w:=by
  have eh:(h.toNat:Int)=h:=Int.toNat_of_nonneg om;have b1:0<=h:=om;have b2:h<=(cap:Int):=om;have b3:0<=l:=hb.1;have b4:l<=h:=hb.2.1;rcases hlo with ⟨rfl,rfl⟩ | e1 <;> rcases hhi with ⟨rfl,e2⟩ | e2
  ·simp [Instr.sliceBounds,e2,Result.andThen]
  ·simp [Instr.sliceBounds,e2,Result.andThen,run_sliceBound,b1,b2]
  ·have b5:l<=(rows.length:Int):=om;simp [Instr.sliceBounds,e1,e2,Result.andThen,run_sliceBound,b3,b5]
  ·simp [Instr.sliceBounds,e1,e2,Result.andThen,run_sliceBound,b1,b2,b3,b4,eh]
 simp only [execOp,ho,Sem.run_bind,hx',hv,Instr.sliceAt,Instr.slice,underlying,run_program,Result.andThen_ok,hu,Sem.run_pure,Option.map_none,hbnd,sizeOf,typeInfo,hi',hsz,sliced]
theorem Zyl {t:TypeId} {x:Operand} {lo hi:Option Operand} (ho:o.op=.slice t x lo hi none) {k cap ety sz:Nat} {a:Option Addr} {rows:List (List C)} {l h:Int} (hx:nrm σ.m (evA σ.s x)=.buf k) (hm:gm σ.m k=some (.buf (some (a,cap)) ety sz rows)) (ht:ZbL e.P t=some sz)
  (hlo:loA (lo.map (evA σ.s))=some l) (hhi:hiA rows.length (hi.map (evA σ.s))=some h) (hb:0<=l∧l<=h∧h<=rows.length) (hK:K ⟨setA σ.s o.dst (.d (.one (.lit (sliced a l.toNat h.toNat cap sz)))),σ.m⟩):ZbN e o σ K:=by
 intro he U w0 S0 nt ac w Q hd ⟨S,L,h1⟩;exact Oper.wp_mono (fun a' w' hs=>⟨_,hK,hs⟩) (ZeU h1 hd (ZwO ho hx hm ht hlo hhi hb))
end
theorem ZBr {a:Option Addr} {cap ety sz:Nat} {rows:List (List C)} (m:Nat) (hm:m<=rows.length):Zd4 [.buf (some (a,cap)) ety sz rows] [.buf (some (a,cap)) ety sz (rows.take m)]:=fun w S h ha=>by
 have hl:(rows.take m).length=m:=by rw [Taw];omega
 obtain ⟨h0,hrl,hc⟩:ZaE w S ety sz rows (.slice a rows.length cap):=h (.buf (some (a,cap)) ety sz rows) (by simp);have hb:∀ b,vblk (.slice a m cap)=some b ↔ vblk (.slice a rows.length cap)=some b:=fun b=>by cases a <;> simp [vblk]
 refine ⟨fun x hx=>?_,ZhI _,fun g ⟨x,hx,hg⟩=>?_⟩
 ·simp only [Tbg,List.not_mem_nil,or_false] at hx;subst hx;show ZaE w S ety sz (rows.take m) (.slice a (rows.take m).length cap);rw [hl];refine ⟨h0,fun r hr=>hrl r (List.mem_of_mem_take hr),?_⟩;rcases hc with ⟨h4,p,h5⟩ | ⟨g,cap',cur,h4,h5,h6,h7,h8,h9,h10,h11,h12⟩
  ·subst h4;simp only [Tak,Nat.le_zero_eq] at hm;subst hm;exact .inl ⟨by simp,p,by simpa using h5⟩
  ·injection h4 with e1 e2 e3
   subst e1 e3;refine .inr ⟨g,cap,cur,by rw [hl],h5,h6,h7,h8,by rw [hl];omega,h10,h11,?_⟩;have:=Zap.sub hrl h12 0 m;simpa using this
 ·simp only [Tbg,List.not_mem_nil,or_false] at hx;subst hx;refine ⟨.buf (some (a,cap)) ety sz rows,by simp,?_⟩;simp only [pblk,hl] at hg ⊢;exact (hb g).1 hg
theorem gSub {e:Env} {K:St->Prop} {ds:List (Option Nat)} {os:List Oper} {d t ty cap ety sz:Nat} {p:String} {ed:Array Edge} {x:Operand} {lo hi:Option Operand} {s:List (Nat × A)} {m:List (Nat × Bk)} {a:Option Addr} {rows:List (List C)} (k l h:Nat) (hb:l<=h∧h<=rows.length) (hK:Runs e ds 0 os ⟨(d,.d (.one (.lit (sliced a l h cap sz))))::s,m⟩ K)
  (hx:nrm m (evA s x)=.buf k:=by exact sfx) (hm:gm m k=some (.buf (some (a,cap)) ety sz rows):=by exact snv) (ht:ZbL e.P t=some sz:=by exact snx)
  (hlo:loA (lo.map (evA s))=some (l:Int):=by exact sfx) (hhi:hiA rows.length (hi.map (evA s))=some (h:Int):=by exact sfx):Runs e ds 0 (⟨some d,.slice t x lo hi none,ty,p,ed,none⟩::os) ⟨s,m⟩ K:=by
 simp only [Runs] at hK ⊢;exact ZcP rfl (Zyl (o:=⟨some d,.slice t x lo hi none,ty,p,ed,none⟩) rfl hx hm ht hlo hhi ⟨om,om,om⟩ (by simpa only [Tbw,setA] using hK))
theorem Zqj (a:Option Addr) (k cap sz:Nat):sliced a 0 k cap sz=.slice a k cap:=by
 cases a with
 | none=>simp [sliced]
 | some p =>
  have:p.add 0=p:=by cases p;simp [Addr.add]
  simp [sliced,this]
section
variable {e:Env} {ops:Array Oper} {K:St->Prop}
def QN (e:Env) (U:Nat->Prop) (w0:World) (S0:Nat->Prop) (nt:Nat) (K:St->Prop):Exit->Act->World->Prop:=fun ex a w=>ex=.normal∧∃ σ',K σ'∧SimE e U w0 S0 nt σ' a w
def Zcb (e:Env) (ops:Array Oper) (K:St->Prop) (f:Nat) (listed:Array Bool) (σ:St):Prop :=
 e.Ok->∀ (U:Nat->Prop) (w0:World) (S0:Nat->Prop) (nt:Nat) (a:Act) (w:World),(∀ o∈ops.toList,∀ d,o.dst=some d->d < nt)->SimE e U w0 S0 nt σ a w->wpAny e.P .any ops (QN e U w0 S0 nt K) f listed a w
theorem Zqk {ds:List (Option Nat)} {f:Nat} {listed:Array Bool} {σ:St} (hds:ops.toList.map (·.dst)=ds) (h:ZdV e ds ops K f listed σ):Zcb e ops K f listed σ:=by
 subst hds;exact fun he U w0 S0 nt a w hd hs=>Zkp he (fun a w σ' hK hs'=>⟨rfl,σ',hK,hs'⟩) hd f listed σ a w hs h
def Zi4 (ops:Array Oper) (listed:Array Bool) (i:Nat):Bool:=(List.range ops.size).all fun j=>j==i || (listed.getD j true || match ops[i]?,ops[j]? with
 | some oi,some oj=>oj.after.any (fun e=>Region.binds .any e && e.on==i) || oi.apart ops oj
 | _,_=>true)
def Zh9 (ops:Array Oper):Bool:=ops.toList.all fun o=>match o.op with
 | .select _ _=>false
 | _=>true
theorem ZfB {f i d:Nat} {listed:Array Bool} {σ:St} {o:Oper} {α:A} (hi:ops[i]?=some o) (hdst:o.dst=some d) (hg:o.guard=none) (hsel:Zh9 ops=true) (hap:Zi4 ops listed i=true) (hr:(Region.ready .any ops listed).contains i=true)
  (hp:e.Ok->∀ (U:Nat->Prop) (w0:World) (S0:Nat->Prop) (nt:Nat) (a:Act) (w:World) (S:Nat->Prop) (L:Lay),Sim e U w0 S0 nt σ a w S L->∃ v,(∀ w',(execOp a.eval o).run e.P w'=.ok (.value v) w')∧ARel w S L α v)
  (hK:Zcb e ops K f (listed.setIfInBounds i true) ⟨(d,α)::σ.s,σ.m⟩):Zcb e ops K (f+1) listed σ:=by
 intro he U w0 S0 nt a w hd ⟨S,L,h⟩;obtain ⟨v,hv,hrel⟩:=hp he U w0 S0 nt a w S L h;have hmem:o∈ops.toList:=Tac (by simpa using hi);refine wpAny_first (oi:=o) (v:=v) hi (fun j oj cs b hj hs=>?_) (fun c a w hq=>?_) f listed a w (fun j oj hj hne hl hno=>?_) ?_ ?_ ?_
 ·have:=List.all_eq_true.1 hsel oj (Tac (by simpa using hj));rw [hs] at this
  cases this
 ·have:=hq.1
  cases this
 ·have hjs:=(Tbl.1 hj).1;have:=List.all_eq_true.1 hap j (List.mem_range.2 hjs);simp only [hi,hj,Bool.or_eq_true,beq_iff_eq,List.any_eq_true,Array.any_eq_true',Tar] at this;rcases this with h1 | h1 | h1 | h1
  ·exact absurd h1 hne
  ·rw [hl] at h1;cases h1
  ·obtain ⟨ed,h2,h3,h4⟩:=h1;exact absurd h4 (hno ed h2 h3)
  ·exact h1
 ·simpa using hr
 ·exact .inl ⟨by simp [Region.wanted,hg],hv⟩
 ·have h2:SimE e U w0 S0 nt ⟨(d,α)::σ.s,σ.m⟩ (a.put o.dst v) w:=⟨S,L,by
   have:=h.put (α:=α) hrel (hd o hmem)
   rwa [hdst,setA,<- hdst] at this⟩
  exact hK he U w0 S0 nt (a.put o.dst v) w hd h2
end
section
variable {e:Env} {K:St->Prop} {mask:Nat} {Q:PX->St->Prop} {s:List (Nat × A)} {m:List (Nat × Bk)}
theorem Zg1 {id:Nat} {ops:Array Oper} {σ:St} (hK:Zcb e ops (Zc5 mask Q) ops.size (Array.replicate ops.size false) σ):pwp e mask (.region id ops true) σ Q:=fun he U w0 S0 nt a w hok hs=>by
 obtain ⟨S,L,h1⟩:=hs.drew he;refine Code.wp_mono (fun ex a' w' hq=>?_) (wp_region_any he.mixed (hK he U w0 S0 nt a { w with drawn:=w.drawn+1 } (Zlc hok) ⟨S,L,h1⟩));obtain ⟨rfl,σ',k1,k2⟩:=hq;exact ⟨_,k1,k2.weak (fun t=>Zkm mask t σ'.s) (fun _ _ h=>h)⟩
theorem gF0 {id:Nat} {l:List Oper} (hK:Zcb e l.toArray (Zc5 mask Q) l.length (Array.replicate l.length false) ⟨s,m⟩):pwp e mask (.region id l.toArray true) ⟨s,m⟩ Q:=Zg1 (ops:=l.toArray) (by simpa using hK)
theorem gFT {ds:List (Option Nat)} {ops:Array Oper} {f:Nat} {listed:Array Bool} {σ:St} (h:ZdV e ds ops K f listed σ) (hds:ops.toList.map (·.dst)=ds:=by exact rfl):Zcb e ops K f listed σ:=Zqk hds h
theorem gFm {ops:Array Oper} {f d ty:Nat} {p:String} {ed:Array Edge} {x:Operand} {α:A} {listed:Array Bool} (i:Nat) (hK:Zcb e ops K f (listed.setIfInBounds i true) ⟨(d,α)::s,m⟩)
  (hi:ops[i]?=some ⟨some d,.move x,ty,p,ed,none⟩:=by simp only [List.getElem?_toArray,Tau,Tat];exact rfl) (hx:evA s x=α:=by exact snv) (hsel:Zh9 ops=true:=by decide +kernel) (hap:Zi4 ops listed i=true:=by decide +kernel) (hr:(Region.ready .any ops listed).contains i=true:=by decide +kernel):Zcb e ops K (f+1) listed ⟨s,m⟩:=by
 subst hx;exact ZfB (o:=⟨some d,.move x,ty,p,ed,none⟩) hi rfl rfl hsel hap hr (fun _ U w0 S0 nt a w S L h=>⟨a.eval x,fun w2=>by simp [execOp],h.eval x⟩) hK
theorem gFs {ops:Array Oper} {f d t ty cap ety sz:Nat} {p:String} {ed:Array Edge} {x:Operand} {lo hi:Option Operand} {a:Option Addr} {rows:List (List C)} {listed:Array Bool} (i k l h:Nat) (hb:l<=h∧h<=rows.length) (hK:Zcb e ops K f (listed.setIfInBounds i true) ⟨(d,.d (.one (.lit (sliced a l h cap sz))))::s,m⟩)
  (hi':ops[i]?=some ⟨some d,.slice t x lo hi none,ty,p,ed,none⟩:=by simp only [List.getElem?_toArray,Tau,Tat];exact rfl)
  (hx:nrm m (evA s x)=.buf k:=by exact sfx) (hm:gm m k=some (.buf (some (a,cap)) ety sz rows):=by exact snv) (ht:ZbL e.P t=some sz:=by exact snx)
  (hlo:loA (lo.map (evA s))=some (l:Int):=by exact sfx) (hhi:hiA rows.length (hi.map (evA s))=some (h:Int):=by exact sfx)
  (hsel:Zh9 ops=true:=by decide +kernel) (hap:Zi4 ops listed i=true:=by decide +kernel) (hr:(Region.ready .any ops listed).contains i=true:=by decide +kernel):Zcb e ops K (f+1) listed ⟨s,m⟩:=by
 refine ZfB (o:=⟨some d,.slice t x lo hi none,ty,p,ed,none⟩) hi' rfl rfl hsel hap hr (fun _ U w0 S0 nt ac w S L hS=>⟨sliced a l h cap sz,fun w'=>?_,by simp [ARel,DRel,Rep]⟩) hK;have hx':=Zcp hS.cls (hS.eval x);simp only at hx';rw [hx] at hx';have hx':ac.eval x=L.v k:=hx';obtain ⟨hpl,_,_,hbuf⟩:=hS.cls.own k _ hm;have hv:L.v k=.slice a rows.length cap:=hpl (a,cap) rfl;have hcap:rows.length<=cap:=by
  rcases hbuf with ⟨h4,_⟩ | ⟨g,cap',cur,h4,_,_,_,_,h5,_⟩
  ·rw [h4];exact Taj _
  ·rw [hv] at h4;injection h4 with _ _ h4;rw [h4];exact h5
 have hel:∃ ety i,e.P.underlying t=some (.slice ety)∧e.P.info? ety=some i∧i.size=sz:=by
  unfold ZbL at ht;split at ht
  ·rename_i ety hu;simp only [Tav] at ht;obtain ⟨i,hi,hs⟩:=ht;exact ⟨ety,i,hu,hi,hs⟩
  ·cases ht
 obtain ⟨el,inf,hu,hinf,hsz⟩:=hel;have hlo:=ZhU (w:=w) (S:=S) (L:=L) (ρv:=ac.eval) hlo (fun y hy=>hS.eval y);have hhi:=ZhV (w:=w) (S:=S) (L:=L) (ρv:=ac.eval) hhi (fun y hy=>hS.eval y);have hbnd:(Instr.sliceBounds true rows.length cap (lo.map ac.eval) (hi.map ac.eval) none).run e.P w'=.ok (l,h,cap) w':=by
  have b2:(h:Int)<=(cap:Int):=om;have b5:(l:Int)<=(rows.length:Int):=om;rcases hlo with ⟨rfl,e1⟩ | e1 <;> rcases hhi with ⟨rfl,e2⟩ | e2
  ·have e1:l=0:=om;have e2:h=rows.length:=om;subst e1 e2;simp [Instr.sliceBounds,Result.andThen]
  ·have e1:l=0:=om;subst e1;simp [Instr.sliceBounds,e2,Result.andThen,run_sliceBound,b2]
  ·have e2:h=rows.length:=om;subst e2;simp [Instr.sliceBounds,e1,Result.andThen,run_sliceBound,b5]
  ·have b4:(l:Int)<=(h:Int):=om;simp [Instr.sliceBounds,e1,e2,Result.andThen,run_sliceBound,b2,b4,hb.1]
 simp only [execOp,Sem.run_bind,hx',hv,Instr.sliceAt,Instr.slice,underlying,run_program,Result.andThen_ok,hu,Sem.run_pure,Option.map_none,hbnd,sizeOf,typeInfo,hinf,hsz,sliced]
end
section
variable {w:World} {S:Nat->Prop}
theorem Ztf {rows:List (List C)} {ety sz cap l h:Nat} {a:Option Addr} (hb:ZaE w S ety sz rows (.slice a rows.length cap)) (hl:l<=h∧h<=rows.length):∃ (b:Option Addr) (c:Nat) (news:List Value),sliced a l h cap sz=.slice b ((rows.take h).drop l).length c∧Zad w S ((rows.take h).drop l).flatten news∧∀ (P:Program) (w':World),(∀ p,w'.cell? p=w.cell? p)->(Builtin.firstCells sz ((rows.take h).drop l).length (sliced a l h cap sz)).run P w'=.ok news.toArray w':=by
 have hln:((rows.take h).drop l).length=h - l:=by rw [Tax,Taw];omega
 obtain ⟨h1,hrl,h3⟩:=hb;by_cases he:h=l
 ·have e0:((rows.take h).drop l).length=0:=om;have e1:(rows.take h).drop l=[]:=Tao e0;refine ⟨_,_,[],by rw [hln];exact rfl,by rw [e1];simp [Zad],fun P w' _=>?_⟩;rw [e0];simp only [sliced,he,Nat.sub_self];split
  ·cases a <;> simp [Builtin.firstCells,loadCells,loadCellsFrom]
  ·cases a <;> simp [Builtin.firstCells,loadCells,loadCellsFrom]
 ·rcases h3 with ⟨h4,p,h5⟩ | ⟨g,cap',cur,h4,h5,h6,h7,h8,h9,h10,h11,h12⟩
  ·rw [h4] at hl;simp only [Tak] at hl;omega
  ·injection h4 with e1 e2 e3
   subst e1 e3;have hlc:¬ cap=l:=om;have hval:sliced (some ⟨g,0,none⟩) l h cap sz=.slice (some ⟨g,l * sz,none⟩) (h - l) (cap - l):=by
    simp only [sliced,hlc,if_false,Option.map_some,Addr.add_at,Nat.zero_add]
   have hr:=Zap.sub hrl h12 l h;rw [Nat.zero_add] at hr;obtain ⟨news,q5,q6⟩:=hr.flat.vals;have hsl:rowsLen sz ((rows.take h).drop l):=fun r hr=>hrl r (List.mem_of_mem_take (List.mem_of_mem_drop hr));rw [hval];refine ⟨_,_,news,by rw [hln],q5,fun P w' hw=>?_⟩;exact run_firstCells_some w' sz _ _ _ _ news (by rw [q5.len,Zb5 hsl]) (fun j u hj=>by rw [hw,Addr.add_at];exact q6 j u hj)
end
section
variable {e:Env} {K:St->Prop} {ds:List (Option Nat)} {os:List Oper} {s:List (Nat × A)} {m:List (Nat × Bk)}
theorem Zql {σ:St} {o:Oper} {x y:Operand} {t ety ety' sz by' k j d l h cap:Nat} {a0:Option Addr} {rows rj:List (List C)} {oa:Option (Option Addr × Nat)} (ho:o.op=.call ⟨.builtin .append,#[x,y],#[t,t]⟩) (hdd:o.dst=some d) (hb:Zbj e.P t=some (ety,sz,by'))
  (hx:evA σ.s x=.buf k) (hm:gm σ.m k=some (.buf oa ety sz rows)) (hy:evA σ.s y=.d (.one (.lit (sliced a0 l h cap sz)))) (hj:gm σ.m j=some (.buf (some (a0,cap)) ety' sz rj)) (hlh:l<=h∧h<=rj.length) (hle:rows.length+rj.length<=maxApp)
  (hK:K ⟨(d,.buf d)::Zaq d (Zaq k σ.s),(d,.buf none ety sz (rows++(rj.take h).drop l))::remM d (remM k σ.m)⟩):ZbN e o σ K:=by
 intro he U w0 S0 nt a w Q hd ⟨S,L,h0⟩;have hx':a.eval x=L.v k:=by have:=h0.eval x;rw [hx] at this;exact this
 have hy':=h0.eval y;rw [hy] at hy';have hy':=Zbk hy';have ho':ZaE w S ety sz rows (L.v k):=(h0.cls.own k _ hm).2;obtain ⟨hpl,hbj⟩:=h0.cls.own j _ hj;have hvj:L.v j=.slice a0 rj.length cap:=hpl (a0,cap) rfl;rw [hvj] at hbj;obtain ⟨yb,yc,news,y1,y2,y3⟩:=Ztf hbj hlh;have hln:((rj.take h).drop l).length=h - l:=by rw [Tax,Taw];omega
 have hsl:rowsLen sz ((rj.take h).drop l):=fun r hr=>hbj.2.1 r (List.mem_of_mem_take (List.mem_of_mem_drop hr));obtain ⟨v',w',hrun,hbuf,τ,hk,hτ,hblk⟩:=Zf3 (ty:=o.type) (ts:=#[t,t]) (v:=L.v k) (u:=sliced a0 l h cap sz) he h0.cls rfl rfl hb (.inl ho') ho'.2.1 hsl om ⟨yb,yc,news,y1,y2,y3⟩;unfold Oper.wp;have hr2:(execOp a.eval o).run e.P w=.ok (.value v') w':=by
  simp [execOp,ho,resolve,invoke,builtin,hx',hy',hrun,Result.andThen]
 rw [hr2,Oper.upon_value,hdd];refine ⟨_,hK,h0.born he (hd d hdd) (τ:=τ) (b':=0) (v':=v') (s1:=Zaq k σ.s) (m1:=remM k σ.m) (fun _ h=>h) (fun _ h=>.inl h) (fun t=>?_) (fun k' x hx=>?_) (fun g hg=>?_) (fun k' x g hkd hx hg hb'=>?_) hk ?_ (fun g hg=>?_) (by simp [ARel])⟩
 ·rcases Zd0 k t σ.s with ⟨h1,_⟩ | h1
  ·exact .inl h1
  ·exact .inr h1
 ·rw [ZaC] at hx;split at hx
  ·cases hx
  ·exact hx
 ·have hg':=(hτ g hg).1;exact ⟨(Own1.lt (k:=k) (L:=L) (bk:=.buf none ety sz rows) ⟨by simp,ho'⟩ hg').2,h0.cls.notE hm hg',h0.cls.mine k _ g hm hg'⟩
 ·have hg':=(hτ g hg).1;rw [ZaC] at hx;split at hx
  ·cases hx
  ·rename_i hne';exact hne' (h0.cls.inj k' k x _ g hx hm hb' hg')
 ·simp only [Own1,if_true];exact ⟨by simp,hbuf⟩
 ·simp only [Zay,if_true] at hg;exact hblk g hg
theorem gAps {d t ty ety ety' by' sz l h cap:Nat} {p:String} {ed:Array Edge} {x y:Operand} {rows rj:List (List C)} {oa:Option (Option Addr × Nat)} {a0:Option Addr} {s2:List (Nat × A)} {m2:List (Nat × Bk)} (k j:Nat) (hlh:l<=h∧h<=rj.length) (hle:rows.length+rj.length<=maxApp) (hK:Runs e ds 0 os ⟨(d,.buf d)::s2,(d,.buf none ety sz (rows++(rj.take h).drop l))::m2⟩ K)
  (hb:Zbj e.P t=some (ety,sz,by'):=by exact sfx) (hx:evA s x=.buf k:=by exact sfx) (hm:gm m k=some (.buf oa ety sz rows):=by exact snx) (hy:evA s y=.d (.one (.lit (sliced a0 l h cap sz))):=by exact snx) (hj:gm m j=some (.buf (some (a0,cap)) ety' sz rj):=by exact snx)
  (hs:Zaq d (Zaq k s)=s2:=by exact snv) (hr:remM d (remM k m)=m2:=by exact snv):Runs e ds 0 (⟨some d,.call ⟨.builtin .append,#[x,y],#[t,t]⟩,ty,p,ed,none⟩::os) ⟨s,m⟩ K:=by
 subst hs hr;simp only [Runs] at hK ⊢;exact ZcP rfl (Zql rfl rfl hb hx hm hy hj hlh hle hK)
end
theorem ZlG {ts:List Tm} {i:Nat} {t:Tm} (h:ts[i]?=some t):Zac (ts.take i)++[Zab t]=Zac (ts.take (i+1)):=(ZfA ts h).symm
theorem Zi5 (ts:List Tm) (hB:tmsB ts):Con e0 119 [.one (.sl (Zac ts))] [.one (.sl (Zac ts))]:=by
 unfold tmsB at hB;refine gI (ts:=[.slot 2]) 541 Tryz.func119 ?_;refine fG @tmz ?_;have F:=@Zcn;refine gL (ι:=Nat) [3,4,9] [3] (fun i=>[(4,A.d (.one (.lit (.int .i64 i)))),(3,.buf 3)]) (fun i=>[(3,.buf none 36 4 (Zac (ts.take i)))]) (fun i=>i<=ts.length) (fun i=>ts.length - i) (0) (Taj _) (fun i hi=>?_);clear F;by_cases hlt:i < ts.length;rotate_left
 ·obtain rfl:i=ts.length:=by omega
  have q2:=lF ts.length ts.length;rw [Tap];refine fG (ai @q2 @tmz) ?_;have F:=@tmz;refine gG ?_;exact gTz [2]
 obtain ⟨t,ht⟩:∃ b,ts[i]?=some b:=⟨_,Taa hlt⟩;have q2:=lT i ts.length;have q4:=Zat (k:=i) om;have hi':(Zac ts)[i]?=some (Zab t):=by rw [ZbH,ht];rfl
 have hbt:=ZeD hi';have cc:=Zeh t om;have l1:ZaI 4 (Zac (ts.take i))=true:=Zcy _;have l2:((Zac (ts.take i)).length+1<=maxApp)=True:=eq_true (by rw [Zae,Taw];unfold maxApp;omega);have l3:((ts.take i).length+1<=maxApp)=True:=eq_true (by rw [Taw];unfold maxApp;omega);have l4:min i ts.length+1<=maxApp:=by unfold maxApp;omega
 have e:=ZlG ht;refine fB (ai @q2 @tmz) ?_;refine fC (aj3 @q2 @ht @tmz) (cc) ?_;refine fR (aj4 @l1 @l2 @l3 @tmz) ?_;have F:=ai @q4 @e;refine gG ?_;exact ⟨i+1,hlt,gw,gw,om⟩
theorem Zym:Zac (Zaw [])=[]:=by simp [Zaw,Zac]
theorem Ztg {l:List Tm} (h:ZaF l):ZaF (Zaw l):=by
 have:∀ {ts:List Tm},ZaF ts ↔ ∀ t∈ts,okTm t:=fun {ts}=>by
  induction ts with
  | nil=>simp [ZaF]
  | cons t ts ih=>simp [ZaF,ih]
 exact this.2 fun a ha=>this.1 h a ((Zbr l).mem_iff.1 ha)
theorem Zqm {l:List Tm} (h:ZaF l) (k:Nat):ZaF (l.take k):=by
 have:∀ {ts:List Tm},ZaF ts ↔ ∀ t∈ts,okTm t:=fun {ts}=>by
  induction ts with
  | nil=>simp [ZaF]
  | cons t ts ih=>simp [ZaF,ih]
 exact this.2 fun a ha=>this.1 h a (List.mem_of_mem_take ha)
theorem Zi6 (ts:List Tm) (hok:ZaF ts) (hB:tmsB ts):Con e0 118 [.one (.sl (Zac ts))] [.one (.sl (Zac (Zaw ts)))]:=by
 have hB0:=hB;unfold tmsB at hB
 have hcc:=Zi5 (Zaw ts) (by
  have h1:=(Zbr ts).length_eq;have h2:Zam (Zac (Zaw ts))=Zam (Zac ts):=by
   have:∀ {l m:List Tm},l.Perm m->Zam (Zac l)=Zam (Zac m):=fun h=>by
    induction h with
    | nil=>rfl
    | cons x h ih=>simp only [Zac,Zam,ih]
    | swap x y l=>simp only [Zac,Zam];omega
    | trans h1 h2 a b=>rw [a,b]
   exact this (Zbr ts)
  unfold tmsB;omega)
 refine gI (ts:=[.slot 2]) 1073743997 Tryz.func118 ?_;refine fG @tmz ?_;have F:=ai @Zym @tmz;refine gL (ι:=Nat) [3,4,5,6,11,30] [3] (fun i=>[(4,A.d (.one (.lit (.int .i64 i)))),(3,.buf 3)]) (fun i=>[(3,.buf none 36 4 (Zac (Zaw (ts.take i))))]) (fun i=>i<=ts.length) (fun i=>ts.length - i) (0) (Taj _) (fun i hi=>?_);clear F;by_cases hlt:i < ts.length;rotate_left
 ·obtain rfl:i=ts.length:=by omega
  have q2:=lF ts.length ts.length;rw [Tap];refine fN 10 (ai @q2 @tmz) ?_;refine pS 3 fun a cap=>?_;refine pD 3 [3] [] ?_;refine gB ?_;refine fC @tmz (hcc) ?_;refine fR @tmz ?_;exact fD @tmz
 obtain ⟨x,hx⟩:∃ b,ts[i]?=some b:=⟨_,Taa hlt⟩;have q2:=lT i ts.length;have q4:=Zat (k:=i) om;have hxo:=hok.mem (Tac hx);obtain ⟨M,hM⟩:∃ M,M=Zaw (ts.take i):=⟨_,rfl⟩;have hMl:M.length=i:=by rw [hM,ZcT,Taw];omega
 have hMo:ZaF M:=by rw [hM];exact Ztg (Zqm hok i)
 have hMr:ts.take (i+1)=ts.take i++[x]:=Zcm hx;rw [<- hM];refine fN 5 (aj3 @q2 @hMl @tmz) ?_;refine gB ?_;refine fR (ai @hMl @tmz) ?_;refine ZdE ?_;refine gM (ι:=Nat) [5] [] (fun k=>[(5,A.d (.one (.lit (.int .i64 k))))]) (fun k=>[]) (fun k=>k<=i∧(∀ y∈M.drop k,Zai x y<=0)∧(0 < k->∃ y,M[k - 1]?=some y∧Zai y x<=0)) ?_ (fun k hk=>Exists.intro _ (ai (Wk.refl _) ?_))
 ·refine fG @tmz ?_;have F:=@tmz;refine gL (ι:=Nat) [5,30] [] (fun k=>[(5,A.d (.one (.lit (.int .i64 k))))]) (fun k=>[]) (fun k=>k<=i∧∀ y∈M.drop k,Zai x y<=0) (fun k=>k) (i) (⟨Tai _,by rw [<- hMl,List.drop_length];intro y hy;cases hy⟩) (fun k hk=>?_);clear F;obtain ⟨hk,h2⟩:=hk;by_cases hk0:k=0
  ·have q0:=lF 0 k;have F:=ai @q0 @tmz;refine gG ?_;exact ⟨k,⟨hk,h2,fun h=>om⟩,gw,gw⟩
  obtain ⟨j,rfl⟩:∃ j,k=j+1:=⟨k - 1,om⟩;obtain ⟨y,hy⟩:∃ y,M[j]?=some y:=⟨_,Taa om⟩;have q5:=lT 0 (j+1:Nat);have wj:IntKind.i64.wrap (((j+1:Nat):Int) - 1)=(j:Int):=ZaJ om om om;have lj:j < i:=om;have hdr:M.drop j=y::M.drop (j+1):=Zdu hy;generalize hk1:j+1=k1 at q5 wj h2 hk hdr ⊢;refine fB @tmz ?_;refine fC (aj8 @q5 @wj @hy @hx @hMl @lj @Zar @tmz) (Zdl (hMo.mem (Tac hy)) hxo) ?_;by_cases hc:0 < Zai y x
  ·have z:=eq_true hc;refine fR @z ?_;have h2':∀ u∈M.drop j,Zai x u<=0:=fun u hu=>by
    rw [hdr] at hu;rcases Tbg.1 hu with rfl | hu
    ·rw [ZbP u x];omega
    ·exact h2 u hu
   have F:=ai @z @wj;refine gG ?_;exact ⟨j,⟨om,h2'⟩,gw,gw,om⟩
  have z:=eq_false hc;refine fR @z ?_;have F:=ai @z @tmz;refine gG ?_;exact ⟨k1,⟨hk,h2,fun _=>⟨y,by rw [<- hk1,Nat.add_sub_cancel];exact hy,om⟩⟩,gw,gw⟩
 obtain ⟨hk,h2,h1⟩:=hk;have hMs:M.take k++x::M.drop k=Zaw (ts.take (i+1)):=by
  rw [hMr];refine ZoX (by rw [Tbm,hM]) h2 fun y hy=>?_;have hk0:0 < k:=by
   rcases Nat.eq_zero_or_pos k with h | h
   ·subst h;simp at hy
   ·exact h
  obtain ⟨z,hz,hc⟩:=h1 hk0;rw [List.getLast?_eq_getElem?,Taw,hMl,Nat.min_eq_left hk,List.getElem?_take,if_pos om,hz] at hy;injection hy with hy
  subst hy;exact hc
 have hdl:((Zac M).take (Zac M).length).drop k=Zac (M.drop k):=by rw [Tap,Zes]
 refine fN 8 @tmz ?_;refine pS 3 fun a cap=>?_;refine gB ?_;have F:=@tmz;refine gP 3 ?_;clear F;have hkl:k<=(Zac M).length:=by rw [Zae];omega
 refine (have F:=ai hMl tmz;gSub 3 k (Zac M).length ⟨hkl,Tai _⟩ ?_);refine gO 33 36 4 ?_;refine (have F:=tmz;gAps (rows:=[]) (rj:=Zac M) 33 3 ⟨hkl,Tai _⟩ (by rw [Zae];simp only [Tak,maxApp];omega) ?_);rw [hdl,Tah];refine fR @tmz ?_;refine fN 9 @tmz ?_;have hcl:(Zac M).take k=Zac (M.take k):=Zer _ _;have htl:(M.take k).length=k:=by rw [Taw];omega
 refine gF0 ?_;refine gFm 0 ?_;refine gFm 1 ?_;refine (have F:=ai hMl tmz;gFs 2 3 0 k ⟨Taj _,hkl⟩ ?_);rw [Zqj];refine gFm 3 ?_;refine gFm 4 ?_;refine gFm 9 ?_;refine gFT ?_;have l1:(k+1<=maxApp)=True:=eq_true (by unfold maxApp;omega);have l2:((M.take k).length+1+(M.drop k).length<=maxApp)=True:=eq_true (by rw [htl,Tax];unfold maxApp;omega);have e1:Zac (M.take k)++[Zab x]=Zac (M.take k++[x]):=by rw [ZbI];rfl
 have e2:Zac (M.take k++[x])++Zac (M.drop k)=Zac (Zaw (ts.take (i+1))):=by rw [<- ZbI,<- hMs];simp
 refine gO1 5 ?_;refine (have F:=aj4 q2 hx Zar tmz;gO3 ?_);refine gO1 6 ?_;refine (have F:=ai hx tmz;gO3 ?_);refine gO1 7 ?_;refine (have F:=tmz;gO3 ?_);refine gO1 8 ?_;refine gE [3] [3] (ZBr k hkl) ?_;rw [hcl];refine (have F:=aj4 htl l1 e1 tmz;gO3 ?_);refine gO1 10 ?_;refine (have F:=aj3 l2 e2 tmz;gO3 ?_);refine gO1 11 ?_;refine (have F:=tmz;gO3 ?_);refine (have F:=tmz;gT0 ?_);refine Exists.intro _ (ai (Wk.refl _) ?_)
 have F:=@q4;refine gG ?_;exact ⟨i+1,hlt,gw,gw,om⟩
theorem Zsn:∀ {l:List Tm},(∀ (j:Nat) p a,l[j]?=some p->l[j+1]?=some a->Zai p a<=0)->AscE l
 | [],_=>List.Pairwise.nil
 | [a],_=>List.pairwise_singleton _ _
 | a::b::l,h=>by
  have ih:=Zsn (l:=b::l) fun j p x hp hx=>h (j+1) p x (by simpa using hp) (by simpa using hx);have hab:=h 0 a b (by simp) (by simp);refine List.Pairwise.cons (fun x hx=>?_) ih;rcases Tbg.1 hx with rfl | hx
  ·exact hab
  ·exact ZbU hab ((List.pairwise_cons.1 ih).1 x hx)
theorem Zyn {g:Sgn} {p:Tm} (hF:ZaH g p) {x:Opr} {d:Dcl} (hA:AppOk g p x d) (hc:x.comm=true):AscE p.args:=by
 have h3:=(ZaY.1 hF).2.2;have h0:=hA.lo;have hR:=h3.resolve_left om;exact Zsn fun j q a hq ha=>(hR x d hA.at' hA.fst (j+1) a ha).ord hc j q rfl hq
def Eqo (o:Opr) (L M:List Tm):Prop:=L.Perm M∧(o.comm=false->L=M)
section
variable {o:Opr} {op:Int} {L M N L' M':List Tm}
theorem Eqo.refl (L:List Tm):Eqo o L L:=⟨.refl _,fun _=>rfl⟩
theorem Eqo.symm (h:Eqo o L M):Eqo o M L:=⟨h.1.symm,fun c=>(h.2 c).symm⟩
theorem Eqo.trans (h:Eqo o L M) (h':Eqo o M N):Eqo o L N:=⟨h.1.trans h'.1,fun c=>(h.2 c).trans (h'.2 c)⟩
theorem Eqo.app (h:Eqo o L M) (h':Eqo o L' M'):Eqo o (L++L') (M++M'):=⟨h.1.append h'.1,fun c=>by rw [h.2 c,h'.2 c]⟩
theorem Eqo.map (f:Tm->Tm) (h:Eqo o L M):Eqo o (L.map f) (M.map f):=⟨h.1.map f,fun c=>by rw [h.2 c]⟩
theorem Eqo.fl (h:Eqo o L M):Eqo o (Zah o op L) (Zah o op M):=⟨h.1.flatMap_right _,fun c=>by rw [h.2 c]⟩
theorem Eqo.srt (h:Eqo o L M):srtO o L=srtO o M:=by
 unfold srtO
 cases hc:o.comm with
 | true=>rw [if_pos rfl,if_pos rfl];exact ZiS h.1
 | false=>rw [if_neg (by decide),if_neg (by decide)];exact h.2 hc
theorem Eqo.srtL (L:List Tm):Eqo o (srtO o L) L:=⟨ZcI o L,fun hc=>by unfold srtO;rw [hc];rfl⟩
theorem Zm4 (h:Eqo o L M):mkL o op L=mkL o op M:=by
 have hl:=h.1.length_eq;unfold mkL;by_cases hu:o.unit≠0∧L.length < 2
 ·rw [if_pos hu,if_pos ⟨hu.1,om⟩];have e:L=M:=by
   match L,M,hl,h.1,hu.2 with
   | [],[],_,_,_=>rfl
   | [a],[b],_,hp,_=>rw [List.perm_singleton.1 hp]
  rw [e]
 ·have hu2:¬ (o.unit≠0∧M.length < 2):=fun q=>hu ⟨q.1,om⟩;rw [if_neg hu,if_neg hu2,h.srt]
end
section
variable {g:Sgn} {o:Opr} {d:Dcl} {op:Int} {b:List Bd}
theorem Zm5 {t:Tm} (ht:TermOk g t) (hA:AppOk g t o d):Zah o t.op t.args=t.args∧appT t.op (srtO o t.args)=t:=by
 have h0:=hA.lo;have hR:=(ZaY.1 ht.form).2.2.resolve_left om;refine ⟨?_,?_⟩
 ·have key:∀ us:List Tm,(∀ b∈us,(o.assoc=true->b.op≠t.op)∧(o.unit≠0->b.op≠o.unit - 1))->Zah o t.op us=us:=fun us=>by
   induction us with
   | nil=>intro _;rfl
   | cons b us ih =>
    intro h;have h1:=h b Tas;have:=ih fun b hb=>h b (Tal _ hb);unfold Zah at this ⊢;rw [List.flatMap_cons,this,ZaA,if_neg fun e=>h1.1 e.1 e.2,if_neg fun e=>h1.2 e.1 e.2];rfl
  refine key _ fun a ha=>?_;obtain ⟨i,hi⟩:=Tbk ha;have:=hR o d hA.at' hA.fst i a hi;exact ⟨this.nest,this.unit⟩
 ·have hs:srtO o t.args=t.args:=by
   unfold srtO
   cases hc:o.comm with
   | true=>rw [if_pos rfl];exact ZdQ (Zyn ht.form hA hc)
   | false=>rfl
  rw [hs];obtain ⟨op,nm,so,args⟩:=t;have h1:=hA.nm;have h2:=hA.so;simp only [Tm.name,Tm.sort] at h1 h2;subst h1 h2;rfl
theorem Zpe (hg:SgnOk g) {t:Tm} (ht:TermOk g t) (hA:AppOk g t o d):mkT g t.op t.args=some t:=by
 have h0:=hA.lo;obtain ⟨f1,f2⟩:=Zm5 ht hA;have hR:=(ZaY.1 ht.form).2.2.resolve_left om;have htwo:=(hg.axs o (Tac hA.at')).two;rw [Zd7 hA.at' hA.fst,mkO,if_neg,if_pos,f1,mkL,if_neg,f2,if_neg]
 ·rintro (⟨h1,h2⟩ | h1 | h1)
  ·have:=(hA.asc h1).2;rw [ZgE] at h2;omega
  ·rw [f2] at h1;have:=ht.size;omega
  ·rw [f2] at h1;have:=ht.depth;omega
 ·rintro ⟨hu,hl⟩;have h2:=(htwo (.inr (.inr hu)) d hA.fst).1
  cases ha:o.assoc with
  | true=>have:=(hA.asc ha).1;omega
  | false=>have:=hA.nas ha;omega
 ·intro i a hi;have hk:=(hR o d hA.at' hA.fst i a hi).kind;have hil:=(Tad.1 hi).1;have hlt:argAt o i < d.args.length:=by
   unfold argAt
   cases ha:o.assoc with
   | true=>have:=(htwo (.inl ha) d hA.fst).1;simp;omega
   | false=>have:=hA.nas ha;simp;omega
  exact ⟨_,Taa hlt,hk _ (Taa hlt)⟩
 ·rintro (⟨ha,h⟩ | ⟨ha,h⟩)
  ·have:=(hA.asc ha).1;omega
  ·exact h (hA.nas ha)
theorem Zg2 (hg:SgnOk g) {i:Nat} (ho:g.ops[i]?=some o) (hd:o.decls[0]?=some d) (hu:o.unit≠0) {t:Tm} (ht:TermOk g t) (hop:t.op=o.unit - 1):t=ZaB o:=by
 have hax:=hg.axs o (Tac ho);have hlo:=hax.lo;have hhi:=hax.hi;obtain ⟨k1,k2,hk,_⟩:=Opr.two hg ho hd (.inr (.inr hu));obtain ⟨p,u,hA⟩:=ht.form.node.app om;have hp:=hA.at';rw [hop] at hp;have e:(o.unit - 1).toNat=o.unit.toNat - 1:=om;rw [e] at hp;have h2:=((hax.two (.inr (.inr hu)) d hd).2 k1 k2 (by rw [hk];rfl) (by rw [hk];rfl)).2.2 hu p u hp hA.fst;have has:p.assoc=false:=by
  cases hpa:p.assoc with
  | false=>rfl
  | true=>have:=((hg.axs p (Tac hp)).two (.inl hpa) u hA.fst).1;omega
 have hl:=hA.nas has;have ha:t.args=[]:=Tao om;have h3:=hA.nm;have h4:=hA.so;obtain ⟨op,nm,so,args⟩:=t;simp only [Tm.name,Tm.sort,Tm.args,Tm.op] at *;subst h3 h4 ha hop;simp only [ZaB,if_neg hu]
theorem Zia (hg:SgnOk g) {i:Nat} (ho:g.ops[i]?=some o) (hd:o.decls[0]?=some d) (hu:o.unit≠0):apT g b (ZaB o)=some (ZaB o):=by
 have hU:=(ZiU hg ho hd hu).1;have hax:=hg.axs o (Tac ho);have e:(ZaB o).op=o.unit - 1:=by simp only [ZaB,Tm.op,if_neg hu]
 have ha:(ZaB o).args=[]:=rfl;have hlo:=hax.lo;obtain ⟨p,v,hA⟩:=hU.form.node.app (by rw [e];omega);rw [Zdv (by rw [e];omega),ha];have:=Zpe hg hU hA;rw [ha] at this;simpa only [apTs,Option.bind_some] using this
noncomputable def apD (g:Sgn) (b:List Bd) (t:Tm):Tm:=(apT g b t).getD zTm
theorem ZfP:∀ {ts us:List Tm},apTs g b ts=some us->us=ts.map (apD g b)∧∀ t∈ts,∃ u,apT g b t=some u
 | [],us,h=>by simp only [apTs,Taq] at h;subst h;exact ⟨rfl,fun t ht=>(by cases ht)⟩
 | t::ts,us,h=>by
  simp only [apTs] at h
  cases h1:apT g b t with
  | none=>rw [h1] at h;cases h
  | some v =>
   rw [h1] at h
   cases h2:apTs g b ts with
   | none=>rw [h2] at h;cases h
   | some vs =>
    rw [h2] at h;simp only [Option.bind_some,Option.map_some,Taq] at h;subst h;obtain ⟨e,hall⟩:=ZfP h2;refine ⟨by rw [Tbu,<- e,apD,h1];rfl,fun x hx=>?_⟩;rcases Tbg.1 hx with rfl | hx
    ·exact ⟨v,h1⟩
    ·exact hall x hx
theorem ZkC:∀ {ts:List Tm},(∀ t∈ts,∃ u,apT g b t=some u)->apTs g b ts=some (ts.map (apD g b))
 | [],_=>by simp only [apTs,List.map_nil]
 | t::ts,h=>by
  obtain ⟨u,hu⟩:=h t Tas;have ih:=ZkC (ts:=ts) fun x hx=>h x (Tal _ hx);simp only [apTs,ih,hu,Option.bind_some,Option.map_some,Tbu,apD,Option.getD_some]
theorem Zm6 (hg:SgnOk g) (hb:∀ y∈b,TermOk g y.to) {ts us:List Tm} (ht:∀ t∈ts,TermOk g t) (h:apTs g b ts=some us):∀ u∈us,TermOk g u:=fun u hu=>by
 obtain ⟨x,hx,hxe⟩:=ZgH h u hu;exact Ze4 hg hb _ x (Tan _) (ht x hx) hxe
theorem Zth {m:Tm} (h:FlOk g o op m):ZaA o op m=[m]:=by
 unfold ZaA;rw [if_neg fun q=>h.nest q.1 q.2,if_neg fun q=>h.unit q.1 q.2]
theorem ZlH (hg:SgnOk g) (h0:0<=op) (ho:g.ops[op.toNat]?=some o) (hd:o.decls[0]?=some d) (hu:o.unit≠0):ZaA o op (ZaB o)=[]:=by
 have e:(ZaB o).op=o.unit - 1:=by simp only [ZaB,Tm.op,if_neg hu]
 have hlo:=(hg.axs o (Tac ho)).lo;unfold ZaA;rw [if_neg,if_pos ⟨hu,e⟩];rintro ⟨ha,hop⟩;obtain ⟨p,v,hA⟩:=(ZiU hg ho hd hu).1.form.node.app (by rw [hop];omega);have hp:=hA.at';rw [hop,ho] at hp;injection hp with hp
 subst hp;have h1:=(hA.asc ha).1;have h2:(ZaB o).args.length=0:=rfl;omega
theorem ZBU (hg:SgnOk g) (h0:0<=op) (ho:g.ops[op.toNat]?=some o) (hd:o.decls[0]?=some d) (hb:∀ y∈b,TermOk g y.to) {u w:Tm} (hu:TermOk g u) (hw:apT g b u=some w):Eqo o (ZaA o op w) (Zah o op ((ZaA o op u).map (apD g b))):=by
 by_cases h1:o.assoc=true∧u.op=op
 ·have e1:ZaA o op u=u.args:=by unfold ZaA;rw [if_pos h1]
  rw [e1];rw [Zdv om,h1.2] at hw
  cases h2:apTs g b u.args with
  | none=>rw [h2] at hw;cases hw
  | some ms =>
   rw [h2,Option.bind_some] at hw;obtain ⟨e2,hall⟩:=ZfP h2;rw [<- e2];have hfl:=ZiV hg h0 ho hd (Zm6 hg hb (fun a ha=>hu.arg ha) h2);rw [Zd7 ho hd,mkO] at hw;split at hw
   ·cases hw
   split at hw;rotate_left
   ·cases hw
   unfold mkL at hw;split at hw
   ·rename_i hq;obtain ⟨hun,hl⟩:=hq;injection hw with hw
    cases hf:Zah o op ms with
    | nil =>
     rw [hf] at hw;have hw:ZaB o=w:=hw;rw [<- hw,ZlH hg h0 ho hd hun];exact Eqo.refl _
    | cons m l =>
     rw [hf] at hw hl hfl;have hw:m=w:=hw;have:l=[]:=Tao (by simp only [Tag] at hl;omega);rw [this];rw [<- hw,Zth (hfl m Tas)];exact Eqo.refl _
   ·split at hw
    ·cases hw
    ·injection hw with hw
     have e3:ZaA o op w=srtO o (Zah o op ms):=by
      rw [<- hw];unfold ZaA;rw [if_pos ⟨h1.1,rfl⟩];rfl
     rw [e3];exact Eqo.srtL _
 ·by_cases h2:o.unit≠0∧u.op=o.unit - 1
  ·have e1:ZaA o op u=[]:=by unfold ZaA;rw [if_neg h1,if_pos h2]
   rw [Zg2 hg ho hd h2.1 hu h2.2,Zia hg ho hd h2.1] at hw;injection hw with hw
   rw [e1,<- hw,ZlH hg h0 ho hd h2.1];exact Eqo.refl _
  ·have e1:ZaA o op u=[u]:=by unfold ZaA;rw [if_neg h1,if_neg h2]
   have e2:Zah o op ([u].map (apD g b))=ZaA o op w:=by simp [Zah,apD,hw]
   rw [e1,e2];exact Eqo.refl _
theorem Zpf (hg:SgnOk g) (h0:0<=op) (ho:g.ops[op.toNat]?=some o) (hd:o.decls[0]?=some d) (hb:∀ y∈b,TermOk g y.to):∀ {us ws:List Tm},(∀ u∈us,TermOk g u)->apTs g b us=some ws->Eqo o (Zah o op ws) (Zah o op ((Zah o op us).map (apD g b)))
 | [],ws,_,h=>by simp only [apTs,Taq] at h;subst h;exact Eqo.refl _
 | u::us,ws,hu,h=>by
  simp only [apTs] at h
  cases h1:apT g b u with
  | none=>rw [h1] at h;cases h
  | some w =>
   rw [h1] at h
   cases h2:apTs g b us with
   | none=>rw [h2] at h;cases h
   | some vs =>
    rw [h2] at h;simp only [Option.bind_some,Option.map_some,Taq] at h;subst h;have ih:=Zpf hg h0 ho hd hb (fun x hx=>hu x (Tal _ hx)) h2;have e1:Zah o op (w::vs)=ZaA o op w++Zah o op vs:=by simp [Zah]
    have e2:Zah o op ((Zah o op (u::us)).map (apD g b))=Zah o op ((ZaA o op u).map (apD g b))++Zah o op ((Zah o op us).map (apD g b)):=by simp [Zah]
    rw [e1,e2];exact (ZBU hg h0 ho hd hb (hu u Tas) h1).app ih
theorem ZgK {xs:List Tm} {t:Tm} (h:mkO g o d op xs=some t):¬ ArB o d xs.length∧(∀ (i:Nat) a,xs[i]?=some a->KArg g o d i a)∧mkL o op (Zah o op xs)=some t:=by
 unfold mkO at h;split at h
 ·cases h
 ·rename_i h1;split at h
  ·rename_i h2;exact ⟨h1,h2,h⟩
  ·cases h
theorem Zyo {X Y R:List Tm} (h:(X++R).Perm Y) (hY:¬ BigT o op (srtO o Y)):¬ BigT o op (srtO o X):=by
 have e1:∀ l:List Tm,sizeTm (appT op (srtO o l))=1+sizeTms l:=fun l=>by rw [ZaM,show (appT op (srtO o l)).args=srtO o l from rfl,Zd8 (ZcI o l)]
 have e2:∀ l:List Tm,depthTm (appT op (srtO o l))=1+depthTms l:=fun l=>by rw [ZcB,show (appT op (srtO o l)).args=srtO o l from rfl,Zc7 (ZcI o l)]
 have hl:=h.length_eq;have hs:=Zd8 h;have hd:=Zc7 h;rw [Tae] at hl;rw [Zhe] at hs;rw [Zgz] at hd;intro hX;refine hY ?_;unfold BigT at hX ⊢;rw [e1,e2,ZgE] at hX ⊢;rcases hX with ⟨q1,q2⟩ | q | q
 ·exact .inl ⟨q1,om⟩
 ·exact .inr (.inl om)
 ·exact .inr (.inr om)
theorem ZAL (hg:SgnOk g) (h0:0<=op) (ho:g.ops[op.toNat]?=some o) (hd:o.decls[0]?=some d) (hb:∀ y∈b,TermOk g y.to) {us:List Tm} {x y:Tm} (hus:∀ u∈us,TermOk g u) (hx:mkT g op us=some x) (hy:apT g b x=some y) :
  (∀ u∈us,∃ w,apT g b u=some w)∧∀ ws z,apTs g b us=some ws->mkT g op ws=some z->y=z:=by
 rw [Zd7 ho hd] at hx;obtain ⟨hA1,hK1,hx⟩:=ZgK hx;have hfl:=ZiV hg h0 ho hd hus;have hone:∀ {u:Tm},u∈us->¬ (o.assoc=true∧u.op=op)->¬ (o.unit≠0∧u.op=o.unit - 1)->u∈Zah o op us:=fun {u} hu h1 h2=>List.mem_flatMap.2 ⟨u,hu,by unfold ZaA;rw [if_neg h1,if_neg h2];exact Tbj.2 rfl⟩;have hsub:∀ {u:Tm},u∈us->o.assoc=true∧u.op=op->(∀ a∈u.args,a∈Zah o op us)∧2<=u.args.length∧∃ s1 s2,Zah o op us=Zah o op s1++(u.args++Zah o op s2):=fun {u} hu h1=>by
  have e1:ZaA o op u=u.args:=by unfold ZaA;rw [if_pos h1]
  obtain ⟨p,v,hA⟩:=(hus u hu).form.node.app om;have hp:=hA.at';rw [h1.2,ho] at hp;injection hp with hp
  subst hp;obtain ⟨s1,s2,rfl⟩:=List.append_of_mem hu;refine ⟨fun a ha=>List.mem_flatMap.2 ⟨u,hu,by rw [e1];exact ha⟩,(hA.asc h1.1).1,s1,s2,?_⟩;rw [<- e1];simp [Zah]
 unfold mkL at hx;split at hx
 ·rename_i hq;obtain ⟨hun,hl⟩:=hq;injection hx with hx
  refine ⟨fun u hu=>?_,fun ws z hws hz=>?_⟩
  ·by_cases h1:o.assoc=true∧u.op=op
   ·obtain ⟨_,h2,s1,s2,h3⟩:=hsub hu h1;rw [h3] at hl;simp only [Tae] at hl;omega
   ·by_cases h2:o.unit≠0∧u.op=o.unit - 1
    ·rw [Zg2 hg ho hd h2.1 (hus u hu) h2.2];exact ⟨_,Zia hg ho hd h2.1⟩
    ·have hm:=hone hu h1 h2
     cases hf:Zah o op us with
     | nil=>rw [hf] at hm;cases hm
     | cons m l =>
      rw [hf] at hm hl hx;have:l=[]:=Tao (by simp only [Tag] at hl;omega);subst this;have hx:m=x:=hx;rw [Tbj.1 hm,hx];exact ⟨y,hy⟩
  ·have hE:=Zpf hg h0 ho hd hb hus hws;rw [Zd7 ho hd] at hz;have hz:=(ZgK hz).2.2;rw [Zm4 hE] at hz;have hz1:∀ t:List Tm,t.length < 2->mkL o op t=some (t.headD (ZaB o)):=fun t ht=>by unfold mkL;rw [if_pos ⟨hun,ht⟩]
   cases hf:Zah o op us with
   | nil =>
    rw [hf] at hx hz;have hx:ZaB o=x:=hx;rw [<- hx,Zia hg ho hd hun] at hy;injection hy with hy
    rw [show Zah o op (([]:List Tm).map (apD g b))=[] from rfl,hz1 [] (by decide)] at hz;injection hz with hz
    exact hy.symm.trans hz
   | cons m l =>
    rw [hf] at hx hz hl hfl;have:l=[]:=Tao (by simp only [Tag] at hl;omega);subst this;have hx:m=x:=hx;have hm:=hfl m Tas;have hmT:TermOk g m:=⟨hm.size,hm.depth,hm.form⟩;rw [<- hx] at hy;have hyT:=Ze4 hg hb _ m (Tan _) hmT hy;have e:Zah o op ([m].map (apD g b))=ZaA o op y:=by simp [Zah,apD,hy]
    rw [e] at hz;by_cases h1:o.assoc=true∧y.op=op
    ·have e1:ZaA o op y=y.args:=by unfold ZaA;rw [if_pos h1]
     obtain ⟨p,v,hA⟩:=hyT.form.node.app om;have hp:=hA.at';rw [h1.2,ho] at hp;injection hp with hp
     subst hp;have hv:=hA.fst;rw [hd] at hv;injection hv with hv
     subst hv;have h3:=Zpe hg hyT hA;rw [h1.2,Zd7 ho hd] at h3;have h3:=(ZgK h3).2.2;have h4:=(Zm5 hyT hA).1;rw [h1.2] at h4;rw [h4] at h3;rw [e1,h3] at hz;injection hz
    ·by_cases h2:o.unit≠0∧y.op=o.unit - 1
     ·have e1:ZaA o op y=[]:=by unfold ZaA;rw [if_neg h1,if_pos h2]
      rw [e1,hz1 [] (by decide)] at hz;injection hz with hz
      rw [Zg2 hg ho hd h2.1 hyT h2.2];exact hz
     ·have e1:ZaA o op y=[y]:=by unfold ZaA;rw [if_neg h1,if_neg h2]
      rw [e1,hz1 [y] (by show 1 < 2;decide)] at hz;injection hz
 ·rename_i hnu;split at hx
  ·cases hx
  injection hx with hx
  have hop:x.op=op:=by rw [<- hx];rfl
  have hargs:x.args=srtO o (Zah o op us):=by rw [<- hx];rfl
  rw [Zdv om,hop,hargs] at hy
  cases h2:apTs g b (srtO o (Zah o op us)) with
  | none=>rw [h2] at hy;cases hy
  | some ys =>
  rw [h2,Option.bind_some,Zd7 ho hd] at hy;obtain ⟨e,hall⟩:=ZfP h2;have hmem:∀ a,a∈Zah o op us->a∈srtO o (Zah o op us):=fun a ha=>(ZcI o _).mem_iff.2 ha;obtain ⟨_,hK2,hy⟩:=ZgK hy;have hE1:Eqo o (Zah o op ys) (Zah o op ((Zah o op us).map (apD g b))):=by rw [e];exact ((Eqo.srtL _).map _).fl
  refine ⟨fun u hu=>?_,fun ws z hws hz=>?_⟩
  ·by_cases h1:o.assoc=true∧u.op=op
   ·obtain ⟨q1,q2,s1,s2,q3⟩:=hsub hu h1;have q4:=ZkC (g:=g) (b:=b) (ts:=u.args) fun t ht=>hall t (hmem t (q1 t ht));rw [Zdv om,h1.2,q4,Option.bind_some,Zd7 ho hd,mkO,if_neg,if_pos]
    ·rw [mkL];by_cases hq:o.unit≠0∧(Zah o op (u.args.map (apD g b))).length < 2
     ·rw [if_pos hq];exact ⟨_,rfl⟩
     ·rw [if_neg hq];have hp:(Zah o op (u.args.map (apD g b))++(Zah o op ((Zah o op s1).map (apD g b))++Zah o op ((Zah o op s2).map (apD g b)))).Perm (Zah o op ys):=by
       refine List.Perm.trans ?_ hE1.1.symm;rw [q3];have e3:Zah o op ((Zah o op s1++(u.args++Zah o op s2)).map (apD g b))=Zah o op ((Zah o op s1).map (apD g b))++(Zah o op (u.args.map (apD g b))++Zah o op ((Zah o op s2).map (apD g b))):=by simp [Zah]
       rw [e3,<- Tbf,<- Tbf];exact List.Perm.append_right _ List.perm_append_comm
      have hlen:=hp.length_eq;rw [Tae] at hlen;unfold mkL at hy;split at hy
      ·rename_i hr;exact absurd ⟨hr.1,om⟩ hq
      ·split at hy
       ·cases hy
       ·rename_i hB;rw [if_neg (Zyo hp hB)];exact ⟨_,rfl⟩
    ·intro i a hi;have ha:=Tac hi;obtain ⟨l,hl,rfl⟩:=Tbi.1 ha;have:apD g b l∈ys:=by rw [e];exact List.mem_map_of_mem (hmem l (q1 l hl))
     obtain ⟨j,hj⟩:=Tbk this;have:=hK2 j _ hj;unfold KArg argAt at this ⊢;rw [if_pos h1.1] at this ⊢;exact this
    ·rintro (⟨_,q⟩ | ⟨q,_⟩)
     ·rw [Tay] at q;omega
     ·rw [h1.1] at q;cases q
   ·by_cases h2:o.unit≠0∧u.op=o.unit - 1
    ·rw [Zg2 hg ho hd h2.1 (hus u hu) h2.2];exact ⟨_,Zia hg ho hd h2.1⟩
    ·exact hall u (hmem u (hone hu h1 h2))
  ·rw [Zd7 ho hd] at hz;have hz:=(ZgK hz).2.2;rw [Zm4 ((Zpf hg h0 ho hd hb hus hws).trans hE1.symm),hy] at hz;injection hz
end
def putB:List Bd->Bd->List Bd
 | [],y=>[y]
 | x::l,y=>if Zai x.var y.var < 0 then x::putB l y else y::x::l
def srtB (l:List Bd):List Bd:=l.foldl putB []
def UpB (l:List Bd):Prop:=l.Pairwise fun x y=>Zai x.var y.var < 0
theorem Zm7 (l:List Bd) (y:Bd):srtB (l++[y])=putB (srtB l) y:=by simp [srtB,List.foldl_append]
theorem Zso {y:Bd}:∀ {l:List Bd} {i:Nat},i<=l.length->(∀ (j:Nat) x,j < i->l[j]?=some x->Zai x.var y.var < 0)->(∀ x,l[i]?=some x->¬ Zai x.var y.var < 0)->putB l y=l.take i++y::l.drop i
 | [],i,hi,_,_=>by simp at hi;subst hi;rfl
 | x::l,0,_,_,h2=>by simp [putB,h2 x rfl]
 | x::l,i+1,hi,h1,h2=>by
  have h0:=h1 0 x om rfl;simp only [putB,if_pos h0,Tbc,List.drop_succ_cons,Taf];rw [Zso (by simpa using hi) (fun j z hj hz=>h1 (j+1) z om (by simpa using hz)) (fun z hz=>h2 z (by simpa using hz))]
theorem Zg3 (y:Bd):∀ l,(putB l y).Perm (y::l)
 | []=>.refl _
 | x::l=>by
  simp only [putB];split
  ·exact ((Zg3 y l).cons x).trans (.swap y x l)
  ·exact .refl _
theorem ZcJ (l:List Bd):(srtB l).Perm l:=by
 have:∀ (l m:List Bd),(l.foldl putB m).Perm (l++m):=fun l=>by
  induction l with
  | nil=>exact fun m=>.refl _
  | cons x l ih =>
   intro m;refine (ih (putB m x)).trans ?_;refine ((Zg3 x m).append_left l).trans ?_;simp
 simpa [srtB] using this l []
theorem Zsp {y:Bd}:∀ {l:List Bd},UpB l->(∀ x∈l,Zai x.var y.var≠0)->UpB (putB l y)
 | [],_,_=>by simp [putB,UpB]
 | x::l,h,hn=>by
  obtain ⟨h1,h2⟩:=List.pairwise_cons.1 h;simp only [putB];split
  ·next hlt =>
   refine List.pairwise_cons.2 ⟨fun z hz=>?_,Zsp h2 fun z hz=>hn z (Tal _ hz)⟩;rcases Tbg.1 ((Zg3 y l).mem_iff.1 hz) with rfl | hz
   ·exact hlt
   ·exact h1 z hz
  ·next hge =>
   have hx:=hn x Tas;have hyx:Zai y.var x.var < 0:=by rw [ZbP];omega
   refine List.pairwise_cons.2 ⟨fun z hz=>?_,h⟩;rcases Tbg.1 hz with rfl | hz
   ·exact hyx
   ·exact Zfh hyx (h1 z hz)
def Zei (l:List Bd):Prop:=l.Pairwise fun x y=>Zai x.var y.var≠0
theorem ZAM {l:List Bd} (h:Zei l):UpB (srtB l):=by
 have:∀ (l m:List Bd),UpB m->Zei l->(∀ x∈m,∀ y∈l,Zai x.var y.var≠0)->UpB (l.foldl putB m):=fun l=>by
  induction l with
  | nil=>exact fun m h _ _=>h
  | cons x l ih =>
   intro m hm hd hx;obtain ⟨d1,d2⟩:=List.pairwise_cons.1 hd;refine ih _ (Zsp hm fun z hz=>hx z hz x Tas) d2 fun z hz y hy=>?_;rcases Tbg.1 ((Zg3 x m).mem_iff.1 hz) with rfl | hz
   ·exact d1 y hy
   ·exact hx z hz y (Tal _ hy)
 exact this l [] List.Pairwise.nil h (fun x hx=>by cases hx)
theorem Zpg:∀ {l m:List Bd},UpB l->UpB m->l.Perm m->l=m
 | [],m,_,_,h=>h.nil_eq
 | x::l,[],_,_,h=>by simpa using h.length_eq
 | x::l,y::m,h1,h2,h=>by
  obtain ⟨a1,a2⟩:=List.pairwise_cons.1 h1;obtain ⟨b1,b2⟩:=List.pairwise_cons.1 h2;have e:x=y:=by
   rcases Tbg.1 (h.mem_iff.1 (Tas (a:=x))) with e | hx
   ·exact e
   ·rcases Tbg.1 (h.mem_iff.2 (Tas (a:=y))) with e | hy
    ·exact e.symm
    ·have q1:=b1 x hx;have q2:=a1 y hy;rw [ZbP] at q1;omega
  subst e;rw [Zpg a2 b2 ((List.perm_cons x).1 h)]
section
variable {g:Sgn}
noncomputable def mapA (g:Sgn) (b:List Bd):List Bd->Option (List Bd)
 | []=>some []
 | y::l=>(apT g b y.to).bind fun t=>(mapA g b l).map (⟨y.var,t⟩::·)
theorem Zm8 {b:List Bd} {y:Bd}:∀ (l:List Bd),mapA g b (l++[y])=(mapA g b l).bind fun m=>(apT g b y.to).map fun t=>m++[⟨y.var,t⟩]
 | []=>by
  simp only [Tah,mapA,Option.bind_some]
  cases apT g b y.to <;> rfl
 | x::l=>by
  simp only [Taf,mapA,Zm8 l]
  cases apT g b x.to with
  | none=>rfl
  | some u =>
   simp only [Option.bind_some]
   cases mapA g b l with
   | none=>rfl
   | some us =>
    simp only [Option.bind_some,Option.map_some]
    cases apT g b y.to <;> rfl
theorem Zi7 {b:List Bd} {y:Bd}:∀ {l:List Bd},y∈l->apT g b y.to=none->mapA g b l=none
 | x::l,hm,h=>by
  simp only [mapA];rcases Tbg.1 hm with rfl | hm
  ·rw [h];rfl
  ·rw [Zi7 hm h]
   cases apT g b x.to <;> rfl
theorem ZeQ {b:List Bd}:∀ {l m:List Bd},mapA g b l=some m->m.map Bd.var=l.map Bd.var∧∀ z∈m,∃ y∈l,z.var=y.var∧apT g b y.to=some z.to
 | [],m,h=>by simp only [mapA,Taq] at h;subst h;exact ⟨rfl,fun z hz=>by cases hz⟩
 | y::l,m,h=>by
  simp only [mapA] at h
  cases h1:apT g b y.to with
  | none=>rw [h1] at h;cases h
  | some t =>
   rw [h1,Option.bind_some] at h
   cases h2:mapA g b l with
   | none=>rw [h2] at h;cases h
   | some k =>
    rw [h2,Option.map_some,Taq] at h;subst h;obtain ⟨e1,e2⟩:=ZeQ h2;refine ⟨by simp [e1],fun z hz=>?_⟩;rcases Tbg.1 hz with rfl | hz
    ·exact ⟨y,Tas,rfl,h1⟩
    ·obtain ⟨x,hx,hxe⟩:=e2 z hz;exact ⟨x,Tal _ hx,hxe⟩
def inA (a:List Bd) (v:Tm):Bool:=a.any fun z=>decide (Zai v z.var=0)
def Za0 (a b:List Bd):List Bd:=b.filter fun y=>!inA a y.var
theorem ZlI {a b:List Bd} {i:Nat} {y:Bd} (h:b[i]?=some y):Za0 a (b.take (i+1))=if inA a y.var=true then Za0 a (b.take i) else Za0 a (b.take i)++[y]:=by
 unfold Za0;rw [List.take_add_one,h,Option.toList,List.filter_append]
 cases hi:inA a y.var <;> simp [hi]
theorem Zsq {a:List Bd} {v:Tm}:(Zbx a v).isSome=inA a v:=by
 induction a with
 | nil=>rfl
 | cons z a ih =>
  simp only [Zbx,inA,List.any_cons];have e:(Zai v z.var=0) ↔ (Zai z.var v=0):=by rw [ZbP];omega
  by_cases h:Zai z.var v=0
  ·rw [if_pos h,decide_eq_true (e.2 h)];rfl
  ·rw [if_neg h,decide_eq_false (fun q=>h (e.1 q)),Bool.false_or];exact ih
theorem SbsOk.up {l:List Bd} (h:SbsOk g l):UpB l:=by
 refine List.pairwise_iff_getElem.2 fun i j hi hj hij=>?_;have key:∀ (n:Nat) (i:Nat) (hi:i+(n+1) < l.length),Zai (l[i]'om).var (l[i+(n+1)]).var < 0:=fun n=>by
  induction n with
  | zero=>exact fun i hi=>(h.at' (i+1) _ (Taa hi)).ord i _ rfl (Taa om)
  | succ n ih=>exact fun i hi=>Zfh (ih i om) ((h.at' (i+(n+1+1)) _ (Taa hi)).ord (i+(n+1)) _ rfl (Taa om))
 have:=key (j - i - 1) i om;have e:i+(j - i - 1+1)=j:=om;simpa only [e] using this
theorem UpB.dist {l:List Bd} (h:UpB l):Zei l:=h.imp fun h=>om
theorem ZwP {l m:List Bd} (h:m.map Bd.var=l.map Bd.var) (hd:Zei l):Zei m:=by
 have h1:(l.map Bd.var).Pairwise fun x y=>Zai x y≠0:=List.pairwise_map.2 hd;rw [<- h] at h1;exact List.pairwise_map.1 h1
theorem Zm9 {a b m:List Bd} (ha:Zei a) (hb:Zei b) (hm:m.map Bd.var=a.map Bd.var):Zei (m++Za0 a b):=by
 refine List.pairwise_append.2 ⟨ZwP hm ha,hb.filter _,fun x hx y hy=>?_⟩;unfold Za0 at hy;obtain ⟨_,h1⟩:=List.mem_filter.1 hy;have hxv:x.var∈a.map Bd.var:=by rw [<- hm];exact List.mem_map_of_mem hx
 obtain ⟨z,hz,e⟩:=Tbi.1 hxv;intro hc;have:inA a y.var=true:=by
  unfold inA;refine List.any_eq_true.2 ⟨z,hz,?_⟩;rw [decide_eq_true_iff,e,ZbP];omega
 rw [this] at h1
 cases h1
open Classical in
noncomputable def cmS (g:Sgn) (a b:List Bd):Option (List Bd):=if Zbn g=true∧Zbu g a=true∧Zbu g b=true then (mapA g b a).bind fun m=>if Zbu g (srtB (m++Za0 a b))=true then some (srtB (m++Za0 a b)) else none else none
end
section
variable {e:Env} {K:St->Prop} {s:List (Nat × A)} {m:List (Nat × Bk)}
theorem gFb {ops:Array Oper} {f d ty t t':Nat} {p:String} {ed:Array Edge} {op:BinOp} {x y:Operand} {a b v:Value} {listed:Array Bool} (i:Nat) (hK:Zcb e ops K f (listed.setIfInBounds i true) ⟨(d,.d (.one (.lit v)))::s,m⟩)
  (hi:ops[i]?=some ⟨some d,.binOp op t x y t',ty,p,ed,none⟩:=by simp only [List.getElem?_toArray,Tau,Tat];exact rfl) (hx:evA s x=.d (.one (.lit a)):=by exact snv) (hy:evA s y=.d (.one (.lit b)):=by exact snv) (hv:binT e.P op t a b=some v:=by exact sfv) (hsel:Zh9 ops=true:=by decide +kernel) (hap:Zi4 ops listed i=true:=by decide +kernel) (hr:(Region.ready .any ops listed).contains i=true:=by decide +kernel):Zcb e ops K (f+1) listed ⟨s,m⟩:=by
 refine ZfB (o:=⟨some d,.binOp op t x y t',ty,p,ed,none⟩) hi rfl rfl hsel hap hr (fun _ U w0 S0 nt ac w S L h=>⟨v,fun w2=>?_,by simp [ARel,DRel,Rep]⟩) hK;have h1:=h.eval x;have h2:=h.eval y;rw [hx] at h1;rw [hy] at h2;have h1:=Zbk h1;have h2:=Zbk h2;have:=Zod (x:=x) (y:=y) hv w2;simp only [execOp,h1,h2];rw [Sem.run_bind,this];rfl
theorem gFi {ops:Array Oper} {f d ty t k ety sz:Nat} {p:String} {ed:Array Edge} {x y:Operand} {o:Option (Option Addr × Nat)} {rows:List (List C)} {kk:IntKind} {listed:Array Bool} (i j:Nat) (hlt:j < rows.length) (hK:Zcb e ops K f (listed.setIfInBounds i true) ⟨(d,.row k j sz 0)::s,m⟩)
  (hi:ops[i]?=some ⟨some d,.indexAddr t x y,ty,p,ed,none⟩:=by simp only [List.getElem?_toArray,Tau,Tat];exact rfl) (hx:nrm m (evA s x)=.buf k:=by exact sfx) (hy:evA s y=.d (.one (.lit (.int kk (j:Int)))):=by exact snv) (hm:gm m k=some (.buf o ety sz rows):=by exact snv) (ht:ZbL e.P t=some sz:=by exact snx) (hsel:Zh9 ops=true:=by decide +kernel) (hap:Zi4 ops listed i=true:=by decide +kernel) (hr:(Region.ready .any ops listed).contains i=true:=by decide +kernel):Zcb e ops K (f+1) listed ⟨s,m⟩:=by
 refine ZfB (o:=⟨some d,.indexAddr t x y,ty,p,ed,none⟩) hi rfl rfl hsel hap hr (fun _ U w0 S0 nt ac w S L h=>?_) hK;have hx':=Zcp h.cls (h.eval x);simp only at hx';rw [hx] at hx';have hx':ac.eval x=L.v k:=hx';have hy':=h.eval y;rw [hy] at hy';have hy':=Zbk hy';obtain ⟨_,_,_,h4⟩:=h.cls.own k _ hm;rcases h4 with ⟨h4,_⟩ | ⟨g,cap,cur,hv,hcp,_⟩
 ·rw [h4] at hlt;simp at hlt
 ·refine ⟨.pointer (some ⟨g,j * sz,none⟩),fun w2=>?_,g,?_,rfl⟩
  ·have:=Ziz (P:=e.P) (j:=(j:Int)) ht (Int.natCast_nonneg _) (by rw [Tbw];exact hlt) (g:=g) (cap:=cap) (k:=kk) (w:=w2);rw [Tbw] at this;simp [execOp,hy',hx',hv,this]
  ·rw [hv];simp only [vblk];rw [if_neg om]
end
def RBuf (a:Option Addr) (cap:Nat) (us:List Tm) (r:List D) (pm:List Bk):Prop:=r=[]∧pm=[.buf (some (a,cap)) 36 4 (Zac us)]
theorem Zas (l:List Tm) (i:Nat) (t:Tm):(Zac l).set i (Zab t)=Zac (l.set i t):=by
 rw [ZbZ,ZbZ,List.map_set]
theorem gTPe {X:Prop} {P:Program} {ts:List RS} {R:List D->List Bk->Prop} {σ:St} {r:List D} {pm:List Bk} (ks:List Nat) (hR:R r pm) (hx:ZkX P ts R .normal σ->X:=by first | exact fun h=>h | exact fun h=>⟨_,Wk.refl _,h⟩) (hr:resD P σ ts=some r:=by exact sfy) (hg:getM σ.m ks=some pm:=by exact sny) (hn:ks.Nodup:=by decide) (hp:pm.all pinned=true:=by exact sny):X :=
 hx ⟨r,ks,pm,hg,hn,hp,hR,Zfd hr⟩
theorem ZjA:ZdB (Tryz.prog.underlying 3)=some .i64:=by kernel_rfl
theorem Zib:Tryz.prog.underlying 102=some (.int .u64):=by kernel_rfl
theorem ZhJ (j:Int):Zk5 j (some (.int .u64)) (some .i64)=some (.d (.one (.lit (.int .i64 (IntKind.i64.wrap j))))):=rfl
theorem toNat_one:Int.toNat 1=1:=rfl
theorem ZjB (i j:Nat) (h:i+j < 4611686018427387904):∃ s m:Nat,IntKind.i64.wrap ((i:Int)+(j:Int))=(s:Int)∧IntKind.u64.wrap (s:Int)=(s:Int)∧(s:Int).fdiv (2 ^ (min 1 64))=(m:Int)∧IntKind.i64.wrap (m:Int)=(m:Int)∧m=(i+j) / 2:=by
 refine ⟨i+j,(i+j) / 2,ZaJ om om om,?_,?_,IntWalk.i64_in _ ⟨om,om⟩,rfl⟩
 ·simp only [IntKind.wrap,IntKind.signed,IntKind.bits];simp;omega
 ·simp only [show min 1 64=1 from rfl,Int.pow_succ,Int.pow_zero,Int.one_mul];rw [Int.fdiv_eq_ediv_of_nonneg _ (by decide)];omega
theorem Zi8 (P X Z Y Q:List Tm) (hl:X.length=Y.length) {A B n N:Nat} (hA:A=P.length) (hB:B=P.length+X.length+Z.length) (hn:n=X.length) (hN:N=P.length+X.length+Z.length+Y.length+Q.length) (hmx:N<=4000000) (a:Option Addr) (cap:Nat) :
  ConP e0 154 [.one (.lit (.slice a N cap)),.one (.lit (.int .i64 A)),.one (.lit (.int .i64 B)),.one (.lit (.int .i64 n)),.one (.fn 29 [])] [.buf (some (a,cap)) 36 4 (Zac (P++X++Z++Y++Q))] (RBuf a cap (P++Y++Z++X++Q)):=by
 refine gIP (ts:=[]) [1000] 9231 Tryz.func154 ?_;refine fG @tmz ?_;have F:=@tmz;refine gL (ι:=Nat × List Tm) [10,13] [1000] (fun x=>[(10,.d (.one (.lit (.int .i64 (x.1:Int)))))]) (fun x=>[(1000,.buf (some (a,cap)) 36 4 (Zac x.2))]) (fun x=>x.1<=n∧x.2=swR P X Z Y Q x.1) (fun x=>n - x.1) ((0,P++X++Z++Y++Q)) (⟨Taj _,(Zyh P X Z Y Q).symm⟩) (fun x hx=>?_);clear F;obtain ⟨i,us⟩:=x;obtain ⟨hi,hus⟩:=hx;simp only at hi hus
 dsimp only;by_cases hlt:i < n;rotate_left
 ·obtain rfl:i=n:=by omega
  have q1:=lF i i;rw [hn,ZAD hl] at hus;subst hus;refine fG (ai @q1 @tmz) ?_
  first | exact (have F:=@e0P;gTPe (R:=RBuf a cap (P++Y++Z++X++Q)) [1000] ⟨rfl,rfl⟩) | exact (have F:=@e0P;gTP (R:=RBuf a cap (P++Y++Z++X++Q)) [1000] ⟨rfl,rfl⟩)
 have q1:=lT i n;obtain ⟨x,hx⟩:∃ t,X[i]?=some t:=⟨_,Taa om⟩;obtain ⟨y,hy⟩:∃ t,Y[i]?=some t:=⟨_,Taa om⟩;obtain ⟨g1,g2,g3⟩:=ZAF (P:=P) (Z:=Z) (Q:=Q) hl hx hy;have hul:us.length=N:=by rw [hus,ZAE i hl,hN]
 rw [<- hus] at g1 g2 g3;rw [<- hB] at g2 g3;rw [<- hA] at g1 g3;obtain ⟨p,hp⟩:∃ p,p=A+i:=⟨_,rfl⟩;obtain ⟨q,hq⟩:∃ q,q=B+i:=⟨_,rfl⟩;rw [<- hp] at g1 g3;rw [<- hq] at g2 g3;have w1:IntKind.i64.wrap ((A:Int)+(i:Int))=(p:Int):=ZaJ om om om;have w2:IntKind.i64.wrap ((B:Int)+(i:Int))=(q:Int):=ZaJ om om om;have w3:=Zat (k:=i) om;have l1:p < N:=om;have l2:q < N:=om;have hls:∀ k (t:Tm),(us.set k t).length=N:=fun k t=>by rw [Taz,hul]
 refine fN 3 (ai @q1 @tmz) ?_;obtain ⟨z,g4⟩:∃ z,(us.set p y)[q]?=some z:=⟨_,Taa (by rw [Taz];omega)⟩;refine gF0 ?_;refine gFm 0 ?_;refine gFm 1 ?_;refine gFm 2 ?_;refine (have F:=(aj13 q1 w1 w2 l1 l2 hul g1 g2 g4 hls @Zae @Zas tmz);gFb 3 ?_);refine gFm 4 ?_;refine gFm 5 ?_;refine gFm 6 ?_;refine (have F:=(aj13 q1 w1 w2 l1 l2 hul g1 g2 g4 hls @Zae @Zas tmz);gFb 7 ?_);refine gFm 8 ?_;refine gFm 9 ?_
 refine gFm 10 ?_;refine (have F:=(aj13 q1 w1 w2 l1 l2 hul g1 g2 g4 hls @Zae @Zas tmz);gFb 11 ?_);refine (have F:=(aj13 q1 w1 w2 l1 l2 hul g1 g2 g4 hls @Zae @Zas tmz);gFi (rows:=Zac us) 12 q (by rw [Zae];omega) ?_);refine gFm 14 ?_;refine gFm 15 ?_;refine gFm 16 ?_;refine (have F:=(aj13 q1 w1 w2 l1 l2 hul g1 g2 g4 hls @Zae @Zas tmz);gFb 17 ?_);refine (have F:=(aj13 q1 w1 w2 l1 l2 hul g1 g2 g4 hls @Zae @Zas tmz);gFi (rows:=Zac us) 18 p (by rw [Zae];omega) ?_)
 refine gFT ?_;refine gO2 13 19 ?_ ?_
 ·refine (have F:=(aj13 q1 w1 w2 l1 l2 hul g1 g2 g4 hls @Zae @Zas tmz);gO3 ?_);refine gO1 19 ?_;refine (have F:=(aj13 q1 w1 w2 l1 l2 hul g1 g2 g4 hls @Zae @Zas tmz);gO3 ?_);refine gO1 20 ?_;refine (have F:=(aj13 q1 w1 w2 l1 l2 hul g1 g2 g4 hls @Zae @Zas tmz);gO3 ?_);refine gO1 21 ?_;refine (have F:=(aj13 q1 w1 w2 l1 l2 hul g1 g2 g4 hls @Zae @Zas tmz);gO3 ?_);refine gO1 22 ?_;refine (have F:=(aj13 q1 w1 w2 l1 l2 hul g1 g2 g4 hls @Zae @Zas tmz);gO3 ?_)
  refine gO1 23 ?_;refine (have F:=(aj13 q1 w1 w2 l1 l2 hul g1 g2 g4 hls @Zae @Zas tmz);gO3 ?_);refine (have F:=tmz;gT0 ?_);refine Exists.intro _ (ai (Wk.refl _) ?_);rw [g3];have F:=@w3;refine gG ?_;exact ⟨(i+1,swR P X Z Y Q (i+1)),⟨hlt,rfl⟩,gw,gw,om⟩
 ·refine (have F:=(aj13 q1 w1 w2 l1 l2 hul g1 g2 g4 hls @Zae @Zas tmz);gO3 ?_);refine gO1 13 ?_;refine (have F:=(aj13 q1 w1 w2 l1 l2 hul g1 g2 g4 hls @Zae @Zas tmz);gO3 ?_);refine gO1 20 ?_;refine (have F:=(aj13 q1 w1 w2 l1 l2 hul g1 g2 g4 hls @Zae @Zas tmz);gO3 ?_);refine gO1 21 ?_;refine (have F:=(aj13 q1 w1 w2 l1 l2 hul g1 g2 g4 hls @Zae @Zas tmz);gO3 ?_);refine gO1 22 ?_;refine (have F:=(aj13 q1 w1 w2 l1 l2 hul g1 g2 g4 hls @Zae @Zas tmz);gO3 ?_)
  refine gO1 23 ?_;refine (have F:=(aj13 q1 w1 w2 l1 l2 hul g1 g2 g4 hls @Zae @Zas tmz);gO3 ?_);refine (have F:=tmz;gT0 ?_);refine Exists.intro _ (ai (Wk.refl _) ?_);rw [g3];have F:=@w3;refine gG ?_;exact ⟨(i+1,swR P X Z Y Q (i+1)),⟨hlt,rfl⟩,gw,gw,om⟩
theorem Zyp (P X Y Q:List Tm) (hX:0 < X.length) (hY:0 < Y.length) {A M B N:Nat} (hA:A=P.length) (hM:M=P.length+X.length) (hB:B=P.length+X.length+Y.length) (hN:N=P.length+X.length+Y.length+Q.length) (hmx:N<=4000000) (a:Option Addr) (cap:Nat) :
  ConP e0 149 [.one (.lit (.slice a N cap)),.one (.lit (.int .i64 A)),.one (.lit (.int .i64 M)),.one (.lit (.int .i64 B)),.one (.fn 29 [])] [.buf (some (a,cap)) 36 4 (Zac (P++X++Y++Q))] (RBuf a cap (P++Y++X++Q)):=by
 have w1:IntKind.i64.wrap ((M:Int) - (A:Int))=(X.length:Int):=ZaJ om om om;have w2:IntKind.i64.wrap ((B:Int) - (M:Int))=(Y.length:Int):=ZaJ om om om;refine gIP (ts:=[]) [1000] 9440287 Tryz.func149 ?_;refine fG (aj3 @w1 @w2 @tmz) ?_;have F:=@tmz;refine gL (ι:=(Nat × Nat) × List Tm) [10,11,20,23] [1000] (fun x=>[(10,.d (.one (.lit (.int .i64 (x.1.1:Int))))),(11,.d (.one (.lit (.int .i64 (x.1.2:Int)))))]) (fun x=>[(1000,.buf (some (a,cap)) 36 4 (Zac x.2))]) (fun x=>∃ P' X' Y' Q',x.2=P'++X'++Y'++Q'∧x.1.1=X'.length∧x.1.2=Y'.length∧P'.length+X'.length=M∧0 < X'.length∧0 < Y'.length∧P'++Y'++X'++Q'=P++Y++X++Q) (fun x=>x.1.1+x.1.2) (((X.length,Y.length),P++X++Y++Q)) (⟨P,X,Y,Q,rfl,rfl,rfl,hM.symm,hX,hY,rfl⟩) (fun x hx=>?_);clear F
 obtain ⟨⟨i,j⟩,us⟩:=x;obtain ⟨P',X',Y',Q',hus,hi,hj,hM',hX',hY',hT⟩:=hx;simp only at hus hi hj;dsimp only;have hlen:=congrArg List.length hT;simp only [Tae] at hlen;obtain ⟨z,hz⟩:∃ z,z=P'.length:=⟨_,rfl⟩;have w3:IntKind.i64.wrap ((M:Int) - (i:Int))=(z:Int):=ZaJ om om om;by_cases hij:i=j
 ·have q1:((i:Int)=(j:Int))=True:=eq_true om;have c:=Zi8 P' X' [] Y' Q' om (A:=z) (B:=M) (n:=i) (N:=N) hz (by simp;omega) hi (by simp;omega) hmx a cap;rw [List.append_nil,List.append_nil,hT,<- hus] at c;refine fN 8 (ai @q1 @tmz) ?_;refine gB ?_;have F:=ai @tmz @w3;refine gCP [1000] [1000] (c) ?_;clear F;rintro r pm ⟨rfl,rfl⟩;simp only [setA,retA,zipM,Taf,Tah];refine fR @tmz ?_;refine fG @tmz ?_
  first | exact (have F:=@e0P;gTPe (R:=RBuf a cap (P++Y++X++Q)) [1000] ⟨rfl,rfl⟩) | exact (have F:=@e0P;gTP (R:=RBuf a cap (P++Y++X++Q)) [1000] ⟨rfl,rfl⟩)
 have q1:((i:Int)=(j:Int))=False:=eq_false om;by_cases hgt:j < i
 ·have q2:=lT j i;obtain ⟨d,hd⟩:∃ d,d=i - j:=⟨_,rfl⟩;have w4:IntKind.i64.wrap ((i:Int) - (j:Int))=(d:Int):=ZaJ om om om;have hX12:X'=X'.take j++X'.drop j:=(Tbm j X').symm;have l1:(X'.take j).length=j:=by rw [Taw];omega
  have l2:(X'.drop j).length=d:=by rw [Tax];omega
  generalize X'.take j=X1 at hX12 l1;generalize X'.drop j=X2 at hX12 l2;subst hX12;have c:=Zi8 P' X1 X2 Y' Q' om (A:=z) (B:=M) (n:=j) (N:=N) hz (by simp at hM';omega) l1.symm (by simp at hlen;omega) hmx a cap;rw [show P'++X1++X2++Y'++Q'=us by rw [hus];simp] at c;refine fN 4 (aj3 @q1 @q2 @tmz) ?_;refine gB ?_;have F:=ai @tmz @w3;refine gCP [1000] [1000] (c) ?_;clear F;rintro r pm ⟨rfl,rfl⟩;simp only [setA,retA,zipM,Taf,Tah]
  refine fR @tmz ?_;have F:=@w4;refine gG ?_;exact ⟨((d,j),P'++Y'++X2++X1++Q'),⟨P'++Y',X2,X1,Q',rfl,l2.symm,l1.symm,by simp at hM' ⊢;omega,om,om,by rw [<- hT];simp⟩,gw,gw,by dsimp only;omega⟩
 ·have q2:=lF j i;obtain ⟨d,hd⟩:∃ d,d=j - i:=⟨_,rfl⟩;have w4:IntKind.i64.wrap ((j:Int) - (i:Int))=(d:Int):=ZaJ om om om;obtain ⟨u,hu⟩:∃ u,u=M+j:=⟨_,rfl⟩;obtain ⟨v,hv⟩:∃ v,v=M+d:=⟨_,rfl⟩;have w5:IntKind.i64.wrap ((M:Int)+(j:Int))=(u:Int):=ZaJ om om om;have w6:IntKind.i64.wrap ((u:Int) - (i:Int))=(v:Int):=ZaJ om om om;have hY12:Y'=Y'.take d++Y'.drop d:=(Tbm d Y').symm;have l1:(Y'.take d).length=d:=by rw [Taw];omega
  have l2:(Y'.drop d).length=i:=by rw [Tax];omega
  generalize Y'.take d=Y1 at hY12 l1;generalize Y'.drop d=Y2 at hY12 l2;subst hY12;have c:=Zi8 P' X' Y1 Y2 Q' om (A:=z) (B:=v) (n:=i) (N:=N) hz om hi (by simp at hlen;omega) hmx a cap;rw [show P'++X'++Y1++Y2++Q'=us by rw [hus];simp] at c;refine fN 6 (aj3 @q1 @q2 @tmz) ?_;refine gB ?_;have F:=aj4 @tmz @w3 @w5 @w6;refine gCP [1000] [1000] (c) ?_;clear F;rintro r pm ⟨rfl,rfl⟩;simp only [setA,retA,zipM,Taf,Tah]
  refine fR @tmz ?_;have F:=@w4;refine gG ?_;exact ⟨((i,d),P'++Y2++Y1++X'++Q'),⟨P',Y2,Y1,X'++Q',by simp,l2.symm,l1.symm,om,om,om,by rw [<- hT];simp⟩,gw,gw,by dsimp only;omega⟩
theorem Zmq {M:List Tm} {k:Nat} {x:Tm} (h:M[k]?=some x):M.take k++[x]=M.take (k+1):=(Zcm h).symm
theorem Zph (P M Q:List Tm) {A B N:Nat} (hA:A=P.length) (hB:B=P.length+M.length) (hN:N=P.length+M.length+Q.length) (hmx:N<=4000000) (a:Option Addr) (cap:Nat) :
  ConP e0 144 [.one (.lit (.slice a N cap)),.one (.lit (.int .i64 A)),.one (.lit (.int .i64 B)),.one (.fn 29 [])] [.buf (some (a,cap)) 36 4 (Zac (P++M++Q))] (RBuf a cap (P++Zaw M++Q)):=by
 have wA:=Zat (k:=A) om;obtain ⟨A1,hA1⟩:∃ A1,A1=A+1:=⟨_,rfl⟩;rw [<- hA1] at wA;have h0:P++M++Q=P++Zaw (M.take (A1 - A))++(M.drop (A1 - A)++Q):=by
  have:Zaw (M.take 1)=M.take 1:=ZdQ (by cases M with | nil=>exact List.Pairwise.nil | cons x M=>simp only [Tbc,List.take_zero];exact List.pairwise_singleton _ _);rw [hA1,Nat.add_sub_cancel_left,this];simp only [Tbf];rw [<- Tbf (M.take 1),Tbm]
 refine gIP (ts:=[]) [1000] 17179886351 Tryz.func144 ?_;refine fG (ai @wA @tmz) ?_;have F:=@tmz;refine gL (ι:=Nat × List Tm) [8,9,14,34] [1000] (fun x=>[(8,.d (.one (.lit (.int .i64 (x.1:Int)))))]) (fun x=>[(1000,.buf (some (a,cap)) 36 4 (Zac x.2))]) (fun x=>A1<=x.1∧(x.1<=B∨x.1=A1)∧x.2=P++Zaw (M.take (x.1 - A))++(M.drop (x.1 - A)++Q)) (fun x=>B+1 - x.1) ((A1,P++M++Q)) (⟨Tai _,.inr rfl,h0⟩) (fun x hx=>?_);clear F
 obtain ⟨i,us⟩:=x;obtain ⟨hi1,hi2,hus⟩:=hx;simp only at hi1 hi2 hus;dsimp only;by_cases hlt:i < B;rotate_left
 ·have q1:=lF i B;have e1:M.take (i - A)=M:=List.take_of_length_le om;have e2:M.drop (i - A)=[]:=List.drop_of_length_le om;rw [e1,e2,Tah] at hus;subst hus;refine fG (ai @q1 @tmz) ?_
  first | exact (have F:=@e0P;gTPe (R:=RBuf a cap (P++Zaw M++Q)) [1000] ⟨rfl,rfl⟩) | exact (have F:=@e0P;gTP (R:=RBuf a cap (P++Zaw M++Q)) [1000] ⟨rfl,rfl⟩)
 have q1:=lT i B;obtain ⟨k,hk⟩:∃ k,k=i - A:=⟨_,rfl⟩;rw [<- hk] at hus;obtain ⟨x,hx⟩:∃ t,M[k]?=some t:=⟨_,Taa om⟩;have hL:(Zaw (M.take k)).length=k:=by rw [ZcT,Taw];omega
 rw [Zdu hx] at hus;have wi:=Zat (k:=i) om;have hR:(M.drop (k+1)++Q).length+i+1=N:=by rw [Tae,Tax];omega
 have hnext:∀ M1 M2,M1++M2=Zaw (M.take k)->(∀ y∈M2,Zai x y<=0)->(∀ y,M1.getLast?=some y->Zai y x<=0)->P++M1++x::(M2++(M.drop (k+1)++Q))=P++Zaw (M.take (i+1 - A))++(M.drop (i+1 - A)++Q):=fun M1 M2 e h2 h1=>by
  have:=ZoX e h2 h1;rw [Zmq hx] at this;rw [show i+1 - A=k+1 by omega,<- this];simp
 obtain ⟨T,hT⟩:∃ T,T=P++Zaw (M.take (i+1 - A))++(M.drop (i+1 - A)++Q):=⟨_,rfl⟩;rw [<- hT] at hnext;refine fG (ai @q1 @tmz) ?_;have F:=@tmz;refine gL (ι:=Nat × List Tm) [9,34] [1000] (fun z=>[(9,.d (.one (.lit (.int .i64 (z.1:Int)))))]) (fun z=>[(1000,.buf (some (a,cap)) 36 4 (Zac z.2))]) (fun z=>∃ M1 M2,z.2=P++M1++x::(M2++(M.drop (k+1)++Q))∧z.1=A+M1.length∧M1++M2=Zaw (M.take k)∧∀ y∈M2,Zai x y<=0) (fun z=>z.1) ((i,us)) (⟨Zaw (M.take k),[],by rw [hus];simp,by rw [hL];omega,List.append_nil _,fun y h=>by simp at h⟩) (fun z hz=>?_);clear F
 obtain ⟨j,vs⟩:=z;obtain ⟨M1,M2,hvs,hj,he,h2⟩:=hz;simp only at hvs hj;dsimp only;have hml:M1.length+M2.length=k:=by rw [<- Tae,he,hL]
 have hvl:vs.length=N:=by rw [hvs];simp only [Tae,Tag] at hR ⊢;omega
 rcases List.eq_nil_or_concat M1 with h1 | ⟨M0,y,h1⟩
 ·subst h1;have hn:=hnext [] M2 he h2 (fun y h=>by simp at h);obtain rfl:j=A:=by simpa using hj
  have q2:=lF j j;rw [hn] at hvs;subst hvs;refine fG (ai @q2 @tmz) ?_;have F:=@wi;refine gG ?_;exact ⟨(i+1,vs),⟨om,.inl hlt,hT⟩,gw,gw,om⟩
 ·rw [List.concat_eq_append] at h1;subst h1;simp only [Tae,Tag,Tak] at hj hml;obtain ⟨p,hp⟩:∃ p,p=A+M0.length:=⟨_,rfl⟩;have hjp:j=p+1:=om;have q2:=lT A j;have w1:IntKind.i64.wrap ((j:Int) - 1)=(p:Int):=ZaJ om om om;have hPl:(P++M0).length=p:=by rw [Tae];omega
  have hvs2:vs=(P++M0)++y::x::(M2++(M.drop (k+1)++Q)):=by rw [hvs];simp
  have g1:vs[p]?=some y:=by rw [hvs2];exact ZhF hPl
  have g2:vs[j]?=some x:=by rw [hvs2,hjp];exact Zmm hPl
  have l1:p < N:=om;have l2:j < N:=om;refine fB (ai @q2 @tmz) ?_;refine fC (aj9 @q2 @tmz @g1 @g2 @w1 @l1 @l2 @hvl @Zae) (Zjs (ZeG x y)) ?_;by_cases hc:Zai x y < 0
  ·have z1:(Zai x y < 0)=True:=eq_true hc;obtain ⟨U,hU⟩:∃ U,U=(P++M0)++x::y::(M2++(M.drop (k+1)++Q)):=⟨_,rfl⟩;have g3:(vs.set j y).set p x=U:=by rw [hU,hvs2,hjp];exact Zse hPl
   have hls:∀ q (t:Tm),(vs.set q t).length=N:=fun q t=>by rw [Taz,hvl]
   refine fR (aj3 @z1 @q2 @tmz) ?_;have hM2:∀ u∈y::M2,Zai x u<=0:=fun u hu=>by
    rcases Tbg.1 hu with rfl | hu
    ·omega
    ·exact h2 u hu
   obtain ⟨z,g4⟩:∃ z,(vs.set j y)[p]?=some z:=⟨_,Taa (by rw [Taz];omega)⟩;refine fN 6 (ai @z1 @tmz) ?_;refine gF0 ?_;refine gFm 0 ?_;refine gFm 1 ?_;refine gFm 2 ?_;refine gFm 3 ?_;refine (have F:=(aj11 w1 l1 l2 hvl g1 g2 g4 hls @Zae @Zas tmz);gFb 4 ?_);refine gFm 5 ?_;refine gFm 6 ?_;refine (have F:=(aj11 w1 l1 l2 hvl g1 g2 g4 hls @Zae @Zas tmz);gFb 7 ?_);refine (have F:=(aj11 w1 l1 l2 hvl g1 g2 g4 hls @Zae @Zas tmz);gFi (rows:=Zac vs) 8 p (by rw [Zae];omega) ?_)
   refine gFm 10 ?_;refine gFm 11 ?_;refine (have F:=(aj11 w1 l1 l2 hvl g1 g2 g4 hls @Zae @Zas tmz);gFi (rows:=Zac vs) 12 j (by rw [Zae];omega) ?_);refine gFT ?_;refine gO2 9 13 ?_ ?_
   ·refine (have F:=(aj11 w1 l1 l2 hvl g1 g2 g4 hls @Zae @Zas tmz);gO3 ?_);refine gO1 13 ?_;refine (have F:=(aj11 w1 l1 l2 hvl g1 g2 g4 hls @Zae @Zas tmz);gO3 ?_);refine gO1 14 ?_;refine (have F:=(aj11 w1 l1 l2 hvl g1 g2 g4 hls @Zae @Zas tmz);gO3 ?_);refine gO1 15 ?_;refine (have F:=(aj11 w1 l1 l2 hvl g1 g2 g4 hls @Zae @Zas tmz);gO3 ?_);refine gO1 16 ?_;refine (have F:=(aj11 w1 l1 l2 hvl g1 g2 g4 hls @Zae @Zas tmz);gO3 ?_)
    refine gO1 17 ?_;refine (have F:=(aj11 w1 l1 l2 hvl g1 g2 g4 hls @Zae @Zas tmz);gO3 ?_);refine (have F:=tmz;gT0 ?_);refine Exists.intro _ (ai (Wk.refl _) ?_);rw [g3];have F:=@w1;refine gG ?_;exact ⟨(p,U),⟨M0,y::M2,by rw [hU];simp,hp,by rw [<- he];simp,hM2⟩,gw,gw,om⟩
   ·refine (have F:=(aj11 w1 l1 l2 hvl g1 g2 g4 hls @Zae @Zas tmz);gO3 ?_);refine gO1 9 ?_;refine (have F:=(aj11 w1 l1 l2 hvl g1 g2 g4 hls @Zae @Zas tmz);gO3 ?_);refine gO1 14 ?_;refine (have F:=(aj11 w1 l1 l2 hvl g1 g2 g4 hls @Zae @Zas tmz);gO3 ?_);refine gO1 15 ?_;refine (have F:=(aj11 w1 l1 l2 hvl g1 g2 g4 hls @Zae @Zas tmz);gO3 ?_);refine gO1 16 ?_;refine (have F:=(aj11 w1 l1 l2 hvl g1 g2 g4 hls @Zae @Zas tmz);gO3 ?_)
    refine gO1 17 ?_;refine (have F:=(aj11 w1 l1 l2 hvl g1 g2 g4 hls @Zae @Zas tmz);gO3 ?_);refine (have F:=tmz;gT0 ?_);refine Exists.intro _ (ai (Wk.refl _) ?_);rw [g3];have F:=@w1;refine gG ?_;exact ⟨(p,U),⟨M0,y::M2,by rw [hU];simp,hp,by rw [<- he];simp,hM2⟩,gw,gw,om⟩
  ·have z1:(Zai x y < 0)=False:=eq_false hc;have hn:=hnext (M0++[y]) M2 he h2 (fun u h=>by
    simp only [List.getLast?_append,List.getLast?_singleton,Option.some_or,Taq] at h;subst h;exact Zn5 hc)
   rw [hn] at hvs;subst hvs;refine fR (aj3 @z1 @q2 @tmz) ?_;refine fG (ai @z1 @tmz) ?_;have F:=@wi;refine gG ?_;exact ⟨(i+1,vs),⟨om,.inl hlt,hT⟩,gw,gw,om⟩
end Go.Proofs.YtmdkimnlbaahbaaGreatDoor
