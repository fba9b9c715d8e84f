/-
  Part of a proof.
-/
import Derived.Test.YtdnkcjhlelkhhaaGreatBWholeTermSaid0
import Derived.Test.YtdnkcjhlelkhhaaGreatBWholeTermSaid1
import Derived.Test.YtdnkcjhlelkhhaaGreatRows
set_option linter.unusedSimpArgs false
set_option linter.unusedVariables false
set_option maxHeartbeats 400000000
set_option maxRecDepth 100000
namespace Go.Proofs.YtdnkcjhlelkhhaaGreat
open Go.RowKit
variable {k f n cap id ety sz h ty N:Nat} {l P ts B Q X Z xs:List Tm} {x y:Tm} {os:List Oper} {σ:St} {K:St->Prop} {s:List (Nat × A)} {m:List (Nat × Bk)} {e:Env} {rows:List (List C)} {E:Nat->Prop} {ds:List (Option Nat)}
variable {ed:Array Edge} {listed:Array Bool} {ops:Array Oper}
def Zec (s:Srt):List C:=[.sl (nR (up s)),.sl (nR (down s)),.sl (nR (Zci s))]
theorem ZhF:∀ s,Zec s=[.sl (nR (up s)),.sl (nR (down s)),.sl (nR (Zci s))]:=fun _=>rfl
section
variable {s:Srt}
theorem kdg (hs:SortsOk s) {k:Int} (h:0<=k∧k < s.names.length):(nR (Zci s))[k.toNat]?=some [.lit (.int .i64 (kd s k:Nat))]:=by
 have hk:=ZhC (SortsOk.subsIn hs.subs);have hl:k.toNat < (Zci s).length:=by rw [hk.1];omega
 rw [Zck (Taa hl),kd,List.getD_eq_getElem?_getD,Taa hl];rfl
theorem ZAF (hs:SortsOk s):(nR (Zci s)).length=s.names.length:=by rw [ZbR,(ZhC (SortsOk.subsIn hs.subs)).1]
theorem Zx1 (hs:SortsOk s) (k:Int):Con e0 140 [.agg (Zec s),.one (.lit (.int .i64 k))] [.one (.lit (.bool (decide (0<=k∧k < s.names.length))))]:=by
 have hl:(nR (up s)).length=s.names.length:=by rw [ZbR,(Zi9 (SortsOk.subsIn hs.subs)).1]
 rw [Zec];refine gI 23 Tryz.func140 ?_;by_cases h0:0<=k
 ·by_cases h1:k < s.names.length
  ·exact fT (aj3 @h0 @hl @h1)
  ·exact fT (aj3 @h0 @hl @h1)
 ·exact fT @h0
theorem Zwr {l:List Int} {p:Int->Prop} {j:Nat} {c:Int} (hc:l[j]?=some c) (h:∀ (i:Nat) (c:Int),i < j->l[i]?=some c->p c) (hp:p c):∀ (i:Nat) (c:Int),i < j+1->l[i]?=some c->p c:=fun i c' hi hc'=>by
 by_cases hij:i=j
 ·subst hij;rw [hc] at hc';injection hc' with hc';subst hc';exact hp
 ·exact h i c' om hc'
theorem Zk3 {f d:Dcl} {i:Nat} {a:Int} (ha:d.args[i]?=some a) (hall:∀ (i':Nat) a,i' < i->d.args[i']?=some a->(0<=a∧a < s.names.length)∧∀ b,f.args[i']?=some b->kd s a=kd s b) (h1:0<=a∧a < s.names.length) (h2:∀ b,f.args[i]?=some b->kd s a=kd s b) :
  ∀ (i':Nat) a,i' < i+1->d.args[i']?=some a->(0<=a∧a < s.names.length)∧∀ b,f.args[i']?=some b->kd s a=kd s b:=fun i' a' h ha'=>by
 by_cases e:i'=i
 ·subst e;rw [ha] at ha';injection ha' with ha'
  subst ha';exact ⟨h1,h2⟩
 ·exact hall i' a' om ha'
theorem ZmM {f d:Dcl} (h1:d.args.length=f.args.length) (h2:0<=d.res∧d.res < s.names.length) (h3:kd s d.res=kd s f.res) (hall:∀ (i':Nat) a,i' < d.args.length->d.args[i']?=some a->(0<=a∧a < s.names.length)∧∀ b,f.args[i']?=some b->kd s a=kd s b):DeclOk s f d :=
 ⟨h1,h2,fun k hk=>by obtain ⟨i,hi⟩:=Tbk hk;exact (hall i k (Tad.1 hi).1 hi).1,h3,fun i a b ha hb=>(hall i a (Tad.1 ha).1 ha).2 b hb⟩
theorem Zk4 {l:List Dcl} {P:Dcl->Prop} {j:Nat} {d:Dcl} (hd:l[j]?=some d) (hall:∀ (j':Nat) d,j' < j->l[j']?=some d->P d) (h:P d):∀ (j':Nat) d,j' < j+1->l[j']?=some d->P d:=fun j' d' hj hd'=>by
 by_cases e:j'=j
 ·subst e;rw [hd] at hd';injection hd' with hd'
  subst hd';exact h
 ·exact hall j' d' om hd'
theorem Znj (hs:SortsOk s) (o:Opr):Con e0 105 [.agg (Zec s),.agg (Zbc o)] [.one (.lit (.bool (Zcq s o)))]:=by
 have hno:¬ DeclsOk s o->Zcq s o=false:=Zh1;have cH:=Zx1 hs;have rK:=ZbT (l:=Zci s);rw [Zec] at cH ⊢;rw [Zbc];refine gI 83076759175850041743779962279694015 Tryz.func105 ?_;by_cases h1:1<=o.decls.length;rotate_left
 ·have hf:=hno fun h=>h1 h.len1;have z1:=lT o.decls.length 1;exact fT (ai @z1 @hf)
 have z1:=lF o.decls.length 1;by_cases h4:o.decls.length<=4;rotate_left
 ·have hf:=hno fun h=>h4 h.len4;have z2:=lT 4 o.decls.length;exact fT (aj3 @z1 @z2 @hf)
 have z2:=lF 4 o.decls.length;obtain ⟨f,hf0⟩:∃ f,o.decls[0]?=some f:=⟨_,Taa om⟩;have hfm:=Tac hf0;by_cases h3:f.args.length<=3;rotate_left
 ·have hf:=hno fun h=>h3 (h.ar f hf0);have z3:=lT 3 f.args.length;exact fT (aj6 @z1 @z2 @hf0 @Za0 @z3 @hf)
 have z3:=lF 3 f.args.length;refine fB (aj5 @z1 @z2 @hf0 @Za0 @z3) ?_;refine fC @e0P (cH f.res) ?_;by_cases hr:0<=f.res∧f.res < (s.names.length:Int);rotate_left
 ·have hf:=hno fun h=>hr (h.all f hf0 f hfm).res;have y1:decide (0<=f.res∧f.res < (s.names.length:Int))=false:=decide_eq_false hr;refine fR @y1 ?_;exact fT @hf
 have y1:decide (0<=f.res∧f.res < (s.names.length:Int))=true:=decide_eq_true hr;have gr:=kdg hs hr;have ir:=hr.1;refine fR @y1 ?_;refine fG @e0P ?_;have F:=@e0P;refine gL (ι:=Nat) [4,7,43,44,50] [] (fun i=>[(43,A.d (.one (.lit (.int .i64 i))))]) (fun i=>[]) (fun i=>i<=f.args.length∧∀ (i':Nat) k,i' < i->f.args[i']?=some k->0<=k∧k < s.names.length) (fun i=>f.args.length - i) (0) (⟨Taj _,fun i' k h=>absurd h om⟩) (fun i hi=>?_);clear F
 obtain ⟨hil,hfa⟩:=hi;by_cases hlt:i < f.args.length
 ·have q1:(i:Int) < (f.args.length:Int):=om;obtain ⟨k,hk⟩:∃ k,f.args[i]?=some k:=⟨_,Taa hlt⟩;have hw:=Zaw (k:=i) om;refine fB (aj3 @q1 @hk @Zbg) ?_;refine fC @e0P (cH k) ?_;by_cases hkr:0<=k∧k < (s.names.length:Int);rotate_left
  ·have hf:=hno fun h=>hkr ((h.all f hf0 f hfm).args k (Tac hk));have y2:decide (0<=k∧k < (s.names.length:Int))=false:=decide_eq_false hkr;refine fR @y2 ?_;exact fT @hf
  have y2:decide (0<=k∧k < (s.names.length:Int))=true:=decide_eq_true hkr;have hq:i+1<=f.args.length∧_:=⟨hlt,Zwr hk hfa hkr⟩;refine fR @y2 ?_;have F:=@hw;refine gG ?_;exact ⟨i+1,hq,gw,gw,om⟩
 obtain rfl:i=f.args.length:=by omega
 have q1:¬ ((f.args.length:Int) < (f.args.length:Int)):=om;refine fG @q1 ?_;have F:=@e0P;refine gL (ι:=Nat) [4,9,10,11,55,56,87,89,90,91,92,116] [] (fun j=>[(55,A.d (.one (.lit (.int .i64 j))))]) (fun j=>[]) (fun j=>j<=o.decls.length∧∀ (j':Nat) d,j' < j->o.decls[j']?=some d->DeclOk s f d) (fun j=>o.decls.length - j) (0) (⟨Taj _,fun j' d h=>absurd h om⟩) (fun j hj=>?_);clear F;obtain ⟨hjl,hdo⟩:=hj;by_cases hlj:j < o.decls.length
 rotate_left
 ·have q2:¬ ((j:Int) < (o.decls.length:Int)):=om;have ht:=Ze9 (s:=s) (o:=o) ⟨h1,h4,fun f' h=>by rw [hf0] at h;injection h with h;subst h;exact h3,fun f' h d hd=>by
   rw [hf0] at h;injection h with h;subst h
   obtain ⟨j',hj'⟩:=Tbk hd;exact hdo j' d (by have:=(Tad.1 hj').1;omega) hj'⟩
  exact fT (ai @q2 @ht)
 have q2:(j:Int) < (o.decls.length:Int):=om;obtain ⟨d,hd⟩:∃ d,o.decls[j]?=some d:=⟨_,Taa hlj⟩;have hdm:=Tac hd;have hwj:=Zaw (k:=j) om;have hbad:¬ DeclOk s f d->Zcq s o=false:=fun h=>hno fun hD=>h (hD.all f hf0 d hdm);by_cases hdl:d.args.length=f.args.length;rotate_left
 ·have hf:=hbad fun h=>hdl h.len;have y3:((d.args.length:Int)=(f.args.length:Int))=False:=eq_false om;exact fT (aj5 @q2 @hd @Za0 @y3 @hf)
 have y3:((d.args.length:Int)=(f.args.length:Int))=True:=eq_true om;refine fB (aj3 @q2 @hd @Za0) ?_;refine fC @y3 (cH d.res) ?_;by_cases hdr:0<=d.res∧d.res < (s.names.length:Int);rotate_left
 ·have hf:=hbad fun h=>hdr h.res;have y4:decide (0<=d.res∧d.res < (s.names.length:Int))=false:=decide_eq_false hdr;refine fR (ai @y3 @y4) ?_;exact fT @hf
 have y4:decide (0<=d.res∧d.res < (s.names.length:Int))=true:=decide_eq_true hdr;have gd:=kdg hs hdr;have id':=hdr.1;have jd:=hdr.2;by_cases hkr:kd s d.res=kd s f.res;rotate_left
 ·have hf:=hbad fun h=>hkr h.kres;have y5:((kd s d.res:Int)=(kd s f.res:Int))=False:=eq_false om;refine fR (aj9 @y3 @y4 @gr @gd @ir @id' @jd @rK @y5) ?_;exact fT @hf
 have y5:((kd s d.res:Int)=(kd s f.res:Int))=True:=eq_true om;refine fR (aj9 @y3 @y4 @gr @gd @ir @id' @jd @rK @y5) ?_;refine fG @e0P ?_;have F:=@e0P;refine gL (ι:=Nat) [4,10,11,91,92,116] [] (fun i=>[(91,A.d (.one (.lit (.int .i64 i))))]) (fun i=>[]) (fun i=>i<=d.args.length∧∀ (i':Nat) a,i' < i->d.args[i']?=some a->(0<=a∧a < s.names.length)∧∀ b,f.args[i']?=some b->kd s a=kd s b) (fun i=>d.args.length - i) (0) (⟨Taj _,fun i' a h=>absurd h om⟩) (fun i hi=>?_);clear F
 obtain ⟨hil2,hka⟩:=hi;by_cases hlt:i < d.args.length;rotate_left
 ·obtain rfl:i=d.args.length:=by omega
  have q3:¬ ((d.args.length:Int) < (d.args.length:Int)):=om;have hq:j+1<=o.decls.length∧_:=⟨hlj,Zk4 hd hdo (ZmM hdl hdr hkr hka)⟩;have F:=ai @q3 @hwj;refine gG ?_;exact ⟨j+1,hq,gw,gw,om⟩
 have q3:(i:Int) < (d.args.length:Int):=om;obtain ⟨a,ha⟩:∃ k,d.args[i]?=some k:=⟨_,Taa hlt⟩;obtain ⟨b,hb⟩:∃ k,f.args[i]?=some k:=⟨_,Taa om⟩;have hw:=Zaw (k:=i) om;have hbr:=hfa i b om hb;have gb:=kdg hs hbr;have ib:=hbr.1;refine fB (aj3 @q3 @ha @Zbg) ?_;refine fC @e0P (cH a) ?_;by_cases har:0<=a∧a < (s.names.length:Int);rotate_left
 ·have hf:=hbad fun h=>har (h.args a (Tac ha));have y6:decide (0<=a∧a < (s.names.length:Int))=false:=decide_eq_false har;refine fR @y6 ?_;exact fT @hf
 have y6:decide (0<=a∧a < (s.names.length:Int))=true:=decide_eq_true har;have ga:=kdg hs har;have ia:=har.1;have ja:=har.2;by_cases hkk:kd s a=kd s b;rotate_left
 ·have hf:=hbad fun h=>hkk (h.kargs i a b ha hb);have y7:((kd s a:Int)=(kd s b:Int))=False:=eq_false om;refine fR (aj10 @y6 @ga @gb @ia @ja @ib @hb @Zbg @rK @y7) ?_;exact fT @hf
 have y7:((kd s a:Int)=(kd s b:Int))=True:=eq_true om;have hq:i+1<=d.args.length∧_:=⟨hlt,Zk3 (f:=f) ha hka har fun b' hb'=>by rw [hb] at hb';injection hb' with hb';subst hb';exact hkk⟩;refine fR (aj10 @y6 @ga @gb @ia @ja @ib @hb @Zbg @rK @y7) ?_;have F:=@hw;refine gG ?_;exact ⟨i+1,hq,gw,gw,om⟩
theorem Zqd {g:Sgn} (hs:SortsOk g.sorts) (o:Opr):Con e0 84 [.agg (ZaJ g),.agg (Zbc o)] [.one (.lit (.bool (Zcq g.sorts o)))]:=by
 have hno:¬ DeclsOk g.sorts o->Zcq g.sorts o=false:=Zh1;have cK:=ZeE hs;rw [show (Zb7 (Zci g.sorts)).map Zcb=nR (Zci g.sorts) from rfl] at cK;have rK:=ZbT (l:=Zci g.sorts);have lK:=ZAF hs;have n1:=hs.n1;have n8:=hs.n8;have hw1n:IntKind.i64.wrap ((g.sorts.names.length:Int) - 1)=(g.sorts.names.length:Int) - 1:=IntWalk.i64_in _ om;rw [Zbq] at cK;rw [ZaJ,Zbc];refine gI 1298708039934125393111688421573631 Tryz.func84 ?_
 by_cases h1:1<=o.decls.length;rotate_left
 ·have hf:=hno fun h=>h1 h.len1;have z1:=lT o.decls.length 1;exact fT (ai @z1 @hf)
 have z1:=lF o.decls.length 1;by_cases h4:o.decls.length<=4;rotate_left
 ·have hf:=hno fun h=>h4 h.len4;have z2:=lT 4 o.decls.length;exact fT (aj3 @z1 @z2 @hf)
 have z2:=lF 4 o.decls.length;obtain ⟨f,hf0⟩:∃ f,o.decls[0]?=some f:=⟨_,Taa om⟩;have hfm:=Tac hf0;by_cases h3:f.args.length<=3;rotate_left
 ·have hf:=hno fun h=>h3 (h.ar f hf0);have z3:=lT 3 f.args.length;exact fT (aj6 @z1 @z2 @hf0 @Za0 @z3 @hf)
 have z3:=lF 3 f.args.length;refine fB (aj5 @z1 @z2 @hf0 @Za0 @z3) ?_;refine fC @e0P (cK) ?_;refine fR @e0P ?_;refine fG (ai @hf0 @Za0) ?_;have F:=@e0P;refine gL (ι:=Nat) [4,7,8,9,40,63,68,99,110] [] (fun j=>[(7,A.d (.one (.lit (.int .i64 j))))]) (fun j=>[]) (fun j=>j<=o.decls.length∧∀ (j':Nat) d,j' < j->o.decls[j']?=some d->DeclOk g.sorts f d) (fun j=>o.decls.length - j) (0) (⟨Taj _,fun j' d h=>absurd h om⟩) (fun j hj=>?_);clear F
 obtain ⟨hjl,hdo⟩:=hj;by_cases hlj:j < o.decls.length;rotate_left
 ·have q2:¬ ((j:Int) < (o.decls.length:Int)):=om;have ht:=Ze9 (s:=g.sorts) (o:=o) ⟨h1,h4,fun f' h=>by rw [hf0] at h;injection h with h;subst h;exact h3,fun f' h d hd=>by
   rw [hf0] at h;injection h with h;subst h
   obtain ⟨j',hj'⟩:=Tbk hd;exact hdo j' d (by have:=(Tad.1 hj').1;omega) hj'⟩
  exact fT (ai @q2 @ht)
 have q2:(j:Int) < (o.decls.length:Int):=om;obtain ⟨d,hd⟩:∃ d,o.decls[j]?=some d:=⟨_,Taa hlj⟩;have hdm:=Tac hd;have hwj:=Zaw (k:=j) om;have hbad:¬ DeclOk g.sorts f d->Zcq g.sorts o=false:=fun h=>hno fun hD=>h (hD.all f hf0 d hdm);have hj0:d=f∨DeclOk g.sorts f f:=by
  rcases Nat.eq_zero_or_pos j with h | h
  ·subst h;rw [hf0] at hd;injection hd with hd;exact .inl hd.symm
  ·exact .inr (hdo 0 f h hf0)
 by_cases hdl:d.args.length=f.args.length;rotate_left
 ·have hf:=hbad fun h=>hdl h.len;have y3:((d.args.length:Int)=(f.args.length:Int))=False:=eq_false om;exact fT (aj5 @q2 @hd @Za0 @y3 @hf)
 have y3:((d.args.length:Int)=(f.args.length:Int))=True:=eq_true om;refine fB (aj3 @q2 @hd @Za0) ?_;refine fC (aj3 @y3 @lK @hw1n) (ZdN d.res 0 ((g.sorts.names.length:Int) - 1)) ?_;by_cases hdr:0<=d.res∧d.res < (g.sorts.names.length:Int);rotate_left
 ·have hf:=hbad fun h=>hdr h.res;have y4:decide (0<=d.res∧d.res<=(g.sorts.names.length:Int) - 1)=false:=decide_eq_false om;refine fR (ai @y3 @y4) ?_;exact fT @hf
 have y4:decide (0<=d.res∧d.res<=(g.sorts.names.length:Int) - 1)=true:=decide_eq_true om;have gd:=kdg hs hdr;have id':=hdr.1;have hfr:0<=f.res∧f.res < (g.sorts.names.length:Int):=by
  rcases hj0 with h | h
  ·rw [<- h];exact hdr
  ·exact h.res
 have gr:=kdg hs hfr;have ir:=hfr.1;refine fR (ai @y3 @y4) ?_;refine fG @e0P ?_;have F:=@e0P;refine gL (ι:=Nat) [4,9,68,99] [] (fun i=>[(9,A.d (.one (.lit (.int .i64 i))))]) (fun i=>[]) (fun i=>i<=d.args.length∧∀ (i':Nat) a,i' < i->d.args[i']?=some a->(0<=a∧a < g.sorts.names.length)∧∀ b,f.args[i']?=some b->kd g.sorts a=kd g.sorts b) (fun i=>d.args.length - i) (0) (⟨Taj _,fun i' a h=>absurd h om⟩) (fun i hi=>?_);clear F
 obtain ⟨hil2,hka⟩:=hi;by_cases hlt:i < d.args.length;rotate_left
 ·obtain rfl:i=d.args.length:=by omega
  have q3:¬ ((d.args.length:Int) < (d.args.length:Int)):=om;by_cases hkr:kd g.sorts d.res=kd g.sorts f.res;rotate_left
  ·have hf:=hbad fun h=>hkr h.kres;have y5:((kd g.sorts d.res:Int)=(kd g.sorts f.res:Int))=False:=eq_false om;exact fT (aj8 @q3 @gr @gd @ir @id' @rK @y5 @hf)
  have y5:((kd g.sorts d.res:Int)=(kd g.sorts f.res:Int))=True:=eq_true om;have hq:j+1<=o.decls.length∧_:=⟨hlj,Zk4 hd hdo (ZmM hdl hdr hkr hka)⟩;have F:=aj8 @q3 @gr @gd @ir @id' @rK @y5 @hwj;refine gG ?_;exact ⟨j+1,hq,gw,gw,om⟩
 have q3:(i:Int) < (d.args.length:Int):=om;obtain ⟨a,ha⟩:∃ k,d.args[i]?=some k:=⟨_,Taa hlt⟩;obtain ⟨b,hb⟩:∃ k,f.args[i]?=some k:=⟨_,Taa om⟩;have hw:=Zaw (k:=i) om;refine fB @q3 ?_;refine fC (aj4 @ha @Zbg @lK @hw1n) (ZdN a 0 ((g.sorts.names.length:Int) - 1)) ?_;by_cases har:0<=a∧a < (g.sorts.names.length:Int);rotate_left
 ·have hf:=hbad fun h=>har (h.args a (Tac ha));have y6:decide (0<=a∧a<=(g.sorts.names.length:Int) - 1)=false:=decide_eq_false om;refine fR @y6 ?_;exact fT @hf
 have y6:decide (0<=a∧a<=(g.sorts.names.length:Int) - 1)=true:=decide_eq_true om;have y8:(a<=(g.sorts.names.length:Int) - 1)=True:=eq_true om;have ga:=kdg hs har;have ia:=har.1;have hbr:0<=b∧b < (g.sorts.names.length:Int):=by
  rcases hj0 with h | h
  ·rw [<- h,ha] at hb;injection hb with hb;rw [<- hb];exact har
  ·exact h.args b (Tac hb)
 have gb:=kdg hs hbr;have ib:=hbr.1;by_cases hkk:kd g.sorts a=kd g.sorts b;rotate_left
 ·have hf:=hbad fun h=>hkk (h.kargs i a b ha hb);have y7:((kd g.sorts a:Int)=(kd g.sorts b:Int))=False:=eq_false om;refine fR (aj11 @y6 @y8 @ga @gb @ia @ib @ha @hb @Zbg @rK @y7) ?_;exact fT @hf
 have y7:((kd g.sorts a:Int)=(kd g.sorts b:Int))=True:=eq_true om;have hq:i+1<=d.args.length∧_:=⟨hlt,Zk3 (f:=f) ha hka har fun b' hb'=>by rw [hb] at hb';injection hb' with hb';subst hb';exact hkk⟩;refine fR (aj11 @y6 @y8 @ga @gb @ia @ib @ha @hb @Zbg @rK @y7) ?_;have F:=@hw;refine gG ?_;exact ⟨i+1,hq,gw,gw,om⟩
end
theorem ZfB {o:Opr} {d:Dcl} (hd:o.decls[0]?=some d):Con e0 94 [.agg (Zbc o)] [.one (.lit (.int .i64 d.args.length))]:=by
 refine gI 7 Tryz.func94 ?_;exact fT (aj3 @Zao @hd @Za0)
section
variable {g:Sgn} {o:Opr}
theorem Zjc {d:Dcl} (hd:o.decls[0]?=some d) (h1:0<=o.unit) (h2:o.unit<=g.ops.length) (h3:d.args.length=2) {a b:Int} (ha:d.args[0]?=some a) (hb:d.args[1]?=some b) (hk:kd g.sorts a=kd g.sorts b) (hr:¬ ((o.assoc=true∨o.unit≠0)∧kd g.sorts a≠kd g.sorts d.res))
  (hu:o.unit≠0->∀ (p:Opr) (u:Dcl),g.ops[o.unit.toNat - 1]?=some p->p.decls[0]?=some u->u.args.length=0∧kd g.sorts u.res=kd g.sorts d.res):AxOk g o :=
 ⟨h1,h2,fun _ d' hd'=>by
  rw [hd] at hd';injection hd' with hd';subst hd'
  refine ⟨h3,fun a' b' ha' hb'=>?_⟩;rw [ha] at ha';injection ha' with ha';subst ha'
  rw [hb] at hb';injection hb' with hb';subst hb'
  exact ⟨hk,fun h=>Classical.byContradiction fun hn=>hr ⟨h,hn⟩,hu⟩⟩
theorem ZoO (h:o.assoc=false∧o.comm=false∧o.unit=0):AxOk g o:=⟨by rw [h.2.2];exact Int.le_refl _,by rw [h.2.2];omega,fun h2=>by
 rcases h2 with h2 | h2 | h2
 ·rw [h.1] at h2;cases h2
 ·rw [h.2.1] at h2;cases h2
 ·exact absurd h.2.2 h2⟩
theorem Zsc (h:¬ (o.assoc=false∧o.comm=false∧o.unit=0)):o.assoc=true∨o.comm=true∨o.unit≠0:=by
 by_cases h1:o.assoc=true
 ·exact .inl h1
 by_cases h2:o.comm=true
 ·exact .inr (.inl h2)
 exact .inr (.inr fun h3=>h ⟨by simpa using h1,by simpa using h2,h3⟩)
theorem Zl3 (hs:SortsOk g.sorts) (hall:∀ p∈g.ops,DeclsOk g.sorts p) (ho:o∈g.ops) (hol:g.ops.length<=14):Con e0 106 [.agg (Zec g.sorts),.agg (ZaJ g),.agg (Zbc o)] [.one (.lit (.bool (axOk g o)))]:=by
 have hno:¬ AxOk g o->axOk g o=false:=ZkZ;have rK:=ZbT (l:=Zci g.sorts);obtain ⟨d,hd,hdd⟩:=(hall o ho).first;have gr:=kdg hs hdd.res;have ir:=hdd.res.1;rw [Zec,ZaJ,Zbc];refine gI 87042659588714057177760255 Tryz.func106 ?_;by_cases h1:0<=o.unit;rotate_left
 ·have hf:=hno fun h=>h1 h.lo;have z1:(o.unit < 0)=True:=eq_true om;exact fT (ai @z1 @hf)
 have z1:(o.unit < 0)=False:=eq_false om;by_cases h2:o.unit<=g.ops.length;rotate_left
 ·have hf:=hno fun h=>h2 h.hi;have z2:=lT g.ops.length o.unit;exact fT (aj3 @z1 @z2 @hf)
 have z2:=lF g.ops.length o.unit;by_cases hp:o.assoc=false∧o.comm=false∧o.unit=0
 ·have ht:=ZdH (ZoO (g:=g) hp);obtain ⟨p1,p2,p3⟩:=hp;have p3:(o.unit=0)=True:=eq_true p3;exact fT (aj6 @z1 @z2 @p1 @p2 @p3 @ht)
 have hnd:=Zsc hp;refine fN 3 (ai @z1 @z2) ?_;refine gM (ι:=Unit) [32] [] (fun v=>[(32,A.d (.one (.lit (.bool false))))]) (fun v=>[]) (fun v=>True) ?_ (fun v hv=>Exists.intro _ (ai (Wk.refl _) ?_))
 ·cases q1:o.assoc with
  | true=>(have F:=@q1;refine gG ?_;exact ⟨(),trivial,gw,gw⟩)
  | false =>
  cases q2:o.comm with
  | true=>(have F:=ai @q1 @q2;refine gG ?_;exact ⟨(),trivial,gw,gw⟩)
  | false =>
   have q3:(o.unit=0)=False:=eq_false fun h=>hp ⟨q1,q2,h⟩;have F:=aj3 @q1 @q2 @q3;refine gG ?_;exact ⟨(),trivial,gw,gw⟩
 clear hv;by_cases h3:d.args.length=2;rotate_left
 ·have hf:=hno fun h=>h3 (h.two hnd d hd).1;have z3:((d.args.length:Int)=2)=False:=eq_false om;exact fT (aj4 @hd @Za0 @z3 @hf)
 have z3:((d.args.length:Int)=2)=True:=eq_true om;obtain ⟨a,ha⟩:∃ k,d.args[0]?=some k:=⟨_,Taa om⟩;obtain ⟨b,hb⟩:∃ k,d.args[1]?=some k:=⟨_,Taa om⟩;have har:=hdd.args a (Tac ha);have hbr:=hdd.args b (Tac hb);have ga:=kdg hs har;have gb:=kdg hs hbr;have ia:=har.1;have ib:=hbr.1;by_cases hk:kd g.sorts a=kd g.sorts b;rotate_left
 ·have hf:=hno fun h=>hk ((h.two hnd d hd).2 a b ha hb).1;have z4:((kd g.sorts a:Int)=(kd g.sorts b:Int))=False:=eq_false om;exact fT (aj13 @hd @Za0 @z3 @ha @hb @Zbg @ga @gb @ia @ib @rK @z4 @hf)
 have z4:((kd g.sorts a:Int)=(kd g.sorts b:Int))=True:=eq_true om;refine fN 8 (aj12 @hd @Za0 @z3 @ha @hb @Zbg @ga @gb @ia @ib @rK @z4) ?_;refine gM (ι:=Bool) [83] [] (fun v=>[(83,A.d (.one (.lit (.bool v))))]) (fun v=>[]) (fun v=>(v=true->((o.assoc=true∨o.unit≠0)∧kd g.sorts a≠kd g.sorts d.res))∧(v=false->¬ ((o.assoc=true∨o.unit≠0)∧kd g.sorts a≠kd g.sorts d.res))) ?_ (fun v hv=>Exists.intro _ (ai (Wk.refl _) ?_))
 ·cases q1:o.assoc with
  | true =>
   by_cases hr:kd g.sorts a=kd g.sorts d.res
   ·have z5:((kd g.sorts a:Int)=(kd g.sorts d.res:Int))=True:=eq_true om;have F:=aj9 @q1 @ha @Zbg @ga @gr @ia @ir @rK @z5;refine gG ?_;exact ⟨false,⟨fun h=>(by cases h),fun _ h=>h.2 hr⟩,gw,gw⟩
   ·have z5:((kd g.sorts a:Int)=(kd g.sorts d.res:Int))=False:=eq_false om;have F:=aj9 @q1 @ha @Zbg @ga @gr @ia @ir @rK @z5;refine gG ?_;exact ⟨true,⟨fun _=>⟨.inl rfl,hr⟩,fun h=>(by cases h)⟩,gw,gw⟩
  | false =>
  by_cases q3:o.unit=0
  ·have z6:(o.unit=0)=True:=eq_true q3;have F:=ai @q1 @z6;refine gG ?_;exact ⟨false,⟨fun h=>(by cases h),fun _ h=>h.1.elim (fun h=>(by cases h)) fun h=>h q3⟩,gw,gw⟩
  ·have z6:(o.unit=0)=False:=eq_false q3;by_cases hr:kd g.sorts a=kd g.sorts d.res
   ·have z5:((kd g.sorts a:Int)=(kd g.sorts d.res:Int))=True:=eq_true om;have F:=aj10 @q1 @z6 @ha @Zbg @ga @gr @ia @ir @rK @z5;refine gG ?_;exact ⟨false,⟨fun h=>(by cases h),fun _ h=>h.2 hr⟩,gw,gw⟩
   ·have z5:((kd g.sorts a:Int)=(kd g.sorts d.res:Int))=False:=eq_false om;have F:=aj10 @q1 @z6 @ha @Zbg @ga @gr @ia @ir @rK @z5;refine gG ?_;exact ⟨true,⟨fun _=>⟨.inr q3,hr⟩,fun h=>(by cases h)⟩,gw,gw⟩
 obtain ⟨hv1,hv2⟩:=hv
 cases v with
 | true =>
  have hf:=hno fun h=>(hv1 rfl).2 (((h.two hnd d hd).2 a b ha hb).2.1 (hv1 rfl).1);exact fT @hf
 | false =>
 have hr:=hv2 rfl;by_cases q3:o.unit=0
 ·have z6:(o.unit=0)=True:=eq_true q3;have ht:=ZdH (Zjc hd h1 h2 h3 ha hb hk hr fun h=>absurd q3 h);exact fT (ai @z6 @ht)
 have z6:(o.unit=0)=False:=eq_false q3;have hsub:IntKind.i64.wrap (o.unit - 1)=((o.unit.toNat - 1:Nat):Int):=Za6 om om om;obtain ⟨p,hp⟩:∃ p,g.ops[o.unit.toNat - 1]?=some p:=⟨_,Taa om⟩;obtain ⟨u,hu,huu⟩:=(hall p (Tac hp)).first;have gu':=kdg hs huu.res;have iu:=huu.res.1;have key:(u.args.length=0∧kd g.sorts u.res=kd g.sorts d.res)->axOk g o=true:=fun h=>ZdH (Zjc hd h1 h2 h3 ha hb hk hr fun _ p' u' hp' hu'=>by
  rw [hp] at hp';injection hp' with hp';subst hp'
  rw [hu] at hu';injection hu' with hu';subst hu'
  exact h)
 have keyn:¬ (u.args.length=0∧kd g.sorts u.res=kd g.sorts d.res)->axOk g o=false:=fun h=>hno fun hA=>h (((hA.two hnd d hd).2 a b ha hb).2.2 q3 p u hp hu);by_cases hl0:u.args.length=0;rotate_left
 ·have hf:=keyn fun h=>hl0 h.1;have z7:((u.args.length:Int)=0)=False:=eq_false om;exact fT (aj9 @z6 @hsub @hp @Zao @hu @Za0 @ZaZ @z7 @hf)
 have z7:((u.args.length:Int)=0)=True:=eq_true om;by_cases hku:kd g.sorts u.res=kd g.sorts d.res
 ·have ht:=key ⟨hl0,hku⟩;have z8:((kd g.sorts u.res:Int)=(kd g.sorts d.res:Int))=True:=eq_true om;exact fT (aj15 @z6 @hsub @hp @Zao @hu @Za0 @ZaZ @z7 @gu' @gr @iu @ir @rK @z8 @ht)
 ·have hf:=keyn fun h=>hku h.2;have z8:((kd g.sorts u.res:Int)=(kd g.sorts d.res:Int))=False:=eq_false om;exact fT (aj15 @z6 @hsub @hp @Zao @hu @Za0 @ZaZ @z7 @gu' @gr @iu @ir @rK @z8 @hf)
theorem ZoP (hs:SortsOk g.sorts) (hall:∀ p∈g.ops,DeclsOk g.sorts p) (hk0:g.ops[k]?=some o) (hol:g.ops.length<=14):Con e0 85 [.agg (ZaJ g),.one (.lit (.int .i64 k))] [.one (.lit (.bool (axOk g o)))]:=by
 have hno:¬ AxOk g o->axOk g o=false:=ZkZ;have ho:=Tac hk0;have hkl:=(Tad.1 hk0).1;have cK:=ZeE hs;rw [show (Zb7 (Zci g.sorts)).map Zcb=nR (Zci g.sorts) from rfl] at cK;have rK:=ZbT (l:=Zci g.sorts);obtain ⟨d,hd,hdd⟩:=(hall o ho).first;have cA:=ZfB hd;have gr:=kdg hs hdd.res;have ir:=hdd.res.1;rw [Zbq] at cK;rw [Zbc] at cA;rw [ZaJ];refine gI 174085318024508800717819895 Tryz.func85 ?_;by_cases hp:o.assoc=false∧o.comm=false∧o.unit=0
 ·have ht:=ZdH (ZoO (g:=g) hp);obtain ⟨p1,p2,p3⟩:=hp;have p3:(o.unit=0)=True:=eq_true p3;exact fT (aj6 @hk0 @Zao @p1 @p2 @p3 @ht)
 have hnd:=Zsc hp;refine fN 2 (ai @hk0 @Zao) ?_;refine gM (ι:=Unit) [29] [] (fun v=>[(29,A.d (.one (.lit (.bool false))))]) (fun v=>[]) (fun v=>True) ?_ (fun v hv=>Exists.intro _ (ai (Wk.refl _) ?_))
 ·cases q1:o.assoc with
  | true=>(have F:=@q1;refine gG ?_;exact ⟨(),trivial,gw,gw⟩)
  | false =>
  cases q2:o.comm with
  | true=>(have F:=ai @q1 @q2;refine gG ?_;exact ⟨(),trivial,gw,gw⟩)
  | false =>
   have q3:(o.unit=0)=False:=eq_false fun h=>hp ⟨q1,q2,h⟩;have F:=aj3 @q1 @q2 @q3;refine gG ?_;exact ⟨(),trivial,gw,gw⟩
 clear hv;refine fB @e0P ?_;refine fC @e0P (cA) ?_;by_cases h3:d.args.length=2;rotate_left
 ·have hf:=hno fun h=>h3 (h.two hnd d hd).1;have z3:((d.args.length:Int)=2)=False:=eq_false om;refine fR @z3 ?_;exact fT @hf
 have z3:((d.args.length:Int)=2)=True:=eq_true om;refine fC @z3 (ZdN o.unit 0 (g.ops.length:Int)) ?_;by_cases h12:0<=o.unit∧o.unit<=(g.ops.length:Int);rotate_left
 ·have hf:=hno fun h=>h12 ⟨h.lo,h.hi⟩;have z1:decide (0<=o.unit∧o.unit<=(g.ops.length:Int))=false:=decide_eq_false h12;refine fR (ai @z3 @z1) ?_;exact fT @hf
 have z1:decide (0<=o.unit∧o.unit<=(g.ops.length:Int))=true:=decide_eq_true h12;obtain ⟨h1,h2⟩:=h12;obtain ⟨a,ha⟩:∃ k,d.args[0]?=some k:=⟨_,Taa om⟩;obtain ⟨b,hb⟩:∃ k,d.args[1]?=some k:=⟨_,Taa om⟩;have har:=hdd.args a (Tac ha);have hbr:=hdd.args b (Tac hb);have ga:=kdg hs har;have gb:=kdg hs hbr;have ia:=har.1;have ib:=hbr.1;refine fR (ai @z3 @z1) ?_;refine fB @e0P ?_;refine fC @e0P (cK) ?_;refine fR @e0P ?_
 refine fN 8 (ai @hd @Za0) ?_;refine Zar 22 (by decide +kernel) ?_;intro ds hds;simp only [List.map] at hds;subst hds;refine (have F:=aj10 ha hb Zbg ga gb gr ia ib ir rK;gP 19 ?_);refine (have F:=ia;gAq ?_);refine (have F:=ia;gAq ?_);refine (have F:=ia;gAq ?_);refine fR @e0P ?_;refine fN 9 @e0P ?_;refine gM (ι:=Bool) [84] [] (fun v=>[(84,A.d (.one (.lit (.bool v))))]) (fun v=>[]) (fun v=>(v=true->kd g.sorts a≠kd g.sorts b∨((o.assoc=true∨o.unit≠0)∧kd g.sorts a≠kd g.sorts d.res))∧(v=false->kd g.sorts a=kd g.sorts b∧¬ ((o.assoc=true∨o.unit≠0)∧kd g.sorts a≠kd g.sorts d.res))) ?_ (fun v hv=>Exists.intro _ (ai (Wk.refl _) ?_))
 ·by_cases hk:kd g.sorts a=kd g.sorts b;rotate_left
  ·have z4:((kd g.sorts a:Int)=(kd g.sorts b:Int))=False:=eq_false om;have F:=@z4;refine gG ?_;exact ⟨true,⟨fun _=>.inl hk,fun h=>(by cases h)⟩,gw,gw⟩
  have z4:((kd g.sorts a:Int)=(kd g.sorts b:Int))=True:=eq_true om
  cases q1:o.assoc with
  | true =>
   by_cases hr:kd g.sorts a=kd g.sorts d.res
   ·have z5:((kd g.sorts a:Int)=(kd g.sorts d.res:Int))=True:=eq_true om;have F:=aj4 @q1 @Zao @z4 @z5;refine gG ?_;exact ⟨false,⟨fun h=>(by cases h),fun _=>⟨hk,fun h=>h.2 hr⟩⟩,gw,gw⟩
   ·have z5:((kd g.sorts a:Int)=(kd g.sorts d.res:Int))=False:=eq_false om;have F:=aj4 @q1 @Zao @z4 @z5;refine gG ?_;exact ⟨true,⟨fun _=>.inr ⟨.inl rfl,hr⟩,fun h=>(by cases h)⟩,gw,gw⟩
  | false =>
  by_cases q3:o.unit=0
  ·have z6:=lF 0 o.unit;have F:=aj4 @q1 @Zao @z4 @z6;refine gG ?_;exact ⟨false,⟨fun h=>(by cases h),fun _=>⟨hk,fun h=>h.1.elim (fun h=>(by cases h)) fun h=>h q3⟩⟩,gw,gw⟩
  ·have z6:=lT 0 o.unit;by_cases hr:kd g.sorts a=kd g.sorts d.res
   ·have z5:((kd g.sorts a:Int)=(kd g.sorts d.res:Int))=True:=eq_true om;have F:=aj5 @q1 @Zao @z4 @z6 @z5;refine gG ?_;exact ⟨false,⟨fun h=>(by cases h),fun _=>⟨hk,fun h=>h.2 hr⟩⟩,gw,gw⟩
   ·have z5:((kd g.sorts a:Int)=(kd g.sorts d.res:Int))=False:=eq_false om;have F:=aj5 @q1 @Zao @z4 @z6 @z5;refine gG ?_;exact ⟨true,⟨fun _=>.inr ⟨.inr q3,hr⟩,fun h=>(by cases h)⟩,gw,gw⟩
 obtain ⟨hv1,hv2⟩:=hv
 cases v with
 | true =>
  have hf:=hno fun h=>(hv1 rfl).elim (fun h'=>h' ((h.two hnd d hd).2 a b ha hb).1) fun h'=>h'.2 (((h.two hnd d hd).2 a b ha hb).2.1 h'.1);exact fT @hf
 | false =>
 obtain ⟨hk,hr⟩:=hv2 rfl;by_cases q3:o.unit=0
 ·have z6:(o.unit=0)=True:=eq_true q3;have ht:=ZdH (Zjc hd h1 h2 h3 ha hb hk hr fun h=>absurd q3 h);exact fT (aj3 @Zao @z6 @ht)
 have z6:(o.unit=0)=False:=eq_false q3;have hsub:IntKind.i64.wrap (o.unit - 1)=((o.unit.toNat - 1:Nat):Int):=Za6 om om om;obtain ⟨p,hp⟩:∃ p,g.ops[o.unit.toNat - 1]?=some p:=⟨_,Taa om⟩;obtain ⟨u,hu,huu⟩:=(hall p (Tac hp)).first;have cP:=ZfB hu;rw [Zbc] at cP;have gu':=kdg hs huu.res;have iu:=huu.res.1;have key:(u.args.length=0∧kd g.sorts u.res=kd g.sorts d.res)->axOk g o=true:=fun h=>ZdH (Zjc hd h1 h2 h3 ha hb hk hr fun _ p' u' hp' hu'=>by
  rw [hp] at hp';injection hp' with hp';subst hp'
  rw [hu] at hu';injection hu' with hu';subst hu'
  exact h)
 have keyn:¬ (u.args.length=0∧kd g.sorts u.res=kd g.sorts d.res)->axOk g o=false:=fun h=>hno fun hA=>h (((hA.two hnd d hd).2 a b ha hb).2.2 q3 p u hp hu);refine fB (aj5 @z6 @hsub @hp @Zao @ZaZ) ?_;refine fC @e0P (cP) ?_;by_cases hl0:u.args.length=0;rotate_left
 ·have hf:=keyn fun h=>hl0 h.1;have z7:((u.args.length:Int)=0)=False:=eq_false om;refine fR @z7 ?_;exact fT @hf
 have z7:((u.args.length:Int)=0)=True:=eq_true om;by_cases hku:kd g.sorts u.res=kd g.sorts d.res
 ·have ht:=key ⟨hl0,hku⟩;have z8:((kd g.sorts u.res:Int)=(kd g.sorts d.res:Int))=True:=eq_true om;refine fR (aj7 @z7 @hu @Za0 @gu' @iu @rK @z8) ?_;exact fT @ht
 ·have hf:=keyn fun h=>hku h.2;have z8:((kd g.sorts u.res:Int)=(kd g.sorts d.res:Int))=False:=eq_false om;refine fR (aj7 @z7 @hu @Za0 @gu' @iu @rK @z8) ?_;exact fT @hf
end
theorem ZjE (a b:List Tm):sizeTms (a++b)=sizeTms a+sizeTms b:=by
 induction a with
 | nil=>simp [sizeTms]
 | cons x xs ih=>simp only [Taf,sizeTms,ih];omega
theorem Zc5 {t:Tm} (h:t∈ts):sizeTm t<=sizeTms ts:=by
 induction ts with
 | nil=>cases h
 | cons x xs ih =>
  simp only [sizeTms];rcases Tbg.1 h with rfl | h
  ·omega
  ·have:=ih h;omega
theorem ZoQ {i:Nat} {t:Tm} (h:ts[i]?=some t):sizeTms (ts.take (i+1))=sizeTms (ts.take i)+sizeTm t:=by
 rw [ZcE h,ZjE];simp [sizeTms]
theorem ZoR (ts:List Tm) (i:Nat):sizeTms (ts.take i)<=sizeTms ts:=by
 have:=ZjE (ts.take i) (ts.drop i);rw [Tbm] at this;omega
theorem Zb0 (ts:List Tm):ts.length<=sizeTms ts:=by
 induction ts with
 | nil=>simp [sizeTms]
 | cons x xs ih=>cases x;simp only [Tag,sizeTms,sizeTm];omega
mutual
def depthTm:Tm->Nat
 | .mk _ _ _ a=>1+depthTms a
def depthTms:List Tm->Nat
 | []=>0
 | t::ts=>max (depthTm t) (depthTms ts)
end
mutual
theorem ZsN:∀ t:Tm,depthTm t<=sizeTm t
 | .mk _ _ _ a=>by
  have:=ZfC a;simp only [depthTm,sizeTm];omega
theorem ZfC:∀ ts:List Tm,depthTms ts<=sizeTms ts
 | []=>by simp [depthTms]
 | t::ts=>by
  have:=ZsN t;have:=ZfC ts;simp only [depthTms,sizeTms];omega
end
theorem ZoS (a b:List Tm):depthTms (a++b)=max (depthTms a) (depthTms b):=by
 induction a with
 | nil=>simp [depthTms]
 | cons x xs ih=>simp only [Taf,depthTms,ih];omega
theorem Zh4 {i:Nat} {t:Tm} (h:ts[i]?=some t):depthTms (ts.take (i+1))=max (depthTms (ts.take i)) (depthTm t):=by
 rw [ZcE h,ZoS];simp [depthTms]
theorem ZoT {t:Tm} (h:t∈ts):depthTm t<=depthTms ts:=by
 induction ts with
 | nil=>cases h
 | cons x xs ih =>
  simp only [depthTms];rcases Tbg.1 h with rfl | h
  ·omega
  ·have:=ih h;omega
theorem Zl4:∀ op nm so args,Zad (.mk op nm so args)=[.lit (.int .i64 op),.lit (.string nm),.lit (.int .i64 so),.sl (Zaa args)]:=fun _ _ _ _=>by rw [Zad]
theorem Zx2:∀ op nm so args,sizeTm (.mk op nm so args)=1+sizeTms args:=fun _ _ _ _=>by rw [sizeTm]
theorem ZmN:∀ op nm so args,depthTm (.mk op nm so args)=1+depthTms args:=fun _ _ _ _=>by rw [depthTm]
theorem Zws:sizeTms []=0:=by rw [sizeTms]
theorem Zk5:depthTms []=0:=by rw [depthTms]
def big:Nat:=4611686018427387904
theorem Zj6:∀ (n:Nat) (t:Tm),sizeTm t < n->sizeTm t<=big->Con e0 64 [.agg (Zad t)] [.one (.lit (.int .i64 (sizeTm t)))]:=by
 intro n
 induction n with
 | zero=>intro t h;omega
 | succ n ih =>
  intro t hn hb;obtain ⟨op,nm,so,args⟩:=t;simp only [sizeTm,big] at hn hb;have hal:=Zb0 args;refine gI 1967 Tryz.func64 ?_;refine fG (ai @Zl4 @tmz) ?_;have F:=@Zws;refine gL (ι:=Nat) [3,5,9,10] [] (fun i=>[(9,A.d (.one (.lit (.int .i64 i)))),(3,A.d (.one (.lit (.int .i64 ((1+sizeTms (args.take i):Nat):Int)))))]) (fun i=>[]) (fun i=>i<=args.length) (fun i=>args.length - i) (0) om (fun i hi=>?_);clear F
  by_cases hl:i < args.length;rotate_left
  ·have hl':¬ ((i:Int) < (args.length:Int)):=om;have e:args.take i=args:=List.take_of_length_le om;exact fT (aj3 @hl' @e @Zx2)
  have hl':(i:Int) < (args.length:Int):=om;obtain ⟨a,ha⟩:∃ a,args[i]?=some a:=⟨_,Taa hl⟩;have hs:=ZoQ ha;have ht:=ZoR args (i+1);have hm:=Zc5 (Tac ha);have hw:IntKind.i64.wrap (((1+sizeTms (args.take i):Nat):Int)+(sizeTm a:Int))=((1+sizeTms (args.take (i+1)):Nat):Int):=Za6 om om om;have hw1:=Zaw (k:=i) om;refine fB (aj3 @hl' @tmz @ha) ?_;refine fC @tmz (ih a om (by unfold big;omega)) ?_;refine fR @hw ?_
  have F:=aj3 @hw1 @hw @tmz;refine gG ?_;exact ⟨i+1,om,gw,gw,om⟩
theorem ZiA {t:Tm} (h:sizeTm t<=big):Con e0 64 [.agg (Zad t)] [.one (.lit (.int .i64 (sizeTm t)))]:=Zj6 _ t (Tan _) h
theorem Zjp:∀ (n:Nat) (t:Tm),sizeTm t < n->sizeTm t<=big->Con e0 65 [.agg (Zad t)] [.one (.lit (.int .i64 (depthTm t)))]:=by
 intro n
 induction n with
 | zero=>intro t h;omega
 | succ n ih =>
  intro t hn hb;obtain ⟨op,nm,so,args⟩:=t;simp only [sizeTm,big] at hn hb;have hal:=Zb0 args;have hds:=ZfC args;refine gI 1967 Tryz.func65 ?_;refine fG (ai @Zl4 @tmz) ?_;have F:=@Zk5;refine gL (ι:=Nat) [3,5,9,10] [] (fun i=>[(9,A.d (.one (.lit (.int .i64 i)))),(3,A.d (.one (.lit (.int .i64 ((depthTms (args.take i):Nat):Int)))))]) (fun i=>[]) (fun i=>i<=args.length) (fun i=>args.length - i) (0) om (fun i hi=>?_);clear F
  by_cases hl:i < args.length;rotate_left
  ·have hl':¬ ((i:Int) < (args.length:Int)):=om;have e:args.take i=args:=List.take_of_length_le om;have hw:IntKind.i64.wrap ((depthTms args:Int)+1)=((1+depthTms args:Nat):Int):=Za6 om om om;exact fT (aj4 @hl' @e @hw @ZmN)
  have hl':(i:Int) < (args.length:Int):=om;obtain ⟨a,ha⟩:∃ a,args[i]?=some a:=⟨_,Taa hl⟩;have hs:=Zh4 ha;have hm:=Zc5 (Tac ha);have hw:(if (depthTm a:Int) > (depthTms (args.take i):Int) then (depthTm a:Int) else (depthTms (args.take i):Int))=((depthTms (args.take (i+1)):Nat):Int):=by
   split <;> omega
  have hw1:=Zaw (k:=i) om;refine fB (aj3 @hl' @tmz @ha) ?_;refine fC @tmz (ih a om (by unfold big;omega)) ?_;refine fR @hw ?_;have F:=aj3 @hw1 @hw @tmz;refine gG ?_;exact ⟨i+1,om,gw,gw,om⟩
theorem Zh5 {t:Tm} (h:sizeTm t<=big):Con e0 65 [.agg (Zad t)] [.one (.lit (.int .i64 (depthTm t)))]:=Zjp _ t (Tan _) h
theorem Zwt (a b:Int):Con e0 133 [.one (.lit (.int .i64 a)),.one (.lit (.int .i64 b))] [.one (.lit (.int .i64 (max a b)))]:=by
 refine gI 147 Tryz.func133 ?_;by_cases h:b < a
 ·have e:max a b=a:=om;exact fT (ai @h @e)
 ·have e:max a b=b:=om;exact fT (ai @h @e)
theorem Zjq:∀ (n:Nat) (t:Tm),sizeTm t < n->sizeTm t<=big->Con e0 90 [.agg (Zad t)] [.one (.lit (.int .i64 (depthTm t)))]:=by
 intro n
 induction n with
 | zero=>intro t h;omega
 | succ n ih =>
  intro t hn hb;obtain ⟨op,nm,so,args⟩:=t;simp only [sizeTm,big] at hn hb;have hal:=Zb0 args;have hds:=ZfC args;refine gI 543 Tryz.func90 ?_;refine fG (ai @Zl4 @tmz) ?_;have F:=@Zk5;refine gL (ι:=Nat) [3,4,9] [] (fun i=>[(4,A.d (.one (.lit (.int .i64 i)))),(3,A.d (.one (.lit (.int .i64 ((depthTms (args.take i):Nat):Int)))))]) (fun i=>[]) (fun i=>i<=args.length) (fun i=>args.length - i) (0) om (fun i hi=>?_);clear F
  by_cases hl:i < args.length;rotate_left
  ·have hl':¬ ((i:Int) < (args.length:Int)):=om;have e:args.take i=args:=List.take_of_length_le om;have hw:IntKind.i64.wrap ((depthTms args:Int)+1)=((1+depthTms args:Nat):Int):=Za6 om om om;exact fT (aj5 @hl' @e @hw @ZmN @tmz)
  have hl':(i:Int) < (args.length:Int):=om;obtain ⟨a,ha⟩:∃ a,args[i]?=some a:=⟨_,Taa hl⟩;have hs:=Zh4 ha;have hm:=Zc5 (Tac ha);have hw:max (depthTms (args.take i):Int) (depthTm a:Int)=((depthTms (args.take (i+1)):Nat):Int):=om;have hw1:=Zaw (k:=i) om;refine fB (aj3 @hl' @tmz @ha) ?_;refine fC (ai @tmz @ha) (ih a om (by unfold big;omega)) ?_;refine fC @tmz (Zwt _ _) ?_;refine fR @hw ?_;have F:=aj3 @hw1 @hw @tmz;refine gG ?_;exact ⟨i+1,om,gw,gw,om⟩
theorem Znk {t:Tm} (h:sizeTm t<=big):Con e0 90 [.agg (Zad t)] [.one (.lit (.int .i64 (depthTm t)))]:=Zjq _ t (Tan _) h
def Lks (sb:List (Nat × A)) (mb:List (Nat × Bk)) (σ:St):Prop:=(∀ p∈sb,gs σ.s p.1=p.2)∧∀ p∈mb,gm σ.m p.1=some p.2
def keyB (k:Nat):A->Bool
 | .ref k' _=>k'==k
 | .buf k'=>k'==k
 | .row k' _ _ _=>k'==k
 | _=>false
def ZeP (d:Nat) (sb:List (Nat × A)) (mb:List (Nat × Bk)):Bool:=sb.all (fun p=>p.1 != d && !keyB d p.2) && mb.all (fun p=>p.1 != d)
theorem ZeQ (k t:Nat):∀ (s:List (Nat × A)),keyB k (gs s t)=false->gs (Zaz k s) t=gs s t
 | [],_=>rfl
 | (t',x)::r,h=>by
  have ih:=ZeQ k t r;by_cases ht:t=t'
  ·cases x <;> simp_all [Zaz,gs,keyB]
  ·have h2:keyB k (gs r t)=false:=by simpa [gs,ht] using h
   have h3:=ih h2;clear h ih
   cases x <;> simp [Zaz,gs,ht,h3]
theorem Zwu {d:Nat} {a:Option Addr} {x:A} (h:keyB d x=false):litB d a n cap x=x:=by
 cases x <;> simp_all [litB,keyB]
section
variable {sb sb':List (Nat × A)} {mb mb':List (Nat × Bk)} {s:List (Nat × A)} {m:List (Nat × Bk)} {d:Nat} {α:A} {bk:Bk} {σ:St}
theorem Lks.app (h:Lks sb mb σ) (h':Lks sb' mb' σ):Lks (sb++sb') (mb++mb') σ :=
 ⟨fun p hp=>(Tbh.1 hp).elim (h.1 p) (h'.1 p),fun p hp=>(Tbh.1 hp).elim (h.2 p) (h'.2 p)⟩
theorem Lks.born (h:Lks sb mb ⟨s,m⟩) (hf:ZeP d sb mb=true):Lks sb mb ⟨(d,α)::Zaz d s,(d,bk)::remM d m⟩:=by
 simp only [ZeP,Tar,List.all_eq_true,bne_iff_ne,ne_eq,Bool.not_eq_true'] at hf;refine ⟨fun p hp=>?_,fun p hp=>?_⟩
 ·have h1:=hf.1 p hp;have h2:=h.1 p hp;simp only [gs,h1.1,if_false];rw [ZeQ _ _ _ (by rw [h2];exact h1.2)];exact h2
 ·have h1:=hf.2 p hp;simp only [gm,h1,if_false,Zat];exact h.2 p hp
theorem Lks.pin (h:Lks sb mb ⟨s,m⟩) (hf:ZeP d sb mb=true) {a:Option Addr}:Lks sb mb ⟨(d,α)::mapS (litB d a n cap) (Zaz d s),(d,bk)::remM d (remM d m)⟩:=by
 simp only [ZeP,Tar,List.all_eq_true,bne_iff_ne,ne_eq,Bool.not_eq_true'] at hf;refine ⟨fun p hp=>?_,fun p hp=>?_⟩
 ·have h1:=hf.1 p hp;have h2:=h.1 p hp;simp only [gs,h1.1,if_false];rw [Zi5 rfl,ZeQ _ _ _ (by rw [h2];exact h1.2),h2];exact Zwu h1.2
 ·have h1:=hf.2 p hp;simp only [gm,h1,if_false,Zat];exact h.2 p hp
theorem Lks.slot (h:Lks sb mb ⟨s,m⟩) (hf:sb.all (fun p=>p.1 != d)=true):Lks sb mb ⟨(d,α)::s,m⟩:=by
 simp only [List.all_eq_true,bne_iff_ne,ne_eq] at hf;refine ⟨fun p hp=>?_,h.2⟩;simp only [gs,hf p hp,if_false];exact h.1 p hp
theorem Lks.own (h:Lks sb mb ⟨s,m⟩) (hf:mb.all (fun p=>p.1 != d)=true):Lks sb mb ⟨s,(d,bk)::remM d m⟩:=by
 simp only [List.all_eq_true,bne_iff_ne,ne_eq] at hf;refine ⟨h.1,fun p hp=>?_⟩;simp only [gm,hf p hp,if_false,Zat];exact h.2 p hp
theorem ZoU:∀ {sb:List (Nat × A)} (t:Nat),(∀ p∈sb,gs σ.s p.1=p.2)->gs sb t=gs σ.s t∨gs sb t=.undef
 | [],t,_=>.inr rfl
 | (t',x)::r,t,h=>by
  simp only [gs];by_cases ht:t=t'
  ·have:=h (t',x) (by simp);rw [if_pos ht,ht];exact .inl this.symm
  ·rw [if_neg ht];exact ZoU t fun p hp=>h p (by simp [hp])
theorem ZoV:∀ {mb:List (Nat × Bk)} (t:Nat) (bk:Bk),(∀ p∈mb,gm σ.m p.1=some p.2)->gm mb t=some bk->gm σ.m t=some bk
 | [],t,bk,_,h=>by simp [gm] at h
 | (t',x)::r,t,bk,h,hg=>by
  simp only [gm] at hg;by_cases ht:t=t'
  ·rw [if_pos ht] at hg;injection hg with hg
   have:=h (t',x) (by simp);rw [ht,this,hg]
  ·rw [if_neg ht] at hg;exact ZoV t bk (fun p hp=>h p (by simp [hp])) hg
end
section
variable {e:Env} {mask:Nat} {Q:PX->St->Prop} {ds:List (Option Nat)}
theorem Zk6 {K':St->Prop} (h:Runs e ds 0 os σ K) (hk:∀ σ',K σ'->K' σ'):Runs e ds 0 os σ K':=by
 simp only [Runs] at h ⊢;exact fun he U w0 S0 nt a w ops Q hds hd hQ hs=>h he U w0 S0 nt a w ops Q hds hd (fun a w σ' k1 k2=>hQ a w σ' (hk σ' k1) k2) hs
def Zk7 (l:List Oper):Bool:=(List.range l.length).all fun i=>match l[i]? with
 | none=>true
 | some o=>o.guard.isNone && o.after.toList.all fun e=>!Region.binds .any e || decide (e.on < i)
def ZeF (o:Oper):List Nat:=(o.after.toList.filter fun e=>Region.binds .any e).map (·.on)
def ZbM (L:List Oper) (j:Nat):List Nat:=match L[j]? with
 | some o=>ZeF o
 | none=>[]
def Zgx (e:Env) (ds:List (Option Nat)) (L:List Oper) (B:St->Prop) (P:Nat->St->Prop):Nat->List Oper->Prop
 | _,[]=>True
 | i,o::os=>(∀ s m,B ⟨s,m⟩->(∀ j∈ZeF o,P j ⟨s,m⟩)->Runs e ds 0 [o] ⟨s,m⟩ (fun σ'=>B σ'∧P i σ'∧∀ j,j≠i->i ∉ ZbM L j->P j ⟨s,m⟩->P j σ'))∧Zgx e ds L B P (i+1) os
theorem Zgx.get {L:List Oper} {B:St->Prop} {P:Nat->St->Prop}:∀ {l:List Oper} {k i:Nat} {o:Oper},Zgx e ds L B P k l->l[i]?=some o->∀ s m,B ⟨s,m⟩->(∀ j∈ZeF o,P j ⟨s,m⟩)->Runs e ds 0 [o] ⟨s,m⟩ (fun σ'=>B σ'∧P (k+i) σ'∧∀ j,j≠k+i->k+i ∉ ZbM L j->P j ⟨s,m⟩->P j σ')
 | [],k,i,o,_,h=>by simp at h
 | x::l,k,0,o,h,ho=>by
  simp only [Tat,Taq] at ho;subst ho;exact h.1
 | x::l,k,i+1,o,h,ho=>by
  have:=Zgx.get (l:=l) (k:=k+1) (i:=i) (o:=o) h.2 (by simpa using ho);rw [show k+1+i=k+(i+1) by omega] at this;exact this
theorem ZsO {l:List Oper} {B:St->Prop} {P:Nat->St->Prop} (hb:Zk7 l=true) (hstep:Zgx e ds l B P 0 l) (hK:∀ s m,B ⟨s,m⟩->(∀ i,i < l.length->P i ⟨s,m⟩)->K ⟨s,m⟩) :
  ∀ (f:Nat) (listed:Array Bool) (σ:St),listed.size=l.length->(List.range l.length).countP (fun i=>!listed.getD i true)=f->B σ->(∀ j,listed.getD j false=true->P j σ∧∀ q∈ZbM l j,listed.getD q false=true)->ZcB e ds l.toArray K f listed σ:=by
 have hback:∀ i o,l[i]?=some o->o.guard=none∧∀ e∈o.after,Region.binds .any e=true->e.on < i:=fun i o ho=>by
  have h1:=List.all_eq_true.1 hb i (List.mem_range.2 (Tad.1 ho).1);rw [ho] at h1;simp only [Tar,Option.isNone_iff_eq_none,List.all_eq_true,Bool.or_eq_true,Bool.not_eq_true',decide_eq_true_eq] at h1;refine ⟨h1.1,fun e he hbe=>?_⟩;rcases h1.2 e (Array.mem_toList_iff.2 he) with h2 | h2
  ·rw [hbe] at h2;cases h2
  ·exact h2
 have hfirst:∀ (listed:Array Bool),listed.size=l.length->Region.ready .any l.toArray listed=[]->∀ i,i < l.length->listed.getD i false=true:=fun listed hsz h0 i=>by
  induction i using Nat.strongRecOn with
  | _ i ih =>
   intro hi;rw [<- Zbv (by omega:i < listed.size)]
   cases hun:listed.getD i true with
   | true=>rfl
   | false =>
   obtain ⟨o,ho⟩:∃ o,l[i]?=some o:=⟨_,Taa hi⟩;have:=(mem_ready (ops:=l.toArray) (md:=.any)).2 ⟨hun,o,by simpa using ho,fun e he hbe=>ih e.on ((hback i o ho).2 e he hbe) (by have:=(hback i o ho).2 e he hbe;omega)⟩;rw [h0] at this
   cases this
 intro f
 induction f with
 | zero =>
  intro listed σ hsz hc hB hP;have hall:∀ i,i < l.length->listed.getD i true=true:=fun i hi=>by
   have:=List.countP_eq_zero.1 hc i (List.mem_range.2 hi);simpa using this
  refine ⟨?_,hK σ.s σ.m hB fun i hi=>(hP i (by rw [<- Zbv om];exact hall i hi)).1⟩
  cases hr:Region.ready .any l.toArray listed with
  | nil=>rfl
  | cons i r =>
   have hi:i∈Region.ready .any l.toArray listed:=by rw [hr];simp
   obtain ⟨hun,oi,hoi,_⟩:=mem_ready.1 hi;have hil:i < l.length:=by
    have:=(Tbl.1 hoi).1;simpa using this
   rw [hall i hil] at hun
   cases hun
 | succ f ih =>
  intro listed σ hsz hc hB hP;refine ⟨fun h0=>hK σ.s σ.m hB fun i hi=>(hP i (hfirst listed hsz h0 i hi)).1,fun i hi=>?_⟩;obtain ⟨hun,o,hoi,hall⟩:=mem_ready.1 hi;have ho:l[i]?=some o:=by simpa using hoi
  have hil:i < l.length:=(Tad.1 ho).1;have hls:i < listed.size:=om;refine ⟨o,hoi,(hback i o ho).1,ZdA (hback i o ho).1 ?_⟩;have h1:=Zgx.get hstep ho σ.s σ.m hB fun j hj=>by
   simp only [ZeF,Tbi,List.mem_filter] at hj;obtain ⟨e,⟨he,hbe⟩,rfl⟩:=hj;exact (hP e.on (hall e (Array.mem_toList_iff.1 he) hbe)).1
  rw [Nat.zero_add] at h1;refine Zk6 h1 fun σ' ⟨k1,k2,k3⟩=>ih _ σ' (by simpa using hsz) ?_ k1 fun j hj=>?_
  ·have h1:(List.range l.length).countP (fun j=>!(listed.setIfInBounds i true).getD j true)+1=(List.range l.length).countP (fun j=>!listed.getD j true):=by
    have hperm:=List.perm_cons_erase (List.mem_range.2 hil);rw [hperm.countP_eq,hperm.countP_eq,List.countP_cons,List.countP_cons];have hcong:((List.range l.length).erase i).countP (fun j=>!(listed.setIfInBounds i true).getD j true)=((List.range l.length).erase i).countP (fun j=>!listed.getD j true):=by
     refine List.countP_congr fun j hj=>?_;have hne:j≠i:=fun e=>by
      subst e;exact List.Nodup.not_mem_erase (List.nodup_range) hj
     rw [getD_set_ne true (Ne.symm hne)]
    rw [hcong,hun];simp [hls]
   omega
  ·by_cases hji:j=i
   ·subst hji;refine ⟨k2,fun q hq=>?_⟩;have hda:ZbM l j=ZeF o:=by unfold ZbM;rw [ho]
    rw [hda] at hq;simp only [ZeF,Tbi,List.mem_filter] at hq;obtain ⟨e,⟨he,hbe⟩,rfl⟩:=hq;have hlt:=(hback j o ho).2 e (Array.mem_toList_iff.1 he) hbe;rw [getD_set_ne false om];exact hall e (Array.mem_toList_iff.1 he) hbe
   ·rw [getD_set_ne false (Ne.symm hji)] at hj;obtain ⟨p1,p2⟩:=hP j hj;have hni:i ∉ ZbM l j:=fun hm=>by
     have h2:=p2 i hm;rw [<- Zbv hls,hun] at h2
     cases h2
    refine ⟨k3 j hji hni p1,fun q hq=>?_⟩;by_cases hqi:q=i
    ·subst hqi;exact absurd hq hni
    ·rw [getD_set_ne false (Ne.symm hqi)];exact p2 q hq
theorem gGd {l:List Oper} (B:St->Prop) (P:Nat->St->Prop) (hB:B ⟨s,m⟩) (hS:Zgx e (l.map (·.dst)) l B P 0 l) (hK:∀ s' m',B ⟨s',m'⟩->(∀ i,i < l.length->P i ⟨s',m'⟩)->∃ sf mf,Lks sf mf ⟨s',m'⟩∧Q .normal ⟨sf,mf⟩)
  (hb:Zk7 l=true:=by decide +kernel) (hT:regT l.toArray 0=true:=by decide +kernel):pwp e mask (.region id l.toArray true) ⟨s,m⟩ Q:=fun he U w0 S0 nt a w hok hs=>by
 refine Zj4 he hT (K:=fun σ'=>∃ sf mf,Lks sf mf σ'∧Q .normal ⟨sf,mf⟩) (fun a w σ' ⟨sf,mf,h1,h2⟩ h3=>⟨⟨sf,mf⟩,h2,h3.weak (fun t=>ZoU t h1.1) (fun t bk=>ZoV t bk h1.2)⟩) (Zk0 hok) hs ?_;simp only [List.take_zero,Runs]
 have:=ZsO (K:=fun σ'=>∃ sf mf,Lks sf mf σ'∧Q .normal ⟨sf,mf⟩) hb hS hK l.length (ZbG l.length 0) ⟨s,m⟩ (by simp [ZbG]) (by
  rw [List.countP_eq_length.2]
  ·simp
  ·intro i hi;have hi':=List.mem_range.1 hi;simp [ZbG,hi']) hB (fun j hj=>by
   have h0:(ZbG l.length 0).getD j false=false:=by
    by_cases hjl:j < l.length
    ·simp [ZbG,hjl]
    ·simp [ZbG,hjl]
   rw [h0] at hj
   cases hj)
 simpa using this
def PG {X:Type} (S:X->Nat->List (Nat × A)) (M:X->Nat->List (Nat × Bk)) (i:Nat) (σ:St):Prop:=∃ x,Lks (S x i) (M x i) σ
section
variable {X:Type} {S:X->Nat->List (Nat × A)} {M:X->Nat->List (Nat × Bk)} {d i:Nat} {L:List Oper} {s:List (Nat × A)} {m:List (Nat × Bk)} {α:A} {bk:Bk}
theorem PG.slot (hf:∀ j,j≠i->i ∉ ZbM L j->∀ x,(S x j).all (fun p=>p.1 != d)=true):∀ j,j≠i->i ∉ ZbM L j->PG S M j ⟨s,m⟩->PG S M j ⟨(d,α)::s,m⟩:=fun j h1 h2 ⟨x,h⟩=>⟨x,h.slot (hf j h1 h2 x)⟩
theorem PG.born (hf:∀ j,j≠i->i ∉ ZbM L j->∀ x,ZeP d (S x j) (M x j)=true):∀ j,j≠i->i ∉ ZbM L j->PG S M j ⟨s,m⟩->PG S M j ⟨(d,α)::Zaz d s,(d,bk)::remM d m⟩:=fun j h1 h2 ⟨x,h⟩=>⟨x,h.born (hf j h1 h2 x)⟩
theorem PG.pin (hf:∀ j,j≠i->i ∉ ZbM L j->∀ x,ZeP d (S x j) (M x j)=true) {a:Option Addr}:∀ j,j≠i->i ∉ ZbM L j->PG S M j ⟨s,m⟩->PG S M j ⟨(d,α)::mapS (litB d a n cap) (Zaz d s),(d,bk)::remM d (remM d m)⟩:=fun j h1 h2 ⟨x,h⟩=>⟨x,h.pin (hf j h1 h2 x)⟩
end
end
theorem ZsP {k' ety' sz' cap':Nat} {ad ad':Option Addr} {rows':List (List C)} (hne:k≠k') (h:gm σ.m k=some (.buf (some (ad,cap)) ety sz rows)) (h':gm σ.m k'=some (.buf (some (ad',cap')) ety' sz' rows')) (hr:0 < rows.length) (hr':0 < rows'.length):Turn e σ (fun σ'=>σ'=σ∧ad≠ad'):=fun he U w0 S0 nt act w hs=>by
 refine ⟨σ,⟨rfl,fun e=>?_⟩,hs⟩;obtain ⟨S,L,h1⟩:=hs;have key:∀ {k ety sz cap:Nat} {ad:Option Addr} {rows:List (List C)},gm σ.m k=some (.buf (some (ad,cap)) ety sz rows)->0 < rows.length->∃ g,vblk (L.v k)=some g∧ad=some ⟨g,0,none⟩:=fun {k ety sz cap ad rows} h hr=>by
  obtain ⟨o1,o2⟩:=h1.cls.own k _ h;have o1:=o1 _ rfl;rcases o2.2.2 with ⟨h3,_⟩ | ⟨g,cap2,cur,hv,hc,_⟩
  ·rw [h3] at hr;simp at hr
  ·refine ⟨g,by rw [hv];simp [vblk];omega,?_⟩;rw [o1] at hv;injection hv with hv _ _
 obtain ⟨g,v1,e1⟩:=key h hr;obtain ⟨g',v2,e2⟩:=key h' hr';rw [e1,e2] at e;injection e with e
 injection e with e _ _
 rw [<- e] at v2;exact hne (h1.cls.inj k k' _ _ g h h' v1 v2)
theorem pA {mask:Nat} {Q:PX->St->Prop} {c:Code} {ety' sz' cap':Nat} {ad ad':Option Addr} {rows':List (List C)} (k k':Nat) (hK:ad≠ad'->pwp e mask c ⟨s,m⟩ Q) (hr:0 < rows.length) (hr':0 < rows'.length) (hne:k≠k':=by decide) (h:gm m k=some (.buf (some (ad,cap)) ety sz rows):=by exact snv) (h':gm m k'=some (.buf (some (ad',cap')) ety' sz' rows'):=by exact snv):pwp e mask c ⟨s,m⟩ Q :=
 Zc9 (ZsP hne h h' hr hr') fun σ' ⟨hσ,ha⟩=>by subst hσ;exact hK ha
def ordS (s:Srt) (f:(Nat->Option Addr × Nat) × C × C × C):Nat->List (Nat × A)
 | 0=>[(20,.d (.agg (Zbq s)))]
 | 1=>[(21,.d (.one (.sl (nR (up s)))))]
 | 2=>[(22,.d (.one (.lit (.int .i64 s.names.length))))]
 | 3=>[(23,.d (.one (.lit (.slice (f.1 23).1 s.names.length (f.1 23).2))))]
 | 4=>[(24,.d (.one (.lit (.int .i64 s.names.length))))]
 | 5=>[(25,.d (.one (.lit (.slice (f.1 25).1 s.names.length (f.1 25).2))))]
 | 6=>[(26,.d (.agg [.sl (nR (up s)),.lit (.slice (f.1 23).1 s.names.length (f.1 23).2),.lit (.slice (f.1 25).1 s.names.length (f.1 25).2)]))]
 | 7=>[(5,.ref 5 0)]
 | 8=>[(5,.ref 5 0)]
 | _=>[]
def ordM (s:Srt) (f:(Nat->Option Addr × Nat) × C × C × C):Nat->List (Nat × Bk)
 | 3=>[(23,.buf (some (f.1 23)) 3 1 (nR (List.replicate s.names.length 0)))]
 | 5=>[(25,.buf (some (f.1 25)) 3 1 (nR (List.replicate s.names.length 0)))]
 | 6=>[(23,.buf (some (f.1 23)) 3 1 (nR (List.replicate s.names.length 0))),(25,.buf (some (f.1 25)) 3 1 (nR (List.replicate s.names.length 0)))]
 | 7=>[(5,.var none [f.2.1,f.2.2.1,f.2.2.2])]
 | 8=>[(5,.var none [.sl (nR (up s)),.lit (.slice (f.1 23).1 s.names.length (f.1 23).2),.lit (.slice (f.1 25).1 s.names.length (f.1 25).2)]),(23,.buf (some (f.1 23)) 3 1 (nR (List.replicate s.names.length 0))),(25,.buf (some (f.1 25)) 3 1 (nR (List.replicate s.names.length 0)))]
 | _=>[]
theorem ZA4:(∀ (u l:List Nat),downs u 0 l=l)∧∀ n,Zd4 n 0=List.replicate n 0:=⟨fun _ _=>rfl,fun n=>by simp [Zd4]⟩
theorem ZAG (i:Nat) (l:List Nat):downIn i l []=l:=rfl
theorem Zwv {ks:List Nat} {j:Nat} (h:ks[j]?=some k) (i:Nat) (l:List Nat):downIn i l (ks.take (j+1))=(downIn i l (ks.take j)).set k ((downIn i l (ks.take j)).getD k 0 ||| 2 ^ i):=ZhB h l
def Zk8 (s:Srt):List (Nat × A):=[(1,.ref 1 0),(2,.ref 2 0),(3,.d (.one (.lit (.bool false)))),(4,.d (.one (.lit (.int .i64 s.names.length))))]
def ZnR (s:Srt):List (Nat × Bk):=[(1,.var none (Zbq s)),(2,.var none [.sl [],.sl [],.sl []])]
def ordB (s:Srt) (σ:St):Prop:=Lks (Zk8 s) (ZnR s) σ
section
variable {s:Srt}
theorem Zj7 (hok:ZkT s) (hs:¬ SortsOk s):Con e0 61 [.agg (Zbq s)] [.agg [.sl [],.sl [],.sl []],.one (.lit (.bool false))]:=by
 have cI:=Zh3 hok;rw [ZfT hs,Zbq] at cI;rw [Zbq];refine gI (ts:=[.cell 2 118,.slot 3]) 569543224310601128703 Tryz.func61 ?_;refine fB @e0P ?_;refine fC @e0P (cI) ?_;refine fR @e0P ?_;exact fD @e0P
theorem ZiB (hok:ZkT s) (hs:SortsOk s):Con e0 61 [.agg (Zbq s)] [.agg (Zec s),.one (.lit (.bool true))]:=by
 have cI:=Zh3 hok;have hSI:=SortsOk.subsIn hs.subs;have cA:=Zh2 hs.n1 hs.n8 hs.m16 hSI;rw [Ze8 hs] at cI;rw [Zbq] at cI ⊢;refine gI (ts:=[.cell 2 118,.slot 3]) 569543224310601128703 Tryz.func61 ?_;refine fB @e0P ?_;refine fC @e0P (cI) ?_;refine fR @e0P ?_;refine fN 4 @e0P ?_;have hmx:((s.names.length:Int)<=(maxApp:Int))=True:=eq_true (by have:=hs.n8;unfold maxApp;omega);refine gGd (ordB s) (PG (ordS s) (ordM s)) ⟨by simp [Zk8,gs],by simp [ZnR,gm,Zbq]⟩ ⟨?_,?_,?_,?_,?_,?_,?_,?_,?_,trivial⟩ ?_
 rotate_right
 all_goals (intro s' m' hB)
 all_goals (have g1:gs s' 1=.ref 1 0:=hB.1 (1,.ref 1 0) (by simp [Zk8]))
 all_goals (have g4:gs s' 4=.d (.one (.lit (.int .i64 s.names.length))):=hB.1 (4,_) (by simp [Zk8]))
 all_goals (have k1:gm m' 1=some (.var none [.sl (s.names.map ZbY),.sl (s.subs.map Zb6)]):=hB.2 (1,_) (by simp [ZnR,Zbq]))
 ·intro hP;clear g1 g4 k1;obtain ⟨f,h⟩:=hP 8 (by decide);refine ⟨_,_,h.app hB,?_⟩;generalize hp:f.1 23=p;generalize hq:f.1 25=q;obtain ⟨a3,c3⟩:=p;obtain ⟨a5,c5⟩:=q;simp only [ordS,ordM,Zk8,ZnR,Taf,Tah,Zbq,hp,hq];clear hp hq h hB hP s' m' f;refine ⟨_,Wk.refl _,?_⟩;have hU:=Zi9 hSI;have lU:=ZbR (l:=up s);rw [hU.1] at lU;have h8:=hs.n8;have rU:=ZbT (l:=up s);refine fN 5 @e0P ?_;have hn1:=hs.n1;have l00:0 < (nR (List.replicate s.names.length 0)).length:=by rw [ZbR,List.length_replicate];omega
  refine pA 23 25 (fun hne=>?_) l00 l00;have hn5:∀ p,(a5=a3∧p)=False:=fun p=>eq_false fun e=>hne e.1.symm;refine fG @lU ?_;have F:=@ZA4;refine gL (ι:=Nat) [6,7,9,30,31,36,37,38,39] [23,25] (fun i=>[(30,A.d (.one (.lit (.int .i64 i))))]) (fun i=>[(23,.buf (some (a3,c3)) 3 1 (nR (downs (up s) i (List.replicate s.names.length 0)))),(25,.buf (some (a5,c5)) 3 1 (nR (Zd4 s.names.length i)))]) (fun i=>i<=s.names.length) (fun i=>s.names.length - i) (0) (Taj _) (fun i hi=>?_);clear F
  have hDi:=UpOk.downs hU i (l:=List.replicate s.names.length 0) hi (UpOk.zeros _);have lK:=ZbR (l:=Zd4 s.names.length i);rw [ZmG hi] at lK;by_cases hlt:i < s.names.length
  ·have q1:(i:Int) < (s.names.length:Int):=om;have hw:=Zaw (k:=i) om;obtain ⟨gi,bi⟩:=hU.get hlt;have r1:=Zck gi;have p256:2 ^ s.names.length<=256:=Tbe (Nat.pow_le_pow_right om h8) (by decide);have cL:=ZsL (a:=(up s).getD i 0) om;have hdn:downs (up s) (i+1) (List.replicate s.names.length 0)=downIn i (downs (up s) i (List.replicate s.names.length 0)) (ZeD ((up s).getD i 0)):=rfl;have hks:=ZmF bi;have lks:=ZbR (l:=ZeD ((up s).getD i 0))
   have rks:=ZbT (l:=ZeD ((up s).getD i 0));have hks16:(ZeD ((up s).getD i 0)).length<=64:=Tbe (ZkY _ _) (by decide);have hsh:=Zja (k:=i) om;refine fB (aj4 @q1 @lU @r1 @rU) ?_;refine fC @e0P (cL) ?_;refine fR @lks ?_;generalize ZeD ((up s).getD i 0)=ks at hdn hks lks rks hks16 ⊢;generalize downs (up s) i (List.replicate s.names.length 0)=l at hdn hDi ⊢;refine fG @lks ?_;have F:=@ZAG;refine gL (ι:=Nat) [9,38,39] [23] (fun j=>[(38,A.d (.one (.lit (.int .i64 j))))]) (fun j=>[(23,.buf (some (a3,c3)) 3 1 (nR (downIn i l (ks.take j))))]) (fun j=>j<=ks.length) (fun j=>ks.length - j) (0) (Taj _) (fun j hj=>?_);clear F
   by_cases hlj:j < ks.length
   ·have q2:(j:Int) < (ks.length:Int):=om;have hwj:=Zaw (k:=j) om;obtain ⟨k,hk⟩:∃ k,ks[j]?=some k:=⟨_,Taa hlj⟩;have hkn:=hks k (Tac hk);have r2:=Zck hk;have hst:=Zwv hk i l;have hV:=UpOk.downIn hlt hDi (ks:=ks.take j) fun q hq=>hks q (List.mem_of_mem_take hq);generalize downIn i l (ks.take j)=v at hst hV ⊢;obtain ⟨gk,bk⟩:=hV.get hkn;have r3:=Zck gk;have l3:=ZbR (l:=v);rw [hV.1] at l3;have l4:=ZbT (l:=v)
    have l5:=Zfa (l:=v) k (v.getD k 0 ||| 2 ^ i);have p2:2 ^ i < 4611686018427387904:=Zgs om;have hor:=Zl0 (a:=v.getD k 0) (b:=2 ^ i) om p2;have F:=aj14 @q2 @r2 @rks @lks @r3 @l3 @l4 @l5 @hsh @hor @hkn @ZaZ @hwj @hst;refine gG ?_;exact ⟨j+1,hlj,gw,gw,om⟩
   obtain rfl:j=ks.length:=by omega
   have q2:¬ ((ks.length:Int) < (ks.length:Int)):=om;rw [Tap,<- hdn];have l6:=ZbT (l:=Zd4 s.names.length i);have l7:=Zfa (l:=Zd4 s.names.length i) i i;rw [Zwh hlt] at l7;obtain ⟨y,gy⟩:∃ y,(Zd4 s.names.length i)[i]?=some y:=⟨_,Taa (by rw [ZmG hi];exact hlt)⟩;have r5:=Zck gy;have F:=aj9 @q2 @hn5 @lK @l6 @l7 @r5 @hlt @hw @ZaZ;refine gG ?_;exact ⟨i+1,hlt,gw,gw,om⟩
  obtain rfl:i=s.names.length:=by omega
  have q1:¬ ((s.names.length:Int) < (s.names.length:Int)):=om;rw [Zwi,show downs (up s) s.names.length (List.replicate s.names.length 0)=down s from rfl];clear hDi lK;have hK:=KOk.start s.names.length;refine fG @q1 ?_;have F:=@Zsb;refine gL (ι:=Nat) [11,12,62,63,65,66,67,68] [25] (fun j=>[(62,A.d (.one (.lit (.int .i64 j))))]) (fun j=>[(25,.buf (some (a5,c5)) 3 1 (nR (ZdM s.subs j (List.range s.names.length))))]) (fun j=>j<=s.names.length) (fun j=>s.names.length - j) (0) (Taj _) (fun j hj=>?_);clear F
  have hKj:=KOk.iter hSI j hK;have l0:=ZbR (l:=ZdM s.subs j (List.range s.names.length));rw [hKj.1] at l0;by_cases hlj:j < s.names.length;rotate_left
  ·obtain rfl:j=s.names.length:=by omega
   have q2:¬ ((s.names.length:Int) < (s.names.length:Int)):=om;rw [show ZdM s.subs s.names.length (List.range s.names.length)=Zci s from rfl];refine fN 25 @q2 ?_;have lD:=ZbR (l:=down s);rw [(Zz3 hSI).1] at lD;have lK:=ZbR (l:=Zci s);rw [(ZhC hSI).1] at lK;refine pD 23 [] [5] ?_ (hr:=by simp only [pz,↓reduceIte,Nat.reduceEqDiff,Nat.reduceAdd,Nat.reduceSub,Nat.reduceMul,Nat.reduceLeDiff,Nat.reduceBEq,Tam,decide_true,decide_false,Int.reduceLE,Int.reduceToNat,Int.reduceLT,Int.reduceEq,eq_self,Nat.reduceShiftRight,Nat.reduceAnd,Nat.reduceBneDiff,lD,hn5,if_false];exact rfl)
   refine pD 25 [] [5] ?_ (hr:=by simp only [pz,↓reduceIte,Nat.reduceEqDiff,Nat.reduceAdd,Nat.reduceSub,Nat.reduceMul,Nat.reduceLeDiff,Nat.reduceBEq,Tam,decide_true,decide_false,Int.reduceLE,Int.reduceToNat,Int.reduceLT,Int.reduceEq,eq_self,Nat.reduceShiftRight,Nat.reduceAnd,Nat.reduceBneDiff,lK,hn5,if_false];exact rfl);exact fD @ZhF
  have q2:(j:Int) < (s.names.length:Int):=om;have hwj:=Zaw (k:=j) om;have hnx:ZdM s.subs (j+1) (List.range s.names.length)=s.subs.foldl kSub (ZdM s.subs j (List.range s.names.length)):=rfl;generalize ZdM s.subs j (List.range s.names.length)=u at hKj hnx l0 ⊢;refine fG (ai @l0 @q2) ?_;have hm16:=hs.m16;have F:=@Zwn;refine gL (ι:=Nat) [11,12,67,68] [25] (fun i=>[(67,A.d (.one (.lit (.int .i64 i))))]) (fun i=>[(25,.buf (some (a5,c5)) 3 1 (nR ((s.subs.take i).foldl kSub u)))]) (fun i=>i<=s.subs.length) (fun i=>s.subs.length - i) (0) (Taj _) (fun i hi=>?_);clear F
  by_cases hli:i < s.subs.length;rotate_left
  ·obtain rfl:i=s.subs.length:=by omega
   have q3:¬ ((s.subs.length:Int) < (s.subs.length:Int)):=om;rw [Tap,<- hnx];have F:=ai @q3 @hwj;refine gG ?_;exact ⟨j+1,hlj,gw,gw,om⟩
  have q3:(i:Int) < (s.subs.length:Int):=om;have hwi:=Zaw (k:=i) om;obtain ⟨p,hp⟩:∃ p,s.subs[i]?=some p:=⟨_,Taa hli⟩;have hps:=hSI p (Tac hp);have hst:=ZmL hp u;have hUi:=KOk.foldl hKj (hSI.take i);generalize (s.subs.take i).foldl kSub u=v at hUi hst ⊢;obtain ⟨g1,b1⟩:=hUi.get (i:=p.1.toNat) om;obtain ⟨g2,b2⟩:=hUi.get (i:=p.2.toNat) om;have l1:=Zck g1;have l2:=Zck g2;have l3:=ZbR (l:=v);rw [hUi.1] at l3
  have l4:=ZbT (l:=v);have hmin:(if (v.getD p.2.toNat 0:Int) < (v.getD p.1.toNat 0:Int) then (v.getD p.2.toNat 0:Int) else (v.getD p.1.toNat 0:Int))=((min (v.getD p.1.toNat 0) (v.getD p.2.toNat 0):Nat):Int):=by
   split <;> omega
  generalize hmn:min (v.getD p.1.toNat 0) (v.getD p.2.toNat 0)=mn at hmin hst;have l5:=Zfa (l:=v) p.1.toNat mn;have l6:=Zfa (l:=v.set p.1.toNat mn) p.2.toNat mn;have l7:=ZbR (l:=v.set p.1.toNat mn);rw [Taz,hUi.1] at l7;have l8:=ZbT (l:=v.set p.1.toNat mn);obtain ⟨x9,g9⟩:∃ x,(v.set p.1.toNat mn)[p.2.toNat]?=some x:=⟨_,Taa (by rw [Taz,hUi.1];omega)⟩;have l9:=Zck g9;have i1:0<=p.1:=hps.1;have i2:0<=p.2:=hps.2.2.1
  have i3:p.1.toNat < s.names.length:=om;have i4:p.2.toNat < s.names.length:=om;have hst:(s.subs.take (i+1)).foldl kSub u=(v.set p.1.toNat mn).set p.2.toNat mn:=by rw [hst];unfold kSub;rw [hmn]
  have F:=aj16 @q3 @hp @Zcp @hn5 @l1 @l2 @l3 @l4 @l5 @l6 @l7 @l8 @l9 @i1 @i2 (aj5 @i3 @i4 @hmin @hwi @hst);refine gG ?_;exact ⟨i+1,hli,gw,gw,om⟩
 ·intro _;refine (have F:=ai g1 k1;gO3 ?_);exact ⟨hB.slot rfl,⟨(fun _=>(none,0),.sl [],.sl [],.sl []),by simp [ordS,gs,Zbq],by simp [ordM]⟩,PG.slot (by intro j h1 h2 x;rcases j with _ | _ | _ | _ | _ | _ | _ | _ | _ | j <;> first | rfl | exact absurd rfl h1 | exact absurd (by decide) h2)⟩
 ·intro hP;obtain ⟨f,h0,_⟩:=hP 0 (by decide);have g20:gs s' 20=.d (.agg (Zbq s)):=h0 (_,_) (by simp [ordS]);refine (have F:=g20;gC cA ?_);refine ZbP ?_;exact ⟨hB.slot rfl,⟨(fun _=>(none,0),.sl [],.sl [],.sl []),by simp [ordS,gs],by simp [ordM]⟩,PG.slot (by intro j h1 h2 x;rcases j with _ | _ | _ | _ | _ | _ | _ | _ | _ | j <;> first | rfl | exact absurd rfl h1 | exact absurd (by decide) h2)⟩
 ·intro _;refine (have F:=g4;gO3 ?_);exact ⟨hB.slot rfl,⟨(fun _=>(none,0),.sl [],.sl [],.sl []),by simp [ordS,gs],by simp [ordM]⟩,PG.slot (by intro j h1 h2 x;rcases j with _ | _ | _ | _ | _ | _ | _ | _ | _ | j <;> first | rfl | exact absurd rfl h1 | exact absurd (by decide) h2)⟩
 ·intro hP;obtain ⟨f,h0,_⟩:=hP 2 (by decide);have g22:gs s' 22=.d (.one (.lit (.int .i64 s.names.length))):=h0 (_,_) (by simp [ordS]);refine (have F:=aj4 g22 hmx @Tbt @Zl1;gP 1 ?_);refine gS 23 fun a cap=>?_;refine ZbP ?_;exact ⟨hB.pin rfl,⟨(fun _=>(a,cap),.sl [],.sl [],.sl []),by simp [ordS,gs],by simp [ordM,gm,nR_0]⟩,PG.pin (by intro j h1 h2 x;rcases j with _ | _ | _ | _ | _ | _ | _ | _ | _ | j <;> first | rfl | exact absurd rfl h1 | exact absurd (by decide) h2)⟩
 ·intro _;refine (have F:=g4;gO3 ?_);exact ⟨hB.slot rfl,⟨(fun _=>(none,0),.sl [],.sl [],.sl []),by simp [ordS,gs],by simp [ordM]⟩,PG.slot (by intro j h1 h2 x;rcases j with _ | _ | _ | _ | _ | _ | _ | _ | _ | j <;> first | rfl | exact absurd rfl h1 | exact absurd (by decide) h2)⟩
 ·intro hP;obtain ⟨f,h0,_⟩:=hP 4 (by decide);have g24:gs s' 24=.d (.one (.lit (.int .i64 s.names.length))):=h0 (_,_) (by simp [ordS]);refine (have F:=aj4 g24 hmx @Tbt @Zl1;gP 1 ?_);refine gS 25 fun a cap=>?_;refine ZbP ?_;exact ⟨hB.pin rfl,⟨(fun _=>(a,cap),.sl [],.sl [],.sl []),by simp [ordS,gs],by simp [ordM,gm,nR_0]⟩,PG.pin (by intro j h1 h2 x;rcases j with _ | _ | _ | _ | _ | _ | _ | _ | _ | j <;> first | rfl | exact absurd rfl h1 | exact absurd (by decide) h2)⟩
 ·intro hP;obtain ⟨f1,h1,_⟩:=hP 1 (by decide);obtain ⟨f3,h3,h3'⟩:=hP 3 (by decide);obtain ⟨f5,h5,h5'⟩:=hP 5 (by decide);have g21:gs s' 21=.d (.one (.sl (nR (up s)))):=h1 (_,_) (by simp [ordS]);have g23:gs s' 23=.d (.one (.lit (.slice (f3.1 23).1 s.names.length (f3.1 23).2))):=h3 (_,_) (by simp [ordS]);have g25:gs s' 25=.d (.one (.lit (.slice (f5.1 25).1 s.names.length (f5.1 25).2))):=h5 (_,_) (by simp [ordS])
  have k23:=h3' (23,_) (by simp [ordM];rfl);have k25:=h5' (25,_) (by simp [ordM];rfl);refine (have F:=aj3 g21 g23 g25;gO3 ?_);exact ⟨hB.slot rfl,⟨(fun k=>if k=23 then f3.1 23 else f5.1 25,.sl [],.sl [],.sl []),by simp [ordS,gs],by simp [ordM];exact ⟨k23,k25⟩⟩,PG.slot (by intro j h1 h2 x;rcases j with _ | _ | _ | _ | _ | _ | _ | _ | _ | j <;> first | rfl | exact absurd rfl h1 | exact absurd (by decide) h2)⟩
 ·intro _;refine (have F:=g4;gO3 ?_);exact ⟨hB.born rfl,⟨(fun _=>(none,0),.sl [],.sl [],.sl []),by simp [ordS,gs],by simp [ordM,gm]⟩,PG.born (by intro j h1 h2 x;rcases j with _ | _ | _ | _ | _ | _ | _ | _ | _ | j <;> first | rfl | exact absurd rfl h1 | exact absurd (by decide) h2)⟩
 ·intro hP;obtain ⟨f6,h6,h6'⟩:=hP 6 (by decide);obtain ⟨f7,h7,h7'⟩:=hP 7 (by decide);have g26:gs s' 26=.d (.agg [.sl (nR (up s)),.lit (.slice (f6.1 23).1 s.names.length (f6.1 23).2),.lit (.slice (f6.1 25).1 s.names.length (f6.1 25).2)]):=h6 (_,_) (by simp [ordS]);have g5:gs s' 5=.ref 5 0:=h7 (_,_) (by simp [ordS]);have k5:gm m' 5=some (.var none [f7.2.1,f7.2.2.1,f7.2.2.2]):=h7' (_,_) (by simp [ordM])
  have k23:=h6' (23,_) (by simp [ordM];rfl);have k25:=h6' (25,_) (by simp [ordM];rfl);refine (have F:=aj3 g26 g5 k5;gO3 ?_);refine ⟨hB.own rfl,⟨f6,by simp [ordS,g5],by simp [ordM,gm,Zat];exact ⟨k23,k25⟩⟩,?_⟩;intro j q1 q2 ⟨x,q⟩;rcases j with _ | _ | _ | _ | _ | _ | _ | _ | _ | j
  all_goals first
   | exact ⟨x,q.own rfl⟩
   | exact absurd rfl q1
   | exact ⟨(fun _=>(none,0),.sl (nR (up s)),.lit (.slice (f6.1 23).1 s.names.length (f6.1 23).2),.lit (.slice (f6.1 25).1 s.names.length (f6.1 25).2)),by simp [ordS,g5],by simp [ordM,gm]⟩
end
section
variable {g:Sgn}
theorem Zqe {o:Opr} (h:g.ops[k]?=some o):Zdx (Zbw (g.ops.take k))++[(o.name,.bool true)]=Zdx (Zbw (g.ops.take (k+1))):=by
 rw [Ziz h,Zdx,Zdx,Tbr];rfl
theorem Zqf {l:List Opr} {i m:Nat} (h:i=k+m) {s:ByteArray} (hs:Zbl (Zbw (l.take k)) s=true):Zbl (Zbw (l.take i)) s=true:=by
 subst h;rw [List.take_add,Zbw,Tbr];unfold Zbl at hs ⊢;rw [List.any_append];rw [Zbw] at hs;rw [hs,Bool.true_or]
theorem Zx3 (l:List Opr):Zdx (Zbw (l.take 0))=[]∧Zdx (Zbw [])=[]:=⟨rfl,rfl⟩
theorem ZjF (hg:Zdv g):Con e0 60 [.agg (ZaJ g)] [.one (.lit (.bool (Zb8 g)))]:=by
 have hno:¬ SgnOk g->Zb8 g=false:=ZgY;rw [ZaJ];refine gI 9358620764179268287 Tryz.func60 ?_;by_cases hs:SortsOk g.sorts;rotate_left
 ·have cO:=Zj7 hg.1 hs;have hf:=hno fun h=>hs h.sorts;rw [Zbq] at cO;refine fB @e0P ?_;refine fC @e0P (cO) ?_;refine fR @e0P ?_;exact fT @hf
 have cO:=ZiB hg.1 hs;rw [Zbq] at cO;refine fB @e0P ?_;refine fC @e0P (cO) ?_;refine fR @ZhF ?_;by_cases h14:g.ops.length<=14;rotate_left
 ·have z1:=lT 14 g.ops.length;have hf:=hno fun h=>h14 h.len;exact fT (ai @z1 @hf)
 have z1:=lF 14 g.ops.length;refine fN 4 @z1 ?_;refine gB ?_;refine gMk fun b=>?_;refine fR @e0P ?_;refine fG @e0P ?_;have F:=((Zx3 g.ops));refine gL (ι:=Nat) [2,7,28,29,47] [24] (fun i=>[(28,A.d (.one (.lit (.int .i64 i))))]) (fun i=>[(24,mapB b (Zdx (Zbw (g.ops.take i))))]) (fun i=>i<=g.ops.length∧(∀ (j:Nat) (o:Opr),j < i->g.ops[j]?=some o->Zbr o.name=true∧Zbl (Zbw (g.ops.take j)) o.name=false)∧(∀ o∈g.ops.take i,DeclsOk g.sorts o)) (fun i=>g.ops.length - i) (0) (⟨Taj _,fun j o h=>absurd h om,fun o h=>by simp at h⟩) (fun i hi=>?_);clear F
 obtain ⟨hil,hnm,hdc⟩:=hi;by_cases hlt:i < g.ops.length
 ·have q1:(i:Int) < (g.ops.length:Int):=om;obtain ⟨o,ho⟩:∃ o,g.ops[i]?=some o:=⟨_,Taa hlt⟩;have hom:=Tac ho;have hw:=Zaw (k:=i) om;have hfs:=Zk2 (Zbw (g.ops.take i)) o.name;have hbad:¬ (Zbr o.name=true∧Zbl (Zbw (g.ops.take i)) o.name=false)->Zb8 g=false:=fun h=>hno fun hs=>h (hs.names i o ho);have hbad2:Zcq g.sorts o=false->Zb8 g=false:=fun h=>hno fun hs=>by rw [Ze9 (hs.decls o hom)] at h;cases h
  have cN:=Zgu (hg.2 o hom).1;have cD:=Znj hs o;rw [Zbc,Zec] at cD;refine fN 8 (aj3 @q1 @ho @Zao) ?_;refine gB ?_;have F:=@e0P;refine gP 3 ?_;clear F
  cases hh:Zbl (Zbw (g.ops.take i)) o.name with
  | true =>
   rw [hh] at hfs hbad;have hf:=hbad fun h=>by cases h.2
   refine (have F:=e0P;gLk 24 Zgh Zhd Zjb (v:=.bool true) (by rw [hfs];rfl) ?_);refine fR @e0P ?_;exact fT @hf
  | false =>
  rw [hh] at hfs hbad;refine (have F:=e0P;gLk 24 Zgh Zhd Zjb (v:=.bool false) (by rw [hfs];rfl) ?_);refine fC @e0P (cN) ?_
  cases hn:Zbr o.name with
  | false =>
   have hf:=hbad fun h=>by rw [hn] at h;cases h.1
   refine fR @e0P ?_;exact fT @hf
  | true =>
  refine fC @ZhF (cD) ?_
  cases hd:Zcq g.sorts o with
  | false =>
   have hf:=hbad2 hd;refine fR @e0P ?_;exact fT @hf
  | true =>
  have hq:i+1<=g.ops.length∧(∀ (j:Nat) (o:Opr),j < i+1->g.ops[j]?=some o->Zbr o.name=true∧Zbl (Zbw (g.ops.take j)) o.name=false)∧(∀ o∈g.ops.take (i+1),DeclsOk g.sorts o):=⟨hlt,fun j o' hj ho'=>by
   by_cases e:j=i
   ·subst e;rw [ho] at ho';injection ho' with ho'
    subst ho';exact ⟨hn,hh⟩
   ·exact hnm j o' om ho',fun o' ho'=>by
   rw [ZcE ho] at ho';rcases Tbh.1 ho' with h | h
   ·exact hdc o' h
   ·rw [Tbj.1 h];exact ZjC.1 hd⟩
  have hsn:=Zqe ho;refine fR @e0P ?_;refine fN 10 @e0P ?_;refine gB ?_;have F:=@e0P;refine gP 3 ?_;clear F;refine (have F:=e0P;gUp 24 Zgh Zhd (by rw [hfs];rfl) ?_);rw [hsn];refine fR @e0P ?_;have F:=@hw;refine gG ?_;exact ⟨i+1,hq,gw,gw,om⟩
 obtain rfl:i=g.ops.length:=by omega
 have q1:¬ ((g.ops.length:Int) < (g.ops.length:Int)):=om;rw [Tap] at hdc;have hnames:∀ (i:Nat) (o:Opr),g.ops[i]?=some o->Zbr o.name=true∧Zbl (Zbw (g.ops.take i)) o.name=false:=fun i o ho=>hnm i o (Tad.1 ho).1 ho;refine fG @q1 ?_;have F:=@e0P;refine gL (ι:=Nat) [2,9,55,56,63] [] (fun k=>[(55,A.d (.one (.lit (.int .i64 k))))]) (fun k=>[]) (fun k=>k<=g.ops.length∧∀ o∈g.ops.take k,AxOk g o) (fun k=>g.ops.length - k) (0) (⟨Taj _,fun o h=>by simp at h⟩) (fun k hk=>?_);clear F
 obtain ⟨hkl,hax⟩:=hk;by_cases hlk:k < g.ops.length;rotate_left
 ·obtain rfl:k=g.ops.length:=by omega
  rw [Tap] at hax;have q2:¬ ((g.ops.length:Int) < (g.ops.length:Int)):=om;have ht:=Zf5 ⟨hs,h14,hnames,hdc,hax⟩;exact fT (ai @q2 @ht)
 have q2:(k:Int) < (g.ops.length:Int):=om;obtain ⟨o,ho⟩:∃ o,g.ops[k]?=some o:=⟨_,Taa hlk⟩;have hom:=Tac ho;have hw:=Zaw (k:=k) om;have cA:=Zl3 hs hdc hom h14;rw [Zbc,Zec,ZaJ] at cA;refine fB (aj3 @q2 @ho @Zao) ?_;refine fC @ZhF (cA) ?_
 cases ha:axOk g o with
 | false =>
  have hf:=hno fun h=>by rw [ZdH (h.axs o hom)] at ha;cases ha
  refine fR @e0P ?_;exact fT @hf
 | true =>
 have hq:k+1<=g.ops.length∧∀ o∈g.ops.take (k+1),AxOk g o:=⟨hlk,fun o' ho'=>by
  rw [ZcE ho] at ho';rcases Tbh.1 ho' with h | h
  ·exact hax o' h
  ·rw [Tbj.1 h];exact ZoJ.1 ha⟩
 refine fR @e0P ?_;have F:=@hw;refine gG ?_;exact ⟨k+1,hq,gw,gw,om⟩
theorem ZgZ (hg:Zdv g):Con e0 50 [.agg (ZaJ g)] [.one (.lit (.bool (Zb8 g)))]:=by
 have hno:¬ SgnOk g->Zb8 g=false:=ZgY;have cS:=Zni hg.1;rw [Zbq] at cS;rw [ZaJ];refine gI 599807422667317870655 Tryz.func50 ?_;refine fB @e0P ?_;refine fC @e0P (cS) ?_
 cases hss:Zb1 g.sorts with
 | false =>
  have hf:=hno fun h=>by rw [Ze8 h.sorts] at hss;cases hss
  refine fR @e0P ?_;exact fT @hf
 | true =>
 have hs:=Zp8.1 hss;by_cases h14:g.ops.length<=14;rotate_left
 ·have z1:=lT 14 g.ops.length;have hf:=hno fun h=>h14 h.len;refine fR @z1 ?_;exact fT @hf
 have z1:=lF 14 g.ops.length;refine fR @z1 ?_;refine fG @e0P ?_;have F:=@e0P;refine gL (ι:=Nat) [2,3,4,20,40,43,58] [] (fun i=>[(3,A.d (.one (.lit (.int .i64 i))))]) (fun i=>[]) (fun i=>i<=g.ops.length∧(∀ (j:Nat) (o:Opr),j < i->g.ops[j]?=some o->Zbr o.name=true∧Zbl (Zbw (g.ops.take j)) o.name=false)∧(∀ o∈g.ops.take i,DeclsOk g.sorts o)) (fun i=>g.ops.length - i) (0) (⟨Taj _,fun j o h=>absurd h om,fun o h=>by simp at h⟩) (fun i hi=>?_);clear F
 obtain ⟨hil,hnm,hdc⟩:=hi;by_cases hlt:i < g.ops.length
 ·have q1:(i:Int) < (g.ops.length:Int):=om;obtain ⟨o,ho⟩:∃ o,g.ops[i]?=some o:=⟨_,Taa hlt⟩;have hom:=Tac ho;have hw:=Zaw (k:=i) om;have hbad:¬ (Zbr o.name=true∧Zbl (Zbw (g.ops.take i)) o.name=false)->Zb8 g=false:=fun h=>hno fun hs=>h (hs.names i o ho);have hbad2:Zcq g.sorts o=false->Zb8 g=false:=fun h=>hno fun hs=>by rw [Ze9 (hs.decls o hom)] at h;cases h
  have cN:=Zgv (hg.2 o hom).1;have cD:=Zqd (g:=g) hs o;rw [Zbc,ZaJ] at cD;refine fB @q1 ?_;refine fC (ai @ho @Zao) (cN) ?_
  cases hn:Zbr o.name with
  | false =>
   have hf:=hbad fun h=>by rw [hn] at h;cases h.1
   refine fR @e0P ?_;exact fT @hf
  | true =>
  refine fC (ai @ho @Zao) (cD) ?_
  cases hd:Zcq g.sorts o with
  | false =>
   have hf:=hbad2 hd;refine fR @e0P ?_;exact fT @hf
  | true =>
  refine fR @e0P ?_;refine fG @e0P ?_;have F:=@e0P;refine gL (ι:=Nat) [2,4,43,58] [] (fun k=>[(4,A.d (.one (.lit (.int .i64 k))))]) (fun k=>[]) (fun k=>k<=i∧Zbl (Zbw (g.ops.take k)) o.name=false) (fun k=>i - k) (0) (⟨Taj _,rfl⟩) (fun k hk=>?_);clear F;obtain ⟨hkl,hseen⟩:=hk;by_cases hlk:k < i
  ·have q2:(k:Int) < (i:Int):=om;obtain ⟨p,hp⟩:∃ o,g.ops[k]?=some o:=⟨_,Taa om⟩;have hw2:=Zaw (k:=k) om;have hsn:=Zqa (Zbw (g.ops.take k)) p.name o.name;rw [hseen,Bool.false_or,Zr8,<- Ziz hp] at hsn
   cases hb:(p.name.toList==o.name.toList) with
   | true =>
    rw [hb] at hsn;have hbp:(p.name.toList==o.name.toList)=true:=hb;have hf:=hbad fun h=>by
     obtain ⟨m,hm⟩:∃ m,i=k+1+m:=⟨i - (k+1),om⟩;have h2:=h.2;rw [Zqf hm hsn] at h2
     cases h2
    exact fT (aj6 @q2 @ho @hp @Zao @hb @hf)
   | false =>
    rw [hb] at hsn;have F:=aj6 @q2 @ho @hp @Zao @hb @hw2;refine gG ?_;exact ⟨k+1,⟨hlk,hsn⟩,gw,gw,om⟩
  obtain rfl:k=i:=by omega
  have q2:=lF k k;have hq:k+1<=g.ops.length∧(∀ (j:Nat) (o:Opr),j < k+1->g.ops[j]?=some o->Zbr o.name=true∧Zbl (Zbw (g.ops.take j)) o.name=false)∧(∀ o∈g.ops.take (k+1),DeclsOk g.sorts o):=⟨hlt,fun j o' hj ho'=>by
   by_cases e:j=k
   ·subst e;rw [ho] at ho';injection ho' with ho'
    subst ho';exact ⟨hn,hseen⟩
   ·exact hnm j o' om ho',fun o' ho'=>by
   rw [ZcE ho] at ho';rcases Tbh.1 ho' with h | h
   ·exact hdc o' h
   ·rw [Tbj.1 h];exact ZjC.1 hd⟩
  have F:=ai @q2 @hw;refine gG ?_;exact ⟨k+1,hq,gw,gw,om⟩
 obtain rfl:i=g.ops.length:=by omega
 have q1:¬ ((g.ops.length:Int) < (g.ops.length:Int)):=om;rw [Tap] at hdc;have hnames:∀ (i:Nat) (o:Opr),g.ops[i]?=some o->Zbr o.name=true∧Zbl (Zbw (g.ops.take i)) o.name=false:=fun i o ho=>hnm i o (Tad.1 ho).1 ho;refine fG @q1 ?_;have F:=@e0P;refine gL (ι:=Nat) [2,5,63,69] [] (fun k=>[(5,A.d (.one (.lit (.int .i64 k))))]) (fun k=>[]) (fun k=>k<=g.ops.length∧∀ o∈g.ops.take k,AxOk g o) (fun k=>g.ops.length - k) (0) (⟨Taj _,fun o h=>by simp at h⟩) (fun k hk=>?_);clear F
 obtain ⟨hkl,hax⟩:=hk;by_cases hlk:k < g.ops.length;rotate_left
 ·obtain rfl:k=g.ops.length:=by omega
  rw [Tap] at hax;have q2:¬ ((g.ops.length:Int) < (g.ops.length:Int)):=om;have ht:=Zf5 ⟨hs,h14,hnames,hdc,hax⟩;exact fT (ai @q2 @ht)
 have q2:(k:Int) < (g.ops.length:Int):=om;obtain ⟨o,ho⟩:∃ o,g.ops[k]?=some o:=⟨_,Taa hlk⟩;have hom:=Tac ho;have hw:=Zaw (k:=k) om;have cA:=ZoP hs hdc ho h14;rw [ZaJ] at cA;refine fB @q2 ?_;refine fC @e0P (cA) ?_
 cases ha:axOk g o with
 | false =>
  have hf:=hno fun h=>by rw [ZdH (h.axs o hom)] at ha;cases ha
  refine fR @e0P ?_;exact fT @hf
 | true =>
 have hq:k+1<=g.ops.length∧∀ o∈g.ops.take (k+1),AxOk g o:=⟨hlk,fun o' ho'=>by
  rw [ZcE ho] at ho';rcases Tbh.1 ho' with h | h
  ·exact hax o' h
  ·rw [Tbj.1 h];exact ZoJ.1 ha⟩
 refine fR @e0P ?_;have F:=@hw;refine gG ?_;exact ⟨k+1,hq,gw,gw,om⟩
end
theorem Zep (s:ByteArray):(s.toList==ByteArray.toList { data:=#[] })=decide (s=ByteArray.empty):=by
 rw [Bool.eq_iff_iff,beq_iff_eq,decide_eq_true_iff,ByteArray.toList_eq,ByteArray.toList_eq];constructor
 ·intro h
  cases s with
  | mk d =>
   have:d=#[]:=by apply Array.toList_inj.1;exact h
   rw [this];rfl
 ·rintro rfl;rfl
def encX (g:Sgn) (mc:C):List C:=[.sl ((Zb7 (up g.sorts)).map Zcb),.sl ((Zb7 (down g.sorts)).map Zcb),.sl ((Zb7 (Zci g.sorts)).map Zcb),.sl (g.sorts.names.map ZbY),.sl (g.sorts.subs.map Zb6),.sl (g.ops.map Zbc),mc]
theorem Zcu:∀ (g:Sgn) (mc:C),encX g mc=[.sl ((Zb7 (up g.sorts)).map Zcb),.sl ((Zb7 (down g.sorts)).map Zcb),.sl ((Zb7 (Zci g.sorts)).map Zcb),.sl (g.sorts.names.map ZbY),.sl (g.sorts.subs.map Zb6),.sl (g.ops.map Zbc),mc]:=fun _ _=>rfl
theorem ZAH {s:Srt} (h:SortsOk s):(up s).length=s.names.length:=(Zi9 (SortsOk.subsIn h.subs)).1
theorem Zgy {s:Srt} (h:SortsOk s) {k:Int} (h0:0<=k) (h1:k < s.names.length):(Zb7 (Zci s))[k.toNat]?=some ((kd s k:Nat):Int):=by
 have hk:=ZhC (SortsOk.subsIn h.subs);have hl:k.toNat < (Zci s).length:=by rw [hk.1];omega
 unfold Zb7 kd;rw [Tba,Taa hl];simp [List.getD,Taa hl]
def ZnS (g:Sgn) (t:Tm):Prop:=t.op=-1∧Zbr t.name=true∧0<=t.sort∧t.sort < g.sorts.names.length∧t.args=[]
open Classical in
noncomputable def ZhG (g:Sgn) (t:Tm):Bool:=decide (ZnS g t)
structure AppOk (g:Sgn) (t:Tm) (o:Opr) (d:Dcl):Prop where
 lo:0<=t.op
 at':g.ops[t.op.toNat]?=some o
 fst:o.decls[0]?=some d
 nm:t.name=ByteArray.empty
 so:t.sort=0
 asc:o.assoc=true->2<=t.args.length∧t.args.length<=7
 nas:o.assoc=false->t.args.length=d.args.length
def Zdl (g:Sgn) (t:Tm):Prop:=ZnS g t∨∃ o d,AppOk g t o d
def ZsQ (g:Sgn) (op:Int):Int:=((g.ops[op.toNat]?.bind (·.decls[0]?)).map (·.res)).getD 0
def Za4 (g:Sgn) (t:Tm):Int:=if t.op=-1 then kd g.sorts t.sort else kd g.sorts (ZsQ g t.op)
def argAt (o:Opr) (i:Nat):Nat:=if o.assoc=true then 0 else i
theorem Zjd:∀ (o:Opr) (i:Nat),argAt o i=if o.assoc=true then 0 else i:=fun _ _=>rfl
structure ArgOk (g:Sgn) (op:Int) (o:Opr) (d:Dcl) (args:List Tm) (i:Nat) (a:Tm):Prop where
 kind:∀ k,d.args[argAt o i]?=some k->Za4 g a=kd g.sorts k
 nest:o.assoc=true->a.op≠op
 unit:o.unit≠0->a.op≠o.unit - 1
 ord:o.comm=true->∀ (j:Nat) p,i=j+1->args[j]?=some p->Zam p a<=0
def Zje (g:Sgn) (op:Int) (args:List Tm):Prop:=∀ o d,g.ops[op.toNat]?=some o->o.decls[0]?=some d->∀ (i:Nat) a,args[i]?=some a->ArgOk g op o d args i a
mutual
def Zbs (g:Sgn):Tm->Prop
 | .mk op nm so args=>Zdl g (.mk op nm so args)∧Zeq g args∧(op=-1∨Zje g op args)
def Zeq (g:Sgn):List Tm->Prop
 | []=>True
 | t::ts=>Zbs g t∧Zeq g ts
end
theorem ZjG {g:Sgn}:Zeq g ts ↔ ∀ a∈ts,Zbs g a:=by
 induction ts with
 | nil=>simp [Zeq]
 | cons t ts ih=>simp [Zeq,ih]
theorem ZbJ {g:Sgn} {t:Tm}:Zbs g t ↔ Zdl g t∧(∀ a∈t.args,Zbs g a)∧(t.op=-1∨Zje g t.op t.args):=by
 cases t
 simp only [Zbs,ZjG,Tm.args,Tm.op]
theorem Zbs.node {g:Sgn} {t:Tm} (h:Zbs g t):Zdl g t:=(ZbJ.1 h).1
open Classical in
noncomputable def ZbN (g:Sgn) (t:Tm):Bool:=decide (Zbs g t)
theorem ZfD {g:Sgn} {t:Tm} (h:Zbs g t):ZbN g t=true:=by simp [ZbN,h]
theorem ZiC {g:Sgn} {t:Tm} (h:¬ Zbs g t):ZbN g t=false:=by simp [ZbN,h]
theorem Zf6 {g:Sgn} {t:Tm}:ZbN g t=true ↔ Zbs g t:=by simp [ZbN]
theorem SgnOk.first {g:Sgn} (h:SgnOk g) {i:Nat} {o:Opr} (ho:g.ops[i]?=some o):∃ d,o.decls[0]?=some d∧(0:Int)<=d.res∧d.res < (g.sorts.names.length:Int)∧∀ k:Int,k∈d.args->0<=k∧k < (g.sorts.names.length:Int):=by
 have hm:=Tac ho;obtain ⟨d,hd,hD⟩:=(h.decls o hm).first;exact ⟨d,hd,hD.res.1,hD.res.2,hD.args⟩
theorem ZhH {g:Sgn} {op:Int} {o:Opr} {d:Dcl} (ho:g.ops[op.toNat]?=some o) (hd:o.decls[0]?=some d):ZsQ g op=d.res:=by simp [ZsQ,ho,hd]
theorem AppOk.op {g:Sgn} {t:Tm} {o:Opr} {d:Dcl} (h:AppOk g t o d):t.op≠-1:=by have:=h.lo;omega
section
variable {g:Sgn} {mc:C}
theorem Zz8 (hg:SgnOk g) (k:Int):Con e0 140 [.agg [.sl ((Zb7 (up g.sorts)).map Zcb),.sl ((Zb7 (down g.sorts)).map Zcb),.sl ((Zb7 (Zci g.sorts)).map Zcb)],.one (.lit (.int .i64 k))] [.one (.lit (.bool (decide (0<=k∧k < g.sorts.names.length))))]:=by
 have hl:=ZAH hg.sorts;refine gI 23 Tryz.func140 ?_;by_cases h0:0<=k
 ·have e:decide (0<=k∧k < (g.sorts.names.length:Int))=decide (k < (g.sorts.names.length:Int)):=by simp [h0]
  rw [e];exact fT (aj3 @h0 @ZmE @hl)
 ·have e:decide (0<=k∧k < (g.sorts.names.length:Int))=false:=by simp [h0]
  rw [e];exact fT @h0
theorem ZhI (hg:SgnOk g) {t:Tm} (ht:Zdl g t):Con e0 111 [.one (.ptr (encX g mc)),.agg (Zad t)] [.one (.lit (.int .i64 (Za4 g t)))]:=by
 refine gI 155 Tryz.func111 ?_;rcases ht with ⟨h1,h2,h3,h4,h5⟩ | ⟨o,d,h⟩
 ·have hn:(-1:Int) < 0:=om;have hk:=Zgy hg.sorts h3 h4;have e:Za4 g t=kd g.sorts t.sort:=by simp [Za4,h1]
  exact fT (aj8 @tmz @h1 @hn @Zcu @h3 @hk @Zbg @e)
 ·have hn:¬ (t.op < 0):=by have:=h.lo;omega
  obtain ⟨d',hd',hr0,hr1,_⟩:=hg.first h.at';rw [h.fst] at hd';injection hd' with hd'
  subst hd';have hk:=Zgy hg.sorts hr0 hr1;have e:Za4 g t=kd g.sorts d.res:=by simp [Za4,h.op,ZhH h.at' h.fst]
  have hlo:=h.lo;have hat:=h.at';have hfst:=h.fst;exact fT (aj12 @tmz @hn @Zcu @hlo @hat @Zao @hfst @Za0 @hr0 @hk @Zbg @e)
theorem ZjH (hg:SgnOk g) {op:Int} {i:Nat} {o:Opr} {d:Dcl} {k:Int} (h0:0<=op) (ho:g.ops[op.toNat]?=some o) (hd:o.decls[0]?=some d) (hk:d.args[argAt o i]?=some k):Con e0 115 [.one (.ptr (encX g mc)),.one (.lit (.int .i64 op)),.one (.lit (.int .i64 i))] [.one (.lit (.int .i64 (kd g.sorts k)))]:=by
 obtain ⟨d',hd',_,_,hk0⟩:=hg.first ho;rw [hd] at hd';injection hd' with hd'
 subst hd';obtain ⟨k0,k1⟩:=hk0 k (Tac hk);have hkd:=Zgy hg.sorts k0 k1;refine gI 131271 Tryz.func115 ?_;unfold argAt at hk
 cases ha:o.assoc with
 | true =>
  rw [ha] at hk;simp only [↓reduceIte] at hk;exact fT (aj11 @Zcu @h0 @ho @Zao @ha @hd @Za0 @hk @k0 @hkd @Zbg)
 | false =>
  rw [ha] at hk;simp only [Tam,↓reduceIte] at hk;exact fT (aj11 @Zcu @h0 @ho @Zao @ha @hd @Za0 @hk @k0 @hkd @Zbg)
theorem Zk9 (hg:SgnOk g) {op:Int} {o:Opr} (h0:0<=op) (ho:g.ops[op.toNat]?=some o) (t:Tm):Con e0 116 [.one (.ptr (encX g mc)),.one (.lit (.int .i64 op)),.agg (Zad t)] [.one (.lit (.bool (decide (o.unit≠0∧t.op=o.unit - 1))))]:=by
 have hax:=hg.axs o (Tac ho);have hlo:=hax.lo;have hhi:=hax.hi;have hln:=hg.len;have hw:IntKind.i64.wrap (o.unit - 1)=o.unit - 1:=Za6 rfl om om;refine gI 103 Tryz.func116 ?_;by_cases hu:o.unit=0
 ·have e:decide (o.unit≠0∧t.op=o.unit - 1)=false:=by simp [hu]
  rw [e];exact fT (aj6 @Zcu @tmz @h0 @ho @Zao @hu)
 ·have e:decide (o.unit≠0∧t.op=o.unit - 1)=decide (t.op=o.unit - 1):=by simp [hu]
  rw [e];exact fT (aj7 @Zcu @tmz @h0 @ho @Zao @hu @hw)
theorem Zl5 (hg:SgnOk g) {t:Tm} (hs:t.name.size<=maxLen):Con e0 114 [.one (.ptr (encX g mc)),.agg (Zad t)] [.one (.lit (.bool (ZhG g t)))]:=by
 have hno:¬ ZnS g t->ZhG g t=false:=fun h=>by simp [ZhG,h]
 refine gI 27 Tryz.func114 ?_;refine fG @tmz ?_;by_cases h1:t.op=-1;rotate_left
 ·have hf:=hno fun h=>h1 h.1;exact fT (aj3 @tmz @h1 @hf)
 refine gB ?_;refine fC (ai @tmz @h1) (Zgu hs) ?_;by_cases h2:Zbr t.name=true;rotate_left
 ·have hf:=hno fun h=>h2 h.2.1;have h2':Zbr t.name=false:=by simpa using h2
  refine fR (ai @tmz @h2') ?_;exact fT (ai @tmz @hf)
 refine fC (aj3 @tmz @h2 @Zcu) (Zz8 hg t.sort) ?_;by_cases h3:0<=t.sort∧t.sort < g.sorts.names.length;rotate_left
 ·have hf:=hno fun h=>h3 ⟨h.2.2.1,h.2.2.2.1⟩;have h3':decide (0<=t.sort∧t.sort < (g.sorts.names.length:Int))=false:=by simp only [decide_eq_false_iff_not];exact h3
  refine fR (ai @tmz @h3') ?_;exact fT (ai @tmz @hf)
 have h3':decide (0<=t.sort∧t.sort < (g.sorts.names.length:Int))=true:=by simp only [decide_eq_true_eq];exact h3
 by_cases h4:t.args=[]
 ·have hT:ZhG g t=true:=by simp only [ZhG,decide_eq_true_eq];exact ⟨h1,h2,h3.1,h3.2,h4⟩
  refine fR (aj3 @tmz @h3' @h4) ?_;exact fT (ai @tmz @hT)
 ·have hf:=hno fun h=>h4 h.2.2.2.2;have h4':¬ ((t.args.length:Int)=0):=by
   intro h;apply h4;apply Tao;omega
  refine fR (aj3 @tmz @h3' @h4') ?_;exact fT (ai @tmz @hf)
end
theorem Zfp {t:Tm}:okTm t ↔ I64 t.op∧t.name.size<=maxLen∧I64 t.sort∧ZaG t.args:=by cases t;simp only [okTm,Tm.op,Tm.name,Tm.sort,Tm.args]
theorem ZcI (t:Tm):sizeTm t=1+sizeTms t.args:=by cases t;simp only [sizeTm,Tm.args]
theorem ZhJ (t:Tm):depthTm t=1+depthTms t.args:=by cases t;simp only [depthTm,Tm.args]
theorem ZsR {g:Sgn} {t:Tm} (h:t.op=-1):ZbN g t=ZhG g t:=by
 unfold ZbN ZhG;congr 1;rw [ZbJ];apply propext;constructor
 ·rintro ⟨h1 | ⟨o,d,h1⟩,_⟩
  ·exact h1
  ·have:=h1.lo;omega
 ·intro h1;exact ⟨.inl h1,fun a ha=>(by rw [h1.2.2.2.2] at ha;cases ha),.inl h⟩
theorem Zdl.app {g:Sgn} {t:Tm} (h:Zdl g t) (hop:t.op≠-1):∃ o d,AppOk g t o d:=by
 rcases h with h | h
 ·exact absurd h.1 hop
 ·exact h
theorem ZgN {g:Sgn} (hg:SgnOk g) {i:Nat} {o:Opr} {d:Dcl} {j:Nat} (ho:g.ops[i]?=some o) (hd:o.decls[0]?=some d) (nas:o.assoc=false->n=d.args.length) (hj:j < n):∃ k,d.args[argAt o j]?=some k:=by
 unfold argAt
 cases ha:o.assoc with
 | true =>
  have h2:=((hg.axs o (Tac ho)).two (.inl ha) d hd).1;exact ⟨_,Taa (by simp only [↓reduceIte];omega)⟩
 | false=>exact ⟨_,Taa (by simp only [Tam,↓reduceIte];have:=nas ha;omega)⟩
section
variable {g:Sgn} {mc:C}
theorem Zj8 (hg:SgnOk g):∀ (n:Nat) (t:Tm),sizeTm t < n->okTm t->sizeTm t<=big->Con e0 66 [.one (.ptr (encX g mc)),.agg (Zad t)] [.one (.lit (.bool (ZbN g t)))]:=by
 intro n
 induction n with
 | zero=>intro t h;omega
 | succ n ih =>
  intro t hn hok hb;have hno:¬ Zbs g t->ZbN g t=false:=ZiC;obtain ⟨k1,k2,k3,k4⟩:=Zfp.1 hok;have hsz:=ZcI t;have hal:=Zb0 t.args;unfold big at hb;refine gI 43556142965880125627826793391928073259515 Tryz.func66 ?_;by_cases h1:t.op=-1
  ·have e:=ZsR (g:=g) h1;rw [e];refine fB (ai @tmz @h1) ?_;refine fC (ai @tmz @h1) (Zl5 hg k2) ?_;refine fR @tmz ?_;exact fT @tmz
  by_cases h2:t.op < 0
  ·have hf:=hno fun h=>by
    obtain ⟨o,d,h⟩:=h.node.app h1;have:=h.lo;omega
   exact fT (aj4 @tmz @h1 @h2 @hf)
  by_cases h3:(g.ops.length:Int)<=t.op
  ·have hf:=hno fun h=>by
    obtain ⟨o,d,h⟩:=h.node.app h1;have:=(Tad.1 h.at').1;omega
   exact fT (aj6 @tmz @h1 @h2 @h3 @Zcu @hf)
  by_cases h4:t.name=ByteArray.empty;rotate_left
  ·have hf:=hno fun h=>by
    obtain ⟨o,d,h⟩:=h.node.app h1;exact h4 h.nm
   exact fT (aj8 @tmz @h1 @h2 @h3 @Zcu @Zep @h4 @hf)
  by_cases h5:t.sort=0;rotate_left
  ·have hf:=hno fun h=>by
    obtain ⟨o,d,h⟩:=h.node.app h1;exact h5 h.so
   exact fT (aj9 @tmz @h1 @h2 @h3 @Zcu @Zep @h4 @h5 @hf)
  have h0:0<=t.op:=om;obtain ⟨o,ho⟩:∃ o,g.ops[t.op.toNat]?=some o:=⟨_,Taa om⟩;obtain ⟨d,hd,hr0,hr1,hargs⟩:=hg.first ho;have hgt:Zbs g t->AppOk g t o d:=fun h=>by
   obtain ⟨o',d',h⟩:=h.node.app h1;have e1:=h.at';rw [ho] at e1;injection e1 with e1
   subst e1;have e2:=h.fst;rw [hd] at e2;injection e2 with e2
   subst e2;exact h
  by_cases hW:(o.assoc=true->2<=t.args.length∧t.args.length<=7)∧(o.assoc=false->t.args.length=d.args.length);rotate_left
  ·have hf:=hno fun h=>hW ⟨(hgt h).asc,(hgt h).nas⟩
   cases ha:o.assoc with
   | true =>
    by_cases c1:t.args.length < 2
    ·have c1':(t.args.length:Int) < 2:=om;exact fT (aj14 @tmz @h1 @h2 @h3 @Zcu @Zep @h4 @h5 @h0 @ho @Zao @ha @c1' @hf)
    ·have c1':¬ ((t.args.length:Int) < 2):=om;have c2:(7:Int) < (t.args.length:Int):=by
      by_cases c2:t.args.length<=7
      ·exact absurd ⟨fun _=>⟨om,c2⟩,fun h=>by rw [ha] at h;cases h⟩ hW
      ·omega
     exact fT (aj15 @tmz @h1 @h2 @h3 @Zcu @Zep @h4 @h5 @h0 @ho @Zao @ha @c1' @c2 @hf)
   | false =>
    have c3:¬ ((t.args.length:Int)=(d.args.length:Int)):=fun c=>hW ⟨fun h=>(by rw [ha] at h;cases h),fun _=>om⟩;exact fT (aj16 @tmz @h1 @h2 @h3 @Zcu @Zep @h4 @h5 @h0 @ho @Zao @ha @hd @Za0 @c3 @hf)
  have hA:AppOk g t o d:=⟨h0,ho,hd,h4,h5,hW.1,hW.2⟩;refine fG (aj11 @tmz @h1 @h2 @h3 @Zcu @Zep @h4 @h5 @h0 @ho @Zao) ?_;refine gM (ι:=Unit) [75] [] (fun u=>[(75,A.d (.one (.lit (.bool false))))]) (fun u=>[]) (fun u=>True) ?_ (fun u hu=>Exists.intro _ (ai (Wk.refl _) ?_))
  ·cases ha:o.assoc with
   | true =>
    have c:=hW.1 ha;have c1':¬ ((t.args.length:Int) < 2):=om;have c2:¬ ((7:Int) < (t.args.length:Int)):=om;have F:=aj5 @tmz @Zao @ha @c1' @c2;refine gG ?_;exact ⟨(),trivial,gw,gw⟩
   | false =>
    have c3:((t.args.length:Int)=(d.args.length:Int)):=by have:=hW.2 ha;omega
    have F:=aj6 @tmz @Zao @ha @hd @Za0 @c3;refine gG ?_;exact ⟨(),trivial,gw,gw⟩
  refine fG @tmz ?_;have F:=@e0P;refine gL (ι:=Nat) [4,7,8,79,80,135] [] (fun i=>[(79,A.d (.one (.lit (.int .i64 i))))]) (fun i=>[]) (fun i=>i<=t.args.length∧∀ (j:Nat) a,j < i->t.args[j]?=some a->Zbs g a∧ArgOk g t.op o d t.args j a) (fun i=>t.args.length - i) (0) (⟨om,fun j a h=>absurd h om⟩) (fun i hi=>?_);clear F;obtain ⟨hil,hall⟩:=hi;by_cases hl:i < t.args.length;rotate_left
  ·have hl':¬ ((i:Int) < (t.args.length:Int)):=om;have hT:=ZfD (ZbJ.2 ⟨.inr ⟨o,d,hA⟩,fun a ha=>by
     obtain ⟨j,hj⟩:=Tbk ha;exact (hall j a (by have:=(Tad.1 hj).1;omega) hj).1,.inr fun o' d' ho' hd' j a hj=>by
     rw [ho] at ho';injection ho' with ho'
     subst ho';rw [hd] at hd';injection hd' with hd'
     subst hd';exact (hall j a (by have:=(Tad.1 hj).1;omega) hj).2⟩)
   exact fT (ai @hl' @hT)
  have hl':(i:Int) < (t.args.length:Int):=om;obtain ⟨a,ha⟩:∃ a,t.args[i]?=some a:=⟨_,Taa hl⟩;have hm:=Tac ha;have hsa:=Zc5 hm;have hw1:=Zaw (k:=i) om;have hnoA:¬ ArgOk g t.op o d t.args i a->ZbN g t=false:=fun h=>hno fun hF=>by
   obtain ⟨_,_,h3⟩:=ZbJ.1 hF;rcases h3 with h3 | h3
   ·exact h1 h3
   ·exact h (h3 o d ho hd i a ha)
  obtain ⟨k,hk⟩:=ZgN hg ho hd hA.nas hl;refine fB (aj3 @hl' @tmz @ha) ?_;refine fC @tmz (ih a om (k4.mem hm) (by unfold big;omega)) ?_;by_cases hfa:ZbN g a=true;rotate_left
  ·have hf:=hno fun h=>hfa (ZfD ((ZbJ.1 h).2.1 a hm));have hfa':ZbN g a=false:=by simpa using hfa
   refine fR (ai @tmz @hfa') ?_;exact fT @hf
  have hFa:=Zf6.1 hfa;refine fC (ai @tmz @hfa) (ZhI hg hFa.node) ?_;refine fC @tmz (ZjH hg h0 ho hd hk) ?_;by_cases hkd:Za4 g a=((kd g.sorts k:Nat):Int);rotate_left
  ·have hf:=hnoA fun h=>hkd (h.kind k hk);refine fR (ai @tmz @hkd) ?_;exact fT @hf
  by_cases hN:o.assoc=true∧a.op=t.op
  ·have hf:=hnoA fun h=>h.nest hN.1 hN.2;obtain ⟨hN1,hN2⟩:=hN;refine fR (aj5 @tmz @hkd @Zao @hN1 @hN2) ?_;exact fT @hf
  have hne:o.assoc=true->¬ a.op=t.op:=fun h1 h2=>hN ⟨h1,h2⟩;have cU:=Zk9 (mc:=mc) hg h0 ho a;generalize hU:decide (o.unit≠0∧a.op=o.unit - 1)=U at cU;have hnext:(U=false)->(o.comm=true->∀ (j:Nat) p,i=j+1->t.args[j]?=some p->Zam p a<=0)->i+1<=t.args.length∧∀ (j:Nat) a,j < i+1->t.args[j]?=some a->Zbs g a∧ArgOk g t.op o d t.args j a:=fun hU' hc=>⟨om,fun j a' hj ha'=>by
   by_cases e:j=i
   ·subst e;rw [ha] at ha';injection ha' with ha'
    subst ha';refine ⟨hFa,fun k' hk'=>?_,fun h1 h2=>hN ⟨h1,h2⟩,fun h1 h2=>?_,hc⟩
    ·rw [hk] at hk';injection hk' with hk'
     subst hk';exact hkd
    ·rw [hU'] at hU;simp only [decide_eq_false_iff_not] at hU;exact hU ⟨h1,h2⟩
   ·exact hall j a' om ha'⟩
  rcases Bool.eq_false_or_eq_true o.assoc with hac | hac
  all_goals (
   refine fC (aj5 @tmz @hkd @Zao @hac @hne) (cU) ?_;rcases Bool.eq_false_or_eq_true U with hu | hu
   ·have hf:=hnoA fun h=>by
     rw [hu] at hU;simp only [decide_eq_true_eq] at hU;exact h.unit hU.1 hU.2
    refine fR (ai @tmz @hu) ?_;exact fT @hf
   rcases Bool.eq_false_or_eq_true o.comm with hcm | hcm
   rotate_left
   ·have hq:=hnext hu (fun h=>by rw [hcm] at h;cases h);refine fR (aj4 @tmz @hu @Zao @hcm) ?_;have F:=aj5 @hw1 @tmz @Zao @hcm @hac;refine gG ?_;exact ⟨i+1,hq,gw,gw,om⟩
   rcases Nat.eq_zero_or_pos i with hi0 | hi0
   ·have hq:=hnext hu (fun _ j p h=>om);have hi0':¬ ((0:Int) < (i:Int)):=om;refine fR (aj5 @tmz @hu @Zao @hcm @hi0') ?_;have F:=aj5 @hw1 @tmz @Zao @hcm @hac;refine gG ?_;exact ⟨i+1,hq,gw,gw,om⟩
   obtain ⟨j,rfl⟩:∃ j,i=j+1:=⟨i - 1,om⟩;obtain ⟨p,hp⟩:∃ p,t.args[j]?=some p:=⟨_,Taa om⟩;have cC:=Zp6 (k4.mem (Tac hp)) (k4.mem hm);have hgt0:(0:Int) < ((j+1:Nat):Int):=om;have hsub:IntKind.i64.wrap (((j+1:Nat):Int) - 1)=(j:Int):=Za6 om om om;refine fC (aj7 @tmz @hu @Zao @hcm @hgt0 @hsub @hp) (cC) ?_;by_cases hc:0 < Zam p a
   ·have hf:=hnoA fun h=>by have:=h.ord hcm j p rfl hp;omega
    refine fR (ai @tmz @hc) ?_;exact fT @hf
   ·have hq:=hnext hu (fun _ j' p' h hp'=>by
     have:j'=j:=om;subst this;rw [hp] at hp';injection hp' with hp'
     subst hp';omega)
    refine fR (ai @tmz @hc) ?_
    (have F:=aj5 @hw1 @tmz @Zao @hcm @hac;refine gG ?_;exact ⟨j+1+1,hq,gw,gw,om⟩))
theorem ZoW (hg:SgnOk g) {t:Tm} (hok:okTm t) (hb:sizeTm t<=big):Con e0 66 [.one (.ptr (encX g mc)),.agg (Zad t)] [.one (.lit (.bool (ZbN g t)))]:=Zj8 hg _ t (Tan _) hok hb
structure TermOk (g:Sgn) (t:Tm):Prop where
 size:sizeTm t<=60
 depth:depthTm t<=20
 form:Zbs g t
open Classical in
noncomputable def Zbd (g:Sgn) (t:Tm):Bool:=decide (TermOk g t)
theorem Zfb {g:Sgn} {t:Tm} (h:¬ TermOk g t):Zbd g t=false:=by simp [Zbd,h]
theorem ZbS {g:Sgn} {t:Tm}:Zbd g t=true ↔ TermOk g t:=by simp [Zbd]
theorem ZfE {g:Sgn} {t:Tm} (h1:sizeTm t<=60) (h2:depthTm t<=20):ZbN g t=Zbd g t:=by
 unfold ZbN Zbd;congr 1;exact propext ⟨fun h=>⟨h1,h2,h⟩,fun h=>h.form⟩
theorem ZjI (hg:SgnOk g) {t:Tm} (hok:okTm t) (hb:sizeTm t<=big):Con e0 32 [.one (.ptr (encX g mc)),.agg (Zad t)] [.one (.lit (.bool (Zbd g t)))]:=by
 have hno:¬ TermOk g t->Zbd g t=false:=Zfb;refine gI 27 Tryz.func32 ?_;refine fB @tmz ?_;refine fC @tmz (ZiA hb) ?_;by_cases h1:sizeTm t<=60;rotate_left
 ·have h1':¬ ((sizeTm t:Int)<=60):=om;have hf:=hno fun h=>h1 h.size;refine fR (ai @tmz @h1') ?_;exact fT @hf
 have h1':((sizeTm t:Int)<=60):=om;refine fC (ai @tmz @h1') (Zh5 hb) ?_;by_cases h2:depthTm t<=20;rotate_left
 ·have h2':¬ ((depthTm t:Int)<=20):=om;have hf:=hno fun h=>h2 h.depth;refine fR (ai @tmz @h2') ?_;exact fT @hf
 have h2':((depthTm t:Int)<=20):=om;refine fC (ai @tmz @h2') (ZoW hg hok hb) ?_;have e:=ZfE (g:=g) h1 h2;refine fR @tmz ?_;exact fT @e
end
mutual
theorem Zfc:∀ {a b:Tm},Zam a b=0->a=b
 | .mk o n s x,.mk o' n' s' x',h=>by
  simp only [Zam,ZaW] at h;split at h
  ·rename_i h1;split at h
   ·rename_i h2;split at h
    ·rename_i h3;split at h
     ·rename_i h4;rw [Zc4.1 h1,Zfx.1 h2,Zc4.1 h3,ZjJ h4]
     ·contradiction
    ·contradiction
   ·contradiction
  ·contradiction
theorem ZjJ:∀ {a b:List Tm},ZaR a b=0->a=b
 | [],[],_=>rfl
 | [],_::_,h=>by simp [ZaR] at h
 | _::_,[],h=>by simp [ZaR] at h
 | x::xs,y::ys,h=>by
  simp only [ZaR,ZaW] at h;split at h
  ·rename_i h1;split at h
   ·rename_i h2;rw [Zfc h1,ZjJ h2]
   ·contradiction
  ·contradiction
end
mutual
theorem Zer:∀ (a:Tm),Zam a a=0
 | .mk o n s x=>by simp only [Zam,ZaW,Zc4.2 (rfl:o=o),Zc4.2 (rfl:s=s),Zfx.2 (rfl:n=n),ZjK x,if_true]
theorem ZjK:∀ (a:List Tm),ZaR a a=0
 | []=>rfl
 | x::xs=>by simp only [ZaR,ZaW,Zer x,ZjK xs,if_true]
end
theorem ZmO {a b:Tm}:Zam a b=0 ↔ a=b:=⟨Zfc,fun h=>h ▸ Zer a⟩
theorem Zf7 {a b:Tm} (ha:okTm a) (hb:okTm b):Con e0 97 [.agg (Zad a),.agg (Zad b)] [.one (.lit (.bool (decide (Zam a b=0))))]:=by
 refine gI 31 Tryz.func97 ?_;refine fB @tmz ?_;refine fC @tmz (Zfy ha hb) ?_;refine fR @tmz ?_;exact fT @tmz
section
variable {g:Sgn}
theorem Zl6 (hok:Zdv g) (hg:¬ SgnOk g):Con e0 30 [.agg (ZaJ g)] [.one (.lit (.pointer none)),.one (.lit (.bool false))]:=by
 have hs:Zb8 g=false:=ZgY hg;have c:=ZjF hok;rw [hs,ZaJ] at c;refine gI 287 Tryz.func30 ?_;refine fB @ZaE ?_;refine fC @ZaE (c) ?_;refine fR @ZaE ?_;exact fT @ZaE
def algR (g:Sgn) (r:List D):Prop:=∃ b:Nat,r=[.one (.ptr (encX g (.lit (.map (some b))))),.one (.lit (.bool true))]
theorem Zqg (hok:Zdv g) (hg:SgnOk g):ConE e0 30 [.agg (ZaJ g)] (algR g):=by
 have hs:Zb8 g=true:=Zf5 hg;have c:=ZjF hok;rw [hs,ZaJ] at c;have c2:=ZiB hok.1 hg.sorts;rw [Zbq,Zec] at c2;refine gIE 287 Tryz.func30 ?_;refine fB @ZaE ?_;refine fC @ZaE (c) ?_;refine fR @ZaE ?_;refine fB @ZaE ?_;refine fC @ZaE (c2) ?_;refine fR @ZaE ?_;refine fB @ZaE ?_;refine ZxG (by simp only [pz,↓reduceIte,Nat.reduceEqDiff,Nat.reduceAdd,Nat.reduceSub,Nat.reduceMul,Nat.reduceLeDiff,Nat.reduceBEq,Tam,decide_true,decide_false,Int.reduceLE,Int.reduceToNat,Int.reduceLT,Int.reduceEq,eq_self,Nat.reduceShiftRight,Nat.reduceAnd,Nat.reduceBneDiff,ZtS];exact rfl) fun b=>?_
 refine fR @Zi7 ?_;refine Zfn (ZA0 [19] _ ⟨b,rfl⟩ (by exact snv) ?_);simp [Zct,resA,Zbf,gs,encX,nR]
theorem Zf8 (hok:Zdv g) (hg:SgnOk g) {t:Tm} (ht:Zdl g t):Con e0 96 [.agg (ZaJ g),.agg (Zad t)] [.one (.lit (.int .i64 (Za4 g t)))]:=by
 have c2:=ZeE hg.sorts;rw [Zbq] at c2;refine gI 2111 Tryz.func96 ?_;refine fB (ai @tmz @ZaE) ?_;refine fC @ZaE (c2) ?_;refine fR @ZaE ?_;rcases ht with ⟨h1,h2,h3,h4,h5⟩ | ⟨o,d,h⟩
 ·have hk:=Zgy hg.sorts h3 h4;have e:Za4 g t=kd g.sorts t.sort:=by simp [Za4,h1]
  exact fT (aj6 @tmz @h1 @h3 @hk @Zbg @e)
 ·have hn:=h.op;obtain ⟨d',hd',hr0,hr1,_⟩:=hg.first h.at';rw [h.fst] at hd';injection hd' with hd'
  subst hd';have hk:=Zgy hg.sorts hr0 hr1;have e:Za4 g t=kd g.sorts d.res:=by simp [Za4,h.op,ZhH h.at' h.fst]
  have hlo:=h.lo;have hat:=h.at';have hfst:=h.fst;exact fT (aj11 @tmz @hn @hlo @hat @Zao @hfst @Za0 @hr0 @hk @Zbg @e)
def ZbB (o:Opr):Tm:=.mk (if o.unit=0 then 0 else o.unit - 1) .empty 0 []
theorem Zla (hg:SgnOk g) {op:Int} {o:Opr} (h0:0<=op) (ho:g.ops[op.toNat]?=some o):Con e0 95 [.agg (ZaJ g),.one (.lit (.int .i64 op))] [.agg (Zad (ZbB o)),.one (.lit (.bool (!decide (o.unit=0))))]:=by
 have hax:=hg.axs o (Tac ho);have hlo:=hax.lo;have hhi:=hax.hi;have hln:=hg.len;have hw:IntKind.i64.wrap (o.unit - 1)=o.unit - 1:=Za6 rfl om om;refine gI 4151 Tryz.func95 ?_;by_cases hu:o.unit=0
 ·refine fG (aj5 @ZaE @h0 @ho @Zao @hu) ?_;refine Zfn (ZkM ?_);simp [Zct,resA,Zbf,gs,hu,ZbB,Zad,Zaa,gm,ptrA,varA,e0P,pz,tt_0,tt_1]
 ·refine fG (aj6 @ZaE @h0 @ho @Zao @hu @hw) ?_;refine Zfn (ZkM ?_);simp [Zct,resA,Zbf,gs,hu,ZbB,Zad,Zaa,gm,ptrA,varA,e0P,pz]
end
def Tri (a b c:Int):Prop:=((a<=0->b<=0->c<=0)∧(a < 0->b<=0->c < 0)∧(a<=0->b < 0->c < 0))∧((0<=a->0<=b->0<=c)∧(0 < a->0<=b->0 < c)∧(0<=a->0 < b->0 < c))
theorem Zlb (p q:Int):ZaW [p,q]=if p=0 then q else p:=by
 simp only [ZaW];split
 ·split <;> simp_all
 ·rfl
theorem Zww (p q r s:Int):ZaW [p,q,r,s]=ZaW [p,ZaW [q,ZaW [r,s]]]:=by
 simp only [Zlb,ZaW];by_cases h1:p=0 <;> by_cases h2:q=0 <;> by_cases h3:r=0 <;> by_cases h4:s=0 <;> simp [h1,h2,h3,h4]
theorem Tri.lex {a b c a' b' c':Int} (h:Tri a b c) (h':Tri a' b' c'):Tri (ZaW [a,a']) (ZaW [b,b']) (ZaW [c,c']):=by
 simp only [Zlb];unfold Tri at *;by_cases h1:a=0
 ·by_cases h2:b=0
  ·by_cases h3:c=0
   ·simp only [h1,h2,h3,if_true];exact h'
   ·omega
  ·by_cases h3:c=0
   ·omega
   ·simp only [h1,h2,h3,if_true,if_false];omega
 ·by_cases h2:b=0
  ·by_cases h3:c=0
   ·omega
   ·simp only [h1,h2,h3,if_true,if_false];omega
  ·by_cases h3:c=0
   ·simp only [h1,h2,h3,if_true,if_false];omega
   ·simp only [h1,h2,h3,if_false];omega
theorem ZeG (p q:Int):ZaW [-p,-q]=-ZaW [p,q]:=by
 simp only [Zlb];by_cases h:p=0
 ·simp [h]
 ·have:¬ -p=0:=om;simp [h,this]
theorem ZhK (a b c:Int):Tri (Za1 a b) (Za1 b c) (Za1 a c):=by
 unfold Tri Za1;by_cases h1:a < b <;> by_cases h2:b < c <;> by_cases h3:a < c <;> by_cases h4:b < a <;> by_cases h5:c < b <;> by_cases h6:c < a <;> simp only [h1,h2,h3,h4,h5,h6,if_true,if_false] <;> omega
theorem ZhL (a b:Int):Za1 b a=-Za1 a b:=by
 unfold Za1;by_cases h1:a < b <;> by_cases h2:b < a <;> simp only [h1,h2,if_true,if_false] <;> omega
theorem Zg0 (x y:UInt8) (xs ys:List UInt8):Lib.compareBytes (x::xs) (y::ys)=ZaW [Za1 x.toNat y.toNat,Lib.compareBytes xs ys]:=by
 rw [Zlb];simp only [Lib.compareBytes,Za1,UInt8.lt_iff_toNat_lt];by_cases h1:x.toNat < y.toNat
 ·have:((x.toNat:Int) < y.toNat):=om;simp [h1,this]
 ·have h1':¬ ((x.toNat:Int) < y.toNat):=om;by_cases h2:y.toNat < x.toNat
  ·have:((y.toNat:Int) < x.toNat):=om;simp [h1,h2,h1',this]
  ·have:¬ ((y.toNat:Int) < x.toNat):=om;simp [h1,h2,h1',this]
theorem ZmP:∀ (a b c:List UInt8),Tri (Lib.compareBytes a b) (Lib.compareBytes b c) (Lib.compareBytes a c)
 | [],[],[]=>by simp [Lib.compareBytes,Tri]
 | [],[],_::_=>by simp [Lib.compareBytes,Tri]
 | [],_::_,[]=>by simp [Lib.compareBytes,Tri]
 | [],y::ys,z::zs=>by
  have:Lib.compareBytes [] (y::ys)=-1:=rfl;have h2:Lib.compareBytes [] (z::zs)=-1:=rfl;rw [this,h2];unfold Tri;omega
 | _::_,[],[]=>by simp [Lib.compareBytes,Tri]
 | x::xs,[],z::zs=>by
  have:Lib.compareBytes (x::xs) []=1:=rfl;have h2:Lib.compareBytes [] (z::zs)=-1:=rfl;rw [this,h2];unfold Tri;omega
 | x::xs,y::ys,[]=>by
  have:Lib.compareBytes (x::xs) []=1:=rfl;have h2:Lib.compareBytes (y::ys) []=1:=rfl;rw [this,h2];unfold Tri;omega
 | x::xs,y::ys,z::zs=>by
  simp only [Zg0];exact (ZhK _ _ _).lex (ZmP xs ys zs)
theorem ZmQ:∀ (a b:List UInt8),Lib.compareBytes b a=-Lib.compareBytes a b
 | [],[]=>rfl
 | [],_::_=>rfl
 | _::_,[]=>rfl
 | x::xs,y::ys=>by rw [Zg0,Zg0,ZhL,ZmQ xs ys,ZeG]
mutual
theorem Zcs:∀ (a b:Tm),Zam b a=-Zam a b
 | .mk o n s a,.mk o' n' s' a'=>by
  simp only [Zam,Zww];rw [ZhL o o',ZhL s s',Zlc a a',show Zcc n' n=-Zcc n n' from ZmQ _ _,ZeG,ZeG,ZeG]
theorem Zlc:∀ (a b:List Tm),ZaR b a=-ZaR a b
 | [],[]=>by simp [ZaR]
 | [],_::_=>by simp [ZaR]
 | _::_,[]=>by simp [ZaR]
 | x::xs,y::ys=>by
  simp only [ZaR];rw [Zcs x y,Zlc xs ys,ZeG]
end
mutual
theorem ZiD:∀ (a b c:Tm),Tri (Zam a b) (Zam b c) (Zam a c)
 | .mk o n s a,.mk o' n' s' a',.mk o'' n'' s'' a''=>by
  simp only [Zam,Zww];exact (ZhK _ _ _).lex ((ZmP _ _ _).lex ((ZhK _ _ _).lex (Zld a a' a'')))
theorem Zld:∀ (a b c:List Tm),Tri (ZaR a b) (ZaR b c) (ZaR a c)
 | [],[],[]=>by simp [ZaR,Tri]
 | [],[],_::_=>by simp [ZaR,Tri]
 | [],_::_,[]=>by simp [ZaR,Tri]
 | [],_::_,_::_=>by simp only [ZaR];unfold Tri;omega
 | _::_,[],[]=>by simp [ZaR,Tri]
 | _::_,[],_::_=>by simp only [ZaR];unfold Tri;omega
 | _::_,_::_,[]=>by simp only [ZaR];unfold Tri;omega
 | x::xs,y::ys,z::zs=>by
  simp only [ZaR];exact (ZiD x y z).lex (Zld xs ys zs)
end
theorem Zfq {a b c:Tm} (h1:Zam a b < 0) (h2:Zam b c < 0):Zam a c < 0:=(ZiD a b c).1.2.1 h1 om
theorem Zb2 {a b c:Tm} (h1:Zam a b<=0) (h2:Zam b c<=0):Zam a c<=0:=(ZiD a b c).1.1 h1 h2
def Asc (l:List Tm):Prop:=l.Pairwise fun a b=>Zam a b < 0
theorem Asc.ext {l':List Tm} (h:Asc l) (h':Asc l') (hm:∀ t,t∈l ↔ t∈l'):l=l':=by
 induction l generalizing l' with
 | nil =>
  cases l' with
  | nil=>rfl
  | cons y ys=>exact absurd ((hm y).2 (by simp)) (by simp)
 | cons x xs ih =>
  cases l' with
  | nil=>exact absurd ((hm x).1 (by simp)) (by simp)
  | cons y ys =>
   have h1:=List.pairwise_cons.1 h;have h2:=List.pairwise_cons.1 h';have e:x=y:=by
    rcases Tbg.1 ((hm x).1 (by simp)) with e | hx
    ·exact e
    ·rcases Tbg.1 ((hm y).2 (by simp)) with e | hy
     ·exact e.symm
     ·have a1:=h1.1 y hy;have a2:=h2.1 x hx;rw [Zcs x y] at a2;omega
   subst e;refine congrArg (x::·) (ih h1.2 h2.2 fun t=>⟨fun ht=>?_,fun ht=>?_⟩)
   ·rcases Tbg.1 ((hm t).1 (Tal _ ht)) with e | h3
    ·subst e;have:=h1.1 t ht;rw [Zer] at this;omega
    ·exact h3
   ·rcases Tbg.1 ((hm t).2 (Tal _ ht)) with e | h3
    ·subst e;have:=h2.1 t ht;rw [Zer] at this;omega
    ·exact h3
def Zbm (t:Tm):List Tm->List Tm
 | []=>[t]
 | x::xs=>if Zam x t < 0 then x::Zbm t xs else if Zam x t=0 then x::xs else t::x::xs
theorem ZiE {t u:Tm}:∀ {l:List Tm},u∈Zbm t l ↔ u=t∨u∈l
 | []=>by simp [Zbm]
 | x::xs=>by
  simp only [Zbm];split
  ·simp only [Tbg,ZiE (l:=xs)];constructor
   ·rintro (h | h | h) <;> simp [h]
   ·rintro (h | h | h) <;> simp [h]
  ·split
   ·rename_i h0;have e:=Zfc h0;simp only [Tbg];constructor
    ·exact fun h=>.inr h
    ·rintro (h | h)
     ·exact .inl (by rw [h,e])
     ·exact h
   ·simp only [Tbg]
theorem Asc.ins {t:Tm}:∀ {l:List Tm},Asc l->Asc (Zbm t l)
 | [],_=>by simp [Zbm,Asc]
 | x::xs,h=>by
  have h1:=List.pairwise_cons.1 h;simp only [Zbm];split
  ·rename_i hx;refine List.pairwise_cons.2 ⟨fun u hu=>?_,Asc.ins h1.2⟩;rcases ZiE.1 hu with e | hu
   ·rw [e];exact hx
   ·exact h1.1 u hu
  ·split
   ·exact h
   ·rename_i h2 h3;have h4:Zam t x < 0:=by rw [Zcs x t];omega
    refine List.pairwise_cons.2 ⟨fun u hu=>?_,h⟩;rcases Tbg.1 hu with e | hu
    ·rw [e];exact h4
    ·exact Zfq h4 (h1.1 u hu)
def Zdm (l:List Tm):List Tm:=l.foldl (fun r t=>Zbm t r) []
theorem ZmR {r:List Tm} (h:Asc r):Asc (l.foldl (fun r t=>Zbm t r) r)∧∀ u,u∈l.foldl (fun r t=>Zbm t r) r ↔ u∈l∨u∈r:=by
 induction l generalizing r with
 | nil=>exact ⟨h,fun u=>by simp⟩
 | cons x xs ih =>
  have:=ih (r:=Zbm x r) h.ins;refine ⟨this.1,fun u=>?_⟩;rw [List.foldl_cons,this.2,ZiE,Tbg];constructor
  ·rintro (h | h | h)
   ·exact .inl (.inr h)
   ·exact .inl (.inl h)
   ·exact .inr h
  ·rintro ((h | h) | h)
   ·exact .inr (.inl h)
   ·exact .inl h
   ·exact .inr (.inr h)
theorem ZhM (l:List Tm):Asc (Zdm l):=(ZmR List.Pairwise.nil).1
theorem ZhN {u:Tm}:u∈Zdm l ↔ u∈l:=by
 have:=(ZmR (l:=l) (r:=[]) List.Pairwise.nil).2 u;simpa [Zdm] using this
theorem Zwx {l':List Tm} (h:Asc l') (hm:∀ t,t∈l' ↔ t∈l):Zdm l=l':=(ZhM l).ext h fun t=>ZhN.trans (hm t).symm
mutual
def Zbo:Tm->List Tm
 | .mk op nm so args=>if op=-1 then [.mk (-1) nm so []] else Zba args
def Zba:List Tm->List Tm
 | []=>[]
 | t::ts=>Zbo t++Zba ts
end
def Zcd (t:Tm):List Tm:=Zdm (Zbo t)
def zTm0:Tm:=.mk 0 ByteArray.empty 0 []
def ddT:Option Tm->List Tm->List Tm
 | _,[]=>[]
 | none,x::xs=>x::ddT (some x) xs
 | some y,x::xs=>if Zam x y=0 then ddT (some x) xs else x::ddT (some x) xs
def ZgO:Option Tm->List Tm->Option Tm
 | p,[]=>p
 | _,x::xs=>ZgO (some x) xs
theorem Zj9:∀ (p:Option Tm) (l:List Tm) (x:Tm),ddT p (l++[x])=match ZgO p l with
  | none=>ddT p l++[x]
  | some y=>if Zam x y=0 then ddT p l else ddT p l++[x]
 | none,[],x=>rfl
 | some y,[],x=>by simp only [Tah,ddT,ZgO]
 | none,a::l,x=>by
  simp only [Taf,ddT,ZgO,Zj9 (some a) l x];split
  ·rfl
  ·split <;> rfl
 | some y,a::l,x=>by
  simp only [Taf,ddT,ZgO,Zj9 (some a) l x];split
  ·rfl
  ·split
   ·rfl
   ·split <;> rfl
theorem Zle:∀ (p:Option Tm) (l:List Tm) (i:Nat) (y:Tm),l[i]?=some y->ZgO p (l.take (i+1))=some y
 | p,[],i,y,h=>by simp at h
 | p,x::xs,0,y,h=>by simp at h;subst h;simp [ZgO]
 | p,x::xs,i+1,y,h=>by
  simp only [Tbc,ZgO];exact Zle (some x) xs i y (by simpa using h)
theorem ZoX {i:Nat} (hx:l[i+1]?=some x) (hy:l[i]?=some y):ddT none (l.take (i+2))=if Zam x y=0 then ddT none (l.take (i+1)) else ddT none (l.take (i+1))++[x]:=by
 have e:l.take (i+2)=l.take (i+1)++[x]:=by simp [List.take_add_one,hx]
 rw [e,Zj9,Zle none l i y hy]
theorem Zz9 (hx:l[0]?=some x):ddT none (l.take 1)=[x]:=by
 cases l with
 | nil=>simp at hx
 | cons a l=>simp at hx;subst hx;simp [ddT]
def Up (l:List Tm):Prop:=l.Pairwise fun a b=>Zam a b<=0
theorem Zwy:∀ (l:List Tm) (y:Tm),Up l->(∀ x∈l,Zam y x<=0)->Asc (ddT (some y) l)∧(∀ z∈ddT (some y) l,Zam y z < 0)∧∀ z,(z=y∨z∈ddT (some y) l) ↔ (z=y∨z∈l)
 | [],y,_,_=>⟨List.Pairwise.nil,fun z h=>by simp [ddT] at h,fun z=>by simp [ddT]⟩
 | x::xs,y,hu,hy=>by
  have h1:=List.pairwise_cons.1 hu;have hyx:=hy x Tas;obtain ⟨k1,k2,k3⟩:=Zwy xs x h1.2 h1.1;simp only [ddT];by_cases h0:Zam x y=0
  ·rw [if_pos h0];have e:=Zfc h0;subst e;exact ⟨k1,k2,fun z=>by rw [k3 z];simp⟩
  ·rw [if_neg h0];have hlt:Zam y x < 0:=by rw [Zcs x y] at hyx ⊢;omega
   refine ⟨List.pairwise_cons.2 ⟨k2,k1⟩,fun z hz=>?_,fun z=>?_⟩
   ·rcases Tbg.1 hz with rfl | hz
    ·exact hlt
    ·exact Zfq hlt (k2 z hz)
   ·have:=k3 z;simp only [Tbg];rw [this]
theorem Zx4 (h:Up l):ddT none l=Zdm l:=by
 cases l with
 | nil=>rfl
 | cons x xs =>
  have h1:=List.pairwise_cons.1 h;obtain ⟨k1,k2,k3⟩:=Zwy xs x h1.2 h1.1;simp only [ddT];refine (Zwx (List.pairwise_cons.2 ⟨k2,k1⟩) fun t=>?_).symm;simp only [Tbg];exact k3 t
def ZaB (l:List Tm):List Tm:=l.mergeSort fun a b=>decide (Zam a b<=0)
theorem Za7 (l:List Tm):(ZaB l).Perm l:=List.mergeSort_perm l _
theorem Zcl (l:List Tm):Up (ZaB l):=by
 have h:=List.pairwise_mergeSort (le:=fun a b=>decide (Zam a b<=0)) (fun a b c h1 h2=>by simp only [decide_eq_true_eq] at *;exact Zb2 h1 h2) (fun a b=>by
  simp only [Bool.or_eq_true,decide_eq_true_eq];have:=Zcs a b;omega) l
 exact h.imp fun h=>by simpa using h
theorem Zjf:∀ {l l':List Tm},Up l->Up l'->l.Perm l'->l=l'
 | [],l',_,_,h=>by have:=h.length_eq;cases l' with | nil=>rfl | cons _ _=>simp at this
 | x::xs,[],_,_,h=>by have:=h.length_eq;simp at this
 | x::xs,y::ys,h1,h2,h=>by
  have p1:=List.pairwise_cons.1 h1;have p2:=List.pairwise_cons.1 h2;have hx:x∈y::ys:=h.mem_iff.1 Tas;have hy:y∈x::xs:=h.mem_iff.2 Tas;have e:x=y:=by
   rcases Tbg.1 hx with e | hx
   ·exact e
   ·rcases Tbg.1 hy with e | hy
    ·exact e.symm
    ·have a1:=p2.1 x hx;have a2:=p1.1 y hy;refine Zfc ?_;rw [Zcs x y] at a1;omega
  subst e;rw [Zjf p1.2 p2.2 h.cons_inv]
theorem Zqh {l':List Tm} (h:l.Perm l'):Zdm l=Zdm l':=(ZhM l).ext (ZhM l') fun t=>by rw [ZhN,ZhN,h.mem_iff]
mutual
theorem ZmS:∀ {a b:Tm},Zad a=Zad b->a=b
 | .mk o n s a,.mk o' n' s' a',h=>by
  simp only [Zad,List.cons.injEq,C.lit.injEq,C.sl.injEq,Value.int.injEq,Value.string.injEq,true_and,and_true] at h;obtain ⟨rfl,rfl,rfl,h⟩:=h;rw [Zlf h]
theorem Zlf:∀ {a b:List Tm},Zaa a=Zaa b->a=b
 | [],[],_=>rfl
 | [],_::_,h=>by simp [Zaa] at h
 | _::_,[],h=>by simp [Zaa] at h
 | x::xs,y::ys,h=>by
  simp only [Zaa,List.cons.injEq] at h;rw [ZmS h.1,Zlf h.2]
end
open Classical in
noncomputable def unT (r:List C):Tm:=if h:∃ t,r=Zad t then h.choose else zTm0
theorem Zsd (t:Tm):unT (Zad t)=t:=by
 have h:∃ t',Zad t=Zad t':=⟨t,rfl⟩;unfold unT;rw [dif_pos h];exact (ZmS h.choose_spec).symm
theorem ZAa (l:List Tm):(Zaa l).map unT=l:=by
 rw [Zbt,List.map_map]
 conv=>rhs;rw [<- List.map_id l]
 exact List.map_congr_left fun t _=>Zsd t
theorem ZdY (l:List Tm) (k:Nat):(Zaa l).take k=Zaa (l.take k):=by rw [Zbt,Zbt,List.map_take]
theorem ZeH (l:List Tm) (k:Nat):(Zaa l).drop k=Zaa (l.drop k):=by rw [Zbt,Zbt,List.map_drop]
theorem ZbK (a b:List Tm):Zaa (a++b)=Zaa a++Zaa b:=by rw [Zbt,Zbt,Zbt,Tbr]
theorem Zes (t:Tm):Zaa [t]=[Zad t]:=by simp [Zaa]
theorem Zgz (a b:Tm):Con e0 146 [.agg (Zad a),.agg (Zad b)] [.one (.lit (.bool (decide (Zam a b=0))))]:=by
 refine gI (ts:=[.slot 4]) 31 Tryz.func146 ?_;refine fB @tmz ?_;refine fC @tmz (Zi8 (ZeU a b)) ?_;refine fR @tmz ?_;exact fD @tmz
theorem ZfP {m:List Tm} (hp:m.Perm l) (hu:Up m):m=ZaB l:=Zjf hu (Zcl l) (hp.trans (Za7 l).symm)
theorem ZeI (hu:Up l):ZaB l=l:=(ZfP (List.Perm.refl _) hu).symm
theorem Zc2 (l:List Tm):(ZaB l).length=l.length:=(Za7 l).length_eq
theorem ZoY {m:List Tm} (h:l.Perm m):ZaB l=ZaB m:=Zjf (Zcl l) (Zcl m) ((Za7 l).trans (h.trans (Za7 m).symm))
theorem Up.get (h:Up l) {i j:Nat} (hij:i<=j) (hx:l[i]?=some x) (hy:l[j]?=some y):Zam x y<=0:=by
 rcases Nat.lt_or_ge i j with hl | hl
 ·obtain ⟨h1,rfl⟩:=Tad.1 hx;obtain ⟨h2,rfl⟩:=Tad.1 hy;exact List.pairwise_iff_getElem.1 h i j h1 h2 hl
 ·obtain rfl:i=j:=by omega
  rw [hx] at hy;injection hy with hy
  subst hy;rw [Zer];omega
theorem ZgA (h:x∈l.take k):∃ i,i < k∧l[i]?=some x:=by
 obtain ⟨i,hi⟩:=Tbk h;rw [List.getElem?_take] at hi;split at hi
 ·exact ⟨i,by assumption,hi⟩
 ·cases hi
theorem ZgB (h:x∈l.drop k):∃ i,k<=i∧l[i]?=some x:=by
 obtain ⟨i,hi⟩:=Tbk h;rw [Tbb] at hi;exact ⟨k+i,om,hi⟩
theorem ZnT (h:¬ Zam x y < 0):Zam y x<=0:=by rw [Zcs x y];omega
theorem Up.append {m:List Tm} (hl:Up l) (hm:Up m) (h:∀ x∈l,∀ y∈m,Zam x y<=0):Up (l++m):=List.pairwise_append.2 ⟨hl,hm,h⟩
theorem Up.left {m:List Tm} (h:Up (l++m)):Up l:=(List.pairwise_append.1 h).1
theorem Up.take (h:Up l) (k:Nat):Up (l.take k):=List.Pairwise.sublist (List.take_sublist k l) h
theorem Up.drop (h:Up l) (k:Nat):Up (l.drop k):=List.Pairwise.sublist (List.drop_sublist k l) h
theorem Up.put (hB:Up B) {s:Nat} (h1:0 < s->∃ y,B[s - 1]?=some y∧Zam y x<=0) (h2:s < B.length->∃ y,B[s]?=some y∧Zam x y<=0):Up (B.take s++x::B.drop s):=by
 have k2:∀ z∈B.drop s,Zam x z<=0:=fun z hz=>by
  obtain ⟨i,hi,hz⟩:=ZgB hz;have hl:=(Tad.1 hz).1;obtain ⟨y,hy,hc⟩:=h2 om;exact Zb2 hc (hB.get hi hy hz)
 have k1:∀ z∈B.take s,Zam z x<=0:=fun z hz=>by
  obtain ⟨i,hi,hz⟩:=ZgA hz;obtain ⟨y,hy,hc⟩:=h1 om;exact Zb2 (hB.get om hz hy) hc
 refine (hB.take s).append (List.pairwise_cons.2 ⟨k2,hB.drop s⟩) fun z hz u hu=>?_;rcases Tbg.1 hu with rfl | hu
 ·exact k1 z hz
 ·obtain ⟨i,hi,hz⟩:=ZgA hz;obtain ⟨j,hj,hu⟩:=ZgB hu;exact hB.get om hz hu
theorem Zx5 (s:Nat):(B.take s++x::B.drop s).Perm (x::B):=by
 refine List.perm_middle.trans ?_;rw [Tbm]
theorem ZAb {A:List Tm} (hA:Up A) (hB:Up B) {s e:Nat} (h1:e < B.length->0 < s->∃ x y,A[s - 1]?=some x∧B[e]?=some y∧Zam x y<=0) (h2:0 < e->s < A.length->∃ x y,B[e - 1]?=some x∧A[s]?=some y∧Zam x y<=0):∀ x∈A.take s++B.take e,∀ y∈A.drop s++B.drop e,Zam x y<=0:=by
 intro x hx y hy;rcases Tbh.1 hx with hx | hx <;> rcases Tbh.1 hy with hy | hy <;> obtain ⟨i,hi,hx⟩:=ZgA hx <;> obtain ⟨j,hj,hy⟩:=ZgB hy
 ·exact hA.get om hx hy
 ·have hl:=(Tad.1 hy).1;obtain ⟨u,v,hu,hv,huv⟩:=h1 om om;exact Zb2 (Zb2 (hA.get om hx hu) huv) (hB.get hj hv hy)
 ·have hl:=(Tad.1 hy).1;obtain ⟨u,v,hu,hv,huv⟩:=h2 om om;exact Zb2 (Zb2 (hB.get om hx hu) huv) (hA.get hj hv hy)
 ·exact hB.get om hx hy
theorem ZsS {A1 A2 B1 B2:List Tm} (h:∀ x∈A1++B1,∀ y∈A2++B2,Zam x y<=0):ZaB (A1++B1)++ZaB (A2++B2)=ZaB ((A1++A2)++(B1++B2)):=by
 refine ZfP ?_ ((Zcl _).append (Zcl _) fun x hx y hy=>h x ((Za7 _).mem_iff.1 hx) y ((Za7 _).mem_iff.1 hy));refine ((Za7 _).append (Za7 _)).trans ?_;rw [Tbf,Tbf];refine List.Perm.append_left _ ?_;rw [<- Tbf,<- Tbf];exact List.Perm.append_right _ List.perm_append_comm
inductive Blks (k:Nat):List Tm->Prop where
 | last {l:List Tm} (hl:l.length<=k) (hu:Up l):Blks k l
 | cons {X r:List Tm} (hl:X.length=k) (hu:Up X) (hr:Blks k r):Blks k (X++r)
inductive Full (k:Nat):List Tm->Prop where
 | nil:Full k []
 | cons {X r:List Tm} (hl:X.length=k) (hu:Up X) (hr:Full k r):Full k (X++r)
theorem Full.snoc (h:Full k X) (hl:Z.length=k) (hu:Up Z):Full k (X++Z):=by
 induction h with
 | nil=>have:=Full.cons hl hu Full.nil;rwa [List.append_nil] at this
 | cons h1 h2 _ ih=>rw [Tbf];exact .cons h1 h2 ih
theorem Full.blks (h:Full k X) (hl:Z.length<=k) (hu:Up Z):Blks k (X++Z):=by
 induction h with
 | nil=>exact .last hl hu
 | cons h1 h2 _ ih=>rw [Tbf];exact .cons h1 h2 ih
theorem Blks.up (h:Blks k l) (hl:l.length<=k):Up l:=by
 cases h with
 | last h1 h2=>exact h2
 | @cons X r h1 h2 h3 =>
  rw [Tae] at hl;have:r=[]:=Tao om;subst this
  rwa [List.append_nil]
theorem Blks.split (h:Blks k l) (hl:k < l.length):∃ X r,l=X++r∧X.length=k∧Up X∧Blks k r:=by
 cases h with
 | last h1 h2=>omega
 | cons h1 h2 h3=>exact ⟨_,_,rfl,h1,h2,h3⟩
theorem Blks.two (h:Blks k l) (hk:0 < k) (hl:2 * k<=l.length):∃ A B r,l=A++B++r∧A.length=k∧B.length=k∧Up A∧Up B∧Blks k r:=by
 obtain ⟨A,r,rfl,h1,h2,h3⟩:=h.split om;rw [Tae] at hl;rcases Nat.lt_or_ge k r.length with h4 | h4
 ·obtain ⟨B,r',rfl,h5,h6,h7⟩:=h3.split h4;exact ⟨A,B,r',by rw [Tbf],h1,h5,h2,h6,h7⟩
 ·exact ⟨A,r,[],by rw [List.append_nil],h1,om,h2,h3.up h4,.last (by simp) List.Pairwise.nil⟩
theorem Zhe {A:List Tm} (h:A.length=k):(A++x::B).set k y=A++y::B:=by
 subst h;rw [List.set_append_right _ _ (Tai _),Nat.sub_self,List.set_cons_zero]
theorem Zhf {A:List Tm} (h:A.length=k):(A++x::B)[k]?=some x:=by
 subst h;rw [Tbo (Tai _),Nat.sub_self,Tat]
theorem Zse {A:List Tm} (h:A.length=k):((A++y::x::B).set (k+1) y).set k x=A++x::y::B:=by
 have e1:(A++y::x::B).set (k+1) y=A++y::y::B:=by
  have:=Zhe (A:=A++[y]) (B:=B) (x:=x) (y:=y) (k:=k+1) (by simp [h]);simpa using this
 rw [e1,Zhe h]
theorem Zx6 {A:List Tm} (h:A.length=k):((A++y::x::B).set k x).set (k+1) y=A++x::y::B:=by
 have e1:(A++x::x::B).set (k+1) y=A++x::y::B:=by
  have:=Zhe (A:=A++[x]) (B:=B) (x:=x) (y:=y) (k:=k+1) (by simp [h]);simpa using this
 rw [Zhe h,e1]
theorem Zl7 {A:List Tm} (h:A.length=k):(A++y::x::B)[k+1]?=some x:=by
 have:=Zhf (A:=A++[y]) (B:=B) (x:=x) (k:=k+1) (by simp [h]);simpa using this
theorem ZdB {i:Nat} (h:l[i]?=some x):l.drop i=x::l.drop (i+1):=by
 obtain ⟨h1,rfl⟩:=Tad.1 h;exact List.drop_eq_getElem_cons h1
theorem Zdb {i:Nat} (h:l[i]?=some x):l.take (i+1)=l.take i++[x]:=by
 rw [List.take_add_one,h];rfl
def swR (P X Z Y Q:List Tm) (i:Nat):List Tm:=P++(Y.take i++X.drop i)++Z++(X.take i++Y.drop i)++Q
theorem Zx7 (P X Z Y Q:List Tm):swR P X Z Y Q 0=P++X++Z++Y++Q:=by simp [swR]
theorem ZAc {Y:List Tm} (h:X.length=Y.length):swR P X Z Y Q X.length=P++Y++Z++X++Q:=by
 unfold swR;rw [Tap,List.drop_length,h,Tap,List.drop_length];simp
theorem ZAd {Y:List Tm} (i:Nat) (h:X.length=Y.length):(swR P X Z Y Q i).length=P.length+X.length+Z.length+Y.length+Q.length:=by
 simp only [swR,Tae,Taw,Tax];omega
theorem ZAe {Y:List Tm} {i:Nat} (h:X.length=Y.length) (hx:X[i]?=some x) (hy:Y[i]?=some y) :
  (swR P X Z Y Q i)[P.length+i]?=some x∧(swR P X Z Y Q i)[P.length+X.length+Z.length+i]?=some y∧((swR P X Z Y Q i).set (P.length+i) y).set (P.length+X.length+Z.length+i) x=swR P X Z Y Q (i+1):=by
 have hi:=(Tad.1 hx).1;have hi':=(Tad.1 hy).1;have e:swR P X Z Y Q i=(P++Y.take i)++x::(X.drop (i+1)++Z++X.take i++y::(Y.drop (i+1)++Q)):=by
  unfold swR;rw [ZdB hx,ZdB hy];simp
 have e2:swR P X Z Y Q i=((P++Y.take i)++x::(X.drop (i+1)++Z++X.take i))++y::(Y.drop (i+1)++Q):=by rw [e];simp
 have l1:(P++Y.take i).length=P.length+i:=by simp;omega
 have l2:∀ z:Tm,((P++Y.take i)++z::(X.drop (i+1)++Z++X.take i)).length=P.length+X.length+Z.length+i:=fun z=>by simp;omega
 refine ⟨by rw [e];exact Zhf l1,by rw [e2];exact Zhf (l2 x),?_⟩;rw [e,Zhe l1];rw [show (P++Y.take i)++y::(X.drop (i+1)++Z++X.take i++y::(Y.drop (i+1)++Q))=((P++Y.take i)++y::(X.drop (i+1)++Z++X.take i))++y::(Y.drop (i+1)++Q) by simp,Zhe (l2 y)];unfold swR;rw [Zdb hy,Zdb hx];simp
theorem Zx8 {M1 M2:List Tm} (h:Up (M1++M2)) (h2:∀ y∈M2,Zam x y<=0) (h1:∀ y,M1.getLast?=some y->Zam y x<=0):Up (M1++x::M2):=by
 obtain ⟨u1,u2,u3⟩:=List.pairwise_append.1 h;refine Up.append u1 (List.pairwise_cons.2 ⟨h2,u2⟩) fun z hz u hu=>?_;rcases Tbg.1 hu with rfl | hu
 ·obtain ⟨M0,y,rfl⟩:∃ M0 y,M1=M0++[y]:=⟨M1.dropLast,M1.getLast (List.ne_nil_of_mem hz),(List.dropLast_concat_getLast _).symm⟩;have hy:=h1 y (by simp);rcases Tbh.1 hz with hz | hz
  ·exact Zb2 ((List.pairwise_append.1 u1).2.2 z hz y (by simp)) hy
  ·simp only [Tbj] at hz;subst hz;exact hy
 ·exact u3 z hz u hu
theorem ZoZ {M1 M2 L:List Tm} (e:M1++M2=ZaB L) (h2:∀ y∈M2,Zam x y<=0) (h1:∀ y,M1.getLast?=some y->Zam y x<=0):M1++x::M2=ZaB (L++[x]):=by
 have hu:Up (M1++M2):=by rw [e];exact Zcl _
 refine ZfP ?_ (Zx8 hu h2 h1);refine List.perm_middle.trans ?_;rw [e];exact ((Za7 L).cons x).trans (List.perm_append_comm (l₁:=[x]) (l₂:=L))
mutual
def Zdn:Tm->Int->Int
 | .mk _ _ _ args,l=>Zbu args (l - 1)
def Zbu:List Tm->Int->Int
 | [],l=>l
 | t::ts,l=>if 0<=l then Zbu ts (Zdn t l) else l
end
theorem Zwz:∀ l,Zbu [] l=l:=fun _=>by rw [Zbu]
mutual
theorem ZjL:∀ (t:Tm) (l:Int),0<=l->(-1<=Zdn t l∧Zdn t l<=l∧((sizeTm t:Int)<=l->Zdn t l=l - sizeTm t)∧(l < sizeTm t->Zdn t l < 0))
 | .mk _ _ _ args,l,hl=>by
  have:=ZgC args (l - 1) om;simp only [Zdn,sizeTm];refine ⟨this.1,om,fun h=>?_,fun h=>?_⟩
  ·have:=this.2.2.1 om;omega
  ·by_cases h1:0<=l - 1
   ·exact this.2.2.2 om
   ·have h2:=this.2.1;omega
theorem ZgC:∀ (ts:List Tm) (l:Int),-1<=l->(-1<=Zbu ts l∧Zbu ts l<=l∧((sizeTms ts:Int)<=l->Zbu ts l=l - sizeTms ts)∧(l < sizeTms ts->Zbu ts l < 0))
 | [],l,hl=>by simp only [Zbu,sizeTms];omega
 | t::ts,l,hl=>by
  simp only [Zbu,sizeTms];by_cases h0:0<=l
  ·rw [if_pos h0];have h1:=ZjL t l h0;have h2:=ZgC ts (Zdn t l) h1.1;refine ⟨h2.1,om,fun h=>?_,fun h=>?_⟩
   ·have e1:=h1.2.2.1 om;have e2:=h2.2.2.1 om;omega
   ·by_cases h3:(sizeTm t:Int)<=l
    ·have e1:=h1.2.2.1 h3;exact h2.2.2.2 om
    ·have e1:=h1.2.2.2 om;omega
  ·rw [if_neg h0];have:=Zb0 ts;refine ⟨hl,Int.le_refl _,fun h=>om,fun h=>om⟩
end
theorem ZjM {l:Int} (h:¬ 0<=l):Zbu ts l=l:=by
 cases ts with
 | nil=>rfl
 | cons t ts=>simp only [Zbu,if_neg h]
theorem Zg1:∀ (a b:List Tm) (l:Int),Zbu (a++b) l=Zbu b (Zbu a l)
 | [],b,l=>rfl
 | t::ts,b,l=>by
  simp only [Taf,Zbu];by_cases h:0<=l
  ·rw [if_pos h,if_pos h,Zg1]
  ·rw [if_neg h,if_neg h,ZjM h]
theorem Zo0 {i:Nat} {t:Tm} {l:Int} (h:ts[i]?=some t) (h0:0<=Zbu (ts.take i) l):Zbu (ts.take (i+1)) l=Zdn t (Zbu (ts.take i) l):=by
 rw [ZcE h,Zg1];simp only [Zbu,if_pos h0]
theorem Zo1 {i:Nat} {l:Int} (h0:¬ 0<=Zbu (ts.take i) l):Zbu ts l=Zbu (ts.take i) l:=by
 conv=>lhs;rw [<- Tbm i ts]
 rw [Zg1,ZjM h0]
theorem ZwA (t:Tm) (l:Int):Zdn t l=Zbu t.args (l - 1):=by cases t;simp only [Zdn,Tm.args]
theorem Zl8:∀ (n:Nat) (t:Tm) (l:Int),sizeTm t < n->sizeTm t<=big->0<=l->l<=60->Con e0 89 [.agg (Zad t),.one (.lit (.int .i64 l))] [.one (.lit (.int .i64 (Zdn t l)))]:=by
 intro n
 induction n with
 | zero=>intro t l h;omega
 | succ n ih =>
  intro t l hn hb hl0 hl1;have hsz:=ZcI t;have hal:=Zb0 t.args;unfold big at hb;have hw:IntKind.i64.wrap (l - 1)=l - 1:=Za6 rfl om om;rw [ZwA];refine gI 65591 Tryz.func89 ?_;refine fG (ai @tmz @hw) ?_;have F:=@Zwz;refine gL (ι:=Nat) [1,5,16] [] (fun i=>[(5,A.d (.one (.lit (.int .i64 i)))),(1,A.d (.one (.lit (.int .i64 (Zbu (t.args.take i) (l - 1))))))]) (fun i=>[]) (fun i=>i<=t.args.length) (fun i=>t.args.length - i) (0) om (fun i hi=>?_);clear F
  have hsp:=ZgC (t.args.take i) (l - 1) om;by_cases hl:i < t.args.length;rotate_left
  ·have hl':¬ ((i:Int) < (t.args.length:Int)):=om;have e:t.args.take i=t.args:=List.take_of_length_le om;exact fT (aj3 @hl' @e @tmz)
  have hl':(i:Int) < (t.args.length:Int):=om;by_cases h0:0<=Zbu (t.args.take i) (l - 1);rotate_left
  ·have e:=Zo1 h0;exact fT (aj4 @hl' @h0 @e @tmz)
  obtain ⟨a,ha⟩:∃ a,t.args[i]?=some a:=⟨_,Taa hl⟩;have hm:=Zc5 (Tac ha);have hw1:=Zaw (k:=i) om;have hs:=Zo0 ha h0;refine fB (aj4 @hl' @h0 @tmz @ha) ?_;refine fC (ai @tmz @ha) (ih a _ om (by unfold big;omega) h0 om) ?_;refine fR @tmz ?_;have F:=aj3 @hw1 @hs @tmz;refine gG ?_;exact ⟨i+1,om,gw,gw,om⟩
theorem ZmT {t:Tm}:0<=Zdn t 60 ↔ sizeTm t<=60:=by
 have:=ZjL t 60 om;by_cases h:sizeTm t<=60
 ·have:=this.2.2.1 om;omega
 ·have:=this.2.2.2 om;omega
theorem ZfF {t:Tm} (hb:sizeTm t<=big):Con e0 52 [.agg (Zad t)] [.one (.lit (.bool (decide (sizeTm t<=60∧depthTm t<=20))))]:=by
 refine gI 7 Tryz.func52 ?_;refine fB @tmz ?_;refine fC @tmz (Zl8 _ t 60 (Tan _) hb om om) ?_;by_cases h1:sizeTm t<=60;rotate_left
 ·have h1':¬ (0<=Zdn t 60):=fun h=>h1 (ZmT.1 h);refine fR (ai @tmz @h1') ?_;exact fT @h1
 have h1':(0<=Zdn t 60):=ZmT.2 h1;refine fC (ai @tmz @h1') (Znk hb) ?_;by_cases h2:depthTm t<=20
 ·have h2':((depthTm t:Int)<=20):=om;refine fR (ai @tmz @h2') ?_;exact fT (ai @h1 @h2)
 ·have h2':¬ ((depthTm t:Int)<=20):=om;refine fR (ai @tmz @h2') ?_;exact fT (ai @h1 @h2)
section
variable {g:Sgn}
open Classical in
noncomputable def ZeJ (g:Sgn) (t:Tm):Bool:=decide (Zdl g t)
theorem ZfG {t:Tm} (h:Zdl g t):ZeJ g t=true:=by simp [ZeJ,h]
theorem Zo2 {t:Tm} (h:¬ Zdl g t):ZeJ g t=false:=by simp [ZeJ,h]
theorem ZsT {t:Tm}:ZeJ g t=true ↔ Zdl g t:=by simp [ZeJ]
theorem ZsU (hg:SgnOk g) {t:Tm} (hok:okTm t) (hb:sizeTm t<=big):Con e0 91 [.agg (ZaJ g),.agg (Zad t)] [.one (.lit (.bool (ZeJ g t)))]:=by
 have hno:¬ Zdl g t->ZeJ g t=false:=Zo2;obtain ⟨k1,k2,k3,k4⟩:=Zfp.1 hok;have hsz:=ZcI t;have hal:=Zb0 t.args;have hn8:=hg.sorts.n8;have hn1:=hg.sorts.n1;have hln:=hg.len;unfold big at hb;have hwn:IntKind.i64.wrap ((g.sorts.names.length:Int) - 1)=(g.sorts.names.length:Int) - 1:=Za6 rfl om om;have hwo:IntKind.i64.wrap ((g.ops.length:Int) - 1)=(g.ops.length:Int) - 1:=Za6 rfl om om;refine gI 9444733036108034605695 Tryz.func91 ?_
 by_cases h1:t.op=-1
 ·have hV:Zdl g t->ZnS g t:=fun h=>by
   rcases h with h | ⟨o,d,h⟩
   ·exact h
   ·exact absurd h1 h.op
  refine fB (aj3 @tmz @ZaE @h1) ?_;refine fC @tmz (Zgv k2) ?_;by_cases h2:Zbr t.name=true;rotate_left
  ·have h2':Zbr t.name=false:=by simpa using h2
   have hf:=hno fun h=>h2 (hV h).2.1;refine fR (ai @tmz @h2') ?_;exact fT @hf
  refine fC (aj3 @tmz @h2 @hwn) (ZdN _ _ _) ?_;by_cases h3:0<=t.sort∧t.sort < g.sorts.names.length;rotate_left
  ·have h3':decide (0<=t.sort∧t.sort<=(g.sorts.names.length:Int) - 1)=false:=by simp only [decide_eq_false_iff_not];omega
   have hf:=hno fun h=>h3 ⟨(hV h).2.2.1,(hV h).2.2.2.1⟩;refine fR (ai @tmz @h3') ?_;exact fT @hf
  have h3':decide (0<=t.sort∧t.sort<=(g.sorts.names.length:Int) - 1)=true:=by simp only [decide_eq_true_eq];omega
  by_cases h4:t.args=[]
  ·have hT:=ZfG (g:=g) (.inl ⟨h1,h2,h3.1,h3.2,h4⟩);refine fR (aj3 @tmz @h3' @h4) ?_;exact fT @hT
  ·have hf:=hno fun h=>h4 (hV h).2.2.2.2;have h4':¬ ((t.args.length:Int)=0):=by
    intro h;apply h4;apply Tao;omega
   refine fR (aj3 @tmz @h3' @h4') ?_;exact fT @hf
 refine fB (aj3 @tmz @ZaE @h1) ?_;refine fC (ai @tmz @hwo) (ZdN _ _ _) ?_;by_cases h2:0<=t.op∧t.op < g.ops.length;rotate_left
 ·have h2':decide (0<=t.op∧t.op<=(g.ops.length:Int) - 1)=false:=by simp only [decide_eq_false_iff_not];omega
  have hf:=hno fun h=>by
   obtain ⟨o,d,h⟩:=h.app h1;have:=(Tad.1 h.at').1;have:=h.lo;omega
  refine fR (ai @tmz @h2') ?_;exact fT @hf
 have h2':decide (0<=t.op∧t.op<=(g.ops.length:Int) - 1)=true:=by simp only [decide_eq_true_eq];omega
 by_cases h4:t.name=ByteArray.empty;rotate_left
 ·have hf:=hno fun h=>by
   obtain ⟨o,d,h⟩:=h.app h1;exact h4 h.nm
  refine fR (aj4 @tmz @h2' @Zep @h4) ?_;exact fT @hf
 by_cases h5:t.sort=0;rotate_left
 ·have hf:=hno fun h=>by
   obtain ⟨o,d,h⟩:=h.app h1;exact h5 h.so
  refine fR (aj5 @tmz @h2' @Zep @h4 @h5) ?_;exact fT @hf
 have h0:=h2.1;obtain ⟨o,ho⟩:∃ o,g.ops[t.op.toNat]?=some o:=⟨_,Taa om⟩;obtain ⟨d,hd,hr0,hr1,hargs⟩:=hg.first ho;have hgt:Zdl g t->AppOk g t o d:=fun h=>by
  obtain ⟨o',d',h⟩:=h.app h1;have e1:=h.at';rw [ho] at e1;injection e1 with e1
  subst e1;have e2:=h.fst;rw [hd] at e2;injection e2 with e2
  subst e2;exact h
 have cA:=ZfB hd;rw [Zbc] at cA;refine fR (aj5 @tmz @h2' @Zep @h4 @h5) ?_;refine fG (aj4 @tmz @h0 @ho @Zao) ?_
 cases ha:o.assoc with
 | false =>
  rw [ha] at cA;refine gB ?_;refine fC (ai @tmz @ha) (cA) ?_;by_cases c:t.args.length=d.args.length
  ·have hT:=ZfG (g:=g) (.inr ⟨o,d,h0,ho,hd,h4,h5,fun h=>(by rw [ha] at h;cases h),fun _=>c⟩);have c':((t.args.length:Int)=(d.args.length:Int)):=om;refine fR (aj3 @tmz @c' @ha) ?_;exact fT @hT
  ·have hf:=hno fun h=>c ((hgt h).nas ha);have c':¬ ((t.args.length:Int)=(d.args.length:Int)):=om;refine fR (aj3 @tmz @c' @ha) ?_;exact fT @hf
 | true =>
  refine gB ?_;refine fC (ai @tmz @ha) (ZdN _ _ _) ?_;by_cases c:2<=t.args.length∧t.args.length<=7
  ·have hT:=ZfG (g:=g) (.inr ⟨o,d,h0,ho,hd,h4,h5,fun _=>c,fun h=>(by rw [ha] at h;cases h)⟩);have c':decide ((2:Int)<=(t.args.length:Int)∧(t.args.length:Int)<=7)=true:=by simp only [decide_eq_true_eq];omega
   refine fR (aj3 @tmz @c' @ha) ?_;exact fT @hT
  ·have hf:=hno fun h=>c ((hgt h).asc ha);have c':decide ((2:Int)<=(t.args.length:Int)∧(t.args.length:Int)<=7)=false:=by simp only [decide_eq_false_iff_not];omega
   refine fR (aj3 @tmz @c' @ha) ?_;exact fT @hf
end
section
variable {g:Sgn}
open Classical in
noncomputable def Zet (g:Sgn) (op:Int) (args:List Tm):Bool:=decide (Zje g op args)
theorem ZiF (hg:SgnOk g) {op:Int} {o:Opr} (ho:g.ops[op.toNat]?=some o) (hu:o.unit≠0) {a:Tm} (ha:Zbs g a) (hop:a.op=o.unit - 1):a=ZbB o:=by
 have hax:=hg.axs o (Tac ho);have hlo:=hax.lo;obtain ⟨p,u,h⟩:=ha.node.app om;obtain ⟨d,hd,_⟩:=hg.first ho;have e:a.op.toNat=o.unit.toNat - 1:=om;have hz:u.args.length=0:=by
  have h2:=hax.two (.inr (.inr hu)) d hd;obtain ⟨d0,hd0⟩:∃ x,d.args[0]?=some x:=⟨_,Taa om⟩;obtain ⟨d1,hd1⟩:∃ x,d.args[1]?=some x:=⟨_,Taa om⟩;exact ((h2.2 d0 d1 hd0 hd1).2.2 hu p u (by rw [<- e];exact h.at') h.fst).1
 have has:p.assoc=false:=by
  cases hp:p.assoc with
  | false=>rfl
  | true =>
   have:=((hg.axs p (Tac h.at')).two (.inl hp) u h.fst).1;omega
 have hl:=h.nas has;have hnil:a.args=[]:=Tao om;have hnm:=h.nm;have hso:=h.so
 cases a with
 | mk x n s l =>
  simp only [Tm.args,Tm.name,Tm.sort,Tm.op] at *;subst hnil hnm hso hop;simp only [ZbB,if_neg hu]
theorem ZmU {o:Opr} (h0:0<=o.unit) (h1:o.unit<=14):okTm (ZbB o):=by
 rw [Zfp];simp only [ZbB,Tm.op,Tm.name,Tm.sort,Tm.args,ZaG,and_true];refine ⟨?_,by simp [maxLen],?_⟩
 ·unfold I64;split <;> omega
 ·unfold I64;omega
theorem Zqi (hokg:Zdv g) (hg:SgnOk g) {t:Tm} {o:Opr} {d:Dcl} (hA:AppOk g t o d) (hF:∀ a∈t.args,Zbs g a) (hok:okTm t) (hb:sizeTm t<=big):Con e0 92 [.agg (ZaJ g),.agg (Zad t)] [.one (.lit (.bool (Zet g t.op t.args)))]:=by
 have hno:¬ Zje g t.op t.args->Zet g t.op t.args=false:=fun h=>by simp [Zet,h]
 obtain ⟨k1,k2,k3,k4⟩:=Zfp.1 hok;have hsz:=ZcI t;have hal:=Zb0 t.args;unfold big at hb;have h0:=hA.lo;have ho:=hA.at';have hd:=hA.fst;obtain ⟨d',hd',hr0,hr1,hargs⟩:=hg.first ho;rw [hd] at hd';injection hd' with hd'
 subst hd';have hax:=hg.axs o (Tac ho);have hlo:=hax.lo;have hhi:=hax.hi;have hln:=hg.len;have cK:=ZeE hg.sorts;rw [Zbq] at cK;have cUn:=Zla hg h0 ho;rw [ZaJ] at cUn;have hnoA:∀ (i:Nat) a,t.args[i]?=some a->¬ ArgOk g t.op o d t.args i a->Zet g t.op t.args=false:=fun i a ha h=>hno fun hR=>h (hR o d ho hd i a ha);refine gI 9903595872146772515857895423 Tryz.func92 ?_;refine fB (aj5 @tmz @ZaE @h0 @ho @Zao) ?_
 refine fC @tmz (cK) ?_;refine fR @tmz ?_;refine fB @tmz ?_;refine fC @tmz (cUn) ?_;refine fR @tmz ?_;refine fG @tmz ?_;have F:=@e0P;refine gL (ι:=Nat) [4,9,10,11,32,42,76,93] [] (fun i=>[(9,A.d (.one (.lit (.int .i64 i))))]) (fun i=>[]) (fun i=>i<=t.args.length∧∀ (j:Nat) a,j < i->t.args[j]?=some a->ArgOk g t.op o d t.args j a) (fun i=>t.args.length - i) (0) (⟨om,fun j a h=>absurd h om⟩) (fun i hi=>?_);clear F
 obtain ⟨hil,hall⟩:=hi;by_cases hl:i < t.args.length;rotate_left
 ·have hl':¬ ((i:Int) < (t.args.length:Int)):=om;have hT:Zet g t.op t.args=true:=by
   simp only [Zet,decide_eq_true_eq];intro o' d' ho' hd' j a hj;rw [ho] at ho';injection ho' with ho'
   subst ho';rw [hd] at hd';injection hd' with hd'
   subst hd';exact hall j a (by have:=(Tad.1 hj).1;omega) hj
  exact fT (aj3 @tmz @hl' @hT)
 have hl':(i:Int) < (t.args.length:Int):=om;obtain ⟨a,ha⟩:∃ a,t.args[i]?=some a:=⟨_,Taa hl⟩;have hm:=Tac ha;have hFa:=hF a hm;have hw1:=Zaw (k:=i) om;obtain ⟨k,hk⟩:=ZgN hg ho hd hA.nas hl;obtain ⟨hk0,hk1⟩:=hargs k (Tac hk);have hkd:=Zgy hg.sorts hk0 hk1;have cKa:=Zf8 hokg hg hFa.node;rw [ZaJ] at cKa;have cU:=Zf7 (k4.mem hm) (ZmU (o:=o) hlo om);have hUiff:o.unit≠0->(Zam a (ZbB o)=0 ↔ a.op=o.unit - 1):=fun hu=>by
  rw [ZmO];constructor
  ·rintro h;rw [h];simp [ZbB,Tm.op,hu]
  ·exact ZiF hg ho hu hFa
 generalize hU:decide (Zam a (ZbB o)=0)=U at cU;have hnext:Za4 g a=((kd g.sorts k:Nat):Int)->(o.assoc=true->¬ a.op=t.op)->(o.unit≠0->U=false)->(o.comm=true->∀ (j:Nat) p,i=j+1->t.args[j]?=some p->Zam p a<=0)->i+1<=t.args.length∧∀ (j:Nat) a,j < i+1->t.args[j]?=some a->ArgOk g t.op o d t.args j a:=fun hkk hne hU' hc=>⟨om,fun j a' hj ha'=>by
  by_cases e:j=i
  ·subst e;rw [ha] at ha';injection ha' with ha'
   subst ha';refine ⟨fun k' hk'=>?_,hne,fun h1 h2=>?_,hc⟩
   ·rw [hk] at hk';injection hk' with hk'
    subst hk';exact hkk
   ·have:=hU' h1;rw [this] at hU;simp only [decide_eq_false_iff_not] at hU;exact hU ((hUiff h1).2 h2)
  ·exact hall j a' om ha'⟩
 have hkN:d.args[(argAt o i:Nat)]?=some k:=hk;refine fG (aj3 @tmz @hl' @ha) ?_;refine gM (ι:=Unit) [11] [] (fun u=>[(11,A.d (.one (.lit (.int .i64 (argAt o i:Nat)))))]) (fun u=>[]) (fun u=>True) ?_ (fun u hu=>Exists.intro _ (ai (Wk.refl _) ?_))
 ·rcases Bool.eq_false_or_eq_true o.assoc with hac | hac
  ·have F:=aj3 @Zao @hac @Zjd;refine gG ?_;exact ⟨(),trivial,gw,gw⟩
  ·have F:=aj4 @Zao @hac @Zjd @if_false.{1};refine gG ?_;exact ⟨(),trivial,gw,gw⟩
 refine fG @tmz ?_;refine gM (ι:=Bool) [76] [] (fun x=>[(76,A.d (.one (.lit (.bool x))))]) (fun x=>[]) (fun x=>(x=true->Zet g t.op t.args=false)∧(x=false->Za4 g a=((kd g.sorts k:Nat):Int)∧(o.assoc=true->¬ a.op=t.op)∧(o.unit≠0->U=false))) ?_ (fun x hx=>Exists.intro _ (ai (Wk.refl _) ?_))
 ·refine gB ?_;refine fC @tmz (cKa) ?_;by_cases hkk:Za4 g a=((kd g.sorts k:Nat):Int);rotate_left
  ·have hf:=hnoA i a ha fun h=>hkk (h.kind k hk);refine fR (aj9 @tmz @Zao @hd @Za0 @hkN @hk0 @hkd @Zbg @hkk) ?_;have F:=@tmz;refine gG ?_;exact ⟨true,⟨fun _=>hf,fun h=>by cases h⟩,gw,gw⟩
  by_cases hN:o.assoc=true∧a.op=t.op
  ·have hf:=hnoA i a ha fun h=>h.nest hN.1 hN.2;obtain ⟨hN1,hN2⟩:=hN;refine fR (aj11 @tmz @Zao @hd @Za0 @hkN @hk0 @hkd @Zbg @hkk @hN1 @hN2) ?_;have F:=ai @tmz @hN1;refine gG ?_;exact ⟨true,⟨fun _=>hf,fun h=>by cases h⟩,gw,gw⟩
  have hne:o.assoc=true->¬ a.op=t.op:=fun h1 h2=>hN ⟨h1,h2⟩;rcases Bool.eq_false_or_eq_true o.assoc with hac | hac
  all_goals (
   by_cases hu:o.unit=0
   ·refine fR (aj12 @tmz @Zao @hd @Za0 @hkN @hk0 @hkd @Zbg @hkk @hac @hne @hu) ?_;have F:=aj3 @tmz @hac @hu;refine gG ?_;exact ⟨false,⟨fun h=>(by cases h),fun _=>⟨hkk,hne,fun h=>absurd hu h⟩⟩,gw,gw⟩
   refine fC (aj12 @tmz @Zao @hd @Za0 @hkN @hk0 @hkd @Zbg @hkk @hac @hne @hu) (cU) ?_;rcases Bool.eq_false_or_eq_true U with hub | hub
   ·have hf:=hnoA i a ha fun h=>by
     rw [hub] at hU;simp only [decide_eq_true_eq] at hU;exact h.unit hu ((hUiff hu).1 hU)
    refine fR (ai @tmz @hub) ?_;have F:=aj3 @tmz @hac @hu;refine gG ?_;exact ⟨true,⟨fun _=>hf,fun h=>by cases h⟩,gw,gw⟩
   ·refine fR (ai @tmz @hub) ?_
    (have F:=aj3 @tmz @hac @hu;refine gG ?_;exact ⟨false,⟨fun h=>(by cases h),fun _=>⟨hkk,hne,fun _=>hub⟩⟩,gw,gw⟩))
 cases x with
 | true =>
  have hf:=hx.1 rfl;exact fT @hf
 | false =>
  obtain ⟨hkk,hne,hub⟩:=hx.2 rfl;refine fG @tmz ?_;rcases Bool.eq_false_or_eq_true o.comm with hcm | hcm
  rotate_left
  ·have hq:=hnext hkk hne hub (fun h=>by rw [hcm] at h;cases h);have F:=aj4 @hw1 @tmz @Zao @hcm;refine gG ?_;exact ⟨i+1,hq,gw,gw,om⟩
  rcases Nat.eq_zero_or_pos i with hi0 | hi0
  ·have hq:=hnext hkk hne hub (fun _ j p h=>om);have hi0':¬ ((0:Int) < (i:Int)):=om;have F:=aj5 @hw1 @tmz @Zao @hcm @hi0';refine gG ?_;exact ⟨i+1,hq,gw,gw,om⟩
  obtain ⟨j,hj⟩:∃ j,i=j+1:=⟨i - 1,om⟩;obtain ⟨p,hp⟩:∃ p,t.args[j]?=some p:=⟨_,Taa om⟩;have cC:=Zfy (k4.mem (Tac hp)) (k4.mem hm);have hgt0:(0:Int) < (i:Int):=om;have hsub:IntKind.i64.wrap ((i:Int) - 1)=(j:Int):=Za6 om om om;refine gB ?_;refine fC (aj6 @tmz @Zao @hcm @hgt0 @hsub @hp) (cC) ?_;by_cases hc:0 < Zam p a
  ·have hf:=hnoA i a ha fun h=>by have:=h.ord hcm j p hj hp;omega
   refine fR (ai @tmz @hc) ?_;exact fT @hf
  ·have hq:=hnext hkk hne hub (fun _ j' p' h hp'=>by
    have:j'=j:=om;subst this;rw [hp] at hp';injection hp' with hp'
    subst hp';omega)
   refine fR (ai @tmz @hc) ?_;have F:=aj4 @hw1 @tmz @Zao @hcm;refine gG ?_;exact ⟨i+1,hq,gw,gw,om⟩
theorem Zl9 (hokg:Zdv g) (hg:SgnOk g):∀ (n:Nat) (t:Tm),sizeTm t < n->okTm t->sizeTm t<=big->Con e0 53 [.agg (ZaJ g),.agg (Zad t)] [.one (.lit (.bool (ZbN g t)))]:=by
 intro n
 induction n with
 | zero=>intro t h;omega
 | succ n ih =>
  intro t hn hok hb;have hno:¬ Zbs g t->ZbN g t=false:=ZiC;obtain ⟨k1,k2,k3,k4⟩:=Zfp.1 hok;have hsz:=ZcI t;have hal:=Zb0 t.args;have cN:=ZsU hg hok hb;have hb':=hb;unfold big at hb';rw [ZaJ] at cN;have ih':=fun a h1 h2 h3=>ih a h1 h2 h3;simp only [ZaJ] at ih';refine gI 16794175 Tryz.func53 ?_;refine fB (ai @tmz @ZaE) ?_;refine fC @tmz (cN) ?_;by_cases hN:ZeJ g t=true;rotate_left
  ·have hf:=hno fun h=>hN (ZfG h.node);have hN':ZeJ g t=false:=by simpa using hN
   refine fR (ai @tmz @hN') ?_;exact fT @hf
  have hNd:=ZsT.1 hN;refine fR (ai @tmz @hN) ?_;refine fG @tmz ?_;have F:=@e0P;refine gL (ι:=Nat) [4,5,14,24] [] (fun i=>[(5,A.d (.one (.lit (.int .i64 i))))]) (fun i=>[]) (fun i=>i<=t.args.length∧∀ (j:Nat) a,j < i->t.args[j]?=some a->Zbs g a) (fun i=>t.args.length - i) (0) (⟨om,fun j a h=>absurd h om⟩) (fun i hi=>?_);clear F;obtain ⟨hil,hall⟩:=hi;by_cases hl:i < t.args.length;rotate_left
  ·have hl':¬ ((i:Int) < (t.args.length:Int)):=om;have hF:∀ a∈t.args,Zbs g a:=fun a ha=>by
    obtain ⟨j,hj⟩:=Tbk ha;exact hall j a (by have:=(Tad.1 hj).1;omega) hj
   by_cases h1:t.op=-1
   ·have hT:=ZfD (g:=g) (t:=t) (ZbJ.2 ⟨hNd,hF,.inl h1⟩);exact fT (aj4 @tmz @hl' @h1 @hT)
   obtain ⟨o,d,hA⟩:=hNd.app h1;have cR:=Zqi hokg hg hA hF hok hb;rw [ZaJ] at cR;have e:Zet g t.op t.args=ZbN g t:=by
    unfold Zet ZbN;congr 1;rw [ZbJ];exact propext ⟨fun h=>⟨hNd,hF,.inr h⟩,fun h=>h.2.2.resolve_left h1⟩
   refine fB (aj3 @tmz @hl' @h1) ?_;refine fC (ai @tmz @h1) (cR) ?_;refine fR @tmz ?_;exact fT @e
  have hl':(i:Int) < (t.args.length:Int):=om;obtain ⟨a,ha⟩:∃ a,t.args[i]?=some a:=⟨_,Taa hl⟩;have hm:=Tac ha;have hsa:=Zc5 hm;have hw1:=Zaw (k:=i) om;refine fB (aj3 @tmz @hl' @ha) ?_;refine fC (ai @tmz @ha) (ih' a om (k4.mem hm) (by unfold big;omega)) ?_;by_cases hfa:ZbN g a=true;rotate_left
  ·have hf:=hno fun h=>hfa (ZfD ((ZbJ.1 h).2.1 a hm));have hfa':ZbN g a=false:=by simpa using hfa
   refine fR (ai @tmz @hfa') ?_;exact fT @hf
  have hq:i+1<=t.args.length∧∀ (j:Nat) a,j < i+1->t.args[j]?=some a->Zbs g a:=⟨om,fun j a' hj ha'=>by
   by_cases e:j=i
   ·subst e;rw [ha] at ha';injection ha' with ha'
    subst ha';exact Zf6.1 hfa
   ·exact hall j a' om ha'⟩
  refine fR (ai @tmz @hfa) ?_;have F:=ai @hw1 @tmz;refine gG ?_;exact ⟨i+1,hq,gw,gw,om⟩
theorem ZhO (hokg:Zdv g) (hg:SgnOk g) {t:Tm} (hok:okTm t) (hb:sizeTm t<=big):Con e0 53 [.agg (ZaJ g),.agg (Zad t)] [.one (.lit (.bool (ZbN g t)))]:=Zl9 hokg hg _ t (Tan _) hok hb
theorem Zhg (hokg:Zdv g) {t:Tm} (hok:okTm t) (hb:sizeTm t<=big):Con e0 22 [.agg (ZaJ g),.agg (Zad t)] [.one (.lit (.bool (Zb8 g && Zbd g t)))]:=by
 have cS:=ZgZ hokg;rw [ZaJ] at cS;refine gI 31 Tryz.func22 ?_;refine fB (ai @tmz @ZaE) ?_;refine fC @tmz (cS) ?_;by_cases hs:Zb8 g=true;rotate_left
 ·have hs':Zb8 g=false:=by simpa using hs
  refine fR (ai @tmz @hs') ?_;exact fT @hs'
 have hg:=Zeb.1 hs;have cF:=ZhO hokg hg hok hb;rw [ZaJ] at cF;refine fC (ai @tmz @hs) (ZfF hb) ?_;by_cases h1:sizeTm t<=60∧depthTm t<=20;rotate_left
 ·have hf:Zbd g t=false:=Zfb fun h=>h1 ⟨h.size,h.depth⟩;have h1':decide (sizeTm t<=60∧depthTm t<=20)=false:=by simp only [decide_eq_false_iff_not];exact h1
  refine fR (aj3 @tmz @h1' @hs) ?_;exact fT (ai @hs @hf)
 have h1':decide (sizeTm t<=60∧depthTm t<=20)=true:=by simp only [decide_eq_true_eq];exact h1
 have e:=ZfE (g:=g) h1.1 h1.2;refine fC (aj3 @tmz @h1' @hs) (cF) ?_;refine fR (aj3 @tmz @h1' @hs) ?_;exact fT (ai @hs @e)
end
def Zbp (o:Opr) (op:Int) (a:Tm):List Tm:=if o.assoc=true∧a.op=op then a.args else if o.unit≠0∧a.op=o.unit - 1 then [] else [a]
def Zav (o:Opr) (op:Int) (xs:List Tm):List Tm:=xs.flatMap (Zbp o op)
def KArg (g:Sgn) (o:Opr) (d:Dcl) (i:Nat) (a:Tm):Prop:=∃ k,d.args[argAt o i]?=some k∧Za4 g a=kd g.sorts k
def srtO (o:Opr) (l:List Tm):List Tm:=if o.comm=true then ZaB l else l
def appT (op:Int) (l:List Tm):Tm:=.mk op ByteArray.empty 0 l
def BigT (o:Opr) (op:Int) (l:List Tm):Prop:=(o.assoc=true∧7 < l.length)∨60 < sizeTm (appT op l)∨20 < depthTm (appT op l)
def ArB (o:Opr) (d:Dcl) (n:Nat):Prop:=(o.assoc=true∧n < 2)∨(o.assoc=false∧n≠d.args.length)
open Classical in
noncomputable def mkL (o:Opr) (op:Int) (l:List Tm):Option Tm:=if o.unit≠0∧l.length < 2 then some (l.headD (ZbB o)) else if BigT o op (srtO o l) then none else some (appT op (srtO o l))
open Classical in
noncomputable def mkO (g:Sgn) (o:Opr) (d:Dcl) (op:Int) (xs:List Tm):Option Tm:=if ArB o d xs.length then none else if ∀ (i:Nat) a,xs[i]?=some a->KArg g o d i a then mkL o op (Zav o op xs) else none
noncomputable def mkT (g:Sgn) (op:Int) (xs:List Tm):Option Tm:=match g.ops[op.toNat]? with
 | none=>none
 | some o=>match o.decls[0]? with
  | none=>none
  | some d=>mkO g o d op xs
theorem ZwB {g:Sgn} {op:Int} {o:Opr} {d:Dcl} (ho:g.ops[op.toNat]?=some o) (hd:o.decls[0]?=some d) (xs:List Tm):mkT g op xs=mkO g o d op xs:=by simp only [mkT,ho,hd]
theorem ZjN {o:Opr} {op:Int} {i:Nat} {a:Tm} (h:xs[i]?=some a):Zav o op (xs.take (i+1))=Zav o op (xs.take i)++Zbp o op a:=by
 rw [Zdb h];simp [Zav]
theorem ZgP (o:Opr) (op:Int) (xs:List Tm) (i:Nat):(Zav o op (xs.take i)).length<=(Zav o op xs).length:=by
 have:Zav o op xs=Zav o op (xs.take i)++Zav o op (xs.drop i):=by
  unfold Zav;rw [<- List.flatMap_append,Tbm]
 rw [this,Tae];omega
theorem ZeZ (o:Opr) (l:List Tm):(srtO o l).Perm l:=by
 unfold srtO;split
 ·exact Za7 l
 ·exact List.Perm.refl _
theorem Zka (o:Opr) (l:List Tm):(srtO o l).length=l.length:=(ZeZ o l).length_eq
theorem ZiG {m:List Tm} (h:l.Perm m):sizeTms l=sizeTms m:=by
 induction h with
 | nil=>rfl
 | cons x h ih=>simp only [sizeTms,ih]
 | swap x y l=>simp only [sizeTms];omega
 | trans h1 h2 a b=>rw [a,b]
theorem Zh6 {m:List Tm} (h:l.Perm m):depthTms l=depthTms m:=by
 induction h with
 | nil=>rfl
 | cons x h ih=>simp only [depthTms,ih]
 | swap x y l=>simp only [depthTms];omega
 | trans h1 h2 a b=>rw [a,b]
theorem Opr.two {g:Sgn} (hg:SgnOk g) {i:Nat} {o:Opr} {d:Dcl} (ho:g.ops[i]?=some o) (hd:o.decls[0]?=some d) (h:o.assoc=true∨o.comm=true∨o.unit≠0):∃ k1 k2,d.args=[k1,k2]∧kd g.sorts k1=kd g.sorts k2∧((o.assoc=true∨o.unit≠0)->kd g.sorts k1=kd g.sorts d.res):=by
 have h2:=(hg.axs o (Tac ho)).two h d hd;obtain ⟨a,b,hab⟩:=ZAD h2.1;have h3:=h2.2 a b (by rw [hab];rfl) (by rw [hab];rfl);exact ⟨a,b,hab,h3.1,h3.2.1⟩
theorem ZwC {g:Sgn} (hg:SgnOk g) {i:Nat} {o:Opr} {d:Dcl} (ho:g.ops[i]?=some o) (hd:o.decls[0]?=some d) (hu:o.unit≠0):TermOk g (ZbB o)∧Za4 g (ZbB o)=kd g.sorts d.res:=by
 have hax:=hg.axs o (Tac ho);have hlo:=hax.lo;have hhi:=hax.hi;obtain ⟨k1,k2,hk,_⟩:=Opr.two hg ho hd (.inr (.inr hu));obtain ⟨p,hp⟩:∃ p,g.ops[o.unit.toNat - 1]?=some p:=⟨_,Taa om⟩;obtain ⟨u,hfu,_⟩:=hg.first hp;have h2:=((hax.two (.inr (.inr hu)) d hd).2 k1 k2 (by rw [hk];rfl) (by rw [hk];rfl)).2.2 hu p u hp hfu;have e:ZbB o=.mk (o.unit - 1) ByteArray.empty 0 []:=by simp only [ZbB,if_neg hu]
 have hop:((o.unit - 1:Int)).toNat=o.unit.toNat - 1:=om;have has:p.assoc=false:=by
  cases hpa:p.assoc with
  | false=>rfl
  | true=>have:=((hg.axs p (Tac hp)).two (.inl hpa) u hfu).1;omega
 have hA:AppOk g (ZbB o) p u:=by
  rw [e];exact ⟨by simp only [Tm.op];omega,by simp only [Tm.op];rw [hop];exact hp,hfu,rfl,rfl,fun h=>(by rw [has] at h;cases h),fun _=>by simp only [Tm.args,Tak];omega⟩
 refine ⟨⟨?_,?_,ZbJ.2 ⟨.inr ⟨p,u,hA⟩,?_,.inr ?_⟩⟩,?_⟩
 ·rw [e];simp only [sizeTm,sizeTms];omega
 ·rw [e];simp only [depthTm,depthTms];omega
 ·rw [e];intro a ha;simp [Tm.args] at ha
 ·rw [e];intro o' d' _ _ j a ha;simp [Tm.args] at ha
 ·have hneg:¬ ((ZbB o).op=-1):=hA.op;rw [Za4,if_neg hneg,e];simp only [Tm.op];rw [ZhH (by rw [hop];exact hp) hfu,h2.2]
structure FlOk (g:Sgn) (o:Opr) (op:Int) (b:Tm):Prop where
 form:Zbs g b
 size:sizeTm b<=60
 depth:depthTm b<=20
 nest:o.assoc=true->b.op≠op
 unit:o.unit≠0->b.op≠o.unit - 1
theorem ZA5 {g:Sgn} (hg:SgnOk g) {op:Int} {o:Opr} {d:Dcl} (h0:0<=op) (ho:g.ops[op.toNat]?=some o) (hd:o.decls[0]?=some d) {a:Tm} (ha:TermOk g a):∀ b∈Zbp o op a,FlOk g o op b:=by
 intro b hb;unfold Zbp at hb;split at hb
 ·rename_i h;obtain ⟨h1,h2⟩:=h;obtain ⟨_,f2,f3⟩:=ZbJ.1 ha.form;have hR:=f3.resolve_left om;rw [h2] at hR;obtain ⟨j,hj⟩:=Tbk hb;have hA:=hR o d ho hd j b hj;have s1:=Zc5 hb;have s2:=ZoT hb;have s3:=ha.size;have s4:=ha.depth;rw [ZcI] at s3;rw [ZhJ] at s4;exact ⟨f2 b hb,om,om,hA.nest,hA.unit⟩
 ·rename_i h;split at hb
  ·simp at hb
  ·rename_i h';simp only [Tbj] at hb;subst hb;exact ⟨ha.form,ha.size,ha.depth,fun h1 h2=>h ⟨h1,h2⟩,fun h1 h2=>h' ⟨h1,h2⟩⟩
theorem ZwD {g:Sgn} (hg:SgnOk g) {op:Int} {o:Opr} {d:Dcl} (h0:0<=op) (ho:g.ops[op.toNat]?=some o) (hd:o.decls[0]?=some d) (ha:∀ a∈xs,TermOk g a):∀ b∈Zav o op xs,FlOk g o op b:=by
 intro b hb;obtain ⟨a,h1,h2⟩:=List.mem_flatMap.1 hb;exact ZA5 hg h0 ho hd (ha a h1) b h2
theorem ZAf {g:Sgn} (hg:SgnOk g) {op:Int} {o:Opr} {d:Dcl} {k1 k2:Int} (h0:0<=op) (ho:g.ops[op.toNat]?=some o) (hd:o.decls[0]?=some d) (hk:d.args=[k1,k2]) (hkk:kd g.sorts k1=kd g.sorts k2) {a:Tm} (ha:TermOk g a) {i:Nat} (hK:KArg g o d i a):∀ b∈Zbp o op a,Za4 g b=kd g.sorts k1:=by
 have hat:∀ (j:Nat) k,d.args[j]?=some k->kd g.sorts k=kd g.sorts k1:=fun j k h=>by
  rw [hk] at h
  match j,h with
  | 0,h=>simp only [Tat,Taq] at h;rw [h]
  | 1,h=>simp only [Tau,Tat,Taq] at h;rw [<- h,hkk]
  | j+2,h=>simp at h
 intro b hb;unfold Zbp at hb;split at hb
 ·rename_i h;obtain ⟨h1,h2⟩:=h;obtain ⟨_,f2,f3⟩:=ZbJ.1 ha.form;have hR:=f3.resolve_left om;rw [h2] at hR;obtain ⟨j,hj⟩:=Tbk hb;exact (hR o d ho hd j b hj).kind k1 (by rw [argAt,if_pos h1,hk];rfl)
 ·split at hb
  ·simp at hb
  ·simp only [Tbj] at hb;subst hb;obtain ⟨k,h1,h2⟩:=hK;rw [h2,hat _ _ h1]
theorem ZjO {g:Sgn} (hg:SgnOk g) {op:Int} {o:Opr} {d:Dcl} {k1 k2:Int} (h0:0<=op) (ho:g.ops[op.toNat]?=some o) (hd:o.decls[0]?=some d) (hk:d.args=[k1,k2]) (hkk:kd g.sorts k1=kd g.sorts k2) (ha:∀ a∈xs,TermOk g a) (hK:∀ (i:Nat) a,xs[i]?=some a->KArg g o d i a):∀ b∈Zav o op xs,Za4 g b=kd g.sorts k1:=by
 intro b hb;obtain ⟨a,h1,h2⟩:=List.mem_flatMap.1 hb;obtain ⟨i,hi⟩:=Tbk h1;exact ZAf hg h0 ho hd hk hkk (ha a h1) (hK i a hi) b h2
theorem ZwE {o:Opr} {op:Int} (has:o.assoc=false) (a:Tm):(Zbp o op a).length<=1∧((Zbp o op a).length=1->Zbp o op a=[a]):=by
 unfold Zbp;rw [if_neg fun h=>by rw [has] at h;cases h.1];split <;> simp
theorem ZiH {o:Opr} {op:Int} (has:o.assoc=false):∀ (xs:List Tm),(Zav o op xs).length<=xs.length∧((Zav o op xs).length=xs.length->Zav o op xs=xs)
 | []=>⟨Tai _,fun _=>rfl⟩
 | a::xs=>by
  obtain ⟨i1,i2⟩:=ZiH (op:=op) has xs;obtain ⟨j1,j2⟩:=ZwE (op:=op) has a;have e:Zav o op (a::xs)=Zbp o op a++Zav o op xs:=rfl;rw [e,Tae,Tag];refine ⟨om,fun h=>?_⟩;rw [j2 om,i2 om];rfl
theorem ZjP {o:Opr} {op:Int} (has:o.assoc=false) (hu:o.unit=0) (xs:List Tm):Zav o op xs=xs:=by
 induction xs with
 | nil=>rfl
 | cons a xs ih =>
  have e:Zav o op (a::xs)=Zbp o op a++Zav o op xs:=rfl;rw [e,ih];unfold Zbp;rw [if_neg (fun h=>by rw [has] at h;cases h.1),if_neg fun h=>h.1 hu];rfl
theorem Zlg {o:Opr} {op:Int} {g:Sgn} (hg:SgnOk g) (h0:0<=op) (ho:g.ops[op.toNat]?=some o) (hac:o.assoc=true) (hu:o.unit=0):∀ {xs:List Tm},(∀ a∈xs,TermOk g a)->xs.length<=(Zav o op xs).length
 | [],_=>Tai _
 | a::xs,ha=>by
  have ih:=Zlg hg h0 ho hac hu (xs:=xs) fun x hx=>ha x (Tal _ hx);have e:Zav o op (a::xs)=Zbp o op a++Zav o op xs:=rfl;rw [e,Tae,Tag];have:1<=(Zbp o op a).length:=by
   unfold Zbp;split
   ·rename_i h;obtain ⟨o',d',hA⟩:=(ha a Tas).form.node.app om;have:o'=o:=by have:=hA.at';rw [h.2,ho] at this;injection this with this;exact this.symm
    subst this;have:=(hA.asc hac).1;omega
   ·rw [if_neg fun h=>h.1 hu];simp
  omega
theorem ZAI {g:Sgn} (hg:SgnOk g) {op:Int} {o:Opr} {d:Dcl} (h0:0<=op) (ho:g.ops[op.toNat]?=some o) (hd:o.decls[0]?=some d) (ha:∀ a∈xs,TermOk g a) {t:Tm} (h:mkO g o d op xs=some t):TermOk g t∧Za4 g t=kd g.sorts d.res:=by
 unfold mkO at h;split at h
 ·cases h
 rename_i hAr;split at h;rotate_left
 ·cases h
 rename_i hK;have hfl:=ZwD hg h0 ho hd ha;unfold mkL at h;split at h
 ·rename_i hu;obtain ⟨hu,hl⟩:=hu;injection h with h
  have hU:=ZwC hg ho hd hu;obtain ⟨k1,k2,hk,hkk,hkr⟩:=Opr.two hg ho hd (.inr (.inr hu));have hfk:=ZjO hg h0 ho hd hk hkk ha hK
  cases hf:Zav o op xs with
  | nil=>rw [hf] at h;simp only [List.headD] at h;subst h;exact hU
  | cons b bs =>
   rw [hf] at h hfl hfk;simp only [List.headD] at h;subst h;have hb:=hfl b Tas;exact ⟨⟨hb.size,hb.depth,hb.form⟩,by rw [hfk b Tas,hkr (.inr hu)]⟩
 ·rename_i hu;split at h
  ·cases h
  rename_i hB;injection h with h
  subst h;have hB1:¬ (o.assoc=true∧7 < (srtO o (Zav o op xs)).length):=fun q=>hB (.inl q);have hB2:¬ 60 < sizeTm (appT op (srtO o (Zav o op xs))):=fun q=>hB (.inr (.inl q));have hB3:¬ 20 < depthTm (appT op (srtO o (Zav o op xs))):=fun q=>hB (.inr (.inr q));have hp:=ZeZ o (Zav o op xs);have hsl:=hp.length_eq;have hmem:∀ b,b∈srtO o (Zav o op xs) ↔ b∈Zav o op xs:=fun b=>hp.mem_iff;have hneg:¬ ((appT op (srtO o (Zav o op xs))).op=-1):=by simp only [appT,Tm.op];omega
  refine ⟨⟨om,om,ZbJ.2 ⟨.inr ⟨o,d,h0,ho,hd,rfl,rfl,fun hac=>?_,fun has=>?_⟩,fun a hm=>(hfl a ((hmem a).1 hm)).form,.inr ?_⟩⟩,?_⟩
  ·simp only [appT,Tm.args];have:¬ (xs.length < 2):=fun q=>hAr (.inl ⟨hac,q⟩);by_cases hu0:o.unit=0
   ·have:=Zlg hg h0 ho hac hu0 ha;exact ⟨om,by have:¬ (7 < (srtO o (Zav o op xs)).length):=fun q=>hB1 ⟨hac,q⟩;omega⟩
   ·exact ⟨by have:¬ ((Zav o op xs).length < 2):=fun q=>hu ⟨hu0,q⟩;omega,by have:¬ (7 < (srtO o (Zav o op xs)).length):=fun q=>hB1 ⟨hac,q⟩;omega⟩
  ·simp only [appT,Tm.args];have hlen:xs.length=d.args.length:=Classical.byContradiction fun q=>hAr (.inr ⟨has,q⟩);rw [hsl];by_cases hu0:o.unit=0
   ·rw [ZjP has hu0,hlen]
   ·obtain ⟨k1,k2,hk,_⟩:=Opr.two hg ho hd (.inr (.inr hu0));have h1:=(ZiH (op:=op) has xs).1;have:¬ ((Zav o op xs).length < 2):=fun q=>hu ⟨hu0,q⟩;rw [hlen,hk] at h1;rw [hk];simp only [Tag,Tak] at h1 ⊢;omega
  ·intro o' d' ho' hd' i a hi;simp only [appT,Tm.op] at ho';rw [ho] at ho';injection ho' with ho'
   subst ho';rw [hd] at hd';injection hd' with hd'
   subst hd';simp only [appT,Tm.args] at hi ⊢;have hm:=Tac hi;have hf:=hfl a ((hmem a).1 hm);refine ⟨fun k hk=>?_,hf.nest,hf.unit,fun hc j p hij hj=>?_⟩
   ·by_cases hax:o.assoc=true∨o.comm=true∨o.unit≠0
    ·obtain ⟨k1,k2,hka,hkk,_⟩:=Opr.two hg ho hd hax;have hfk:=ZjO hg h0 ho hd hka hkk ha hK a ((hmem a).1 hm);rw [hfk];have:kd g.sorts k=kd g.sorts k1:=by
      generalize argAt o i=n at hk;rw [hka] at hk
      match n,hk with
      | 0,hk=>simp only [Tat,Taq] at hk;rw [hk]
      | 1,hk=>simp only [Tau,Tat,Taq] at hk;rw [<- hk,hkk]
      | n+2,hk=>simp at hk
     rw [this]
    ·have has:o.assoc=false:=by cases h:o.assoc with | false=>rfl | true=>exact absurd (.inl h) hax
     have hc:o.comm=false:=by cases h:o.comm with | false=>rfl | true=>exact absurd (.inr (.inl h)) hax
     have hu0:o.unit=0:=Classical.byContradiction fun q=>hax (.inr (.inr q));rw [srtO,if_neg (by rw [hc];simp),ZjP has hu0] at hi;obtain ⟨k',h1,h2⟩:=hK i a hi;rw [hk] at h1;injection h1 with h1
     rw [h2,h1]
   ·rw [srtO,if_pos hc] at hi hj;exact (Zcl _).get om hj hi
  ·rw [Za4,if_neg hneg];simp only [appT,Tm.op];rw [ZhH ho hd]
theorem Zbs.ok {g:Sgn} (hg:SgnOk g):∀ (n:Nat) (t:Tm),sizeTm t < n->Zbs g t->okTm t:=by
 intro n
 induction n with
 | zero=>intro t h;omega
 | succ n ih =>
  intro t hn hf;obtain ⟨h1,h2,_⟩:=ZbJ.1 hf;have hargs:ZaG t.args:=by
   have:∀ l:List Tm,(∀ a∈l,okTm a)->ZaG l:=fun l=>by
    induction l with
    | nil=>intro _;trivial
    | cons x xs ih=>intro h;exact ⟨h x Tas,ih fun a ha=>h a (Tal _ ha)⟩
   refine this _ fun a ha=>ih a ?_ (h2 a ha);have:=Zc5 ha;rw [ZcI] at hn;omega
  rw [Zfp];have hsn:g.sorts.names.length<=8:=hg.sorts.n8;rcases h1 with hv | ⟨o,d,hA⟩
  ·obtain ⟨v1,v2,v3,v4,v5⟩:=hv;have:t.name.size<=12:=by unfold Zbr at v2;simp only [Tar,decide_eq_true_eq] at v2;exact v2.1.1.1.2
   exact ⟨by unfold I64;omega,by unfold maxLen;omega,by unfold I64;omega,hargs⟩
  ·have h3:=hA.lo;have h4:=(Tad.1 hA.at').1;have h5:=hg.len;rw [hA.nm,hA.so];exact ⟨by unfold I64;omega,by simp [maxLen],by unfold I64;omega,hargs⟩
theorem TermOk.ok {g:Sgn} (hg:SgnOk g) {t:Tm} (h:TermOk g t):okTm t:=Zbs.ok hg _ t (Tan _) h.form
theorem TermOk.app {g:Sgn} {t a:Tm} (h:TermOk g t) (ha:a∈t.args):∃ o d,AppOk g t o d:=by
 rcases h.form.node with hv | h
 ·rw [hv.2.2.2.2] at ha;cases ha
 ·exact h
theorem Zo3 {g:Sgn} (hg:SgnOk g) {op:Int} (h0:0<=op) (ha:∀ a∈xs,TermOk g a) {t:Tm} (h:mkT g op xs=some t):TermOk g t:=by
 unfold mkT at h
 cases ho:g.ops[op.toNat]? with
 | none=>rw [ho] at h;cases h
 | some o =>
  rw [ho] at h;simp only at h
  cases hd:o.decls[0]? with
  | none=>rw [hd] at h;cases h
  | some d =>
   rw [hd] at h;exact (ZAI hg h0 ho hd ha h).1
def zTm:Tm:=.mk 0 ByteArray.empty 0 []
theorem Zeu:Zad zTm=[.lit (.int .i64 0),.lit (.string ByteArray.empty),.lit (.int .i64 0),.sl []]:=by simp [zTm,Zad,Zaa]
theorem Zfd:Zaa []=[]:=by simp [Zaa]
def Zan (w:World):List (List C)->(Nat->Prop)->List (List Value)->Prop
 | [],_,[]=>True
 | r::rs,S,us::uss=>∃ S1 S2:Nat->Prop,(∀ x,S1 x->S x)∧(∀ x,S2 x->S x)∧(∀ x,S1 x->S2 x->False)∧Zag w r S1 us∧Zan w rs S2 uss
 | _,_,_=>False
def Zaf (us:List Value):List C:=us.map .lit
section
variable {w w':World}
theorem Zan.keep (hz:w.heap.size<=w'.heap.size):∀ (rows:List (List C)) (S S':Nat->Prop) (uss:List (List Value)),(∀ b,S b->w'.heap[b]?=w.heap[b]?)->(∀ b,S b->S' b)->Zan w rows S uss->Zan w' rows S' uss
 | [],_,_,[],_,_,_=>trivial
 | r::rs,S,S',us::uss,hk,hS,h=>by
  obtain ⟨S1,S2,h1,h2,hd,hr,hrs⟩:=h;exact ⟨S1,S2,fun x hx=>hS x (h1 x hx),fun x hx=>hS x (h2 x hx),hd,Zag.keep hz r S1 S1 us (fun x hx=>hk x (h1 x hx)) (fun _ h=>h) hr,Zan.keep hz rs S2 S2 uss (fun x hx=>hk x (h2 x hx)) (fun _ h=>h) hrs⟩
 | [],_,_,_::_,_,_,h=>h.elim
 | _::_,_,_,[],_,_,h=>h.elim
theorem Zan.len:∀ {rows:List (List C)} {S:Nat->Prop} {uss:List (List Value)},Zan w rows S uss->uss.length=rows.length
 | [],_,[],_=>rfl
 | r::rs,S,us::uss,⟨S1,S2,_,_,_,_,h⟩=>by simp [Zan.len h]
theorem Zan.snoc:∀ {rows:List (List C)} {r:List C} {S S1 S2:Nat->Prop} {uss:List (List Value)} {us:List Value},Zan w rows S1 uss->Zag w r S2 us->(∀ x,S1 x->S x)->(∀ x,S2 x->S x)->(∀ x,S1 x->S2 x->False)->Zan w (rows++[r]) S (uss++[us])
 | [],r,S,S1,S2,[],us,_,h2,i1,i2,hd=>⟨S2,fun _=>False,i2,fun _ h=>h.elim,fun _ _ h=>h,h2,trivial⟩
 | q::qs,r,S,S1,S2,vs::vss,us,⟨T1,T2,a1,a2,a3,a4,a5⟩,h2,i1,i2,hd =>
  ⟨T1,fun x=>T2 x∨S2 x,fun x hx=>i1 x (a1 x hx),fun x hx=>hx.elim (fun h=>i1 x (a2 x h)) (i2 x),fun x hx hy=>hy.elim (a3 x hx) (hd x (a1 x hx)),a4,
   Zan.snoc a5 h2 (fun _ h=>.inl h) (fun _ h=>.inr h) (fun x hx hy=>hd x (a2 x hx) hy)⟩
 | [],_,_,_,_,_::_,_,h,_,_,_,_=>h.elim
 | _::_,_,_,_,_,[],_,h,_,_,_,_=>h.elim
theorem Zan.get:∀ {rows:List (List C)} {S:Nat->Prop} {uss:List (List Value)} {i:Nat} {r:List C} {us:List Value},Zan w rows S uss->rows[i]?=some r->uss[i]?=some us->Zag w r S us
 | r::rs,S,us::uss,0,r',us',⟨S1,S2,h1,_,_,h,_⟩,hr,hu=>by
  simp at hr hu;subst hr hu;exact Zag.keep (Tai _) r S1 S us (fun _ _=>rfl) h1 h
 | r::rs,S,us::uss,i+1,r',us',⟨S1,S2,_,h2,_,_,h⟩,hr,hu =>
  Zag.keep (Tai _) r' S2 S us' (fun _ _=>rfl) h2 (Zan.get h (by simpa using hr) (by simpa using hu))
 | [],_,_,_,_,_,_,hr,_=>by simp at hr
 | _::_,_,[],_,_,_,h,_,_=>h.elim
theorem Zan.stable (rows:List (List C)) (E:Nat->Prop) (uss:List (List Value)):ZdI E (fun w=>Zan w rows E uss):=fun w w' hz hk h=>Zan.keep hz rows E E uss hk (fun _ h=>h) h
theorem Zag.stable (r:List C) (E:Nat->Prop) (us:List Value):ZdI E (fun w=>Zag w r E us):=fun w w' hz hk h=>Zag.keep hz r E E us hk (fun _ h=>h) h
theorem Own.stable (c:C) (E:Nat->Prop) (v:Value):ZdI E (fun w=>Own w c E v):=fun w w' hz hk h=>Own.keep hz c E E v hk (fun _ h=>h) h
theorem Zg2 {S:Nat->Prop}:∀ {us vs:List Value},Zab w S (Zaf us) vs->vs=us
 | [],[],_=>rfl
 | u::us,v::vs,h=>by
  simp only [Zaf,Tbq,Zab,Rep] at h;rw [h.1,Zg2 h.2]
 | [],_::_,h=>by simp [Zaf,Zab] at h
 | _::_,[],h=>by simp [Zaf,Zab] at h
theorem Za2.close {b:Nat} {T:Nat->Prop}:∀ {rows:List (List C)} {uss:List (List Value)} {S:Nat->Prop} {off:Nat},Zas w T b off (uss.map Zaf)->Zan w rows S uss->Za2 w b rows S off
 | [],[],_,_,_,_=>by simp [Za2]
 | r::rs,us::uss,S,off,hr,⟨S1,S2,h1,h2,hd,hv,hvs⟩=>by
  simp only [Tbq,Zas] at hr;simp only [Za2];obtain ⟨vs,q1,q2⟩:=hr.1.vals;have e:=Zg2 q1;subst e;have hl:(Zaf vs).length=r.length:=by simp [Zaf,Zag.len hv]
  refine ⟨S1,S2,h1,h2,hd,ZbE.of_vals r S1 vs off hv q2,?_⟩;rw [<- hl];exact Za2.close hr.2 hvs
 | [],_::_,_,_,_,h=>h.elim
 | _::_,[],_,_,_,h=>h.elim
theorem Own.close {T:Nat->Prop} {uss:List (List Value)} {a:Option Addr} (hb:Za5 w T ety sz (uss.map Zaf) (.slice a uss.length cap)) (hv:Zan w rows E uss) (hd:∀ b,vblk (.slice a uss.length cap)=some b->¬ E b) :
  Own w (.sl rows) (fun b=>vblk (.slice a uss.length cap)=some b∨E b) (.slice a uss.length cap):=by
 have hlen:=hv.len;obtain ⟨h1,h2,h3⟩:=hb;simp only [Own];rcases h3 with ⟨h4,a',h5⟩ | ⟨g,cap',cur,h5,hc,hg,hs,hh,hl,hm,hcs,hr⟩
 ·injection h5 with e1 e2 e3
  subst e1 e3;have hu0:uss=[]:=by simpa using h4
  exact ⟨a,uss.length,0,rfl,hlen.symm,by rw [hu0];exact Tai _,by decide,fun h=>absurd h (by decide)⟩
 ·injection h5 with e1 e2 e3
  subst e1 e3;have hvb:vblk (.slice (some ⟨g,0,none⟩) uss.length cap)=some g:=by simp only [vblk];rw [if_neg om]
  simp only [Tay] at hl;refine ⟨_,uss.length,cap,rfl,hlen.symm,hl,hm,fun h0=>⟨g,0,E,rfl,.inl hvb,hg,⟨fun o=>frozen_of_row w g o cur ety hh,rfl,cur,ety,sz,hh,hcs,h1,fun r hr0=>?_⟩,fun x hx=>⟨.inr hx,fun e=>hd g hvb (e ▸ hx)⟩,Za2.close hr hv⟩⟩;obtain ⟨i,hi⟩:=Tbk hr0;have hil:=(Tad.1 hi).1;obtain ⟨us,hu⟩:∃ us,uss[i]?=some us:=⟨_,Taa om⟩;have hq:=(h2 (Zaf us) (Tbi.2 ⟨us,Tac hu,rfl⟩)).1;have hq2:=Zag.len (hv.get hi hu)
  simp only [Zaf,Tay] at hq;omega
theorem ZbE.open {b:Nat}:∀ {cs:List C} {S:Nat->Prop} {off:Nat},ZbE w b cs S off->∃ us,Zag w cs S us∧∀ j u,us[j]?=some u->w.cell? ⟨b,off+j,none⟩=some u
 | [],S,off,_=>⟨[],Zag.nil,fun j u h=>by simp at h⟩
 | c::cs,S,off,h=>by
  simp only [ZbE] at h;obtain ⟨S1,S2,u,h1,h2,hd,hu,hc,hcs⟩:=h;obtain ⟨us,k1,k2⟩:=ZbE.open hcs;refine ⟨u::us,Zag.cons S1 S2 hc k1 h1 h2 hd,fun j v hj=>?_⟩
  cases j with
  | zero=>simp at hj;subst hj;exact hu
  | succ j=>have:=k2 j v (by simpa using hj);rw [<- this];congr 2;omega
theorem Za2.open {b:Nat}:∀ {rows:List (List C)} {S:Nat->Prop} {off:Nat},Za2 w b rows S off->∃ uss,Zan w rows S uss∧∀ T:Nat->Prop,Zas w T b off (uss.map Zaf)
 | [],S,off,_=>⟨[],trivial,fun T=>by simp [Zas]⟩
 | r::rs,S,off,h=>by
  simp only [Za2] at h;obtain ⟨S1,S2,h1,h2,hd,hr,hrs⟩:=h;obtain ⟨us,k1,k2⟩:=ZbE.open hr;obtain ⟨uss,k3,k4⟩:=Za2.open hrs;refine ⟨us::uss,⟨S1,S2,h1,h2,hd,k1,k3⟩,fun T=>?_⟩;simp only [Tbq,Zas];refine ⟨Zal.of_vals _ us off (Zgn us) k2,?_⟩;rw [show (Zaf us).length=r.length by simp [Zaf,k1.len]];exact k4 T
theorem Zag.cells:∀ {cs:List C} {S:Nat->Prop} {us:List Value},Zag w cs S us->cs.all Zai=true->(Zaf us).all Zai=true
 | [],_,[],_,_=>rfl
 | c::cs,S,u::us,h,hc=>by
  simp only [Zag] at h;obtain ⟨S1,S2,_,_,_,h1,h2⟩:=h;simp only [List.all_cons,Tar] at hc;simp only [Zaf,Tbq,List.all_cons,Tar];exact ⟨Zf0 (c:=c) hc.1 (Own.rep c S1 u h1),Zag.cells h2 hc.2⟩
 | [],_,_::_,h,_=>by simp [Zag] at h
 | _::_,_,[],h,_=>by simp [Zag] at h
theorem Own.open {T:Nat->Prop} {a:Option Addr} (hT:∀ b,E b->¬ T b) (hne:rows≠[]) (hrl:rowsLen sz rows) (h:Own w (.sl rows) E (.slice a n cap)) :
  ∃ uss ety E',n=uss.length∧Za5 w T ety sz (uss.map Zaf) (.slice a uss.length cap)∧Zan w rows E' uss∧(∀ b,E' b->E b∧vblk (.slice a uss.length cap)≠some b)∧∀ b,vblk (.slice a uss.length cap)=some b->E b:=by
 simp only [Own] at h;obtain ⟨A,n',cap',hv,hn,hle,hmx,hb⟩:=h;injection hv with e1 e2 e3
 subst e1 e2 e3;have h0:0 < rows.length:=List.length_pos_iff.2 hne;obtain ⟨b,off,S',rfl,hEb,hbl,⟨hfr,rfl,cur,ety,sz',hh,hcs,hz,hrs⟩,hS',hrows⟩:=hb om;obtain ⟨uss,k1,k2⟩:=Za2.open hrows;have hl:=k1.len;have hsz:sz'=sz:=by
  obtain ⟨r,hr⟩:=List.exists_mem_of_ne_nil _ hne;rw [<- hrs r hr,(hrl r hr).1]
 subst hsz;have hvb:vblk (.slice (some ⟨b,0,none⟩) uss.length cap)=some b:=by simp only [vblk];rw [if_neg om]
 have hrow:rowsLen sz' (uss.map Zaf):=fun x hx=>by
  obtain ⟨us,hus,rfl⟩:=Tbi.1 hx;obtain ⟨i,hi⟩:=Tbk hus;have hil:=(Tad.1 hi).1;obtain ⟨r,hr⟩:∃ r,rows[i]?=some r:=⟨_,Taa om⟩;have hov:=k1.get hr hi;have hrm:=hrl r (Tac hr);exact ⟨by simp only [Zaf,Tay];rw [hov.len];exact hrm.1,hov.cells hrm.2⟩
 refine ⟨uss,ety,S',om,⟨hz,hrow,.inr ⟨b,cap,cur,by simp,om,hbl,hT b hEb,hh,by simp only [Tay];omega,hmx,hcs,k2 T⟩⟩,k1,fun x hx=>⟨(hS' x hx).1,fun e=>?_⟩,fun x hx=>?_⟩
 ·rw [hvb] at e;injection e with e;exact (hS' x hx).2 e.symm
 ·rw [hvb] at hx;injection hx with hx;rw [<- hx];exact hEb
end
theorem ZdZ (x:Bk):Zcy [x]:=⟨by simp,trivial⟩
theorem Zb3:ZaS [] [.set (fun _=>False) (fun w=>Zan w [] (fun _=>False) [])]:=fun w S _ _ =>
 ⟨fun x hx=>by simp at hx;subst hx;exact ⟨fun b h=>h.elim,trivial,Zan.stable _ _ _⟩,ZdZ _,fun g ⟨x,hx,hg⟩=>by simp at hx;subst hx;exact hg.elim⟩
theorem ZfQ {E2:Nat->Prop} {G G2 G':World->Prop} (hG:∀ w,G w->G2 w->(∀ b,E b->E2 b->False)->G' w) (hst:ZdI (fun b=>E b∨E2 b) G'):ZaS [.set E G,.set E2 G2] [.set (fun b=>E b∨E2 b) G']:=fun w S h ha=>by
 have h1:=h (.set E G) (by simp);have h2:=h (.set E2 G2) (by simp);refine ⟨fun x hx=>?_,ZdZ _,fun g ⟨x,hx,hg⟩=>?_⟩
 ·simp at hx;subst hx;exact ⟨fun b hb=>hb.elim (h1.1 b) (h2.1 b),hG w h1.2.1 h2.2.1 (fun b q1 q2=>ha.1 (.set E2 G2) (by simp) b q1 q2),hst⟩
 ·simp at hx;subst hx;rcases hg with hg | hg
  ·exact ⟨.set E G,by simp,hg⟩
  ·exact ⟨.set E2 G2,by simp,hg⟩
theorem ZwF {G G':World->Prop} (hG:∀ w,G w->G' w) (hst:ZdI E G'):ZaS [.set E G] [.set E G']:=fun w S h ha=>by
 have h1:=h (.set E G) (by simp);refine ⟨fun x hx=>?_,ZdZ _,fun g ⟨x,hx,hg⟩=>?_⟩
 ·simp at hx;subst hx;exact ⟨h1.1,hG w h1.2.1,hst⟩
 ·simp at hx;subst hx;exact ⟨.set E G,by simp,hg⟩
theorem ZbL {a:Option Addr} {uss:List (List Value)} {G':World->Prop} (hG:∀ w,Own w (.sl rows) (fun b=>vblk (.slice a uss.length cap)=some b∨E b) (.slice a uss.length cap)->G' w) (hst:ZdI (fun b=>vblk (.slice a uss.length cap)=some b∨E b) G') :
  ZaS [.buf (some (a,cap)) ety sz (uss.map Zaf),.set E (fun w=>Zan w rows E uss)] [.set (fun b=>vblk (.slice a uss.length cap)=some b∨E b) G']:=fun w S h ha=>by
 have h1:Za5 w S ety sz (uss.map Zaf) (.slice a (uss.map Zaf).length cap):=h (.buf (some (a,cap)) ety sz (uss.map Zaf)) (by simp);have h2:=h (.set E (fun w=>Zan w rows E uss)) (by simp);have hd:=ha.1 (.set E (fun w=>Zan w rows E uss)) (by simp);rw [Tay] at h1;simp only [pblk,Tay] at hd;refine ⟨fun x hx=>?_,ZdZ _,fun g ⟨x,hx,hg⟩=>?_⟩
 ·simp at hx;subst hx;refine ⟨fun b hb=>?_,hG w (Own.close h1 h2.2.1 hd),hst⟩;rcases hb with hb | hb
  ·exact Own1.lt (L:=⟨fun _=>0,fun _=>.slice a uss.length cap⟩) (k:=0) (bk:=.buf none ety sz (uss.map Zaf)) ⟨by simp,h1⟩ hb
  ·exact h2.1 b hb
 ·simp at hx;subst hx;rcases hg with hg | hg
  ·exact ⟨.buf (some (a,cap)) ety sz (uss.map Zaf),by simp,by simp only [pblk,Tay];exact hg⟩
  ·exact ⟨.set E (fun w=>Zan w rows E uss),by simp,hg⟩
def Za8 (row:List C) (r:List D) (pm:List Bk):Prop:=∃ us E,r=[.agg (Zaf us)]∧us.length=row.length∧(Zaf us).all Zai=true∧pm=[.set E (fun w=>Zag w row E us)]
def ZiI (ety sz:Nat) (rows:List (List C)) (r:List D) (pm:List Bk):Prop:=∃ a cap uss E,r=[.one (.lit (.slice a uss.length cap))]∧uss.length=rows.length∧pm=[.buf (some (a,cap)) ety sz (uss.map Zaf),.set E (fun w=>Zan w rows E uss)]
theorem Za8.mk {row:List C} {us:List Value} (h:us.length=row.length) (hok:(Zaf us).all Zai=true):Za8 row [.agg (Zaf us)] [.set E (fun w=>Zag w row E us)]:=⟨us,E,rfl,h,hok,rfl⟩
theorem ZiI.mk {a:Option Addr} {uss:List (List Value)} (h:uss.length=rows.length):ZiI ety sz rows [.one (.lit (.slice a uss.length cap))] [.buf (some (a,cap)) ety sz (uss.map Zaf),.set E (fun w=>Zan w rows E uss)]:=⟨a,cap,uss,E,rfl,h,rfl⟩
theorem okc4 {u0 u1 u2 u3:Value} (h:(Zaf [u0,u1,u2,u3]).all Zai=true):Zai (.lit u0)=true∧Zai (.lit u1)=true∧Zai (.lit u2)=true∧Zai (.lit u3)=true:=by
 simpa [Zaf,Tar,and_assoc] using h
theorem Zg3 (ts:List Tm) {i:Nat} {t:Tm} (h:ts[i]?=some t):Zaa (ts.take (i+1))=Zaa (ts.take i)++[Zad t]:=by
 simp only [Zbt,List.take_add_one,h,Option.toList,Tbr,Tbq,List.map_nil]
theorem ZdC (u0 u1 u2 u3:Value):Zaf [u0,u1,u2,u3]=[.lit u0,.lit u1,.lit u2,.lit u3]:=rfl
theorem Zau (uss:List (List Value)):(uss.map Zaf).length=uss.length:=Tay ..
def tmsB (ts:List Tm):Prop:=ts.length+bulkRows (Zaa ts)<=1048576
theorem Zkb (ts:List Tm) (hB:tmsB ts) (h:∀ t∈ts,ConP e0 35 [.agg (Zad t)] [] (Za8 (Zad t))):ConP e0 69 [.one (.sl (Zaa ts))] [] (ZiI 42 4 (Zaa ts)):=by
 have hl:ts.length<=1048576:=Tbe (Nat.le_add_right _ _) hB;refine gIP (ts:=[.slot 2]) [] 1005 Tryz.func69 ?_;refine fG @e0P ?_;refine pE [] [1000] Zb3 ?_;have F:=ai @Zac @Zfd;refine gL (ι:=Nat × List (List Value) × (Nat->Prop)) [3,5,8,9] [3,1000] (fun x=>[(8,.d (.one (.lit (.int .i64 (x.1:Int))))),(3,.buf 3)]) (fun x=>[(3,.buf none 42 4 (x.2.1.map Zaf)),(1000,.set x.2.2 (fun w=>Zan w (Zaa (ts.take x.1)) x.2.2 x.2.1))]) (fun x=>x.1<=ts.length∧x.2.1.length=x.1) (fun x=>ts.length - x.1) ((0,[],fun _=>False)) (⟨Taj _,rfl⟩) (fun x hx=>?_);clear F
 obtain ⟨i,uss,E⟩:=x;obtain ⟨hi,hn⟩:=hx;simp only at hi hn;by_cases hlt:i < ts.length
 ·have hg:ts[i]?=some ts[i]:=Taa hlt;have hc:=h ts[i] (List.getElem_mem hlt);generalize ts[i]=t at hg hc;have q1:=lT i ts.length;refine fB (aj5 @Zac @ZbD @q1 @hg @tmz) ?_;have F:=@tmz;refine gCP [] [1001] (hc) ?_;clear F;rintro r pm ⟨us,E2,rfl,hu,hok,rfl⟩;rw [Ziw] at hu;obtain ⟨u0,u1,u2,u3,rfl⟩:=len4 hu;obtain ⟨k0,k1,k2,k3⟩:=okc4 hok;have q3:IntKind.i64.wrap ((i:Int)+1)=(i:Int)+1:=IntWalk.i64_in _ om
  have q2:i+1<=maxApp:=by unfold maxApp;omega
  simp only [ZdC,setA,retA,zipM,Taf,Tah];refine fR (aj8 @ZdC @Zau @hn @q2 @k0 @k1 @k2 @k3) ?_;refine pE [1000,1001] [1000] (ZfQ (G':=fun w=>Zan w (Zaa (ts.take (i+1))) (fun b=>E b∨E2 b) (uss++[[u0,u1,u2,u3]])) (fun w h1 h2 hd=>?_) (Zan.stable _ _ _)) ?_
  ·rw [Zg3 ts hg];exact Zan.snoc h1 h2 (fun _ h=>.inl h) (fun _ h=>.inr h) hd
  have F:=aj4 @ZdC @q3 @Zac ((@Tbr.{0,0}));refine gG ?_;exact ⟨(i+1,uss++[[u0,u1,u2,u3]],fun b=>E b∨E2 b),⟨hlt,by simp [hn]⟩,gw,gw,om⟩
 ·obtain rfl:i=ts.length:=by omega
  have q1:=lF ts.length ts.length;refine fG (ai @Zac @q1) ?_;rw [Tap];refine pS 2 fun a cap=>?_;refine gTP [2,1000] (ZiI.mk (by rw [hn,Zac]))
theorem ZwG {w:World} {op so:Int} {nm:ByteArray} {args:List Tm} {v:Value} (h:Own w (.sl (Zaa args)) E v):Zag w (Zad (.mk op nm so args)) E [.int .i64 op,.string nm,.int .i64 so,v]:=by
 simp only [Zad,Zag];refine ⟨fun _=>False,E,fun _ h=>h.elim,fun _ h=>h,fun _ h _=>h,by simp [Own],fun _=>False,E,fun _ h=>h.elim,fun _ h=>h,fun _ h _=>h,by simp [Own],fun _=>False,E,fun _ h=>h.elim,fun _ h=>h,fun _ h _=>h,by simp [Own],E,fun _=>False,fun _ h=>h,fun _ h=>h.elim,fun _ _ h=>h,h,trivial⟩
theorem Zlh (t:Tm) (h:ConP e0 69 [.one (.sl (Zaa t.args))] [] (ZiI 42 4 (Zaa t.args))):ConP e0 35 [.agg (Zad t)] [] (Za8 (Zad t)):=by
 obtain ⟨op,nm,so,args⟩:=t;have hc:Zad (.mk op nm so args)=[.lit (.int .i64 op),.lit (.string nm),.lit (.int .i64 so),.sl (Zaa args)]:=by simp only [Zad]
 simp only [Tm.args] at h;refine gIP (ts:=[.cell 2 42]) [] 7 Tryz.func35 ?_;refine fB @hc ?_;have F:=@hc;refine gCP [] [1000,1001] (h) ?_;clear F;rintro r pm ⟨a,cap,uss,E,rfl,hu,rfl⟩;simp only [setA,retA,zipM,Taf,Tah];refine fR @hc ?_;refine fG @hc ?_;refine pE [1000,1001] [1000] (ZbL (G':=fun w=>Zag w (Zad (.mk op nm so args)) (fun b=>vblk (.slice a uss.length cap)=some b∨E b) [.int .i64 op,.string nm,.int .i64 so,.slice a uss.length cap]) (fun w h=>ZwG h) (Zag.stable _ _ _)) ?_
 have hm:=Za8.mk (row:=Zad (.mk op nm so args)) (us:=[.int .i64 op,.string nm,.int .i64 so,.slice a uss.length cap]) (E:=fun b=>vblk (.slice a uss.length cap)=some b∨E b) (by rw [hc];rfl) rfl;rw [ZdC] at hm;exact (have F:=hc;gTP [1000] hm)
theorem Zx9 (n:Nat):(∀ t:Tm,Zbe (Zad t) < n->bulkRow (Zad t)<=1048576->ConP e0 35 [.agg (Zad t)] [] (Za8 (Zad t))):=by
 induction n with
 | zero=>exact fun _ h=>om
 | succ n ih =>
  intro t hn hb;obtain ⟨op,nm,so,args⟩:=t;simp only [Zad,Zbe,Zdy,bulkRow,ZaU] at hn hb;refine Zlh _ (Zkb args (by unfold tmsB;have:=Zac args;omega) fun a ha=>?_);obtain ⟨i,hi⟩:=Tbk ha;have hi':(Zaa args)[i]?=some (Zad a):=by rw [ZbD,hi];rfl
  have h1:=Zcr hi';have h2:=ZbF hi';exact ih a om om
theorem Zo4 (t:Tm) (hb:bulkRow (Zad t)<=1048576):ConP e0 35 [.agg (Zad t)] [] (Za8 (Zad t)):=Zx9 _ t (Tan _) hb
theorem ZfR:ZaG ts ↔ ∀ t∈ts,okTm t:=by
 induction ts with
 | nil=>simp [ZaG]
 | cons t ts ih=>simp [ZaG,ih]
theorem Zjg (op so:Int) (nm:ByteArray) (args:List Tm):bulkRow (Zad (.mk op nm so args))=nm.size+(args.length+bulkRows (Zaa args)):=by
 simp only [Zad,bulkRow,ZaU,Zac];omega
section
variable {g:Sgn}
mutual
theorem ZmV:∀ {t:Tm},Zbs g t->bulkRow (Zad t)+1<=13 * sizeTm t
 | .mk op nm so args,h=>by
  have h1:=Zli (ZjG.2 (ZbJ.1 h).2.1);simp only [Tm.args] at h1;rw [Zjg];simp only [sizeTm];rcases h.node with hv | ⟨o,d,hA⟩
  ·have h2:Zbr nm=true:=hv.2.1;have h3:args=[]:=hv.2.2.2.2;subst h3;have h4:¬ 12 < nm.size:=fun h=>by rw [Zc1 (.inr (.inl h))] at h2;cases h2
   simp only [Zaa,bulkRows,sizeTms,Tak];omega
  ·have h2:nm=ByteArray.empty:=hA.nm;subst h2;have:ByteArray.empty.size=0:=rfl;omega
theorem Zli:∀ {ts:List Tm},Zeq g ts->bulkRows (Zaa ts)+ts.length<=13 * sizeTms ts
 | [],_=>by simp [Zaa,bulkRows]
 | t::ts,h=>by
  simp only [Zeq] at h;have h1:=ZmV h.1;have h2:=Zli h.2;simp only [Zaa,bulkRows,sizeTms,Tag];omega
end
end
theorem ZdU {r:List C} (h:Zak (Zae .pend) r):∃ (i0:Int) (r1:List (List C)) (r2:List (List C)),r=[.lit (.int .i64 i0),.sl r1,.sl r2]∧I64 i0∧Zaj (Zae .term) r1∧Zaj (Zae .term) r2:=by
 obtain ⟨c0,c1,c2,rfl⟩:=len3 h.len;simp only [Zae,ZbI,occF,ZbW,sigF,Zbz,algF,Taf,Tah,redF,Zak,and_true] at h;obtain ⟨h0,h1,h2⟩:=h;obtain ⟨i0,rfl,g0⟩:=ZbO h0;obtain ⟨r1,rfl,g1⟩:=Zb4 h1;obtain ⟨r2,rfl,g2⟩:=Zb4 h2;exact ⟨i0,r1,r2,rfl,g0,g1,g2⟩
theorem ZdV {r:List C} (h:Zak (redF) r):∃ (i0:Int) (t1:ByteArray) (i2:Int) (r3:List (List C)) (r4:List (List C)) (p5:Bool) (i6:Int) (i7:Int),r=[.lit (.int .i64 i0),.lit (.string t1),.lit (.int .i64 i2),.sl r3,.sl r4,.lit (.bool p5),.lit (.int .i64 i6),.lit (.int .i64 i7)]∧I64 i0∧t1.size<=maxLen∧I64 i2∧Zaj (Zae .term) r3∧Zaj (Zae .pend) r4∧True∧I64 i6∧I64 i7:=by
 obtain ⟨c0,c1,c2,c3,c4,c5,c6,c7,rfl⟩:=len8 h.len;simp only [Zae,ZbI,occF,ZbW,sigF,Zbz,algF,Taf,Tah,redF,Zak,and_true] at h;obtain ⟨h0,h1,h2,h3,h4,h5,h6,h7⟩:=h;obtain ⟨i0,rfl,g0⟩:=ZbO h0;obtain ⟨t1,rfl,g1⟩:=ZeW h1;obtain ⟨i2,rfl,g2⟩:=ZbO h2;obtain ⟨r3,rfl,g3⟩:=Zb4 h3;obtain ⟨r4,rfl,g4⟩:=Zb4 h4;obtain ⟨p5,rfl⟩:=Zhp h5;obtain ⟨i6,rfl,g6⟩:=ZbO h6;obtain ⟨i7,rfl,g7⟩:=ZbO h7;exact ⟨i0,t1,i2,r3,r4,p5,i6,i7,rfl,g0,g1,g2,g3,g4,trivial,g6,g7⟩
structure Pnd where
 op:Int
 dn:List Tm
 lf:List Tm
structure Rdr where
 now:Tm
 stk:List Pnd
 nrm:Bool
 work:Int
 code:Int
def ZaX (p:Pnd):List C:=[.lit (.int .i64 p.op),.sl (Zaa p.dn),.sl (Zaa p.lf)]
def ZeK (r:Rdr):List C:=Zad r.now++[.sl (r.stk.map ZaX),.lit (.bool r.nrm),.lit (.int .i64 r.work),.lit (.int .i64 r.code)]
def ZzJ (p:Pnd):Prop:=I64 p.op∧ZaG p.dn∧ZaG p.lf
def ZnU (r:Rdr):Prop:=okTm r.now∧∀ p∈r.stk,ZzJ p
theorem Zsf:∀ {rows:List (List C)},Zaj (Zae .pend) rows->∃ l:List Pnd,rows=l.map ZaX∧∀ p∈l,ZzJ p
 | [],_=>⟨[],rfl,by simp⟩
 | r::rs,h=>by
  simp only [Zaj] at h;obtain ⟨i0,r1,r2,rfl,g0,g1,g2⟩:=ZdU h.1;obtain ⟨a,rfl,ha⟩:=Zgr g1;obtain ⟨b,rfl,hb⟩:=Zgr g2;obtain ⟨l,rfl,hl⟩:=Zsf h.2;exact ⟨⟨i0,a,b⟩::l,rfl,fun x hx=>(Tbg.1 hx).elim (fun e=>by rw [e];exact ⟨g0,ha,hb⟩) (hl x)⟩
theorem ZAJ {row:List C} (h:Zak redF row):∃ r,row=ZeK r∧ZnU r:=by
 obtain ⟨i0,t1,i2,r3,r4,p5,i6,i7,rfl,g0,g1,g2,g3,g4,g5,g6,g7⟩:=ZdV h;obtain ⟨a,rfl,ha⟩:=Zgr g3;obtain ⟨l,rfl,hl⟩:=Zsf g4;refine ⟨⟨.mk i0 t1 i2 a,l,p5,i6,i7⟩,by simp [ZeK,Zad],?_,hl⟩;simp only [okTm];exact ⟨g0,g1,g2,ha⟩
theorem Zlj (l:List Pnd):ZaC 3 (l.map ZaX)=true:=by
 induction l with
 | nil=>rfl
 | cons e l ih=>simp only [Tbq,Zeo,ih,ZaX];rfl
theorem rdrA (t:Tm) (c1 c2 c3 c4:C) (h1:Zai c1=true) (h2:Zai c2=true) (h3:Zai c3=true) (h4:Zai c4=true):(Zad t++[c1,c2,c3,c4]).all Zai=true∧(Zad t++[c1,c2,c3,c4]).length=8∧(Zad t++[c1,c2,c3,c4]).take 8=Zad t++[c1,c2,c3,c4]∧(Zad t++[c1,c2,c3,c4]).drop 8=[]∧(Zad t++[c1,c2,c3,c4]).take 4=Zad t∧(Zad t++[c1,c2,c3,c4]).drop 4=[c1,c2,c3,c4]:=by
 obtain ⟨o,n,s,l⟩:=t;simp only [Zad,Taf,Tah,List.all_cons,List.all_nil,h1,h2,h3,h4];exact ⟨rfl,rfl,rfl,rfl,rfl,rfl⟩
def ZbV (p:Pnd) (t:Tm):List Tm:=p.dn++(t::p.lf)
noncomputable def whR (g:Sgn):List Pnd->Tm->Option Tm
 | [],t=>some t
 | p::ps,t=>(mkT g p.op (ZbV p t)).bind (whR g ps)
structure PndOk (g:Sgn) (p:Pnd):Prop where
 lo:0<=p.op
 hi:p.op < g.ops.length
 all:∀ t∈p.dn++p.lf,TermOk g t
open Classical in
noncomputable def rdrB (g:Sgn) (r:Rdr):Bool:=Zbd g r.now && decide (∀ p∈r.stk,PndOk g p)
theorem PndOk.args {g:Sgn} {p:Pnd} (h:PndOk g p) {t:Tm} (ht:TermOk g t):∀ x∈ZbV p t,TermOk g x:=fun x hx=>by
 rcases Tbh.1 hx with q | q
 ·exact h.all x (List.mem_append_left _ q)
 ·rcases Tbg.1 q with rfl | q
  ·exact ht
  ·exact h.all x (List.mem_append_right _ q)
theorem Zlk {g:Sgn} (hg:SgnOk g):∀ {ps:List Pnd} {t u:Tm},(∀ p∈ps,PndOk g p)->TermOk g t->whR g ps t=some u->TermOk g u
 | [],t,u,_,ht,h=>by
  simp only [whR,Taq] at h;exact h ▸ ht
 | p::ps,t,u,hp,ht,h=>by
  simp only [whR] at h
  cases hm:mkT g p.op (ZbV p t) with
  | none=>rw [hm] at h;cases h
  | some x =>
   rw [hm] at h;have hpp:=hp p Tas;exact Zlk hg (fun q hq=>hp q (Tal _ hq)) (Zo3 hg hpp.lo (hpp.args ht) hm) h
theorem Zo5 {α:Type} {l:List α} {i:Nat} {a:α} (h:l[i]?=some a):(l.take (i+1)).reverse=a::(l.take i).reverse:=by
 rw [List.take_add_one,h];simp
theorem Zya (p:Pnd):bulkRow (ZaX p)=p.dn.length+bulkRows (Zaa p.dn)+(p.lf.length+bulkRows (Zaa p.lf)):=by
 simp only [ZaX,bulkRow,ZaU,Zac];omega
theorem Zo6 (r:Rdr):bulkRow (ZeK r)=bulkRow (Zad r.now)+(r.stk.length+bulkRows (r.stk.map ZaX)):=by
 obtain ⟨⟨o,n,s,l⟩,st,b,w,c⟩:=r;simp only [ZeK,Zad,Taf,Tah,bulkRow,ZaU,Tay];omega
theorem Zfe:∀ (a b:List Tm),bulkRows (Zaa (a++b))=bulkRows (Zaa a)+bulkRows (Zaa b)
 | [],b=>by simp [Zaa,bulkRows]
 | x::xs,b=>by simp only [Taf,Zaa,bulkRows,Zfe xs b];omega
theorem Zqj {m:List Tm} (h:l.Perm m):bulkRows (Zaa l)=bulkRows (Zaa m):=by
 induction h with
 | nil=>rfl
 | cons x h ih=>simp only [Zaa,bulkRows,ih]
 | swap x y l=>simp only [Zaa,bulkRows];omega
 | trans h1 h2 a b=>rw [a,b]
theorem ZgQ (p:Pnd) (t:Tm):(ZbV p t).length+bulkRows (Zaa (ZbV p t))=bulkRow (ZaX p)+1+bulkRow (Zad t):=by
 rw [Zya,ZbV,Zfe,Tae,Tag];simp only [Zaa,bulkRows];omega
theorem ZAg (t:Tm):t.args.length+bulkRows (Zaa t.args)<=bulkRow (Zad t):=by
 obtain ⟨o,n,s,l⟩:=t;rw [Zjg];simp only [Tm.args];omega
theorem Zjh (o:Opr) (op:Int):∀ xs:List Tm,(Zav o op xs).length+bulkRows (Zaa (Zav o op xs))<=xs.length+bulkRows (Zaa xs)
 | []=>Tai _
 | a::xs=>by
  have ih:=Zjh o op xs;have e:Zav o op (a::xs)=Zbp o op a++Zav o op xs:=rfl;have ha:=ZAg a;rw [e,Zfe,Tae,Tag];simp only [Zaa,bulkRows];unfold Zbp;split
  ·omega
  ·split
   ·simp only [Tak,Zaa,bulkRows];omega
   ·simp only [Tag,Tak,Zaa,bulkRows];omega
theorem Zo7 {g:Sgn} {op:Int} {t:Tm} (h:mkT g op xs=some t):bulkRow (Zad t)<=xs.length+bulkRows (Zaa xs):=by
 unfold mkT at h
 cases ho:g.ops[op.toNat]? with
 | none=>rw [ho] at h;cases h
 | some o =>
  rw [ho] at h;simp only at h
  cases hd:o.decls[0]? with
  | none=>rw [hd] at h;cases h
  | some d =>
   rw [hd] at h;have hf:=Zjh o op xs;simp only [mkO] at h;split at h
   ·cases h
   split at h;rotate_left
   ·cases h
   unfold mkL at h;split at h
   ·injection h with h
    subst h
    cases hl:Zav o op xs with
    | nil =>
     simp only [List.headD_nil];unfold ZbB;split <;> simp [zTm,Zjg,Zaa,bulkRows,bulkRow,ZaU,Zad]
    | cons b bs =>
     rw [hl] at hf;simp only [Zaa,bulkRows,Tag] at hf;simp only [List.headD_cons];omega
   ·split at h
    ·cases h
    ·injection h with h
     subst h;rw [appT,Zjg];have:=Zqj (ZeZ o (Zav o op xs));have hl:=Zka o (Zav o op xs);rw [this,hl];simp only [ByteArray.size_empty];omega
mutual
theorem ZmW:∀ t:Tm,sizeTm t<=bulkRow (Zad t)+1
 | .mk _ _ _ args=>by
  have:=Zlm args;simp only [sizeTm,Zad,bulkRow,ZaU];omega
theorem Zlm:∀ ts:List Tm,sizeTms ts<=(Zaa ts).length+bulkRows (Zaa ts)
 | []=>by simp [sizeTms]
 | t::ts=>by
  have h1:=ZmW t;have h2:=Zlm ts;simp only [sizeTms,Zaa,Tag,bulkRows];omega
end
theorem Zd0 {t:Tm} (h:bulkRow (Zad t)<=1048576):sizeTm t<=big:=by
 have:=ZmW t;unfold big;omega
theorem Zkc (a b:List C):bulkRow (a++b)=bulkRow a+bulkRow b:=by
 induction a with
 | nil=>simp [bulkRow]
 | cons x xs ih=>simp only [Taf,bulkRow,ih];omega
theorem Con.weaken {f:FuncId} {args args' r:List D} (h:Con e f args' r) (ha:∀ (w:World) (S:Nat->Prop) (vs:List Value),ZaH w S args vs->ZaH w S args' vs):Con e f args r :=
 ⟨h.1,fun w S vs h1 h2 h3 h4=>h.2 w S vs h1 h2 h3 (ha w S vs h4)⟩
theorem ZA6 {P:Nat->Prop} (h:∃ n,P n):∃ n,P n∧∀ m,m < n->¬ P m:=by
 obtain ⟨n,hn⟩:=h
 induction n using Nat.strongRecOn with
 | _ n ih =>
  by_cases hx:∃ m,m < n∧P m
  ·obtain ⟨m,hm,hp⟩:=hx;exact ih m hm hp
  ·exact ⟨n,hn,fun m hm hp=>hx ⟨m,hm,hp⟩⟩
theorem Znl {f:FuncId} {caps:List C} {P:Tm->Bool} (hl:ts.length<=big) (h:∀ a∈ts,Con e0 f (.agg (Zad a)::caps.map .one) [.one (.lit (.bool (P a)))]) :
  ∃ r:Int,(0<=r ↔ ts.any P=true)∧Con e0 163 [.one (.sl (Zaa ts)),.one (.fn f caps)] [.one (.lit (.int .i64 r))]:=by
 unfold big at hl;by_cases hA:ts.any P=true
 ·obtain ⟨k,hk,hbef⟩:∃ k:Nat,(∃ a,ts[k]?=some a∧P a=true)∧∀ (j:Nat) a,j < k->ts[j]?=some a->P a=false:=by
   have hex:∃ k:Nat,∃ a,ts[k]?=some a∧P a=true:=by
    obtain ⟨a,ha,hp⟩:=List.any_eq_true.1 hA;obtain ⟨k,hk⟩:=Tbk ha;exact ⟨k,a,hk,hp⟩
   obtain ⟨k,hk,hmin⟩:=ZA6 hex;refine ⟨k,hk,fun j a hj ha=>?_⟩
   cases hp:P a with
   | false=>rfl
   | true=>exact absurd ⟨a,ha,hp⟩ (hmin j hj)
  obtain ⟨a0,ha0,hp0⟩:=hk;have hkl:=(Tad.1 ha0).1;refine ⟨(k:Int),⟨fun _=>hA,fun _=>om⟩,?_⟩;refine gI 66483 Tryz.func163 ?_;refine fG @tmz ?_;have F:=@e0P;refine gL (ι:=Nat) [4,5,8,9,16] [] (fun i=>[(8,A.d (.one (.lit (.int .i64 i))))]) (fun i=>[]) (fun i=>i<=k) (fun i=>k+1 - i) (0) om (fun i hi=>?_);clear F;have hl':(i:Int) < (ts.length:Int):=om;obtain ⟨a,ha⟩:∃ a,ts[i]?=some a:=⟨_,Taa om⟩;have hw1:=Zaw (k:=i) om
  refine fB (ai @tmz @hl') ?_;refine fC (ai @tmz @ha) (h a (Tac ha)) ?_;by_cases hik:i=k
  ·subst hik;rw [ha] at ha0;injection ha0 with ha0
   subst ha0;refine fR (ai @tmz @hp0) ?_;exact fT @tmz
  ·have hpf:=hbef i a om ha;refine fR (ai @tmz @hpf) ?_;have F:=ai @hw1 @tmz;refine gG ?_;exact ⟨i+1,om,gw,gw,om⟩
 ·have hbef:∀ (j:Nat) a,ts[j]?=some a->P a=false:=fun j a ha=>by
   cases hp:P a with
   | false=>rfl
   | true=>exact absurd (List.any_eq_true.2 ⟨a,Tac ha,hp⟩) hA
  refine ⟨-1,⟨fun h=>om,fun h=>absurd h hA⟩,?_⟩;refine gI 66483 Tryz.func163 ?_;refine fG @tmz ?_;have F:=@e0P;refine gL (ι:=Nat) [4,5,8,9,16] [] (fun i=>[(8,A.d (.one (.lit (.int .i64 i))))]) (fun i=>[]) (fun i=>i<=ts.length) (fun i=>ts.length - i) (0) om (fun i hi=>?_);clear F;by_cases hi':i < ts.length;rotate_left
  ·have hl':¬ ((i:Int) < (ts.length:Int)):=om;exact fT (ai @tmz @hl')
  have hl':(i:Int) < (ts.length:Int):=om;obtain ⟨a,ha⟩:∃ a,ts[i]?=some a:=⟨_,Taa om⟩;have hw1:=Zaw (k:=i) om;have hpf:=hbef i a ha;refine fB (ai @tmz @hl') ?_;refine fC (ai @tmz @ha) (h a (Tac ha)) ?_;refine fR (ai @tmz @hpf) ?_;have F:=ai @hw1 @tmz;refine gG ?_;exact ⟨i+1,om,gw,gw,om⟩
theorem Zkd {f:FuncId} {caps:List C} {P:Tm->Bool} (hl:ts.length<=big) (h:∀ a∈ts,Con e0 f (.agg (Zad a)::caps.map .one) [.one (.lit (.bool (P a)))]) :
  Con e0 144 [.one (.sl (Zaa ts)),.one (.fn f caps)] [.one (.lit (.bool (ts.any P)))]:=by
 obtain ⟨r,hr,c⟩:=Znl hl h;refine gI 19 Tryz.func144 ?_;refine fB @tmz ?_;refine fC @tmz (c) ?_;have e:decide (0<=r)=ts.any P:=by
  rw [Bool.eq_iff_iff,decide_eq_true_iff];exact hr
 refine fR @tmz ?_;exact fT @e
theorem ZmY {n:Nat}:∀ {rows:List (List C)} (l:Nat),rowsLen n rows->(rows.take l).flatten=rows.flatten.take (l * n)
 | [],l,_=>by simp
 | r::rs,0,_=>by simp
 | r::rs,l+1,h=>by
  have h1:=(h r Tas).1;have h2:=ZmY (n:=n) l (fun x hx=>h x (Tal _ hx):rowsLen n rs);simp only [Tbc,List.flatten_cons,h2];rw [show (l+1) * n=r.length+l * n by rw [h1,Nat.succ_mul,Nat.add_comm],List.take_length_add_append]
theorem ZmZ {n:Nat}:∀ {rows:List (List C)} (l:Nat),rowsLen n rows->(rows.drop l).flatten=rows.flatten.drop (l * n)
 | [],l,_=>by simp
 | r::rs,0,_=>by simp
 | r::rs,l+1,h=>by
  have h1:=(h r Tas).1;have h2:=ZmZ (n:=n) l (fun x hx=>h x (Tal _ hx):rowsLen n rs);simp only [List.drop_succ_cons,List.flatten_cons,h2];rw [show (l+1) * n=r.length+l * n by rw [h1,Nat.succ_mul,Nat.add_comm],List.drop_length_add_append]
section
variable {e:Env} {U:Nat->Prop} {w0:World} {S0:Nat->Prop} {nt:Nat} {σ:St} {a:Act} {w:World} {S:Nat->Prop} {L:Lay}
theorem Sim.storeRows (h:Sim e U w0 S0 nt σ a w S L) (he:e.Ok) {o:Option (Option Addr × Nat)} {l g:Nat} {news:List (List C)} {vs:List Value} (hm:gm σ.m k=some (.buf o ety sz rows)) (hg:vblk (L.v k)=some g) (hl:l+news.length<=rows.length) (hn:rowsLen sz news) (hu:Zab w S news.flatten vs) :
  ∃ w',(storeCells ⟨g,l * sz,none⟩ vs).run e.P w=.ok () w'∧SimE e U w0 S0 nt ⟨σ.s,(k,.buf o ety sz (rows.take l++news++rows.drop (l+news.length)))::remM k σ.m⟩ a w':=by
 obtain ⟨hb0,hs0,hrl,h3⟩:=h.cls.own k _ hm;have hvl:=hu.len;have h1:=ZlO hn;rw [Zcn hn] at hvl;rcases h3 with ⟨h3,p,h4⟩ | ⟨g',cap,cur,hv,hcp,hg1,hg2,hheap0,hlen,hcap,hcs,hrows⟩
 ·rw [h4] at hg;cases p <;> simp [vblk] at hg
 ·have hgg:g'=g:=by rw [hv] at hg;simp only [vblk] at hg;rw [if_neg om] at hg;injection hg
  subst hgg;have hfl:=Zcn hrl;have hin:l * sz+vs.length<=rows.length * sz:=by
   have:=Nat.mul_le_mul_right sz hl;rw [Nat.add_mul] at this;omega
  have hin2:rows.length * sz<=cap * sz:=Nat.mul_le_mul_right sz hlen;have hst:=run_storeCells_at e.P g' (l * sz) ety vs 0 cur w hheap0 (by rw [hcs];omega) (Ze4 h1 hu);simp only [Nat.add_zero] at hst;have hput:=ZfZ w g' (l * sz) ety vs cur hheap0 (by rw [hcs];omega);refine ⟨_,hst,?_⟩;have hheap:=setRow_heap w g' cur (cur.toList.take (l * sz)++vs++cur.toList.drop (l * sz+vs.length)).toArray ety _ hheap0
  have hdr:(w.setRow g' (cur.toList.take (l * sz)++vs++cur.toList.drop (l * sz+vs.length)).toArray).drawn=w.drawn:=Ze5 _ _ _;generalize hW:w.setRow g' (cur.toList.take (l * sz)++vs++cur.toList.drop (l * sz+vs.length)).toArray=W at hput hheap hdr ⊢;have hsz:W.heap.size=w.heap.size:=hput.size;have hkc:∀ b o,S b->W.cell? ⟨b,o,none⟩=w.cell? ⟨b,o,none⟩:=fun b o hs=>ZbH (hput.other b (fun e=>hg2 (e ▸ hs))) o
  have hbk:ZaN L k (.buf o ety sz rows) g':=hg;have hln:(rows.take l++news++rows.drop (l+news.length)).length=rows.length:=by simp;omega
  have hown:Own1 W S L k (.buf o ety sz (rows.take l++news++rows.drop (l+news.length))):=by
   simp only [Own1];refine ⟨fun a ha=>by rw [hb0 a ha,hln],hs0,fun x hx=>?_,.inr ⟨g',cap,_,by rw [hv,hln],hcp,om,hg2,hheap,by rw [hln];exact hlen,hcap,by simp;omega,?_⟩⟩
   ·rcases Tbh.1 hx with hx | hx
    ·rcases Tbh.1 hx with hx | hx
     ·exact hrl x (List.mem_of_mem_take hx)
     ·exact hn x hx
    ·exact hrl x (List.mem_of_mem_drop hx)
   ·apply Zas.of_flat;rw [List.flatten_append,List.flatten_append,ZmY l hrl,ZmZ _ hrl];have hz:w.heap.size<=W.heap.size:=om;have hf:=hrows.flat;have r1:=Zal.keepAt (S':=S) hz hkc (fun _ h=>h) g' 0 (rows.flatten.take (l * sz)) (fun i hi=>hput.old _ (.inl (by simp at hi;omega))) (hf.take (l * sz));have r3:Zal W S g' (l * sz) news.flatten:=Zal.of_vals _ vs _ (Zab.keep2 hz hkc (fun _ h=>h) hu) hput.new
    have r5:=Zal.keepAt (S':=S) hz hkc (fun _ h=>h) g' _ (rows.flatten.drop ((l+news.length) * sz)) (fun i hi=>hput.old _ (.inr (by rw [hvl];rw [Nat.add_mul];omega))) (hf.drop ((l+news.length) * sz));have l1:(rows.flatten.take (l * sz)).length=l * sz:=by rw [Taw,hfl];omega
    refine Zal.append _ _ 0 (Zal.append _ _ 0 r1 ?_) ?_
    ·rw [l1,Nat.zero_add];exact r3
    ·rw [Tae,l1,Zcn hn,<- Nat.add_mul];exact r5
  obtain ⟨t1,t2,t3⟩:=h.touch he (d:=k) (bk:=.buf o ety sz (rows.take l++news++rows.drop (l+news.length))) (m':=(k,.buf o ety sz (rows.take l++news++rows.drop (l+news.length)))::remM k σ.m) (w':=W) (L':=L) (τ:=some g') (fun _ h=>h) (fun _ h=>.inl h)
   (fun k' x hkd hx=>by simp only [gm,hkd,if_false,Zat] at hx;exact hx) (by simp [gm]) (fun _ _=>⟨rfl,rfl⟩)
   (fun q hq=>by injection hq with hq;subst hq;exact ⟨hg2,h.cls.notE hm hbk,h.cls.mine k _ _ hm hbk⟩)
   (fun k' x q hkd hx hq hb=>by
    injection hq with hq;subst hq
    simp only [gm,hkd,if_false,Zat] at hx;exact hkd (h.cls.inj k' k x _ _ hx hm hb hbk))
   ⟨hput.os,hput.tape,hput.output,fun _=>Nat.le_of_eq hdr.symm,om,fun b hb hE=>hput.other b (fun eq=>hE (by rw [eq]))⟩ hown (fun q hq=>.inl (by rw [<- hq];exact hg.symm))
  exact ⟨S,L,t1,fun t=>t3 _ _ (fun _=>⟨rfl,rfl⟩) (h.rel t),h.size,h.defers,t2⟩
end
section
variable {e:Env} {σ:St} {o:Oper} {K:St->Prop}
theorem ZwL {U:Nat->Prop} {base:Nat} {S0:Nat->Prop} {t:TypeId} {x:Operand} {lo hi:Option Operand} (ho:o.op=.slice t x lo hi none) {a:Option Addr} {l h:Int} (hx:nrm σ.m (evA σ.s x)=.buf k) (hm:gm σ.m k=some (.buf (some (a,cap)) ety sz rows)) (ht:Za9 e.P t=some sz)
  (hlo:loA (lo.map (evA σ.s))=some l) (hhi:hiA rows.length (hi.map (evA σ.s))=some h) (hb:0<=l∧l<=h∧h<=rows.length):Zbi e U base S0 σ.m o (evA σ.s) (.d (.one (.lit (sliced a l.toNat h.toNat cap sz)))):=by
 refine ZaK fun w S L ρv hC hr=>?_;have hx':=Zcw hC (hr x (by simp [ho,Op.operands]));rw [hx] at hx';have hx':ρv x=L.v k:=hx';obtain ⟨hpl,_,_,hbuf⟩:=hC.own k _ hm;have hv:L.v k=.slice a rows.length cap:=hpl (a,cap) rfl;have hcap:rows.length<=cap:=by
  rcases hbuf with ⟨h4,_⟩ | ⟨g,cap',cur,h4,_,_,_,_,h5,_⟩
  ·rw [h4];exact Taj _
  ·rw [hv] at h4;injection h4 with _ _ h4;rw [h4];exact h5
 have hel:∃ ety i,e.P.underlying t=some (.slice ety)∧e.P.info? ety=some i∧i.size=sz:=by
  unfold Za9 at ht;split at ht
  ·rename_i ety hu;simp only [Tav] at ht;obtain ⟨i,hi,hs⟩:=ht;exact ⟨ety,i,hu,hi,hs⟩
  ·cases ht
 obtain ⟨el,i,hu,hi',hsz⟩:=hel;have hlo:=Zht (w:=w) (S:=S) (L:=L) (ρv:=ρv) hlo (fun y hy=>hr y (by simp [ho,Op.operands,hy]));have hhi:=Zhu (w:=w) (S:=S) (L:=L) (ρv:=ρv) hhi (fun y hy=>hr y (by simp [ho,Op.operands,hy]));refine ⟨sliced a l.toNat h.toNat cap sz,?_,by simp [ARel,DRel,Rep]⟩;have hbnd:(Instr.sliceBounds true rows.length cap (lo.map ρv) (hi.map ρv) none).run e.P w=.ok (l.toNat,h.toNat,cap) w:=by
  have eh:(h.toNat:Int)=h:=Int.toNat_of_nonneg om;have b1:0<=h:=om;have b2:h<=(cap:Int):=om;have b3:0<=l:=hb.1;have b4:l<=h:=hb.2.1;rcases hlo with ⟨rfl,rfl⟩ | e1 <;> rcases hhi with ⟨rfl,e2⟩ | e2
  ·simp [Instr.sliceBounds,e2,Result.andThen]
  ·simp [Instr.sliceBounds,e2,Result.andThen,run_sliceBound,b1,b2]
  ·have b5:l<=(rows.length:Int):=om;simp [Instr.sliceBounds,e1,e2,Result.andThen,run_sliceBound,b3,b5]
  ·simp [Instr.sliceBounds,e1,e2,Result.andThen,run_sliceBound,b1,b2,b3,b4,eh]
 simp only [execOp,ho,Sem.run_bind,hx',hv,Instr.sliceAt,Instr.slice,underlying,run_program,Result.andThen_ok,hu,Sem.run_pure,Option.map_none,hbnd,sizeOf,typeInfo,hi',hsz,sliced]
theorem Zyb {t:TypeId} {x:Operand} {lo hi:Option Operand} (ho:o.op=.slice t x lo hi none) {a:Option Addr} {l h:Int} (hx:nrm σ.m (evA σ.s x)=.buf k) (hm:gm σ.m k=some (.buf (some (a,cap)) ety sz rows)) (ht:Za9 e.P t=some sz)
  (hlo:loA (lo.map (evA σ.s))=some l) (hhi:hiA rows.length (hi.map (evA σ.s))=some h) (hb:0<=l∧l<=h∧h<=rows.length) (hK:K ⟨setA σ.s o.dst (.d (.one (.lit (sliced a l.toNat h.toNat cap sz)))),σ.m⟩):Zbx e o σ K:=by
 intro he U w0 S0 nt ac w Q hd ⟨S,L,h1⟩;exact Oper.wp_mono (fun a' w' hs=>⟨_,hK,hs⟩) (Zek h1 hd (ZwL ho hx hm ht hlo hhi hb))
theorem Zh7 {U:Nat->Prop} {base:Nat} {S0:Nat->Prop} {t:TypeId} {x i:Operand} (ho:o.op=.indexAddr t x i) {l:Nat} {a:Option Addr} {j:Int} (hx:evA σ.s x=.d (.one (.lit (sliced a l h cap sz)))) (hi:evA σ.s i=.d (.one (.lit (.int .i64 j)))) (hm:gm σ.m k=some (.buf (some (a,cap)) ety sz rows)) (ht:Za9 e.P t=some sz)
  (hb:0<=j∧l+j < h∧h<=rows.length):Zbi e U base S0 σ.m o (evA σ.s) (.row k (l+j.toNat) sz 0):=by
 refine ZaK fun w S L ρv hC hr=>?_;have hx':=hr x (by simp [ho,Op.operands]);have hi':=hr i (by simp [ho,Op.operands]);rw [hx] at hx';rw [hi] at hi';have hx':=Zbj hx';have hi':=Zbj hi';obtain ⟨hpl,_,_,hbuf⟩:=hC.own k _ hm;have hv:L.v k=.slice a rows.length cap:=hpl (a,cap) rfl;rcases hbuf with ⟨h4,_⟩ | ⟨g,cap',cur,h4,h6,_,_,_,h5,_⟩
 ·rw [h4] at hb;simp at hb;omega
 ·rw [hv] at h4;injection h4 with h7 _ h8
  subst h7 h8;have hlc:¬ cap=l:=om;have hval:sliced (some ⟨g,0,none⟩) l h cap sz=.slice (some ⟨g,l * sz,none⟩) (h - l) (cap - l):=by
   simp only [sliced,hlc,if_false,Option.map_some,Addr.add_at,Nat.zero_add]
  refine ⟨.pointer (some ⟨g,(l+j.toNat) * sz+0,none⟩),?_,g,?_,rfl⟩
  ·unfold Za9 at ht;split at ht
   ·rename_i el hu;simp only [Tav] at ht;obtain ⟨ii,hii,hn⟩:=ht;have hlt:j < ((h - l:Nat):Int):=om;have hj:=hb.1;have e2:l * sz+j.toNat * sz=(l+j.toNat) * sz+0:=by rw [Nat.add_mul];rfl
    simp [execOp,ho,hi',hx',hval,Instr.indexAt,asIntOf,underlying,hu,sizeOf,typeInfo,hii,hn,Addr.add_at,hj,hlt,Result.andThen,e2]
   ·cases ht
  ·rw [hv];simp only [vblk];rw [if_neg om]
theorem Zo8 {t:TypeId} {x i:Operand} (ho:o.op=.indexAddr t x i) {l:Nat} {a:Option Addr} {j:Int} (hx:evA σ.s x=.d (.one (.lit (sliced a l h cap sz)))) (hi:evA σ.s i=.d (.one (.lit (.int .i64 j)))) (hm:gm σ.m k=some (.buf (some (a,cap)) ety sz rows)) (ht:Za9 e.P t=some sz)
  (hb:0<=j∧l+j < h∧h<=rows.length) (hK:K ⟨setA σ.s o.dst (.row k (l+j.toNat) sz 0),σ.m⟩):Zbx e o σ K:=by
 intro he U w0 S0 nt ac w Q hd ⟨S,L,h1⟩;exact Oper.wp_mono (fun a' w' hs=>⟨_,hK,hs⟩) (Zek h1 hd (Zh7 ho hx hi hm ht hb))
theorem Znm {t:TypeId} {x i:Operand} (ho:o.op=.indexAddr t x i) {l:Nat} {a:Option Addr} {j:Int} (hx:evA σ.s x=.d (.one (.lit (sliced a l h cap sz)))) (hi:evA σ.s i=.d (.one (.lit (.int .i64 j)))) (hm:gm σ.m k=some (.buf (some (a,cap)) ety sz rows)) (ht:Za9 e.P t=some sz)
  (hb:0<=j∧l+j < h∧h<=rows.length) (hK:K ⟨setA σ.s o.dst (.row k (l+j.toNat) sz 0),σ.m⟩):ZeX e o σ K:=fun he=>⟨_,hK,fun U base S0=>Zh7 ho hx hi hm ht hb⟩
theorem ZsZ {x:Operand} {t:TypeId} (ho:o.op=.call ⟨.builtin .clear,#[x],#[t]⟩) {by' l:Nat} {a:Option Addr} {z:List C} (hx:evA σ.s x=.d (.one (.lit (sliced a l rows.length cap sz)))) (hm:gm σ.m k=some (.buf (some (a,cap)) ety sz rows)) (ht:Za3 e.P t=some (ety,sz,by')) (hz:ZaI e.P ety=some z) (hzok:z.all Zai=true) (hl:l < rows.length)
  (hK:K ⟨setA σ.s o.dst (.tup []),(k,.buf (some (a,cap)) ety sz (rows.take l++List.replicate (rows.length - l) z))::remM k σ.m⟩):Zbx e o σ K:=by
 intro he U w0 S0 nt ac w Q hd ⟨S,L,h1⟩;have hx':=h1.eval x;rw [hx] at hx';have hx':=Zbj hx';obtain ⟨hpl,hs0,_,hbuf⟩:=h1.cls.own k _ hm;have hv:L.v k=.slice a rows.length cap:=hpl (a,cap) rfl;obtain ⟨i,zv,hu,hi,hzz,hsz,hby,hzs,hs0,hb4⟩:=Zdq ht;have hzc:z=zv.cells.toList.map toC:=by
  unfold ZaI at hz;simp only [hi,Option.bind_some,hzz,Option.map_some,Taq] at hz;exact hz.symm
 rcases hbuf with ⟨h4,_⟩ | ⟨g,cap',cur,h4,h6,_,_,_,h5,_⟩
 ·rw [h4] at hl;simp at hl
 ·rw [hv] at h4;injection h4 with h7 _ h8
  subst h7 h8;have hlc:¬ cap=l:=om;have hval:sliced (some ⟨g,0,none⟩) l rows.length cap sz=.slice (some ⟨g,l * sz,none⟩) (rows.length - l) (cap - l):=by
   simp only [sliced,hlc,if_false,Option.map_some,Addr.add_at,Nat.zero_add]
  have hn:rowsLen sz (List.replicate (rows.length - l) z):=fun r hr=>by
   rw [List.eq_of_mem_replicate hr];exact ⟨by rw [hzc];simp [hzs],hzok⟩
  have hu':Zab w S (List.replicate (rows.length - l) z).flatten ((List.replicate (rows.length - l) zv).flatMap fun v=>v.cells.toList):=by rw [hzc];exact Zih _
  obtain ⟨w',hst,hsim⟩:=h1.storeRows he (l:=l) (g:=g) hm (by rw [hv];simp only [vblk];rw [if_neg om]) (by simp;omega) hn hu';rw [List.length_replicate,show l+(rows.length - l)=rows.length by omega,List.drop_length,List.append_nil] at hsim;obtain ⟨S',L',hsim⟩:=hsim;have hzc2:(Builtin.zeroCells zv.cells (rows.length - l)).toList=(List.replicate (rows.length - l) zv).flatMap fun v=>v.cells.toList:=by
   have:=ZkG zv sz hs0 hzs (rows.length - l);rw [<- this];simp [Builtin.zeroCells,madeCells,hzs]
  have hrun:(execOp ac.eval o).run e.P w=.ok (.value (.tuple #[])) w':=by
   have hne:¬ (rows.length - l=0):=om;obtain ⟨q,hq⟩:∃ q,rows.length - l=q+1:=⟨rows.length - l - 1,om⟩;rw [hq] at hst hzc2;simp [execOp,ho,resolve,invoke,builtin,Builtin.clear_,hx',hval,hq,underlying,hu,zeroValue,hi,hzz,typeInfo,Result.andThen,hzc2,hst]
  unfold Oper.wp;rw [hrun,Oper.upon_value];refine ⟨_,hK,S',L',hsim.put (α:=.tup []) (v:=.tuple #[]) ⟨[],rfl,trivial⟩ hd⟩
end
theorem ZwM {a:Option Addr} (m:Nat) (hm:m<=rows.length):ZaS [.buf (some (a,cap)) ety sz rows] [.buf (some (a,cap)) ety sz (rows.take m)]:=fun w S h ha=>by
 have hl:(rows.take m).length=m:=by rw [Taw];omega
 obtain ⟨h0,hrl,hc⟩:Za5 w S ety sz rows (.slice a rows.length cap):=h (.buf (some (a,cap)) ety sz rows) (by simp);have hb:∀ b,vblk (.slice a m cap)=some b ↔ vblk (.slice a rows.length cap)=some b:=fun b=>by cases a <;> simp [vblk]
 refine ⟨fun x hx=>?_,ZdZ _,fun g ⟨x,hx,hg⟩=>?_⟩
 ·simp only [Tbg,List.not_mem_nil,or_false] at hx;subst hx;show Za5 w S ety sz (rows.take m) (.slice a (rows.take m).length cap);rw [hl];refine ⟨h0,fun r hr=>hrl r (List.mem_of_mem_take hr),?_⟩;rcases hc with ⟨h4,p,h5⟩ | ⟨g,cap',cur,h4,h5,h6,h7,h8,h9,h10,h11,h12⟩
  ·subst h4;simp only [Tak,Nat.le_zero_eq] at hm;subst hm;exact .inl ⟨by simp,p,by simpa using h5⟩
  ·injection h4 with e1 e2 e3
   subst e1 e3;refine .inr ⟨g,cap,cur,by rw [hl],h5,h6,h7,h8,by rw [hl];omega,h10,h11,?_⟩;have:=Zas.sub hrl h12 0 m;simpa using this
 ·simp only [Tbg,List.not_mem_nil,or_false] at hx;subst hx;refine ⟨.buf (some (a,cap)) ety sz rows,by simp,?_⟩;simp only [pblk,hl] at hg ⊢;exact (hb g).1 hg
theorem gSub {d t:Nat} {p:String} {x:Operand} {lo hi:Option Operand} {a:Option Addr} (k l h:Nat) (hb:l<=h∧h<=rows.length) (hK:Runs e ds 0 os ⟨(d,.d (.one (.lit (sliced a l h cap sz))))::s,m⟩ K)
  (hx:nrm m (evA s x)=.buf k:=by exact sfx) (hm:gm m k=some (.buf (some (a,cap)) ety sz rows):=by exact snv) (ht:Za9 e.P t=some sz:=by exact snx)
  (hlo:loA (lo.map (evA s))=some (l:Int):=by exact sfx) (hhi:hiA rows.length (hi.map (evA s))=some (h:Int):=by exact sfx):Runs e ds 0 (⟨some d,.slice t x lo hi none,ty,p,ed,none⟩::os) ⟨s,m⟩ K:=by
 simp only [Runs] at hK ⊢;exact Zdf rfl (Zyb (o:=⟨some d,.slice t x lo hi none,ty,p,ed,none⟩) rfl hx hm ht hlo hhi ⟨om,om,om⟩ (by simpa only [Tbt,setA] using hK))
theorem ZA7 {d t l:Nat} {p:String} {x i:Operand} {a:Option Addr} (k j:Nat) (hb:l+j < h∧h<=rows.length) (hK:Runs e ds 0 os ⟨(d,.row k (l+j) sz 0)::s,m⟩ K)
  (hx:evA s x=.d (.one (.lit (sliced a l h cap sz))):=by exact snx) (hi:evA s i=.d (.one (.lit (.int .i64 (j:Int)))):=by exact sfx) (hm:gm m k=some (.buf (some (a,cap)) ety sz rows):=by exact snv) (ht:Za9 e.P t=some sz:=by exact snx):Runs e ds 0 (⟨some d,.indexAddr t x i,ty,p,ed,none⟩::os) ⟨s,m⟩ K:=by
 simp only [Runs] at hK ⊢;exact Zdf rfl (Zo8 (o:=⟨some d,.indexAddr t x i,ty,p,ed,none⟩) rfl hx hi hm ht ⟨om,om,om⟩ (by simpa only [Tbt,setA] using hK))
theorem Zs0 {o:Oper} (hg:o.guard=none) (hal:isAl o=false) (h:ZeX e o σ (fun σ'=>Runs e ds n os σ' K)):Runs e ds (n+1) (o::os) σ K:=by
 simp only [Runs,hg];rw [if_neg (by simp [hal])];exact h
theorem ZwN {d t l:Nat} {p:String} {x i:Operand} {a:Option Addr} (k j:Nat) (hb:l+j < h∧h<=rows.length) (hK:Runs e ds n os ⟨(d,.row k (l+j) sz 0)::s,m⟩ K)
  (hx:evA s x=.d (.one (.lit (sliced a l h cap sz))):=by exact snx) (hi:evA s i=.d (.one (.lit (.int .i64 (j:Int)))):=by exact sfx) (hm:gm m k=some (.buf (some (a,cap)) ety sz rows):=by exact snv) (ht:Za9 e.P t=some sz:=by exact snx):Runs e ds (n+1) (⟨some d,.indexAddr t x i,ty,p,ed,none⟩::os) ⟨s,m⟩ K :=
 Zs0 rfl rfl (Znm (o:=⟨some d,.indexAddr t x i,ty,p,ed,none⟩) rfl hx hi hm ht ⟨om,om,om⟩ (by simpa only [Tbt,setA] using hK))
theorem ZAK {t by' l:Nat} {dd:Option Nat} {p:String} {x:Operand} {s':List (Nat × A)} {m':List (Nat × Bk)} {a:Option Addr} {z:List C} (k:Nat) (hl:l < rows.length) (hK:Runs e ds 0 os ⟨s',(k,.buf (some (a,cap)) ety sz (rows.take l++List.replicate (rows.length - l) z))::m'⟩ K)
  (hx:evA s x=.d (.one (.lit (sliced a l rows.length cap sz))):=by exact snv) (hm:gm m k=some (.buf (some (a,cap)) ety sz rows):=by exact snv) (ht:Za3 e.P t=some (ety,sz,by'):=by exact snx) (hz:ZaI e.P ety=some z:=by exact snx) (hzok:z.all Zai=true:=by first | rfl | exact sny)
  (hs:setA s dd (.tup [])=s':=by simp only [setA];exact rfl) (hr:remM k m=m':=by exact snv):Runs e ds 0 (⟨dd,.call ⟨.builtin .clear,#[x],#[t]⟩,ty,p,ed,none⟩::os) ⟨s,m⟩ K:=by
 subst hs hr;simp only [Runs] at hK ⊢;exact Zdf rfl (ZsZ (o:=⟨dd,.call ⟨.builtin .clear,#[x],#[t]⟩,ty,p,ed,none⟩) rfl hx hm ht hz hzok hl hK)
theorem ZjR (a:Option Addr) (k cap sz:Nat):sliced a 0 k cap sz=.slice a k cap:=by
 cases a with
 | none=>simp [sliced]
 | some p =>
  have:p.add 0=p:=by cases p;simp [Addr.add]
  simp [sliced,this]
section
variable {e:Env} {ops:Array Oper} {K:St->Prop}
def QN (e:Env) (U:Nat->Prop) (w0:World) (S0:Nat->Prop) (nt:Nat) (K:St->Prop):Exit->Act->World->Prop:=fun ex a w=>ex=.normal∧∃ σ',K σ'∧SimE e U w0 S0 nt σ' a w
def ZcP (e:Env) (ops:Array Oper) (K:St->Prop) (f:Nat) (listed:Array Bool) (σ:St):Prop :=
 e.Ok->∀ (U:Nat->Prop) (w0:World) (S0:Nat->Prop) (nt:Nat) (a:Act) (w:World),(∀ o∈ops.toList,∀ d,o.dst=some d->d < nt)->SimE e U w0 S0 nt σ a w->wpAny e.P .any ops (QN e U w0 S0 nt K) f listed a w
theorem Zqm (hds:ops.toList.map (·.dst)=ds) (h:ZcB e ds ops K f listed σ):ZcP e ops K f listed σ:=by
 subst hds;exact fun he U w0 S0 nt a w hd hs=>Zj3 he (fun a w σ' hK hs'=>⟨rfl,σ',hK,hs'⟩) hd f listed σ a w hs h
def ZiK (ops:Array Oper) (listed:Array Bool) (i:Nat):Bool:=(List.range ops.size).all fun j=>j==i || (listed.getD j true || match ops[i]?,ops[j]? with
 | some oi,some oj=>oj.after.any (fun e=>Region.binds .any e && e.on==i) || oi.apart ops oj
 | _,_=>true)
def ZhP (ops:Array Oper):Bool:=ops.toList.all fun o=>match o.op with
 | .select _ _=>false
 | _=>true
theorem ZfH {i d:Nat} {o:Oper} {α:A} (hi:ops[i]?=some o) (hdst:o.dst=some d) (hg:o.guard=none) (hsel:ZhP ops=true) (hap:ZiK ops listed i=true) (hr:(Region.ready .any ops listed).contains i=true)
  (hp:e.Ok->∀ (U:Nat->Prop) (w0:World) (S0:Nat->Prop) (nt:Nat) (a:Act) (w:World) (S:Nat->Prop) (L:Lay),Sim e U w0 S0 nt σ a w S L->∃ v,(∀ w',(execOp a.eval o).run e.P w'=.ok (.value v) w')∧ARel w S L α v)
  (hK:ZcP e ops K f (listed.setIfInBounds i true) ⟨(d,α)::σ.s,σ.m⟩):ZcP e ops K (f+1) listed σ:=by
 intro he U w0 S0 nt a w hd ⟨S,L,h⟩;obtain ⟨v,hv,hrel⟩:=hp he U w0 S0 nt a w S L h;have hmem:o∈ops.toList:=Tac (by simpa using hi);refine wpAny_first (oi:=o) (v:=v) hi (fun j oj cs b hj hs=>?_) (fun c a w hq=>?_) f listed a w (fun j oj hj hne hl hno=>?_) ?_ ?_ ?_
 ·have:=List.all_eq_true.1 hsel oj (Tac (by simpa using hj));rw [hs] at this
  cases this
 ·have:=hq.1
  cases this
 ·have hjs:=(Tbl.1 hj).1;have:=List.all_eq_true.1 hap j (List.mem_range.2 hjs);simp only [hi,hj,Bool.or_eq_true,beq_iff_eq,List.any_eq_true,Array.any_eq_true',Tar] at this;rcases this with h1 | h1 | h1 | h1
  ·exact absurd h1 hne
  ·rw [hl] at h1;cases h1
  ·obtain ⟨ed,h2,h3,h4⟩:=h1;exact absurd h4 (hno ed h2 h3)
  ·exact h1
 ·simpa using hr
 ·exact .inl ⟨by simp [Region.wanted,hg],hv⟩
 ·have h2:SimE e U w0 S0 nt ⟨(d,α)::σ.s,σ.m⟩ (a.put o.dst v) w:=⟨S,L,by
   have:=h.put (α:=α) hrel (hd o hmem)
   rwa [hdst,setA,<- hdst] at this⟩
  exact hK he U w0 S0 nt (a.put o.dst v) w hd h2
end
section
variable {e:Env} {K:St->Prop} {mask:Nat} {Q:PX->St->Prop} {s:List (Nat × A)} {m:List (Nat × Bk)}
theorem ZiL (hK:ZcP e ops (ZcZ mask Q) ops.size (Array.replicate ops.size false) σ):pwp e mask (.region id ops true) σ Q:=fun he U w0 S0 nt a w hok hs=>by
 obtain ⟨S,L,h1⟩:=hs.drew he;refine Code.wp_mono (fun ex a' w' hq=>?_) (wp_region_any he.mixed (hK he U w0 S0 nt a { w with drawn:=w.drawn+1 } (Zk0 hok) ⟨S,L,h1⟩));obtain ⟨rfl,σ',k1,k2⟩:=hq;exact ⟨_,k1,k2.weak (fun t=>Zhx mask t σ'.s) (fun _ _ h=>h)⟩
theorem gF0 {l:List Oper} (hK:ZcP e l.toArray (ZcZ mask Q) l.length (Array.replicate l.length false) ⟨s,m⟩):pwp e mask (.region id l.toArray true) ⟨s,m⟩ Q:=ZiL (ops:=l.toArray) (by simpa using hK)
theorem gFT (h:ZcB e ds ops K f listed σ) (hds:ops.toList.map (·.dst)=ds:=by exact rfl):ZcP e ops K f listed σ:=Zqm hds h
theorem gFm {d:Nat} {p:String} {x:Operand} {α:A} (i:Nat) (hK:ZcP e ops K f (listed.setIfInBounds i true) ⟨(d,α)::s,m⟩)
  (hi:ops[i]?=some ⟨some d,.move x,ty,p,ed,none⟩:=by simp only [List.getElem?_toArray,Tau,Tat];exact rfl) (hx:evA s x=α:=by exact snv) (hsel:ZhP ops=true:=by decide +kernel) (hap:ZiK ops listed i=true:=by decide +kernel) (hr:(Region.ready .any ops listed).contains i=true:=by decide +kernel):ZcP e ops K (f+1) listed ⟨s,m⟩:=by
 subst hx;exact ZfH (o:=⟨some d,.move x,ty,p,ed,none⟩) hi rfl rfl hsel hap hr (fun _ U w0 S0 nt a w S L h=>⟨a.eval x,fun w2=>by simp [execOp],h.eval x⟩) hK
theorem gFs {d t:Nat} {p:String} {x:Operand} {lo hi:Option Operand} {a:Option Addr} (i k l h:Nat) (hb:l<=h∧h<=rows.length) (hK:ZcP e ops K f (listed.setIfInBounds i true) ⟨(d,.d (.one (.lit (sliced a l h cap sz))))::s,m⟩)
  (hi':ops[i]?=some ⟨some d,.slice t x lo hi none,ty,p,ed,none⟩:=by simp only [List.getElem?_toArray,Tau,Tat];exact rfl)
  (hx:nrm m (evA s x)=.buf k:=by exact sfx) (hm:gm m k=some (.buf (some (a,cap)) ety sz rows):=by exact snv) (ht:Za9 e.P t=some sz:=by exact snx)
  (hlo:loA (lo.map (evA s))=some (l:Int):=by exact sfx) (hhi:hiA rows.length (hi.map (evA s))=some (h:Int):=by exact sfx)
  (hsel:ZhP ops=true:=by decide +kernel) (hap:ZiK ops listed i=true:=by decide +kernel) (hr:(Region.ready .any ops listed).contains i=true:=by decide +kernel):ZcP e ops K (f+1) listed ⟨s,m⟩:=by
 refine ZfH (o:=⟨some d,.slice t x lo hi none,ty,p,ed,none⟩) hi' rfl rfl hsel hap hr (fun _ U w0 S0 nt ac w S L hS=>⟨sliced a l h cap sz,fun w'=>?_,by simp [ARel,DRel,Rep]⟩) hK;have hx':=Zcw hS.cls (hS.eval x);simp only at hx';rw [hx] at hx';have hx':ac.eval x=L.v k:=hx';obtain ⟨hpl,_,_,hbuf⟩:=hS.cls.own k _ hm;have hv:L.v k=.slice a rows.length cap:=hpl (a,cap) rfl;have hcap:rows.length<=cap:=by
  rcases hbuf with ⟨h4,_⟩ | ⟨g,cap',cur,h4,_,_,_,_,h5,_⟩
  ·rw [h4];exact Taj _
  ·rw [hv] at h4;injection h4 with _ _ h4;rw [h4];exact h5
 have hel:∃ ety i,e.P.underlying t=some (.slice ety)∧e.P.info? ety=some i∧i.size=sz:=by
  unfold Za9 at ht;split at ht
  ·rename_i ety hu;simp only [Tav] at ht;obtain ⟨i,hi,hs⟩:=ht;exact ⟨ety,i,hu,hi,hs⟩
  ·cases ht
 obtain ⟨el,inf,hu,hinf,hsz⟩:=hel;have hlo:=Zht (w:=w) (S:=S) (L:=L) (ρv:=ac.eval) hlo (fun y hy=>hS.eval y);have hhi:=Zhu (w:=w) (S:=S) (L:=L) (ρv:=ac.eval) hhi (fun y hy=>hS.eval y);have hbnd:(Instr.sliceBounds true rows.length cap (lo.map ac.eval) (hi.map ac.eval) none).run e.P w'=.ok (l,h,cap) w':=by
  have b2:(h:Int)<=(cap:Int):=om;have b5:(l:Int)<=(rows.length:Int):=om;rcases hlo with ⟨rfl,e1⟩ | e1 <;> rcases hhi with ⟨rfl,e2⟩ | e2
  ·have e1:l=0:=om;have e2:h=rows.length:=om;subst e1 e2;simp [Instr.sliceBounds,Result.andThen]
  ·have e1:l=0:=om;subst e1;simp [Instr.sliceBounds,e2,Result.andThen,run_sliceBound,b2]
  ·have e2:h=rows.length:=om;subst e2;simp [Instr.sliceBounds,e1,Result.andThen,run_sliceBound,b5]
  ·have b4:(l:Int)<=(h:Int):=om;simp [Instr.sliceBounds,e1,e2,Result.andThen,run_sliceBound,b2,b4,hb.1]
 simp only [execOp,Sem.run_bind,hx',hv,Instr.sliceAt,Instr.slice,underlying,run_program,Result.andThen_ok,hu,Sem.run_pure,Option.map_none,hbnd,sizeOf,typeInfo,hinf,hsz,sliced]
end
section
variable {e:Env} {K:St->Prop} {s:List (Nat × A)} {m:List (Nat × Bk)}
theorem gFb {d t t':Nat} {p:String} {op:BinOp} {x y:Operand} {a b v:Value} (i:Nat) (hK:ZcP e ops K f (listed.setIfInBounds i true) ⟨(d,.d (.one (.lit v)))::s,m⟩)
  (hi:ops[i]?=some ⟨some d,.binOp op t x y t',ty,p,ed,none⟩:=by simp only [List.getElem?_toArray,Tau,Tat];exact rfl) (hx:evA s x=.d (.one (.lit a)):=by exact snv) (hy:evA s y=.d (.one (.lit b)):=by exact snv) (hv:binT e.P op t a b=some v:=by exact sfv) (hsel:ZhP ops=true:=by decide +kernel) (hap:ZiK ops listed i=true:=by decide +kernel) (hr:(Region.ready .any ops listed).contains i=true:=by decide +kernel):ZcP e ops K (f+1) listed ⟨s,m⟩:=by
 refine ZfH (o:=⟨some d,.binOp op t x y t',ty,p,ed,none⟩) hi rfl rfl hsel hap hr (fun _ U w0 S0 nt ac w S L h=>⟨v,fun w2=>?_,by simp [ARel,DRel,Rep]⟩) hK;have h1:=h.eval x;have h2:=h.eval y;rw [hx] at h1;rw [hy] at h2;have h1:=Zbj h1;have h2:=Zbj h2;have:=Zoa (x:=x) (y:=y) hv w2;simp only [execOp,h1,h2];rw [Sem.run_bind,this];rfl
theorem gFi {d t:Nat} {p:String} {x y:Operand} {o:Option (Option Addr × Nat)} {kk:IntKind} (i j:Nat) (hlt:j < rows.length) (hK:ZcP e ops K f (listed.setIfInBounds i true) ⟨(d,.row k j sz 0)::s,m⟩)
  (hi:ops[i]?=some ⟨some d,.indexAddr t x y,ty,p,ed,none⟩:=by simp only [List.getElem?_toArray,Tau,Tat];exact rfl) (hx:nrm m (evA s x)=.buf k:=by exact sfx) (hy:evA s y=.d (.one (.lit (.int kk (j:Int)))):=by exact snv) (hm:gm m k=some (.buf o ety sz rows):=by exact snv) (ht:Za9 e.P t=some sz:=by exact snx) (hsel:ZhP ops=true:=by decide +kernel) (hap:ZiK ops listed i=true:=by decide +kernel) (hr:(Region.ready .any ops listed).contains i=true:=by decide +kernel):ZcP e ops K (f+1) listed ⟨s,m⟩:=by
 refine ZfH (o:=⟨some d,.indexAddr t x y,ty,p,ed,none⟩) hi rfl rfl hsel hap hr (fun _ U w0 S0 nt ac w S L h=>?_) hK;have hx':=Zcw h.cls (h.eval x);simp only at hx';rw [hx] at hx';have hx':ac.eval x=L.v k:=hx';have hy':=h.eval y;rw [hy] at hy';have hy':=Zbj hy';obtain ⟨_,_,_,h4⟩:=h.cls.own k _ hm;rcases h4 with ⟨h4,_⟩ | ⟨g,cap,cur,hv,hcp,_⟩
 ·rw [h4] at hlt;simp at hlt
 ·refine ⟨.pointer (some ⟨g,j * sz,none⟩),fun w2=>?_,g,?_,rfl⟩
  ·have:=Zie (P:=e.P) (j:=(j:Int)) ht (Int.natCast_nonneg _) (by rw [Tbt];exact hlt) (g:=g) (cap:=cap) (k:=kk) (w:=w2);rw [Tbt] at this;simp [execOp,hy',hx',hv,this]
  ·rw [hv];simp only [vblk];rw [if_neg om]
end
def RBuf (a:Option Addr) (cap:Nat) (us:List Tm) (r:List D) (pm:List Bk):Prop:=r=[]∧pm=[.buf (some (a,cap)) 42 4 (Zaa us)]
theorem Zax (l:List Tm) (i:Nat) (t:Tm):(Zaa l).set i (Zad t)=Zaa (l.set i t):=by
 rw [Zbt,Zbt,List.map_set]
theorem gTPe {X:Prop} {P:Program} {ts:List RS} {R:List D->List Bk->Prop} {r:List D} {pm:List Bk} (ks:List Nat) (hR:R r pm) (hx:ZkI P ts R .normal σ->X:=by first | exact fun h=>h | exact fun h=>⟨_,Wk.refl _,h⟩) (hr:resD P σ ts=some r:=by exact sfy) (hg:getM σ.m ks=some pm:=by exact sny) (hn:ks.Nodup:=by decide) (hp:pm.all pinned=true:=by exact sny):X :=
 hx ⟨r,ks,pm,hg,hn,hp,hR,Zgp hr⟩
theorem Zjj:ZeR (Tryz.prog.underlying 3)=some .i64:=by kernel_rfl
theorem ZhQ:Tryz.prog.underlying 215=some (.int .u64):=by kernel_rfl
theorem Zjk (j:Int):ZkQ j (some (.int .u64)) (some .i64)=some (.d (.one (.lit (.int .i64 (IntKind.i64.wrap j))))):=rfl
theorem toNat_one:Int.toNat 1=1:=rfl
theorem Zjl (i j:Nat) (h:i+j < 4611686018427387904):∃ s m:Nat,IntKind.i64.wrap ((i:Int)+(j:Int))=(s:Int)∧IntKind.u64.wrap (s:Int)=(s:Int)∧(s:Int).fdiv (2 ^ (min 1 64))=(m:Int)∧IntKind.i64.wrap (m:Int)=(m:Int)∧m=(i+j) / 2:=by
 refine ⟨i+j,(i+j) / 2,Za6 om om om,?_,?_,IntWalk.i64_in _ ⟨om,om⟩,rfl⟩
 ·simp only [IntKind.wrap,IntKind.signed,IntKind.bits];simp;omega
 ·simp only [show min 1 64=1 from rfl,Int.pow_succ,Int.pow_zero,Int.one_mul];rw [Int.fdiv_eq_ediv_of_nonneg _ (by decide)];omega
theorem ZiM (P X Z Y Q:List Tm) (hl:X.length=Y.length) {A B:Nat} (hA:A=P.length) (hB:B=P.length+X.length+Z.length) (hn:n=X.length) (hN:N=P.length+X.length+Z.length+Y.length+Q.length) (hmx:N<=4000000) (a:Option Addr) (cap:Nat) :
  ConP e0 185 [.one (.lit (.slice a N cap)),.one (.lit (.int .i64 A)),.one (.lit (.int .i64 B)),.one (.lit (.int .i64 n)),.one (.fn 117 [])] [.buf (some (a,cap)) 42 4 (Zaa (P++X++Z++Y++Q))] (RBuf a cap (P++Y++Z++X++Q)):=by
 refine gIP (ts:=[]) [1000] 9231 Tryz.func185 ?_;refine fG @tmz ?_;have F:=@tmz;refine gL (ι:=Nat × List Tm) [10,13] [1000] (fun x=>[(10,.d (.one (.lit (.int .i64 (x.1:Int)))))]) (fun x=>[(1000,.buf (some (a,cap)) 42 4 (Zaa x.2))]) (fun x=>x.1<=n∧x.2=swR P X Z Y Q x.1) (fun x=>n - x.1) ((0,P++X++Z++Y++Q)) (⟨Taj _,(Zx7 P X Z Y Q).symm⟩) (fun x hx=>?_);clear F;obtain ⟨i,us⟩:=x;obtain ⟨hi,hus⟩:=hx;simp only at hi hus
 dsimp only;by_cases hlt:i < n;rotate_left
 ·obtain rfl:i=n:=by omega
  have q1:=lF i i;rw [hn,ZAc hl] at hus;subst hus;refine fG (ai @q1 @tmz) ?_
  first | exact (have F:=@e0P;gTPe (R:=RBuf a cap (P++Y++Z++X++Q)) [1000] ⟨rfl,rfl⟩) | exact (have F:=@e0P;gTP (R:=RBuf a cap (P++Y++Z++X++Q)) [1000] ⟨rfl,rfl⟩)
 have q1:=lT i n;obtain ⟨x,hx⟩:∃ t,X[i]?=some t:=⟨_,Taa om⟩;obtain ⟨y,hy⟩:∃ t,Y[i]?=some t:=⟨_,Taa om⟩;obtain ⟨g1,g2,g3⟩:=ZAe (P:=P) (Z:=Z) (Q:=Q) hl hx hy;have hul:us.length=N:=by rw [hus,ZAd i hl,hN]
 rw [<- hus] at g1 g2 g3;rw [<- hB] at g2 g3;rw [<- hA] at g1 g3;obtain ⟨p,hp⟩:∃ p,p=A+i:=⟨_,rfl⟩;obtain ⟨q,hq⟩:∃ q,q=B+i:=⟨_,rfl⟩;rw [<- hp] at g1 g3;rw [<- hq] at g2 g3;have w1:IntKind.i64.wrap ((A:Int)+(i:Int))=(p:Int):=Za6 om om om;have w2:IntKind.i64.wrap ((B:Int)+(i:Int))=(q:Int):=Za6 om om om;have w3:=Zaw (k:=i) om;have l1:p < N:=om;have l2:q < N:=om;have hls:∀ k (t:Tm),(us.set k t).length=N:=fun k t=>by rw [Taz,hul]
 refine fN 3 (ai @q1 @tmz) ?_;obtain ⟨z,g4⟩:∃ z,(us.set p y)[q]?=some z:=⟨_,Taa (by rw [Taz];omega)⟩;refine gF0 ?_;refine gFm 0 ?_;refine gFm 1 ?_;refine gFm 2 ?_;refine (have F:=(aj13 q1 w1 w2 l1 l2 hul g1 g2 g4 hls @Zac @Zax tmz);gFb 3 ?_);refine gFm 4 ?_;refine gFm 5 ?_;refine gFm 6 ?_;refine (have F:=(aj13 q1 w1 w2 l1 l2 hul g1 g2 g4 hls @Zac @Zax tmz);gFb 7 ?_);refine gFm 8 ?_;refine gFm 9 ?_
 refine gFm 10 ?_;refine (have F:=(aj13 q1 w1 w2 l1 l2 hul g1 g2 g4 hls @Zac @Zax tmz);gFb 11 ?_);refine (have F:=(aj13 q1 w1 w2 l1 l2 hul g1 g2 g4 hls @Zac @Zax tmz);gFi (rows:=Zaa us) 12 q (by rw [Zac];omega) ?_);refine gFm 14 ?_;refine gFm 15 ?_;refine gFm 16 ?_;refine (have F:=(aj13 q1 w1 w2 l1 l2 hul g1 g2 g4 hls @Zac @Zax tmz);gFb 17 ?_);refine (have F:=(aj13 q1 w1 w2 l1 l2 hul g1 g2 g4 hls @Zac @Zax tmz);gFi (rows:=Zaa us) 18 p (by rw [Zac];omega) ?_)
 refine gFT ?_;refine gO2 13 19 ?_ ?_
 ·refine (have F:=(aj13 q1 w1 w2 l1 l2 hul g1 g2 g4 hls @Zac @Zax tmz);gO3 ?_);refine gO1 19 ?_;refine (have F:=(aj13 q1 w1 w2 l1 l2 hul g1 g2 g4 hls @Zac @Zax tmz);gO3 ?_);refine gO1 20 ?_;refine (have F:=(aj13 q1 w1 w2 l1 l2 hul g1 g2 g4 hls @Zac @Zax tmz);gO3 ?_);refine gO1 21 ?_;refine (have F:=(aj13 q1 w1 w2 l1 l2 hul g1 g2 g4 hls @Zac @Zax tmz);gO3 ?_);refine gO1 22 ?_;refine (have F:=(aj13 q1 w1 w2 l1 l2 hul g1 g2 g4 hls @Zac @Zax tmz);gO3 ?_)
  refine gO1 23 ?_;refine (have F:=(aj13 q1 w1 w2 l1 l2 hul g1 g2 g4 hls @Zac @Zax tmz);gO3 ?_);refine (have F:=tmz;gT0 ?_);refine Exists.intro _ (ai (Wk.refl _) ?_);rw [g3];have F:=@w3;refine gG ?_;exact ⟨(i+1,swR P X Z Y Q (i+1)),⟨hlt,rfl⟩,gw,gw,om⟩
 ·refine (have F:=(aj13 q1 w1 w2 l1 l2 hul g1 g2 g4 hls @Zac @Zax tmz);gO3 ?_);refine gO1 13 ?_;refine (have F:=(aj13 q1 w1 w2 l1 l2 hul g1 g2 g4 hls @Zac @Zax tmz);gO3 ?_);refine gO1 20 ?_;refine (have F:=(aj13 q1 w1 w2 l1 l2 hul g1 g2 g4 hls @Zac @Zax tmz);gO3 ?_);refine gO1 21 ?_;refine (have F:=(aj13 q1 w1 w2 l1 l2 hul g1 g2 g4 hls @Zac @Zax tmz);gO3 ?_);refine gO1 22 ?_;refine (have F:=(aj13 q1 w1 w2 l1 l2 hul g1 g2 g4 hls @Zac @Zax tmz);gO3 ?_)
  refine gO1 23 ?_;refine (have F:=(aj13 q1 w1 w2 l1 l2 hul g1 g2 g4 hls @Zac @Zax tmz);gO3 ?_);refine (have F:=tmz;gT0 ?_);refine Exists.intro _ (ai (Wk.refl _) ?_);rw [g3];have F:=@w3;refine gG ?_;exact ⟨(i+1,swR P X Z Y Q (i+1)),⟨hlt,rfl⟩,gw,gw,om⟩
theorem Zyc (P X Y Q:List Tm) (hX:0 < X.length) (hY:0 < Y.length) {A M B:Nat} (hA:A=P.length) (hM:M=P.length+X.length) (hB:B=P.length+X.length+Y.length) (hN:N=P.length+X.length+Y.length+Q.length) (hmx:N<=4000000) (a:Option Addr) (cap:Nat) :
  ConP e0 174 [.one (.lit (.slice a N cap)),.one (.lit (.int .i64 A)),.one (.lit (.int .i64 M)),.one (.lit (.int .i64 B)),.one (.fn 117 [])] [.buf (some (a,cap)) 42 4 (Zaa (P++X++Y++Q))] (RBuf a cap (P++Y++X++Q)):=by
 have w1:IntKind.i64.wrap ((M:Int) - (A:Int))=(X.length:Int):=Za6 om om om;have w2:IntKind.i64.wrap ((B:Int) - (M:Int))=(Y.length:Int):=Za6 om om om;refine gIP (ts:=[]) [1000] 9440287 Tryz.func174 ?_;refine fG (aj3 @w1 @w2 @tmz) ?_;have F:=@tmz;refine gL (ι:=(Nat × Nat) × List Tm) [10,11,20,23] [1000] (fun x=>[(10,.d (.one (.lit (.int .i64 (x.1.1:Int))))),(11,.d (.one (.lit (.int .i64 (x.1.2:Int)))))]) (fun x=>[(1000,.buf (some (a,cap)) 42 4 (Zaa x.2))]) (fun x=>∃ P' X' Y' Q',x.2=P'++X'++Y'++Q'∧x.1.1=X'.length∧x.1.2=Y'.length∧P'.length+X'.length=M∧0 < X'.length∧0 < Y'.length∧P'++Y'++X'++Q'=P++Y++X++Q) (fun x=>x.1.1+x.1.2) (((X.length,Y.length),P++X++Y++Q)) (⟨P,X,Y,Q,rfl,rfl,rfl,hM.symm,hX,hY,rfl⟩) (fun x hx=>?_);clear F
 obtain ⟨⟨i,j⟩,us⟩:=x;obtain ⟨P',X',Y',Q',hus,hi,hj,hM',hX',hY',hT⟩:=hx;simp only at hus hi hj;dsimp only;have hlen:=congrArg List.length hT;simp only [Tae] at hlen;obtain ⟨z,hz⟩:∃ z,z=P'.length:=⟨_,rfl⟩;have w3:IntKind.i64.wrap ((M:Int) - (i:Int))=(z:Int):=Za6 om om om;by_cases hij:i=j
 ·have q1:((i:Int)=(j:Int))=True:=eq_true om;have c:=ZiM P' X' [] Y' Q' om (A:=z) (B:=M) (n:=i) (N:=N) hz (by simp;omega) hi (by simp;omega) hmx a cap;rw [List.append_nil,List.append_nil,hT,<- hus] at c;refine fN 8 (ai @q1 @tmz) ?_;refine gB ?_;have F:=ai @tmz @w3;refine gCP [1000] [1000] (c) ?_;clear F;rintro r pm ⟨rfl,rfl⟩;simp only [setA,retA,zipM,Taf,Tah];refine fR @tmz ?_;refine fG @tmz ?_
  first | exact (have F:=@e0P;gTPe (R:=RBuf a cap (P++Y++X++Q)) [1000] ⟨rfl,rfl⟩) | exact (have F:=@e0P;gTP (R:=RBuf a cap (P++Y++X++Q)) [1000] ⟨rfl,rfl⟩)
 have q1:((i:Int)=(j:Int))=False:=eq_false om;by_cases hgt:j < i
 ·have q2:=lT j i;obtain ⟨d,hd⟩:∃ d,d=i - j:=⟨_,rfl⟩;have w4:IntKind.i64.wrap ((i:Int) - (j:Int))=(d:Int):=Za6 om om om;have hX12:X'=X'.take j++X'.drop j:=(Tbm j X').symm;have l1:(X'.take j).length=j:=by rw [Taw];omega
  have l2:(X'.drop j).length=d:=by rw [Tax];omega
  generalize X'.take j=X1 at hX12 l1;generalize X'.drop j=X2 at hX12 l2;subst hX12;have c:=ZiM P' X1 X2 Y' Q' om (A:=z) (B:=M) (n:=j) (N:=N) hz (by simp at hM';omega) l1.symm (by simp at hlen;omega) hmx a cap;rw [show P'++X1++X2++Y'++Q'=us by rw [hus];simp] at c;refine fN 4 (aj3 @q1 @q2 @tmz) ?_;refine gB ?_;have F:=ai @tmz @w3;refine gCP [1000] [1000] (c) ?_;clear F;rintro r pm ⟨rfl,rfl⟩;simp only [setA,retA,zipM,Taf,Tah]
  refine fR @tmz ?_;have F:=@w4;refine gG ?_;exact ⟨((d,j),P'++Y'++X2++X1++Q'),⟨P'++Y',X2,X1,Q',rfl,l2.symm,l1.symm,by simp at hM' ⊢;omega,om,om,by rw [<- hT];simp⟩,gw,gw,by dsimp only;omega⟩
 ·have q2:=lF j i;obtain ⟨d,hd⟩:∃ d,d=j - i:=⟨_,rfl⟩;have w4:IntKind.i64.wrap ((j:Int) - (i:Int))=(d:Int):=Za6 om om om;obtain ⟨u,hu⟩:∃ u,u=M+j:=⟨_,rfl⟩;obtain ⟨v,hv⟩:∃ v,v=M+d:=⟨_,rfl⟩;have w5:IntKind.i64.wrap ((M:Int)+(j:Int))=(u:Int):=Za6 om om om;have w6:IntKind.i64.wrap ((u:Int) - (i:Int))=(v:Int):=Za6 om om om;have hY12:Y'=Y'.take d++Y'.drop d:=(Tbm d Y').symm;have l1:(Y'.take d).length=d:=by rw [Taw];omega
  have l2:(Y'.drop d).length=i:=by rw [Tax];omega
  generalize Y'.take d=Y1 at hY12 l1;generalize Y'.drop d=Y2 at hY12 l2;subst hY12;have c:=ZiM P' X' Y1 Y2 Q' om (A:=z) (B:=v) (n:=i) (N:=N) hz om hi (by simp at hlen;omega) hmx a cap;rw [show P'++X'++Y1++Y2++Q'=us by rw [hus];simp] at c;refine fN 6 (aj3 @q1 @q2 @tmz) ?_;refine gB ?_;have F:=aj4 @tmz @w3 @w5 @w6;refine gCP [1000] [1000] (c) ?_;clear F;rintro r pm ⟨rfl,rfl⟩;simp only [setA,retA,zipM,Taf,Tah]
  refine fR @tmz ?_;have F:=@w4;refine gG ?_;exact ⟨((i,d),P'++Y2++Y1++X'++Q'),⟨P',Y2,Y1,X'++Q',by simp,l2.symm,l1.symm,om,om,om,by rw [<- hT];simp⟩,gw,gw,by dsimp only;omega⟩
theorem Zma {M:List Tm} (h:M[k]?=some x):M.take k++[x]=M.take (k+1):=(Zdb h).symm
theorem Zo9 (P M Q:List Tm) {A B:Nat} (hA:A=P.length) (hB:B=P.length+M.length) (hN:N=P.length+M.length+Q.length) (hmx:N<=4000000) (a:Option Addr) (cap:Nat) :
  ConP e0 166 [.one (.lit (.slice a N cap)),.one (.lit (.int .i64 A)),.one (.lit (.int .i64 B)),.one (.fn 117 [])] [.buf (some (a,cap)) 42 4 (Zaa (P++M++Q))] (RBuf a cap (P++ZaB M++Q)):=by
 have wA:=Zaw (k:=A) om;obtain ⟨A1,hA1⟩:∃ A1,A1=A+1:=⟨_,rfl⟩;rw [<- hA1] at wA;have h0:P++M++Q=P++ZaB (M.take (A1 - A))++(M.drop (A1 - A)++Q):=by
  have:ZaB (M.take 1)=M.take 1:=ZeI (by cases M with | nil=>exact List.Pairwise.nil | cons x M=>simp only [Tbc,List.take_zero];exact List.pairwise_singleton _ _);rw [hA1,Nat.add_sub_cancel_left,this];simp only [Tbf];rw [<- Tbf (M.take 1),Tbm]
 refine gIP (ts:=[]) [1000] 17179886351 Tryz.func166 ?_;refine fG (ai @wA @tmz) ?_;have F:=@tmz;refine gL (ι:=Nat × List Tm) [8,9,14,34] [1000] (fun x=>[(8,.d (.one (.lit (.int .i64 (x.1:Int)))))]) (fun x=>[(1000,.buf (some (a,cap)) 42 4 (Zaa x.2))]) (fun x=>A1<=x.1∧(x.1<=B∨x.1=A1)∧x.2=P++ZaB (M.take (x.1 - A))++(M.drop (x.1 - A)++Q)) (fun x=>B+1 - x.1) ((A1,P++M++Q)) (⟨Tai _,.inr rfl,h0⟩) (fun x hx=>?_);clear F
 obtain ⟨i,us⟩:=x;obtain ⟨hi1,hi2,hus⟩:=hx;simp only at hi1 hi2 hus;dsimp only;by_cases hlt:i < B;rotate_left
 ·have q1:=lF i B;have e1:M.take (i - A)=M:=List.take_of_length_le om;have e2:M.drop (i - A)=[]:=List.drop_of_length_le om;rw [e1,e2,Tah] at hus;subst hus;refine fG (ai @q1 @tmz) ?_
  first | exact (have F:=@e0P;gTPe (R:=RBuf a cap (P++ZaB M++Q)) [1000] ⟨rfl,rfl⟩) | exact (have F:=@e0P;gTP (R:=RBuf a cap (P++ZaB M++Q)) [1000] ⟨rfl,rfl⟩)
 have q1:=lT i B;obtain ⟨k,hk⟩:∃ k,k=i - A:=⟨_,rfl⟩;rw [<- hk] at hus;obtain ⟨x,hx⟩:∃ t,M[k]?=some t:=⟨_,Taa om⟩;have hL:(ZaB (M.take k)).length=k:=by rw [Zc2,Taw];omega
 rw [ZdB hx] at hus;have wi:=Zaw (k:=i) om;have hR:(M.drop (k+1)++Q).length+i+1=N:=by rw [Tae,Tax];omega
 have hnext:∀ M1 M2,M1++M2=ZaB (M.take k)->(∀ y∈M2,Zam x y<=0)->(∀ y,M1.getLast?=some y->Zam y x<=0)->P++M1++x::(M2++(M.drop (k+1)++Q))=P++ZaB (M.take (i+1 - A))++(M.drop (i+1 - A)++Q):=fun M1 M2 e h2 h1=>by
  have:=ZoZ e h2 h1;rw [Zma hx] at this;rw [show i+1 - A=k+1 by omega,<- this];simp
 obtain ⟨T,hT⟩:∃ T,T=P++ZaB (M.take (i+1 - A))++(M.drop (i+1 - A)++Q):=⟨_,rfl⟩;rw [<- hT] at hnext;refine fG (ai @q1 @tmz) ?_;have F:=@tmz;refine gL (ι:=Nat × List Tm) [9,34] [1000] (fun z=>[(9,.d (.one (.lit (.int .i64 (z.1:Int)))))]) (fun z=>[(1000,.buf (some (a,cap)) 42 4 (Zaa z.2))]) (fun z=>∃ M1 M2,z.2=P++M1++x::(M2++(M.drop (k+1)++Q))∧z.1=A+M1.length∧M1++M2=ZaB (M.take k)∧∀ y∈M2,Zam x y<=0) (fun z=>z.1) ((i,us)) (⟨ZaB (M.take k),[],by rw [hus];simp,by rw [hL];omega,List.append_nil _,fun y h=>by simp at h⟩) (fun z hz=>?_);clear F
 obtain ⟨j,vs⟩:=z;obtain ⟨M1,M2,hvs,hj,he,h2⟩:=hz;simp only at hvs hj;dsimp only;have hml:M1.length+M2.length=k:=by rw [<- Tae,he,hL]
 have hvl:vs.length=N:=by rw [hvs];simp only [Tae,Tag] at hR ⊢;omega
 rcases List.eq_nil_or_concat M1 with h1 | ⟨M0,y,h1⟩
 ·subst h1;have hn:=hnext [] M2 he h2 (fun y h=>by simp at h);obtain rfl:j=A:=by simpa using hj
  have q2:=lF j j;rw [hn] at hvs;subst hvs;refine fG (ai @q2 @tmz) ?_;have F:=@wi;refine gG ?_;exact ⟨(i+1,vs),⟨om,.inl hlt,hT⟩,gw,gw,om⟩
 ·rw [List.concat_eq_append] at h1;subst h1;simp only [Tae,Tag,Tak] at hj hml;obtain ⟨p,hp⟩:∃ p,p=A+M0.length:=⟨_,rfl⟩;have hjp:j=p+1:=om;have q2:=lT A j;have w1:IntKind.i64.wrap ((j:Int) - 1)=(p:Int):=Za6 om om om;have hPl:(P++M0).length=p:=by rw [Tae];omega
  have hvs2:vs=(P++M0)++y::x::(M2++(M.drop (k+1)++Q)):=by rw [hvs];simp
  have g1:vs[p]?=some y:=by rw [hvs2];exact Zhf hPl
  have g2:vs[j]?=some x:=by rw [hvs2,hjp];exact Zl7 hPl
  have l1:p < N:=om;have l2:j < N:=om;refine fB (ai @q2 @tmz) ?_;refine fC (aj9 @q2 @tmz @g1 @g2 @w1 @l1 @l2 @hvl @Zac) (Zi8 (ZeU x y)) ?_;by_cases hc:Zam x y < 0
  ·have z1:(Zam x y < 0)=True:=eq_true hc;obtain ⟨U,hU⟩:∃ U,U=(P++M0)++x::y::(M2++(M.drop (k+1)++Q)):=⟨_,rfl⟩;have g3:(vs.set j y).set p x=U:=by rw [hU,hvs2,hjp];exact Zse hPl
   have hls:∀ q (t:Tm),(vs.set q t).length=N:=fun q t=>by rw [Taz,hvl]
   refine fR (aj3 @z1 @q2 @tmz) ?_;have hM2:∀ u∈y::M2,Zam x u<=0:=fun u hu=>by
    rcases Tbg.1 hu with rfl | hu
    ·omega
    ·exact h2 u hu
   obtain ⟨z,g4⟩:∃ z,(vs.set j y)[p]?=some z:=⟨_,Taa (by rw [Taz];omega)⟩;refine fN 6 (ai @z1 @tmz) ?_;refine gF0 ?_;refine gFm 0 ?_;refine gFm 1 ?_;refine gFm 2 ?_;refine gFm 3 ?_;refine (have F:=(aj11 w1 l1 l2 hvl g1 g2 g4 hls @Zac @Zax tmz);gFb 4 ?_);refine gFm 5 ?_;refine gFm 6 ?_;refine (have F:=(aj11 w1 l1 l2 hvl g1 g2 g4 hls @Zac @Zax tmz);gFb 7 ?_);refine (have F:=(aj11 w1 l1 l2 hvl g1 g2 g4 hls @Zac @Zax tmz);gFi (rows:=Zaa vs) 8 p (by rw [Zac];omega) ?_)
   refine gFm 10 ?_;refine gFm 11 ?_;refine (have F:=(aj11 w1 l1 l2 hvl g1 g2 g4 hls @Zac @Zax tmz);gFi (rows:=Zaa vs) 12 j (by rw [Zac];omega) ?_);refine gFT ?_;refine gO2 9 13 ?_ ?_
   ·refine (have F:=(aj11 w1 l1 l2 hvl g1 g2 g4 hls @Zac @Zax tmz);gO3 ?_);refine gO1 13 ?_;refine (have F:=(aj11 w1 l1 l2 hvl g1 g2 g4 hls @Zac @Zax tmz);gO3 ?_);refine gO1 14 ?_;refine (have F:=(aj11 w1 l1 l2 hvl g1 g2 g4 hls @Zac @Zax tmz);gO3 ?_);refine gO1 15 ?_;refine (have F:=(aj11 w1 l1 l2 hvl g1 g2 g4 hls @Zac @Zax tmz);gO3 ?_);refine gO1 16 ?_;refine (have F:=(aj11 w1 l1 l2 hvl g1 g2 g4 hls @Zac @Zax tmz);gO3 ?_)
    refine gO1 17 ?_;refine (have F:=(aj11 w1 l1 l2 hvl g1 g2 g4 hls @Zac @Zax tmz);gO3 ?_);refine (have F:=tmz;gT0 ?_);refine Exists.intro _ (ai (Wk.refl _) ?_);rw [g3];have F:=@w1;refine gG ?_;exact ⟨(p,U),⟨M0,y::M2,by rw [hU];simp,hp,by rw [<- he];simp,hM2⟩,gw,gw,om⟩
   ·refine (have F:=(aj11 w1 l1 l2 hvl g1 g2 g4 hls @Zac @Zax tmz);gO3 ?_);refine gO1 9 ?_;refine (have F:=(aj11 w1 l1 l2 hvl g1 g2 g4 hls @Zac @Zax tmz);gO3 ?_);refine gO1 14 ?_;refine (have F:=(aj11 w1 l1 l2 hvl g1 g2 g4 hls @Zac @Zax tmz);gO3 ?_);refine gO1 15 ?_;refine (have F:=(aj11 w1 l1 l2 hvl g1 g2 g4 hls @Zac @Zax tmz);gO3 ?_);refine gO1 16 ?_;refine (have F:=(aj11 w1 l1 l2 hvl g1 g2 g4 hls @Zac @Zax tmz);gO3 ?_)
    refine gO1 17 ?_;refine (have F:=(aj11 w1 l1 l2 hvl g1 g2 g4 hls @Zac @Zax tmz);gO3 ?_);refine (have F:=tmz;gT0 ?_);refine Exists.intro _ (ai (Wk.refl _) ?_);rw [g3];have F:=@w1;refine gG ?_;exact ⟨(p,U),⟨M0,y::M2,by rw [hU];simp,hp,by rw [<- he];simp,hM2⟩,gw,gw,om⟩
  ·have z1:(Zam x y < 0)=False:=eq_false hc;have hn:=hnext (M0++[y]) M2 he h2 (fun u h=>by
    simp only [List.getLast?_append,List.getLast?_singleton,Option.some_or,Taq] at h;subst h;exact ZnT hc)
   rw [hn] at hvs;subst hvs;refine fR (aj3 @z1 @q2 @tmz) ?_;refine fG (ai @z1 @tmz) ?_;have F:=@wi;refine gG ?_;exact ⟨(i+1,vs),⟨om,.inl hlt,hT⟩,gw,gw,om⟩
theorem Zs1 {A:List Tm} {i:Nat} (h:A[i]?=some x) (hk:k=P.length+i):(P++A++B++Q)[k]?=some x:=by
 have hi:=(Tad.1 h).1;subst hk;rw [Tbf,Tbf,Tbo om,Nat.add_sub_cancel_left,Tbn hi,h]
theorem Zs2 {A:List Tm} {i:Nat} (h:B[i]?=some x) (hk:k=P.length+A.length+i):(P++A++B++Q)[k]?=some x:=by
 have hi:=(Tad.1 h).1;subst hk;rw [Tbf,Tbo (by rw [Tae];omega),Tae,Nat.add_sub_cancel_left,Tbn hi,h]
theorem Zpa (hB:Up B) {s:Nat} (h1:0 < s->∃ y,B[s - 1]?=some y∧Zam y x<=0) (h2:s < B.length->∃ y,B[s]?=some y∧Zam x y<=0):ZaB ([x]++B)=B.take s++x::B.drop s:=(ZfP (Zx5 s) (hB.put h1 h2)).symm
def SymL (A B:List Tm) (lo mid st i:Nat):Prop:=st < i->∃ u v,A[i - 1 - lo]?=some u∧B[mid - i]?=some v∧Zam u v<=0
def SymR (A B:List Tm) (lo mid r0 j:Nat):Prop:=j < r0->∃ u v,B[mid - 1 - j]?=some u∧A[j - lo]?=some v∧Zam u v<=0
theorem Zpb:∀ (n:Nat) (P A B Q:List Tm),A.length+B.length<=n->0 < A.length->0 < B.length->Up A->Up B->∀ {lo mi hi N:Nat},lo=P.length->mi=P.length+A.length->hi=P.length+A.length+B.length->N=P.length+A.length+B.length+Q.length->N<=4000000->∀ (a:Option Addr) (cap:Nat),
  ConP e0 167 [.one (.lit (.slice a N cap)),.one (.lit (.int .i64 lo)),.one (.lit (.int .i64 mi)),.one (.lit (.int .i64 hi)),.one (.fn 117 [])] [.buf (some (a,cap)) 42 4 (Zaa (P++A++B++Q))] (RBuf a cap (P++ZaB (A++B)++Q)):=by
 intro n
 induction n with
 | zero=>intro P A B Q h1 h2;omega
 | succ n ih =>
 intro P A B Q hsz hA0 hB0 hA hB lo mi hi N hlo hmi hhi hN hmx a cap;have hU:∃ U,U=P++A++B++Q:=⟨_,rfl⟩;obtain ⟨U,hU⟩:=hU;have hUl:U.length=N:=by rw [hU];simp only [Tae];omega
 rw [<- hU];have w0:IntKind.i64.wrap ((mi:Int) - (lo:Int))=(A.length:Int):=Za6 om om om;have w1:IntKind.i64.wrap ((hi:Int) - (mi:Int))=(B.length:Int):=Za6 om om om;refine gIP (ts:=[]) [1000] 13164839976634628298295110780136696778032692856359452003713154079 Tryz.func167 ?_;by_cases hA1:A.length=1
 ·have q1:((A.length:Int)=1)=True:=eq_true om;obtain ⟨x,hx⟩:∃ x,A=[x]:=List.length_eq_one_iff.1 hA1;have gx:U[lo]?=some x:=by rw [hU];exact Zs1 (i:=0) (by rw [hx];rfl) om
  have l0:lo < N:=om;refine fG (aj3 @w0 @q1 @tmz) ?_;clear q1;have F:=@tmz;refine gL (ι:=Nat × Nat) [10,11,12,33,50] [] (fun z=>[(10,.d (.one (.lit (.int .i64 (z.1:Int))))),(11,.d (.one (.lit (.int .i64 (z.2:Int)))))]) (fun z=>[]) (fun z=>mi<=z.1∧z.1<=z.2∧z.2<=hi∧(mi < z.1->∃ y,B[z.1 - mi - 1]?=some y∧Zam y x<=0)∧(z.2 < hi->∃ y,B[z.2 - mi]?=some y∧Zam x y<=0)) (fun z=>z.2 - z.1) ((mi,hi)) (⟨Tai _,om,Tai _,fun h=>om,fun h=>om⟩) (fun z hz=>?_);clear F
  obtain ⟨i,j⟩:=z;obtain ⟨h1,h2,h3,h4,h5⟩:=hz;simp only at h1 h2 h3 h4 h5;dsimp only;by_cases hij:i < j
  ·have q2:=lT i j;obtain ⟨s,h,u1,u2,u3,u4,hh⟩:=Zjl i j om;obtain ⟨y,hy⟩:∃ y,B[h - mi]?=some y:=⟨_,Taa om⟩;have gy:U[h]?=some y:=by rw [hU];exact Zs2 hy om
   have lh:h < N:=om;have wh:=Zaw (k:=h) om;refine fB (aj14 @q2 @u1 @u2 @u3 @u4 @Zhc @Zjj @Zgf @ZhQ @Zgg @Zjk @toNat_one @ZkS @tmz) ?_;refine fC (aj7 @tmz @gx @gy @l0 @lh @hUl @Zac) (Zi8 (ZeU y x)) ?_;by_cases hc:Zam y x < 0
   ·have z1:(Zam y x < 0)=True:=eq_true hc;refine fR (ai @z1 @tmz) ?_;have F:=ai @z1 @wh;refine gG ?_;exact ⟨(h+1,j),⟨om,om,h3,fun _=>⟨y,by rw [<- hy];congr 1;omega,om⟩,h5⟩,gw,gw,om⟩
   ·have z1:(Zam y x < 0)=False:=eq_false hc;refine fR (ai @z1 @tmz) ?_;have F:=@z1;refine gG ?_;exact ⟨(i,h),⟨h1,om,om,h4,fun _=>⟨y,hy,ZnT hc⟩⟩,gw,gw,om⟩
  have q2:=lF i j;obtain rfl:i=j:=by omega
  obtain ⟨e,he⟩:∃ e,i=e+1:=⟨i - 1,om⟩;have w2:IntKind.i64.wrap ((i:Int) - 1)=(e:Int):=Za6 om om om;have hout:ZaB (A++B)=B.take (e - lo)++x::B.drop (e - lo):=by
   rw [hx];exact Zpa hB (fun h=>by obtain ⟨y,hy,hc⟩:=h4 om;exact ⟨y,by rw [<- hy];congr 1;omega,hc⟩) (fun h=>by obtain ⟨y,hy,hc⟩:=h5 om;exact ⟨y,by rw [<- hy];congr 1;omega,hc⟩)
  rw [hout];refine fG (ai @q2 @tmz) ?_;have F:=@tmz;refine gL (ι:=Nat × List Tm) [13,58] [1000] (fun z=>[(13,.d (.one (.lit (.int .i64 (z.1:Int)))))]) (fun z=>[(1000,.buf (some (a,cap)) 42 4 (Zaa z.2))]) (fun z=>lo<=z.1∧z.1<=e∧z.2=P++B.take (z.1 - lo)++x::(B.drop (z.1 - lo)++Q)) (fun z=>e - z.1) ((lo,U)) (⟨Tai _,om,by rw [hU,hx,Nat.sub_self];simp⟩) (fun z hz=>?_);clear F;obtain ⟨k,us⟩:=z;obtain ⟨k1,k2,hus⟩:=hz
  simp only at k1 k2 hus;dsimp only;by_cases hk:k < e
  ·have q3:=lT k e;obtain ⟨y,hy⟩:∃ y,B[k - lo]?=some y:=⟨_,Taa om⟩;have hPl:(P++B.take (k - lo)).length=k:=by rw [Tae,Taw];omega
   rw [ZdB hy] at hus;have g1:us[k]?=some x:=by rw [hus];exact Zhf hPl
   have g2:us[k+1]?=some y:=by rw [hus];exact Zl7 hPl
   obtain ⟨V,hV⟩:∃ V,V=P++B.take (k+1 - lo)++x::(B.drop (k+1 - lo)++Q):=⟨_,rfl⟩;have g3:(us.set k y).set (k+1) x=V:=by
    rw [hV,hus,Taf,Zx6 hPl,show k+1 - lo=k - lo+1 by omega,Zdb hy];simp
   have hul:us.length=N:=by rw [hus];simp only [Tae,Tag,Taw,Tax];omega
   obtain ⟨k',hk'⟩:∃ k',k'=k+1:=⟨_,rfl⟩;rw [<- hk'] at g2 g3 hV;have wk:IntKind.i64.wrap ((k:Int)+1)=(k':Int):=Za6 om om om;have l1:k < N:=om;have l2:k' < N:=om;have hls:∀ q (t:Tm),(us.set q t).length=N:=fun q t=>by rw [Taz,hul]
   obtain ⟨z,g4⟩:∃ z,(us.set k y)[k']?=some z:=⟨_,Taa (by rw [Taz];omega)⟩;refine fN 11 (aj3 @q3 @w2 @tmz) ?_;refine gF0 ?_;refine gFm 0 ?_;refine gFm 1 ?_;refine gFm 2 ?_;refine gFm 3 ?_;refine (have F:=(aj11 wk l1 l2 hul g1 g2 g4 hls @Zac @Zax tmz);gFb 4 ?_);refine gFm 5 ?_;refine gFm 6 ?_;refine (have F:=(aj11 wk l1 l2 hul g1 g2 g4 hls @Zac @Zax tmz);gFb 7 ?_);refine (have F:=(aj11 wk l1 l2 hul g1 g2 g4 hls @Zac @Zax tmz);gFi (rows:=Zaa us) 8 k' (by rw [Zac];omega) ?_)
   refine gFm 10 ?_;refine gFm 11 ?_;refine (have F:=(aj11 wk l1 l2 hul g1 g2 g4 hls @Zac @Zax tmz);gFi (rows:=Zaa us) 12 k (by rw [Zac];omega) ?_);refine gFT ?_;refine gO2 9 13 ?_ ?_
   ·refine (have F:=(aj11 wk l1 l2 hul g1 g2 g4 hls @Zac @Zax tmz);gO3 ?_);refine gO1 13 ?_;refine (have F:=(aj11 wk l1 l2 hul g1 g2 g4 hls @Zac @Zax tmz);gO3 ?_);refine gO1 14 ?_;refine (have F:=(aj11 wk l1 l2 hul g1 g2 g4 hls @Zac @Zax tmz);gO3 ?_);refine gO1 15 ?_;refine (have F:=(aj11 wk l1 l2 hul g1 g2 g4 hls @Zac @Zax tmz);gO3 ?_);refine gO1 16 ?_;refine (have F:=(aj11 wk l1 l2 hul g1 g2 g4 hls @Zac @Zax tmz);gO3 ?_)
    refine gO1 17 ?_;refine (have F:=(aj11 wk l1 l2 hul g1 g2 g4 hls @Zac @Zax tmz);gO3 ?_);refine (have F:=tmz;gT0 ?_);refine Exists.intro _ (ai (Wk.refl _) ?_);rw [g3];have F:=@wk;refine gG ?_;exact ⟨(k',V),⟨om,om,hV⟩,gw,gw,om⟩
   ·refine (have F:=(aj11 wk l1 l2 hul g1 g2 g4 hls @Zac @Zax tmz);gO3 ?_);refine gO1 9 ?_;refine (have F:=(aj11 wk l1 l2 hul g1 g2 g4 hls @Zac @Zax tmz);gO3 ?_);refine gO1 14 ?_;refine (have F:=(aj11 wk l1 l2 hul g1 g2 g4 hls @Zac @Zax tmz);gO3 ?_);refine gO1 15 ?_;refine (have F:=(aj11 wk l1 l2 hul g1 g2 g4 hls @Zac @Zax tmz);gO3 ?_);refine gO1 16 ?_;refine (have F:=(aj11 wk l1 l2 hul g1 g2 g4 hls @Zac @Zax tmz);gO3 ?_)
    refine gO1 17 ?_;refine (have F:=(aj11 wk l1 l2 hul g1 g2 g4 hls @Zac @Zax tmz);gO3 ?_);refine (have F:=tmz;gT0 ?_);refine Exists.intro _ (ai (Wk.refl _) ?_);rw [g3];have F:=@wk;refine gG ?_;exact ⟨(k',V),⟨om,om,hV⟩,gw,gw,om⟩
  have q3:=lF k e;obtain rfl:k=e:=by omega
  subst hus;rw [show P++B.take (k - lo)++x::(B.drop (k - lo)++Q)=P++(B.take (k - lo)++x::B.drop (k - lo))++Q by simp];refine fG (aj3 @q3 @w2 @tmz) ?_
  first | exact (have F:=@e0P;gTPe (R:=RBuf a cap (P++(B.take (k - lo)++x::B.drop (k - lo))++Q)) [1000] ⟨rfl,rfl⟩) | exact (have F:=@e0P;gTP (R:=RBuf a cap (P++(B.take (k - lo)++x::B.drop (k - lo))++Q)) [1000] ⟨rfl,rfl⟩)
 have q1:((A.length:Int)=1)=False:=eq_false om;by_cases hB1:B.length=1
 ·have q1':((B.length:Int)=1)=True:=eq_true om;obtain ⟨x,hx⟩:∃ x,B=[x]:=List.length_eq_one_iff.1 hB1;have gx:U[mi]?=some x:=by rw [hU];exact Zs2 (i:=0) (by rw [hx];rfl) om
  have l0:mi < N:=om;refine fG (aj5 @w0 @w1 @q1 @q1' @tmz) ?_;clear q1 q1';have F:=@tmz;refine gL (ι:=Nat × Nat) [14,15,16,85,103] [] (fun z=>[(14,.d (.one (.lit (.int .i64 (z.1:Int))))),(15,.d (.one (.lit (.int .i64 (z.2:Int)))))]) (fun z=>[]) (fun z=>lo<=z.1∧z.1<=z.2∧z.2<=mi∧(lo < z.1->∃ y,A[z.1 - lo - 1]?=some y∧Zam y x<=0)∧(z.2 < mi->∃ y,A[z.2 - lo]?=some y∧Zam x y<=0)) (fun z=>z.2 - z.1) ((lo,mi)) (⟨Tai _,om,Tai _,fun h=>om,fun h=>om⟩) (fun z hz=>?_);clear F
  obtain ⟨i,j⟩:=z;obtain ⟨h1,h2,h3,h4,h5⟩:=hz;simp only at h1 h2 h3 h4 h5;dsimp only;by_cases hij:i < j
  ·have q2:=lT i j;obtain ⟨s,h,u1,u2,u3,u4,hh⟩:=Zjl i j om;obtain ⟨y,hy⟩:∃ y,A[h - lo]?=some y:=⟨_,Taa om⟩;have gy:U[h]?=some y:=by rw [hU];exact Zs1 hy om
   have lh:h < N:=om;have wh:=Zaw (k:=h) om;refine fB (aj14 @q2 @u1 @u2 @u3 @u4 @Zhc @Zjj @Zgf @ZhQ @Zgg @Zjk @toNat_one @ZkS @tmz) ?_;refine fC (aj7 @tmz @gx @gy @l0 @lh @hUl @Zac) (Zi8 (ZeU x y)) ?_;by_cases hc:Zam x y < 0
   ·have z1:(Zam x y < 0)=True:=eq_true hc;refine fR (ai @z1 @tmz) ?_;have F:=@z1;refine gG ?_;exact ⟨(i,h),⟨h1,om,om,h4,fun _=>⟨y,hy,om⟩⟩,gw,gw,om⟩
   ·have z1:(Zam x y < 0)=False:=eq_false hc;refine fR (ai @z1 @tmz) ?_;have F:=ai @z1 @wh;refine gG ?_;exact ⟨(h+1,j),⟨om,om,h3,fun _=>⟨y,by rw [<- hy];congr 1;omega,ZnT hc⟩,h5⟩,gw,gw,om⟩
  have q2:=lF i j;obtain rfl:i=j:=by omega
  have hout:ZaB (A++B)=A.take (i - lo)++x::A.drop (i - lo):=by
   rw [hx,ZoY (List.perm_append_comm (l₁:=A) (l₂:=[x]))];exact Zpa hA (fun h=>by obtain ⟨y,hy,hc⟩:=h4 om;exact ⟨y,hy,hc⟩) (fun h=>by obtain ⟨y,hy,hc⟩:=h5 om;exact ⟨y,hy,hc⟩)
  rw [hout];refine fG (ai @q2 @tmz) ?_;have F:=@tmz;refine gL (ι:=Nat × List Tm) [17,110] [1000] (fun z=>[(17,.d (.one (.lit (.int .i64 (z.1:Int)))))]) (fun z=>[(1000,.buf (some (a,cap)) 42 4 (Zaa z.2))]) (fun z=>i<=z.1∧z.1<=mi∧z.2=P++A.take (z.1 - lo)++x::(A.drop (z.1 - lo)++Q)) (fun z=>z.1) ((mi,U)) (⟨h3,Tai _,by rw [hU,hx,show mi - lo=A.length by omega,Tap,List.drop_length];simp⟩) (fun z hz=>?_);clear F
  obtain ⟨k,us⟩:=z;obtain ⟨k1,k2,hus⟩:=hz;simp only at k1 k2 hus;dsimp only;by_cases hk:i < k
  ·have q3:=lT i k;obtain ⟨p,hp⟩:∃ p,k=p+1:=⟨k - 1,om⟩;obtain ⟨y,hy⟩:∃ y,A[p - lo]?=some y:=⟨_,Taa om⟩;have hPl:(P++A.take (p - lo)).length=p:=by rw [Tae,Taw];omega
   have hus2:us=(P++A.take (p - lo))++y::x::(A.drop (k - lo)++Q):=by rw [hus,show k - lo=p - lo+1 by omega,Zdb hy];simp
   have g1:us[p]?=some y:=by rw [hus2];exact Zhf hPl
   have g2:us[k]?=some x:=by rw [hus2,hp];exact Zl7 hPl
   obtain ⟨V,hV⟩:∃ V,V=P++A.take (p - lo)++x::(A.drop (p - lo)++Q):=⟨_,rfl⟩;have g3:(us.set k y).set p x=V:=by
    rw [hV,hus2,hp,Zse hPl,ZdB hy,show p+1 - lo=p - lo+1 by omega];simp
   have hul:us.length=N:=by rw [hus];simp only [Tae,Tag,Taw,Tax];omega
   have wk:IntKind.i64.wrap ((k:Int) - 1)=(p:Int):=Za6 om om om;have l1:k < N:=om;have l2:p < N:=om;have hls:∀ q (t:Tm),(us.set q t).length=N:=fun q t=>by rw [Taz,hul]
   obtain ⟨z,g4⟩:∃ z,(us.set k y)[p]?=some z:=⟨_,Taa (by rw [Taz];omega)⟩;refine fN 23 (ai @q3 @tmz) ?_;refine gF0 ?_;refine gFm 0 ?_;refine gFm 1 ?_;refine gFm 2 ?_;refine gFm 3 ?_;refine (have F:=(aj11 wk l1 l2 hul g1 g2 g4 hls @Zac @Zax tmz);gFb 4 ?_);refine gFm 5 ?_;refine gFm 6 ?_;refine (have F:=(aj11 wk l1 l2 hul g1 g2 g4 hls @Zac @Zax tmz);gFb 7 ?_);refine (have F:=(aj11 wk l1 l2 hul g1 g2 g4 hls @Zac @Zax tmz);gFi (rows:=Zaa us) 8 p (by rw [Zac];omega) ?_)
   refine gFm 10 ?_;refine gFm 11 ?_;refine (have F:=(aj11 wk l1 l2 hul g1 g2 g4 hls @Zac @Zax tmz);gFi (rows:=Zaa us) 12 k (by rw [Zac];omega) ?_);refine gFT ?_;refine gO2 9 13 ?_ ?_
   ·refine (have F:=(aj11 wk l1 l2 hul g1 g2 g4 hls @Zac @Zax tmz);gO3 ?_);refine gO1 13 ?_;refine (have F:=(aj11 wk l1 l2 hul g1 g2 g4 hls @Zac @Zax tmz);gO3 ?_);refine gO1 14 ?_;refine (have F:=(aj11 wk l1 l2 hul g1 g2 g4 hls @Zac @Zax tmz);gO3 ?_);refine gO1 15 ?_;refine (have F:=(aj11 wk l1 l2 hul g1 g2 g4 hls @Zac @Zax tmz);gO3 ?_);refine gO1 16 ?_;refine (have F:=(aj11 wk l1 l2 hul g1 g2 g4 hls @Zac @Zax tmz);gO3 ?_)
    refine gO1 17 ?_;refine (have F:=(aj11 wk l1 l2 hul g1 g2 g4 hls @Zac @Zax tmz);gO3 ?_);refine (have F:=tmz;gT0 ?_);refine Exists.intro _ (ai (Wk.refl _) ?_);rw [g3];have F:=@wk;refine gG ?_;exact ⟨(p,V),⟨om,om,hV⟩,gw,gw,om⟩
   ·refine (have F:=(aj11 wk l1 l2 hul g1 g2 g4 hls @Zac @Zax tmz);gO3 ?_);refine gO1 9 ?_;refine (have F:=(aj11 wk l1 l2 hul g1 g2 g4 hls @Zac @Zax tmz);gO3 ?_);refine gO1 14 ?_;refine (have F:=(aj11 wk l1 l2 hul g1 g2 g4 hls @Zac @Zax tmz);gO3 ?_);refine gO1 15 ?_;refine (have F:=(aj11 wk l1 l2 hul g1 g2 g4 hls @Zac @Zax tmz);gO3 ?_);refine gO1 16 ?_;refine (have F:=(aj11 wk l1 l2 hul g1 g2 g4 hls @Zac @Zax tmz);gO3 ?_)
    refine gO1 17 ?_;refine (have F:=(aj11 wk l1 l2 hul g1 g2 g4 hls @Zac @Zax tmz);gO3 ?_);refine (have F:=tmz;gT0 ?_);refine Exists.intro _ (ai (Wk.refl _) ?_);rw [g3];have F:=@wk;refine gG ?_;exact ⟨(p,V),⟨om,om,hV⟩,gw,gw,om⟩
  have q3:=lF i k;obtain rfl:i=k:=by omega
  subst hus;rw [show P++A.take (i - lo)++x::(A.drop (i - lo)++Q)=P++(A.take (i - lo)++x::A.drop (i - lo))++Q by simp];refine fG (ai @q3 @tmz) ?_
  first | exact (have F:=@e0P;gTPe (R:=RBuf a cap (P++(A.take (i - lo)++x::A.drop (i - lo))++Q)) [1000] ⟨rfl,rfl⟩) | exact (have F:=@e0P;gTP (R:=RBuf a cap (P++(A.take (i - lo)++x::A.drop (i - lo))++Q)) [1000] ⟨rfl,rfl⟩)
 have q1':((B.length:Int)=1)=False:=eq_false om;obtain ⟨s0,mid,u1,u2,u3,u4,hmid⟩:=Zjl lo hi om;obtain ⟨nn,hnn⟩:∃ nn,nn=mid+mi:=⟨_,rfl⟩;obtain ⟨p,hp⟩:∃ p,nn=p+1:=⟨nn - 1,om⟩;have w2:IntKind.i64.wrap ((mid:Int)+(mi:Int))=(nn:Int):=Za6 om om om;have w3:IntKind.i64.wrap ((nn:Int) - 1)=(p:Int):=Za6 om om om;refine fG (aj16 @w0 @w1 @q1 @q1' @u1 @u2 @u3 @u4 @Zhc @Zjj @Zgf @ZhQ @Zgg @Zjk @toNat_one (aj3 @ZkS @w2 @tmz)) ?_
 clear q1 q1' u1 u2 u3 u4;refine gM (ι:=Nat × Nat) [20,21] [] (fun z=>[(20,.d (.one (.lit (.int .i64 (z.1:Int))))),(21,.d (.one (.lit (.int .i64 (z.2:Int)))))]) (fun z=>[]) (fun z=>mid < mi∧z.1+hi=nn∧z.2=mid∨mi<=mid∧z.1=lo∧z.2=mi) ?_ (fun z hz=>Exists.intro _ (ai (Wk.refl _) ?_))
 ·by_cases hgt:mid < mi
  ·have q2:decide ((mid:Int) < (mi:Int))=true:=decide_eq_true om;have w4:IntKind.i64.wrap ((nn:Int) - (hi:Int))=((nn - hi:Nat):Int):=Za6 om om om;generalize hv:nn - hi=v at w4;have q2':(mid < mi)=True:=eq_true hgt;have F:=aj4 @q2 @q2' @w4 @tmz;refine gG ?_;exact ⟨(v,mid),.inl ⟨hgt,by simp only;omega,rfl⟩,gw,gw⟩
  ·have q2:decide ((mid:Int) < (mi:Int))=false:=decide_eq_false om;have q2':(mi<=mid)=True:=eq_true om;have F:=aj3 @q2 @q2' @tmz;refine gG ?_;exact ⟨(lo,mi),.inr ⟨om,rfl,rfl⟩,gw,gw⟩
 obtain ⟨st,r0⟩:=z;simp only at hz;dsimp only;refine fG (ai @w3 @tmz) ?_;have F:=@tmz;refine gL (ι:=Nat × Nat) [20,21,23,151,171] [] (fun z=>[(20,.d (.one (.lit (.int .i64 (z.1:Int))))),(21,.d (.one (.lit (.int .i64 (z.2:Int)))))]) (fun z=>[]) (fun z=>st<=z.1∧z.1<=z.2∧z.2<=r0∧SymL A B lo mid st z.1∧SymR A B lo mid r0 z.2) (fun z=>z.2 - z.1) ((st,r0)) (⟨Tai _,om,Tai _,fun h=>om,fun h=>om⟩) (fun z hz=>?_);clear F
 obtain ⟨i,j⟩:=z;rename_i hcase;obtain ⟨h1,h2,h3,h4,h5⟩:=hz;simp only at h1 h2 h3 h4 h5;dsimp only;by_cases hij:i < j
 ·have q2:=lT i j;obtain ⟨s,c,u1,u2,u3,u4,hc⟩:=Zjl i j om;obtain ⟨y,hy⟩:∃ y,A[c - lo]?=some y:=⟨_,Taa om⟩;obtain ⟨x,hx⟩:∃ x,B[mid - 1 - c]?=some x:=⟨_,Taa om⟩;obtain ⟨d,hd⟩:∃ d,d+c=p:=⟨p - c,om⟩;have gy:U[c]?=some y:=by rw [hU];exact Zs1 hy om
  have gx:U[d]?=some x:=by rw [hU];exact Zs2 hx om
  have lc:c < N:=om;have ld:d < N:=om;have wc:=Zaw (k:=c) om;have wd:IntKind.i64.wrap ((p:Int) - (c:Int))=(d:Int):=Za6 om om om;refine fB (aj14 @q2 @u1 @u2 @u3 @u4 @Zhc @Zjj @Zgf @ZhQ @Zgg @Zjk @toNat_one @ZkS @tmz) ?_;refine fC (aj8 @tmz @gx @gy @lc @ld @wd @hUl @Zac) (Zi8 (ZeU x y)) ?_;by_cases hcc:Zam x y < 0
  ·have z1:(Zam x y < 0)=True:=eq_true hcc;refine fR (ai @z1 @tmz) ?_;have F:=@z1;refine gG ?_;exact ⟨(i,c),⟨h1,om,om,h4,fun _=>⟨x,y,hx,hy,om⟩⟩,gw,gw,om⟩
  ·have z1:(Zam x y < 0)=False:=eq_false hcc;refine fR (ai @z1 @tmz) ?_;have F:=ai @z1 @wc;refine gG ?_;exact ⟨(c+1,j),⟨om,om,h3,fun _=>⟨y,x,by rw [<- hy];congr 1,by rw [<- hx];congr 1;omega,ZnT hcc⟩,h5⟩,gw,gw,om⟩
 have q2:=lF i j;obtain rfl:i=j:=by omega
 have hcut:=ZAb hA hB (s:=i - lo) (e:=mid - i) (fun e1 e2=>by
  obtain ⟨u,v,k1,k2,k3⟩:=h4 om;exact ⟨u,v,by rw [<- k1];congr 1;omega,k2,k3⟩) (fun e1 e2=>by
  obtain ⟨u,v,k1,k2,k3⟩:=h5 om;exact ⟨u,v,by rw [<- k1];congr 1;omega,k2,k3⟩)
 have eA:A=A.take (i - lo)++A.drop (i - lo):=(Tbm _ _).symm;have eB:B=B.take (mid - i)++B.drop (mid - i):=(Tbm _ _).symm;have lA1:(A.take (i - lo)).length=i - lo:=by rw [Taw];omega
 have lA2:(A.drop (i - lo)).length=mi - i:=by rw [Tax];omega
 have lB1:(B.take (mid - i)).length=mid - i:=by rw [Taw];omega
 have lB2:(B.drop (mid - i)).length=hi+i - mi - mid:=by rw [Tax];omega
 have uA1:=hA.take (i - lo);have uA2:=hA.drop (i - lo);have uB1:=hB.take (mid - i);have uB2:=hB.drop (mid - i);generalize A.take (i - lo)=A1 at hcut eA lA1 uA1;generalize A.drop (i - lo)=A2 at hcut eA lA2 uA2;generalize B.take (mid - i)=B1 at hcut eB lB1 uB1;generalize B.drop (mid - i)=B2 at hcut eB lB2 uB2;have hsort:=ZsS hcut;rw [<- eA,<- eB] at hsort;rw [<- hsort];obtain ⟨ed,hed⟩:∃ ed,ed+i=nn:=⟨nn - i,om⟩
 have w5:IntKind.i64.wrap ((nn:Int) - (i:Int))=(ed:Int):=Za6 om om om;clear h4 h5 hcut hsort hA hB;refine fG (aj3 @q2 @w5 @tmz) ?_;refine gM (ι:=Bool) [185] [] (fun b=>[(185,.d (.one (.lit (.bool b))))]) (fun b=>[]) (fun b=>b=decide (i < mi∧mi < ed)) ?_ (fun b hb=>Exists.intro _ (ai (Wk.refl _) ?_))
 ·by_cases hr1:i < mi
  ·have q3:=lT i mi;by_cases hr2:mi < ed
   ·have q4:=lT mi ed;have F:=aj3 @q3 @q4 @tmz;refine gG ?_;exact ⟨true,(decide_eq_true (ai hr1 hr2)).symm,gw,gw⟩
   ·have q4:=lF mi ed;have F:=aj3 @q3 @q4 @tmz;refine gG ?_;exact ⟨false,(decide_eq_false fun h=>hr2 h.2).symm,gw,gw⟩
  ·have q3:=lF i mi;have F:=ai @q3 @tmz;refine gG ?_;exact ⟨false,(decide_eq_false fun h=>hr1 h.1).symm,gw,gw⟩
 subst hb;refine gM (ι:=Unit) [] [1000] (fun z=>[]) (fun z=>[(1000,.buf (some (a,cap)) 42 4 (Zaa (P++A1++B1++(A2++B2++Q))))]) (fun z=>True) ?_ (fun z hz=>Exists.intro _ (ai (Wk.refl _) ?_))
 ·by_cases hr:i < mi∧mi < ed
  ·rw [decide_eq_true hr];obtain ⟨hr1,hr2⟩:=hr;have c:=Zyc (P++A1) A2 B1 (B2++Q) om om (A:=i) (M:=mi) (B:=ed) (N:=N) (by rw [Tae];omega) (by rw [Tae];omega) (by rw [Tae];omega) (by rw [Tae,Tae];omega) hmx a cap;rw [show P++A1++A2++B1++(B2++Q)=U by rw [hU,eA,eB];simp,show P++A1++B1++A2++(B2++Q)=P++A1++B1++(A2++B2++Q) by simp] at c;generalize P++A1++B1++(A2++B2++Q)=V at c ⊢;refine fN 40 @tmz ?_;refine gB ?_
   have F:=@tmz;refine gCP [1000] [1000] (c) ?_;clear F;rintro r pm ⟨rfl,rfl⟩;simp only [setA,retA,zipM,Taf,Tah];refine fR @tmz ?_;exact ⟨(),trivial,gw,gw⟩
  ·have hUU:U=P++A1++B1++(A2++B2++Q):=by
    rw [hU,eA,eB];rcases (show mi<=i∨mid<=i by omega) with h | h
    ·have:A2=[]:=Tao om;subst this;simp
    ·have:B1=[]:=Tao om;subst this;simp
   rw [<- hUU,decide_eq_false hr];have F:=@tmz;refine gG ?_;exact ⟨(),trivial,gw,gw⟩
 clear hU hUl U;refine Zfo ?_;refine Zfo ?_;refine gM (ι:=Bool) [199] [] (fun b=>[(199,.d (.one (.lit (.bool b))))]) (fun b=>[]) (fun b=>b=decide (lo < i∧i < mid)) ?_ (fun b hb=>Exists.intro _ (ai (Wk.refl _) ?_))
 ·by_cases hr1:lo < i
  ·have q3:=lT lo i;by_cases hr2:i < mid
   ·have q4:=lT i mid;have F:=aj3 @q3 @q4 @tmz;refine gG ?_;exact ⟨true,(decide_eq_true (ai hr1 hr2)).symm,gw,gw⟩
   ·have q4:=lF i mid;have F:=aj3 @q3 @q4 @tmz;refine gG ?_;exact ⟨false,(decide_eq_false fun h=>hr2 h.2).symm,gw,gw⟩
  ·have q3:=lF lo i;have F:=ai @q3 @tmz;refine gG ?_;exact ⟨false,(decide_eq_false fun h=>hr1 h.1).symm,gw,gw⟩
 subst hb;refine gM (ι:=Unit) [] [1000] (fun z=>[]) (fun z=>[(1000,.buf (some (a,cap)) 42 4 (Zaa (P++ZaB (A1++B1)++(A2++B2++Q))))]) (fun z=>True) ?_ (fun z hz=>Exists.intro _ (ai (Wk.refl _) ?_))
 ·by_cases hr:lo < i∧i < mid
  ·rw [decide_eq_true hr];obtain ⟨hr1,hr2⟩:=hr;have c:=ih P A1 B1 (A2++B2++Q) om om om uA1 uB1 (lo:=lo) (mi:=i) (hi:=mid) (N:=N) hlo om om (by simp only [Tae];omega) hmx a cap;generalize P++ZaB (A1++B1)++(A2++B2++Q)=V at c ⊢;generalize P++A1++B1++(A2++B2++Q)=V' at c ⊢;refine fN 42 @tmz ?_;refine gB ?_;have F:=@tmz;refine gCP [1000] [1000] (c) ?_;clear F;rintro r pm ⟨rfl,rfl⟩;simp only [setA,retA,zipM,Taf,Tah]
   refine fR @tmz ?_;exact ⟨(),trivial,gw,gw⟩
  ·have hs:ZaB (A1++B1)=A1++B1:=by
    rcases (show i<=lo∨mid<=i by omega) with h | h
    ·have:A1=[]:=Tao om;subst this;exact ZeI uB1
    ·have:B1=[]:=Tao om;subst this;rw [List.append_nil];exact ZeI uA1
   rw [hs,<- Tbf P,decide_eq_false hr];generalize P++A1++B1++(A2++B2++Q)=V;have F:=@tmz;refine gG ?_;exact ⟨(),trivial,gw,gw⟩
 have hsl:(ZaB (A1++B1)).length=mid - lo:=by rw [Zc2,Tae];omega
 generalize ZaB (A1++B1)=S1 at hsl ⊢;rw [show P++S1++(A2++B2++Q)=P++S1++A2++B2++Q by simp,show P++(S1++ZaB (A2++B2))++Q=P++S1++ZaB (A2++B2)++Q by simp];refine Zfo ?_;refine gM (ι:=Bool) [213] [] (fun b=>[(213,.d (.one (.lit (.bool b))))]) (fun b=>[]) (fun b=>b=decide (mid < ed∧ed < hi)) ?_ (fun b hb=>Exists.intro _ (ai (Wk.refl _) ?_))
 ·by_cases hr1:mid < ed
  ·have q3:=lT mid ed;by_cases hr2:ed < hi
   ·have q4:=lT ed hi;have F:=aj3 @q3 @q4 @tmz;refine gG ?_;exact ⟨true,(decide_eq_true (ai hr1 hr2)).symm,gw,gw⟩
   ·have q4:=lF ed hi;have F:=aj3 @q3 @q4 @tmz;refine gG ?_;exact ⟨false,(decide_eq_false fun h=>hr2 h.2).symm,gw,gw⟩
  ·have q3:=lF mid ed;have F:=ai @q3 @tmz;refine gG ?_;exact ⟨false,(decide_eq_false fun h=>hr1 h.1).symm,gw,gw⟩
 subst hb;by_cases hr:mid < ed∧ed < hi
 ·rw [decide_eq_true hr];obtain ⟨hr1,hr2⟩:=hr;have c:=ih (P++S1) A2 B2 Q om om om uA2 uB2 (lo:=mid) (mi:=ed) (hi:=hi) (N:=N) (by rw [Tae];omega) (by rw [Tae];omega) (by rw [Tae];omega) (by simp only [Tae];omega) hmx a cap;generalize P++S1++ZaB (A2++B2)++Q=V at c ⊢;generalize P++S1++A2++B2++Q=V' at c ⊢;refine fN 44 @tmz ?_;refine gB ?_;have F:=@tmz;refine gCP [1000] [1000] (c) ?_;clear F;rintro r pm ⟨rfl,rfl⟩
  simp only [setA,retA,zipM,Taf,Tah];refine fR @tmz ?_
  first | exact (have F:=@e0P;gTPe (R:=RBuf a cap V) [1000] ⟨rfl,rfl⟩) | exact (have F:=@e0P;gTP (R:=RBuf a cap V) [1000] ⟨rfl,rfl⟩)
 ·have hs:ZaB (A2++B2)=A2++B2:=by
   rcases (show ed<=mid∨hi<=ed by omega) with h | h
   ·have:A2=[]:=Tao om;subst this;exact ZeI uB2
   ·have:B2=[]:=Tao om;subst this;rw [List.append_nil];exact ZeI uA2
  rw [hs,<- Tbf (P++S1),decide_eq_false hr];generalize P++S1++A2++B2++Q=V;refine fG @tmz ?_
  first | exact (have F:=@e0P;gTPe (R:=RBuf a cap V) [1000] ⟨rfl,rfl⟩) | exact (have F:=@e0P;gTP (R:=RBuf a cap V) [1000] ⟨rfl,rfl⟩)
theorem Zpc {A r:List Tm} (h:(X++A++r).Perm ts) (hB:B.Perm A):(X++B++r).Perm ts:=((List.Perm.append_left X hB).append_right r).trans h
theorem Zpd (ts:List Tm) (hN:N=ts.length) (hmx:N<=4000000) (a:Option Addr) (cap:Nat) :
  ConP e0 151 [.one (.lit (.slice a N cap)),.one (.lit (.int .i64 N)),.one (.fn 117 [])] [.buf (some (a,cap)) 42 4 (Zaa ts)] (RBuf a cap (ZaB ts)):=by
 refine gIP (ts:=[]) [1000] 18014433942971335 Tryz.func151 ?_;refine fG @tmz ?_;have F:=@tmz;refine gL (ι:=(Nat × Nat) × List Tm) [7,8,13] [1000] (fun z=>[(7,.d (.one (.lit (.int .i64 (z.1.1:Int))))),(8,.d (.one (.lit (.int .i64 (z.1.2:Int)))))]) (fun z=>[(1000,.buf (some (a,cap)) 42 4 (Zaa z.2))]) (fun z=>z.1.2=z.1.1+20∧z.1.1<=N∧∃ X,z.2=X++ts.drop z.1.1∧X.length=z.1.1∧Full 20 X∧X.Perm (ts.take z.1.1)) (fun z=>N - z.1.1) (((0,20),ts)) (⟨rfl,Taj _,[],rfl,rfl,.nil,List.Perm.refl _⟩) (fun z hz=>?_);clear F
 obtain ⟨⟨i,j⟩,us⟩:=z;obtain ⟨hj,hi,X,hus,hX,hF,hp⟩:=hz;simp only at hj hi hus hX hp;dsimp only;by_cases hlt:j<=N
 ·have q1:((j:Int)<=(N:Int))=True:=eq_true om;have hd:ts.drop i=(ts.drop i).take 20++ts.drop j:=by rw [hj,<- List.drop_drop,Tbm]
  have hl:((ts.drop i).take 20).length=20:=by rw [Taw,Tax];omega
  have ht:ts.take j=ts.take i++(ts.drop i).take 20:=by rw [hj,List.take_add]
  have c:=Zo9 X ((ts.drop i).take 20) (ts.drop j) (A:=i) (B:=j) (N:=N) hX.symm om (by rw [Tax];omega) hmx a cap;rw [Tbf X,<- hd,<- hus] at c;have wj:IntKind.i64.wrap ((j:Int)+20)=((j+20:Nat):Int):=Za6 om om om;obtain ⟨V,hV⟩:∃ V,V=X++ZaB ((ts.drop i).take 20)++ts.drop j:=⟨_,rfl⟩;rw [<- hV] at c;obtain ⟨j',hj'⟩:∃ j',j'=j+20:=⟨_,rfl⟩;rw [<- hj'] at wj;refine fN 3 (ai @q1 @tmz) ?_;refine gB ?_;have F:=@tmz;refine gCP [1000] [1000] (c) ?_;clear F
  rintro r pm ⟨rfl,rfl⟩;simp only [setA,retA,zipM,Taf,Tah];refine fR @tmz ?_;have F:=@wj;refine gG ?_;exact ⟨((j,j'),V),⟨hj',hlt,X++ZaB ((ts.drop i).take 20),hV,by rw [Tae,Zc2];simp only;omega,hF.snoc (by rw [Zc2];exact hl) (Zcl _),by simp only;rw [ht];exact hp.append (Za7 _)⟩,gw,gw,by dsimp only;omega⟩
 have q1:((j:Int)<=(N:Int))=False:=eq_false om;have c:=Zo9 X (ts.drop i) [] (A:=i) (B:=N) (N:=N) hX.symm (by rw [Tax];omega) (by rw [Tax];simp;omega) hmx a cap;rw [List.append_nil,List.append_nil,<- hus] at c;have hB:Blks 20 (X++ZaB (ts.drop i)):=hF.blks (by rw [Zc2,Tax];omega) (Zcl _);have hP:(X++ZaB (ts.drop i)).Perm ts:=by
  have:=hp.append (Za7 (ts.drop i))
  rwa [Tbm] at this
 generalize X++ZaB (ts.drop i)=vs at c hB hP;refine fN 6 (ai @q1 @tmz) ?_;refine gB ?_;have F:=@tmz;refine gCP [1000] [1000] (c) ?_;clear F;rintro r pm ⟨rfl,rfl⟩;simp only [setA,retA,zipM,Taf,Tah];refine fR @tmz ?_;clear c q1 hus hF hp us X hX hi hj;refine fG @tmz ?_;have F:=@tmz;refine gL (ι:=Nat × List Tm) [6,7,8,9,30,35,54] [1000] (fun z=>[(6,.d (.one (.lit (.int .i64 (z.1:Int)))))]) (fun z=>[(1000,.buf (some (a,cap)) 42 4 (Zaa z.2))]) (fun z=>0 < z.1∧z.1<=8000000∧Blks z.1 z.2∧z.2.Perm ts) (fun z=>N - z.1) ((20,vs)) (⟨om,om,hB,hP⟩) (fun z hz=>?_);clear F
 clear hB hP vs hlt i j;obtain ⟨k,us⟩:=z;obtain ⟨hk0,hk8,hB,hP⟩:=hz;simp only at hk0 hk8 hB hP;dsimp only;by_cases hlt:k < N;rotate_left
 ·have q1:=lF k N;have e:us=ZaB ts:=ZfP hP (hB.up (by rw [hP.length_eq];omega));subst e;refine fG (ai @q1 @tmz) ?_
  first | exact (have F:=@e0P;gTPe (R:=RBuf a cap (ZaB ts)) [1000] ⟨rfl,rfl⟩) | exact (have F:=@e0P;gTP (R:=RBuf a cap (ZaB ts)) [1000] ⟨rfl,rfl⟩)
 have q1:=lT k N;obtain ⟨k2,hk2⟩:∃ k2,k2=2 * k:=⟨_,rfl⟩;have w1:IntKind.i64.wrap (2 * (k:Int))=(k2:Int):=Za6 om om om;have w2:IntKind.i64.wrap ((k:Int) * 2)=(k2:Int):=Za6 om om om;refine fG (aj3 @q1 @w1 @tmz) ?_;have F:=@tmz;refine gL (ι:=(Nat × Nat) × List Tm) [7,8,35] [1000] (fun z=>[(7,.d (.one (.lit (.int .i64 (z.1.1:Int))))),(8,.d (.one (.lit (.int .i64 (z.1.2:Int)))))]) (fun z=>[(1000,.buf (some (a,cap)) 42 4 (Zaa z.2))]) (fun z=>z.1.2=z.1.1+k2∧z.1.1<=N∧∃ X Y,z.2=X++Y∧X.length=z.1.1∧Full k2 X∧Blks k Y∧(X++Y).Perm ts) (fun z=>N - z.1.1) (((0,k2),us)) (⟨(Nat.zero_add _).symm,Taj _,[],us,rfl,rfl,.nil,hB,hP⟩) (fun z hz=>?_);clear F
 obtain ⟨⟨i,j⟩,vs⟩:=z;obtain ⟨hj,hi,X,Y,hvs,hX,hF,hY,hp⟩:=hz;simp only at hj hi hvs hX;dsimp only;have hpl:=hp.length_eq;rw [Tae] at hpl;obtain ⟨m,hm⟩:∃ m,m=i+k:=⟨_,rfl⟩;have w3:IntKind.i64.wrap ((i:Int)+(k:Int))=(m:Int):=Za6 om om om;by_cases hjl:j<=N
 ·have q2:((j:Int)<=(N:Int))=True:=eq_true om;obtain ⟨A,B,r,hY',hA,hB',uA,uB,hr⟩:=hY.two hk0 om;have hYl:=congrArg List.length hY';simp only [Tae] at hYl;have c:=Zpb _ X A B r (Tai _) om om uA uB (lo:=i) (mi:=m) (hi:=j) (N:=N) hX.symm om om om hmx a cap;have e1:X++A++B++r=vs:=by rw [hvs,hY'];simp
  rw [e1] at c;have hp2:(X++ZaB (A++B)++r).Perm ts:=Zpc (A:=A++B) (by rw [<- Tbf,e1,hvs];exact hp) (Za7 _);obtain ⟨V,hV⟩:∃ V,V=X++ZaB (A++B)++r:=⟨_,rfl⟩;rw [<- hV] at c;obtain ⟨j',hj'⟩:∃ j',j'=j+k2:=⟨_,rfl⟩;have wj:IntKind.i64.wrap ((j:Int)+(k2:Int))=(j':Int):=Za6 om om om;refine fN 10 (ai @q2 @tmz) ?_;refine gB ?_;have F:=ai @tmz @w3;refine gCP [1000] [1000] (c) ?_;clear F;rintro r' pm ⟨rfl,rfl⟩;simp only [setA,retA,zipM,Taf,Tah]
  refine fR @tmz ?_;have F:=ai @w1 @wj;refine gG ?_;exact ⟨((j,j'),V),⟨hj',hjl,X++ZaB (A++B),r,hV,by simp only;rw [Tae,Zc2,Tae];omega,hF.snoc (by rw [Zc2,Tae];omega) (Zcl _),hr,hp2⟩,gw,gw,by dsimp only;omega⟩
 have q2:((j:Int)<=(N:Int))=False:=eq_false om;by_cases hmn:m < N
 ·have q3:=lT m N;obtain ⟨A,B,hY',hA,uA,hB'⟩:=hY.split om;have hYl:=congrArg List.length hY';simp only [Tae] at hYl;have uB:=hB'.up om;have c:=Zpb _ X A B [] (Tai _) om om uA uB (lo:=i) (mi:=m) (hi:=N) (N:=N) hX.symm om om (by simp only [Tak];omega) hmx a cap;have e1:X++A++B++[]=vs:=by rw [hvs,hY'];simp
  rw [e1] at c;have hp2:(X++ZaB (A++B)++[]).Perm ts:=Zpc (A:=A++B) (by rw [<- Tbf,e1,hvs];exact hp) (Za7 _);rw [List.append_nil] at hp2;obtain ⟨V,hV⟩:∃ V,V=X++ZaB (A++B):=⟨_,rfl⟩;rw [List.append_nil,<- hV] at c;refine fN 15 (aj4 @q2 @q3 @w3 @tmz) ?_;refine gB ?_;have F:=@tmz;refine gCP [1000] [1000] (c) ?_;clear F;rintro r' pm ⟨rfl,rfl⟩;simp only [setA,retA,zipM,Taf,Tah];refine fR @tmz ?_;have F:=@w2;refine gG ?_;exact ⟨(k2,V),⟨om,om,by rw [hV];exact hF.blks (by rw [Zc2,Tae];omega) (Zcl _),by rw [hV];exact hp2⟩,gw,gw,om⟩
 have q3:=lF m N;have F:=aj4 @q2 @q3 @w2 @w3;refine gG ?_;exact ⟨(k2,vs),⟨om,om,by rw [hvs];exact hF.blks om (hY.up om),by rw [hvs];exact hp⟩,gw,gw,om⟩
theorem Zqn (ts:List Tm) (hmx:ts.length<=4000000) (a:Option Addr) (cap:Nat) :
  ConP e0 119 [.one (.lit (.slice a ts.length cap)),.one (.fn 117 [])] [.buf (some (a,cap)) 42 4 (Zaa ts)] (RBuf a cap (ZaB ts)):=by
 refine gIP (ts:=[]) [1000] 3 Tryz.func119 ?_;refine gB ?_;have F:=@tmz;refine gCP [1000] [1000] (Zpd ts rfl hmx a cap) ?_;clear F;rintro r pm ⟨rfl,rfl⟩;simp only [setA,retA,zipM,Taf,Tah];refine fR @tmz ?_;refine fG @tmz ?_
 first | exact (have F:=@e0P;gTPe (R:=RBuf a cap (ZaB ts)) [1000] ⟨rfl,rfl⟩) | exact (have F:=@e0P;gTP (R:=RBuf a cap (ZaB ts)) [1000] ⟨rfl,rfl⟩)
theorem ZiN {g:Sgn} {o:Opr} {op:Int}:∀ {xs:List Tm},(∀ a∈xs,TermOk g a)->(Zav o op xs).length<=60 * xs.length∧sizeTms (Zav o op xs)<=60 * xs.length∧depthTms (Zav o op xs)<=20
 | [],_=>⟨Tai _,Tai _,by simp [Zav,depthTms]⟩
 | a::xs,h=>by
  obtain ⟨i1,i2,i3⟩:=ZiN (o:=o) (op:=op) fun x hx=>h x (Tal _ hx);have ha:=h a Tas;have e:Zav o op (a::xs)=Zbp o op a++Zav o op xs:=rfl;have s1:=ha.size;have s2:=ha.depth;rw [ZcI] at s1;rw [ZhJ] at s2;have sl:=Zb0 a.args;have hf:(Zbp o op a).length<=60∧sizeTms (Zbp o op a)<=60∧depthTms (Zbp o op a)<=20:=by
   unfold Zbp;split
   ·exact ⟨om,om,om⟩
   ·split
    ·exact ⟨by simp,by simp [sizeTms],by simp [depthTms]⟩
    ·refine ⟨by simp,?_,?_⟩
     ·have:=ha.size;simp only [sizeTms];omega
     ·have:=ha.depth;simp only [depthTms];omega
  have happ:∀ (l m:List Tm),sizeTms (l++m)=sizeTms l+sizeTms m∧depthTms (l++m)=max (depthTms l) (depthTms m):=fun l m=>by
   induction l with
   | nil=>simp [sizeTms,depthTms]
   | cons x l ih=>simp only [Taf,sizeTms,depthTms,ih.1,ih.2];omega
  rw [e,Tae,(happ _ _).1,(happ _ _).2,Tag];omega
section
variable {g:Sgn} {mc:C}
theorem Zs3 (hg:SgnOk g) {op:Int} {o:Opr} (h0:0<=op) (ho:g.ops[op.toNat]?=some o) (hu:o.unit≠0):Con e0 118 [.one (.ptr (encX g mc)),.one (.lit (.int .i64 op))] [.agg (Zad (ZbB o))]:=by
 have hax:=hg.axs o (Tac ho);have hlo:=hax.lo;have hhi:=hax.hi;have hln:=hg.len;have hw:IntKind.i64.wrap (o.unit - 1)=o.unit - 1:=Za6 rfl om om;have em:Zad (ZbB o)=[.lit (.int .i64 (o.unit - 1)),.lit (.string ByteArray.empty),.lit (.int .i64 0),.sl []]:=by simp only [ZbB,if_neg hu,Zad,Zaa]
 refine gI (ts:=[.cell 4 42]) 19 Tryz.func118 ?_;exact fD (aj7 @Zcu @h0 @ho @Zao @hw @em @tmz)
open Classical in
theorem Zs4 (hg:SgnOk g) {op:Int} {o:Opr} {d:Dcl} (h0:0<=op) (ho:g.ops[op.toNat]?=some o) (hd:o.decls[0]?=some d) (xs:List Tm) (ha:∀ a∈xs,TermOk g a) (hl:xs.length<=1048576) (hl2:(Zav o op xs).length<=4000000):Con e0 68 [.one (.ptr (encX g mc)),.one (.lit (.int .i64 op)),.one (.sl (Zaa xs))] [.agg (Zad ((mkO g o d op xs).getD zTm)),.one (.lit (.bool (mkO g o d op xs).isSome))]:=by
 have hz:=Zeu;have hfb:=ZiN (o:=o) (op:=op) ha;refine gI (ts:=[.cell 6 42,.slot 7]) 85070612101775940130758990405381922759 Tryz.func68 ?_;by_cases hAr:ArB o d xs.length
 ·rw [show mkO g o d op xs=none by unfold mkO;rw [if_pos hAr]];rcases hAr with ⟨h1,h2⟩ | ⟨h1,h2⟩
  ·have q1:=lT xs.length 2;exact fD (aj8 @Zcu @h0 @ho @Zao @h1 @q1 @hz @tmz)
  ·have q1:((xs.length:Int)=(d.args.length:Int))=False:=eq_false om;exact fD (aj10 @Zcu @h0 @ho @Zao @h1 @hd @Za0 @q1 @hz @tmz)
 refine fG (aj5 @tmz @Zcu @h0 @ho @Zao) ?_;refine gM (ι:=Unit) [43] [] (fun u=>[(43,A.d (.one (.lit (.bool false))))]) (fun u=>[]) (fun u=>True) ?_ (fun u hu=>Exists.intro _ (ai (Wk.refl _) ?_))
 ·cases ha:o.assoc with
  | true =>
   have c1:((xs.length:Int) < 2)=False:=eq_false fun c=>hAr (.inl ⟨ha,om⟩);have F:=aj4 @tmz @Zao @ha @c1;refine gG ?_;exact ⟨(),trivial,gw,gw⟩
  | false =>
   have c3:((xs.length:Int)=(d.args.length:Int))=True:=eq_true (by have:¬ (xs.length≠d.args.length):=fun c=>hAr (.inr ⟨ha,c⟩);omega);have F:=aj6 @tmz @Zao @ha @hd @Za0 @c3;refine gG ?_;exact ⟨(),trivial,gw,gw⟩
 have hnas:o.assoc=false->xs.length=d.args.length:=fun h=>Classical.byContradiction fun c=>hAr (.inr ⟨h,c⟩);have hfl0:Zav o op []=[]:=rfl;refine fG @tmz ?_;have F:=aj3 @hfl0 @Zfd @tmz;refine gL (ι:=Nat) [7,9,10,11,48,49,60,62,75] [9] (fun i=>[(48,A.d (.one (.lit (.int .i64 i)))),(9,.buf 9)]) (fun i=>[(9,.buf none 42 4 (Zaa (Zav o op (xs.take i))))]) (fun i=>i<=xs.length∧∀ (j:Nat) a,j < i->xs[j]?=some a->KArg g o d j a) (fun i=>xs.length - i) (0) (⟨Taj _,fun j a h=>absurd h om⟩) (fun i hi=>?_);clear F
 obtain ⟨hi,hall⟩:=hi;by_cases hlt:i < xs.length
 ·obtain ⟨a,hai⟩:∃ a,xs[i]?=some a:=⟨_,Taa hlt⟩;have hT:=ha a (Tac hai);have q1:=lT i xs.length;have hw1:=Zaw (k:=i) om;obtain ⟨k,hk⟩:=ZgN hg ho hd hnas hlt;have hst:=ZjN (o:=o) (op:=op) hai;have hle:=ZgP o op xs (i+1);rw [hst,Tae] at hle;refine fN 8 (aj3 @q1 @hai @tmz) ?_;refine gB ?_;refine fC @tmz (ZhI hg hT.form.node) ?_;refine fC @tmz (ZjH hg h0 ho hd hk) ?_;by_cases hkd:Za4 g a=((kd g.sorts k:Nat):Int)
  rotate_left
  ·have e:mkO g o d op xs=none:=by
    unfold mkO;rw [if_neg hAr,if_neg fun h=>by
     obtain ⟨k',hk',he⟩:=h i a hai;rw [hk] at hk';injection hk' with hk'
     subst hk';exact hkd he]
   rw [e];refine fR (ai @tmz @hkd) ?_;exact fD (ai @hz @tmz)
  have hnext:i+1<=xs.length∧∀ (j:Nat) a,j < i+1->xs[j]?=some a->KArg g o d j a:=⟨hlt,fun j a' hj ha'=>by
   by_cases e:j=i
   ·subst e;rw [hai] at ha';injection ha' with ha'
    subst ha';exact ⟨k,hk,hkd⟩
   ·exact hall j a' om ha'⟩
  have l1:ZaC 4 (Zaa (Zav o op (xs.take i)))=true:=Zco _;have l5:ZaC 4 (Zaa a.args)=true:=Zco _;by_cases hN:o.assoc=true∧a.op=op
  ·have e:Zbp o op a=a.args:=by unfold Zbp;rw [if_pos hN]
   rw [e] at hst hle;have l3:((Zav o op (xs.take i)).length+a.args.length<=maxApp)=True:=eq_true (by unfold maxApp;omega);have l4:Zaa (Zav o op (xs.take i))++Zaa a.args=Zaa (Zav o op (xs.take (i+1))):=by rw [hst,ZbK]
   obtain ⟨hN1,hN2⟩:=hN;have q2:(a.op=op)=True:=eq_true hN2;refine fR (ai @tmz @hkd) ?_;have F:=aj9 @tmz @Zao @hN1 @q2 @l1 @l5 @l3 @l4 @hw1;refine gG ?_;exact ⟨i+1,hnext,gw,gw,om⟩
  ·have cU:=Zk9 (mc:=mc) hg h0 ho a;have hne:o.assoc=true->(a.op=op)=False:=fun h1=>eq_false fun h2=>hN ⟨h1,h2⟩;refine fR (ai @tmz @hkd) ?_;refine fN 12 (aj3 @tmz @Zao @hne) ?_;by_cases hU:o.unit≠0∧a.op=o.unit - 1
   ·have e:Zbp o op a=[]:=by unfold Zbp;rw [if_neg hN,if_pos hU]
    rw [e,List.append_nil] at hst;rw [decide_eq_true hU] at cU;rw [<- hst];rcases Bool.eq_false_or_eq_true o.assoc with hac | hac
    ·have hq:=hne hac;refine fN 12 (aj4 @tmz @Zao @hac @hq) ?_;refine gB ?_;refine fC @tmz (cU) ?_;refine fR @tmz ?_;have F:=aj3 @tmz @hac @hw1;refine gG ?_;exact ⟨i+1,hnext,gw,gw,om⟩
    ·refine fN 12 (aj3 @tmz @Zao @hac) ?_;refine gB ?_;refine fC @tmz (cU) ?_;refine fR @tmz ?_;have F:=aj3 @tmz @hac @hw1;refine gG ?_;exact ⟨i+1,hnext,gw,gw,om⟩
   ·have e:Zbp o op a=[a]:=by unfold Zbp;rw [if_neg hN,if_neg hU]
    rw [e] at hst hle;rw [decide_eq_false hU] at cU;have l3:((Zav o op (xs.take i)).length+1<=maxApp)=True:=eq_true (by simp only [Tag,Tak] at hle;unfold maxApp;omega);have l4:Zaa (Zav o op (xs.take i))++[Zad a]=Zaa (Zav o op (xs.take (i+1))):=by rw [hst,ZbK,Zes]
    rcases Bool.eq_false_or_eq_true o.assoc with hac | hac
    ·have hq:=hne hac;refine fN 12 (aj4 @tmz @Zao @hac @hq) ?_;refine gB ?_;refine fC @tmz (cU) ?_;refine fR @tmz ?_;have F:=aj6 @tmz @hac @l1 @l3 @l4 @hw1;refine gG ?_;exact ⟨i+1,hnext,gw,gw,om⟩
    ·refine fN 12 (aj3 @tmz @Zao @hac) ?_;refine gB ?_;refine fC @tmz (cU) ?_;refine fR @tmz ?_;have F:=aj6 @tmz @hac @l1 @l3 @l4 @hw1;refine gG ?_;exact ⟨i+1,hnext,gw,gw,om⟩
 ·obtain rfl:i=xs.length:=by omega
  have q1:=lF xs.length xs.length;rw [Tap];have hm:mkO g o d op xs=mkL o op (Zav o op xs):=by
   unfold mkO;rw [if_neg hAr,if_pos fun j a h=>hall j a (Tad.1 h).1 h]
  rw [hm];clear hm hall hnas;generalize hL:Zav o op xs=L at hfb hl2 ⊢;obtain ⟨b1,b2,b3⟩:=hfb;have hax:=hg.axs o (Tac ho);have hlo:=hax.lo;have cUn:=fun hu=>Zs3 (mc:=mc) hg h0 ho hu;by_cases hu:o.unit≠0∧L.length < 2
  ·have e:mkL o op L=some (L.headD (ZbB o)):=by unfold mkL;rw [if_pos hu]
   rw [e];obtain ⟨hu1,hu2⟩:=hu;have q2:(o.unit=0)=False:=eq_false hu1;have q3:=lT L.length 2
   cases L with
   | nil =>
    have z1:=lT (0:Nat) 2;have z2:(((0:Nat):Int)=1)=False:=eq_false om;refine fN 18 (aj6 @q1 @Zao @q2 @z1 @z2 @tmz) ?_;refine gB ?_;refine fC @tmz (cUn hu1) ?_;refine fR @tmz ?_;exact fD @tmz
   | cons b bs =>
    have hb:bs=[]:=Tao (by simp only [Tag] at hu2;omega);subst hb;have z1:=lT (0+1:Nat) 2;have z2:(((0+1:Nat):Int)=1)=True:=eq_true om;have z3:=lT (1:Nat) 2;have z4:(((1:Nat):Int)=1)=True:=eq_true om;have q5:([b]:List Tm)[0]?=some b:=rfl;have z5:(0 < 0+1)=True:=eq_true om;have z6:((0:Nat) < 1)=True:=eq_true om;have z7:Int.toNat 0=0:=rfl;have q6:(0 < [b].length)=True:=eq_true (by simp);exact fD (aj14 @q1 @Zao @q2 @q3 @z1 @z2 @z3 @z4 @z5 @z6 @z7 @q5 @q6 @tmz)
  ·have hml:mkL o op L=if BigT o op (srtO o L) then none else some (appT op (srtO o L)):=by unfold mkL;rw [if_neg hu]
   rw [hml];clear hml cUn;refine fG (ai @q1 @tmz) ?_;refine gM (ι:=Unit) [93] [] (fun u=>[(93,A.d (.one (.lit (.bool false))))]) (fun u=>[]) (fun u=>True) ?_ (fun u hu=>Exists.intro _ (ai (Wk.refl _) ?_))
   ·by_cases hu0:o.unit=0
    ·have q2:(o.unit=0)=True:=eq_true hu0;have F:=aj3 @Zao @q2 @tmz;refine gG ?_;exact ⟨(),trivial,gw,gw⟩
    ·have q2:(o.unit=0)=False:=eq_false hu0;have q3:((L.length:Int) < 2)=False:=eq_false fun h=>hu ⟨hu0,om⟩;have F:=aj4 @Zao @q2 @q3 @tmz;refine gG ?_;exact ⟨(),trivial,gw,gw⟩
   refine fN 19 @tmz ?_;refine pS 9 fun a cap=>?_;refine gB ?_;refine fR (ai @Zao @tmz) ?_;refine gM (ι:=Unit) [] [9] (fun u=>[]) (fun u=>[(9,.buf (some (a,cap)) 42 4 (Zaa (srtO o L)))]) (fun u=>True) ?_ (fun u hu=>Exists.intro _ (ai (Wk.refl _) ?_))
   ·cases hcm:o.comm with
    | true =>
     rw [show srtO o L=ZaB L by unfold srtO;rw [if_pos hcm]];refine fN 20 (ai @hcm @tmz) ?_;refine gB ?_;have F:=@tmz;refine gCP [9] [9] (Zqn L om a cap) ?_;clear F;rintro r pm ⟨rfl,rfl⟩;simp only [setA,retA,zipM,Taf,Tah];refine fR @tmz ?_;exact (have F:=tmz;⟨(),trivial,gw,gw⟩)
    | false =>
     rw [show srtO o L=L by unfold srtO;rw [if_neg (by rw [hcm];simp)]];have F:=ai @hcm @tmz;refine gG ?_;exact ⟨(),trivial,gw,gw⟩
   have hSl:=Zka o L;have sz1:=ZiG (ZeZ o L);have dz1:=Zh6 (ZeZ o L);generalize srtO o L=S at hSl sz1 dz1 ⊢;rw [<- hSl,<- Zac S];refine pD 9 [9] [] ?_;have em:Zad (appT op S)=[.lit (.int .i64 op),.lit (.string ByteArray.empty),.lit (.int .i64 0),.sl (Zaa S)]:=by simp only [appT,Zad]
   have zs:sizeTm (appT op S)=1+sizeTms S:=by rw [ZcI];rfl
   have zd:depthTm (appT op S)=1+depthTms S:=by rw [ZhJ];rfl
   have c1:=ZiA (t:=appT op S) (by unfold big;omega);have c2:=Zh5 (t:=appT op S) (by unfold big;omega);rw [em] at c1 c2;refine fN 22 @tmz ?_;by_cases h7:o.assoc=true∧7 < S.length
   ·rw [if_pos (show BigT o op S from .inl h7)];obtain ⟨hac,h7⟩:=h7;have q2:=lT 7 S.length;exact fD (aj5 @Zao @hac @q2 @hz @tmz)
   have hac:o.assoc=true->(7 < (S.length:Int))=False:=fun h=>eq_false fun q=>h7 ⟨h,om⟩;rcases Bool.eq_false_or_eq_true o.assoc with ha' | ha'
   ·have q2:=hac ha';refine gB ?_;refine fC (aj4 @Zao @ha' @q2 @tmz) (c1) ?_;by_cases hs:60 < sizeTm (appT op S)
    ·have z1:=lT 60 (sizeTm (appT op S));rw [if_pos (show BigT o op S from .inr (.inl hs))];refine fR (ai @z1 @tmz) ?_;exact fD (ai @hz @tmz)
    have z1:=lF 60 (sizeTm (appT op S));refine fC (ai @z1 @tmz) (c2) ?_;by_cases hd2:20 < depthTm (appT op S)
    ·have z2:=lT 20 (depthTm (appT op S));rw [if_pos (show BigT o op S from .inr (.inr hd2))];refine fR (ai @z2 @tmz) ?_;exact fD (ai @hz @tmz)
    have z2:=lF 20 (depthTm (appT op S));rw [if_neg (show ¬ BigT o op S from fun h=>h.elim h7 (fun h=>h.elim hs hd2))];refine fR (ai @z2 @tmz) ?_;exact fD (ai @em @tmz)
   ·refine gB ?_;refine fC (aj3 @Zao @ha' @tmz) (c1) ?_;by_cases hs:60 < sizeTm (appT op S)
    ·have z1:=lT 60 (sizeTm (appT op S));rw [if_pos (show BigT o op S from .inr (.inl hs))];refine fR (ai @z1 @tmz) ?_;exact fD (ai @hz @tmz)
    have z1:=lF 60 (sizeTm (appT op S));refine fC (ai @z1 @tmz) (c2) ?_;by_cases hd2:20 < depthTm (appT op S)
    ·have z2:=lT 20 (depthTm (appT op S));rw [if_pos (show BigT o op S from .inr (.inr hd2))];refine fR (ai @z2 @tmz) ?_;exact fD (ai @hz @tmz)
    have z2:=lF 20 (depthTm (appT op S));rw [if_neg (show ¬ BigT o op S from fun h=>h.elim h7 (fun h=>h.elim hs hd2))];refine fR (ai @z2 @tmz) ?_;exact fD (ai @em @tmz)
end
section
variable {e:Env} {mask:Nat} {Q:PX->St->Prop} {ds:List (Option Nat)}
def ancN (L:List Oper):Nat->Nat->List Nat
 | 0,_=>[]
 | n+1,j=>ZbM L j++(ZbM L j).flatMap (ancN L n)
theorem ZhR {L:List Oper} {listed:Array Bool} (h:∀ j,listed.getD j false=true->∀ q∈ZbM L j,listed.getD q false=true):∀ (n j:Nat),(∀ q∈ZbM L j,listed.getD q false=true)->∀ q∈ancN L n j,listed.getD q false=true
 | 0,_,_,q,hq=>by cases hq
 | n+1,j,hj,q,hq=>by
  rcases Tbh.1 hq with hq | hq
  ·exact hj q hq
  ·obtain ⟨r,hr,hq⟩:=List.mem_flatMap.1 hq;exact ZhR h n r (h r (hj r hr)) q hq
def ZfS (e:Env) (ds:List (Option Nat)) (L:List Oper) (cons:Nat->Option Nat) (ini:List Nat) (B:St->Prop) (P:Nat->St->Prop):Nat->List Oper->Prop
 | _,[]=>True
 | i,o::os=>(∀ s m,B ⟨s,m⟩->(∀ j∈ZbM L i,(cons j=none∨cons j=some i)->P j ⟨s,m⟩)->(∀ j∈ini,cons j=some i->P j ⟨s,m⟩)->(∀ j∈ini,∀ k,cons j=some k->i∈ZbM L k->P j ⟨s,m⟩)->Runs e ds 0 [o] ⟨s,m⟩ (fun σ'=>B σ'∧P i σ'∧∀ j,j≠i->i ∉ ancN L 6 j->cons j≠some i->(∀ k,cons j=some k->k ∉ ancN L 6 i)->P j ⟨s,m⟩->P j σ'))∧ZfS e ds L cons ini B P (i+1) os
theorem ZfS.get {L:List Oper} {cons:Nat->Option Nat} {ini:List Nat} {B:St->Prop} {P:Nat->St->Prop}:∀ {l:List Oper} {k i:Nat} {o:Oper},ZfS e ds L cons ini B P k l->l[i]?=some o->∀ s m,B ⟨s,m⟩->(∀ j∈ZbM L (k+i),(cons j=none∨cons j=some (k+i))->P j ⟨s,m⟩)->(∀ j∈ini,cons j=some (k+i)->P j ⟨s,m⟩)->(∀ j∈ini,∀ k',cons j=some k'->k+i∈ZbM L k'->P j ⟨s,m⟩)->Runs e ds 0 [o] ⟨s,m⟩ (fun σ'=>B σ'∧P (k+i) σ'∧∀ j,j≠k+i->k+i ∉ ancN L 6 j->cons j≠some (k+i)->(∀ k',cons j=some k'->k' ∉ ancN L 6 (k+i))->P j ⟨s,m⟩->P j σ')
 | [],k,i,o,_,h=>by simp at h
 | x::l,k,0,o,h,ho=>by
  simp only [Tat,Taq] at ho;subst ho;exact h.1
 | x::l,k,i+1,o,h,ho=>by
  have:=ZfS.get (l:=l) (k:=k+1) (i:=i) (o:=o) h.2 (by simpa using ho);rw [show k+1+i=k+(i+1) by omega] at this;exact this
theorem Zqo {l:List Oper} {cons:Nat->Option Nat} {ini:List Nat} {B:St->Prop} {P:Nat->St->Prop} (hb:Zk7 l=true) (hini:ini.all (fun j=>decide (l.length<=j))=true) (hstep:ZfS e ds l cons ini B P 0 l) (hK:∀ s m,B ⟨s,m⟩->(∀ i,i < l.length∨i∈ini->(∀ k,cons i=some k->l.length<=k)->P i ⟨s,m⟩)->K ⟨s,m⟩) :
  ∀ (f:Nat) (listed:Array Bool) (σ:St),listed.size=l.length->(List.range l.length).countP (fun i=>!listed.getD i true)=f->B σ->(∀ j,listed.getD j false=true->(P j σ∨∃ k,cons j=some k∧listed.getD k false=true)∧∀ q∈ZbM l j,listed.getD q false=true)->(∀ j∈ini,P j σ∨∃ k,cons j=some k∧listed.getD k false=true)->ZcB e ds l.toArray K f listed σ:=by
 have hback:∀ i o,l[i]?=some o->o.guard=none∧∀ e∈o.after,Region.binds .any e=true->e.on < i:=fun i o ho=>by
  have h1:=List.all_eq_true.1 hb i (List.mem_range.2 (Tad.1 ho).1);rw [ho] at h1;simp only [Tar,Option.isNone_iff_eq_none,List.all_eq_true,Bool.or_eq_true,Bool.not_eq_true',decide_eq_true_eq] at h1;refine ⟨h1.1,fun e he hbe=>?_⟩;rcases h1.2 e (Array.mem_toList_iff.2 he) with h2 | h2
  ·rw [hbe] at h2;cases h2
  ·exact h2
 have hfirst:∀ (listed:Array Bool),listed.size=l.length->Region.ready .any l.toArray listed=[]->∀ i,i < l.length->listed.getD i false=true:=fun listed hsz h0 i=>by
  induction i using Nat.strongRecOn with
  | _ i ih =>
   intro hi;rw [<- Zbv (by omega:i < listed.size)]
   cases hun:listed.getD i true with
   | true=>rfl
   | false =>
   obtain ⟨o,ho⟩:∃ o,l[i]?=some o:=⟨_,Taa hi⟩;have:=(mem_ready (ops:=l.toArray) (md:=.any)).2 ⟨hun,o,by simpa using ho,fun e he hbe=>ih e.on ((hback i o ho).2 e he hbe) (by have:=(hback i o ho).2 e he hbe;omega)⟩;rw [h0] at this
   cases this
 have hlt:∀ (listed:Array Bool) (k:Nat),listed.getD k false=true->k < listed.size:=fun listed k h=>Classical.byContradiction fun hn=>by
  rw [Array.getD_eq_getD_getElem?,Array.getElem?_eq_none om] at h
  cases h
 intro f
 induction f with
 | zero =>
  intro listed σ hsz hc hB hP hI;have hall:∀ i,i < l.length->listed.getD i true=true:=fun i hi=>by
   have:=List.countP_eq_zero.1 hc i (List.mem_range.2 hi);simpa using this
  refine ⟨?_,hK σ.s σ.m hB fun i hio hk=>?_⟩
  ·cases hr:Region.ready .any l.toArray listed with
   | nil=>rfl
   | cons i r =>
    have hi:i∈Region.ready .any l.toArray listed:=by rw [hr];simp
    obtain ⟨hun,oi,hoi,_⟩:=mem_ready.1 hi;have hil:i < l.length:=by
     have:=(Tbl.1 hoi).1;simpa using this
    rw [hall i hil] at hun
    cases hun
  ·have hno:¬ ∃ k,cons i=some k∧listed.getD k false=true:=fun ⟨k,h1,h2⟩=>by
    have:=hlt listed k h2;have:=hk k h1;omega
   rcases hio with hi | hi
   ·exact (hP i (by rw [<- Zbv om];exact hall i hi)).1.resolve_right hno
   ·exact (hI i hi).resolve_right hno
 | succ f ih =>
  intro listed σ hsz hc hB hP hI;refine ⟨fun h0=>hK σ.s σ.m hB fun i hio hk=>?_,fun i hi=>?_⟩
  ·have hno:¬ ∃ k,cons i=some k∧listed.getD k false=true:=fun ⟨k,h1,h2⟩=>by
    have:=hlt listed k h2;have:=hk k h1;omega
   rcases hio with hi | hi
   ·exact (hP i (hfirst listed hsz h0 i hi)).1.resolve_right hno
   ·exact (hI i hi).resolve_right hno
  obtain ⟨hun,o,hoi,hall⟩:=mem_ready.1 hi;have ho:l[i]?=some o:=by simpa using hoi
  have hil:i < l.length:=(Tad.1 ho).1;have hls:i < listed.size:=om;have hda:ZbM l i=ZeF o:=by unfold ZbM;rw [ho]
  have hunf:listed.getD i false=false:=by rw [<- Zbv hls];exact hun
  have hanc:∀ q∈ancN l 6 i,listed.getD q false=true:=ZhR (fun j hj=>(hP j hj).2) 6 i fun q hq=>by
   rw [hda] at hq;simp only [ZeF,Tbi,List.mem_filter] at hq;obtain ⟨e,⟨he,hbe⟩,rfl⟩:=hq;exact hall e (Array.mem_toList_iff.1 he) hbe
  refine ⟨o,hoi,(hback i o ho).1,ZdA (hback i o ho).1 ?_⟩;have h1:=ZfS.get hstep ho σ.s σ.m hB (fun j hj hcj=>by
   rw [Nat.zero_add] at hj hcj;have hj':=hj;rw [hda] at hj';simp only [ZeF,Tbi,List.mem_filter] at hj';obtain ⟨e,⟨he,hbe⟩,rfl⟩:=hj';refine (hP e.on (hall e (Array.mem_toList_iff.1 he) hbe)).1.resolve_right ?_;rintro ⟨k,hk1,hk2⟩;rcases hcj with hcj | hcj
   ·rw [hcj] at hk1;cases hk1
   ·rw [hcj] at hk1;injection hk1 with hk1
    subst hk1;rw [hunf] at hk2
    cases hk2) (fun j hj hc=>by
   rw [Nat.zero_add] at hc;refine (hI j hj).resolve_right ?_;rintro ⟨k,hk1,hk2⟩;rw [hc] at hk1;injection hk1 with hk1
   subst hk1;rw [hunf] at hk2
   cases hk2) (fun j hj k' hc hd=>by
   rw [Nat.zero_add] at hd;refine (hI j hj).resolve_right ?_;rintro ⟨k,hk1,hk2⟩;rw [hc] at hk1;injection hk1 with hk1
   subst hk1;have h2:=(hP _ hk2).2 i hd;rw [hunf] at h2
   cases h2)
  rw [Nat.zero_add] at h1;refine Zk6 h1 fun σ' ⟨k1,k2,k3⟩=>ih _ σ' (by simpa using hsz) ?_ k1 (fun j hj=>?_) fun j hj=>?_
  ·have h1:(List.range l.length).countP (fun j=>!(listed.setIfInBounds i true).getD j true)+1=(List.range l.length).countP (fun j=>!listed.getD j true):=by
    have hperm:=List.perm_cons_erase (List.mem_range.2 hil);rw [hperm.countP_eq,hperm.countP_eq,List.countP_cons,List.countP_cons];have hcong:((List.range l.length).erase i).countP (fun j=>!(listed.setIfInBounds i true).getD j true)=((List.range l.length).erase i).countP (fun j=>!listed.getD j true):=by
     refine List.countP_congr fun j hj=>?_;have hne:j≠i:=fun e=>by
      subst e;exact List.Nodup.not_mem_erase (List.nodup_range) hj
     rw [getD_set_ne true (Ne.symm hne)]
    rw [hcong,hun];simp [hls]
   omega
  ·by_cases hji:j=i
   ·subst hji;refine ⟨.inl k2,fun q hq=>?_⟩;rw [hda] at hq;simp only [ZeF,Tbi,List.mem_filter] at hq;obtain ⟨e,⟨he,hbe⟩,rfl⟩:=hq;have hlt:=(hback j o ho).2 e (Array.mem_toList_iff.1 he) hbe;rw [getD_set_ne false om];exact hall e (Array.mem_toList_iff.1 he) hbe
   ·rw [getD_set_ne false (Ne.symm hji)] at hj;obtain ⟨p1,p2⟩:=hP j hj;have hni:i ∉ ancN l 6 j:=fun hm=>by
     have h2:=ZhR (fun j hj=>(hP j hj).2) 6 j p2 i hm;rw [hunf] at h2
     cases h2
    refine ⟨?_,fun q hq=>?_⟩
    ·rcases p1 with p1 | ⟨k,hk1,hk2⟩
     ·by_cases hci:cons j=some i
      ·refine .inr ⟨i,hci,?_⟩;rw [<- Zbv (by simpa using hls)];simp [Array.getD_eq_getD_getElem?,hls]
      ·by_cases hdep:∃ k,cons j=some k∧k∈ancN l 6 i
       ·obtain ⟨k,hk1,hk2⟩:=hdep;refine .inr ⟨k,hk1,?_⟩;have hk3:=hanc k hk2;have hki:i≠k:=fun e=>by subst e;rw [hunf] at hk3;cases hk3
        rw [getD_set_ne false hki];exact hk3
       ·exact .inl (k3 j hji hni hci (fun k hk1 hk2=>hdep ⟨k,hk1,hk2⟩) p1)
     ·refine .inr ⟨k,hk1,?_⟩;by_cases hki:k=i
      ·subst hki;rw [hunf] at hk2;cases hk2
      ·rw [getD_set_ne false (Ne.symm hki)];exact hk2
    ·by_cases hqi:q=i
     ·subst hqi;have h2:=p2 q hq;rw [hunf] at h2
      cases h2
     ·rw [getD_set_ne false (Ne.symm hqi)];exact p2 q hq
  ·have hjl:l.length<=j:=by have:=List.all_eq_true.1 hini j hj;simpa using this
   have hji:j≠i:=om;have hni:i ∉ ancN l 6 j:=fun hm=>by
    have hd:ZbM l j=[]:=by unfold ZbM;rw [List.getElem?_eq_none hjl]
    simp [ancN,hd] at hm
   rcases hI j hj with p1 | ⟨k,hk1,hk2⟩
   ·by_cases hci:cons j=some i
    ·refine .inr ⟨i,hci,?_⟩;rw [<- Zbv (by simpa using hls)];simp [Array.getD_eq_getD_getElem?,hls]
    ·by_cases hdep:∃ k,cons j=some k∧k∈ancN l 6 i
     ·obtain ⟨k,hk1,hk2⟩:=hdep;refine .inr ⟨k,hk1,?_⟩;have hk3:=hanc k hk2;have hki:i≠k:=fun e=>by subst e;rw [hunf] at hk3;cases hk3
      rw [getD_set_ne false hki];exact hk3
     ·exact .inl (k3 j hji hni hci (fun k hk1 hk2=>hdep ⟨k,hk1,hk2⟩) p1)
   ·refine .inr ⟨k,hk1,?_⟩;by_cases hki:k=i
    ·subst hki;rw [hunf] at hk2;cases hk2
    ·rw [getD_set_ne false (Ne.symm hki)];exact hk2
def lkS:List (Nat × A)->List (Nat × A)->Prop
 | [],_=>True
 | (t,x)::r,s=>gs s t=x∧lkS r s
def lkM:List (Nat × Bk)->List (Nat × Bk)->Prop
 | [],_=>True
 | (t,x)::r,m=>gm m t=some x∧lkM r m
theorem ZzN {s:List (Nat × A)}:∀ {sb:List (Nat × A)},(∀ p∈sb,gs s p.1=p.2) ↔ lkS sb s
 | []=>by simp [lkS]
 | (t,x)::r=>by simp only [List.forall_mem_cons,lkS,ZzN (sb:=r)]
theorem ZzO {m:List (Nat × Bk)}:∀ {mb:List (Nat × Bk)},(∀ p∈mb,gm m p.1=some p.2) ↔ lkM mb m
 | []=>by simp [lkM]
 | (t,x)::r=>by simp only [List.forall_mem_cons,lkM,ZzO (mb:=r)]
theorem ZaQ {sb:List (Nat × A)} {mb:List (Nat × Bk)}:Lks sb mb ⟨s,m⟩ ↔ lkS sb s∧lkM mb m:=and_congr ZzN ZzO
abbrev Tab:=List (List (Nat × A) × List (Nat × Bk))
def tabP (T:Tab) (i:Nat) (σ:St):Prop:=Lks (T.getD i ([],[])).1 (T.getD i ([],[])).2 σ
theorem Zyd {T:Tab} {i:Nat}:tabP T i ⟨s,m⟩ ↔ lkS (T.getD i ([],[])).1 s∧lkM (T.getD i ([],[])).2 m:=ZaQ
def Zln (L:List Oper) (cons:Nat->Option Nat) (T:Tab) (i:Nat) (f:List (Nat × A)->List (Nat × Bk)->Bool):Bool:=(List.range T.length).all fun j=>j==i || ((ancN L 6 j).contains i || (cons j==some i || ((match cons j with | some k=>(ancN L 6 i).contains k | none=>false) || f (T.getD j ([],[])).1 (T.getD j ([],[])).2)))
theorem ZAh {L:List Oper} {cons:Nat->Option Nat} {T:Tab} {i:Nat} {f:List (Nat × A)->List (Nat × Bk)->Bool} {σ':St} (h:Zln L cons T i f=true) (hf:∀ sb mb,f sb mb=true->Lks sb mb σ->Lks sb mb σ'):∀ j,j≠i->i ∉ ancN L 6 j->cons j≠some i->(∀ k,cons j=some k->k ∉ ancN L 6 i)->tabP T j σ->tabP T j σ':=fun j h1 h2 h3 h4 hp=>by
 unfold tabP at hp ⊢;by_cases hj:j < T.length
 ·have:=List.all_eq_true.1 h j (List.mem_range.2 hj);simp only [Bool.or_eq_true,beq_iff_eq,List.contains_eq_mem,decide_eq_true_eq] at this;rcases this with q | q | q | q | q
  ·exact absurd q h1
  ·exact absurd q h2
  ·exact absurd q h3
  ·cases hc:cons j with
   | none=>rw [hc] at q;cases q
   | some k=>rw [hc] at q;exact absurd (by simpa using q) (h4 k hc)
  ·exact hf _ _ q hp
 ·have e:T.getD j ([],[])=([],[]):=by rw [List.getD_eq_getElem?_getD,List.getElem?_eq_none om];rfl
  rw [e];exact ⟨fun p hp=>(by cases hp),fun p hp=>by cases hp⟩
section
variable {sb:List (Nat × A)} {mb:List (Nat × Bk)} {s:List (Nat × A)} {m:List (Nat × Bk)} {d k:Nat} {α:A} {bk:Bk}
theorem Lks.kill (h:Lks sb mb ⟨s,m⟩) (hf:sb.all (fun p=>!keyB k p.2)=true):Lks sb mb ⟨Zaz k s,m⟩:=⟨fun p hp=>by
 have h1:=List.all_eq_true.1 hf p hp;have h2:=h.1 p hp;show gs (Zaz k s) p.1=p.2;rw [ZeQ _ _ _ (by rw [h2];simpa using h1)];exact h2,h.2⟩
theorem Lks.mrem (h:Lks sb mb ⟨s,m⟩) (hf:mb.all (fun p=>p.1 != k)=true):Lks sb mb ⟨s,remM k m⟩:=⟨h.1,fun p hp=>by
 have h1:=List.all_eq_true.1 hf p hp;simp only [bne_iff_ne,ne_eq] at h1;show gm (remM k m) p.1=some p.2;rw [Zat,if_neg h1];exact h.2 p hp⟩
theorem ZwO {x:A} (h:keyB k x=false):frzA k bk x=x:=by
 cases x <;> simp_all [frzA,keyB]
theorem Lks.frz (h:Lks sb mb ⟨s,m⟩) (hf:sb.all (fun p=>!keyB k p.2)=true) (hm:mb.all (fun p=>p.1 != k)=true):Lks sb mb ⟨frzS k bk s,remM k m⟩:=by
 refine Lks.mrem (m:=m) ⟨fun p hp=>?_,h.2⟩ hm;have h1:=List.all_eq_true.1 hf p hp;have h2:=h.1 p hp;show gs (frzS k bk s) p.1=p.2;rw [ZlT,h2];exact ZwO (by simpa using h1)
def ZzP (d:Nat) (sb:List (Nat × A)) (_:List (Nat × Bk)):Bool:=sb.all fun p=>p.1 != d
def ZnV (d k:Nat) (sb:List (Nat × A)) (mb:List (Nat × Bk)):Bool:=ZeP d sb mb && ZeP k sb mb
theorem Lks.ownE (h:Lks sb mb ⟨s,m⟩) (hf:ZnV d k sb mb=true):Lks sb mb ⟨(d,α)::Zaz d (Zaz k s),(d,bk)::remM d (remM k m)⟩:=by
 simp only [ZnV,ZeP,Tar,List.all_eq_true,bne_iff_ne,ne_eq,Bool.not_eq_true'] at hf;refine Lks.born (Lks.mrem (Lks.kill h ?_) ?_) ?_
 ·simp only [List.all_eq_true,Bool.not_eq_true'];exact fun p hp=>(hf.2.1 p hp).2
 ·simp only [List.all_eq_true,bne_iff_ne,ne_eq];exact fun p hp=>hf.2.2 p hp
 ·simp only [ZeP,Tar,List.all_eq_true,bne_iff_ne,ne_eq,Bool.not_eq_true'];exact hf.1
end
section
variable {L:List Oper} {cons:Nat->Option Nat} {T:Tab} {i:Nat} {sb:List (Nat × A)} {mb:List (Nat × Bk)} {s s2:List (Nat × A)} {m m2:List (Nat × Bk)} {d k:Nat} {α:A} {bk:Bk}
end
end
section
variable {e:Env} {mask:Nat} {Q:PX->St->Prop} {ds:List (Option Nat)} {X:Type}
def tabX (ok:Nat->X->Prop) (T:X->Tab) (j:Nat) (σ:St):Prop:=∃ x,ok j x∧tabP (T x) j σ
abbrev DidX (L:List Oper) (cons:Nat->Option Nat) (ok:Nat->X->Prop) (T:X->Tab) (i:Nat) (sb:List (Nat × A)) (mb:List (Nat × Bk)) (s:List (Nat × A)) (m:List (Nat × Bk)) (σ':St):Prop:=Lks sb mb σ'∧tabX ok T i σ'∧∀ j,j≠i->i ∉ ancN L 6 j->cons j≠some i->(∀ k,cons j=some k->k ∉ ancN L 6 i)->tabX ok T j ⟨s,m⟩->tabX ok T j σ'
section
variable {L:List Oper} {cons:Nat->Option Nat} {ok:Nat->X->Prop} {T:X->Tab} {i:Nat} {sb:List (Nat × A)} {mb:List (Nat × Bk)} {s s2:List (Nat × A)} {m m2:List (Nat × Bk)} {d k:Nat} {α:A} {bk:Bk}
theorem Zkf {f:List (Nat × A)->List (Nat × Bk)->Bool} {σ':St} (h:∀ x,Zln L cons (T x) i f=true) (hf:∀ sb mb,f sb mb=true->Lks sb mb σ->Lks sb mb σ'):∀ j,j≠i->i ∉ ancN L 6 j->cons j≠some i->(∀ k,cons j=some k->k ∉ ancN L 6 i)->tabX ok T j σ->tabX ok T j σ':=fun j h1 h2 h3 h4 ⟨x,hx,hp⟩=>⟨x,hx,ZAh (h x) hf j h1 h2 h3 h4 hp⟩
theorem xS (hB:Lks sb mb ⟨s,m⟩) (hp:tabX ok T i ⟨(d,α)::s,m⟩) (h1:ZzP d sb mb=true:=by rfl) (h2:∀ x,Zln L cons (T x) i (ZzP d)=true:=by intro x;rfl):DidX L cons ok T i sb mb s m ⟨(d,α)::s,m⟩:=⟨hB.slot h1,hp,Zkf h2 fun _ _ h hl=>hl.slot h⟩
theorem xB (hB:Lks sb mb ⟨s,m⟩) (hp:tabX ok T i ⟨(d,α)::Zaz d s,(d,bk)::remM d m⟩) (h1:ZeP d sb mb=true:=by rfl) (h2:∀ x,Zln L cons (T x) i (ZeP d)=true:=by intro x;rfl):DidX L cons ok T i sb mb s m ⟨(d,α)::Zaz d s,(d,bk)::remM d m⟩:=⟨hB.born h1,hp,Zkf h2 fun _ _ h hl=>hl.born h⟩
theorem xE (hB:Lks sb mb ⟨s,m⟩) (hp:tabX ok T i ⟨(d,α)::Zaz d (Zaz k s),(d,bk)::remM d (remM k m)⟩) (h1:ZnV d k sb mb=true:=by rfl) (h2:∀ x,Zln L cons (T x) i (ZnV d k)=true:=by intro x;rfl):DidX L cons ok T i sb mb s m ⟨(d,α)::Zaz d (Zaz k s),(d,bk)::remM d (remM k m)⟩:=⟨hB.ownE h1,hp,Zkf h2 fun _ _ h hl=>hl.ownE h⟩
end
theorem gGp {l:List Oper} (sb:List (Nat × A)) (mb:List (Nat × Bk)) (P:Nat->St->Prop) (cons:Nat->Option Nat) (ini:List Nat) (hB:Lks sb mb ⟨s,m⟩) (hI:∀ j∈ini,P j ⟨s,m⟩) (hS:ZfS e (l.map (·.dst)) l cons ini (Lks sb mb) P 0 l) (hK:∀ s' m',Lks sb mb ⟨s',m'⟩->(∀ i,i < l.length∨i∈ini->(∀ k,cons i=some k->l.length<=k)->P i ⟨s',m'⟩)->∃ sf mf,Lks sf mf ⟨s',m'⟩∧Q .normal ⟨sf,mf⟩)
  (hb:Zk7 l=true:=by decide +kernel) (hini:ini.all (fun j=>decide (l.length<=j))=true:=by decide +kernel) (hT:regT l.toArray 0=true:=by decide +kernel):pwp e mask (.region id l.toArray true) ⟨s,m⟩ Q:=fun he U w0 S0 nt a w hok hs=>by
 refine Zj4 he hT (K:=fun σ'=>∃ sf mf,Lks sf mf σ'∧Q .normal ⟨sf,mf⟩) (fun a w σ' ⟨sf,mf,h1,h2⟩ h3=>⟨⟨sf,mf⟩,h2,h3.weak (fun t=>ZoU t h1.1) (fun t bk=>ZoV t bk h1.2)⟩) (Zk0 hok) hs ?_;simp only [List.take_zero,Runs]
 have:=Zqo (K:=fun σ'=>∃ sf mf,Lks sf mf σ'∧Q .normal ⟨sf,mf⟩) hb hini hS hK l.length (ZbG l.length 0) ⟨s,m⟩ (by simp [ZbG]) (by
  rw [List.countP_eq_length.2]
  ·simp
  ·intro i hi;have hi':=List.mem_range.1 hi;simp [ZbG,hi']) hB (fun j hj=>by
   have h0:(ZbG l.length 0).getD j false=false:=by
    by_cases hjl:j < l.length
    ·simp [ZbG,hjl]
    ·simp [ZbG,hjl]
   rw [h0] at hj
   cases hj) (fun j hj=>.inl (hI j hj))
 simpa using this
theorem gGx {l:List Oper} (sb:List (Nat × A)) (mb:List (Nat × Bk)) (ok:Nat->X->Prop) (T:X->Tab) (cons:Nat->Option Nat) (ini:List Nat) (hB:Lks sb mb ⟨s,m⟩) (hI:∀ j∈ini,tabX ok T j ⟨s,m⟩) (hS:ZfS e (l.map (·.dst)) l cons ini (Lks sb mb) (tabX ok T) 0 l) (hK:∀ s' m',Lks sb mb ⟨s',m'⟩->(∀ i,i < l.length∨i∈ini->(∀ k,cons i=some k->l.length<=k)->tabX ok T i ⟨s',m'⟩)->∃ sf mf,Lks sf mf ⟨s',m'⟩∧Q .normal ⟨sf,mf⟩)
  (hb:Zk7 l=true:=by decide +kernel) (hini:ini.all (fun j=>decide (l.length<=j))=true:=by decide +kernel) (hT:regT l.toArray 0=true:=by decide +kernel):pwp e mask (.region id l.toArray true) ⟨s,m⟩ Q:=gGp sb mb (tabX ok T) cons ini hB hI hS hK hb hini hT
theorem Zap {ok:Nat->X->Prop} {T:X->Tab} {i:Nat}:tabX ok T i ⟨s,m⟩ ↔ ∃ x,ok i x∧lkS ((T x).getD i ([],[])).1 s∧lkM ((T x).getD i ([],[])).2 m:=exists_congr fun x=>and_congr_right fun _=>Zyd
end
end Go.Proofs.YtdnkcjhlelkhhaaGreat
