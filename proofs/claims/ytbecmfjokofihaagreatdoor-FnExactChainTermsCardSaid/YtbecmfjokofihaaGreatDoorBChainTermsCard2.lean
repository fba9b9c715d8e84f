/-
  Part of a proof.
-/
import Derived.Test.YtbecmfjokofihaaGreatDoorBChainTermsCard0
import Derived.Test.YtbecmfjokofihaaGreatDoorBChainTermsCard1
set_option linter.unusedSimpArgs false
set_option linter.unusedVariables false
set_option maxHeartbeats 400000000
set_option maxRecDepth 100000
namespace Go.Proofs.YtbecmfjokofihaaGreatDoor
open Go.RowKit
theorem m263 {p:Prop} (h:p:=by
 have hf:=bC fun h=>h1 h.len1;exact fT (ai (lT o.decls.length 1) @hf)):p:=h
theorem m247 {X Y:Prop} (b:Y) (h:Bx Y->X:=by
 intro B0
 have hq:i+1<=d.args.length∧_:=⟨au,Zog (f:=f) ha BH oX fun b' dC=>by rw [hb] at dC;injection dC with dC;subst dC;exact eZ⟩;exact B0.o hq):X:=h ⟨b⟩
theorem m243 {X Y:Prop} (b:Y) (h:Bx Y->X:=by
 intro B0
 have q2:(j:Int) < (o.decls.length:Int):=om;obtain ⟨d,hd⟩:∃ d,o.decls[j]?=some d:=⟨_,Taa pJ⟩;have vd:=Tac hd;have oD:=bI (k:=j) om;exact B0.o q2 d hd vd oD):X:=h ⟨b⟩
theorem m242 {p:Prop} (h:p:=by
 have hf:=bC fun h=>h4 h.len4;exact fT (aj3 @z1 (lT 4 o.decls.length) @hf)):p:=h
theorem m185 {p:Prop} (h:p:=by
 have hf:=bC fun h=>h3 (h.ar f mL);exact fT (aj6 @z1 @z2 @mL @iW (lT 3 f.args.length) @hf)):p:=h
theorem m165 {X Y:Prop} (b:Y) (h:Bx Y->X:=by
 intro B0
 have q3:(i:Int) < (d.args.length:Int):=om;obtain ⟨a,ha⟩:∃ k,d.args[i]?=some k:=⟨_,Taa au⟩;obtain ⟨b,hb⟩:∃ k,f.args[i]?=some k:=⟨_,Taa om⟩;have hw:=bI (k:=i) om;exact B0.o q3 a ha b hb hw):X:=h ⟨b⟩
theorem m151 {p:Prop} (h:p:=by
 have hf:=bS fun h=>sO h.len;exact fT (aj5 @q2 @hd @iW (eq_false om:((d.args.length:Int)=(f.args.length:Int))=False) @hf)):p:=h
theorem rz {p:Prop} (h:p:=by
 refine gG ?_;exact ⟨i+1,hq,gw,gw,om⟩):p:=h
def tH (s:Srt):List C:=[.sl (nR (up s)),.sl (nR (pw s)),.sl (nR (kinds s))]
theorem ZjV:∀ s,tH s=[.sl (nR (up s)),.sl (nR (pw s)),.sl (nR (kinds s))]:=fun _=>rfl
section
variable {s:Srt}
theorem sg (hs:SortsOk s) {k:Int} (h:0<=k∧k < s.names.length):(nR (kinds s))[k.toNat]?=some [.lit (.int .i64 (kd s k:Nat))]:=by
 have hk:=ZjT (SortsOk.subsIn hs.subs);have hl:k.toNat < (kinds s).length:=by rw [hk.1];omega
 rw [e6 (Taa hl),kd,List.getD_eq_getElem?_getD,Taa hl];rfl
theorem ZHd (hs:SortsOk s):(nR (kinds s)).length=s.names.length:=by rw [fr,(ZjT (SortsOk.subsIn hs.subs)).1]
theorem ZDJ (hs:SortsOk s) (k:Int):az e0 242 [.agg (tH s),.one (.lit (.int .i64 k))] [.one (.lit (.bool (decide (0<=k∧k < s.names.length))))]:=by
 have hl:(nR (up s)).length=s.names.length:=by rw [fr,(wO (SortsOk.subsIn hs.subs)).1]
 rw [tH];refine gI 23 Tryz.func242 ?_;by_cases h0:0<=k
 ·by_cases h1:k < s.names.length
  ·exact fT (aj3 @h0 @hl @h1)
  ·exact fT (aj3 @h0 @hl @h1)
 ·exact fT @h0
theorem ZBO {l:List Int} {p:Int->Prop} {j:Nat} {c:Int} (hc:l[j]?=some c) (h:∀ (i:Nat) (c:Int),i < j->l[i]?=some c->p c) (hp:p c):∀ (i:Nat) (c:Int),i < j+1->l[i]?=some c->p c:=fun i c' hi vb=>by
 by_cases nQ:i=j
 ·subst nQ;rw [hc] at vb;injection vb with vb;subst vb;exact hp
 ·exact h i c' om vb
theorem Zog {f d:Dcl} {i:Nat} {a:Int} (ha:d.args[i]?=some a) (aD:∀ (i':Nat) a,i' < i->d.args[i']?=some a->(0<=a∧a < s.names.length)∧∀ b,f.args[i']?=some b->kd s a=kd s b) (h1:0<=a∧a < s.names.length) (h2:∀ b,f.args[i]?=some b->kd s a=kd s b) :
  ∀ (i':Nat) a,i' < i+1->d.args[i']?=some a->(0<=a∧a < s.names.length)∧∀ b,f.args[i']?=some b->kd s a=kd s b:=fun i' a' h de=>by
 by_cases e:i'=i
 ·subst e;rw [ha] at de;injection de with de
  subst de;exact ⟨h1,h2⟩
 ·exact aD i' a' om de
theorem Zqo {f d:Dcl} (h1:d.args.length=f.args.length) (h2:0<=d.res∧d.res < s.names.length) (h3:kd s d.res=kd s f.res) (aD:∀ (i':Nat) a,i' < d.args.length->d.args[i']?=some a->(0<=a∧a < s.names.length)∧∀ b,f.args[i']?=some b->kd s a=kd s b):DeclOk s f d :=
 ⟨h1,h2,fun k hk=>by obtain ⟨i,hi⟩:=Tbk hk;exact (aD i k (Tad.1 hi).1 hi).1,h3,fun i a b ha hb=>(aD i a (Tad.1 ha).1 ha).2 b hb⟩
theorem Zoh {l:List Dcl} {P:Dcl->Prop} {j:Nat} {d:Dcl} (hd:l[j]?=some d) (aD:∀ (j':Nat) d,j' < j->l[j']?=some d->P d) (h:P d):∀ (j':Nat) d,j' < j+1->l[j']?=some d->P d:=fun j' d' hj dn=>by
 by_cases e:j'=j
 ·subst e;rw [hd] at dn;injection dn with dn
  subst dn;exact h
 ·exact aD j' d' om dn
theorem Zrd (hs:SortsOk s) (o:Opr):az e0 180 [.agg (tH s),.agg (fU o)] [.one (.lit (.bool (qH s o)))]:=by
 have bC:¬ DeclsOk s o->qH s o=false:=Zku;have cH:=ZDJ hs;have rK:=fX (l:=kinds s);rw [tH] at cH ⊢;rw [fU];refine gI 83076759175850041743779962279694015 Tryz.func180 ?_;by_cases h1:1<=o.decls.length;rotate_left
 ·exact m263
 have z1:=lF o.decls.length 1;by_cases h4:o.decls.length<=4;rotate_left
 ·exact m242
 have z2:=lF 4 o.decls.length;obtain ⟨f,mL⟩:∃ f,o.decls[0]?=some f:=⟨_,Taa om⟩;have hfm:=Tac mL;by_cases h3:f.args.length<=3;rotate_left
 ·exact m185
 refine bU (aj5 @z1 @z2 @mL @iW (lF 3 f.args.length)) @aw (cH f.res) ?_;by_cases hr:0<=f.res∧f.res < (s.names.length:Int);rotate_left
 ·have hf:=bC fun h=>hr (h.all f mL f hfm).res;have y1:decide (0<=f.res∧f.res < (s.names.length:Int))=false:=decide_eq_false hr;exact bP @y1 @hf
 have y1:decide (0<=f.res∧f.res < (s.names.length:Int))=true:=decide_eq_true hr;have gr:=sg hs hr;have ir:=hr.1;refine dT @y1 @aw ?_;have F:=@aw;refine gL (ι:=Nat) [4,7,43,44,50] [] (fun i=>[(43,A.d (.one (.lit (.int .i64 i))))]) (fun i=>[]) (fun i=>i<=f.args.length∧∀ (i':Nat) k,i' < i->f.args[i']?=some k->0<=k∧k < s.names.length) (fun i=>f.args.length - i) (0) (⟨Taj _,fun i' k h=>absurd h om⟩) (fun i hi=>?_)
 obtain ⟨ci,xa⟩:=hi;by_cases au:i < f.args.length
 ·have q1:(i:Int) < (f.args.length:Int):=om;obtain ⟨k,hk⟩:∃ k,f.args[i]?=some k:=⟨_,Taa au⟩;have hw:=bI (k:=i) om;refine bU (aj3 @q1 @hk @gu) @aw (cH k) ?_;by_cases o8:0<=k∧k < (s.names.length:Int);rotate_left
  ·have hf:=bC fun h=>o8 ((h.all f mL f hfm).args k (Tac hk));have y2:decide (0<=k∧k < (s.names.length:Int))=false:=decide_eq_false o8;exact bP @y2 @hf
  have y2:decide (0<=k∧k < (s.names.length:Int))=true:=decide_eq_true o8;have hq:i+1<=f.args.length∧_:=⟨au,ZBO hk xa o8⟩;refine fR @y2 ?_;have F:=@hw;exact rz
 obtain rfl:i=f.args.length:=by omega
 refine fG (om:¬ ((f.args.length:Int) < (f.args.length:Int))) ?_;have F:=@aw;refine gL (ι:=Nat) [4,9,10,11,55,56,87,89,90,91,92,116] [] (fun j=>[(55,A.d (.one (.lit (.int .i64 j))))]) (fun j=>[]) (fun j=>j<=o.decls.length∧∀ (j':Nat) d,j' < j->o.decls[j']?=some d->DeclOk s f d) (fun j=>o.decls.length - j) (0) (⟨Taj _,fun j' d h=>absurd h om⟩) (fun j hj=>?_);obtain ⟨lz,qp⟩:=hj;by_cases pJ:j < o.decls.length
 rotate_left
 ·have ht:=Zgs (s:=s) (o:=o) ⟨h1,h4,fun f' h=>by rw [mL] at h;injection h with h;subst h;exact h3,fun f' h d hd=>by
   rw [mL] at h;injection h with h;subst h
   obtain ⟨j',ka⟩:=Tbk hd;exact qp j' d (by have:=(Tad.1 ka).1;omega) ka⟩
  exact fT (ai (om:¬ ((j:Int) < (o.decls.length:Int))) @ht)
 refine m243 fun q2 d hd vd oD=>?_;have bS:¬ DeclOk s f d->qH s o=false:=fun h=>bC fun hD=>h (hD.all f mL d vd);by_cases sO:d.args.length=f.args.length;rotate_left
 ·exact m151
 have y3:((d.args.length:Int)=(f.args.length:Int))=True:=eq_true om;refine bU (aj3 @q2 @hd @iW) @y3 (cH d.res) ?_;by_cases iN:0<=d.res∧d.res < (s.names.length:Int);rotate_left
 ·have hf:=bS fun h=>iN h.res;have y4:decide (0<=d.res∧d.res < (s.names.length:Int))=false:=decide_eq_false iN;exact bP (ai @y3 @y4) @hf
 have y4:decide (0<=d.res∧d.res < (s.names.length:Int))=true:=decide_eq_true iN;have gd:=sg hs iN;have id':=iN.1;have jd:=iN.2;by_cases o8:kd s d.res=kd s f.res;rotate_left
 ·have hf:=bS fun h=>o8 h.kres;exact bP (aj9 @y3 @y4 @gr @gd @ir @id' @jd @rK (eq_false om:((kd s d.res:Int)=(kd s f.res:Int))=False)) @hf
 refine dT (aj9 @y3 @y4 @gr @gd @ir @id' @jd @rK (eq_true om:((kd s d.res:Int)=(kd s f.res:Int))=True)) @aw ?_;have F:=@aw;refine gL (ι:=Nat) [4,10,11,91,92,116] [] (fun i=>[(91,A.d (.one (.lit (.int .i64 i))))]) (fun i=>[]) (fun i=>i<=d.args.length∧∀ (i':Nat) a,i' < i->d.args[i']?=some a->(0<=a∧a < s.names.length)∧∀ b,f.args[i']?=some b->kd s a=kd s b) (fun i=>d.args.length - i) (0) (⟨Taj _,fun i' a h=>absurd h om⟩) (fun i hi=>?_)
 obtain ⟨hil2,BH⟩:=hi;by_cases au:i < d.args.length;rotate_left
 ·obtain rfl:i=d.args.length:=by omega
  have hq:j+1<=o.decls.length∧_:=⟨pJ,Zoh hd qp (Zqo sO iN o8 BH)⟩;have F:=ai (om:¬ ((d.args.length:Int) < (d.args.length:Int))) @oD;refine gG ?_;exact ⟨j+1,hq,gw,gw,om⟩
 refine m165 fun q3 a ha b hb hw=>?_;have j9:=xa i b om hb;have gb:=sg hs j9;have ib:=j9.1;refine bU (aj3 @q3 @ha @gu) @aw (cH a) ?_;by_cases oX:0<=a∧a < (s.names.length:Int);rotate_left
 ·have hf:=bS fun h=>oX (h.args a (Tac ha));have y6:decide (0<=a∧a < (s.names.length:Int))=false:=decide_eq_false oX;exact bP @y6 @hf
 have y6:decide (0<=a∧a < (s.names.length:Int))=true:=decide_eq_true oX;have ga:=sg hs oX;have ia:=oX.1;have ja:=oX.2;by_cases eZ:kd s a=kd s b;rotate_left
 ·have hf:=bS fun h=>eZ (h.kargs i a b ha hb);exact bP (aj10 @y6 @ga @gb @ia @ja @ib @hb @gu @rK (eq_false om:((kd s a:Int)=(kd s b:Int))=False)) @hf
 refine m247 fun hq=>?_;refine fR (aj10 @y6 @ga @gb @ia @ja @ib @hb @gu @rK (eq_true om:((kd s a:Int)=(kd s b:Int))=True)) ?_;have F:=@hw;exact rz
theorem ZuB {g:Sgn} (hs:SortsOk g.sorts) (o:Opr):az e0 196 [.agg (bN g),.agg (fU o)] [.one (.lit (.bool (qH g.sorts o)))]:=by
 have bC:¬ DeclsOk g.sorts o->qH g.sorts o=false:=Zku;have cK:=ZfW hs;rw [show (kT (kinds g.sorts)).map d7=nR (kinds g.sorts) from rfl] at cK;have rK:=fX (l:=kinds g.sorts);have lK:=ZHd hs;have n1:=hs.n1;have n8:=hs.n8;have vA:IntKind.i64.wrap ((g.sorts.names.length:Int) - 1)=(g.sorts.names.length:Int) - 1:=IntWalk.i64_in _ om;rw [fZ] at cK;rw [bN,fU];refine gI 1298708039934125393111688421573631 Tryz.func196 ?_
 by_cases h1:1<=o.decls.length;rotate_left
 ·exact m263
 have z1:=lF o.decls.length 1;by_cases h4:o.decls.length<=4;rotate_left
 ·exact m242
 have z2:=lF 4 o.decls.length;obtain ⟨f,mL⟩:∃ f,o.decls[0]?=some f:=⟨_,Taa om⟩;have hfm:=Tac mL;by_cases h3:f.args.length<=3;rotate_left
 ·exact m185
 refine bU (aj5 @z1 @z2 @mL @iW (lF 3 f.args.length)) @aw (cK) ?_;refine dT @aw (ai @mL @iW) ?_;have F:=@aw;refine gL (ι:=Nat) [4,7,8,9,40,63,68,99,110] [] (fun j=>[(7,A.d (.one (.lit (.int .i64 j))))]) (fun j=>[]) (fun j=>j<=o.decls.length∧∀ (j':Nat) d,j' < j->o.decls[j']?=some d->DeclOk g.sorts f d) (fun j=>o.decls.length - j) (0) (⟨Taj _,fun j' d h=>absurd h om⟩) (fun j hj=>?_)
 obtain ⟨lz,qp⟩:=hj;by_cases pJ:j < o.decls.length;rotate_left
 ·have ht:=Zgs (s:=g.sorts) (o:=o) ⟨h1,h4,fun f' h=>by rw [mL] at h;injection h with h;subst h;exact h3,fun f' h d hd=>by
   rw [mL] at h;injection h with h;subst h
   obtain ⟨j',ka⟩:=Tbk hd;exact qp j' d (by have:=(Tad.1 ka).1;omega) ka⟩
  exact fT (ai (om:¬ ((j:Int) < (o.decls.length:Int))) @ht)
 refine m243 fun q2 d hd vd oD=>?_;have bS:¬ DeclOk g.sorts f d->qH g.sorts o=false:=fun h=>bC fun hD=>h (hD.all f mL d vd);have hj0:d=f∨DeclOk g.sorts f f:=by
  rcases Nat.eq_zero_or_pos j with h | h
  ·subst h;rw [mL] at hd;injection hd with hd;exact .inl hd.symm
  ·exact .inr (qp 0 f h mL)
 by_cases sO:d.args.length=f.args.length;rotate_left
 ·exact m151
 have y3:((d.args.length:Int)=(f.args.length:Int))=True:=eq_true om;refine bU (aj3 @q2 @hd @iW) (aj3 @y3 @lK @vA) (zg d.res 0 ((g.sorts.names.length:Int) - 1)) ?_;by_cases iN:0<=d.res∧d.res < (g.sorts.names.length:Int);rotate_left
 ·have hf:=bS fun h=>iN h.res;have y4:decide (0<=d.res∧d.res<=(g.sorts.names.length:Int) - 1)=false:=decide_eq_false om;exact bP (ai @y3 @y4) @hf
 have y4:decide (0<=d.res∧d.res<=(g.sorts.names.length:Int) - 1)=true:=decide_eq_true om;have gd:=sg hs iN;have id':=iN.1;have hfr:0<=f.res∧f.res < (g.sorts.names.length:Int):=by
  rcases hj0 with h | h
  ·rw [<- h];exact iN
  ·exact h.res
 have gr:=sg hs hfr;have ir:=hfr.1;refine dT (ai @y3 @y4) @aw ?_;have F:=@aw;refine gL (ι:=Nat) [4,9,68,99] [] (fun i=>[(9,A.d (.one (.lit (.int .i64 i))))]) (fun i=>[]) (fun i=>i<=d.args.length∧∀ (i':Nat) a,i' < i->d.args[i']?=some a->(0<=a∧a < g.sorts.names.length)∧∀ b,f.args[i']?=some b->kd g.sorts a=kd g.sorts b) (fun i=>d.args.length - i) (0) (⟨Taj _,fun i' a h=>absurd h om⟩) (fun i hi=>?_)
 obtain ⟨hil2,BH⟩:=hi;by_cases au:i < d.args.length;rotate_left
 ·obtain rfl:i=d.args.length:=by omega
  have q3:¬ ((d.args.length:Int) < (d.args.length:Int)):=om;by_cases o8:kd g.sorts d.res=kd g.sorts f.res;rotate_left
  ·have hf:=bS fun h=>o8 h.kres;exact fT (aj8 @q3 @gr @gd @ir @id' @rK (eq_false om:((kd g.sorts d.res:Int)=(kd g.sorts f.res:Int))=False) @hf)
  have hq:j+1<=o.decls.length∧_:=⟨pJ,Zoh hd qp (Zqo sO iN o8 BH)⟩;have F:=aj8 @q3 @gr @gd @ir @id' @rK (eq_true om:((kd g.sorts d.res:Int)=(kd g.sorts f.res:Int))=True) @oD;refine gG ?_;exact ⟨j+1,hq,gw,gw,om⟩
 refine m165 fun q3 a ha b hb hw=>?_;refine bU @q3 (aj4 @ha @gu @lK @vA) (zg a 0 ((g.sorts.names.length:Int) - 1)) ?_;by_cases oX:0<=a∧a < (g.sorts.names.length:Int);rotate_left
 ·have hf:=bS fun h=>oX (h.args a (Tac ha));have y6:decide (0<=a∧a<=(g.sorts.names.length:Int) - 1)=false:=decide_eq_false om;exact bP @y6 @hf
 have y6:decide (0<=a∧a<=(g.sorts.names.length:Int) - 1)=true:=decide_eq_true om;have y8:(a<=(g.sorts.names.length:Int) - 1)=True:=eq_true om;have ga:=sg hs oX;have ia:=oX.1;have j9:0<=b∧b < (g.sorts.names.length:Int):=by
  rcases hj0 with h | h
  ·rw [<- h,ha] at hb;injection hb with hb;rw [<- hb];exact oX
  ·exact h.args b (Tac hb)
 have gb:=sg hs j9;have ib:=j9.1;by_cases eZ:kd g.sorts a=kd g.sorts b;rotate_left
 ·have hf:=bS fun h=>eZ (h.kargs i a b ha hb);exact bP (aj11 @y6 @y8 @ga @gb @ia @ib @ha @hb @gu @rK (eq_false om:((kd g.sorts a:Int)=(kd g.sorts b:Int))=False)) @hf
 refine m247 fun hq=>?_;refine fR (aj11 @y6 @y8 @ga @gb @ia @ib @ha @hb @gu @rK (eq_true om:((kd g.sorts a:Int)=(kd g.sorts b:Int))=True)) ?_;have F:=@hw;exact rz
end
theorem m282 {p:Prop} (h:p:=by
 cases q1:o.assoc with
 | true=>(have F:=@q1;refine gG ?_;exact ⟨(),trivial,gw,gw⟩)
 | false =>
 cases q2:o.comm with
 | true=>(have F:=ai @q1 @q2;refine gG ?_;exact ⟨(),trivial,gw,gw⟩)
 | false =>
  have q3:(o.unit=0)=False:=eq_false fun h=>hp ⟨q1,q2,h⟩;have F:=aj3 @q1 @q2 @q3;exact rA):p:=h
theorem m227 {p:Prop} (h:p:=by
 refine gG ?_;exact ⟨false,⟨fun h=>(by cases h),fun _ h=>h.2 hr⟩,gw,gw⟩):p:=h
theorem m194 {p:Prop} (h:p:=by
 refine gG ?_;exact ⟨false,⟨fun h=>(by cases h),fun _=>⟨hk,fun h=>h.2 hr⟩⟩,gw,gw⟩):p:=h
theorem m123 {X Y:Prop} (b:Y) (h:Bx Y->X:=by
 intro B0
 obtain ⟨a,ha⟩:∃ k,d.args[0]?=some k:=⟨_,Taa om⟩;obtain ⟨b,hb⟩:∃ k,d.args[1]?=some k:=⟨_,Taa om⟩;have oX:=i7.args a (Tac ha);have j9:=i7.args b (Tac hb);have ga:=sg hs oX;have gb:=sg hs j9;have ia:=oX.1;have ib:=j9.1;exact B0.o a ha b hb oX j9 ga gb ia ib):X:=h ⟨b⟩
theorem rA {p:Prop} (h:p:=by
 refine gG ?_;exact ⟨(),trivial,gw,gw⟩):p:=h
theorem ZgZ {o:Opr} {d:Dcl} (hd:o.decls[0]?=some d):az e0 237 [.agg (fU o)] [.one (.lit (.int .i64 d.args.length))]:=by
 refine gI 7 Tryz.func237 ?_;exact fT (aj3 @bH @hd @iW)
section
variable {g:Sgn} {o:Opr}
theorem Zl1 {d:Dcl} (hd:o.decls[0]?=some d) (h1:0<=o.unit) (h2:o.unit<=g.ops.length) (h3:d.args.length=2) {a b:Int} (ha:d.args[0]?=some a) (hb:d.args[1]?=some b) (hk:kd g.sorts a=kd g.sorts b) (hr:¬ ((o.assoc=true∨o.unit≠0)∧kd g.sorts a≠kd g.sorts d.res))
  (hu:o.unit≠0->∀ (p:Opr) (u:Dcl),g.ops[o.unit.toNat - 1]?=some p->p.decls[0]?=some u->u.args.length=0∧kd g.sorts u.res=kd g.sorts d.res):AxOk g o :=
 ⟨h1,h2,fun _ d' dn=>by
  rw [hd] at dn;injection dn with dn;subst dn
  refine ⟨h3,fun a' b' de dC=>?_⟩;rw [ha] at de;injection de with de;subst de
  rw [hb] at dC;injection dC with dC;subst dC
  exact ⟨hk,fun h=>Classical.byContradiction fun hn=>hr ⟨h,hn⟩,hu⟩⟩
theorem ZsN (h:o.assoc=false∧o.comm=false∧o.unit=0):AxOk g o:=⟨by rw [h.2.2];exact Int.le_refl _,by rw [h.2.2];omega,fun h2=>by
 rcases h2 with h2 | h2 | h2
 ·rw [h.1] at h2;cases h2
 ·rw [h.2.1] at h2;cases h2
 ·exact absurd h.2.2 h2⟩
theorem ZwV (h:¬ (o.assoc=false∧o.comm=false∧o.unit=0)):o.assoc=true∨o.comm=true∨o.unit≠0:=by
 by_cases h1:o.assoc=true
 ·exact .inl h1
 by_cases h2:o.comm=true
 ·exact .inr (.inl h2)
 exact .inr (.inr fun h3=>h ⟨by simpa using h1,by simpa using h2,h3⟩)
theorem Zpy (hs:SortsOk g.sorts) (aD:∀ p∈g.ops,DeclsOk g.sorts p) (ho:o∈g.ops) (jD:g.ops.length<=14):az e0 181 [.agg (tH g.sorts),.agg (bN g),.agg (fU o)] [.one (.lit (.bool (iX g o)))]:=by
 have bC:¬ AxOk g o->iX g o=false:=Zob;have rK:=fX (l:=kinds g.sorts);obtain ⟨d,hd,i7⟩:=(aD o ho).first;have gr:=sg hs i7.res;have ir:=i7.res.1;rw [tH,bN,fU];refine gI 87042659588714057177760255 Tryz.func181 ?_;by_cases h1:0<=o.unit;rotate_left
 ·have hf:=bC fun h=>h1 h.lo;exact fT (ai (eq_true om:(o.unit < 0)=True) @hf)
 have z1:(o.unit < 0)=False:=eq_false om;by_cases h2:o.unit<=g.ops.length;rotate_left
 ·have hf:=bC fun h=>h2 h.hi;exact fT (aj3 @z1 (lT g.ops.length o.unit) @hf)
 have z2:=lF g.ops.length o.unit;by_cases hp:o.assoc=false∧o.comm=false∧o.unit=0
 ·have ht:=Ai (ZsN (g:=g) hp);obtain ⟨p1,p2,p3⟩:=hp;exact fT (aj6 @z1 @z2 @p1 @p2 (eq_true p3:(o.unit=0)=True) @ht)
 have re:=ZwV hp;refine fN 3 (ai @z1 @z2) ?_;refine gM (ι:=Unit) [32] [] (fun v=>[(32,A.d (.one (.lit (.bool false))))]) (fun v=>[]) (fun v=>True) ?_ (fun v hv=>Exists.intro _ (ai (Wk.refl _) ?_))
 ·exact m282
 clear hv;by_cases h3:d.args.length=2;rotate_left
 ·have hf:=bC fun h=>h3 (h.two re d hd).1;exact fT (aj4 @hd @iW (eq_false om:((d.args.length:Int)=2)=False) @hf)
 have z3:((d.args.length:Int)=2)=True:=eq_true om;refine m123 fun a ha b hb oX j9 ga gb ia ib=>?_;by_cases hk:kd g.sorts a=kd g.sorts b;rotate_left
 ·have hf:=bC fun h=>hk ((h.two re d hd).2 a b ha hb).1;exact fT (aj13 @hd @iW @z3 @ha @hb @gu @ga @gb @ia @ib @rK (eq_false om:((kd g.sorts a:Int)=(kd g.sorts b:Int))=False) @hf)
 refine fN 8 (aj12 @hd @iW @z3 @ha @hb @gu @ga @gb @ia @ib @rK (eq_true om:((kd g.sorts a:Int)=(kd g.sorts b:Int))=True)) ?_;refine gM (ι:=Bool) [83] [] (fun v=>[(83,A.d (.one (.lit (.bool v))))]) (fun v=>[]) (fun v=>(v=true->((o.assoc=true∨o.unit≠0)∧kd g.sorts a≠kd g.sorts d.res))∧(v=false->¬ ((o.assoc=true∨o.unit≠0)∧kd g.sorts a≠kd g.sorts d.res))) ?_ (fun v hv=>Exists.intro _ (ai (Wk.refl _) ?_))
 ·cases q1:o.assoc with
  | true =>
   by_cases hr:kd g.sorts a=kd g.sorts d.res
   ·have F:=aj9 @q1 @ha @gu @ga @gr @ia @ir @rK (eq_true om:((kd g.sorts a:Int)=(kd g.sorts d.res:Int))=True);exact m227
   ·have F:=aj9 @q1 @ha @gu @ga @gr @ia @ir @rK (eq_false om:((kd g.sorts a:Int)=(kd g.sorts d.res:Int))=False);refine gG ?_;exact ⟨true,⟨fun _=>⟨.inl rfl,hr⟩,fun h=>(by cases h)⟩,gw,gw⟩
  | false =>
  by_cases q3:o.unit=0
  ·have F:=ai @q1 (eq_true q3:(o.unit=0)=True);refine gG ?_;exact ⟨false,⟨fun h=>(by cases h),fun _ h=>h.1.elim (fun h=>(by cases h)) fun h=>h q3⟩,gw,gw⟩
  ·have z6:(o.unit=0)=False:=eq_false q3;by_cases hr:kd g.sorts a=kd g.sorts d.res
   ·have F:=aj10 @q1 @z6 @ha @gu @ga @gr @ia @ir @rK (eq_true om:((kd g.sorts a:Int)=(kd g.sorts d.res:Int))=True);exact m227
   ·have F:=aj10 @q1 @z6 @ha @gu @ga @gr @ia @ir @rK (eq_false om:((kd g.sorts a:Int)=(kd g.sorts d.res:Int))=False);refine gG ?_;exact ⟨true,⟨fun _=>⟨.inr q3,hr⟩,fun h=>(by cases h)⟩,gw,gw⟩
 obtain ⟨sW,sX⟩:=hv
 cases v with
 | true =>
  have hf:=bC fun h=>(sW rfl).2 (((h.two re d hd).2 a b ha hb).2.1 (sW rfl).1);exact fT @hf
 | false =>
 have hr:=sX rfl;by_cases q3:o.unit=0
 ·have ht:=Ai (Zl1 hd h1 h2 h3 ha hb hk hr fun h=>absurd q3 h);exact fT (ai (eq_true q3:(o.unit=0)=True) @ht)
 have z6:(o.unit=0)=False:=eq_false q3;have et:IntKind.i64.wrap (o.unit - 1)=((o.unit.toNat - 1:Nat):Int):=dI om om om;obtain ⟨p,hp⟩:∃ p,g.ops[o.unit.toNat - 1]?=some p:=⟨_,Taa om⟩;obtain ⟨u,hu,huu⟩:=(aD p (Tac hp)).first;have gu':=sg hs huu.res;have iu:=huu.res.1;have key:(u.args.length=0∧kd g.sorts u.res=kd g.sorts d.res)->iX g o=true:=fun h=>Ai (Zl1 hd h1 h2 h3 ha hb hk hr fun _ p' u' ek nV=>by
  rw [hp] at ek;injection ek with ek;subst ek
  rw [hu] at nV;injection nV with nV;subst nV
  exact h)
 have vG:¬ (u.args.length=0∧kd g.sorts u.res=kd g.sorts d.res)->iX g o=false:=fun h=>bC fun hA=>h (((hA.two re d hd).2 a b ha hb).2.2 q3 p u hp hu);by_cases xe:u.args.length=0;rotate_left
 ·have hf:=vG fun h=>xe h.1;exact fT (aj9 @z6 @et @hp @bH @hu @iW @bD (eq_false om:((u.args.length:Int)=0)=False) @hf)
 have z7:((u.args.length:Int)=0)=True:=eq_true om;by_cases hku:kd g.sorts u.res=kd g.sorts d.res
 ·exact fT (aj15 @z6 @et @hp @bH @hu @iW @bD @z7 @gu' @gr @iu @ir @rK (eq_true om:((kd g.sorts u.res:Int)=(kd g.sorts d.res:Int))=True) (key ⟨xe,hku⟩))
 ·have hf:=vG fun h=>hku h.2;exact fT (aj15 @z6 @et @hp @bH @hu @iW @bD @z7 @gu' @gr @iu @ir @rK (eq_false om:((kd g.sorts u.res:Int)=(kd g.sorts d.res:Int))=False) @hf)
theorem ZsO (hs:SortsOk g.sorts) (aD:∀ p∈g.ops,DeclsOk g.sorts p) {k:Nat} (jS:g.ops[k]?=some o) (jD:g.ops.length<=14):az e0 197 [.agg (bN g),.one (.lit (.int .i64 k))] [.one (.lit (.bool (iX g o)))]:=by
 have bC:¬ AxOk g o->iX g o=false:=Zob;have ho:=Tac jS;have eX:=(Tad.1 jS).1;have cK:=ZfW hs;rw [show (kT (kinds g.sorts)).map d7=nR (kinds g.sorts) from rfl] at cK;have rK:=fX (l:=kinds g.sorts);obtain ⟨d,hd,i7⟩:=(aD o ho).first;have cA:=ZgZ hd;have gr:=sg hs i7.res;have ir:=i7.res.1;rw [fZ] at cK;rw [fU] at cA;rw [bN];refine gI 174085318024508800717819895 Tryz.func197 ?_;by_cases hp:o.assoc=false∧o.comm=false∧o.unit=0
 ·have ht:=Ai (ZsN (g:=g) hp);obtain ⟨p1,p2,p3⟩:=hp;exact fT (aj6 @jS @bH @p1 @p2 (eq_true p3:(o.unit=0)=True) @ht)
 have re:=ZwV hp;refine fN 2 (ai @jS @bH) ?_;refine gM (ι:=Unit) [29] [] (fun v=>[(29,A.d (.one (.lit (.bool false))))]) (fun v=>[]) (fun v=>True) ?_ (fun v hv=>Exists.intro _ (ai (Wk.refl _) ?_))
 ·exact m282
 clear hv;refine bU @aw @aw (cA) ?_;by_cases h3:d.args.length=2;rotate_left
 ·have hf:=bC fun h=>h3 (h.two re d hd).1;exact bP (eq_false om:((d.args.length:Int)=2)=False) @hf
 have z3:((d.args.length:Int)=2)=True:=eq_true om;refine fC @z3 (zg o.unit 0 (g.ops.length:Int)) ?_;by_cases tR:0<=o.unit∧o.unit<=(g.ops.length:Int);rotate_left
 ·have hf:=bC fun h=>tR ⟨h.lo,h.hi⟩;have z1:decide (0<=o.unit∧o.unit<=(g.ops.length:Int))=false:=decide_eq_false tR;exact bP (ai @z3 @z1) @hf
 have z1:decide (0<=o.unit∧o.unit<=(g.ops.length:Int))=true:=decide_eq_true tR;obtain ⟨h1,h2⟩:=tR;refine m123 fun a ha b hb oX j9 ga gb ia ib=>?_;refine fR (ai @z3 @z1) ?_;refine bp @aw @aw (cK) @aw ?_
 refine fN 8 (ai @hd @iW) ?_;refine dl 22 (by decide +kernel) ?_;intro ds bG;simp only [List.map] at bG;subst bG;refine (have F:=aj10 ha hb gu ga gb gr ia ib ir rK;gP 19 ?_);refine (have F:=ia;A0 ?_);refine (have F:=ia;A0 ?_);refine (have F:=ia;A0 ?_);refine fR @aw ?_;refine fN 9 @aw ?_;refine gM (ι:=Bool) [84] [] (fun v=>[(84,A.d (.one (.lit (.bool v))))]) (fun v=>[]) (fun v=>(v=true->kd g.sorts a≠kd g.sorts b∨((o.assoc=true∨o.unit≠0)∧kd g.sorts a≠kd g.sorts d.res))∧(v=false->kd g.sorts a=kd g.sorts b∧¬ ((o.assoc=true∨o.unit≠0)∧kd g.sorts a≠kd g.sorts d.res))) ?_ (fun v hv=>Exists.intro _ (ai (Wk.refl _) ?_))
 ·by_cases hk:kd g.sorts a=kd g.sorts b;rotate_left
  ·have F:=(eq_false om:((kd g.sorts a:Int)=(kd g.sorts b:Int))=False);refine gG ?_;exact ⟨true,⟨fun _=>.inl hk,fun h=>(by cases h)⟩,gw,gw⟩
  have z4:((kd g.sorts a:Int)=(kd g.sorts b:Int))=True:=eq_true om
  cases q1:o.assoc with
  | true =>
   by_cases hr:kd g.sorts a=kd g.sorts d.res
   ·have F:=aj4 @q1 @bH @z4 (eq_true om:((kd g.sorts a:Int)=(kd g.sorts d.res:Int))=True);exact m194
   ·have F:=aj4 @q1 @bH @z4 (eq_false om:((kd g.sorts a:Int)=(kd g.sorts d.res:Int))=False);refine gG ?_;exact ⟨true,⟨fun _=>.inr ⟨.inl rfl,hr⟩,fun h=>(by cases h)⟩,gw,gw⟩
  | false =>
  by_cases q3:o.unit=0
  ·have F:=aj4 @q1 @bH @z4 (lF 0 o.unit);refine gG ?_;exact ⟨false,⟨fun h=>(by cases h),fun _=>⟨hk,fun h=>h.1.elim (fun h=>(by cases h)) fun h=>h q3⟩⟩,gw,gw⟩
  ·have z6:=lT 0 o.unit;by_cases hr:kd g.sorts a=kd g.sorts d.res
   ·have F:=aj5 @q1 @bH @z4 @z6 (eq_true om:((kd g.sorts a:Int)=(kd g.sorts d.res:Int))=True);exact m194
   ·have F:=aj5 @q1 @bH @z4 @z6 (eq_false om:((kd g.sorts a:Int)=(kd g.sorts d.res:Int))=False);refine gG ?_;exact ⟨true,⟨fun _=>.inr ⟨.inr q3,hr⟩,fun h=>(by cases h)⟩,gw,gw⟩
 obtain ⟨sW,sX⟩:=hv
 cases v with
 | true =>
  have hf:=bC fun h=>(sW rfl).elim (fun h'=>h' ((h.two re d hd).2 a b ha hb).1) fun h'=>h'.2 (((h.two re d hd).2 a b ha hb).2.1 h'.1);exact fT @hf
 | false =>
 obtain ⟨hk,hr⟩:=sX rfl;by_cases q3:o.unit=0
 ·have ht:=Ai (Zl1 hd h1 h2 h3 ha hb hk hr fun h=>absurd q3 h);exact fT (aj3 @bH (eq_true q3:(o.unit=0)=True) @ht)
 have z6:(o.unit=0)=False:=eq_false q3;have et:IntKind.i64.wrap (o.unit - 1)=((o.unit.toNat - 1:Nat):Int):=dI om om om;obtain ⟨p,hp⟩:∃ p,g.ops[o.unit.toNat - 1]?=some p:=⟨_,Taa om⟩;obtain ⟨u,hu,huu⟩:=(aD p (Tac hp)).first;have cP:=ZgZ hu;rw [fU] at cP;have gu':=sg hs huu.res;have iu:=huu.res.1;have key:(u.args.length=0∧kd g.sorts u.res=kd g.sorts d.res)->iX g o=true:=fun h=>Ai (Zl1 hd h1 h2 h3 ha hb hk hr fun _ p' u' ek nV=>by
  rw [hp] at ek;injection ek with ek;subst ek
  rw [hu] at nV;injection nV with nV;subst nV
  exact h)
 have vG:¬ (u.args.length=0∧kd g.sorts u.res=kd g.sorts d.res)->iX g o=false:=fun h=>bC fun hA=>h (((hA.two re d hd).2 a b ha hb).2.2 q3 p u hp hu);refine bU (aj5 @z6 @et @hp @bH @bD) @aw (cP) ?_;by_cases xe:u.args.length=0;rotate_left
 ·have hf:=vG fun h=>xe h.1;exact bP (eq_false om:((u.args.length:Int)=0)=False) @hf
 have z7:((u.args.length:Int)=0)=True:=eq_true om;by_cases hku:kd g.sorts u.res=kd g.sorts d.res
 ·exact bP (aj7 @z7 @hu @iW @gu' @iu @rK (eq_true om:((kd g.sorts u.res:Int)=(kd g.sorts d.res:Int))=True)) (key ⟨xe,hku⟩)
 ·have hf:=vG fun h=>hku h.2;exact bP (aj7 @z7 @hu @iW @gu' @iu @rK (eq_false om:((kd g.sorts u.res:Int)=(kd g.sorts d.res:Int))=False)) @hf
end
theorem m269 {X Y:Prop} (b:Y) (h:Bx Y->X:=by
 intro B0
 have e:args.take i=args:=List.take_of_length_le om;have hw:IntKind.i64.wrap ((aB args:Int)+1)=((1+aB args:Nat):Int):=dI om om om;exact B0.o e hw):X:=h ⟨b⟩
theorem Cz {p:Prop} (h:p:=by
 rw [Tbm] at this;omega):p:=h
theorem Cl {X Y:Prop} (b:Y) (h:Bx Y->X:=by
 intro B0
 have gf:(i:Int) < (args.length:Int):=om;obtain ⟨a,ha⟩:∃ a,args[i]?=some a:=⟨_,Taa hl⟩;exact B0.o gf a ha):X:=h ⟨b⟩
theorem m130 {p:Prop} (h:p:=by
 refine bp (aj3 @gf @ae @ha) @ae (ih a om (by unfold fc;omega)) @hw ?_;have F:=aj3 (bI (k:=i) om) @hw @ae;refine gG ?_;exact ⟨i+1,om,gw,gw,om⟩):p:=h
theorem Zmv (a b:List Tm):av (a++b)=av a+av b:=by
 induction a with
 | nil=>simp [av]
 | cons x xs ih=>simp only [Taf,av,ih];omega
theorem qd {ts:List Tm} {t:Tm} (h:t∈ts):am t<=av ts:=by
 induction ts with
 | nil=>cases h
 | cons x xs ih =>
  simp only [av];rcases Tbg.1 h with rfl | h
  ·omega
  ·have:=ih h;omega
theorem ZsP {ts:List Tm} {i:Nat} {t:Tm} (h:ts[i]?=some t):av (ts.take (i+1))=av (ts.take i)+am t:=by
 rw [uz h,Zmv];simp [av]
theorem ZsQ (ts:List Tm) (i:Nat):av (ts.take i)<=av ts:=by
 have:=Zmv (ts.take i) (ts.drop i);exact Cz
theorem uw (ts:List Tm):ts.length<=av ts:=by
 induction ts with
 | nil=>simp [av]
 | cons x xs ih=>cases x;simp only [Tag,av,am];omega
mutual
def aG:Tm->Nat
 | .mk _ _ _ a=>1+aB a
def aB:List Tm->Nat
 | []=>0
 | t::ts=>max (aG t) (aB ts)
end
mutual
theorem Zoi:∀ t:Tm,aG t<=am t
 | .mk _ _ _ a=>by
  have:=Zg0 a;simp only [aG,am];omega
theorem Zg0:∀ ts:List Tm,aB ts<=av ts
 | []=>by simp [aB]
 | t::ts=>by
  have:=Zoi t;have:=Zg0 ts;simp only [aB,av];omega
end
theorem ZsR (a b:List Tm):aB (a++b)=max (aB a) (aB b):=by
 induction a with
 | nil=>simp [aB]
 | cons x xs ih=>simp only [Taf,aB,ih];omega
theorem Zkx {ts:List Tm} {i:Nat} {t:Tm} (h:ts[i]?=some t):aB (ts.take (i+1))=max (aB (ts.take i)) (aG t):=by
 rw [uz h,ZsR];simp [aB]
theorem Zk6 {ts:List Tm} {t:Tm} (h:t∈ts):aG t<=aB ts:=by
 induction ts with
 | nil=>cases h
 | cons x xs ih =>
  simp only [aB];rcases Tbg.1 h with rfl | h
  ·omega
  ·have:=ih h;omega
theorem Zpz:∀ op nm so args,an (.mk op nm so args)=[.lit (.int .i64 op),.lit (.string nm),.lit (.int .i64 so),.sl (aq args)]:=fun _ _ _ _=>by rw [an]
theorem ZDK:∀ op nm so args,am (.mk op nm so args)=1+av args:=fun _ _ _ _=>by rw [am]
theorem Zqp:∀ op nm so args,aG (.mk op nm so args)=1+aB args:=fun _ _ _ _=>by rw [aG]
theorem Zqq:av []=0:=by rw [av]
theorem Zoj:aB []=0:=by rw [aB]
def fc:Nat:=4611686018427387904
theorem Zm7:∀ (n:Nat) (t:Tm),am t < n->am t<=fc->az e0 129 [.agg (an t)] [.one (.lit (.int .i64 (am t)))]:=by
 intro n
 induction n with
 | zero=>intro t h;omega
 | succ n ih =>
  intro t hn hb;obtain ⟨op,nm,so,args⟩:=t;simp only [am,fc] at hn hb;have ca:=uw args;refine gI 1967 Tryz.func129 ?_;refine fG (ai @Zpz @ae) ?_;have F:=@Zqq;refine gL (ι:=Nat) [3,5,9,10] [] (fun i=>[(9,A.d (.one (.lit (.int .i64 i)))),(3,A.d (.one (.lit (.int .i64 ((1+av (args.take i):Nat):Int)))))]) (fun i=>[]) (fun i=>i<=args.length) (fun i=>args.length - i) (0) om (fun i hi=>?_)
  by_cases hl:i < args.length;rotate_left
  ·have e:args.take i=args:=List.take_of_length_le om;exact fT (aj3 (om:¬ ((i:Int) < (args.length:Int))) @e @ZDK)
  refine Cl fun gf a ha=>?_;have hs:=ZsP ha;have ht:=ZsQ args (i+1);have hm:=qd (Tac ha);have hw:IntKind.i64.wrap (((1+av (args.take i):Nat):Int)+(am a:Int))=((1+av (args.take (i+1)):Nat):Int):=dI om om om;exact m130
theorem Zk7 {t:Tm} (h:am t<=fc):az e0 129 [.agg (an t)] [.one (.lit (.int .i64 (am t)))]:=Zm7 _ t (Tan _) h
theorem Zmf:∀ (n:Nat) (t:Tm),am t < n->am t<=fc->az e0 130 [.agg (an t)] [.one (.lit (.int .i64 (aG t)))]:=by
 intro n
 induction n with
 | zero=>intro t h;omega
 | succ n ih =>
  intro t hn hb;obtain ⟨op,nm,so,args⟩:=t;simp only [am,fc] at hn hb;have ca:=uw args;have bG:=Zg0 args;refine gI 1967 Tryz.func130 ?_;refine fG (ai @Zpz @ae) ?_;have F:=@Zoj;refine gL (ι:=Nat) [3,5,9,10] [] (fun i=>[(9,A.d (.one (.lit (.int .i64 i)))),(3,A.d (.one (.lit (.int .i64 ((aB (args.take i):Nat):Int)))))]) (fun i=>[]) (fun i=>i<=args.length) (fun i=>args.length - i) (0) om (fun i hi=>?_)
  by_cases hl:i < args.length;rotate_left
  ·refine m269 fun e hw=>?_;exact fT (aj4 (om:¬ ((i:Int) < (args.length:Int))) @e @hw @Zqp)
  refine Cl fun gf a ha=>?_;have hs:=Zkx ha;have hm:=qd (Tac ha);have hw:(if (aG a:Int) > (aB (args.take i):Int) then (aG a:Int) else (aB (args.take i):Int))=((aB (args.take (i+1)):Nat):Int):=by
   split <;> omega
  exact m130
theorem Zky {t:Tm} (h:am t<=fc):az e0 130 [.agg (an t)] [.one (.lit (.int .i64 (aG t)))]:=Zmf _ t (Tan _) h
theorem ZBP (a b:Int):az e0 272 [.one (.lit (.int .i64 a)),.one (.lit (.int .i64 b))] [.one (.lit (.int .i64 (max a b)))]:=by
 refine gI 147 Tryz.func272 ?_;by_cases h:b < a
 ·exact fT (ai @h (om:max a b=a))
 ·exact fT (ai @h (om:max a b=b))
theorem Zmg:∀ (n:Nat) (t:Tm),am t < n->am t<=fc->az e0 199 [.agg (an t)] [.one (.lit (.int .i64 (aG t)))]:=by
 intro n
 induction n with
 | zero=>intro t h;omega
 | succ n ih =>
  intro t hn hb;obtain ⟨op,nm,so,args⟩:=t;simp only [am,fc] at hn hb;have ca:=uw args;have bG:=Zg0 args;refine gI 543 Tryz.func199 ?_;refine fG (ai @Zpz @ae) ?_;have F:=@Zoj;refine gL (ι:=Nat) [3,4,9] [] (fun i=>[(4,A.d (.one (.lit (.int .i64 i)))),(3,A.d (.one (.lit (.int .i64 ((aB (args.take i):Nat):Int)))))]) (fun i=>[]) (fun i=>i<=args.length) (fun i=>args.length - i) (0) om (fun i hi=>?_)
  by_cases hl:i < args.length;rotate_left
  ·refine m269 fun e hw=>?_;exact fT (aj5 (om:¬ ((i:Int) < (args.length:Int))) @e @hw @Zqp @ae)
  refine Cl fun gf a ha=>?_;have hs:=Zkx ha;have hm:=qd (Tac ha);have hw:max (aB (args.take i):Int) (aG a:Int)=((aB (args.take (i+1)):Nat):Int):=om;refine bU (aj3 @gf @ae @ha) (ai @ae @ha) (ih a om (by unfold fc;omega)) ?_;refine fC @ae (ZBP _ _) ?_;refine fR @hw ?_;have F:=aj3 (bI (k:=i) om) @hw @ae;refine gG ?_;exact ⟨i+1,om,gw,gw,om⟩
theorem Zre {t:Tm} (h:am t<=fc):az e0 199 [.agg (an t)] [.one (.lit (.int .i64 (aG t)))]:=Zmg _ t (Tan _) h
theorem m228 {p:Prop} (h:p:=by
 simp only [Tat,Taq] at ho;subst ho;exact h.1):p:=h
theorem m64 {p:Prop} (h:p:=by
 have h1:=List.all_eq_true.1 hb i (List.mem_range.2 (Tad.1 ho).1);rw [ho] at h1;simp only [Tar,Option.isNone_iff_eq_none,List.all_eq_true,Bool.or_eq_true,Bool.not_eq_true',decide_eq_true_eq] at h1;refine ⟨h1.1,fun e he ly=>?_⟩;rcases h1.2 e (Array.mem_toList_iff.2 he) with h2 | h2
 ·rw [ly] at h2;cases h2
 ·exact h2):p:=h
theorem m56 {p:Prop} (h:p:=by
 induction i using Nat.strongRecOn with
 | _ i ih =>
  intro hi;rw [<- np (by omega:i < ag.size)]
  cases kG:ag.getD i true with
  | true=>rfl
  | false =>
  obtain ⟨o,ho⟩:∃ o,l[i]?=some o:=⟨_,Taa hi⟩;have:=(mem_ready (ops:=l.toArray) (md:=.any)).2 ⟨kG,o,by simpa using ho,fun e he ly=>ih e.on ((im i o ho).2 e he ly) (by have:=(im i o ho).2 e he ly;omega)⟩;rw [h0] at this
  cases this):p:=h
def dQ (sb:List (Nat × A)) (mb:List (Nat × Bk)) (σ:St):Prop:=(∀ p∈sb,gs σ.s p.1=p.2)∧∀ p∈mb,gm σ.m p.1=some p.2
def nb (k:Nat):A->Bool
 | .ref k' _=>k'==k
 | .buf k'=>k'==k
 | .row k' _ _ _=>k'==k
 | _=>false
def sE (d:Nat) (sb:List (Nat × A)) (mb:List (Nat × Bk)):Bool:=sb.all (fun p=>p.1 != d && !nb d p.2) && mb.all (fun p=>p.1 != d)
theorem Zf7 (k t:Nat):∀ (s:List (Nat × A)),nb k (gs s t)=false->gs (bM k s) t=gs s t
 | [],_=>rfl
 | (t',x)::r,h=>by
  have ih:=Zf7 k t r;by_cases ht:t=t'
  ·cases x <;> simp_all [bM,gs,nb]
  ·have h3:=ih (by simpa [gs,ht] using h:nb k (gs r t)=false);clear h ih
   cases x <;> simp [bM,gs,ht,h3]
theorem ZBQ {d:Nat} {a:Option Addr} {n cap:Nat} {x:A} (h:nb d x=false):iE d a n cap x=x:=by
 cases x <;> simp_all [iE,nb]
section
variable {sb sb':List (Nat × A)} {mb mb':List (Nat × Bk)} {s:List (Nat × A)} {m:List (Nat × Bk)} {d:Nat} {α:A} {bk:Bk} {σ:St}
theorem dQ.app (h:dQ sb mb σ) (h':dQ sb' mb' σ):dQ (sb++sb') (mb++mb') σ :=
 ⟨fun p hp=>(Tbh.1 hp).elim (h.1 p) (h'.1 p),fun p hp=>(Tbh.1 hp).elim (h.2 p) (h'.2 p)⟩
theorem dQ.born (h:dQ sb mb ⟨s,m⟩) (hf:sE d sb mb=true):dQ sb mb ⟨(d,α)::bM d s,(d,bk)::aA d m⟩:=by
 simp only [sE,Tar,List.all_eq_true,bne_iff_ne,ne_eq,Bool.not_eq_true'] at hf;refine ⟨fun p hp=>?_,fun p hp=>?_⟩
 ·have h1:=hf.1 p hp;have h2:=h.1 p hp;simp only [gs,h1.1,if_false];rw [Zf7 _ _ _ (by rw [h2];exact h1.2)];exact h2
 ·simp only [gm,(hf.2 p hp),if_false,iL];exact h.2 p hp
theorem dQ.pin (h:dQ sb mb ⟨s,m⟩) (hf:sE d sb mb=true) {a:Option Addr} {n cap:Nat}:dQ sb mb ⟨(d,α)::iF (iE d a n cap) (bM d s),(d,bk)::aA d (aA d m)⟩:=by
 simp only [sE,Tar,List.all_eq_true,bne_iff_ne,ne_eq,Bool.not_eq_true'] at hf;refine ⟨fun p hp=>?_,fun p hp=>?_⟩
 ·have h1:=hf.1 p hp;have h2:=h.1 p hp;simp only [gs,h1.1,if_false];rw [ZlW rfl,Zf7 _ _ _ (by rw [h2];exact h1.2),h2];exact ZBQ h1.2
 ·simp only [gm,(hf.2 p hp),if_false,iL];exact h.2 p hp
theorem dQ.slot (h:dQ sb mb ⟨s,m⟩) (hf:sb.all (fun p=>p.1 != d)=true):dQ sb mb ⟨(d,α)::s,m⟩:=by
 simp only [List.all_eq_true,bne_iff_ne,ne_eq] at hf;refine ⟨fun p hp=>?_,h.2⟩;simp only [gs,hf p hp,if_false];exact h.1 p hp
theorem dQ.own (h:dQ sb mb ⟨s,m⟩) (hf:mb.all (fun p=>p.1 != d)=true):dQ sb mb ⟨s,(d,bk)::aA d m⟩:=by
 simp only [List.all_eq_true,bne_iff_ne,ne_eq] at hf;refine ⟨h.1,fun p hp=>?_⟩;simp only [gm,hf p hp,if_false,iL];exact h.2 p hp
theorem ZsS:∀ {sb:List (Nat × A)} (t:Nat),(∀ p∈sb,gs σ.s p.1=p.2)->gs sb t=gs σ.s t∨gs sb t=.undef
 | [],t,_=>.inr rfl
 | (t',x)::r,t,h=>by
  simp only [gs];by_cases ht:t=t'
  ·have:=h (t',x) (by simp);rw [if_pos ht,ht];exact .inl this.symm
  ·rw [if_neg ht];exact ZsS t fun p hp=>h p (by simp [hp])
theorem ZsT:∀ {mb:List (Nat × Bk)} (t:Nat) (bk:Bk),(∀ p∈mb,gm σ.m p.1=some p.2)->gm mb t=some bk->gm σ.m t=some bk
 | [],t,bk,_,h=>by simp [gm] at h
 | (t',x)::r,t,bk,h,hg=>by
  simp only [gm] at hg;by_cases ht:t=t'
  ·rw [if_pos ht] at hg;injection hg with hg
   have:=h (t',x) (by simp);rw [ht,this,hg]
  ·rw [if_neg ht] at hg;exact ZsT t bk (fun p hp=>h p (by simp [hp])) hg
end
section
variable {e:Env} {ay:Nat} {Q:PX->St->Prop} {ds:List (Option Nat)}
theorem Zok {os:List Oper} {σ:St} {K K':St->Prop} (h:al e ds 0 os σ K) (hk:∀ σ',K σ'->K' σ'):al e ds 0 os σ K':=by
 simp only [al] at h ⊢;exact fun he U w0 S0 nt a w ops Q bG hd hQ hs=>h he U w0 S0 nt a w ops Q bG hd (fun a w σ' k1 k2=>hQ a w σ' (hk σ' k1) k2) hs
def ZrR (l:List Oper):Bool:=(List.range l.length).all fun i=>match l[i]? with
 | none=>true
 | some o=>o.guard.isNone && o.after.toList.all fun e=>!Region.binds .any e || decide (e.on < i)
def wI (o:Oper):List Nat:=(o.after.toList.filter fun e=>Region.binds .any e).map (·.on)
def lt (L:List Oper) (j:Nat):List Nat:=match L[j]? with
 | some o=>wI o
 | none=>[]
def AD (e:Env) (ds:List (Option Nat)) (L:List Oper) (B:St->Prop) (P:Nat->St->Prop):Nat->List Oper->Prop
 | _,[]=>True
 | i,o::os=>(∀ s m,B ⟨s,m⟩->(∀ j∈wI o,P j ⟨s,m⟩)->al e ds 0 [o] ⟨s,m⟩ (fun σ'=>B σ'∧P i σ'∧∀ j,j≠i->i ∉ lt L j->P j ⟨s,m⟩->P j σ'))∧AD e ds L B P (i+1) os
theorem AD.get {L:List Oper} {B:St->Prop} {P:Nat->St->Prop}:∀ {l:List Oper} {k i:Nat} {o:Oper},AD e ds L B P k l->l[i]?=some o->∀ s m,B ⟨s,m⟩->(∀ j∈wI o,P j ⟨s,m⟩)->al e ds 0 [o] ⟨s,m⟩ (fun σ'=>B σ'∧P (k+i) σ'∧∀ j,j≠k+i->k+i ∉ lt L j->P j ⟨s,m⟩->P j σ')
 | [],k,i,o,_,h=>by simp at h
 | x::l,k,0,o,h,ho=>by
  exact m228
 | x::l,k,i+1,o,h,ho=>by
  have:=AD.get (l:=l) (k:=k+1) (i:=i) (o:=o) h.2 (by simpa using ho);rw [show k+1+i=k+(i+1) by omega] at this;exact this
theorem ZxT {l:List Oper} {K B:St->Prop} {P:Nat->St->Prop} (hb:ZrR l=true) (nU:AD e ds l B P 0 l) (hK:∀ s m,B ⟨s,m⟩->(∀ i,i < l.length->P i ⟨s,m⟩)->K ⟨s,m⟩) :
  ∀ (f:Nat) (ag:Array Bool) (σ:St),ag.size=l.length->(List.range l.length).countP (fun i=>!ag.getD i true)=f->B σ->(∀ j,ag.getD j false=true->P j σ∧∀ q∈lt l j,ag.getD q false=true)->mU e ds l.toArray K f ag σ:=by
 have im:∀ i o,l[i]?=some o->o.guard=none∧∀ e∈o.after,Region.binds .any e=true->e.on < i:=fun i o ho=>by
  exact m64
 have rc:∀ (ag:Array Bool),ag.size=l.length->Region.ready .any l.toArray ag=[]->∀ i,i < l.length->ag.getD i false=true:=fun ag bO h0 i=>by
  exact m56
 intro f
 induction f with
 | zero =>
  intro ag σ bO hc hB hP;have aD:∀ i,i < l.length->ag.getD i true=true:=fun i hi=>by
   have:=List.countP_eq_zero.1 hc i (List.mem_range.2 hi);simpa using this
  refine ⟨?_,hK σ.s σ.m hB fun i hi=>(hP i (by rw [<- np om];exact aD i hi)).1⟩
  cases hr:Region.ready .any l.toArray ag with
  | nil=>rfl
  | cons i r =>
   have hi:i∈Region.ready .any l.toArray ag:=by rw [hr];simp
   obtain ⟨kG,oi,gh,_⟩:=mem_ready.1 hi;have ci:i < l.length:=by
    have:=(Tbl.1 gh).1;simpa using this
   rw [aD i ci] at kG
   cases kG
 | succ f ih =>
  intro ag σ bO hc hB hP;refine ⟨fun h0=>hK σ.s σ.m hB fun i hi=>(hP i (rc ag bO h0 i hi)).1,fun i hi=>?_⟩;obtain ⟨kG,o,gh,aD⟩:=mem_ready.1 hi;have ho:l[i]?=some o:=by simpa using gh
  have ci:i < l.length:=(Tad.1 ho).1;have cb:i < ag.size:=om;refine ⟨o,gh,(im i o ho).1,CW (im i o ho).1 ?_⟩;have h1:=AD.get nU ho σ.s σ.m hB fun j hj=>by
   simp only [wI,Tbi,List.mem_filter] at hj;obtain ⟨e,⟨he,ly⟩,rfl⟩:=hj;exact (hP e.on (aD e (Array.mem_toList_iff.1 he) ly)).1
  rw [Nat.zero_add] at h1;refine Zok h1 fun σ' ⟨k1,k2,k3⟩=>ih _ σ' (by simpa using bO) ?_ k1 fun j hj=>?_
  ·have h1:(List.range l.length).countP (fun j=>!(ag.setIfInBounds i true).getD j true)+1=(List.range l.length).countP (fun j=>!ag.getD j true):=by
    have ff:=List.perm_cons_erase (List.mem_range.2 ci);rw [ff.countP_eq,ff.countP_eq,List.countP_cons,List.countP_cons];have mt:((List.range l.length).erase i).countP (fun j=>!(ag.setIfInBounds i true).getD j true)=((List.range l.length).erase i).countP (fun j=>!ag.getD j true):=by
     refine List.countP_congr fun j hj=>?_;have bq:j≠i:=fun e=>by
      subst e;exact List.Nodup.not_mem_erase (List.nodup_range) hj
     rw [getD_set_ne true (Ne.symm bq)]
    rw [mt,kG];simp [cb]
   omega
  ·by_cases i9:j=i
   ·subst i9;refine ⟨k2,fun q hq=>?_⟩;have hda:lt l j=wI o:=by unfold lt;rw [ho]
    rw [hda] at hq;simp only [wI,Tbi,List.mem_filter] at hq;obtain ⟨e,⟨he,ly⟩,rfl⟩:=hq;have au:=(im j o ho).2 e (Array.mem_toList_iff.1 he) ly;rw [getD_set_ne false om];exact aD e (Array.mem_toList_iff.1 he) ly
   ·rw [getD_set_ne false (Ne.symm i9)] at hj;obtain ⟨p1,p2⟩:=hP j hj;have DZ:i ∉ lt l j:=fun hm=>by
     have h2:=p2 i hm;rw [<- np cb,kG] at h2
     cases h2
    refine ⟨k3 j i9 DZ p1,fun q hq=>?_⟩;by_cases hqi:q=i
    ·subst hqi;exact absurd hq DZ
    ·rw [getD_set_ne false (Ne.symm hqi)];exact p2 q hq
theorem gGd {id:Nat} {l:List Oper} {s:List (Nat × A)} {m:List (Nat × Bk)} (B:St->Prop) (P:Nat->St->Prop) (hB:B ⟨s,m⟩) (hS:AD e (l.map (·.dst)) l B P 0 l) (hK:∀ s' m',B ⟨s',m'⟩->(∀ i,i < l.length->P i ⟨s',m'⟩)->∃ sf mf,dQ sf mf ⟨s',m'⟩∧Q .normal ⟨sf,mf⟩)
  (hb:ZrR l=true:=by decide +kernel) (hT:tp l.toArray 0=true:=by decide +kernel):cp e ay (.region id l.toArray true) ⟨s,m⟩ Q:=fun he U w0 S0 nt a w aj hs=>by
 refine Zm5 he hT (K:=fun σ'=>∃ sf mf,dQ sf mf σ'∧Q .normal ⟨sf,mf⟩) (fun a w σ' ⟨sf,mf,h1,h2⟩ h3=>⟨⟨sf,mf⟩,h2,h3.weak (fun t=>ZsS t h1.1) (fun t bk=>ZsT t bk h1.2)⟩) (Zoc aj) hs ?_;simp only [List.take_zero,al]
 have:=ZxT (K:=fun σ'=>∃ sf mf,dQ sf mf σ'∧Q .normal ⟨sf,mf⟩) hb hS hK l.length (mj l.length 0) ⟨s,m⟩ (by simp [mj]) (by
  rw [List.countP_eq_length.2]
  ·simp
  ·intro i hi;have eG:=List.mem_range.1 hi;simp [mj,eG]) hB (fun j hj=>by
   have h0:(mj l.length 0).getD j false=false:=by
    by_cases lz:j < l.length
    ·simp [mj,lz]
    ·simp [mj,lz]
   rw [h0] at hj
   cases hj)
 simpa using this
def PG {X:Type} (S:X->Nat->List (Nat × A)) (M:X->Nat->List (Nat × Bk)) (i:Nat) (σ:St):Prop:=∃ x,dQ (S x i) (M x i) σ
section
variable {X:Type} {S:X->Nat->List (Nat × A)} {M:X->Nat->List (Nat × Bk)} {d i:Nat} {L:List Oper} {s:List (Nat × A)} {m:List (Nat × Bk)} {α:A} {bk:Bk}
theorem PG.slot (hf:∀ j,j≠i->i ∉ lt L j->∀ x,(S x j).all (fun p=>p.1 != d)=true):∀ j,j≠i->i ∉ lt L j->PG S M j ⟨s,m⟩->PG S M j ⟨(d,α)::s,m⟩:=fun j h1 h2 ⟨x,h⟩=>⟨x,h.slot (hf j h1 h2 x)⟩
theorem PG.born (hf:∀ j,j≠i->i ∉ lt L j->∀ x,sE d (S x j) (M x j)=true):∀ j,j≠i->i ∉ lt L j->PG S M j ⟨s,m⟩->PG S M j ⟨(d,α)::bM d s,(d,bk)::aA d m⟩:=fun j h1 h2 ⟨x,h⟩=>⟨x,h.born (hf j h1 h2 x)⟩
theorem PG.pin (hf:∀ j,j≠i->i ∉ lt L j->∀ x,sE d (S x j) (M x j)=true) {a:Option Addr} {n cap:Nat}:∀ j,j≠i->i ∉ lt L j->PG S M j ⟨s,m⟩->PG S M j ⟨(d,α)::iF (iE d a n cap) (bM d s),(d,bk)::aA d (aA d m)⟩:=fun j h1 h2 ⟨x,h⟩=>⟨x,h.pin (hf j h1 h2 x)⟩
end
end
theorem ZxU {e:Env} {σ:St} {k k' ety jr sz gU cap dz:Nat} {ad ad':Option Addr} {rows rows':List (List C)} (bq:k≠k') (h:gm σ.m k=some (.buf (some (ad,cap)) ety sz rows)) (h':gm σ.m k'=some (.buf (some (ad',dz)) jr gU rows')) (hr:0 < rows.length) (sU:0 < rows'.length):jJ e σ (fun σ'=>σ'=σ∧ad≠ad'):=fun he U w0 S0 nt act w hs=>by
 refine ⟨σ,⟨rfl,fun e=>?_⟩,hs⟩;obtain ⟨S,L,h1⟩:=hs;have key:∀ {k ety sz cap:Nat} {ad:Option Addr} {rows:List (List C)},gm σ.m k=some (.buf (some (ad,cap)) ety sz rows)->0 < rows.length->∃ g,aP (L.v k)=some g∧ad=some ⟨g,0,none⟩:=fun {k ety sz cap ad rows} h hr=>by
  obtain ⟨o1,o2⟩:=h1.cls.own k _ h;have o1:=o1 _ rfl;rcases o2.2.2 with ⟨h3,_⟩ | ⟨g,dB,bc,hv,hc,_⟩
  ·rw [h3] at hr;simp at hr
  ·refine ⟨g,by rw [hv];simp [aP];omega,?_⟩;rw [o1] at hv;injection hv with hv _ _
 obtain ⟨g,v1,e1⟩:=key h hr;obtain ⟨g',v2,e2⟩:=key h' sU;rw [e1,e2] at e;injection e with e
 injection e with e _ _
 rw [<- e] at v2;exact bq (h1.cls.inj k k' _ _ g h h' v1 v2)
theorem pA {e:Env} {ay:Nat} {Q:PX->St->Prop} {c:Code} {s:List (Nat × A)} {m:List (Nat × Bk)} {ety jr sz gU cap dz:Nat} {ad ad':Option Addr} {rows rows':List (List C)} (k k':Nat) (hK:ad≠ad'->cp e ay c ⟨s,m⟩ Q) (hr:0 < rows.length) (sU:0 < rows'.length) (bq:k≠k':=by decide) (h:gm m k=some (.buf (some (ad,cap)) ety sz rows):=by exact cJ) (h':gm m k'=some (.buf (some (ad',dz)) jr gU rows'):=by exact cJ):cp e ay c ⟨s,m⟩ Q :=
 rI (ZxU bq h h' hr sU) fun σ' ⟨hσ,ha⟩=>by subst hσ;exact hK ha
theorem m253 {X Y:Prop} (b:Y) (h:Bx Y->X:=by
 intro B0
 have q1:(i:Int) < (g.ops.length:Int):=om;obtain ⟨o,ho⟩:∃ o,g.ops[i]?=some o:=⟨_,Taa au⟩;have xg:=Tac ho;have hw:=bI (k:=i) om;exact B0.o q1 o ho xg hw):X:=h ⟨b⟩
theorem Cw {p:Prop} (h:p:=by
 refine gG ?_;exact ⟨i+1,au,gw,gw,om⟩):p:=h
theorem m211 {p:Prop} (h:p:=by
 have hf:=bC fun h=>by rw [Ai (h.axs o xg)] at ha;cases ha
 exact bP @aw @hf):p:=h
theorem m128 {X Y:Prop} (b:Y) (h:Bx Y->X:=by
 intro B0
 have bS:¬ (iS o.name=true∧iR (lP (g.ops.take i)) o.name=false)->fA g=false:=fun h=>bC fun hs=>h (hs.names i o ho);have pG:qH g.sorts o=false->fA g=false:=fun h=>bC fun hs=>by rw [Zgs (hs.decls o xg)] at h;cases h
 exact B0.o bS pG):X:=h ⟨b⟩
theorem m125 {p:Prop} (h:p:=by
 obtain rfl:k=g.ops.length:=by omega
 rw [Tap] at kW;exact fT (ai (om:¬ ((g.ops.length:Int) < (g.ops.length:Int))) (v8 ⟨hs,zF,vi,zK,kW⟩))):p:=h
theorem m83 {p:Prop} (h:p:=by
 refine mg ?_;exact ⟨hB.pin rfl,⟨(fun _=>(a,cap),.sl [],.sl [],.sl []),by simp [iH,gs],by simp [j4,gm,tl]⟩,PG.pin (by intro j h1 h2 x;rcases j with _ | _ | _ | _ | _ | _ | _ | _ | _ | j <;> first | rfl | exact absurd rfl h1 | exact absurd (by decide) h2)⟩):p:=h
theorem m52 {p:Prop} (h:p:=by
 exact ⟨hB.slot rfl,⟨(fun _=>(none,0),.sl [],.sl [],.sl []),by simp [iH,gs],by simp [j4]⟩,PG.slot (by intro j h1 h2 x;rcases j with _ | _ | _ | _ | _ | _ | _ | _ | _ | j <;> first | rfl | exact absurd rfl h1 | exact absurd (by decide) h2)⟩):p:=h
def iH (s:Srt) (f:(Nat->Option Addr × Nat) × C × C × C):Nat->List (Nat × A)
 | 0=>[(20,.d (.agg (fZ s)))]
 | 1=>[(21,.d (.one (.sl (nR (up s)))))]
 | 2=>[(22,.d (.one (.lit (.int .i64 s.names.length))))]
 | 3=>[(23,.d (.one (.lit (.slice (f.1 23).1 s.names.length (f.1 23).2))))]
 | 4=>[(24,.d (.one (.lit (.int .i64 s.names.length))))]
 | 5=>[(25,.d (.one (.lit (.slice (f.1 25).1 s.names.length (f.1 25).2))))]
 | 6=>[(26,.d (.agg [.sl (nR (up s)),.lit (.slice (f.1 23).1 s.names.length (f.1 23).2),.lit (.slice (f.1 25).1 s.names.length (f.1 25).2)]))]
 | 7=>[(5,.ref 5 0)]
 | 8=>[(5,.ref 5 0)]
 | _=>[]
def j4 (s:Srt) (f:(Nat->Option Addr × Nat) × C × C × C):Nat->List (Nat × Bk)
 | 3=>[(23,.buf (some (f.1 23)) 3 1 (nR (List.replicate s.names.length 0)))]
 | 5=>[(25,.buf (some (f.1 25)) 3 1 (nR (List.replicate s.names.length 0)))]
 | 6=>[(23,.buf (some (f.1 23)) 3 1 (nR (List.replicate s.names.length 0))),(25,.buf (some (f.1 25)) 3 1 (nR (List.replicate s.names.length 0)))]
 | 7=>[(5,.var none [f.2.1,f.2.2.1,f.2.2.2])]
 | 8=>[(5,.var none [.sl (nR (up s)),.lit (.slice (f.1 23).1 s.names.length (f.1 23).2),.lit (.slice (f.1 25).1 s.names.length (f.1 25).2)]),(23,.buf (some (f.1 23)) 3 1 (nR (List.replicate s.names.length 0))),(25,.buf (some (f.1 25)) 3 1 (nR (List.replicate s.names.length 0)))]
 | _=>[]
theorem ZHT:(∀ (u l:List Nat),downs u 0 l=l)∧∀ n,rS n 0=List.replicate n 0:=⟨fun _ _=>rfl,fun n=>by simp [rS]⟩
theorem ZHe (i:Nat) (l:List Nat):downIn i l []=l:=rfl
theorem ZBR {ks:List Nat} {j k:Nat} (h:ks[j]?=some k) (i:Nat) (l:List Nat):downIn i l (ks.take (j+1))=(downIn i l (ks.take j)).set k ((downIn i l (ks.take j)).getD k 0 ||| 2 ^ i):=ZjS h l
def Zol (s:Srt):List (Nat × A):=[(1,.ref 1 0),(2,.ref 2 0),(3,.d (.one (.lit (.bool false)))),(4,.d (.one (.lit (.int .i64 s.names.length))))]
def ZrS (s:Srt):List (Nat × Bk):=[(1,.var none (fZ s)),(2,.var none [.sl [],.sl [],.sl []])]
def ordB (s:Srt) (σ:St):Prop:=dQ (Zol s) (ZrS s) σ
section
variable {s:Srt}
theorem Zm8 (aj:Zn4 s) (hs:¬ SortsOk s):az e0 107 [.agg (fZ s)] [.agg [.sl [],.sl [],.sl []],.one (.lit (.bool false))]:=by
 have cI:=Zkw aj;rw [Zhu hs,fZ] at cI;rw [fZ];refine gI (ts:=[.cell 2 175,.slot 3]) 569543224310601128703 Tryz.func107 ?_;refine bU @aw @aw (cI) ?_;exact bK @aw @aw
theorem Zic (aj:Zn4 s) (hs:SortsOk s):az e0 107 [.agg (fZ s)] [.agg (tH s),.one (.lit (.bool true))]:=by
 have cI:=Zkw aj;have sL:=SortsOk.subsIn hs.subs;have cA:=Zkv hs.n1 hs.n8 hs.m16 sL;rw [Zgr hs] at cI;rw [fZ] at cI ⊢;refine gI (ts:=[.cell 2 175,.slot 3]) 569543224310601128703 Tryz.func107 ?_;refine bp @aw @aw (cI) @aw ?_;refine fN 4 @aw ?_;have dg:((s.names.length:Int)<=(ak:Int))=True:=eq_true (by have:=hs.n8;unfold ak;omega);refine gGd (ordB s) (PG (iH s) (j4 s)) ⟨by simp [Zol,gs],by simp [ZrS,gm,fZ]⟩ ⟨?_,?_,?_,?_,?_,?_,?_,?_,?_,trivial⟩ ?_
 rotate_right
 all_goals (intro s' m' hB)
 all_goals (have g1:gs s' 1=.ref 1 0:=hB.1 (1,.ref 1 0) (by simp [Zol]))
 all_goals (have g4:gs s' 4=.d (.one (.lit (.int .i64 s.names.length))):=hB.1 (4,_) (by simp [Zol]))
 all_goals (have k1:gm m' 1=some (.var none [.sl (s.names.map kj),.sl (s.subs.map kU)]):=hB.2 (1,_) (by simp [ZrS,fZ]))
 ·intro hP;clear g1 g4 k1;obtain ⟨f,h⟩:=hP 8 (by decide);refine ⟨_,_,h.app hB,?_⟩;generalize hp:f.1 23=p;generalize hq:f.1 25=q;obtain ⟨a3,c3⟩:=p;obtain ⟨a5,c5⟩:=q;simp only [iH,j4,Zol,ZrS,Taf,Tah,fZ,hp,hq];clear hp hq h hB hP s' m' f;refine ⟨_,Wk.refl _,?_⟩;have hU:=wO sL;have lU:=fr (l:=up s);rw [hU.1] at lU;have h8:=hs.n8;have rU:=fX (l:=up s);refine fN 5 @aw ?_;have gg:=hs.n1;have l00:0 < (nR (List.replicate s.names.length 0)).length:=by rw [fr,List.length_replicate];omega
  refine pA 23 25 (fun bq=>?_) l00 l00;have hn5:∀ p,(a5=a3∧p)=False:=fun p=>eq_false fun e=>bq e.1.symm;refine fG @lU ?_;have F:=@ZHT;refine gL (ι:=Nat) [6,7,9,30,31,36,37,38,39] [23,25] (fun i=>[(30,A.d (.one (.lit (.int .i64 i))))]) (fun i=>[(23,.buf (some (a3,c3)) 3 1 (nR (downs (up s) i (List.replicate s.names.length 0)))),(25,.buf (some (a5,c5)) 3 1 (nR (rS s.names.length i)))]) (fun i=>i<=s.names.length) (fun i=>s.names.length - i) (0) (Taj _) (fun i hi=>?_)
  have hDi:=b6.downs hU i (l:=List.replicate s.names.length 0) hi (b6.zeros _);have lK:=fr (l:=rS s.names.length i);rw [Zqi hi] at lK;by_cases au:i < s.names.length
  ·have q1:(i:Int) < (s.names.length:Int):=om;have hw:=bI (k:=i) om;obtain ⟨gi,bi⟩:=hU.get au;have p256:2 ^ s.names.length<=256:=Tbe (Tbs om h8) (by decide);have fL:downs (up s) (i+1) (List.replicate s.names.length 0)=downIn i (downs (up s) i (List.replicate s.names.length 0)) (wH ((up s).getD i 0)):=rfl;have hks:=Zqh bi;have lks:=fr (l:=wH ((up s).getD i 0))
   have rks:=fX (l:=wH ((up s).getD i 0));have hks16:(wH ((up s).getD i 0)).length<=64:=Tbe (Zoa _ _) (by decide);have rq:=xS (k:=i) om;refine bp (aj4 @q1 @lU (e6 gi) @rU) @aw ((ZxR (a:=(up s).getD i 0) om)) @lks ?_;generalize wH ((up s).getD i 0)=ks at fL hks lks rks hks16 ⊢;generalize downs (up s) i (List.replicate s.names.length 0)=l at fL hDi ⊢;refine fG @lks ?_;have F:=@ZHe;refine gL (ι:=Nat) [9,38,39] [23] (fun j=>[(38,A.d (.one (.lit (.int .i64 j))))]) (fun j=>[(23,.buf (some (a3,c3)) 3 1 (nR (downIn i l (ks.take j))))]) (fun j=>j<=ks.length) (fun j=>ks.length - j) (0) (Taj _) (fun j hj=>?_)
   by_cases pJ:j < ks.length
   ·have q2:(j:Int) < (ks.length:Int):=om;have oD:=bI (k:=j) om;obtain ⟨k,hk⟩:∃ k,ks[j]?=some k:=⟨_,Taa pJ⟩;have hkn:=hks k (Tac hk);have r2:=e6 hk;have bm:=ZBR hk i l;have hV:=b6.downIn au hDi (ks:=ks.take j) fun q hq=>hks q (List.mem_of_mem_take hq);generalize downIn i l (ks.take j)=v at bm hV ⊢;obtain ⟨gk,bk⟩:=hV.get hkn;have r3:=e6 gk;have l3:=fr (l:=v);rw [hV.1] at l3;have p2:2 ^ i < 4611686018427387904:=Zh5 om;have F:=aj14 @q2 @r2 @rks @lks @r3 @l3 (fX (l:=v)) (qJ (l:=v) k (v.getD k 0 ||| 2 ^ i)) @rq (xC (a:=v.getD k 0) (b:=2 ^ i) om p2) @hkn @bD @oD @bm;refine gG ?_;exact ⟨j+1,pJ,gw,gw,om⟩
   obtain rfl:j=ks.length:=by omega
   have q2:¬ ((ks.length:Int) < (ks.length:Int)):=om;rw [Tap,<- fL];have l6:=fX (l:=rS s.names.length i);have l7:=qJ (l:=rS s.names.length i) i i;rw [ZBG au] at l7;obtain ⟨y,gy⟩:∃ y,(rS s.names.length i)[i]?=some y:=⟨_,Taa (by rw [Zqi hi];exact au)⟩;have F:=aj9 @q2 @hn5 @lK @l6 @l7 (e6 gy) @au @hw @bD;exact Cw
  obtain rfl:i=s.names.length:=by omega
  have q1:¬ ((s.names.length:Int) < (s.names.length:Int)):=om;rw [ZBH,show downs (up s) s.names.length (List.replicate s.names.length 0)=pw s from rfl];clear hDi lK;have hK:=lN.start s.names.length;refine fG @q1 ?_;have F:=@qj.eq_1;refine gL (ι:=Nat) [11,12,62,63,65,66,67,68] [25] (fun j=>[(62,A.d (.one (.lit (.int .i64 j))))]) (fun j=>[(25,.buf (some (a5,c5)) 3 1 (nR (qj s.subs j (List.range s.names.length))))]) (fun j=>j<=s.names.length) (fun j=>s.names.length - j) (0) (Taj _) (fun j hj=>?_)
  have hKj:=lN.iter sL j hK;have l0:=fr (l:=qj s.subs j (List.range s.names.length));rw [hKj.1] at l0;by_cases pJ:j < s.names.length;rotate_left
  ·obtain rfl:j=s.names.length:=by omega
   rw [show qj s.subs s.names.length (List.range s.names.length)=kinds s from rfl];refine fN 25 (om:¬ ((s.names.length:Int) < (s.names.length:Int))) ?_;have lD:=fr (l:=pw s);rw [(ZGf sL).1] at lD;have lK:=fr (l:=kinds s);rw [(ZjT sL).1] at lK;refine pD 23 [] [5] ?_ (hr:=by simp only [pz,↓reduceIte,Nat.reduceEqDiff,Nat.reduceAdd,Nat.reduceSub,Nat.reduceMul,Nat.reduceLeDiff,Nat.reduceBEq,Tam,decide_true,decide_false,Int.reduceLE,Int.reduceToNat,Int.reduceLT,Int.reduceEq,eq_self,Nat.reduceShiftRight,Nat.reduceAnd,Nat.reduceBneDiff,lD,hn5,if_false];exact rfl)
   refine pD 25 [] [5] ?_ (hr:=by simp only [pz,↓reduceIte,Nat.reduceEqDiff,Nat.reduceAdd,Nat.reduceSub,Nat.reduceMul,Nat.reduceLeDiff,Nat.reduceBEq,Tam,decide_true,decide_false,Int.reduceLE,Int.reduceToNat,Int.reduceLT,Int.reduceEq,eq_self,Nat.reduceShiftRight,Nat.reduceAnd,Nat.reduceBneDiff,lK,hn5,if_false];exact rfl);exact fD @ZjV
  refine yK fun q2 oD=>?_;have rf:qj s.subs (j+1) (List.range s.names.length)=s.subs.foldl gn (qj s.subs j (List.range s.names.length)):=rfl;generalize qj s.subs j (List.range s.names.length)=u at hKj rf l0 ⊢;refine fG (ai @l0 @q2) ?_;have hm16:=hs.m16;have F:=@ZBL;refine gL (ι:=Nat) [11,12,67,68] [25] (fun i=>[(67,A.d (.one (.lit (.int .i64 i))))]) (fun i=>[(25,.buf (some (a5,c5)) 3 1 (nR ((s.subs.take i).foldl gn u)))]) (fun i=>i<=s.subs.length) (fun i=>s.subs.length - i) (0) (Taj _) (fun i hi=>?_)
  by_cases zO:i < s.subs.length;rotate_left
  ·exact m121
  have q3:(i:Int) < (s.subs.length:Int):=om;have dZ:=bI (k:=i) om;obtain ⟨p,hp⟩:∃ p,s.subs[i]?=some p:=⟨_,Taa zO⟩;have xh:=sL p (Tac hp);have bm:=Zqm hp u;have oW:=lN.foldl hKj (sL.take i);generalize (s.subs.take i).foldl gn u=v at oW bm ⊢;obtain ⟨g1,b1⟩:=oW.get (i:=p.1.toNat) om;obtain ⟨g2,b2⟩:=oW.get (i:=p.2.toNat) om;have l1:=e6 g1;have l2:=e6 g2;have l3:=fr (l:=v);rw [oW.1] at l3
  have l4:=fX (l:=v);have yo:(if (v.getD p.2.toNat 0:Int) < (v.getD p.1.toNat 0:Int) then (v.getD p.2.toNat 0:Int) else (v.getD p.1.toNat 0:Int))=((min (v.getD p.1.toNat 0) (v.getD p.2.toNat 0):Nat):Int):=by
   split <;> omega
  generalize DX:min (v.getD p.1.toNat 0) (v.getD p.2.toNat 0)=mn at yo bm;have l5:=qJ (l:=v) p.1.toNat mn;have l6:=qJ (l:=v.set p.1.toNat mn) p.2.toNat mn;have l7:=fr (l:=v.set p.1.toNat mn);rw [Taz,oW.1] at l7;have l8:=fX (l:=v.set p.1.toNat mn);obtain ⟨x9,g9⟩:∃ x,(v.set p.1.toNat mn)[p.2.toNat]?=some x:=⟨_,Taa (by rw [Taz,oW.1];omega)⟩;have i1:0<=p.1:=xh.1;have i2:0<=p.2:=xh.2.2.1
  have bm:(s.subs.take (i+1)).foldl gn u=(v.set p.1.toNat mn).set p.2.toNat mn:=by rw [bm];unfold gn;rw [DX]
  have F:=aj16 @q3 @hp @sy @hn5 @l1 @l2 @l3 @l4 @l5 @l6 @l7 @l8 (e6 g9) @i1 @i2 (aj5 (om:p.1.toNat < s.names.length) (om:p.2.toNat < s.names.length) @yo @dZ @bm);refine gG ?_;exact ⟨i+1,zO,gw,gw,om⟩
 ·intro _;refine (have F:=ai g1 k1;bT ?_);exact ⟨hB.slot rfl,⟨(fun _=>(none,0),.sl [],.sl [],.sl []),by simp [iH,gs,fZ],by simp [j4]⟩,PG.slot (by intro j h1 h2 x;rcases j with _ | _ | _ | _ | _ | _ | _ | _ | _ | j <;> first | rfl | exact absurd rfl h1 | exact absurd (by decide) h2)⟩
 ·intro hP;obtain ⟨f,h0,_⟩:=hP 0 (by decide);have g20:gs s' 20=.d (.agg (fZ s)):=h0 (_,_) (by simp [iH]);refine (have F:=g20;gC cA ?_);refine mg ?_;exact m52
 ·intro _;refine (have F:=g4;bT ?_);exact m52
 ·intro hP;obtain ⟨f,h0,_⟩:=hP 2 (by decide);have g22:gs s' 22=.d (.one (.lit (.int .i64 s.names.length))):=h0 (_,_) (by simp [iH]);refine (have F:=aj4 g22 dg @Tbx @Zpx;gP 1 ?_);refine gS 23 fun a cap=>?_;exact m83
 ·intro _;refine (have F:=g4;bT ?_);exact m52
 ·intro hP;obtain ⟨f,h0,_⟩:=hP 4 (by decide);have g24:gs s' 24=.d (.one (.lit (.int .i64 s.names.length))):=h0 (_,_) (by simp [iH]);refine (have F:=aj4 g24 dg @Tbx @Zpx;gP 1 ?_);refine gS 25 fun a cap=>?_;exact m83
 ·intro hP;obtain ⟨f1,h1,_⟩:=hP 1 (by decide);obtain ⟨f3,h3,py⟩:=hP 3 (by decide);obtain ⟨f5,h5,h5'⟩:=hP 5 (by decide);have g21:gs s' 21=.d (.one (.sl (nR (up s)))):=h1 (_,_) (by simp [iH]);have g23:gs s' 23=.d (.one (.lit (.slice (f3.1 23).1 s.names.length (f3.1 23).2))):=h3 (_,_) (by simp [iH]);have g25:gs s' 25=.d (.one (.lit (.slice (f5.1 25).1 s.names.length (f5.1 25).2))):=h5 (_,_) (by simp [iH])
  have k23:=py (23,_) (by simp [j4];rfl);have k25:=h5' (25,_) (by simp [j4];rfl);refine (have F:=aj3 g21 g23 g25;bT ?_);exact ⟨hB.slot rfl,⟨(fun k=>if k=23 then f3.1 23 else f5.1 25,.sl [],.sl [],.sl []),by simp [iH,gs],by simp [j4];exact ⟨k23,k25⟩⟩,PG.slot (by intro j h1 h2 x;rcases j with _ | _ | _ | _ | _ | _ | _ | _ | _ | j <;> first | rfl | exact absurd rfl h1 | exact absurd (by decide) h2)⟩
 ·intro _;refine (have F:=g4;bT ?_);exact ⟨hB.born rfl,⟨(fun _=>(none,0),.sl [],.sl [],.sl []),by simp [iH,gs],by simp [j4,gm]⟩,PG.born (by intro j h1 h2 x;rcases j with _ | _ | _ | _ | _ | _ | _ | _ | _ | j <;> first | rfl | exact absurd rfl h1 | exact absurd (by decide) h2)⟩
 ·intro hP;obtain ⟨f6,h6,h6'⟩:=hP 6 (by decide);obtain ⟨f7,h7,h7'⟩:=hP 7 (by decide);have g26:gs s' 26=.d (.agg [.sl (nR (up s)),.lit (.slice (f6.1 23).1 s.names.length (f6.1 23).2),.lit (.slice (f6.1 25).1 s.names.length (f6.1 25).2)]):=h6 (_,_) (by simp [iH]);have g5:gs s' 5=.ref 5 0:=h7 (_,_) (by simp [iH]);have k5:gm m' 5=some (.var none [f7.2.1,f7.2.2.1,f7.2.2.2]):=h7' (_,_) (by simp [j4])
  have k23:=h6' (23,_) (by simp [j4];rfl);have k25:=h6' (25,_) (by simp [j4];rfl);refine (have F:=aj3 g26 g5 k5;bT ?_);refine ⟨hB.own rfl,⟨f6,by simp [iH,g5],by simp [j4,gm,iL];exact ⟨k23,k25⟩⟩,?_⟩;intro j q1 q2 ⟨x,q⟩;rcases j with _ | _ | _ | _ | _ | _ | _ | _ | _ | j
  all_goals first
   | exact ⟨x,q.own rfl⟩
   | exact absurd rfl q1
   | exact ⟨(fun _=>(none,0),.sl (nR (up s)),.lit (.slice (f6.1 23).1 s.names.length (f6.1 23).2),.lit (.slice (f6.1 25).1 s.names.length (f6.1 25).2)),by simp [iH,g5],by simp [j4,gm]⟩
end
section
variable {g:Sgn}
theorem ZuC {k:Nat} {o:Opr} (h:g.ops[k]?=some o):qh (lP (g.ops.take k))++[(o.name,.bool true)]=qh (lP (g.ops.take (k+1))):=by
 rw [Zk5 h,qh,qh,Tbv];rfl
theorem ZuD {l:List Opr} {i k m:Nat} (h:i=k+m) {s:ByteArray} (hs:iR (lP (l.take k)) s=true):iR (lP (l.take i)) s=true:=by
 subst h;rw [List.take_add,lP,Tbv];unfold iR at hs ⊢;rw [List.any_append];rw [lP] at hs;rw [hs,Bool.true_or]
theorem ZDL (l:List Opr):qh (lP (l.take 0))=[]∧qh (lP [])=[]:=⟨rfl,rfl⟩
theorem Zi6 (hg:jk g):az e0 106 [.agg (bN g)] [.one (.lit (.bool (fA g)))]:=by
 have bC:¬ SgnOk g->fA g=false:=C6;rw [bN];refine gI 9358620764179268287 Tryz.func106 ?_;by_cases hs:SortsOk g.sorts;rotate_left
 ·have cO:=Zm8 hg.1 hs;have hf:=bC fun h=>hs h.sorts;rw [fZ] at cO;refine bU @aw @aw (cO) ?_;exact bP @aw @hf
 have cO:=Zic hg.1 hs;rw [fZ] at cO;refine bp @aw @aw (cO) @ZjV ?_;by_cases zF:g.ops.length<=14;rotate_left
 ·have hf:=bC fun h=>zF h.len;exact fT (ai (lT 14 g.ops.length) @hf)
 refine nJ 4 (lF 14 g.ops.length) ?_;refine gMk fun b=>?_;refine dT @aw @aw ?_;have F:=((ZDL g.ops));refine gL (ι:=Nat) [2,7,28,29,47] [24] (fun i=>[(28,A.d (.one (.lit (.int .i64 i))))]) (fun i=>[(24,eI b (qh (lP (g.ops.take i))))]) (fun i=>i<=g.ops.length∧(∀ (j:Nat) (o:Opr),j < i->g.ops[j]?=some o->iS o.name=true∧iR (lP (g.ops.take j)) o.name=false)∧(∀ o∈g.ops.take i,DeclsOk g.sorts o)) (fun i=>g.ops.length - i) (0) (⟨Taj _,fun j o h=>absurd h om,fun o h=>by simp at h⟩) (fun i hi=>?_)
 obtain ⟨ci,mv,zK⟩:=hi;by_cases au:i < g.ops.length
 ·refine m253 fun q1 o ho xg hw=>?_;have nO:=Zof (lP (g.ops.take i)) o.name;refine m128 fun bS pG=>?_
  have cN:=Zh7 (hg.2 o xg).1;have cD:=Zrd hs o;rw [fU,tH] at cD;refine il 8 (aj3 @q1 @ho @bH) 3 @aw ?_
  cases hh:iR (lP (g.ops.take i)) o.name with
  | true =>
   rw [hh] at nO bS;have hf:=bS fun h=>by cases h.2
   refine (have F:=aw;gLk 24 Dm xA Zl0 (v:=.bool true) (by rw [nO];rfl) ?_);exact bP @aw @hf
  | false =>
  rw [hh] at nO bS;refine (have F:=aw;gLk 24 Dm xA Zl0 (v:=.bool false) (by rw [nO];rfl) ?_);refine fC @aw (cN) ?_
  cases hn:iS o.name with
  | false =>
   have hf:=bS fun h=>by rw [hn] at h;cases h.1
   exact bP @aw @hf
  | true =>
  refine fC @ZjV (cD) ?_
  cases hd:qH g.sorts o with
  | false =>
   exact bP @aw (pG hd)
  | true =>
  have hq:i+1<=g.ops.length∧(∀ (j:Nat) (o:Opr),j < i+1->g.ops[j]?=some o->iS o.name=true∧iR (lP (g.ops.take j)) o.name=false)∧(∀ o∈g.ops.take (i+1),DeclsOk g.sorts o):=⟨au,fun j o' hj bZ=>by
   by_cases e:j=i
   ·subst e;rw [ho] at bZ;injection bZ with bZ
    subst bZ;exact ⟨hn,hh⟩
   ·exact mv j o' om bZ,fun o' bZ=>by
   rw [uz ho] at bZ;rcases Tbh.1 bZ with h | h
   ·exact zK o' h
   ·rw [Tbj.1 h];exact Zmt.1 hd⟩
  have qv:=ZuC ho;refine fR @aw ?_;refine il 10 @aw 3 @aw ?_;refine (have F:=aw;gUp 24 Dm xA (by rw [nO];rfl) ?_);rw [qv];refine fR @aw ?_;have F:=@hw;refine gG ?_;exact ⟨i+1,hq,gw,gw,om⟩
 obtain rfl:i=g.ops.length:=by omega
 have q1:¬ ((g.ops.length:Int) < (g.ops.length:Int)):=om;rw [Tap] at zK;have vi:∀ (i:Nat) (o:Opr),g.ops[i]?=some o->iS o.name=true∧iR (lP (g.ops.take i)) o.name=false:=fun i o ho=>mv i o (Tad.1 ho).1 ho;refine fG @q1 ?_;have F:=@aw;refine gL (ι:=Nat) [2,9,55,56,63] [] (fun k=>[(55,A.d (.one (.lit (.int .i64 k))))]) (fun k=>[]) (fun k=>k<=g.ops.length∧∀ o∈g.ops.take k,AxOk g o) (fun k=>g.ops.length - k) (0) (⟨Taj _,fun o h=>by simp at h⟩) (fun k hk=>?_)
 obtain ⟨eX,kW⟩:=hk;by_cases lA:k < g.ops.length;rotate_left
 ·exact m125
 have q2:(k:Int) < (g.ops.length:Int):=om;obtain ⟨o,ho⟩:∃ o,g.ops[k]?=some o:=⟨_,Taa lA⟩;have xg:=Tac ho;have hw:=bI (k:=k) om;have cA:=Zpy hs zK xg zF;rw [fU,tH,bN] at cA;refine bU (aj3 @q2 @ho @bH) @ZjV (cA) ?_
 cases ha:iX g o with
 | false =>
  exact m211
 | true =>
 have hq:k+1<=g.ops.length∧∀ o∈g.ops.take (k+1),AxOk g o:=⟨lA,fun o' bZ=>by
  rw [uz ho] at bZ;rcases Tbh.1 bZ with h | h
  ·exact kW o' h
  ·rw [Tbj.1 h];exact ZsH.1 ha⟩
 refine fR @aw ?_;have F:=@hw;refine gG ?_;exact ⟨k+1,hq,gw,gw,om⟩
theorem Zg1 (hg:jk g):az e0 120 [.agg (bN g)] [.one (.lit (.bool (fA g)))]:=by
 have bC:¬ SgnOk g->fA g=false:=C6;have cS:=Zrc hg.1;rw [fZ] at cS;rw [bN];refine gI 599807422667317870655 Tryz.func120 ?_;refine bU @aw @aw (cS) ?_
 cases kf:ob g.sorts with
 | false =>
  have hf:=bC fun h=>by rw [Zgr h.sorts] at kf;cases kf
  exact bP @aw @hf
 | true =>
 have hs:=Zuw.1 kf;by_cases zF:g.ops.length<=14;rotate_left
 ·have hf:=bC fun h=>zF h.len;exact bP (lT 14 g.ops.length) @hf
 refine dT (lF 14 g.ops.length) @aw ?_;have F:=@aw;refine gL (ι:=Nat) [2,3,4,20,40,43,58] [] (fun i=>[(3,A.d (.one (.lit (.int .i64 i))))]) (fun i=>[]) (fun i=>i<=g.ops.length∧(∀ (j:Nat) (o:Opr),j < i->g.ops[j]?=some o->iS o.name=true∧iR (lP (g.ops.take j)) o.name=false)∧(∀ o∈g.ops.take i,DeclsOk g.sorts o)) (fun i=>g.ops.length - i) (0) (⟨Taj _,fun j o h=>absurd h om,fun o h=>by simp at h⟩) (fun i hi=>?_)
 obtain ⟨ci,mv,zK⟩:=hi;by_cases au:i < g.ops.length
 ·refine m253 fun q1 o ho xg hw=>?_;refine m128 fun bS pG=>?_
  have cN:=Zh8 (hg.2 o xg).1;have cD:=ZuB (g:=g) hs o;rw [fU,bN] at cD;refine bU @q1 (ai @ho @bH) (cN) ?_
  cases hn:iS o.name with
  | false =>
   have hf:=bS fun h=>by rw [hn] at h;cases h.1
   exact bP @aw @hf
  | true =>
  refine fC (ai @ho @bH) (cD) ?_
  cases hd:qH g.sorts o with
  | false =>
   exact bP @aw (pG hd)
  | true =>
  refine dT @aw @aw ?_;have F:=@aw;refine gL (ι:=Nat) [2,4,43,58] [] (fun k=>[(4,A.d (.one (.lit (.int .i64 k))))]) (fun k=>[]) (fun k=>k<=i∧iR (lP (g.ops.take k)) o.name=false) (fun k=>i - k) (0) (⟨Taj _,rfl⟩) (fun k hk=>?_);obtain ⟨eX,zS⟩:=hk;by_cases lA:k < i
  ·have q2:(k:Int) < (i:Int):=om;obtain ⟨p,hp⟩:∃ o,g.ops[k]?=some o:=⟨_,Taa om⟩;have hw2:=bI (k:=k) om;have qv:=Zuy (lP (g.ops.take k)) p.name o.name;rw [zS,Bool.false_or,ZwR,<- Zk5 hp] at qv
   cases hb:(p.name.toList==o.name.toList) with
   | true =>
    rw [hb] at qv;have hbp:(p.name.toList==o.name.toList)=true:=hb;have hf:=bS fun h=>by
     obtain ⟨m,hm⟩:∃ m,i=k+1+m:=⟨i - (k+1),om⟩;have h2:=h.2;rw [ZuD hm qv] at h2
     cases h2
    exact fT (aj6 @q2 @ho @hp @bH @hb @hf)
   | false =>
    rw [hb] at qv;have F:=aj6 @q2 @ho @hp @bH @hb @hw2;refine gG ?_;exact ⟨k+1,⟨lA,qv⟩,gw,gw,om⟩
  obtain rfl:k=i:=by omega
  have hq:k+1<=g.ops.length∧(∀ (j:Nat) (o:Opr),j < k+1->g.ops[j]?=some o->iS o.name=true∧iR (lP (g.ops.take j)) o.name=false)∧(∀ o∈g.ops.take (k+1),DeclsOk g.sorts o):=⟨au,fun j o' hj bZ=>by
   by_cases e:j=k
   ·subst e;rw [ho] at bZ;injection bZ with bZ
    subst bZ;exact ⟨hn,zS⟩
   ·exact mv j o' om bZ,fun o' bZ=>by
   rw [uz ho] at bZ;rcases Tbh.1 bZ with h | h
   ·exact zK o' h
   ·rw [Tbj.1 h];exact Zmt.1 hd⟩
  have F:=ai (lF k k) @hw;refine gG ?_;exact ⟨k+1,hq,gw,gw,om⟩
 obtain rfl:i=g.ops.length:=by omega
 have q1:¬ ((g.ops.length:Int) < (g.ops.length:Int)):=om;rw [Tap] at zK;have vi:∀ (i:Nat) (o:Opr),g.ops[i]?=some o->iS o.name=true∧iR (lP (g.ops.take i)) o.name=false:=fun i o ho=>mv i o (Tad.1 ho).1 ho;refine fG @q1 ?_;have F:=@aw;refine gL (ι:=Nat) [2,5,63,69] [] (fun k=>[(5,A.d (.one (.lit (.int .i64 k))))]) (fun k=>[]) (fun k=>k<=g.ops.length∧∀ o∈g.ops.take k,AxOk g o) (fun k=>g.ops.length - k) (0) (⟨Taj _,fun o h=>by simp at h⟩) (fun k hk=>?_)
 obtain ⟨eX,kW⟩:=hk;by_cases lA:k < g.ops.length;rotate_left
 ·exact m125
 have q2:(k:Int) < (g.ops.length:Int):=om;obtain ⟨o,ho⟩:∃ o,g.ops[k]?=some o:=⟨_,Taa lA⟩;have xg:=Tac ho;have hw:=bI (k:=k) om;have cA:=ZsO hs zK ho zF;rw [bN] at cA;refine bU @q2 @aw (cA) ?_
 cases ha:iX g o with
 | false =>
  exact m211
 | true =>
 have hq:k+1<=g.ops.length∧∀ o∈g.ops.take (k+1),AxOk g o:=⟨lA,fun o' bZ=>by
  rw [uz ho] at bZ;rcases Tbh.1 bZ with h | h
  ·exact kW o' h
  ·rw [Tbj.1 h];exact ZsH.1 ha⟩
 refine fR @aw ?_;have F:=@hw;refine gG ?_;exact ⟨k+1,hq,gw,gw,om⟩
end
theorem m216 {p:Prop} (h:p:=by
 exact fT (aj11 @gH @h0 @ho @bH @ha @hd @iW @hk @k0 @cj @gu)):p:=h
theorem m95 {X Y:Prop} (b:Y) (h:Bx Y->X:=by
 intro B0
 have kW:=hg.axs o (Tac ho);have eD:=kW.lo;have lV:=kW.hi;have ix:=hg.len;have hw:IntKind.i64.wrap (o.unit - 1)=o.unit - 1:=dI rfl om om;exact B0.o hw):X:=h ⟨b⟩
theorem xL (s:ByteArray):(s.toList==ByteArray.toList { data:=#[] })=decide (s=ByteArray.empty):=by
 rw [Bool.eq_iff_iff,beq_iff_eq,decide_eq_true_iff,ByteArray.toList_eq,ByteArray.toList_eq];constructor
 ·intro h
  cases s with
  | mk d =>
   have:d=#[]:=by apply Array.toList_inj.1;exact h
   rw [this];rfl
 ·rintro rfl;rfl
def dJ (g:Sgn) (mc:C):List C:=[.sl ((kT (up g.sorts)).map d7),.sl ((kT (pw g.sorts)).map d7),.sl ((kT (kinds g.sorts)).map d7),.sl (g.sorts.names.map kj),.sl (g.sorts.subs.map kU),.sl (g.ops.map fU),mc]
theorem gH:∀ (g:Sgn) (mc:C),dJ g mc=[.sl ((kT (up g.sorts)).map d7),.sl ((kT (pw g.sorts)).map d7),.sl ((kT (kinds g.sorts)).map d7),.sl (g.sorts.names.map kj),.sl (g.sorts.subs.map kU),.sl (g.ops.map fU),mc]:=fun _ _=>rfl
theorem ZsU {s:Srt} (h:SortsOk s):(up s).length=s.names.length:=(wO (SortsOk.subsIn h.subs)).1
theorem AE {s:Srt} (h:SortsOk s) {k:Int} (h0:0<=k) (h1:k < s.names.length):(kT (kinds s))[k.toNat]?=some ((kd s k:Nat):Int):=by
 have hk:=ZjT (SortsOk.subsIn h.subs);have hl:k.toNat < (kinds s).length:=by rw [hk.1];omega
 unfold kT kd;rw [Tba,Taa hl];simp [List.getD,Taa hl]
def oh (g:Sgn) (t:Tm):Prop:=t.op=-1∧iS t.name=true∧0<=t.sort∧t.sort < g.sorts.names.length∧t.args=[]
open Classical in
noncomputable def uK (g:Sgn) (t:Tm):Bool:=decide (oh g t)
structure AppOk (g:Sgn) (t:Tm) (o:Opr) (d:Dcl):Prop where
 lo:0<=t.op
 at':g.ops[t.op.toNat]?=some o
 fst:o.decls[0]?=some d
 nm:t.name=ByteArray.empty
 so:t.sort=0
 asc:o.assoc=true->2<=t.args.length∧t.args.length<=7
 nas:o.assoc=false->t.args.length=d.args.length
def qg (g:Sgn) (t:Tm):Prop:=oh g t∨∃ o d,AppOk g t o d
def ZxV (g:Sgn) (op:Int):Int:=((g.ops[op.toNat]?.bind (·.decls[0]?)).map (·.res)).getD 0
def fz (g:Sgn) (t:Tm):Int:=if t.op=-1 then kd g.sorts t.sort else kd g.sorts (ZxV g t.op)
def fE (o:Opr) (i:Nat):Nat:=if o.assoc=true then 0 else i
theorem Zl2:∀ (o:Opr) (i:Nat),fE o i=if o.assoc=true then 0 else i:=fun _ _=>rfl
structure ArgOk (g:Sgn) (op:Int) (o:Opr) (d:Dcl) (args:List Tm) (i:Nat) (a:Tm):Prop where
 kind:∀ k,d.args[fE o i]?=some k->fz g a=kd g.sorts k
 nest:o.assoc=true->a.op≠op
 unit:o.unit≠0->a.op≠o.unit - 1
 ord:o.comm=true->∀ (j:Nat) p,i=j+1->args[j]?=some p->aH p a<=0
def Zl3 (g:Sgn) (op:Int) (args:List Tm):Prop:=∀ o d,g.ops[op.toNat]?=some o->o.decls[0]?=some d->∀ (i:Nat) a,args[i]?=some a->ArgOk g op o d args i a
mutual
def dt (g:Sgn):Tm->Prop
 | .mk op nm so args=>qg g (.mk op nm so args)∧rL g args∧(op=-1∨Zl3 g op args)
def rL (g:Sgn):List Tm->Prop
 | []=>True
 | t::ts=>dt g t∧rL g ts
end
theorem Zi7 {g:Sgn} {ts:List Tm}:rL g ts ↔ ∀ a∈ts,dt g a:=by
 induction ts with
 | nil=>simp [rL]
 | cons t ts ih=>simp [rL,ih]
theorem nv {g:Sgn} {t:Tm}:dt g t ↔ qg g t∧(∀ a∈t.args,dt g a)∧(t.op=-1∨Zl3 g t.op t.args):=by
 cases t
 simp only [dt,Zi7,Tm.args,Tm.op]
theorem dt.node {g:Sgn} {t:Tm} (h:dt g t):qg g t:=(nv.1 h).1
open Classical in
noncomputable def lQ (g:Sgn) (t:Tm):Bool:=decide (dt g t)
theorem Zg2 {g:Sgn} {t:Tm} (h:dt g t):lQ g t=true:=by simp [lQ,h]
theorem Zk8 {g:Sgn} {t:Tm} (h:¬ dt g t):lQ g t=false:=by simp [lQ,h]
theorem ZhI {g:Sgn} {t:Tm}:lQ g t=true ↔ dt g t:=by simp [lQ]
theorem SgnOk.first {g:Sgn} (h:SgnOk g) {i:Nat} {o:Opr} (ho:g.ops[i]?=some o):∃ d,o.decls[0]?=some d∧(0:Int)<=d.res∧d.res < (g.sorts.names.length:Int)∧∀ k:Int,k∈d.args->0<=k∧k < (g.sorts.names.length:Int):=by
 have hm:=Tac ho;obtain ⟨d,hd,hD⟩:=(h.decls o hm).first;exact ⟨d,hd,hD.res.1,hD.res.2,hD.args⟩
theorem ZjW {g:Sgn} {op:Int} {o:Opr} {d:Dcl} (ho:g.ops[op.toNat]?=some o) (hd:o.decls[0]?=some d):ZxV g op=d.res:=by simp [ZxV,ho,hd]
theorem AppOk.op {g:Sgn} {t:Tm} {o:Opr} {d:Dcl} (h:AppOk g t o d):t.op≠-1:=by have:=h.lo;omega
section
variable {g:Sgn} {mc:C}
theorem ZGk (hg:SgnOk g) (k:Int):az e0 242 [.agg [.sl ((kT (up g.sorts)).map d7),.sl ((kT (pw g.sorts)).map d7),.sl ((kT (kinds g.sorts)).map d7)],.one (.lit (.int .i64 k))] [.one (.lit (.bool (decide (0<=k∧k < g.sorts.names.length))))]:=by
 have hl:=ZsU hg.sorts;refine gI 23 Tryz.func242 ?_;by_cases h0:0<=k
 ·rw [(by simp [h0]:decide (0<=k∧k < (g.sorts.names.length:Int))=decide (k < (g.sorts.names.length:Int)))];exact fT (aj3 @h0 @Zqf @hl)
 ·rw [(by simp [h0]:decide (0<=k∧k < (g.sorts.names.length:Int))=false)];exact fT @h0
theorem ZjX (hg:SgnOk g) {t:Tm} (ht:qg g t):az e0 208 [.one (.ptr (dJ g mc)),.agg (an t)] [.one (.lit (.int .i64 (fz g t)))]:=by
 refine gI 155 Tryz.func208 ?_;rcases ht with ⟨h1,h2,h3,h4,h5⟩ | ⟨o,d,h⟩
 ·exact fT (aj8 @ae @h1 (om:(-1:Int) < 0) @gH @h3 (AE hg.sorts h3 h4) @gu (by simp [fz,h1]:fz g t=kd g.sorts t.sort))
 ·have hn:¬ (t.op < 0):=by have:=h.lo;omega
  obtain ⟨d',dn,mw,ke,_⟩:=hg.first h.at';rw [h.fst] at dn;injection dn with dn
  subst dn;have eD:=h.lo;have fW:=h.at';have vf:=h.fst;exact fT (aj12 @ae @hn @gH @eD @fW @bH @vf @iW @mw (AE hg.sorts mw ke) @gu (by simp [fz,h.op,ZjW h.at' h.fst]:fz g t=kd g.sorts d.res))
theorem Zmw (hg:SgnOk g) {op:Int} {i:Nat} {o:Opr} {d:Dcl} {k:Int} (h0:0<=op) (ho:g.ops[op.toNat]?=some o) (hd:o.decls[0]?=some d) (hk:d.args[fE o i]?=some k):az e0 209 [.one (.ptr (dJ g mc)),.one (.lit (.int .i64 op)),.one (.lit (.int .i64 i))] [.one (.lit (.int .i64 (kd g.sorts k)))]:=by
 obtain ⟨d',dn,_,_,jS⟩:=hg.first ho;rw [hd] at dn;injection dn with dn
 subst dn;obtain ⟨k0,k1⟩:=jS k (Tac hk);have cj:=AE hg.sorts k0 k1;refine gI 131271 Tryz.func209 ?_;unfold fE at hk
 cases ha:o.assoc with
 | true =>
  rw [ha] at hk;simp only [↓reduceIte] at hk;exact m216
 | false =>
  rw [ha] at hk;simp only [Tam,↓reduceIte] at hk;exact m216
theorem Zom (hg:SgnOk g) {op:Int} {o:Opr} (h0:0<=op) (ho:g.ops[op.toNat]?=some o) (t:Tm):az e0 210 [.one (.ptr (dJ g mc)),.one (.lit (.int .i64 op)),.agg (an t)] [.one (.lit (.bool (decide (o.unit≠0∧t.op=o.unit - 1))))]:=by
 refine m95 fun hw=>?_;refine gI 103 Tryz.func210 ?_;by_cases hu:o.unit=0
 ·rw [(by simp [hu]:decide (o.unit≠0∧t.op=o.unit - 1)=false)];exact fT (aj6 @gH @ae @h0 @ho @bH @hu)
 ·rw [(by simp [hu]:decide (o.unit≠0∧t.op=o.unit - 1)=decide (t.op=o.unit - 1))];exact fT (aj7 @gH @ae @h0 @ho @bH @hu @hw)
theorem Zjp (hg:SgnOk g) {t:Tm} (hs:t.name.size<=maxLen):az e0 159 [.one (.ptr (dJ g mc)),.agg (an t)] [.one (.lit (.bool (uK g t)))]:=by
 have bC:¬ oh g t->uK g t=false:=fun h=>by simp [uK,h]
 refine gI 27 Tryz.func159 ?_;refine fG @ae ?_;by_cases h1:t.op=-1;rotate_left
 ·have hf:=bC fun h=>h1 h.1;exact fT (aj3 @ae @h1 @hf)
 refine nI (ai @ae @h1) (Zh7 hs) ?_;by_cases h2:iS t.name=true;rotate_left
 ·have hf:=bC fun h=>h2 h.2.1;exact bP (ai @ae (by simpa using h2:iS t.name=false)) (ai @ae @hf)
 refine fC (aj3 @ae @h2 @gH) (ZGk hg t.sort) ?_;by_cases h3:0<=t.sort∧t.sort < g.sorts.names.length;rotate_left
 ·have hf:=bC fun h=>h3 ⟨h.2.2.1,h.2.2.2.1⟩;exact bP (ai @ae (by simp only [decide_eq_false_iff_not];exact h3:decide (0<=t.sort∧t.sort < (g.sorts.names.length:Int))=false)) (ai @ae @hf)
 have py:decide (0<=t.sort∧t.sort < (g.sorts.names.length:Int))=true:=by simp only [decide_eq_true_eq];exact h3
 by_cases h4:t.args=[]
 ·exact bP (aj3 @ae @py @h4) (ai @ae (by simp only [uK,decide_eq_true_eq];exact ⟨h1,h2,h3.1,h3.2,h4⟩:uK g t=true))
 ·have hf:=bC fun h=>h4 h.2.2.2.2;have h4':¬ ((t.args.length:Int)=0):=by
   intro h;apply h4;apply Tao;omega
  exact bP (aj3 @ae @py @h4') (ai @ae @hf)
end
theorem yJ {X Y:Prop} (b:Y) (h:Bx Y->X:=by
 intro B0
 obtain ⟨k1,k2,k3,k4⟩:=Zft.1 aj;have bO:=oK t;have ca:=uw t.args;exact B0.o k1 k2 k3 k4 bO ca):X:=h ⟨b⟩
theorem m155 {p:Prop} (h:p:=by
 have e1:=h.at';rw [ho] at e1;injection e1 with e1;subst e1;have e2:=h.fst;rw [hd] at e2;injection e2 with e2;subst e2;exact h):p:=h
theorem m153 {p:Prop} (h:p:=by
 have hf:=bC fun h=>xa (Zg2 ((nv.1 h).2.1 a hm));exact bP (ai @ae (by simpa using xa:lQ g a=false)) @hf):p:=h
theorem Ce {X Y:Prop} (b:Y) (h:Bx Y->X:=by
 intro B0
 have gf:(i:Int) < (t.args.length:Int):=om;obtain ⟨a,ha⟩:∃ a,t.args[i]?=some a:=⟨_,Taa hl⟩;have hm:=Tac ha;exact B0.o gf a ha hm):X:=h ⟨b⟩
theorem Zft {t:Tm}:aK t ↔ eP t.op∧t.name.size<=maxLen∧eP t.sort∧b9 t.args:=by cases t;simp only [aK,Tm.op,Tm.name,Tm.sort,Tm.args]
theorem oK (t:Tm):am t=1+av t.args:=by cases t;simp only [am,Tm.args]
theorem ZhJ (t:Tm):aG t=1+aB t.args:=by cases t;simp only [aG,Tm.args]
theorem ZxW {g:Sgn} {t:Tm} (h:t.op=-1):lQ g t=uK g t:=by
 unfold lQ uK;congr 1;rw [nv];apply propext;constructor
 ·rintro ⟨h1 | ⟨o,d,h1⟩,_⟩
  ·exact h1
  ·have:=h1.lo;omega
 ·intro h1;exact ⟨.inl h1,fun a ha=>(by rw [h1.2.2.2.2] at ha;cases ha),.inl h⟩
theorem qg.app {g:Sgn} {t:Tm} (h:qg g t) (co:t.op≠-1):∃ o d,AppOk g t o d:=by
 rcases h with h | h
 ·exact absurd h.1 co
 ·exact h
theorem ZiL {g:Sgn} (hg:SgnOk g) {i:Nat} {o:Opr} {d:Dcl} {n j:Nat} (ho:g.ops[i]?=some o) (hd:o.decls[0]?=some d) (nas:o.assoc=false->n=d.args.length) (hj:j < n):∃ k,d.args[fE o j]?=some k:=by
 unfold fE
 cases ha:o.assoc with
 | true =>
  have h2:=((hg.axs o (Tac ho)).two (.inl ha) d hd).1;exact ⟨_,Taa (by simp only [↓reduceIte];omega)⟩
 | false=>exact ⟨_,Taa (by simp only [Tam,↓reduceIte];have:=nas ha;omega)⟩
section
variable {g:Sgn} {mc:C}
theorem Zm9 (hg:SgnOk g):∀ (n:Nat) (t:Tm),am t < n->aK t->am t<=fc->az e0 131 [.one (.ptr (dJ g mc)),.agg (an t)] [.one (.lit (.bool (lQ g t)))]:=by
 intro n
 induction n with
 | zero=>intro t h;omega
 | succ n ih =>
  intro t hn aj hb;have bC:¬ dt g t->lQ g t=false:=Zk8;refine yJ fun k1 k2 k3 k4 bO ca=>?_;unfold fc at hb;refine gI 43556142965880125627826793391928073259515 Tryz.func131 ?_;by_cases h1:t.op=-1
  ·rw [(ZxW (g:=g) h1)];refine bU (ai @ae @h1) (ai @ae @h1) (Zjp hg k2) ?_;exact bP @ae @ae
  by_cases h2:t.op < 0
  ·have hf:=bC fun h=>by
    obtain ⟨o,d,h⟩:=h.node.app h1;have:=h.lo;omega
   exact fT (aj4 @ae @h1 @h2 @hf)
  by_cases h3:(g.ops.length:Int)<=t.op
  ·have hf:=bC fun h=>by
    obtain ⟨o,d,h⟩:=h.node.app h1;have:=(Tad.1 h.at').1;omega
   exact fT (aj6 @ae @h1 @h2 @h3 @gH @hf)
  by_cases h4:t.name=ByteArray.empty;rotate_left
  ·have hf:=bC fun h=>by
    obtain ⟨o,d,h⟩:=h.node.app h1;exact h4 h.nm
   exact fT (aj8 @ae @h1 @h2 @h3 @gH @xL @h4 @hf)
  by_cases h5:t.sort=0;rotate_left
  ·have hf:=bC fun h=>by
    obtain ⟨o,d,h⟩:=h.node.app h1;exact h5 h.so
   exact fT (aj9 @ae @h1 @h2 @h3 @gH @xL @h4 @h5 @hf)
  have h0:0<=t.op:=om;obtain ⟨o,ho⟩:∃ o,g.ops[t.op.toNat]?=some o:=⟨_,Taa om⟩;obtain ⟨d,hd,mw,ke,cd⟩:=hg.first ho;have t6:dt g t->AppOk g t o d:=fun h=>by
   obtain ⟨o',d',h⟩:=h.node.app h1;exact m155
  by_cases hW:(o.assoc=true->2<=t.args.length∧t.args.length<=7)∧(o.assoc=false->t.args.length=d.args.length);rotate_left
  ·have hf:=bC fun h=>hW ⟨(t6 h).asc,(t6 h).nas⟩
   cases ha:o.assoc with
   | true =>
    by_cases c1:t.args.length < 2
    ·exact fT (aj14 @ae @h1 @h2 @h3 @gH @xL @h4 @h5 @h0 @ho @bH @ha (om:(t.args.length:Int) < 2) @hf)
    ·have c2:(7:Int) < (t.args.length:Int):=by
      by_cases c2:t.args.length<=7
      ·exact absurd ⟨fun _=>⟨om,c2⟩,fun h=>by rw [ha] at h;cases h⟩ hW
      ·omega
     exact fT (aj15 @ae @h1 @h2 @h3 @gH @xL @h4 @h5 @h0 @ho @bH @ha (om:¬ ((t.args.length:Int) < 2)) @c2 @hf)
   | false =>
    have c3:¬ ((t.args.length:Int)=(d.args.length:Int)):=fun c=>hW ⟨fun h=>(by rw [ha] at h;cases h),fun _=>om⟩;exact fT (aj16 @ae @h1 @h2 @h3 @gH @xL @h4 @h5 @h0 @ho @bH @ha @hd @iW @c3 @hf)
  have hA:AppOk g t o d:=⟨h0,ho,hd,h4,h5,hW.1,hW.2⟩;refine fG (aj11 @ae @h1 @h2 @h3 @gH @xL @h4 @h5 @h0 @ho @bH) ?_;refine gM (ι:=Unit) [75] [] (fun u=>[(75,A.d (.one (.lit (.bool false))))]) (fun u=>[]) (fun u=>True) ?_ (fun u hu=>Exists.intro _ (ai (Wk.refl _) ?_))
  ·cases ha:o.assoc with
   | true =>
    have c:=hW.1 ha;have F:=aj5 @ae @bH @ha (om:¬ ((t.args.length:Int) < 2)) (om:¬ ((7:Int) < (t.args.length:Int)));exact rA
   | false =>
    have c3:((t.args.length:Int)=(d.args.length:Int)):=by have:=hW.2 ha;omega
    have F:=aj6 @ae @bH @ha @hd @iW @c3;exact rA
  refine fG @ae ?_;have F:=@aw;refine gL (ι:=Nat) [4,7,8,79,80,135] [] (fun i=>[(79,A.d (.one (.lit (.int .i64 i))))]) (fun i=>[]) (fun i=>i<=t.args.length∧∀ (j:Nat) a,j < i->t.args[j]?=some a->dt g a∧ArgOk g t.op o d t.args j a) (fun i=>t.args.length - i) (0) (⟨om,fun j a h=>absurd h om⟩) (fun i hi=>?_);obtain ⟨ci,aD⟩:=hi;by_cases hl:i < t.args.length;rotate_left
  ·have hT:=Zg2 (nv.2 ⟨.inr ⟨o,d,hA⟩,fun a ha=>by
     obtain ⟨j,hj⟩:=Tbk ha;exact (aD j a (by have:=(Tad.1 hj).1;omega) hj).1,.inr fun o' d' bZ dn j a hj=>by
     rw [ho] at bZ;injection bZ with bZ
     subst bZ;rw [hd] at dn;injection dn with dn
     subst dn;exact (aD j a (by have:=(Tad.1 hj).1;omega) hj).2⟩)
   exact fT (ai (om:¬ ((i:Int) < (t.args.length:Int))) @hT)
  refine Ce fun gf a ha hm=>?_;have hsa:=qd hm;have dY:=bI (k:=i) om;have oA:¬ ArgOk g t.op o d t.args i a->lQ g t=false:=fun h=>bC fun hF=>by
   obtain ⟨_,_,h3⟩:=nv.1 hF;rcases h3 with h3 | h3
   ·exact h1 h3
   ·exact h (h3 o d ho hd i a ha)
  obtain ⟨k,hk⟩:=ZiL hg ho hd hA.nas hl;refine bU (aj3 @gf @ae @ha) @ae (ih a om (k4.mem hm) (by unfold fc;omega)) ?_;by_cases xa:lQ g a=true;rotate_left
  ·exact m153
  have hFa:=ZhI.1 xa;refine fC (ai @ae @xa) (ZjX hg hFa.node) ?_;refine fC @ae (Zmw hg h0 ho hd hk) ?_;by_cases cj:fz g a=((kd g.sorts k:Nat):Int);rotate_left
  ·have hf:=oA fun h=>cj (h.kind k hk);exact bP (ai @ae @cj) @hf
  by_cases hN:o.assoc=true∧a.op=t.op
  ·have hf:=oA fun h=>h.nest hN.1 hN.2;obtain ⟨zH,Bf⟩:=hN;exact bP (aj5 @ae @cj @bH @zH @Bf) @hf
  have bq:o.assoc=true->¬ a.op=t.op:=fun h1 h2=>hN ⟨h1,h2⟩;have cU:=Zom (mc:=mc) hg h0 ho a;generalize hU:decide (o.unit≠0∧a.op=o.unit - 1)=U at cU;have dh:(U=false)->(o.comm=true->∀ (j:Nat) p,i=j+1->t.args[j]?=some p->aH p a<=0)->i+1<=t.args.length∧∀ (j:Nat) a,j < i+1->t.args[j]?=some a->dt g a∧ArgOk g t.op o d t.args j a:=fun hU' hc=>⟨om,fun j a' hj de=>by
   by_cases e:j=i
   ·subst e;rw [ha] at de;injection de with de
    subst de;refine ⟨hFa,fun k' eV=>?_,fun h1 h2=>hN ⟨h1,h2⟩,fun h1 h2=>?_,hc⟩
    ·rw [hk] at eV;injection eV with eV
     subst eV;exact cj
    ·rw [hU'] at hU;simp only [decide_eq_false_iff_not] at hU;exact hU ⟨h1,h2⟩
   ·exact aD j a' om de⟩
  rcases Bool.eq_false_or_eq_true o.assoc with dL | dL
  all_goals (
   refine fC (aj5 @ae @cj @bH @dL @bq) (cU) ?_;rcases Bool.eq_false_or_eq_true U with hu | hu
   ·have hf:=oA fun h=>by
     rw [hu] at hU;simp only [decide_eq_true_eq] at hU;exact h.unit hU.1 hU.2
    refine fR (ai @ae @hu) ?_;exact fT @hf
   rcases Bool.eq_false_or_eq_true o.comm with gQ | gQ
   rotate_left
   ·have hq:=dh hu (fun h=>by rw [gQ] at h;cases h);refine fR (aj4 @ae @hu @bH @gQ) ?_;have F:=aj5 @dY @ae @bH @gQ @dL;refine gG ?_;exact ⟨i+1,hq,gw,gw,om⟩
   rcases Nat.eq_zero_or_pos i with nP | nP
   ·have hq:=dh hu (fun _ j p h=>om);have hi0':¬ ((0:Int) < (i:Int)):=om;refine fR (aj5 @ae @hu @bH @gQ @hi0') ?_;have F:=aj5 @dY @ae @bH @gQ @dL;refine gG ?_;exact ⟨i+1,hq,gw,gw,om⟩
   obtain ⟨j,rfl⟩:∃ j,i=j+1:=⟨i - 1,om⟩;obtain ⟨p,hp⟩:∃ p,t.args[j]?=some p:=⟨_,Taa om⟩;have cC:=Zms (k4.mem (Tac hp)) (k4.mem hm);have hgt0:(0:Int) < ((j+1:Nat):Int):=om;have et:IntKind.i64.wrap (((j+1:Nat):Int) - 1)=(j:Int):=dI om om om;refine fC (aj7 @ae @hu @bH @gQ @hgt0 @et @hp) (cC) ?_;by_cases hc:0 < aH p a
   ·have hf:=oA fun h=>by have:=h.ord gQ j p rfl hp;omega
    refine fR (ai @ae @hc) ?_;exact fT @hf
   ·have hq:=dh hu (fun _ j' p' h ek=>by
     have:j'=j:=om;subst this;rw [hp] at ek;injection ek with ek
     subst ek;omega)
    refine fR (ai @ae @hc) ?_
    (have F:=aj5 @dY @ae @bH @gQ @dL;refine gG ?_;exact ⟨j+1+1,hq,gw,gw,om⟩))
theorem ZsV (hg:SgnOk g) {t:Tm} (aj:aK t) (hb:am t<=fc):az e0 131 [.one (.ptr (dJ g mc)),.agg (an t)] [.one (.lit (.bool (lQ g t)))]:=Zm9 hg _ t (Tan _) aj hb
structure TermOk (g:Sgn) (t:Tm):Prop where
 size:am t<=60
 depth:aG t<=20
 form:dt g t
open Classical in
noncomputable def d4 (g:Sgn) (t:Tm):Bool:=decide (TermOk g t)
theorem wf {g:Sgn} {t:Tm} (h:TermOk g t):d4 g t=true:=by simp [d4,h]
theorem y7 {g:Sgn} {t:Tm} (h:¬ TermOk g t):d4 g t=false:=by simp [d4,h]
theorem mP {g:Sgn} {t:Tm}:d4 g t=true ↔ TermOk g t:=by simp [d4]
theorem Zg3 {g:Sgn} {t:Tm} (h1:am t<=60) (h2:aG t<=20):lQ g t=d4 g t:=by
 unfold lQ d4;congr 1;exact propext ⟨fun h=>⟨h1,h2,h⟩,fun h=>h.form⟩
theorem C7 (hg:SgnOk g) {t:Tm} (aj:aK t) (hb:am t<=fc):az e0 65 [.one (.ptr (dJ g mc)),.agg (an t)] [.one (.lit (.bool (d4 g t)))]:=by
 have bC:¬ TermOk g t->d4 g t=false:=y7;refine gI 27 Tryz.func65 ?_;refine bU @ae @ae (Zk7 hb) ?_;by_cases h1:am t<=60;rotate_left
 ·have hf:=bC fun h=>h1 h.size;exact bP (ai @ae (om:¬ ((am t:Int)<=60))) @hf
 refine fC (ai @ae (om:((am t:Int)<=60))) (Zky hb) ?_;by_cases h2:aG t<=20;rotate_left
 ·have hf:=bC fun h=>h2 h.depth;exact bP (ai @ae (om:¬ ((aG t:Int)<=20))) @hf
 refine fC (ai @ae (om:((aG t:Int)<=20))) (ZsV hg aj hb) ?_;exact bP @ae (Zg3 (g:=g) h1 h2)
end
mutual
theorem wv:∀ {a b:Tm},aH a b=0->a=b
 | .mk o n s x,.mk o' n' s' x',h=>by
  simp only [aH,fK] at h;split at h
  ·rename_i h1;split at h
   ·rename_i h2;split at h
    ·rename_i h3;split at h
     ·rename_i h4;rw [yY.1 h1,ZgU.1 h2,yY.1 h3,Zmx h4]
     ·contradiction
    ·contradiction
   ·contradiction
  ·contradiction
theorem Zmx:∀ {a b:List Tm},eK a b=0->a=b
 | [],[],_=>rfl
 | [],_::_,h=>by simp [eK] at h
 | _::_,[],h=>by simp [eK] at h
 | x::xs,y::ys,h=>by
  simp only [eK,fK] at h;split at h
  ·rename_i h1;split at h
   ·rename_i h2;rw [wv h1,Zmx h2]
   ·contradiction
  ·contradiction
end
mutual
theorem ze:∀ (a:Tm),aH a a=0
 | .mk o n s x=>by simp only [aH,fK,yY.2 (rfl:o=o),yY.2 (rfl:s=s),ZgU.2 (rfl:n=n),Zmy x,if_true]
theorem Zmy:∀ (a:List Tm),eK a a=0
 | []=>rfl
 | x::xs=>by simp only [eK,fK,ze x,Zmy xs,if_true]
end
theorem n9 {a b:Tm}:aH a b=0 ↔ a=b:=⟨wv,fun h=>h ▸ ze a⟩
theorem tz {a b:Tm} (ha:aK a) (hb:aK b):az e0 99 [.agg (an a),.agg (an b)] [.one (.lit (.bool (decide (aH a b=0))))]:=by
 refine gI 31 Tryz.func99 ?_;refine bU @ae @ae (CY ha hb) ?_;exact bP @ae @ae
section
variable {g:Sgn}
theorem Zjq (aj:jk g) (hg:¬ SgnOk g):az e0 45 [.agg (bN g)] [.one (.lit (.pointer none)),.one (.lit (.bool false))]:=by
 have hs:fA g=false:=C6 hg;have c:=Zi6 aj;rw [hs,bN] at c;refine gI 287 Tryz.func45 ?_;refine bU @dR @dR (c) ?_;exact bP @dR @dR
def algR (g:Sgn) (r:List D):Prop:=∃ b:Nat,r=[.one (.ptr (dJ g (.lit (.map (some b))))),.one (.lit (.bool true))]
theorem Zmz (aj:jk g) (hg:SgnOk g):k9 e0 45 [.agg (bN g)] (algR g):=by
 have hs:fA g=true:=v8 hg;have c:=Zi6 aj;rw [hs,bN] at c;have c2:=Zic aj.1 hg.sorts;rw [fZ,tH] at c2;refine gIE 287 Tryz.func45 ?_;refine bp @dR @dR (c) @dR ?_;refine bU @dR @dR (c2) ?_;refine iY @dR @dR ?_;refine ZDm (by simp only [pz,↓reduceIte,Nat.reduceEqDiff,Nat.reduceAdd,Nat.reduceSub,Nat.reduceMul,Nat.reduceLeDiff,Nat.reduceBEq,Tam,decide_true,decide_false,Int.reduceLE,Int.reduceToNat,Int.reduceLT,Int.reduceEq,eq_self,Nat.reduceShiftRight,Nat.reduceAnd,Nat.reduceBneDiff,Zzd];exact rfl) fun b=>?_
 refine fR @aI.eq_1 ?_;refine Aq (ZHN [19] _ ⟨b,rfl⟩ (by exact cJ) ?_);simp [mK,kL,kR,gs,dJ,nR]
theorem ZhK (aj:jk g) (hg:SgnOk g) {t:Tm} (ht:qg g t):az e0 155 [.agg (bN g),.agg (an t)] [.one (.lit (.int .i64 (fz g t)))]:=by
 have c2:=ZfW hg.sorts;rw [fZ] at c2;refine gI 2111 Tryz.func155 ?_;refine bp (ai @ae @dR) @dR (c2) @dR ?_;rcases ht with ⟨h1,h2,h3,h4,h5⟩ | ⟨o,d,h⟩
 ·exact fT (aj6 @ae @h1 @h3 (AE hg.sorts h3 h4) @gu (by simp [fz,h1]:fz g t=kd g.sorts t.sort))
 ·have hn:=h.op;obtain ⟨d',dn,mw,ke,_⟩:=hg.first h.at';rw [h.fst] at dn;injection dn with dn
  subst dn;have eD:=h.lo;have fW:=h.at';have vf:=h.fst;exact fT (aj11 @ae @hn @eD @fW @bH @vf @iW @mw (AE hg.sorts mw ke) @gu (by simp [fz,h.op,ZjW h.at' h.fst]:fz g t=kd g.sorts d.res))
def ku (o:Opr):Tm:=.mk (if o.unit=0 then 0 else o.unit - 1) .empty 0 []
theorem Zon (hg:SgnOk g) {op:Int} {o:Opr} (h0:0<=op) (ho:g.ops[op.toNat]?=some o):az e0 238 [.agg (bN g),.one (.lit (.int .i64 op))] [.agg (an (ku o)),.one (.lit (.bool (!decide (o.unit=0))))]:=by
 refine m95 fun hw=>?_;refine gI 4151 Tryz.func238 ?_;by_cases hu:o.unit=0
 ·refine fG (aj5 @dR @h0 @ho @bH @hu) ?_;refine Aq (ZnX ?_);simp [mK,kL,kR,gs,hu,ku,an,aq,gm,iI,tt,aw,pz,CR,CS]
 ·refine fG (aj6 @dR @h0 @ho @bH @hu @hw) ?_;refine Aq (ZnX ?_);simp [mK,kL,kR,gs,hu,ku,an,aq,gm,iI,tt,aw,pz]
end
theorem m248 {p:Prop} (h:p:=by
 have h2:Lib.compareBytes [] (z::zs)=-1:=rfl;rw [this,h2];unfold me;omega):p:=h
theorem Ct {p:Prop} (h:p:=by
 simp only [h1,h2,h3,if_true,if_false];omega):p:=h
def me (a b c:Int):Prop:=((a<=0->b<=0->c<=0)∧(a < 0->b<=0->c < 0)∧(a<=0->b < 0->c < 0))∧((0<=a->0<=b->0<=c)∧(0 < a->0<=b->0 < c)∧(0<=a->0 < b->0 < c))
theorem Zoo (p q:Int):fK [p,q]=if p=0 then q else p:=by
 simp only [fK];split
 ·split <;> simp_all
 ·rfl
theorem ZBS (p q r s:Int):fK [p,q,r,s]=fK [p,fK [q,fK [r,s]]]:=by
 simp only [Zoo,fK];by_cases h1:p=0 <;> by_cases h2:q=0 <;> by_cases h3:r=0 <;> by_cases h4:s=0 <;> simp [h1,h2,h3,h4]
theorem me.lex {a b c a' b' c':Int} (h:me a b c) (h':me a' b' c'):me (fK [a,a']) (fK [b,b']) (fK [c,c']):=by
 simp only [Zoo];unfold me at *;by_cases h1:a=0
 ·by_cases h2:b=0
  ·by_cases h3:c=0
   ·simp only [h1,h2,h3,if_true];exact h'
   ·omega
  ·by_cases h3:c=0
   ·omega
   ·exact Ct
 ·by_cases h2:b=0
  ·by_cases h3:c=0
   ·omega
   ·exact Ct
  ·by_cases h3:c=0
   ·exact Ct
   ·simp only [h1,h2,h3,if_false];omega
theorem ZfY (p q:Int):fK [-p,-q]=-fK [p,q]:=by
 simp only [Zoo];by_cases h:p=0
 ·simp [h]
 ·have:¬ -p=0:=om;simp [h,this]
theorem ZjY (a b c:Int):me (fb a b) (fb b c) (fb a c):=by
 unfold me fb;by_cases h1:a < b <;> by_cases h2:b < c <;> by_cases h3:a < c <;> by_cases h4:b < a <;> by_cases h5:c < b <;> by_cases h6:c < a <;> simp only [h1,h2,h3,h4,h5,h6,if_true,if_false] <;> omega
theorem ZjZ (a b:Int):fb b a=-fb a b:=by
 unfold fb;by_cases h1:a < b <;> by_cases h2:b < a <;> simp only [h1,h2,if_true,if_false] <;> omega
theorem Zi8 (x y:UInt8) (xs ys:List UInt8):Lib.compareBytes (x::xs) (y::ys)=fK [fb x.toNat y.toNat,Lib.compareBytes xs ys]:=by
 rw [Zoo];simp only [Lib.compareBytes,fb,UInt8.lt_iff_toNat_lt];by_cases h1:x.toNat < y.toNat
 ·have:((x.toNat:Int) < y.toNat):=om;simp [h1,this]
 ·have d5:¬ ((x.toNat:Int) < y.toNat):=om;by_cases h2:y.toNat < x.toNat
  ·have:((y.toNat:Int) < x.toNat):=om;simp [h1,h2,d5,this]
  ·have:¬ ((y.toNat:Int) < x.toNat):=om;simp [h1,h2,d5,this]
theorem Zqr:∀ (a b c:List UInt8),me (Lib.compareBytes a b) (Lib.compareBytes b c) (Lib.compareBytes a c)
 | [],[],[]=>by simp [Lib.compareBytes,me]
 | [],[],_::_=>by simp [Lib.compareBytes,me]
 | [],_::_,[]=>by simp [Lib.compareBytes,me]
 | [],y::ys,z::zs=>by
  have:Lib.compareBytes [] (y::ys)=-1:=rfl;exact m248
 | _::_,[],[]=>by simp [Lib.compareBytes,me]
 | x::xs,[],z::zs=>by
  have:Lib.compareBytes (x::xs) []=1:=rfl;exact m248
 | x::xs,y::ys,[]=>by
  have:Lib.compareBytes (x::xs) []=1:=rfl;have h2:Lib.compareBytes (y::ys) []=1:=rfl;rw [this,h2];unfold me;omega
 | x::xs,y::ys,z::zs=>by
  simp only [Zi8];exact (ZjY _ _ _).lex (Zqr xs ys zs)
theorem Zqs:∀ (a b:List UInt8),Lib.compareBytes b a=-Lib.compareBytes a b
 | [],[]=>rfl
 | [],_::_=>rfl
 | _::_,[]=>rfl
 | x::xs,y::ys=>by rw [Zi8,Zi8,ZjZ,Zqs xs ys,ZfY]
mutual
theorem tF:∀ (a b:Tm),aH b a=-aH a b
 | .mk o n s a,.mk o' n' s' a'=>by
  simp only [aH,ZBS];rw [ZjZ o o',ZjZ s s',Zop a a',show mR n' n=-mR n n' from Zqs _ _,ZfY,ZfY,ZfY]
theorem Zop:∀ (a b:List Tm),eK b a=-eK a b
 | [],[]=>by simp [eK]
 | [],_::_=>by simp [eK]
 | _::_,[]=>by simp [eK]
 | x::xs,y::ys=>by
  simp only [eK];rw [tF x y,Zop xs ys,ZfY]
end
mutual
theorem ZiM:∀ (a b c:Tm),me (aH a b) (aH b c) (aH a c)
 | .mk o n s a,.mk o' n' s' a',.mk o'' n'' s'' a''=>by
  simp only [aH,ZBS];exact (ZjY _ _ _).lex ((Zqr _ _ _).lex ((ZjY _ _ _).lex (Zoq a a' a'')))
theorem Zoq:∀ (a b c:List Tm),me (eK a b) (eK b c) (eK a c)
 | [],[],[]=>by simp [eK,me]
 | [],[],_::_=>by simp [eK,me]
 | [],_::_,[]=>by simp [eK,me]
 | [],_::_,_::_=>by simp only [eK];unfold me;omega
 | _::_,[],[]=>by simp [eK,me]
 | _::_,[],_::_=>by simp only [eK];unfold me;omega
 | _::_,_::_,[]=>by simp only [eK];unfold me;omega
 | x::xs,y::ys,z::zs=>by
  simp only [eK];exact (ZiM x y z).lex (Zoq xs ys zs)
end
theorem ZgJ {a b c:Tm} (h1:aH a b < 0) (h2:aH b c < 0):aH a c < 0:=(ZiM a b c).1.2.1 h1 om
theorem wl {a b c:Tm} (h1:aH a b<=0) (h2:aH b c<=0):aH a c<=0:=(ZiM a b c).1.1 h1 h2
def sn (l:List Tm):Prop:=l.Pairwise fun a b=>aH a b < 0
theorem sn.ext {l l':List Tm} (h:sn l) (h':sn l') (hm:∀ t,t∈l ↔ t∈l'):l=l':=by
 induction l generalizing l' with
 | nil =>
  cases l' with
  | nil=>rfl
  | cons y ys=>exact absurd ((hm y).2 (by simp)) (by simp)
 | cons x xs ih =>
  cases l' with
  | nil=>exact absurd ((hm x).1 (by simp)) (by simp)
  | cons y ys =>
   have h1:=List.pairwise_cons.1 h;have h2:=List.pairwise_cons.1 h';have e:x=y:=by
    rcases Tbg.1 ((hm x).1 (by simp)) with e | hx
    ·exact e
    ·rcases Tbg.1 ((hm y).2 (by simp)) with e | hy
     ·exact e.symm
     ·have a1:=h1.1 y hy;have a2:=h2.1 x hx;rw [tF x y] at a2;omega
   subst e;refine congrArg (x::·) (ih h1.2 h2.2 fun t=>⟨fun ht=>?_,fun ht=>?_⟩)
   ·rcases Tbg.1 ((hm t).1 (Tal _ ht)) with e | h3
    ·subst e;have:=h1.1 t ht;rw [ze] at this;omega
    ·exact h3
   ·rcases Tbg.1 ((hm t).2 (Tal _ ht)) with e | h3
    ·subst e;have:=h2.1 t ht;rw [ze] at this;omega
    ·exact h3
def fJ (t:Tm):List Tm->List Tm
 | []=>[t]
 | x::xs=>if aH x t < 0 then x::fJ t xs else if aH x t=0 then x::xs else t::x::xs
theorem Zk9 {t u:Tm}:∀ {l:List Tm},u∈fJ t l ↔ u=t∨u∈l
 | []=>by simp [fJ]
 | x::xs=>by
  simp only [fJ];split
  ·simp only [Tbg,Zk9 (l:=xs)];constructor
   ·rintro (h | h | h) <;> simp [h]
   ·rintro (h | h | h) <;> simp [h]
  ·split
   ·rename_i h0;have e:=wv h0;simp only [Tbg];constructor
    ·exact fun h=>.inr h
    ·rintro (h | h)
     ·exact .inl (by rw [h,e])
     ·exact h
   ·simp only [Tbg]
theorem sn.ins {t:Tm}:∀ {l:List Tm},sn l->sn (fJ t l)
 | [],_=>by simp [fJ,sn]
 | x::xs,h=>by
  have h1:=List.pairwise_cons.1 h;simp only [fJ];split
  ·rename_i hx;refine List.pairwise_cons.2 ⟨fun u hu=>?_,sn.ins h1.2⟩;rcases Zk9.1 hu with e | hu
   ·rw [e];exact hx
   ·exact h1.1 u hu
  ·split
   ·exact h
   ·rename_i h2 h3;have h4:aH t x < 0:=by rw [tF x t];omega
    refine List.pairwise_cons.2 ⟨fun u hu=>?_,h⟩;rcases Tbg.1 hu with e | hu
    ·rw [e];exact h4
    ·exact ZgJ h4 (h1.1 u hu)
def rP (l:List Tm):List Tm:=l.foldl (fun r t=>fJ t r) []
theorem Zqt {l r:List Tm} (h:sn r):sn (l.foldl (fun r t=>fJ t r) r)∧∀ u,u∈l.foldl (fun r t=>fJ t r) r ↔ u∈l∨u∈r:=by
 induction l generalizing r with
 | nil=>exact ⟨h,fun u=>by simp⟩
 | cons x xs ih =>
  have:=ih (r:=fJ x r) h.ins;refine ⟨this.1,fun u=>?_⟩;rw [List.foldl_cons,this.2,Zk9,Tbg];constructor
  ·rintro (h | h | h)
   ·exact .inl (.inr h)
   ·exact .inl (.inl h)
   ·exact .inr h
  ·rintro ((h | h) | h)
   ·exact .inr (.inl h)
   ·exact .inl h
   ·exact .inr (.inr h)
theorem Zj0 (l:List Tm):sn (rP l):=(Zqt List.Pairwise.nil).1
theorem Zj1 {l:List Tm} {u:Tm}:u∈rP l ↔ u∈l:=by
 have:=(Zqt (l:=l) (r:=[]) List.Pairwise.nil).2 u;simpa [rP] using this
theorem ZBT {l l':List Tm} (h:sn l') (hm:∀ t,t∈l' ↔ t∈l):rP l=l':=(Zj0 l).ext h fun t=>Zj1.trans (hm t).symm
mutual
def iV:Tm->List Tm
 | .mk op nm so args=>if op=-1 then [.mk (-1) nm so []] else jj args
def jj:List Tm->List Tm
 | []=>[]
 | t::ts=>iV t++jj ts
end
def ew (t:Tm):List Tm:=rP (iV t)
def zTm0:Tm:=.mk 0 ByteArray.empty 0 []
def jq:Option Tm->List Tm->List Tm
 | _,[]=>[]
 | none,x::xs=>x::jq (some x) xs
 | some y,x::xs=>if aH x y=0 then jq (some x) xs else x::jq (some x) xs
def zu:Option Tm->List Tm->Option Tm
 | p,[]=>p
 | _,x::xs=>zu (some x) xs
theorem Zna:∀ (p:Option Tm) (l:List Tm) (x:Tm),jq p (l++[x])=match zu p l with
  | none=>jq p l++[x]
  | some y=>if aH x y=0 then jq p l else jq p l++[x]
 | none,[],x=>rfl
 | some y,[],x=>by simp only [Tah,jq,zu]
 | none,a::l,x=>by
  simp only [Taf,jq,zu,Zna (some a) l x];split
  ·rfl
  ·split <;> rfl
 | some y,a::l,x=>by
  simp only [Taf,jq,zu,Zna (some a) l x];split
  ·rfl
  ·split
   ·rfl
   ·split <;> rfl
theorem Zor:∀ (p:Option Tm) (l:List Tm) (i:Nat) (y:Tm),l[i]?=some y->zu p (l.take (i+1))=some y
 | p,[],i,y,h=>by simp at h
 | p,x::xs,0,y,h=>by simp at h;subst h;simp [zu]
 | p,x::xs,i+1,y,h=>by
  simp only [Tbc,zu];exact Zor (some x) xs i y (by simpa using h)
theorem ZsW {l:List Tm} {i:Nat} {x y:Tm} (hx:l[i+1]?=some x) (hy:l[i]?=some y):jq none (l.take (i+2))=if aH x y=0 then jq none (l.take (i+1)) else jq none (l.take (i+1))++[x]:=by
 rw [(by simp [List.take_add_one,hx]:l.take (i+2)=l.take (i+1)++[x]),Zna,Zor none l i y hy]
theorem ZGl {l:List Tm} {x:Tm} (hx:l[0]?=some x):jq none (l.take 1)=[x]:=by
 cases l with
 | nil=>simp at hx
 | cons a l=>simp at hx;subst hx;simp [jq]
def Up (l:List Tm):Prop:=l.Pairwise fun a b=>aH a b<=0
theorem ZBU:∀ (l:List Tm) (y:Tm),Up l->(∀ x∈l,aH y x<=0)->sn (jq (some y) l)∧(∀ z∈jq (some y) l,aH y z < 0)∧∀ z,(z=y∨z∈jq (some y) l) ↔ (z=y∨z∈l)
 | [],y,_,_=>⟨List.Pairwise.nil,fun z h=>by simp [jq] at h,fun z=>by simp [jq]⟩
 | x::xs,y,hu,hy=>by
  have h1:=List.pairwise_cons.1 hu;have hyx:=hy x Tas;obtain ⟨k1,k2,k3⟩:=ZBU xs x h1.2 h1.1;simp only [jq];by_cases h0:aH x y=0
  ·rw [if_pos h0];have e:=wv h0;subst e;exact ⟨k1,k2,fun z=>by rw [k3 z];simp⟩
  ·rw [if_neg h0];have au:aH y x < 0:=by rw [tF x y] at hyx ⊢;omega
   refine ⟨List.pairwise_cons.2 ⟨k2,k1⟩,fun z hz=>?_,fun z=>?_⟩
   ·rcases Tbg.1 hz with rfl | hz
    ·exact au
    ·exact ZgJ au (k2 z hz)
   ·have:=k3 z;simp only [Tbg];rw [this]
theorem ZDM {l:List Tm} (h:Up l):jq none l=rP l:=by
 cases l with
 | nil=>rfl
 | cons x xs =>
  have h1:=List.pairwise_cons.1 h;obtain ⟨k1,k2,k3⟩:=ZBU xs x h1.2 h1.1;simp only [jq];refine (ZBT (List.pairwise_cons.2 ⟨k2,k1⟩) fun t=>?_).symm;simp only [Tbg];exact k3 t
def cq (l:List Tm):List Tm:=l.mergeSort fun a b=>decide (aH a b<=0)
theorem nu (l:List Tm):(cq l).Perm l:=List.mergeSort_perm l _
theorem rJ (l:List Tm):Up (cq l):=by
 have h:=List.pairwise_mergeSort (le:=fun a b=>decide (aH a b<=0)) (fun a b c h1 h2=>by simp only [decide_eq_true_eq] at *;exact wl h1 h2) (fun a b=>by
  simp only [Bool.or_eq_true,decide_eq_true_eq];have:=tF a b;omega) l
 exact h.imp fun h=>by simpa using h
theorem Zl4:∀ {l l':List Tm},Up l->Up l'->l.Perm l'->l=l'
 | [],l',_,_,h=>by have:=h.length_eq;cases l' with | nil=>rfl | cons _ _=>simp at this
 | x::xs,[],_,_,h=>by have:=h.length_eq;simp at this
 | x::xs,y::ys,h1,h2,h=>by
  have p1:=List.pairwise_cons.1 h1;have p2:=List.pairwise_cons.1 h2;have hx:x∈y::ys:=h.mem_iff.1 Tas;have hy:y∈x::xs:=h.mem_iff.2 Tas;have e:x=y:=by
   rcases Tbg.1 hx with e | hx
   ·exact e
   ·rcases Tbg.1 hy with e | hy
    ·exact e.symm
    ·have a1:=p2.1 x hx;have a2:=p1.1 y hy;refine wv ?_;rw [tF x y] at a1;omega
  subst e;rw [Zl4 p1.2 p2.2 h.cons_inv]
theorem ZuE {l l':List Tm} (h:l.Perm l'):rP l=rP l':=(Zj0 l).ext (Zj0 l') fun t=>by rw [Zj1,Zj1,h.mem_iff]
mutual
theorem Zqu:∀ {a b:Tm},an a=an b->a=b
 | .mk o n s a,.mk o' n' s' a',h=>by
  simp only [an,List.cons.injEq,C.lit.injEq,C.sl.injEq,Value.int.injEq,Value.string.injEq,true_and,and_true] at h;obtain ⟨rfl,rfl,rfl,h⟩:=h;rw [Zos h]
theorem Zos:∀ {a b:List Tm},aq a=aq b->a=b
 | [],[],_=>rfl
 | [],_::_,h=>by simp [aq] at h
 | _::_,[],h=>by simp [aq] at h
 | x::xs,y::ys,h=>by
  simp only [aq,List.cons.injEq] at h;rw [Zqu h.1,Zos h.2]
end
open Classical in
noncomputable def mF (r:List C):Tm:=if h:∃ t,r=an t then h.choose else zTm0
theorem ZwW (t:Tm):mF (an t)=t:=by
 have h:∃ t',an t=an t':=⟨t,rfl⟩;unfold mF;rw [dif_pos h];exact (Zqu h.choose_spec).symm
theorem ZGm (l:List Tm):(aq l).map mF=l:=by
 rw [mI,List.map_map]
 conv=>rhs;rw [<- List.map_id l]
 exact List.map_congr_left fun t _=>ZwW t
theorem rH (l:List Tm) (k:Nat):(aq l).take k=aq (l.take k):=by rw [mI,mI,List.map_take]
theorem sB (l:List Tm) (k:Nat):(aq l).drop k=aq (l.drop k):=by rw [mI,mI,List.map_drop]
theorem pf (a b:List Tm):aq (a++b)=aq a++aq b:=by rw [mI,mI,mI,Tbv]
theorem wb (t:Tm):aq [t]=[an t]:=by simp [aq]
theorem uv (a b:Tm):az e0 89 [.agg (an a),.agg (an b)] [.one (.lit (.bool (decide (aH a b=0))))]:=by
 refine gI (ts:=[.slot 4]) 31 Tryz.func89 ?_;refine bU @ae @ae (DD (Ax a b)) ?_;exact bK @ae @ae
theorem pX {X Y:Prop} (b:Y) (h:Bx Y->X:=by
 intro B0
 obtain ⟨i,hi⟩:=Tbk h;exact B0.o i hi):X:=h ⟨b⟩
theorem m208 {p:Prop} (h:p:=by
 obtain ⟨h1,rfl⟩:=Tad.1 h;exact List.drop_eq_getElem_cons h1):p:=h
theorem Zho {l m:List Tm} (hp:m.Perm l) (hu:Up m):m=cq l:=Zl4 hu (rJ l) (hp.trans (nu l).symm)
theorem C8 {l:List Tm} (hu:Up l):cq l=l:=(Zho (List.Perm.refl _) hu).symm
theorem xw (l:List Tm):(cq l).length=l.length:=(nu l).length_eq
theorem ZsX {l m:List Tm} (h:l.Perm m):cq l=cq m:=Zl4 (rJ l) (rJ m) ((nu l).trans (h.trans (nu m).symm))
theorem Up.get {l:List Tm} (h:Up l) {i j:Nat} {x y:Tm} (nQ:i<=j) (hx:l[i]?=some x) (hy:l[j]?=some y):aH x y<=0:=by
 rcases Nat.lt_or_ge i j with hl | hl
 ·obtain ⟨h1,rfl⟩:=Tad.1 hx;obtain ⟨h2,rfl⟩:=Tad.1 hy;exact List.pairwise_iff_getElem.1 h i j h1 h2 hl
 ·obtain rfl:i=j:=by omega
  rw [hx] at hy;injection hy with hy
  subst hy;rw [ze];omega
theorem Zie {l:List Tm} {k:Nat} {x:Tm} (h:x∈l.take k):∃ i,i < k∧l[i]?=some x:=by
 refine pX fun i hi=>?_;rw [List.getElem?_take] at hi;split at hi
 ·exact ⟨i,by assumption,hi⟩
 ·cases hi
theorem Zif {l:List Tm} {k:Nat} {x:Tm} (h:x∈l.drop k):∃ i,k<=i∧l[i]?=some x:=by
 refine pX fun i hi=>?_;rw [Tbb] at hi;exact ⟨k+i,om,hi⟩
theorem ZrT {x y:Tm} (h:¬ aH x y < 0):aH y x<=0:=by rw [tF x y];omega
theorem Up.append {l m:List Tm} (hl:Up l) (hm:Up m) (h:∀ x∈l,∀ y∈m,aH x y<=0):Up (l++m):=List.pairwise_append.2 ⟨hl,hm,h⟩
theorem Up.left {l m:List Tm} (h:Up (l++m)):Up l:=(List.pairwise_append.1 h).1
theorem Up.right {l m:List Tm} (h:Up (l++m)):Up m:=(List.pairwise_append.1 h).2.1
theorem Up.take {l:List Tm} (h:Up l) (k:Nat):Up (l.take k):=List.Pairwise.sublist (List.take_sublist k l) h
theorem Up.drop {l:List Tm} (h:Up l) (k:Nat):Up (l.drop k):=List.Pairwise.sublist (List.drop_sublist k l) h
theorem Up.put {B:List Tm} {x:Tm} (hB:Up B) {s:Nat} (h1:0 < s->∃ y,B[s - 1]?=some y∧aH y x<=0) (h2:s < B.length->∃ y,B[s]?=some y∧aH x y<=0):Up (B.take s++x::B.drop s):=by
 have k2:∀ z∈B.drop s,aH x z<=0:=fun z hz=>by
  obtain ⟨i,hi,hz⟩:=Zif hz;have hl:=(Tad.1 hz).1;obtain ⟨y,hy,hc⟩:=h2 om;exact wl hc (hB.get hi hy hz)
 have k1:∀ z∈B.take s,aH z x<=0:=fun z hz=>by
  obtain ⟨i,hi,hz⟩:=Zie hz;obtain ⟨y,hy,hc⟩:=h1 om;exact wl (hB.get om hz hy) hc
 refine (hB.take s).append (List.pairwise_cons.2 ⟨k2,hB.drop s⟩) fun z hz u hu=>?_;rcases Tbg.1 hu with rfl | hu
 ·exact k1 z hz
 ·obtain ⟨i,hi,hz⟩:=Zie hz;obtain ⟨j,hj,hu⟩:=Zif hu;exact hB.get om hz hu
theorem ZDN {B:List Tm} {x:Tm} (s:Nat):(B.take s++x::B.drop s).Perm (x::B):=by
 refine List.perm_middle.trans ?_;rw [Tbm]
theorem ZGn {A B:List Tm} (hA:Up A) (hB:Up B) {s e:Nat} (h1:e < B.length->0 < s->∃ x y,A[s - 1]?=some x∧B[e]?=some y∧aH x y<=0) (h2:0 < e->s < A.length->∃ x y,B[e - 1]?=some x∧A[s]?=some y∧aH x y<=0):∀ x∈A.take s++B.take e,∀ y∈A.drop s++B.drop e,aH x y<=0:=by
 intro x hx y hy;rcases Tbh.1 hx with hx | hx <;> rcases Tbh.1 hy with hy | hy <;> obtain ⟨i,hi,hx⟩:=Zie hx <;> obtain ⟨j,hj,hy⟩:=Zif hy
 ·exact hA.get om hx hy
 ·have hl:=(Tad.1 hy).1;obtain ⟨u,v,hu,hv,huv⟩:=h1 om om;exact wl (wl (hA.get om hx hu) huv) (hB.get hj hv hy)
 ·have hl:=(Tad.1 hy).1;obtain ⟨u,v,hu,hv,huv⟩:=h2 om om;exact wl (wl (hB.get om hx hu) huv) (hA.get hj hv hy)
 ·exact hB.get om hx hy
theorem ZxX {A1 A2 B1 B2:List Tm} (h:∀ x∈A1++B1,∀ y∈A2++B2,aH x y<=0):cq (A1++B1)++cq (A2++B2)=cq ((A1++A2)++(B1++B2)):=by
 refine Zho ?_ ((rJ _).append (rJ _) fun x hx y hy=>h x ((nu _).mem_iff.1 hx) y ((nu _).mem_iff.1 hy));refine ((nu _).append (nu _)).trans ?_;rw [Tbf,Tbf];refine List.Perm.append_left _ ?_;rw [<- Tbf,<- Tbf];exact List.Perm.append_right _ List.perm_append_comm
inductive Blks (k:Nat):List Tm->Prop where
 | last {l:List Tm} (hl:l.length<=k) (hu:Up l):Blks k l
 | cons {X r:List Tm} (hl:X.length=k) (hu:Up X) (hr:Blks k r):Blks k (X++r)
inductive Full (k:Nat):List Tm->Prop where
 | nil:Full k []
 | cons {X r:List Tm} (hl:X.length=k) (hu:Up X) (hr:Full k r):Full k (X++r)
theorem Full.snoc {k:Nat} {X Z:List Tm} (h:Full k X) (hl:Z.length=k) (hu:Up Z):Full k (X++Z):=by
 induction h with
 | nil=>have:=Full.cons hl hu Full.nil;rwa [List.append_nil] at this
 | cons h1 h2 _ ih=>rw [Tbf];exact .cons h1 h2 ih
theorem Full.blks {k:Nat} {X Z:List Tm} (h:Full k X) (hl:Z.length<=k) (hu:Up Z):Blks k (X++Z):=by
 induction h with
 | nil=>exact .last hl hu
 | cons h1 h2 _ ih=>rw [Tbf];exact .cons h1 h2 ih
theorem Blks.up {k:Nat} {l:List Tm} (h:Blks k l) (hl:l.length<=k):Up l:=by
 cases h with
 | last h1 h2=>exact h2
 | @cons X r h1 h2 h3 =>
  rw [Tae] at hl;have:r=[]:=Tao om;subst this
  rwa [List.append_nil]
theorem Blks.split {k:Nat} {l:List Tm} (h:Blks k l) (hl:k < l.length):∃ X r,l=X++r∧X.length=k∧Up X∧Blks k r:=by
 cases h with
 | last h1 h2=>omega
 | cons h1 h2 h3=>exact ⟨_,_,rfl,h1,h2,h3⟩
theorem Blks.two {k:Nat} {l:List Tm} (h:Blks k l) (hk:0 < k) (hl:2 * k<=l.length):∃ A B r,l=A++B++r∧A.length=k∧B.length=k∧Up A∧Up B∧Blks k r:=by
 obtain ⟨A,r,rfl,h1,h2,h3⟩:=h.split om;rw [Tae] at hl;rcases Nat.lt_or_ge k r.length with h4 | h4
 ·obtain ⟨B,r',rfl,h5,h6,h7⟩:=h3.split h4;exact ⟨A,B,r',by rw [Tbf],h1,h5,h2,h6,h7⟩
 ·exact ⟨A,r,[],by rw [List.append_nil],h1,om,h2,h3.up h4,.last (by simp) List.Pairwise.nil⟩
theorem Dw {A B:List Tm} {x y:Tm} {k:Nat} (h:A.length=k):(A++x::B).set k y=A++y::B:=by
 subst h;rw [List.set_append_right _ _ (Tai _),Nat.sub_self,List.set_cons_zero]
theorem Dx {A B:List Tm} {x:Tm} {k:Nat} (h:A.length=k):(A++x::B)[k]?=some x:=by
 subst h;rw [Tbq (Tai _),Nat.sub_self,Tat]
theorem ZwX {A B:List Tm} {x y:Tm} {k:Nat} (h:A.length=k):((A++y::x::B).set (k+1) y).set k x=A++x::y::B:=by
 have e1:(A++y::x::B).set (k+1) y=A++y::y::B:=by
  have:=Dw (A:=A++[y]) (B:=B) (x:=x) (y:=y) (k:=k+1) (by simp [h]);simpa using this
 rw [e1,Dw h]
theorem ZDO {A B:List Tm} {x y:Tm} {k:Nat} (h:A.length=k):((A++y::x::B).set k x).set (k+1) y=A++x::y::B:=by
 have e1:(A++x::x::B).set (k+1) y=A++x::y::B:=by
  have:=Dw (A:=A++[x]) (B:=B) (x:=x) (y:=y) (k:=k+1) (by simp [h]);simpa using this
 rw [Dw h,e1]
theorem ZpA {A B:List Tm} {x y:Tm} {k:Nat} (h:A.length=k):(A++y::x::B)[k+1]?=some x:=by
 have:=Dx (A:=A++[y]) (B:=B) (x:=x) (k:=k+1) (by simp [h]);simpa using this
theorem CZ {l:List Tm} {i:Nat} {x:Tm} (h:l[i]?=some x):l.drop i=x::l.drop (i+1):=by
 exact m208
theorem xr {l:List Tm} {i:Nat} {x:Tm} (h:l[i]?=some x):l.take (i+1)=l.take i++[x]:=by
 rw [List.take_add_one,h];rfl
def qc (P X Z Y Q:List Tm) (i:Nat):List Tm:=P++(Y.take i++X.drop i)++Z++(X.take i++Y.drop i)++Q
theorem ZDP (P X Z Y Q:List Tm):qc P X Z Y Q 0=P++X++Z++Y++Q:=by simp [qc]
theorem ZGo {P X Z Y Q:List Tm} (h:X.length=Y.length):qc P X Z Y Q X.length=P++Y++Z++X++Q:=by
 unfold qc;rw [Tap,List.drop_length,h,Tap,List.drop_length];simp
theorem ZGp {P X Z Y Q:List Tm} (i:Nat) (h:X.length=Y.length):(qc P X Z Y Q i).length=P.length+X.length+Z.length+Y.length+Q.length:=by
 simp only [qc,Tae,Taw,Tax];omega
theorem ZGq {P X Z Y Q:List Tm} {i:Nat} {x y:Tm} (h:X.length=Y.length) (hx:X[i]?=some x) (hy:Y[i]?=some y) :
  (qc P X Z Y Q i)[P.length+i]?=some x∧(qc P X Z Y Q i)[P.length+X.length+Z.length+i]?=some y∧((qc P X Z Y Q i).set (P.length+i) y).set (P.length+X.length+Z.length+i) x=qc P X Z Y Q (i+1):=by
 have hi:=(Tad.1 hx).1;have eG:=(Tad.1 hy).1;have e:qc P X Z Y Q i=(P++Y.take i)++x::(X.drop (i+1)++Z++X.take i++y::(Y.drop (i+1)++Q)):=by
  unfold qc;rw [CZ hx,CZ hy];simp
 have e2:qc P X Z Y Q i=((P++Y.take i)++x::(X.drop (i+1)++Z++X.take i))++y::(Y.drop (i+1)++Q):=by rw [e];simp
 have l1:(P++Y.take i).length=P.length+i:=by simp;omega
 have l2:∀ z:Tm,((P++Y.take i)++z::(X.drop (i+1)++Z++X.take i)).length=P.length+X.length+Z.length+i:=fun z=>by simp;omega
 refine ⟨by rw [e];exact Dx l1,by rw [e2];exact Dx (l2 x),?_⟩;rw [e,Dw l1];rw [show (P++Y.take i)++y::(X.drop (i+1)++Z++X.take i++y::(Y.drop (i+1)++Q))=((P++Y.take i)++y::(X.drop (i+1)++Z++X.take i))++y::(Y.drop (i+1)++Q) by simp,Dw (l2 y)];unfold qc;rw [xr hy,xr hx];simp
theorem ZDQ {M1 M2:List Tm} {x:Tm} (h:Up (M1++M2)) (h2:∀ y∈M2,aH x y<=0) (h1:∀ y,M1.getLast?=some y->aH y x<=0):Up (M1++x::M2):=by
 obtain ⟨u1,u2,u3⟩:=List.pairwise_append.1 h;refine Up.append u1 (List.pairwise_cons.2 ⟨h2,u2⟩) fun z hz u hu=>?_;rcases Tbg.1 hu with rfl | hu
 ·obtain ⟨M0,y,rfl⟩:∃ M0 y,M1=M0++[y]:=⟨M1.dropLast,M1.getLast (List.ne_nil_of_mem hz),(List.dropLast_concat_getLast _).symm⟩;have hy:=h1 y (by simp);rcases Tbh.1 hz with hz | hz
  ·exact wl ((List.pairwise_append.1 u1).2.2 z hz y (by simp)) hy
  ·simp only [Tbj] at hz;subst hz;exact hy
 ·exact u3 z hz u hu
theorem ZsY {M1 M2 L:List Tm} {x:Tm} (e:M1++M2=cq L) (h2:∀ y∈M2,aH x y<=0) (h1:∀ y,M1.getLast?=some y->aH y x<=0):M1++x::M2=cq (L++[x]):=by
 refine Zho ?_ (ZDQ (by rw [e];exact rJ _:Up (M1++M2)) h2 h1);refine List.perm_middle.trans ?_;rw [e];exact ((nu L).cons x).trans (List.perm_append_comm (l₁:=[x]) (l₂:=L))
mutual
def rQ:Tm->Int->Int
 | .mk _ _ _ args,l=>kP args (l - 1)
def kP:List Tm->Int->Int
 | [],l=>l
 | t::ts,l=>if 0<=l then kP ts (rQ t l) else l
end
theorem ZBV:∀ l,kP [] l=l:=fun _=>by rw [kP]
mutual
theorem ZmA:∀ (t:Tm) (l:Int),0<=l->(-1<=rQ t l∧rQ t l<=l∧((am t:Int)<=l->rQ t l=l - am t)∧(l < am t->rQ t l < 0))
 | .mk _ _ _ args,l,hl=>by
  have:=Zig args (l - 1) om;simp only [rQ,am];refine ⟨this.1,om,fun h=>?_,fun h=>?_⟩
  ·have:=this.2.2.1 om;omega
  ·by_cases h1:0<=l - 1
   ·exact this.2.2.2 om
   ·have h2:=this.2.1;omega
theorem Zig:∀ (ts:List Tm) (l:Int),-1<=l->(-1<=kP ts l∧kP ts l<=l∧((av ts:Int)<=l->kP ts l=l - av ts)∧(l < av ts->kP ts l < 0))
 | [],l,hl=>by simp only [kP,av];omega
 | t::ts,l,hl=>by
  simp only [kP,av];by_cases h0:0<=l
  ·rw [if_pos h0];have h1:=ZmA t l h0;have h2:=Zig ts (rQ t l) h1.1;refine ⟨h2.1,om,fun h=>?_,fun h=>?_⟩
   ·have e1:=h1.2.2.1 om;have e2:=h2.2.2.1 om;omega
   ·by_cases h3:(am t:Int)<=l
    ·have e1:=h1.2.2.1 h3;exact h2.2.2.2 om
    ·have e1:=h1.2.2.2 om;omega
  ·rw [if_neg h0];have:=uw ts;refine ⟨hl,Int.le_refl _,fun h=>om,fun h=>om⟩
end
theorem ZmB {ts:List Tm} {l:Int} (h:¬ 0<=l):kP ts l=l:=by
 cases ts with
 | nil=>rfl
 | cons t ts=>simp only [kP,if_neg h]
theorem Zi9:∀ (a b:List Tm) (l:Int),kP (a++b) l=kP b (kP a l)
 | [],b,l=>rfl
 | t::ts,b,l=>by
  simp only [Taf,kP];by_cases h:0<=l
  ·rw [if_pos h,if_pos h,Zi9]
  ·rw [if_neg h,if_neg h,ZmB h]
theorem ZsZ {ts:List Tm} {i:Nat} {t:Tm} {l:Int} (h:ts[i]?=some t) (h0:0<=kP (ts.take i) l):kP (ts.take (i+1)) l=rQ t (kP (ts.take i) l):=by
 rw [uz h,Zi9];simp only [kP,if_pos h0]
theorem Zs0 {ts:List Tm} {i:Nat} {l:Int} (h0:¬ 0<=kP (ts.take i) l):kP ts l=kP (ts.take i) l:=by
 conv=>lhs;rw [<- Tbm i ts]
 rw [Zi9,ZmB h0]
theorem ZBW (t:Tm) (l:Int):rQ t l=kP t.args (l - 1):=by cases t;simp only [rQ,Tm.args]
theorem ZpB:∀ (n:Nat) (t:Tm) (l:Int),am t < n->am t<=fc->0<=l->l<=60->az e0 198 [.agg (an t),.one (.lit (.int .i64 l))] [.one (.lit (.int .i64 (rQ t l)))]:=by
 intro n
 induction n with
 | zero=>intro t l h;omega
 | succ n ih =>
  intro t l hn hb xe hl1;have bO:=oK t;have ca:=uw t.args;unfold fc at hb;have hw:IntKind.i64.wrap (l - 1)=l - 1:=dI rfl om om;rw [ZBW];refine gI 65591 Tryz.func198 ?_;refine fG (ai @ae @hw) ?_;have F:=@ZBV;refine gL (ι:=Nat) [1,5,16] [] (fun i=>[(5,A.d (.one (.lit (.int .i64 i)))),(1,A.d (.one (.lit (.int .i64 (kP (t.args.take i) (l - 1))))))]) (fun i=>[]) (fun i=>i<=t.args.length) (fun i=>t.args.length - i) (0) om (fun i hi=>?_)
  have hsp:=Zig (t.args.take i) (l - 1) om;by_cases hl:i < t.args.length;rotate_left
  ·have e:t.args.take i=t.args:=List.take_of_length_le om;exact fT (aj3 (om:¬ ((i:Int) < (t.args.length:Int))) @e @ae)
  have gf:(i:Int) < (t.args.length:Int):=om;by_cases h0:0<=kP (t.args.take i) (l - 1);rotate_left
  ·exact fT (aj4 @gf @h0 (Zs0 h0) @ae)
  obtain ⟨a,ha⟩:∃ a,t.args[i]?=some a:=⟨_,Taa hl⟩;have hm:=qd (Tac ha);refine bp (aj4 @gf @h0 @ae @ha) (ai @ae @ha) (ih a _ om (by unfold fc;omega) h0 om) @ae ?_;have F:=aj3 (bI (k:=i) om) (ZsZ ha h0) @ae;refine gG ?_;exact ⟨i+1,om,gw,gw,om⟩
theorem Zqv {t:Tm}:0<=rQ t 60 ↔ am t<=60:=by
 have:=ZmA t 60 om;by_cases h:am t<=60
 ·have:=this.2.2.1 om;omega
 ·have:=this.2.2.2 om;omega
theorem Zg4 {t:Tm} (hb:am t<=fc):az e0 121 [.agg (an t)] [.one (.lit (.bool (decide (am t<=60∧aG t<=20))))]:=by
 refine gI 7 Tryz.func121 ?_;refine bU @ae @ae (ZpB _ t 60 (Tan _) hb om om) ?_;by_cases h1:am t<=60;rotate_left
 ·have d5:¬ (0<=rQ t 60):=fun h=>h1 (Zqv.1 h);exact bP (ai @ae @d5) @h1
 have d5:(0<=rQ t 60):=Zqv.2 h1;refine fC (ai @ae @d5) (Zre hb) ?_;by_cases h2:aG t<=20
 ·exact bP (ai @ae (om:((aG t:Int)<=20))) (ai @h1 @h2)
 ·exact bP (ai @ae (om:¬ ((aG t:Int)<=20))) (ai @h1 @h2)
section
variable {g:Sgn}
open Classical in
noncomputable def wJ (g:Sgn) (t:Tm):Bool:=decide (qg g t)
theorem Zg5 {t:Tm} (h:qg g t):wJ g t=true:=by simp [wJ,h]
theorem Zs1 {t:Tm} (h:¬ qg g t):wJ g t=false:=by simp [wJ,h]
theorem ZxY {t:Tm}:wJ g t=true ↔ qg g t:=by simp [wJ]
theorem ZxZ (hg:SgnOk g) {t:Tm} (aj:aK t) (hb:am t<=fc):az e0 200 [.agg (bN g),.agg (an t)] [.one (.lit (.bool (wJ g t)))]:=by
 have bC:¬ qg g t->wJ g t=false:=Zs1;refine yJ fun k1 k2 k3 k4 bO ca=>?_;have hn8:=hg.sorts.n8;have gg:=hg.sorts.n1;have ix:=hg.len;unfold fc at hb;have hwn:IntKind.i64.wrap ((g.sorts.names.length:Int) - 1)=(g.sorts.names.length:Int) - 1:=dI rfl om om;have hwo:IntKind.i64.wrap ((g.ops.length:Int) - 1)=(g.ops.length:Int) - 1:=dI rfl om om;refine gI 9444733036108034605695 Tryz.func200 ?_
 by_cases h1:t.op=-1
 ·have hV:qg g t->oh g t:=fun h=>by
   rcases h with h | ⟨o,d,h⟩
   ·exact h
   ·exact absurd h1 h.op
  refine bU (aj3 @ae @dR @h1) @ae (Zh8 k2) ?_;by_cases h2:iS t.name=true;rotate_left
  ·have hf:=bC fun h=>h2 (hV h).2.1;exact bP (ai @ae (by simpa using h2:iS t.name=false)) @hf
  refine fC (aj3 @ae @h2 @hwn) (zg _ _ _) ?_;by_cases h3:0<=t.sort∧t.sort < g.sorts.names.length;rotate_left
  ·have hf:=bC fun h=>h3 ⟨(hV h).2.2.1,(hV h).2.2.2.1⟩;exact bP (ai @ae (by simp only [decide_eq_false_iff_not];omega:decide (0<=t.sort∧t.sort<=(g.sorts.names.length:Int) - 1)=false)) @hf
  have py:decide (0<=t.sort∧t.sort<=(g.sorts.names.length:Int) - 1)=true:=by simp only [decide_eq_true_eq];omega
  by_cases h4:t.args=[]
  ·exact bP (aj3 @ae @py @h4) (Zg5 (g:=g) (.inl ⟨h1,h2,h3.1,h3.2,h4⟩))
  ·have hf:=bC fun h=>h4 (hV h).2.2.2.2;have h4':¬ ((t.args.length:Int)=0):=by
    intro h;apply h4;apply Tao;omega
   exact bP (aj3 @ae @py @h4') @hf
 refine bU (aj3 @ae @dR @h1) (ai @ae @hwo) (zg _ _ _) ?_;by_cases h2:0<=t.op∧t.op < g.ops.length;rotate_left
 ·have hf:=bC fun h=>by
   obtain ⟨o,d,h⟩:=h.app h1;have:=(Tad.1 h.at').1;have:=h.lo;omega
  exact bP (ai @ae (by simp only [decide_eq_false_iff_not];omega:decide (0<=t.op∧t.op<=(g.ops.length:Int) - 1)=false)) @hf
 have js:decide (0<=t.op∧t.op<=(g.ops.length:Int) - 1)=true:=by simp only [decide_eq_true_eq];omega
 by_cases h4:t.name=ByteArray.empty;rotate_left
 ·have hf:=bC fun h=>by
   obtain ⟨o,d,h⟩:=h.app h1;exact h4 h.nm
  exact bP (aj4 @ae @js @xL @h4) @hf
 by_cases h5:t.sort=0;rotate_left
 ·have hf:=bC fun h=>by
   obtain ⟨o,d,h⟩:=h.app h1;exact h5 h.so
  exact bP (aj5 @ae @js @xL @h4 @h5) @hf
 have h0:=h2.1;obtain ⟨o,ho⟩:∃ o,g.ops[t.op.toNat]?=some o:=⟨_,Taa om⟩;obtain ⟨d,hd,mw,ke,cd⟩:=hg.first ho;have t6:qg g t->AppOk g t o d:=fun h=>by
  obtain ⟨o',d',h⟩:=h.app h1;exact m155
 have cA:=ZgZ hd;rw [fU] at cA;refine dT (aj5 @ae @js @xL @h4 @h5) (aj4 @ae @h0 @ho @bH) ?_
 cases ha:o.assoc with
 | false =>
  rw [ha] at cA;refine nI (ai @ae @ha) (cA) ?_;by_cases c:t.args.length=d.args.length
  ·have hT:=Zg5 (g:=g) (.inr ⟨o,d,h0,ho,hd,h4,h5,fun h=>(by rw [ha] at h;cases h),fun _=>c⟩);exact bP (aj3 @ae (om:((t.args.length:Int)=(d.args.length:Int))) @ha) @hT
  ·have hf:=bC fun h=>c ((t6 h).nas ha);exact bP (aj3 @ae (om:¬ ((t.args.length:Int)=(d.args.length:Int))) @ha) @hf
 | true =>
  refine nI (ai @ae @ha) (zg _ _ _) ?_;by_cases c:2<=t.args.length∧t.args.length<=7
  ·have hT:=Zg5 (g:=g) (.inr ⟨o,d,h0,ho,hd,h4,h5,fun _=>c,fun h=>(by rw [ha] at h;cases h)⟩);exact bP (aj3 @ae (by simp only [decide_eq_true_eq];omega:decide ((2:Int)<=(t.args.length:Int)∧(t.args.length:Int)<=7)=true) @ha) @hT
  ·have hf:=bC fun h=>c ((t6 h).asc ha);exact bP (aj3 @ae (by simp only [decide_eq_false_iff_not];omega:decide ((2:Int)<=(t.args.length:Int)∧(t.args.length:Int)<=7)=false) @ha) @hf
end
theorem m288 {p:Prop} (h:p:=by
 rcases Bool.eq_false_or_eq_true o.assoc with dL | dL
 ·have F:=aj3 @bH @dL @Zl2;exact rA
 ·have F:=aj4 @bH @dL @Zl2 @if_false.{1};exact rA):p:=h
theorem m265 {p:Prop} (h:p:=by
 refine gG ?_;exact ⟨true,⟨fun _=>hf,fun h=>by cases h⟩,gw,gw⟩):p:=h
theorem m264 {p:Prop} (h:p:=by
 exact aD j a (by have:=(Tad.1 hj).1;omega) hj):p:=h
theorem vO {X Y:Prop} (b:Y) (h:Bx Y->X:=by
 intro B0
 have kW:=hg.axs o (Tac ho);have eD:=kW.lo;exact B0.o kW eD):X:=h ⟨b⟩
section
variable {g:Sgn}
open Classical in
noncomputable def xM (g:Sgn) (op:Int) (args:List Tm):Bool:=decide (Zl3 g op args)
theorem Zla (hg:SgnOk g) {op:Int} {o:Opr} (ho:g.ops[op.toNat]?=some o) (hu:o.unit≠0) {a:Tm} (ha:dt g a) (co:a.op=o.unit - 1):a=ku o:=by
 refine vO fun kW eD=>?_;obtain ⟨p,u,h⟩:=ha.node.app om;obtain ⟨d,hd,_⟩:=hg.first ho;have e:a.op.toNat=o.unit.toNat - 1:=om;have hz:u.args.length=0:=by
  have h2:=kW.two (.inr (.inr hu)) d hd;obtain ⟨d0,r9⟩:∃ x,d.args[0]?=some x:=⟨_,Taa om⟩;obtain ⟨d1,tW⟩:∃ x,d.args[1]?=some x:=⟨_,Taa om⟩;exact ((h2.2 d0 d1 r9 tW).2.2 hu p u (by rw [<- e];exact h.at') h.fst).1
 have qo:p.assoc=false:=by
  cases hp:p.assoc with
  | false=>rfl
  | true =>
   have:=((hg.axs p (Tac h.at')).two (.inl hp) u h.fst).1;omega
 have hl:=h.nas qo;have yr:a.args=[]:=Tao om;have mv:=h.nm;have yv:=h.so
 cases a with
 | mk x n s l =>
  simp only [Tm.args,Tm.name,Tm.sort,Tm.op] at *;subst yr mv yv co;simp only [ku,if_neg hu]
theorem Zqw {o:Opr} (h0:0<=o.unit) (h1:o.unit<=14):aK (ku o):=by
 rw [Zft];simp only [ku,Tm.op,Tm.name,Tm.sort,Tm.args,b9,and_true];refine ⟨?_,by simp [maxLen],?_⟩
 ·unfold eP;split <;> omega
 ·unfold eP;omega
theorem ZuF (bW:jk g) (hg:SgnOk g) {t:Tm} {o:Opr} {d:Dcl} (hA:AppOk g t o d) (hF:∀ a∈t.args,dt g a) (aj:aK t) (hb:am t<=fc):az e0 201 [.agg (bN g),.agg (an t)] [.one (.lit (.bool (xM g t.op t.args)))]:=by
 have bC:¬ Zl3 g t.op t.args->xM g t.op t.args=false:=fun h=>by simp [xM,h]
 refine yJ fun k1 k2 k3 k4 bO ca=>?_;unfold fc at hb;have h0:=hA.lo;have ho:=hA.at';have hd:=hA.fst;obtain ⟨d',dn,mw,ke,cd⟩:=hg.first ho;rw [hd] at dn;injection dn with dn
 subst dn;refine vO fun kW eD=>?_;have lV:=kW.hi;have ix:=hg.len;have cK:=ZfW hg.sorts;rw [fZ] at cK;have xX:=Zon hg h0 ho;rw [bN] at xX;have oA:∀ (i:Nat) a,t.args[i]?=some a->¬ ArgOk g t.op o d t.args i a->xM g t.op t.args=false:=fun i a ha h=>bC fun hR=>h (hR o d ho hd i a ha);refine gI 9903595872146772515857895423 Tryz.func201 ?_;refine bp (aj5 @ae @dR @h0 @ho @bH) @ae (cK) @ae ?_;refine bU @ae @ae (xX) ?_;refine dT @ae @ae ?_;have F:=@aw;refine gL (ι:=Nat) [4,9,10,11,32,42,76,93] [] (fun i=>[(9,A.d (.one (.lit (.int .i64 i))))]) (fun i=>[]) (fun i=>i<=t.args.length∧∀ (j:Nat) a,j < i->t.args[j]?=some a->ArgOk g t.op o d t.args j a) (fun i=>t.args.length - i) (0) (⟨om,fun j a h=>absurd h om⟩) (fun i hi=>?_)
 obtain ⟨ci,aD⟩:=hi;by_cases hl:i < t.args.length;rotate_left
 ·have hT:xM g t.op t.args=true:=by
   simp only [xM,decide_eq_true_eq];intro o' d' bZ dn j a hj;rw [ho] at bZ;injection bZ with bZ
   subst bZ;rw [hd] at dn;injection dn with dn
   subst dn;exact m264
  exact fT (aj3 @ae (om:¬ ((i:Int) < (t.args.length:Int))) @hT)
 refine Ce fun gf a ha hm=>?_;have hFa:=hF a hm;have dY:=bI (k:=i) om;obtain ⟨k,hk⟩:=ZiL hg ho hd hA.nas hl;obtain ⟨jS,fd⟩:=cd k (Tac hk);have cj:=AE hg.sorts jS fd;have cKa:=ZhK bW hg hFa.node;rw [bN] at cKa;have cU:=tz (k4.mem hm) (Zqw (o:=o) eD om);have pC:o.unit≠0->(aH a (ku o)=0 ↔ a.op=o.unit - 1):=fun hu=>by
  rw [n9];constructor
  ·rintro h;rw [h];simp [ku,Tm.op,hu]
  ·exact Zla hg ho hu hFa
 generalize hU:decide (aH a (ku o)=0)=U at cU;have dh:fz g a=((kd g.sorts k:Nat):Int)->(o.assoc=true->¬ a.op=t.op)->(o.unit≠0->U=false)->(o.comm=true->∀ (j:Nat) p,i=j+1->t.args[j]?=some p->aH p a<=0)->i+1<=t.args.length∧∀ (j:Nat) a,j < i+1->t.args[j]?=some a->ArgOk g t.op o d t.args j a:=fun eZ bq hU' hc=>⟨om,fun j a' hj de=>by
  by_cases e:j=i
  ·subst e;rw [ha] at de;injection de with de
   subst de;refine ⟨fun k' eV=>?_,bq,fun h1 h2=>?_,hc⟩
   ·rw [hk] at eV;injection eV with eV
    subst eV;exact eZ
   ·have:=hU' h1;rw [this] at hU;simp only [decide_eq_false_iff_not] at hU;exact hU ((pC h1).2 h2)
  ·exact aD j a' om de⟩
 have BG:d.args[(fE o i:Nat)]?=some k:=hk;refine fG (aj3 @ae @gf @ha) ?_;refine gM (ι:=Unit) [11] [] (fun u=>[(11,A.d (.one (.lit (.int .i64 (fE o i:Nat)))))]) (fun u=>[]) (fun u=>True) ?_ (fun u hu=>Exists.intro _ (ai (Wk.refl _) ?_))
 ·exact m288
 refine fG @ae ?_;refine gM (ι:=Bool) [76] [] (fun x=>[(76,A.d (.one (.lit (.bool x))))]) (fun x=>[]) (fun x=>(x=true->xM g t.op t.args=false)∧(x=false->fz g a=((kd g.sorts k:Nat):Int)∧(o.assoc=true->¬ a.op=t.op)∧(o.unit≠0->U=false))) ?_ (fun x hx=>Exists.intro _ (ai (Wk.refl _) ?_))
 ·refine nI @ae (cKa) ?_;by_cases eZ:fz g a=((kd g.sorts k:Nat):Int);rotate_left
  ·have hf:=oA i a ha fun h=>eZ (h.kind k hk);refine fR (aj9 @ae @bH @hd @iW @BG @jS @cj @gu @eZ) ?_;have F:=@ae;exact m265
  by_cases hN:o.assoc=true∧a.op=t.op
  ·have hf:=oA i a ha fun h=>h.nest hN.1 hN.2;obtain ⟨zH,Bf⟩:=hN;refine fR (aj11 @ae @bH @hd @iW @BG @jS @cj @gu @eZ @zH @Bf) ?_;have F:=ai @ae @zH;exact m265
  have bq:o.assoc=true->¬ a.op=t.op:=fun h1 h2=>hN ⟨h1,h2⟩;rcases Bool.eq_false_or_eq_true o.assoc with dL | dL
  all_goals (
   by_cases hu:o.unit=0
   ·refine fR (aj12 @ae @bH @hd @iW @BG @jS @cj @gu @eZ @dL @bq @hu) ?_;have F:=aj3 @ae @dL @hu;refine gG ?_;exact ⟨false,⟨fun h=>(by cases h),fun _=>⟨eZ,bq,fun h=>absurd hu h⟩⟩,gw,gw⟩
   refine fC (aj12 @ae @bH @hd @iW @BG @jS @cj @gu @eZ @dL @bq @hu) (cU) ?_;rcases Bool.eq_false_or_eq_true U with xj | xj
   ·have hf:=oA i a ha fun h=>by
     rw [xj] at hU;simp only [decide_eq_true_eq] at hU;exact h.unit hu ((pC hu).1 hU)
    refine fR (ai @ae @xj) ?_;have F:=aj3 @ae @dL @hu;refine gG ?_;exact ⟨true,⟨fun _=>hf,fun h=>by cases h⟩,gw,gw⟩
   ·refine fR (ai @ae @xj) ?_
    (have F:=aj3 @ae @dL @hu;refine gG ?_;exact ⟨false,⟨fun h=>(by cases h),fun _=>⟨eZ,bq,fun _=>xj⟩⟩,gw,gw⟩))
 cases x with
 | true =>
  exact fT (hx.1 rfl)
 | false =>
  obtain ⟨eZ,bq,xj⟩:=hx.2 rfl;refine fG @ae ?_;rcases Bool.eq_false_or_eq_true o.comm with gQ | gQ
  rotate_left
  ·have hq:=dh eZ bq xj (fun h=>by rw [gQ] at h;cases h);have F:=aj4 @dY @ae @bH @gQ;exact rz
  rcases Nat.eq_zero_or_pos i with nP | nP
  ·have hq:=dh eZ bq xj (fun _ j p h=>om);have F:=aj5 @dY @ae @bH @gQ (om:¬ ((0:Int) < (i:Int)));exact rz
  obtain ⟨j,hj⟩:∃ j,i=j+1:=⟨i - 1,om⟩;obtain ⟨p,hp⟩:∃ p,t.args[j]?=some p:=⟨_,Taa om⟩;have et:IntKind.i64.wrap ((i:Int) - 1)=(j:Int):=dI om om om;refine nI (aj6 @ae @bH @gQ (om:(0:Int) < (i:Int)) @et @hp) ((CY (k4.mem (Tac hp)) (k4.mem hm))) ?_;by_cases hc:0 < aH p a
  ·have hf:=oA i a ha fun h=>by have:=h.ord gQ j p hj hp;omega
   exact bP (ai @ae @hc) @hf
  ·have hq:=dh eZ bq xj (fun _ j' p' h ek=>by
    have:j'=j:=om;subst this;rw [hp] at ek;injection ek with ek
    subst ek;omega)
   refine fR (ai @ae @hc) ?_;have F:=aj4 @dY @ae @bH @gQ;exact rz
theorem ZpC (bW:jk g) (hg:SgnOk g):∀ (n:Nat) (t:Tm),am t < n->aK t->am t<=fc->az e0 122 [.agg (bN g),.agg (an t)] [.one (.lit (.bool (lQ g t)))]:=by
 intro n
 induction n with
 | zero=>intro t h;omega
 | succ n ih =>
  intro t hn aj hb;have bC:¬ dt g t->lQ g t=false:=Zk8;refine yJ fun k1 k2 k3 k4 bO ca=>?_;have cN:=ZxZ hg aj hb;have dC:=hb;unfold fc at dC;rw [bN] at cN;have ih':=fun a h1 h2 h3=>ih a h1 h2 h3;simp only [bN] at ih';refine gI 16794175 Tryz.func122 ?_;refine bU (ai @ae @dR) @ae (cN) ?_;by_cases hN:wJ g t=true;rotate_left
  ·have hf:=bC fun h=>hN (Zg5 h.node);exact bP (ai @ae (by simpa using hN:wJ g t=false)) @hf
  have hNd:=ZxY.1 hN;refine dT (ai @ae @hN) @ae ?_;have F:=@aw;refine gL (ι:=Nat) [4,5,14,24] [] (fun i=>[(5,A.d (.one (.lit (.int .i64 i))))]) (fun i=>[]) (fun i=>i<=t.args.length∧∀ (j:Nat) a,j < i->t.args[j]?=some a->dt g a) (fun i=>t.args.length - i) (0) (⟨om,fun j a h=>absurd h om⟩) (fun i hi=>?_);obtain ⟨ci,aD⟩:=hi;by_cases hl:i < t.args.length;rotate_left
  ·have gf:¬ ((i:Int) < (t.args.length:Int)):=om;have hF:∀ a∈t.args,dt g a:=fun a ha=>by
    obtain ⟨j,hj⟩:=Tbk ha;exact m264
   by_cases h1:t.op=-1
   ·exact fT (aj4 @ae @gf @h1 (Zg2 (g:=g) (t:=t) (nv.2 ⟨hNd,hF,.inl h1⟩)))
   obtain ⟨o,d,hA⟩:=hNd.app h1;have cR:=ZuF bW hg hA hF aj hb;rw [bN] at cR;have e:xM g t.op t.args=lQ g t:=by
    unfold xM lQ;congr 1;rw [nv];exact propext ⟨fun h=>⟨hNd,hF,.inr h⟩,fun h=>h.2.2.resolve_left h1⟩
   refine bU (aj3 @ae @gf @h1) (ai @ae @h1) (cR) ?_;exact bP @ae @e
  refine Ce fun gf a ha hm=>?_;have hsa:=qd hm;have dY:=bI (k:=i) om;refine bU (aj3 @ae @gf @ha) (ai @ae @ha) (ih' a om (k4.mem hm) (by unfold fc;omega)) ?_;by_cases xa:lQ g a=true;rotate_left
  ·exact m153
  have hq:i+1<=t.args.length∧∀ (j:Nat) a,j < i+1->t.args[j]?=some a->dt g a:=⟨om,fun j a' hj de=>by
   by_cases e:j=i
   ·subst e;rw [ha] at de;injection de with de
    subst de;exact ZhI.1 xa
   ·exact aD j a' om de⟩
  refine fR (ai @ae @xa) ?_;have F:=ai @dY @ae;exact rz
theorem Zj2 (bW:jk g) (hg:SgnOk g) {t:Tm} (aj:aK t) (hb:am t<=fc):az e0 122 [.agg (bN g),.agg (an t)] [.one (.lit (.bool (lQ g t)))]:=ZpC bW hg _ t (Tan _) aj hb
theorem yV (bW:jk g) {t:Tm} (aj:aK t) (hb:am t<=fc):az e0 57 [.agg (bN g),.agg (an t)] [.one (.lit (.bool (fA g && d4 g t)))]:=by
 have cS:=Zg1 bW;rw [bN] at cS;refine gI 31 Tryz.func57 ?_;refine bU (ai @ae @dR) @ae (cS) ?_;by_cases hs:fA g=true;rotate_left
 ·have iA:fA g=false:=by simpa using hs
  exact bP (ai @ae @iA) @iA
 have cF:=Zj2 bW (tE.1 hs) aj hb;rw [bN] at cF;refine fC (ai @ae @hs) (Zg4 hb) ?_;by_cases h1:am t<=60∧aG t<=20;rotate_left
 ·have hf:d4 g t=false:=y7 fun h=>h1 ⟨h.size,h.depth⟩;exact bP (aj3 @ae (by simp only [decide_eq_false_iff_not];exact h1:decide (am t<=60∧aG t<=20)=false) @hs) (ai @hs @hf)
 have d5:decide (am t<=60∧aG t<=20)=true:=by simp only [decide_eq_true_eq];exact h1
 refine fC (aj3 @ae @d5 @hs) (cF) ?_;exact bP (aj3 @ae @d5 @hs) (ai @hs (Zg3 (g:=g) h1.1 h1.2))
end
def gZ (o:Opr) (op:Int) (a:Tm):List Tm:=if o.assoc=true∧a.op=op then a.args else if o.unit≠0∧a.op=o.unit - 1 then [] else [a]
def dc (o:Opr) (op:Int) (xs:List Tm):List Tm:=xs.flatMap (gZ o op)
def lf (g:Sgn) (o:Opr) (d:Dcl) (i:Nat) (a:Tm):Prop:=∃ k,d.args[fE o i]?=some k∧fz g a=kd g.sorts k
def dE (o:Opr) (l:List Tm):List Tm:=if o.comm=true then cq l else l
def da (op:Int) (l:List Tm):Tm:=.mk op ByteArray.empty 0 l
def lY (o:Opr) (op:Int) (l:List Tm):Prop:=(o.assoc=true∧7 < l.length)∨60 < am (da op l)∨20 < aG (da op l)
def ui (o:Opr) (d:Dcl) (n:Nat):Prop:=(o.assoc=true∧n < 2)∨(o.assoc=false∧n≠d.args.length)
open Classical in
noncomputable def uh (o:Opr) (op:Int) (l:List Tm):Option Tm:=if o.unit≠0∧l.length < 2 then some (l.headD (ku o)) else if lY o op (dE o l) then none else some (da op (dE o l))
open Classical in
noncomputable def nd (g:Sgn) (o:Opr) (d:Dcl) (op:Int) (xs:List Tm):Option Tm:=if ui o d xs.length then none else if ∀ (i:Nat) a,xs[i]?=some a->lf g o d i a then uh o op (dc o op xs) else none
noncomputable def mO (g:Sgn) (op:Int) (xs:List Tm):Option Tm:=match g.ops[op.toNat]? with
 | none=>none
 | some o=>match o.decls[0]? with
  | none=>none
  | some d=>nd g o d op xs
theorem Zot {g:Sgn} {op:Int} {o:Opr} {d:Dcl} (ho:g.ops[op.toNat]?=some o) (hd:o.decls[0]?=some d) (xs:List Tm):mO g op xs=nd g o d op xs:=by simp only [mO,ho,hd]
theorem ZmC {o:Opr} {op:Int} {xs:List Tm} {i:Nat} {a:Tm} (h:xs[i]?=some a):dc o op (xs.take (i+1))=dc o op (xs.take i)++gZ o op a:=by
 rw [xr h];simp [dc]
theorem ZiO (o:Opr) (op:Int) (xs:List Tm) (i:Nat):(dc o op (xs.take i)).length<=(dc o op xs).length:=by
 have:dc o op xs=dc o op (xs.take i)++dc o op (xs.drop i):=by
  unfold dc;rw [<- List.flatMap_append,Tbm]
 rw [this,Tae];omega
theorem Zhp (o:Opr) (l:List Tm):(dE o l).Perm l:=by
 unfold dE;split
 ·exact nu l
 ·exact List.Perm.refl _
theorem Zs2 (o:Opr) (l:List Tm):(dE o l).length=l.length:=(Zhp o l).length_eq
theorem Zlb {l m:List Tm} (h:l.Perm m):av l=av m:=by
 induction h with
 | nil=>rfl
 | cons x h ih=>simp only [av,ih]
 | swap x y l=>simp only [av];omega
 | trans h1 h2 a b=>rw [a,b]
theorem Zkz {l m:List Tm} (h:l.Perm m):aB l=aB m:=by
 induction h with
 | nil=>rfl
 | cons x h ih=>simp only [aB,ih]
 | swap x y l=>simp only [aB];omega
 | trans h1 h2 a b=>rw [a,b]
theorem Opr.two {g:Sgn} (hg:SgnOk g) {i:Nat} {o:Opr} {d:Dcl} (ho:g.ops[i]?=some o) (hd:o.decls[0]?=some d) (h:o.assoc=true∨o.comm=true∨o.unit≠0):∃ k1 k2,d.args=[k1,k2]∧kd g.sorts k1=kd g.sorts k2∧((o.assoc=true∨o.unit≠0)->kd g.sorts k1=kd g.sorts d.res):=by
 have h2:=(hg.axs o (Tac ho)).two h d hd;obtain ⟨a,b,Bl⟩:=ZsI h2.1;have h3:=h2.2 a b (by rw [Bl];rfl) (by rw [Bl];rfl);exact ⟨a,b,Bl,h3.1,h3.2.1⟩
theorem ZBX {g:Sgn} (hg:SgnOk g) {i:Nat} {o:Opr} {d:Dcl} (ho:g.ops[i]?=some o) (hd:o.decls[0]?=some d) (hu:o.unit≠0):TermOk g (ku o)∧fz g (ku o)=kd g.sorts d.res:=by
 refine vO fun kW eD=>?_;have lV:=kW.hi;obtain ⟨k1,k2,hk,_⟩:=Opr.two hg ho hd (.inr (.inr hu));obtain ⟨p,hp⟩:∃ p,g.ops[o.unit.toNat - 1]?=some p:=⟨_,Taa om⟩;obtain ⟨u,hfu,_⟩:=hg.first hp;have h2:=((kW.two (.inr (.inr hu)) d hd).2 k1 k2 (by rw [hk];rfl) (by rw [hk];rfl)).2.2 hu p u hp hfu;have e:ku o=.mk (o.unit - 1) ByteArray.empty 0 []:=by simp only [ku,if_neg hu]
 have co:((o.unit - 1:Int)).toNat=o.unit.toNat - 1:=om;have qo:p.assoc=false:=by
  cases t8:p.assoc with
  | false=>rfl
  | true=>have:=((hg.axs p (Tac hp)).two (.inl t8) u hfu).1;omega
 have hA:AppOk g (ku o) p u:=by
  rw [e];exact ⟨by simp only [Tm.op];omega,by simp only [Tm.op];rw [co];exact hp,hfu,rfl,rfl,fun h=>(by rw [qo] at h;cases h),fun _=>by simp only [Tm.args,Tak];omega⟩
 refine ⟨⟨?_,?_,nv.2 ⟨.inr ⟨p,u,hA⟩,?_,.inr ?_⟩⟩,?_⟩
 ·rw [e];simp only [am,av];omega
 ·rw [e];simp only [aG,aB];omega
 ·rw [e];intro a ha;simp [Tm.args] at ha
 ·rw [e];intro o' d' _ _ j a ha;simp [Tm.args] at ha
 ·have jv:¬ ((ku o).op=-1):=hA.op;rw [fz,if_neg jv,e];simp only [Tm.op];rw [ZjW (by rw [co];exact hp) hfu,h2.2]
structure FlOk (g:Sgn) (o:Opr) (op:Int) (b:Tm):Prop where
 form:dt g b
 size:am b<=60
 depth:aG b<=20
 nest:o.assoc=true->b.op≠op
 unit:o.unit≠0->b.op≠o.unit - 1
theorem ZHU {g:Sgn} (hg:SgnOk g) {op:Int} {o:Opr} {d:Dcl} (h0:0<=op) (ho:g.ops[op.toNat]?=some o) (hd:o.decls[0]?=some d) {a:Tm} (ha:TermOk g a):∀ b∈gZ o op a,FlOk g o op b:=by
 intro b hb;unfold gZ at hb;split at hb
 ·rename_i h;obtain ⟨h1,h2⟩:=h;obtain ⟨_,f2,f3⟩:=nv.1 ha.form;have hR:=f3.resolve_left om;rw [h2] at hR;obtain ⟨j,hj⟩:=Tbk hb;have hA:=hR o d ho hd j b hj;have s1:=qd hb;have s2:=Zk6 hb;have s3:=ha.size;have s4:=ha.depth;rw [oK] at s3;rw [ZhJ] at s4;exact ⟨f2 b hb,om,om,hA.nest,hA.unit⟩
 ·rename_i h;split at hb
  ·simp at hb
  ·rename_i h';simp only [Tbj] at hb;subst hb;exact ⟨ha.form,ha.size,ha.depth,fun h1 h2=>h ⟨h1,h2⟩,fun h1 h2=>h' ⟨h1,h2⟩⟩
theorem ZBY {g:Sgn} (hg:SgnOk g) {op:Int} {o:Opr} {d:Dcl} (h0:0<=op) (ho:g.ops[op.toNat]?=some o) (hd:o.decls[0]?=some d) {xs:List Tm} (ha:∀ a∈xs,TermOk g a):∀ b∈dc o op xs,FlOk g o op b:=by
 intro b hb;obtain ⟨a,h1,h2⟩:=List.mem_flatMap.1 hb;exact ZHU hg h0 ho hd (ha a h1) b h2
theorem ZGr {g:Sgn} (hg:SgnOk g) {op:Int} {o:Opr} {d:Dcl} {k1 k2:Int} (h0:0<=op) (ho:g.ops[op.toNat]?=some o) (hd:o.decls[0]?=some d) (hk:d.args=[k1,k2]) (eZ:kd g.sorts k1=kd g.sorts k2) {a:Tm} (ha:TermOk g a) {i:Nat} (hK:lf g o d i a):∀ b∈gZ o op a,fz g b=kd g.sorts k1:=by
 have fW:∀ (j:Nat) k,d.args[j]?=some k->kd g.sorts k=kd g.sorts k1:=fun j k h=>by
  rw [hk] at h
  match j,h with
  | 0,h=>simp only [Tat,Taq] at h;rw [h]
  | 1,h=>simp only [Tau,Tat,Taq] at h;rw [<- h,eZ]
  | j+2,h=>simp at h
 intro b hb;unfold gZ at hb;split at hb
 ·rename_i h;obtain ⟨h1,h2⟩:=h;obtain ⟨_,f2,f3⟩:=nv.1 ha.form;have hR:=f3.resolve_left om;rw [h2] at hR;obtain ⟨j,hj⟩:=Tbk hb;exact (hR o d ho hd j b hj).kind k1 (by rw [fE,if_pos h1,hk];rfl)
 ·split at hb
  ·simp at hb
  ·simp only [Tbj] at hb;subst hb;obtain ⟨k,h1,h2⟩:=hK;rw [h2,fW _ _ h1]
theorem ZmD {g:Sgn} (hg:SgnOk g) {op:Int} {o:Opr} {d:Dcl} {k1 k2:Int} (h0:0<=op) (ho:g.ops[op.toNat]?=some o) (hd:o.decls[0]?=some d) (hk:d.args=[k1,k2]) (eZ:kd g.sorts k1=kd g.sorts k2) {xs:List Tm} (ha:∀ a∈xs,TermOk g a) (hK:∀ (i:Nat) a,xs[i]?=some a->lf g o d i a):∀ b∈dc o op xs,fz g b=kd g.sorts k1:=by
 intro b hb;obtain ⟨a,h1,h2⟩:=List.mem_flatMap.1 hb;obtain ⟨i,hi⟩:=Tbk h1;exact ZGr hg h0 ho hd hk eZ (ha a h1) (hK i a hi) b h2
theorem ZBZ {o:Opr} {op:Int} (qo:o.assoc=false) (a:Tm):(gZ o op a).length<=1∧((gZ o op a).length=1->gZ o op a=[a]):=by
 unfold gZ;rw [if_neg fun h=>by rw [qo] at h;cases h.1];split <;> simp
theorem Zlc {o:Opr} {op:Int} (qo:o.assoc=false):∀ (xs:List Tm),(dc o op xs).length<=xs.length∧((dc o op xs).length=xs.length->dc o op xs=xs)
 | []=>⟨Tai _,fun _=>rfl⟩
 | a::xs=>by
  obtain ⟨i1,i2⟩:=Zlc (op:=op) qo xs;obtain ⟨j1,j2⟩:=ZBZ (op:=op) qo a;have e:dc o op (a::xs)=gZ o op a++dc o op xs:=rfl;rw [e,Tae,Tag];refine ⟨om,fun h=>?_⟩;rw [j2 om,i2 om];rfl
theorem ZmE {o:Opr} {op:Int} (qo:o.assoc=false) (hu:o.unit=0) (xs:List Tm):dc o op xs=xs:=by
 induction xs with
 | nil=>rfl
 | cons a xs ih =>
  have e:dc o op (a::xs)=gZ o op a++dc o op xs:=rfl;rw [e,ih];unfold gZ;rw [if_neg (fun h=>by rw [qo] at h;cases h.1),if_neg fun h=>h.1 hu];rfl
theorem Zou {o:Opr} {op:Int} {g:Sgn} (hg:SgnOk g) (h0:0<=op) (ho:g.ops[op.toNat]?=some o) (dL:o.assoc=true) (hu:o.unit=0):∀ {xs:List Tm},(∀ a∈xs,TermOk g a)->xs.length<=(dc o op xs).length
 | [],_=>Tai _
 | a::xs,ha=>by
  have ih:=Zou hg h0 ho dL hu (xs:=xs) fun x hx=>ha x (Tal _ hx);have e:dc o op (a::xs)=gZ o op a++dc o op xs:=rfl;rw [e,Tae,Tag];have:1<=(gZ o op a).length:=by
   unfold gZ;split
   ·rename_i h;obtain ⟨o',d',hA⟩:=(ha a Tas).form.node.app om;have:o'=o:=by have:=hA.at';rw [h.2,ho] at this;exact zW
    subst this;have:=(hA.asc dL).1;omega
   ·rw [if_neg fun h=>h.1 hu];simp
  omega
theorem ZHf {g:Sgn} (hg:SgnOk g) {op:Int} {o:Opr} {d:Dcl} (h0:0<=op) (ho:g.ops[op.toNat]?=some o) (hd:o.decls[0]?=some d) {xs:List Tm} (ha:∀ a∈xs,TermOk g a) {t:Tm} (h:nd g o d op xs=some t):TermOk g t∧fz g t=kd g.sorts d.res:=by
 unfold nd at h;split at h
 ·cases h
 rename_i oV;split at h;rotate_left
 ·cases h
 rename_i hK;have tY:=ZBY hg h0 ho hd ha;unfold uh at h;split at h
 ·rename_i hu;obtain ⟨hu,hl⟩:=hu;injection h with h
  have hU:=ZBX hg ho hd hu;obtain ⟨k1,k2,hk,eZ,o8⟩:=Opr.two hg ho hd (.inr (.inr hu));have hfk:=ZmD hg h0 ho hd hk eZ ha hK
  cases hf:dc o op xs with
  | nil=>rw [hf] at h;simp only [List.headD] at h;subst h;exact hU
  | cons b bs =>
   rw [hf] at h tY hfk;simp only [List.headD] at h;subst h;have hb:=tY b Tas;exact ⟨⟨hb.size,hb.depth,hb.form⟩,by rw [hfk b Tas,o8 (.inr hu)]⟩
 ·rename_i hu;split at h
  ·cases h
  rename_i hB;injection h with h
  subst h;have wX:¬ (o.assoc=true∧7 < (dE o (dc o op xs)).length):=fun q=>hB (.inl q);have hB2:¬ 60 < am (da op (dE o (dc o op xs))):=fun q=>hB (.inr (.inl q));have hB3:¬ 20 < aG (da op (dE o (dc o op xs))):=fun q=>hB (.inr (.inr q));have hp:=Zhp o (dc o op xs);have fh:=hp.length_eq;have kz:∀ b,b∈dE o (dc o op xs) ↔ b∈dc o op xs:=fun b=>hp.mem_iff;have jv:¬ ((da op (dE o (dc o op xs))).op=-1):=by simp only [da,Tm.op];omega
  refine ⟨⟨om,om,nv.2 ⟨.inr ⟨o,d,h0,ho,hd,rfl,rfl,fun dL=>?_,fun qo=>?_⟩,fun a hm=>(tY a ((kz a).1 hm)).form,.inr ?_⟩⟩,?_⟩
  ·simp only [da,Tm.args];have:¬ (xs.length < 2):=fun q=>oV (.inl ⟨dL,q⟩);by_cases gl:o.unit=0
   ·have:=Zou hg h0 ho dL gl ha;exact ⟨om,by have:¬ (7 < (dE o (dc o op xs)).length):=fun q=>wX ⟨dL,q⟩;omega⟩
   ·exact ⟨by have:¬ ((dc o op xs).length < 2):=fun q=>hu ⟨gl,q⟩;omega,by have:¬ (7 < (dE o (dc o op xs)).length):=fun q=>wX ⟨dL,q⟩;omega⟩
  ·simp only [da,Tm.args];have bu:xs.length=d.args.length:=Classical.byContradiction fun q=>oV (.inr ⟨qo,q⟩);rw [fh];by_cases gl:o.unit=0
   ·rw [ZmE qo gl,bu]
   ·obtain ⟨k1,k2,hk,_⟩:=Opr.two hg ho hd (.inr (.inr gl));have h1:=(Zlc (op:=op) qo xs).1;have:¬ ((dc o op xs).length < 2):=fun q=>hu ⟨gl,q⟩;rw [bu,hk] at h1;rw [hk];simp only [Tag,Tak] at h1 ⊢;omega
  ·intro o' d' bZ dn i a hi;simp only [da,Tm.op] at bZ;rw [ho] at bZ;injection bZ with bZ
   subst bZ;rw [hd] at dn;injection dn with dn
   subst dn;simp only [da,Tm.args] at hi ⊢;have hm:=Tac hi;have hf:=tY a ((kz a).1 hm);refine ⟨fun k hk=>?_,hf.nest,hf.unit,fun hc j p nQ hj=>?_⟩
   ·by_cases kW:o.assoc=true∨o.comm=true∨o.unit≠0
    ·obtain ⟨k1,k2,BH,eZ,_⟩:=Opr.two hg ho hd kW;rw [(ZmD hg h0 ho hd BH eZ ha hK a ((kz a).1 hm))];have:kd g.sorts k=kd g.sorts k1:=by
      generalize fE o i=n at hk;rw [BH] at hk
      match n,hk with
      | 0,hk=>simp only [Tat,Taq] at hk;rw [hk]
      | 1,hk=>simp only [Tau,Tat,Taq] at hk;rw [<- hk,eZ]
      | n+2,hk=>simp at hk
     rw [this]
    ·have qo:o.assoc=false:=by cases h:o.assoc with | false=>rfl | true=>exact absurd (.inl h) kW
     have hc:o.comm=false:=by cases h:o.comm with | false=>rfl | true=>exact absurd (.inr (.inl h)) kW
     have gl:o.unit=0:=Classical.byContradiction fun q=>kW (.inr (.inr q));rw [dE,if_neg (by rw [hc];simp),ZmE qo gl] at hi;obtain ⟨k',h1,h2⟩:=hK i a hi;rw [hk] at h1;injection h1 with h1
     rw [h2,h1]
   ·rw [dE,if_pos hc] at hi hj;exact (rJ _).get om hj hi
  ·rw [fz,if_neg jv];simp only [da,Tm.op];rw [ZjW ho hd]
theorem dt.ok {g:Sgn} (hg:SgnOk g):∀ (n:Nat) (t:Tm),am t < n->dt g t->aK t:=by
 intro n
 induction n with
 | zero=>intro t h;omega
 | succ n ih =>
  intro t hn hf;obtain ⟨h1,h2,_⟩:=nv.1 hf;have cd:b9 t.args:=by
   have:∀ l:List Tm,(∀ a∈l,aK a)->b9 l:=fun l=>by
    induction l with
    | nil=>intro _;trivial
    | cons x xs ih=>intro h;exact ⟨h x Tas,ih fun a ha=>h a (Tal _ ha)⟩
   refine this _ fun a ha=>ih a ?_ (h2 a ha);have:=qd ha;rw [oK] at hn;omega
  rw [Zft];have qv:g.sorts.names.length<=8:=hg.sorts.n8;rcases h1 with hv | ⟨o,d,hA⟩
  ·obtain ⟨v1,v2,v3,v4,v5⟩:=hv;have:t.name.size<=12:=by unfold iS at v2;simp only [Tar,decide_eq_true_eq] at v2;exact v2.1.1.1.2
   exact ⟨by unfold eP;omega,by unfold maxLen;omega,by unfold eP;omega,cd⟩
  ·have h3:=hA.lo;have h4:=(Tad.1 hA.at').1;have h5:=hg.len;rw [hA.nm,hA.so];exact ⟨by unfold eP;omega,by simp [maxLen],by unfold eP;omega,cd⟩
theorem TermOk.ok {g:Sgn} (hg:SgnOk g) {t:Tm} (h:TermOk g t):aK t:=dt.ok hg _ t (Tan _) h.form
theorem TermOk.arg {g:Sgn} {t a:Tm} (h:TermOk g t) (ha:a∈t.args):TermOk g a:=by
 have s1:=qd ha;have s2:=Zk6 ha;have s3:=h.size;have s4:=h.depth;rw [oK] at s3;rw [ZhJ] at s4;exact ⟨om,om,(nv.1 h.form).2.1 a ha⟩
theorem TermOk.app {g:Sgn} {t a:Tm} (h:TermOk g t) (ha:a∈t.args):∃ o d,AppOk g t o d:=by
 rcases h.form.node with hv | h
 ·rw [hv.2.2.2.2] at ha;cases ha
 ·exact h
theorem Zld {g:Sgn} (hg:SgnOk g) {op:Int} (h0:0<=op) {xs:List Tm} (ha:∀ a∈xs,TermOk g a) {t:Tm} (h:mO g op xs=some t):TermOk g t:=by
 unfold mO at h
 cases ho:g.ops[op.toNat]? with
 | none=>rw [ho] at h;cases h
 | some o =>
  rw [ho] at h;simp only at h
  cases hd:o.decls[0]? with
  | none=>rw [hd] at h;cases h
  | some d =>
   rw [hd] at h;exact (ZHf hg h0 ho hd ha h).1
theorem ZpD {P:Tm->Prop} {l:List Tm} {i:Nat} {x:Tm} (hl:∀ a∈l,P a) (hx:P x):∀ a∈l.set i x,P a:=fun a ha=>by
 rcases List.mem_or_eq_of_mem_set ha with h | h
 ·exact hl a h
 ·rw [h];exact hx
theorem ZgK {g:Sgn} {t:Tm} (h:TermOk g t):t.args.length<=60:=by
 have h1:=h.size;rw [oK] at h1;have:=uw t.args;omega
theorem Cd {p:Prop} (h:p:=by
 refine List.all_eq_true.2 fun r hr=>?_;obtain ⟨y,hy,rfl⟩:=Tbi.1 hr;simp [fS,List.all_append,ae]):p:=h
def wM (l:List Bd):Prop:=∀ b∈l,CO b
def je (l:List Bd):List (List C):=l.map fS
theorem xx (l:List Bd):(je l).length=l.length:=by simp [je]
theorem C4 (l:List Bd) (i:Nat):(je l)[i]?=l[i]?.map fS:=by simp [je]
theorem xW:∀ (b:Bd),(fS b).length=8:=fun b=>by simp [fS,ae]
theorem ZFJ:∀ (b:Bd),(fS b).take 8=fS b:=fun b=>List.take_of_length_le (by rw [xW];omega)
theorem ZFK:∀ (b:Bd),(fS b).drop 8=[]:=fun b=>List.drop_eq_nil_of_le (by rw [xW];omega)
theorem ZFL:∀ (b:Bd),(fS b).take 4=an b.var:=fun ⟨v,t⟩=>by cases v;simp [fS,an]
theorem ZFM:∀ (b:Bd),(fS b).drop 4=an b.to:=fun ⟨v,t⟩=>by cases v;simp [fS,an]
theorem ZFN:∀ (b:Bd),(fS b).drop 2=.lit (.int .i64 b.var.sort)::.sl (aq b.var.args)::an b.to:=fun ⟨v,t⟩=>by cases v;simp [fS,an,Tm.sort,Tm.args]
theorem bd_o:∀ (b:Bd),fQ TK.one (fS b)=some (A.d (D.one (C.lit (Value.int IntKind.i64 b.var.op)))):=fun ⟨v,t⟩=>by cases v;simp [fS,an,Tm.op,fQ]
theorem bd_k:∀ (b:Bd),(fS b).all aY=true:=fun b=>by simp [fS,List.all_append,ae]
theorem gN:type_of% (aj8 xW ZFJ ZFK ZFL ZFM ZFN bd_o bd_k):=aj8 xW ZFJ ZFK ZFL ZFM ZFN bd_o bd_k
theorem Zx0:∀ (b:Bd),(fS b).drop 1=.lit (.string b.var.name)::.lit (.int .i64 b.var.sort)::.sl (aq b.var.args)::an b.to:=fun ⟨v,t⟩=>by cases v;simp [fS,an,Tm.sort,Tm.args,Tm.name]
theorem uP (l:List Bd):ZaB 8 (je l)=true:=by
 exact Cd
end Go.Proofs.YtbecmfjokofihaaGreatDoor
namespace Go.Proofs.YtbecmfjokofihaaGreatDoor
theorem Znb (m p:Nat) (a b:Bool):(2 * m+a.toNat) &&& (2 * p+b.toNat)=2 * (m &&& p)+(a && b).toNat:=by
 apply Nat.eq_of_testBit_eq;intro i;rw [Nat.testBit_and]
 cases i with
 | zero=>simp only [Nat.testBit_zero];cases a <;> cases b <;> simp [Nat.add_mod]
 | succ i =>
  simp only [Nat.testBit_succ];have h:∀ (n:Nat) (c:Bool),(2 * n+c.toNat) / 2=n:=fun n c=>by cases c <;> simp <;> omega
  rw [h,h,h,Nat.testBit_and]
theorem Zle (n:Nat):∃ m,∃ a:Bool,n=2 * m+a.toNat:=by
 refine ⟨n / 2,decide (n % 2=1),?_⟩;rcases Nat.mod_two_eq_zero_or_one n with h | h
 ·rw [h];simp;omega
 ·rw [h];simp;omega
theorem ZGs {m p:Nat} {a b:Bool}:2 * m+a.toNat=2 * p+b.toNat ↔ m=p∧a=b:=by
 constructor
 ·intro h;cases a <;> cases b <;> simp_all <;> omega
 ·rintro ⟨rfl,rfl⟩;rfl
theorem Zqx {q m:Nat} (h:q &&& m=q):q<=m:=by rw [<- h];exact Nat.and_le_right
theorem Zs3:∀ (m p q:Nat),p &&& m=p->q &&& m=q->q < p->q<=(p - 1) &&& m:=by
 intro m
 induction m using Nat.strongRecOn with
 | ind m ih =>
 intro p q hp hq au;by_cases hm:m=0
 ·subst hm;simp at hp hq;omega
 obtain ⟨m',a,rfl⟩:=Zle m;obtain ⟨p',b,rfl⟩:=Zle p;obtain ⟨q',c,rfl⟩:=Zle q;rw [Znb,ZGs] at hp hq;have BJ:m' < 2 * m'+a.toNat:=by cases a <;> simp at hm ⊢ <;> omega
 cases b with
 | true =>
  have e:2 * p'+true.toNat - 1=2 * p'+false.toNat:=by simp
  rw [e,Znb,hp.1]
  cases c <;> simp at au hq ⊢ <;> omega
 | false =>
  have hlt':q' < p':=by cases c <;> simp at au <;> omega
  have e:2 * p'+false.toNat - 1=2 * (p' - 1)+true.toNat:=by simp;omega
  rw [e,Znb];have:=ih m' BJ p' q' hp.1 hq.1 hlt';have h2:=hq.2
  cases c <;> cases a <;> simp at h2 ⊢ <;> omega
open Classical in
noncomputable def bE (P:Nat->Prop):Nat->Nat
 | 0=>0
 | n+1=>bE P n ||| (if P n then 2 ^ n else 0)
theorem tC (P:Nat->Prop):∀ (n i:Nat),(bE P n).testBit i=true ↔ i < n∧P i
 | 0,i=>by simp [bE]
 | n+1,i=>by
  rw [bE,Nat.testBit_or,Bool.or_eq_true,tC P n i];by_cases h:P n
  ·rw [if_pos h,Nat.testBit_two_pow];simp only [decide_eq_true_eq];constructor
   ·rintro (⟨h1,h2⟩ | rfl)
    ·exact ⟨om,h2⟩
    ·exact ⟨om,h⟩
   ·rintro ⟨h1,h2⟩;by_cases h3:n=i
    ·exact .inr h3
    ·exact .inl ⟨om,h2⟩
  ·rw [if_neg h];simp only [Nat.zero_testBit,Tam,or_false];constructor
   ·rintro ⟨h1,h2⟩;exact ⟨om,h2⟩
   ·rintro ⟨h1,h2⟩;by_cases h3:i=n
    ·subst h3;exact absurd h2 h
    ·exact ⟨om,h2⟩
theorem nz (P:Nat->Prop) (n:Nat):bE P n < 2 ^ n:=by
 apply Nat.lt_pow_two_of_testBit;intro i hi
 cases h:(bE P n).testBit i with
 | false=>rfl
 | true=>have:=((tC P n i).1 h).1;omega
theorem Zov {v n i:Nat} (h:v < 2 ^ n) (hb:v.testBit i=true):i < n:=by
 apply Classical.byContradiction;intro hc;have:v < 2 ^ i:=Tbd h (Tbs (by decide) om);rw [Tbt this] at hb
 cases hb
theorem Zx1 {v u:Nat} (h:∀ i,v.testBit i=true ↔ u.testBit i=true):v=u:=by
 apply Nat.eq_of_testBit_eq;intro i;have:=h i
 cases h1:v.testBit i <;> cases h2:u.testBit i <;> simp_all
theorem Zow {P:Nat->Prop} {n v:Nat} (hv:v < 2 ^ n) (h:∀ i,i < n->(v.testBit i=true ↔ P i)):v=bE P n:=by
 apply Zx1;intro i;rw [tC];constructor
 ·intro hb;have:=Zov hv hb;exact ⟨this,(h i this).1 hb⟩
 ·rintro ⟨h1,h2⟩;exact (h i h1).2 h2
theorem li {P Q:Nat->Prop} {n:Nat} (h:∀ i,i < n->(P i ↔ Q i)):bE P n=bE Q n :=
 Zow (nz P n) fun i hi=>by rw [tC,h i hi];exact ⟨fun x=>x.2,fun x=>⟨hi,x⟩⟩
inductive BagB (R:Nat->Nat->Nat->Prop) (sets:List Nat):Nat->Nat->Prop
 | leaf {i b s:Nat}:sets[i]?=some s->s.testBit b=true->BagB R sets (2 ^ i) b
 | node {p q a c b:Nat}:p≠0->q≠0->p &&& q=0->BagB R sets p a->BagB R sets q c->R a c b->BagB R sets (p ||| q) b
inductive ChB (R:Nat->Nat->Nat->Prop) (sets:List Nat):Nat->Nat->Nat->Prop
 | leaf {i b s:Nat}:sets[i]?=some s->s.testBit b=true->ChB R sets i (i+1) b
 | node {i k j a c b:Nat}:i < k->k < j->ChB R sets i k a->ChB R sets k j c->R a c b->ChB R sets i j b
def j7 (R:Nat->Nat->Nat->Prop) (s t b:Nat):Prop:=∃ a c,s.testBit a=true∧t.testBit c=true∧R a c b
theorem ZwY (i j:Nat):(2 ^ i).testBit j=true ↔ i=j:=by rw [Nat.testBit_two_pow];simp
theorem Znc {p:Nat} (h:p≠0):∃ i,p.testBit i=true:=by
 apply Classical.byContradiction;intro hc;apply h;apply Nat.eq_of_testBit_eq;intro i
 cases hb:p.testBit i with
 | false=>simp
 | true=>exact absurd ⟨i,hb⟩ hc
theorem ZpE {p q i:Nat} (h:p &&& q=0) (h1:p.testBit i=true) (h2:q.testBit i=true):False:=by
 have:=congrArg (fun x=>x.testBit i) h;simp [h1,h2] at this
theorem Zx2 {p q i:Nat} (hp:p≠0) (hq:q≠0) (h:p &&& q=0):p ||| q≠2 ^ i:=by
 intro e;obtain ⟨a,ha⟩:=Znc hp;obtain ⟨c,hc⟩:=Znc hq;have h1:(2 ^ i).testBit a=true:=by rw [<- e,Nat.testBit_or,ha];rfl
 have h2:(2 ^ i).testBit c=true:=by rw [<- e,Nat.testBit_or,hc];simp
 rw [ZwY] at h1 h2;subst h1;subst h2;exact ZpE h ha hc
theorem Znd {R:Nat->Nat->Nat->Prop} {sets:List Nat} {i s b:Nat} (hs:sets[i]?=some s):BagB R sets (2 ^ i) b ↔ s.testBit b=true:=by
 constructor
 ·intro h;generalize hm:2 ^ i=m at h
  cases h with
  | leaf h1 h2 =>
   have:=(Nat.pow_right_inj (by decide)).1 hm;subst this;rw [hs] at h1;injection h1 with h1;subst h1;exact h2
  | node h1 h2 h3 _ _ _=>exact absurd hm.symm (Zx2 h1 h2 h3)
 ·exact fun h=>.leaf hs h
theorem ZHg {p q:Nat} (h:p &&& q=0):(p ||| q) ^^^ p=q:=by
 apply Nat.eq_of_testBit_eq;intro i;rw [Nat.testBit_xor,Nat.testBit_or]
 cases h1:p.testBit i <;> cases h2:q.testBit i <;> simp
 exact absurd h1 (by intro h1;exact ZpE h h1 h2)
theorem ZwZ {p m:Nat} (h:p &&& m=p) {i:Nat} (hi:p.testBit i=true):m.testBit i=true:=by
 rw [<- h,Nat.testBit_and] at hi;simp at hi;exact hi.2
theorem Zw0 {p m:Nat} (h:p &&& m=p):p &&& (m ^^^ p)=0∧p ||| (m ^^^ p)=m:=by
 constructor
 ·apply Nat.eq_of_testBit_eq;intro i;rw [Nat.testBit_and,Nat.testBit_xor]
  cases h1:p.testBit i with
  | false=>simp
  | true=>simp [ZwZ h h1]
 ·apply Nat.eq_of_testBit_eq;intro i;rw [Nat.testBit_or,Nat.testBit_xor]
  cases h1:p.testBit i with
  | false=>simp
  | true=>simp [ZwZ h h1]
theorem Zs4 {p m:Nat} (h:p≠m):m ^^^ p≠0:=by
 intro e;apply h;apply Nat.eq_of_testBit_eq;intro i;have:=congrArg (fun x=>x.testBit i) e;rw [Nat.testBit_xor] at this
 cases h1:p.testBit i <;> cases h2:m.testBit i <;> simp [h1,h2] at this ⊢
theorem Zs5 {R:Nat->Nat->Nat->Prop} {sets:List Nat} {m b:Nat} (hm:∀ i,m≠2 ^ i):BagB R sets m b ↔ ∃ p,p≠0∧p≠m∧p &&& m=p∧∃ a c,BagB R sets p a∧BagB R sets (m ^^^ p) c∧R a c b:=by
 constructor
 ·intro h
  cases h with
  | leaf=>exact absurd rfl (hm _)
  | node h1 h2 h3 h4 h5 h6 =>
   rename_i p q a c;refine ⟨p,h1,?_,?_,a,c,h4,?_,h6⟩
   ·intro e;obtain ⟨i,hi⟩:=Znc h2;exact ZpE h3 (by rw [e,Nat.testBit_or,hi];simp) hi
   ·apply Nat.eq_of_testBit_eq;intro i;rw [Nat.testBit_and,Nat.testBit_or];cases p.testBit i <;> simp
   ·rw [ZHg h3];exact h5
 ·rintro ⟨p,h1,h2,h3,a,c,h4,h5,h6⟩;have:=Zw0 h3;have h:=BagB.node h1 (Zs4 h2) this.1 h4 h5 h6;rw [this.2] at h;exact h
theorem Zjt {R:Nat->Nat->Nat->Prop} {sets:List Nat} {i s b:Nat} (hs:sets[i]?=some s):ChB R sets i (i+1) b ↔ s.testBit b=true:=by
 constructor
 ·intro h;generalize hj:i+1=j at h
  cases h with
  | leaf h1 h2=>rw [hs] at h1;injection h1 with h1;subst h1;exact h2
  | node h1 h2 _ _ _=>omega
 ·exact fun h=>.leaf hs h
theorem Zw1 {R:Nat->Nat->Nat->Prop} {sets:List Nat} {i j b:Nat} (nQ:i+1 < j):ChB R sets i j b ↔ ∃ k,i < k∧k < j∧∃ a c,ChB R sets i k a∧ChB R sets k j c∧R a c b:=by
 constructor
 ·intro h
  cases h with
  | leaf=>omega
  | node h1 h2 h3 h4 h5=>exact ⟨_,h1,h2,_,_,h3,h4,h5⟩
 ·rintro ⟨k,h1,h2,a,c,h3,h4,h5⟩;exact .node h1 h2 h3 h4 h5
theorem ZHh {R:Nat->Nat->Nat->Prop} {s t b:Nat}:ChB R [s,t] 0 2 b ↔ j7 R s t b:=by
 rw [Zw1 om];constructor
 ·rintro ⟨k,h1,h2,a,c,h3,h4,h5⟩;obtain rfl:k=1:=by omega
  exact ⟨a,c,(Zjt (i:=0) rfl).1 h3,(Zjt (i:=1) rfl).1 h4,h5⟩
 ·rintro ⟨a,c,h3,h4,h5⟩;exact ⟨1,om,om,a,c,(Zjt (i:=0) rfl).2 h3,(Zjt (i:=1) rfl).2 h4,h5⟩
theorem ZB0:∀ i,3≠2 ^ i
 | 0=>by decide
 | 1=>by decide
 | i+2=>by rw [Nat.pow_succ];omega
theorem ZGt {R:Nat->Nat->Nat->Prop} {s t b:Nat}:BagB R [s,t] 3 b ↔ j7 R s t b∨j7 R t s b:=by
 rw [Zs5 ZB0];have l0:∀ x,BagB R [s,t] 1 x ↔ s.testBit x=true:=fun x=>Znd (i:=0) rfl;have l1:∀ x,BagB R [s,t] 2 x ↔ t.testBit x=true:=fun x=>Znd (i:=1) rfl;constructor
 ·rintro ⟨p,h1,h2,h3,a,c,h4,h5,h6⟩;have:=Zqx h3;rcases (by omega:p=1∨p=2) with rfl | rfl
  ·exact .inl ⟨a,c,(l0 a).1 h4,(l1 c).1 h5,h6⟩
  ·exact .inr ⟨a,c,(l1 a).1 h4,(l0 c).1 h5,h6⟩
 ·rintro (⟨a,c,h4,h5,h6⟩ | ⟨a,c,h4,h5,h6⟩)
  ·exact ⟨1,by decide,by decide,by decide,a,c,(l0 a).2 h4,(l1 c).2 h5,h6⟩
  ·exact ⟨2,by decide,by decide,by decide,a,c,(l1 a).2 h4,(l0 c).2 h5,h6⟩
end Go.Proofs.YtbecmfjokofihaaGreatDoor
namespace Go.Proofs.YtbecmfjokofihaaGreatDoor
open Go.RowKit
theorem AC (P Q:Nat->Prop) (n:Nat):bE P n ||| bE Q n=bE (fun b=>P b∨Q b) n :=
 Zow (Nat.or_lt_two_pow (nz P n) (nz Q n)) fun i hi=>by
  rw [Nat.testBit_or,Bool.or_eq_true,tC,tC];simp only [hi,true_and]
theorem Zih {P:Nat->Prop} {n:Nat} (h:∀ i,i < n->¬ P i):bE P n=0 :=
 (Zow (Nat.pos_of_ne_zero (by have:=Nat.one_le_two_pow (n:=n);omega)) fun i hi=>by
  rw [Nat.zero_testBit];exact ⟨fun e=>(by cases e),fun e=>absurd e (h i hi)⟩).symm
theorem Zii {v n:Nat} (h:v < 2 ^ n):bE (fun b=>v.testBit b=true) n=v:=(Zow h fun i _=>Iff.rfl).symm
def vZ (g:Sgn) (k:Int):Nat:=(up g.sorts).getD k.toNat 0
theorem Zju {g:Sgn} (hs:SortsOk g.sorts) {k:Int} (h0:0<=k) (h1:k < g.sorts.names.length):(up g.sorts)[k.toNat]?=some (vZ g k)∧vZ g k < 2 ^ g.sorts.names.length :=
 (wO (SortsOk.subsIn hs.subs)).get om
def pl (g:Sgn) (o:Opr) (sets:List Nat) (b:Nat):Prop:=∃ d∈o.decls,(∀ (i:Nat) k s,d.args[i]?=some k->sets[i]?=some s->s.testBit k.toNat=true)∧(vZ g d.res).testBit b=true
def bY (g:Sgn) (o:Opr) (a c b:Nat):Prop:=∃ d∈o.decls,d.args.map Int.toNat=[a,c]∧(vZ g d.res).testBit b=true
def lX (g:Sgn) (o:Opr) (sets:List Nat) (b:Nat):Prop:=pl g o sets b∨(o.comm=true∧pl g o sets.reverse b)
def qA (g:Sgn) (o:Opr) (sets:List Nat) (b:Nat):Prop:=if o.assoc=true then (if o.comm=true then BagB (bY g o) sets (2 ^ sets.length - 1) b else ChB (bY g o) sets 0 sets.length b) else lX g o sets b
noncomputable def jl (g:Sgn) (o:Opr) (sets:List Nat):Nat:=bE (qA g o sets) g.sorts.names.length
mutual
noncomputable def ao (g:Sgn):Tm->Nat
 | .mk op _ so args=>if op=-1 then vZ g so else match g.ops[op.toNat]? with
  | none=>0
  | some o=>jl g o (Zj3 g args)
noncomputable def Zj3 (g:Sgn):List Tm->List Nat
 | []=>[]
 | t::ts=>ao g t::Zj3 g ts
end
theorem Zlf (g:Sgn):∀ (l:List Tm),Zj3 g l=l.map (ao g)
 | []=>rfl
 | t::ts=>by simp only [Zj3,Tbu,Zlf g ts]
theorem Zja {g:Sgn} {t:Tm} (h:t.op=-1):ao g t=vZ g t.sort:=by
 obtain ⟨op,nm,so,args⟩:=t;simp only [Tm.op] at h;simp only [ao,if_pos h,Tm.sort]
theorem Zjb {g:Sgn} {t:Tm} {o:Opr} (h:t.op≠-1) (ho:g.ops[t.op.toNat]?=some o):ao g t=jl g o (t.args.map (ao g)):=by
 obtain ⟨op,nm,so,args⟩:=t;simp only [Tm.op] at h ho;simp only [ao,if_neg h,ho,Tm.args,Zlf]
theorem ZfM {g:Sgn} (hg:SgnOk g) {t:Tm} (ht:qg g t):ao g t < 2 ^ g.sorts.names.length:=by
 rcases ht with hv | ⟨o,d,hA⟩
 ·rw [Zja hv.1];exact (Zju hg.sorts hv.2.2.1 hv.2.2.2.1).2
 ·rw [Zjb hA.op hA.at'];exact nz _ _
theorem bY.lt {g:Sgn} (hg:SgnOk g) {o:Opr} (ho:o∈g.ops) {a c b:Nat} (h:bY g o a c b):b < g.sorts.names.length:=by
 obtain ⟨d,hd,_,hb⟩:=h;have hD:=hg.decls o ho;obtain ⟨f,hf,_⟩:=hD.first;have dn:=hD.all f hf d hd;exact Zov (Zju hg.sorts dn.res.1 dn.res.2).2 hb
theorem Ay {g:Sgn} {o:Opr} (h2:∀ d∈o.decls,d.args.length=2) {s t b:Nat}:pl g o [s,t] b ↔ j7 (bY g o) s t b:=by
 constructor
 ·rintro ⟨d,hd,h1,hb⟩;obtain ⟨x,y,B8⟩:=ZsI (h2 d hd);rw [B8] at h1;exact ⟨x.toNat,y.toNat,h1 0 x s rfl rfl,h1 1 y t rfl rfl,d,hd,by rw [B8];rfl,hb⟩
 ·rintro ⟨a,c,ha,hc,d,hd,he,hb⟩;obtain ⟨x,y,B8⟩:=ZsI (h2 d hd);rw [B8] at he;simp only [Tbu,List.map_nil,List.cons.injEq,and_true] at he;obtain ⟨rfl,rfl⟩:=he;refine ⟨d,hd,fun i k u hk hu=>?_,hb⟩;rw [B8] at hk
  match i,hk,hu with
  | 0,hk,hu =>
   simp only [Tat,Taq] at hk hu;subst hk;subst hu;exact ha
  | 1,hk,hu =>
   simp only [Tau,Tat,Taq] at hk hu;subst hk;subst hu;exact hc
  | i+2,hk,hu=>simp at hk
theorem Opr.deg2 {g:Sgn} (hg:SgnOk g) {i:Nat} {o:Opr} (ho:g.ops[i]?=some o) (h:o.assoc=true∨o.comm=true∨o.unit≠0):∀ d∈o.decls,d.args.length=2:=by
 intro d hd;have hm:=Tac ho;have hD:=hg.decls o hm;obtain ⟨f,hf,_⟩:=hD.first;rw [(hD.all f hf d hd).len];exact ((hg.axs o hm).two h f hf).1
theorem ZGu {g:Sgn} (hg:SgnOk g) {i:Nat} {o:Opr} (ho:g.ops[i]?=some o) {sets:List Nat} (h:o.assoc=true->sets.length=2):bE (lX g o sets) g.sorts.names.length=jl g o sets:=by
 unfold jl;refine li fun b _=>?_;unfold qA
 cases ha:o.assoc with
 | false=>rw [if_neg (by simp)]
 | true =>
  rw [if_pos rfl];have h2:=Opr.deg2 hg ho (.inl ha);obtain ⟨s,t,bm⟩:∃ s t,sets=[s,t]:=by
   match sets,h ha with
   | [s,t],_=>exact ⟨s,t,rfl⟩
  subst bm;unfold lX;simp only [List.reverse_cons,List.reverse_nil,Tah,List.singleton_append];rw [Ay h2,Ay h2]
  cases hc:o.comm with
  | false =>
   rw [if_neg (by simp)];simp only [Tag,Tak];rw [ZHh];simp
  | true =>
   rw [if_pos rfl];simp only [Tag,Tak];rw [show 2 ^ (0+1+1) - 1=3 from rfl,ZGt];simp
theorem BagB.lt {R:Nat->Nat->Nat->Prop} {sets:List Nat} {N:Nat} (hs:∀ s∈sets,s < 2 ^ N) (hR:∀ a c b,R a c b->b < N) {m b:Nat} (h:BagB R sets m b):b < N:=by
 cases h with
 | leaf h1 h2=>exact Zov (hs _ (Tac h1)) h2
 | node _ _ _ _ _ h=>exact hR _ _ _ h
theorem ChB.lt {R:Nat->Nat->Nat->Prop} {sets:List Nat} {N:Nat} (hs:∀ s∈sets,s < 2 ^ N) (hR:∀ a c b,R a c b->b < N) {i j b:Nat} (h:ChB R sets i j b):b < N:=by
 cases h with
 | leaf h1 h2=>exact Zov (hs _ (Tac h1)) h2
 | node _ _ _ _ h=>exact hR _ _ _ h
def xP (R:Nat->Nat->Nat->Prop) (sets:List Nat) (N m part b:Nat):Prop:=∃ p,part < p∧p≠0∧p≠m∧p &&& m=p∧j7 R (bE (BagB R sets p) N) (bE (BagB R sets (m ^^^ p)) N) b
theorem Zl5 {R:Nat->Nat->Nat->Prop} {P Q:Nat->Prop} {N b:Nat} (hP:∀ b,P b->b < N) (hQ:∀ b,Q b->b < N):j7 R (bE P N) (bE Q N) b ↔ ∃ a c,P a∧Q c∧R a c b:=by
 unfold j7;constructor
 ·rintro ⟨a,c,h1,h2,h3⟩;exact ⟨a,c,((tC _ _ _).1 h1).2,((tC _ _ _).1 h2).2,h3⟩
 ·rintro ⟨a,c,h1,h2,h3⟩;exact ⟨a,c,(tC _ _ _).2 ⟨hP a h1,h1⟩,(tC _ _ _).2 ⟨hQ c h2,h2⟩,h3⟩
theorem Zox {R:Nat->Nat->Nat->Prop} {sets:List Nat} {N m:Nat} (hm:m≠0):bE (xP R sets N m ((m - 1) &&& m)) N=0:=Zih fun b _ h=>by
 obtain ⟨p,h1,h2,h3,h4,_⟩:=h;have h5:=Zqx h4;have:=Zs3 m m p (Nat.and_self m) h4 om;omega
theorem Zqy {R:Nat->Nat->Nat->Prop} {sets:List Nat} {N m p b:Nat} (hp:p≠0) (hm:p≠m) (h:p &&& m=p):xP R sets N m ((p - 1) &&& m) b ↔ xP R sets N m p b∨j7 R (bE (BagB R sets p) N) (bE (BagB R sets (m ^^^ p)) N) b:=by
 constructor
 ·rintro ⟨q,h1,h2,h3,h4,h5⟩;by_cases hq:p < q
  ·exact .inl ⟨q,hq,h2,h3,h4,h5⟩
  ·by_cases e:q=p
   ·subst e;exact .inr h5
   ·have:=Zs3 m p q h h4 om;omega
 ·have au:(p - 1) &&& m < p:=by have:(p - 1) &&& m<=p - 1:=Nat.and_le_left;omega
  rintro (⟨q,h1,h2,h3,h4,h5⟩ | h5)
  ·exact ⟨q,om,h2,h3,h4,h5⟩
  ·exact ⟨p,au,hp,hm,h,h5⟩
theorem Zs6 {R:Nat->Nat->Nat->Prop} {sets:List Nat} {N m:Nat} (hs:∀ s∈sets,s < 2 ^ N) (hR:∀ a c b,R a c b->b < N) (hm:∀ i,m≠2 ^ i):bE (xP R sets N m 0) N=bE (BagB R sets m) N:=li fun b _=>by
 rw [Zs5 hm];unfold xP;constructor
 ·rintro ⟨p,h1,h2,h3,h4,h5⟩;obtain ⟨a,c,h6,h7,h8⟩:=(Zl5 (fun b hb=>BagB.lt hs hR hb) (fun b hb=>BagB.lt hs hR hb)).1 h5;exact ⟨p,h2,h3,h4,a,c,h6,h7,h8⟩
 ·rintro ⟨p,h2,h3,h4,a,c,h6,h7,h8⟩;exact ⟨p,om,h2,h3,h4,(Zl5 (fun b hb=>BagB.lt hs hR hb) (fun b hb=>BagB.lt hs hR hb)).2 ⟨a,c,h6,h7,h8⟩⟩
def fv (R:Nat->Nat->Nat->Prop) (sets:List Nat) (N i j at' b:Nat):Prop:=∃ k,i < k∧k < at'∧k < j∧j7 R (bE (ChB R sets i k) N) (bE (ChB R sets k j) N) b
theorem Zqz {R:Nat->Nat->Nat->Prop} {sets:List Nat} {N i j:Nat}:bE (fv R sets N i j (i+1)) N=0:=Zih fun b _ h=>by
 obtain ⟨k,h1,h2,_⟩:=h;omega
theorem Zs7 {R:Nat->Nat->Nat->Prop} {sets:List Nat} {N i j k b:Nat} (h1:i < k) (h2:k < j):fv R sets N i j (k+1) b ↔ fv R sets N i j k b∨j7 R (bE (ChB R sets i k) N) (bE (ChB R sets k j) N) b:=by
 constructor
 ·rintro ⟨q,q1,q2,q3,q4⟩;by_cases e:q=k
  ·subst e;exact .inr q4
  ·exact .inl ⟨q,q1,om,q3,q4⟩
 ·rintro (⟨q,q1,q2,q3,q4⟩ | h)
  ·exact ⟨q,q1,om,q3,q4⟩
  ·exact ⟨k,h1,om,h2,h⟩
theorem Zw2 {R:Nat->Nat->Nat->Prop} {sets:List Nat} {N i j:Nat} (hs:∀ s∈sets,s < 2 ^ N) (hR:∀ a c b,R a c b->b < N) (nQ:i+1 < j):bE (fv R sets N i j j) N=bE (ChB R sets i j) N:=li fun b _=>by
 rw [Zw1 nQ];unfold fv;constructor
 ·rintro ⟨k,h1,h2,h3,h5⟩;obtain ⟨a,c,h6,h7,h8⟩:=(Zl5 (fun b hb=>ChB.lt hs hR hb) (fun b hb=>ChB.lt hs hR hb)).1 h5;exact ⟨k,h1,h2,a,c,h6,h7,h8⟩
 ·rintro ⟨k,h1,h2,a,c,h6,h7,h8⟩;exact ⟨k,h1,h2,h2,(Zl5 (fun b hb=>ChB.lt hs hR hb) (fun b hb=>ChB.lt hs hR hb)).2 ⟨a,c,h6,h7,h8⟩⟩
theorem Zw3 {R:Nat->Nat->Nat->Prop} {sets:List Nat} {N i s:Nat} (hs:sets[i]?=some s) (h:s < 2 ^ N):bE (BagB R sets (2 ^ i)) N=s:=by
 rw [show bE (BagB R sets (2 ^ i)) N=bE (fun b=>s.testBit b=true) N from li fun b _=>Znd hs,Zii h]
theorem ZB1 {R:Nat->Nat->Nat->Prop} {sets:List Nat} {N i s:Nat} (hs:sets[i]?=some s) (h:s < 2 ^ N):bE (ChB R sets i (i+1)) N=s:=by
 rw [show bE (ChB R sets i (i+1)) N=bE (fun b=>s.testBit b=true) N from li fun b _=>Zjt hs,Zii h]
def lq:List Bd->Tm->Option Tm
 | [],_=>none
 | b::l,v=>if aH b.var v=0 then some b.to else lq l v
mutual
noncomputable def ie (g:Sgn) (l:List Bd):Tm->Option Tm
 | .mk op nm so args=>if op=-1 then some ((lq l (.mk op nm so args)).getD (.mk op nm so args)) else (dO g l args).bind (mO g op)
noncomputable def dO (g:Sgn) (l:List Bd):List Tm->Option (List Tm)
 | []=>some []
 | t::ts=>(ie g l t).bind fun u=>(dO g l ts).map (u::·)
end
theorem Zl6 {g:Sgn} {l:List Bd} {t:Tm} (h:t.op=-1):ie g l t=some ((lq l t).getD t):=by
 obtain ⟨op,nm,so,args⟩:=t;simp only [Tm.op] at h;simp only [ie,if_pos h]
theorem Dn {g:Sgn} {l:List Bd} {t:Tm} (h:t.op≠-1):ie g l t=(dO g l t.args).bind (mO g t.op):=by
 obtain ⟨op,nm,so,args⟩:=t;simp only [Tm.op] at h;simp only [ie,if_neg h,Tm.op,Tm.args]
theorem Zlg {g:Sgn} {l:List Bd} {t:Tm}:∀ (ts:List Tm),dO g l (ts++[t])=(dO g l ts).bind fun us=>(ie g l t).map fun u=>us++[u]
 | []=>by
  simp only [Tah,dO,Option.bind_some]
  cases ie g l t <;> rfl
 | x::ts=>by
  simp only [Taf,dO,Zlg ts]
  cases ie g l x with
  | none=>rfl
  | some u =>
   simp only [Option.bind_some]
   cases dO g l ts with
   | none=>rfl
   | some us =>
    simp only [Option.bind_some,Option.map_some]
    cases ie g l t <;> rfl
theorem Zne {g:Sgn} {l:List Bd}:∀ {ts us:List Tm},dO g l ts=some us->us.length=ts.length
 | [],us,h=>by simp only [dO,Taq] at h;subst h;rfl
 | t::ts,us,h=>by
  simp only [dO] at h
  cases h1:ie g l t with
  | none=>rw [h1] at h;cases h
  | some u =>
   rw [h1] at h
   cases h2:dO g l ts with
   | none=>rw [h2] at h;cases h
   | some vs =>
    rw [h2] at h;simp only [Option.bind_some,Option.map_some,Taq] at h;subst h;simp only [Tag,Zne h2]
theorem Zlh {g:Sgn} {l:List Bd} {t:Tm}:∀ {ts:List Tm},t∈ts->ie g l t=none->dO g l ts=none
 | x::ts,hm,h=>by
  simp only [dO];rcases Tbg.1 hm with rfl | hm
  ·rw [h];rfl
  ·rw [Zlh hm h]
   cases ie g l x <;> rfl
theorem Zj4 {g:Sgn} {l:List Bd}:∀ {ts us:List Tm},dO g l ts=some us->∀ u∈us,∃ t∈ts,ie g l t=some u
 | [],us,h,u,hu=>by simp only [dO,Taq] at h;subst h;cases hu
 | t::ts,us,h,u,hu=>by
  simp only [dO] at h
  cases h1:ie g l t with
  | none=>rw [h1] at h;cases h
  | some v =>
   rw [h1] at h
   cases h2:dO g l ts with
   | none=>rw [h2] at h;cases h
   | some vs =>
    rw [h2] at h;simp only [Option.bind_some,Option.map_some,Taq] at h;subst h;rcases Tbg.1 hu with rfl | hu
    ·exact ⟨t,Tas,h1⟩
    ·obtain ⟨x,hx,hxe⟩:=Zj4 h2 u hu;exact ⟨x,Tal _ hx,hxe⟩
structure SbsAt (g:Sgn) (l:List Bd) (i:Nat) (y:Bd):Prop where
 var:oh g y.var
 ord:∀ (j:Nat) p,i=j+1->l[j]?=some p->aH p.var y.var < 0
 to':TermOk g y.to
 srt:(ao g y.to).testBit y.var.sort.toNat=true
structure SbsOk (g:Sgn) (l:List Bd):Prop where
 len:l.length<=8
 at':∀ (i:Nat) y,l[i]?=some y->SbsAt g l i y
open Classical in
noncomputable def ol (g:Sgn) (l:List Bd):Bool:=decide (SbsOk g l)
theorem Zj5 {g:Sgn} {l:List Bd} (h:SbsOk g l):ol g l=true:=by simp [ol,h]
theorem Zg7 {g:Sgn} {l:List Bd} (h:¬ SbsOk g l):ol g l=false:=by simp [ol,h]
theorem Zw4 {g:Sgn} {v u:Tm}:∀ {l:List Bd},(∀ y∈l,TermOk g y.to)->lq l v=some u->TermOk g u
 | b::l,h,hu=>by
  simp only [lq] at hu;split at hu
  ·injection hu with hu;subst hu;exact h b Tas
  ·exact Zw4 (fun y hy=>h y (Tal _ hy)) hu
theorem SbsOk.to' {g:Sgn} {l:List Bd} (h:SbsOk g l):∀ y∈l,TermOk g y.to:=fun y hy=>by
 obtain ⟨i,hi⟩:=Tbk hy;exact (h.at' i y hi).to'
theorem SbsOk.var {g:Sgn} {l:List Bd} (h:SbsOk g l):∀ y∈l,oh g y.var:=fun y hy=>by
 obtain ⟨i,hi⟩:=Tbk hy;exact (h.at' i y hi).var
theorem Zjv {g:Sgn} (hg:SgnOk g) {l:List Bd} (hl:∀ y∈l,TermOk g y.to):∀ (n:Nat) (t:Tm),am t < n->TermOk g t->∀ {u:Tm},ie g l t=some u->TermOk g u
 | 0,t,hn,_,_,_=>om
 | n+1,t,hn,ht,u,h=>by
  by_cases ho:t.op=-1
  ·rw [Zl6 ho] at h;simp only [Taq] at h;subst h
   cases hk:lq l t with
   | none=>exact ht
   | some v=>exact Zw4 hl hk
  ·rw [Dn ho] at h
   cases h2:dO g l t.args with
   | none=>rw [h2] at h;cases h
   | some us =>
    rw [h2] at h;simp only [Option.bind_some] at h;have h0:0<=t.op:=by
     rcases ht.form.node with hv | ⟨o,d,hA⟩
     ·exact absurd hv.1 ho
     ·exact hA.lo
    refine Zld hg h0 (fun a ha=>?_) h;obtain ⟨x,hx,hxe⟩:=Zj4 h2 a ha;have:=qd hx;rw [oK] at hn;exact Zjv hg hl n x om (ht.arg hx) hxe
def br (w:World):List (List C)->(Nat->Prop)->List (List Value)->Prop
 | [],_,[]=>True
 | r::rs,S,us::uss=>∃ S1 S2:Nat->Prop,(∀ x,S1 x->S x)∧(∀ x,S2 x->S x)∧(∀ x,S1 x->S2 x->False)∧aT w r S1 us∧br w rs S2 uss
 | _,_,_=>False
def aM (us:List Value):List C:=us.map .lit
section
variable {w w':World}
theorem br.keep (hz:w.heap.size<=w'.heap.size):∀ (rows:List (List C)) (S S':Nat->Prop) (uss:List (List Value)),(∀ b,S b->w'.heap[b]?=w.heap[b]?)->(∀ b,S b->S' b)->br w rows S uss->br w' rows S' uss
 | [],_,_,[],_,_,_=>trivial
 | r::rs,S,S',us::uss,hk,hS,h=>by
  obtain ⟨S1,S2,h1,h2,hd,hr,mZ⟩:=h;exact ⟨S1,S2,fun x hx=>hS x (h1 x hx),fun x hx=>hS x (h2 x hx),hd,aT.keep hz r S1 S1 us (fun x hx=>hk x (h1 x hx)) (fun _ h=>h) hr,br.keep hz rs S2 S2 uss (fun x hx=>hk x (h2 x hx)) (fun _ h=>h) mZ⟩
 | [],_,_,_::_,_,_,h=>h.elim
 | _::_,_,_,[],_,_,h=>h.elim
theorem br.len:∀ {rows:List (List C)} {S:Nat->Prop} {uss:List (List Value)},br w rows S uss->uss.length=rows.length
 | [],_,[],_=>rfl
 | r::rs,S,us::uss,⟨S1,S2,_,_,_,_,h⟩=>by simp [br.len h]
theorem br.snoc:∀ {rows:List (List C)} {r:List C} {S S1 S2:Nat->Prop} {uss:List (List Value)} {us:List Value},br w rows S1 uss->aT w r S2 us->(∀ x,S1 x->S x)->(∀ x,S2 x->S x)->(∀ x,S1 x->S2 x->False)->br w (rows++[r]) S (uss++[us])
 | [],r,S,S1,S2,[],us,_,h2,i1,i2,hd=>⟨S2,fun _=>False,i2,fun _ h=>h.elim,fun _ _ h=>h,h2,trivial⟩
 | q::qs,r,S,S1,S2,vs::vss,us,⟨T1,T2,a1,a2,a3,a4,a5⟩,h2,i1,i2,hd =>
  ⟨T1,fun x=>T2 x∨S2 x,fun x hx=>i1 x (a1 x hx),fun x hx=>hx.elim (fun h=>i1 x (a2 x h)) (i2 x),fun x hx hy=>hy.elim (a3 x hx) (hd x (a1 x hx)),a4,
   br.snoc a5 h2 (fun _ h=>.inl h) (fun _ h=>.inr h) (fun x hx hy=>hd x (a2 x hx) hy)⟩
 | [],_,_,_,_,_::_,_,h,_,_,_,_=>h.elim
 | _::_,_,_,_,_,[],_,h,_,_,_,_=>h.elim
theorem br.get:∀ {rows:List (List C)} {S:Nat->Prop} {uss:List (List Value)} {i:Nat} {r:List C} {us:List Value},br w rows S uss->rows[i]?=some r->uss[i]?=some us->aT w r S us
 | r::rs,S,us::uss,0,r',us',⟨S1,S2,h1,_,_,h,_⟩,hr,hu=>by
  simp at hr hu;subst hr hu;exact aT.keep (Tai _) r S1 S us (fun _ _=>rfl) h1 h
 | r::rs,S,us::uss,i+1,r',us',⟨S1,S2,_,h2,_,_,h⟩,hr,hu =>
  aT.keep (Tai _) r' S2 S us' (fun _ _=>rfl) h2 (br.get h (by simpa using hr) (by simpa using hu))
 | [],_,_,_,_,_,_,hr,_=>by simp at hr
 | _::_,_,[],_,_,_,h,_,_=>h.elim
theorem br.stable (rows:List (List C)) (E:Nat->Prop) (uss:List (List Value)):tD E (fun w=>br w rows E uss):=fun w w' hz hk h=>br.keep hz rows E E uss hk (fun _ h=>h) h
theorem aT.stable (r:List C) (E:Nat->Prop) (us:List Value):tD E (fun w=>aT w r E us):=fun w w' hz hk h=>aT.keep hz r E E us hk (fun _ h=>h) h
theorem aU.stable (c:C) (E:Nat->Prop) (v:Value):tD E (fun w=>aU w c E v):=fun w w' hz hk h=>aU.keep hz c E E v hk (fun _ h=>h) h
theorem Zjc {S:Nat->Prop}:∀ {us vs:List Value},aC w S (aM us) vs->vs=us
 | [],[],_=>rfl
 | u::us,v::vs,h=>by
  simp only [aM,Tbu,aC,aQ] at h;rw [h.1,Zjc h.2]
 | [],_::_,h=>by simp [aM,aC] at h
 | _::_,[],h=>by simp [aM,aC] at h
theorem ic.close {b:Nat} {T:Nat->Prop}:∀ {rows:List (List C)} {uss:List (List Value)} {S:Nat->Prop} {off:Nat},b7 w T b off (uss.map aM)->br w rows S uss->ic w b rows S off
 | [],[],_,_,_,_=>by simp [ic]
 | r::rs,us::uss,S,off,hr,⟨S1,S2,h1,h2,hd,hv,dD⟩=>by
  simp only [Tbu,b7] at hr;simp only [ic];obtain ⟨vs,q1,q2⟩:=hr.1.vals;have e:=Zjc q1;subst e;refine ⟨S1,S2,h1,h2,hd,kr.of_vals r S1 vs off hv q2,?_⟩;rw [<- (by simp [aM,aT.len hv]:(aM vs).length=r.length)];exact ic.close hr.2 dD
 | [],_::_,_,_,_,h=>h.elim
 | _::_,[],_,_,_,h=>h.elim
theorem aU.close {T:Nat->Prop} {ety sz:Nat} {rows:List (List C)} {uss:List (List Value)} {E:Nat->Prop} {a:Option Addr} {cap:Nat} (hb:ei w T ety sz (uss.map aM) (.slice a uss.length cap)) (hv:br w rows E uss) (hd:∀ b,aP (.slice a uss.length cap)=some b->¬ E b) :
  aU w (.sl rows) (fun b=>aP (.slice a uss.length cap)=some b∨E b) (.slice a uss.length cap):=by
 have bu:=hv.len;obtain ⟨h1,h2,h3⟩:=hb;simp only [aU];rcases h3 with ⟨h4,a',h5⟩ | ⟨g,dz,bc,h5,hc,hg,hs,hh,hl,hm,ez,hr⟩
 ·injection h5 with e1 e2 e3
  subst e1 e3;have gl:uss=[]:=by simpa using h4
  exact ⟨a,uss.length,0,rfl,bu.symm,by rw [gl];exact Tai _,by decide,fun h=>absurd h (by decide)⟩
 ·injection h5 with e1 e2 e3
  subst e1 e3;have fj:aP (.slice (some ⟨g,0,none⟩) uss.length cap)=some g:=by simp only [aP];rw [if_neg om]
  simp only [Tay] at hl;refine ⟨_,uss.length,cap,rfl,bu.symm,hl,hm,fun h0=>⟨g,0,E,rfl,.inl fj,hg,⟨fun o=>frozen_of_row w g o bc ety hh,rfl,bc,ety,sz,hh,ez,h1,fun r mw=>?_⟩,fun x hx=>⟨.inr hx,fun e=>hd g fj (e ▸ hx)⟩,ic.close hr hv⟩⟩;obtain ⟨i,hi⟩:=Tbk mw;have ci:=(Tad.1 hi).1;obtain ⟨us,hu⟩:∃ us,uss[i]?=some us:=⟨_,Taa om⟩;have hq:=(h2 (aM us) (Tbi.2 ⟨us,Tac hu,rfl⟩)).1;have hq2:=aT.len (hv.get hi hu)
  simp only [aM,Tay] at hq;omega
theorem kr.open {b:Nat}:∀ {cs:List C} {S:Nat->Prop} {off:Nat},kr w b cs S off->∃ us,aT w cs S us∧∀ j u,us[j]?=some u->w.cell? ⟨b,off+j,none⟩=some u
 | [],S,off,_=>⟨[],aT.nil,fun j u h=>by simp at h⟩
 | c::cs,S,off,h=>by
  simp only [kr] at h;obtain ⟨S1,S2,u,h1,h2,hd,hu,hc,ez⟩:=h;obtain ⟨us,k1,k2⟩:=kr.open ez;refine ⟨u::us,aT.cons S1 S2 hc k1 h1 h2 hd,fun j v hj=>?_⟩
  cases j with
  | zero=>simp at hj;subst hj;exact hu
  | succ j=>have:=k2 j v (by simpa using hj);rw [<- this];congr 2;omega
theorem ic.open {b:Nat}:∀ {rows:List (List C)} {S:Nat->Prop} {off:Nat},ic w b rows S off->∃ uss,br w rows S uss∧∀ T:Nat->Prop,b7 w T b off (uss.map aM)
 | [],S,off,_=>⟨[],trivial,fun T=>by simp [b7]⟩
 | r::rs,S,off,h=>by
  simp only [ic] at h;obtain ⟨S1,S2,h1,h2,hd,hr,mZ⟩:=h;obtain ⟨us,k1,k2⟩:=kr.open hr;obtain ⟨uss,k3,k4⟩:=ic.open mZ;refine ⟨us::uss,⟨S1,S2,h1,h2,hd,k1,k3⟩,fun T=>?_⟩;simp only [Tbu,b7];refine ⟨bn.of_vals _ us off (Zh0 us) k2,?_⟩;rw [show (aM us).length=r.length by simp [aM,k1.len]];exact k4 T
theorem aT.cells:∀ {cs:List C} {S:Nat->Prop} {us:List Value},aT w cs S us->cs.all aY=true->(aM us).all aY=true
 | [],_,[],_,_=>rfl
 | c::cs,S,u::us,h,hc=>by
  simp only [aT] at h;obtain ⟨S1,S2,_,_,_,h1,h2⟩:=h;simp only [List.all_cons,Tar] at hc;simp only [aM,Tbu,List.all_cons,Tar];exact ⟨ZhA (c:=c) hc.1 (aU.rep c S1 u h1),aT.cells h2 hc.2⟩
 | [],_,_::_,h,_=>by simp [aT] at h
 | _::_,_,[],h,_=>by simp [aT] at h
theorem aU.open {T:Nat->Prop} {rows:List (List C)} {E:Nat->Prop} {a:Option Addr} {n cap sz:Nat} (hT:∀ b,E b->¬ T b) (bq:rows≠[]) (dX:rowsLen sz rows) (h:aU w (.sl rows) E (.slice a n cap)) :
  ∃ uss ety E',n=uss.length∧ei w T ety sz (uss.map aM) (.slice a uss.length cap)∧br w rows E' uss∧(∀ b,E' b->E b∧aP (.slice a uss.length cap)≠some b)∧∀ b,aP (.slice a uss.length cap)=some b->E b:=by
 simp only [aU] at h;obtain ⟨A,n',dz,hv,hn,ct,dg,hb⟩:=h;injection hv with e1 e2 e3
 subst e1 e2 e3;have h0:0 < rows.length:=List.length_pos_iff.2 bq;obtain ⟨b,off,S',rfl,hEb,oZ,⟨hfr,rfl,bc,ety,gU,hh,ez,hz,mZ⟩,kv,cn⟩:=hb om;obtain ⟨uss,k1,k2⟩:=ic.open cn;have hl:=k1.len;have bO:gU=sz:=by
  obtain ⟨r,hr⟩:=List.exists_mem_of_ne_nil _ bq;rw [<- mZ r hr,(dX r hr).1]
 subst bO;have fj:aP (.slice (some ⟨b,0,none⟩) uss.length cap)=some b:=by simp only [aP];rw [if_neg om]
 have fF:rowsLen gU (uss.map aM):=fun x hx=>by
  obtain ⟨us,cu,rfl⟩:=Tbi.1 hx;obtain ⟨i,hi⟩:=Tbk cu;have ci:=(Tad.1 hi).1;obtain ⟨r,hr⟩:∃ r,rows[i]?=some r:=⟨_,Taa om⟩;have hov:=k1.get hr hi;have hrm:=dX r (Tac hr);exact ⟨by simp only [aM,Tay];rw [hov.len];exact hrm.1,hov.cells hrm.2⟩
 refine ⟨uss,ety,S',om,⟨hz,fF,.inr ⟨b,cap,bc,by simp,om,oZ,hT b hEb,hh,by simp only [Tay];omega,dg,ez,k2 T⟩⟩,k1,fun x hx=>⟨(kv x hx).1,fun e=>?_⟩,fun x hx=>?_⟩
 ·rw [fj] at e;injection e with e;exact (kv x hx).2 e.symm
 ·rw [fj] at hx;injection hx with hx;rw [<- hx];exact hEb
end
theorem wK (x:Bk):mT [x]:=⟨by simp,trivial⟩
theorem Zb8:eS [] [.set (fun _=>False) (fun w=>br w [] (fun _=>False) [])]:=fun w S _ _ =>
 ⟨fun x hx=>by simp at hx;subst hx;exact ⟨fun b h=>h.elim,trivial,br.stable _ _ _⟩,wK _,fun g ⟨x,hx,hg⟩=>by simp at hx;subst hx;exact hg.elim⟩
theorem xB {E E2:Nat->Prop} {G G2 G':World->Prop} (hG:∀ w,G w->G2 w->(∀ b,E b->E2 b->False)->G' w) (bm:tD (fun b=>E b∨E2 b) G'):eS [.set E G,.set E2 G2] [.set (fun b=>E b∨E2 b) G']:=fun w S h ha=>by
 have h1:=h (.set E G) (by simp);have h2:=h (.set E2 G2) (by simp);refine ⟨fun x hx=>?_,wK _,fun g ⟨x,hx,hg⟩=>?_⟩
 ·simp at hx;subst hx;exact ⟨fun b hb=>hb.elim (h1.1 b) (h2.1 b),hG w h1.2.1 h2.2.1 (fun b q1 q2=>ha.1 (.set E2 G2) (by simp) b q1 q2),bm⟩
 ·simp at hx;subst hx;rcases hg with hg | hg
  ·exact ⟨.set E G,by simp,hg⟩
  ·exact ⟨.set E2 G2,by simp,hg⟩
theorem ZB2 {E:Nat->Prop} {G G':World->Prop} (hG:∀ w,G w->G' w) (bm:tD E G'):eS [.set E G] [.set E G']:=fun w S h ha=>by
 have h1:=h (.set E G) (by simp);refine ⟨fun x hx=>?_,wK _,fun g ⟨x,hx,hg⟩=>?_⟩
 ·simp at hx;subst hx;exact ⟨h1.1,hG w h1.2.1,bm⟩
 ·simp at hx;subst hx;exact ⟨.set E G,by simp,hg⟩
theorem ZbG {a:Option Addr} {cap ety sz:Nat} {uss:List (List Value)} {rows:List (List C)} {E:Nat->Prop} {G':World->Prop} (hG:∀ w,aU w (.sl rows) (fun b=>aP (.slice a uss.length cap)=some b∨E b) (.slice a uss.length cap)->G' w) (bm:tD (fun b=>aP (.slice a uss.length cap)=some b∨E b) G') :
  eS [.buf (some (a,cap)) ety sz (uss.map aM),.set E (fun w=>br w rows E uss)] [.set (fun b=>aP (.slice a uss.length cap)=some b∨E b) G']:=fun w S h ha=>by
 have h1:ei w S ety sz (uss.map aM) (.slice a (uss.map aM).length cap):=h (.buf (some (a,cap)) ety sz (uss.map aM)) (by simp);have h2:=h (.set E (fun w=>br w rows E uss)) (by simp);have hd:=ha.1 (.set E (fun w=>br w rows E uss)) (by simp);rw [Tay] at h1;simp only [dU,Tay] at hd;refine ⟨fun x hx=>?_,wK _,fun g ⟨x,hx,hg⟩=>?_⟩
 ·simp at hx;subst hx;refine ⟨fun b hb=>?_,hG w (aU.close h1 h2.2.1 hd),bm⟩;rcases hb with hb | hb
  ·exact bL.lt (L:=⟨fun _=>0,fun _=>.slice a uss.length cap⟩) (k:=0) (bk:=.buf none ety sz (uss.map aM)) ⟨by simp,h1⟩ hb
  ·exact h2.1 b hb
 ·simp at hx;subst hx;rcases hg with hg | hg
  ·exact ⟨.buf (some (a,cap)) ety sz (uss.map aM),by simp,by simp only [dU,Tay];exact hg⟩
  ·exact ⟨.set E (fun w=>br w rows E uss),by simp,hg⟩
def eL (row:List C) (r:List D) (pm:List Bk):Prop:=∃ us E,r=[.agg (aM us)]∧us.length=row.length∧(aM us).all aY=true∧pm=[.set E (fun w=>aT w row E us)]
def Zli (ety sz:Nat) (rows:List (List C)) (r:List D) (pm:List Bk):Prop:=∃ a cap uss E,r=[.one (.lit (.slice a uss.length cap))]∧uss.length=rows.length∧pm=[.buf (some (a,cap)) ety sz (uss.map aM),.set E (fun w=>br w rows E uss)]
theorem eL.mk {row:List C} {us:List Value} {E:Nat->Prop} (h:us.length=row.length) (aj:(aM us).all aY=true):eL row [.agg (aM us)] [.set E (fun w=>aT w row E us)]:=⟨us,E,rfl,h,aj,rfl⟩
theorem Zli.mk {ety sz:Nat} {rows:List (List C)} {a:Option Addr} {cap:Nat} {uss:List (List Value)} {E:Nat->Prop} (h:uss.length=rows.length):Zli ety sz rows [.one (.lit (.slice a uss.length cap))] [.buf (some (a,cap)) ety sz (uss.map aM),.set E (fun w=>br w rows E uss)]:=⟨a,cap,uss,E,rfl,h,rfl⟩
theorem m136 {p:Prop} (h:p:=by
 rcases ge with ⟨h4,_⟩ | ⟨g,dz,bc,h4,_,_,_,_,h5,_⟩
 ·rw [h4];exact Taj _
 ·rw [hv] at h4;injection h4 with _ _ h4;rw [h4];exact h5):p:=h
theorem m134 {p:Prop} (h:p:=by
 unfold jM at ht;split at ht
 ·rename_i ety hu;simp only [Tav] at ht;obtain ⟨i,hi,hs⟩:=ht;exact ⟨ety,i,hu,hi,hs⟩
 ·cases ht):p:=h
theorem xm {X Y:Prop} (b:Y) (h:Bx Y->X:=by
 intro B0
 simp only [Tbg,List.not_mem_nil,or_false] at hx;exact B0.o hx):X:=h ⟨b⟩
theorem ZqA {n:Nat}:∀ {rows:List (List C)} (l:Nat),rowsLen n rows->(rows.take l).flatten=rows.flatten.take (l * n)
 | [],l,_=>by simp
 | r::rs,0,_=>by simp
 | r::rs,l+1,h=>by
  have h1:=(h r Tas).1;have h2:=ZqA (n:=n) l (fun x hx=>h x (Tal _ hx):rowsLen n rs);simp only [Tbc,List.flatten_cons,h2];rw [show (l+1) * n=r.length+l * n by rw [h1,Nat.succ_mul,Nat.add_comm],List.take_length_add_append]
theorem ZqB {n:Nat}:∀ {rows:List (List C)} (l:Nat),rowsLen n rows->(rows.drop l).flatten=rows.flatten.drop (l * n)
 | [],l,_=>by simp
 | r::rs,0,_=>by simp
 | r::rs,l+1,h=>by
  have h1:=(h r Tas).1;have h2:=ZqB (n:=n) l (fun x hx=>h x (Tal _ hx):rowsLen n rs);simp only [List.drop_succ_cons,List.flatten_cons,h2];rw [show (l+1) * n=r.length+l * n by rw [h1,Nat.succ_mul,Nat.add_comm],List.drop_length_add_append]
section
variable {e:Env} {U:Nat->Prop} {w0:World} {S0:Nat->Prop} {nt:Nat} {σ:St} {a:Act} {w:World} {S:Nat->Prop} {L:Lay}
theorem Sim.storeRows (h:Sim e U w0 S0 nt σ a w S L) (he:e.Ok) {o:Option (Option Addr × Nat)} {k l g ety sz:Nat} {rows aF:List (List C)} {vs:List Value} (hm:gm σ.m k=some (.buf o ety sz rows)) (hg:aP (L.v k)=some g) (hl:l+aF.length<=rows.length) (hn:rowsLen sz aF) (hu:aC w S aF.flatten vs) :
  ∃ w',(storeCells ⟨g,l * sz,none⟩ vs).run e.P w=.ok () w'∧aN e U w0 S0 nt ⟨σ.s,(k,.buf o ety sz (rows.take l++aF++rows.drop (l+aF.length)))::aA k σ.m⟩ a w':=by
 obtain ⟨oY,fg,dX,h3⟩:=h.cls.own k _ hm;have iP:=hu.len;have h1:=ZlV hn;rw [oL hn] at iP;rcases h3 with ⟨h3,p,h4⟩ | ⟨g',cap,bc,hv,DR,hg1,o7,ju,bu,qW,ez,cn⟩
 ·rw [h4] at hg;cases p <;> simp [aP] at hg
 ·have hgg:g'=g:=by rw [hv] at hg;simp only [aP] at hg;rw [if_neg om] at hg;injection hg
  subst hgg;have tY:=oL dX;have eY:l * sz+vs.length<=rows.length * sz:=by
   have:=Nat.mul_le_mul_right sz hl;rw [Nat.add_mul] at this;omega
  have hin2:rows.length * sz<=cap * sz:=Nat.mul_le_mul_right sz bu;have bm:=run_storeCells_at e.P g' (l * sz) ety vs 0 bc w ju (by rw [ez];omega) (C1 h1 hu);simp only [Nat.add_zero] at bm;have bA:=Zgm w g' (l * sz) ety vs bc ju (by rw [ez];omega);refine ⟨_,bm,?_⟩;have ce:=setRow_heap w g' bc (bc.toList.take (l * sz)++vs++bc.toList.drop (l * sz+vs.length)).toArray ety _ ju
  have iN:(w.setRow g' (bc.toList.take (l * sz)++vs++bc.toList.drop (l * sz+vs.length)).toArray).drawn=w.drawn:=Zfn _ _ _;generalize hW:w.setRow g' (bc.toList.take (l * sz)++vs++bc.toList.drop (l * sz+vs.length)).toArray=W at bA ce iN ⊢;have bO:W.heap.size=w.heap.size:=bA.size;have ky:∀ b o,S b->W.cell? ⟨b,o,none⟩=w.cell? ⟨b,o,none⟩:=fun b o hs=>qE (bA.other b (fun e=>o7 (e ▸ hs))) o
  have tU:cQ L k (.buf o ety sz rows) g':=hg;have ix:(rows.take l++aF++rows.drop (l+aF.length)).length=rows.length:=by simp;omega
  have eH:bL W S L k (.buf o ety sz (rows.take l++aF++rows.drop (l+aF.length))):=by
   simp only [bL];refine ⟨fun a ha=>by rw [oY a ha,ix],fg,fun x hx=>?_,.inr ⟨g',cap,_,by rw [hv,ix],DR,om,o7,ce,by rw [ix];exact bu,qW,by simp;omega,?_⟩⟩
   ·rcases Tbh.1 hx with hx | hx
    ·rcases Tbh.1 hx with hx | hx
     ·exact dX x (List.mem_of_mem_take hx)
     ·exact hn x hx
    ·exact dX x (List.mem_of_mem_drop hx)
   ·apply b7.of_flat;rw [List.flatten_append,List.flatten_append,ZqA l dX,ZqB _ dX];have hz:w.heap.size<=W.heap.size:=om;have hf:=cn.flat;have r1:=bn.keepAt (S':=S) hz ky (fun _ h=>h) g' 0 (rows.flatten.take (l * sz)) (fun i hi=>bA.old _ (.inl (by simp at hi;omega))) (hf.take (l * sz));have r3:bn W S g' (l * sz) aF.flatten:=bn.of_vals _ vs _ (aC.keep2 hz ky (fun _ h=>h) hu) bA.new
    have r5:=bn.keepAt (S':=S) hz ky (fun _ h=>h) g' _ (rows.flatten.drop ((l+aF.length) * sz)) (fun i hi=>bA.old _ (.inr (by rw [iP];rw [Nat.add_mul];omega))) (hf.drop ((l+aF.length) * sz));have l1:(rows.flatten.take (l * sz)).length=l * sz:=by rw [Taw,tY];omega
    refine bn.append _ _ 0 (bn.append _ _ 0 r1 ?_) ?_
    ·rw [l1,Nat.zero_add];exact r3
    ·rw [Tae,l1,oL hn,<- Nat.add_mul];exact r5
  obtain ⟨t1,t2,t3⟩:=h.touch he (d:=k) (bk:=.buf o ety sz (rows.take l++aF++rows.drop (l+aF.length))) (m':=(k,.buf o ety sz (rows.take l++aF++rows.drop (l+aF.length)))::aA k σ.m) (w':=W) (L':=L) (τ:=some g') (fun _ h=>h) (fun _ h=>.inl h)
   (fun k' x cj hx=>by simp only [gm,cj,if_false,iL] at hx;exact hx) (by simp [gm]) (fun _ _=>⟨rfl,rfl⟩)
   (fun q hq=>by injection hq with hq;subst hq;exact ⟨o7,h.cls.notE hm tU,h.cls.mine k _ _ hm tU⟩)
   (fun k' x q cj hx hq hb=>by
    injection hq with hq;subst hq
    simp only [gm,cj,if_false,iL] at hx;exact cj (h.cls.inj k' k x _ _ hx hm hb tU))
   ⟨bA.os,bA.tape,bA.output,fun _=>Nat.le_of_eq iN.symm,om,fun b hb hE=>bA.other b (fun eq=>hE (by rw [eq]))⟩ eH (fun q hq=>.inl (by rw [<- hq];exact hg.symm))
  exact ⟨S,L,t1,fun t=>t3 _ _ (fun _=>⟨rfl,rfl⟩) (h.rel t),h.size,h.defers,t2⟩
end
section
variable {e:Env} {σ:St} {o:Oper} {K:St->Prop}
theorem ZB3 {U:Nat->Prop} {base:Nat} {S0:Nat->Prop} {t:TypeId} {x:Operand} {lo hi:Option Operand} (ho:o.op=.slice t x lo hi none) {k cap ety sz:Nat} {a:Option Addr} {rows:List (List C)} {l h:Int} (hx:fu σ.m (aL σ.s x)=.buf k) (hm:gm σ.m k=some (.buf (some (a,cap)) ety sz rows)) (ht:jM e.P t=some sz)
  (eD:qz (lo.map (aL σ.s))=some l) (lV:qr rows.length (hi.map (aL σ.s))=some h) (hb:0<=l∧l<=h∧h<=rows.length):iM e U base S0 σ.m o (aL σ.s) (.d (.one (.lit (sliced a l.toNat h.toNat cap sz)))):=by
 refine nk fun w S L ρv hC hr=>?_;have bj:=rM hC (hr x (by simp [ho,Op.operands]));rw [hx] at bj;have bj:ρv x=L.v k:=bj;obtain ⟨jX,_,_,ge⟩:=hC.own k _ hm;have hv:L.v k=.slice a rows.length cap:=jX (a,cap) rfl;have qW:rows.length<=cap:=by
  exact m136
 have qq:∃ ety i,e.P.underlying t=some (.slice ety)∧e.P.info? ety=some i∧i.size=sz:=by
  exact m134
 obtain ⟨el,i,hu,eG,bO⟩:=qq;have eD:=ZjJ (w:=w) (S:=S) (L:=L) (ρv:=ρv) eD (fun y hy=>hr y (by simp [ho,Op.operands,hy]));have lV:=ZjK (w:=w) (S:=S) (L:=L) (ρv:=ρv) lV (fun y hy=>hr y (by simp [ho,Op.operands,hy]));refine ⟨sliced a l.toNat h.toNat cap sz,?_,by simp [ax,aW,aQ]⟩;have oy:(Instr.sliceBounds true rows.length cap (lo.map ρv) (hi.map ρv) none).run e.P w=.ok (l.toNat,h.toNat,cap) w:=by
  have eh:(h.toNat:Int)=h:=Int.toNat_of_nonneg om;have b1:0<=h:=om;have b2:h<=(cap:Int):=om;have b3:0<=l:=hb.1;have b4:l<=h:=hb.2.1;rcases eD with ⟨rfl,rfl⟩ | e1 <;> rcases lV with ⟨rfl,e2⟩ | e2
  ·simp [Instr.sliceBounds,e2,Result.andThen]
  ·exact Cm
  ·simp [Instr.sliceBounds,e1,e2,Result.andThen,run_sliceBound,b3,(om:l<=(rows.length:Int))]
  ·exact Ci
 simp only [execOp,ho,Sem.run_bind,bj,hv,Instr.sliceAt,Instr.slice,underlying,run_program,Result.andThen_ok,hu,Sem.run_pure,Option.map_none,oy,sizeOf,typeInfo,eG,bO,sliced]
theorem ZDR {t:TypeId} {x:Operand} {lo hi:Option Operand} (ho:o.op=.slice t x lo hi none) {k cap ety sz:Nat} {a:Option Addr} {rows:List (List C)} {l h:Int} (hx:fu σ.m (aL σ.s x)=.buf k) (hm:gm σ.m k=some (.buf (some (a,cap)) ety sz rows)) (ht:jM e.P t=some sz)
  (eD:qz (lo.map (aL σ.s))=some l) (lV:qr rows.length (hi.map (aL σ.s))=some h) (hb:0<=l∧l<=h∧h<=rows.length) (hK:K ⟨aI σ.s o.dst (.d (.one (.lit (sliced a l.toNat h.toNat cap sz)))),σ.m⟩):iT e o σ K:=by
 intro he U w0 S0 nt ac w Q hd ⟨S,L,h1⟩;exact Oper.wp_mono (fun a' w' hs=>⟨_,hK,hs⟩) (C2 h1 hd (ZB3 ho hx hm ht eD lV hb))
theorem ZkA {U:Nat->Prop} {base:Nat} {S0:Nat->Prop} {t:TypeId} {x i:Operand} (ho:o.op=.indexAddr t x i) {k cap ety sz l h:Nat} {a:Option Addr} {rows:List (List C)} {j:Int} (hx:aL σ.s x=.d (.one (.lit (sliced a l h cap sz)))) (hi:aL σ.s i=.d (.one (.lit (.int .i64 j)))) (hm:gm σ.m k=some (.buf (some (a,cap)) ety sz rows)) (ht:jM e.P t=some sz)
  (hb:0<=j∧l+j < h∧h<=rows.length):iM e U base S0 σ.m o (aL σ.s) (.row k (l+j.toNat) sz 0):=by
 refine nk fun w S L ρv hC hr=>?_;have bj:=hr x (by simp [ho,Op.operands]);have eG:=hr i (by simp [ho,Op.operands]);rw [hx] at bj;rw [hi] at eG;have bj:=j8 bj;have eG:=j8 eG;obtain ⟨jX,_,_,ge⟩:=hC.own k _ hm;have hv:L.v k=.slice a rows.length cap:=jX (a,cap) rfl;rcases ge with ⟨h4,_⟩ | ⟨g,dz,bc,h4,h6,_,_,_,h5,_⟩
 ·rw [h4] at hb;simp at hb;omega
 ·rw [hv] at h4;injection h4 with h7 _ h8
  subst h7 h8;have sR:¬ cap=l:=om;have mA:sliced (some ⟨g,0,none⟩) l h cap sz=.slice (some ⟨g,l * sz,none⟩) (h - l) (cap - l):=by
   simp only [sliced,sR,if_false,Option.map_some,Addr.add_at,Nat.zero_add]
  refine ⟨.pointer (some ⟨g,(l+j.toNat) * sz+0,none⟩),?_,g,?_,rfl⟩
  ·unfold jM at ht;split at ht
   ·rename_i el hu;simp only [Tav] at ht;obtain ⟨ii,hii,hn⟩:=ht;have au:j < ((h - l:Nat):Int):=om;have hj:=hb.1;have e2:l * sz+j.toNat * sz=(l+j.toNat) * sz+0:=by rw [Nat.add_mul];rfl
    simp [execOp,ho,eG,bj,mA,Instr.indexAt,asIntOf,underlying,hu,sizeOf,typeInfo,hii,hn,Addr.add_at,hj,au,Result.andThen,e2]
   ·cases ht
  ·rw [hv];simp only [aP];rw [if_neg om]
theorem Zs8 {t:TypeId} {x i:Operand} (ho:o.op=.indexAddr t x i) {k cap ety sz l h:Nat} {a:Option Addr} {rows:List (List C)} {j:Int} (hx:aL σ.s x=.d (.one (.lit (sliced a l h cap sz)))) (hi:aL σ.s i=.d (.one (.lit (.int .i64 j)))) (hm:gm σ.m k=some (.buf (some (a,cap)) ety sz rows)) (ht:jM e.P t=some sz)
  (hb:0<=j∧l+j < h∧h<=rows.length) (hK:K ⟨aI σ.s o.dst (.row k (l+j.toNat) sz 0),σ.m⟩):iT e o σ K:=by
 intro he U w0 S0 nt ac w Q hd ⟨S,L,h1⟩;exact Oper.wp_mono (fun a' w' hs=>⟨_,hK,hs⟩) (C2 h1 hd (ZkA ho hx hi hm ht hb))
theorem Zrf {t:TypeId} {x i:Operand} (ho:o.op=.indexAddr t x i) {k cap ety sz l h:Nat} {a:Option Addr} {rows:List (List C)} {j:Int} (hx:aL σ.s x=.d (.one (.lit (sliced a l h cap sz)))) (hi:aL σ.s i=.d (.one (.lit (.int .i64 j)))) (hm:gm σ.m k=some (.buf (some (a,cap)) ety sz rows)) (ht:jM e.P t=some sz)
  (hb:0<=j∧l+j < h∧h<=rows.length) (hK:K ⟨aI σ.s o.dst (.row k (l+j.toNat) sz 0),σ.m⟩):zh e o σ K:=fun he=>⟨_,hK,fun U base S0=>ZkA ho hx hi hm ht hb⟩
theorem Zx3 {x:Operand} {t:TypeId} (ho:o.op=.call ⟨.builtin .clear,#[x],#[t]⟩) {k cap ety sz by' l:Nat} {a:Option Addr} {rows:List (List C)} {z:List C} (hx:aL σ.s x=.d (.one (.lit (sliced a l rows.length cap sz)))) (hm:gm σ.m k=some (.buf (some (a,cap)) ety sz rows)) (ht:jc e.P t=some (ety,sz,by')) (hz:iJ e.P ety=some z) (vD:z.all aY=true) (hl:l < rows.length)
  (hK:K ⟨aI σ.s o.dst (.tup []),(k,.buf (some (a,cap)) ety sz (rows.take l++List.replicate (rows.length - l) z))::aA k σ.m⟩):iT e o σ K:=by
 intro he U w0 S0 nt ac w Q hd ⟨S,L,h1⟩;have bj:=h1.eval x;rw [hx] at bj;have bj:=j8 bj;obtain ⟨jX,fg,_,ge⟩:=h1.cls.own k _ hm;have hv:L.v k=.slice a rows.length cap:=jX (a,cap) rfl;obtain ⟨i,zv,hu,hi,se,bO,wZ,qy,fg,sM⟩:=xy ht;have hzc:z=zv.cells.toList.map sj:=by
  exact m170
 rcases ge with ⟨h4,_⟩ | ⟨g,dz,bc,h4,h6,_,_,_,h5,_⟩
 ·rw [h4] at hl;simp at hl
 ·rw [hv] at h4;injection h4 with h7 _ h8
  subst h7 h8;have sR:¬ cap=l:=om;have mA:sliced (some ⟨g,0,none⟩) l rows.length cap sz=.slice (some ⟨g,l * sz,none⟩) (rows.length - l) (cap - l):=by
   simp only [sliced,sR,if_false,Option.map_some,Addr.add_at,Nat.zero_add]
  have hn:rowsLen sz (List.replicate (rows.length - l) z):=fun r hr=>by
   rw [List.eq_of_mem_replicate hr];exact ⟨by rw [hzc];simp [qy],vD⟩
  have nV:aC w S (List.replicate (rows.length - l) z).flatten ((List.replicate (rows.length - l) zv).flatMap fun v=>v.cells.toList):=by rw [hzc];exact ZkO _
  obtain ⟨w',bm,fa⟩:=h1.storeRows he (l:=l) (g:=g) hm (by rw [hv];simp only [aP];rw [if_neg om]) (by simp;omega) hn nV;rw [List.length_replicate,show l+(rows.length - l)=rows.length by omega,List.drop_length,List.append_nil] at fa;obtain ⟨S',L',fa⟩:=fa;have hzc2:(Builtin.zeroCells zv.cells (rows.length - l)).toList=(List.replicate (rows.length - l) zv).flatMap fun v=>v.cells.toList:=by
   have:=ZnS zv sz fg qy (rows.length - l);rw [<- this];simp [Builtin.zeroCells,madeCells,qy]
  have aJ:(execOp ac.eval o).run e.P w=.ok (.value (.tuple #[])) w':=by
   have bq:¬ (rows.length - l=0):=om;obtain ⟨q,hq⟩:∃ q,rows.length - l=q+1:=⟨rows.length - l - 1,om⟩;rw [hq] at bm hzc2;simp [execOp,ho,resolve,invoke,builtin,Builtin.clear_,bj,mA,hq,underlying,hu,zeroValue,hi,se,typeInfo,Result.andThen,hzc2,bm]
  unfold Oper.wp;rw [aJ,Oper.upon_value];refine ⟨_,hK,S',L',fa.put (α:=.tup []) (v:=.tuple #[]) ⟨[],rfl,trivial⟩ hd⟩
end
theorem ZB4 {a:Option Addr} {cap ety sz:Nat} {rows:List (List C)} (m:Nat) (hm:m<=rows.length):eS [.buf (some (a,cap)) ety sz rows] [.buf (some (a,cap)) ety sz (rows.take m)]:=fun w S h ha=>by
 have hl:(rows.take m).length=m:=by rw [Taw];omega
 obtain ⟨h0,dX,hc⟩:ei w S ety sz rows (.slice a rows.length cap):=h (.buf (some (a,cap)) ety sz rows) (by simp);have hb:∀ b,aP (.slice a m cap)=some b ↔ aP (.slice a rows.length cap)=some b:=fun b=>by cases a <;> simp [aP]
 refine ⟨fun x hx=>?_,wK _,fun g ⟨x,hx,hg⟩=>?_⟩
 ·refine xm fun hx=>?_;subst hx;show ei w S ety sz (rows.take m) (.slice a (rows.take m).length cap);rw [hl];refine ⟨h0,fun r hr=>dX r (List.mem_of_mem_take hr),?_⟩;rcases hc with ⟨h4,p,h5⟩ | ⟨g,dz,bc,h4,h5,h6,h7,h8,h9,h10,ye,tR⟩
  ·subst h4;simp only [Tak,Nat.le_zero_eq] at hm;subst hm;exact .inl ⟨by simp,p,by simpa using h5⟩
  ·injection h4 with e1 e2 e3
   subst e1 e3;refine .inr ⟨g,cap,bc,by rw [hl],h5,h6,h7,h8,by rw [hl];omega,h10,ye,?_⟩;have:=b7.sub dX tR 0 m;simpa using this
 ·refine xm fun hx=>?_;subst hx;refine ⟨.buf (some (a,cap)) ety sz rows,by simp,?_⟩;simp only [dU,hl] at hg ⊢;exact (hb g).1 hg
theorem yd {e:Env} {K:St->Prop} {ds:List (Option Nat)} {os:List Oper} {d t ty cap ety sz:Nat} {p:String} {ed:Array Edge} {x:Operand} {lo hi:Option Operand} {s:List (Nat × A)} {m:List (Nat × Bk)} {a:Option Addr} {rows:List (List C)} (k l h:Nat) (hb:l<=h∧h<=rows.length) (hK:al e ds 0 os ⟨(d,.d (.one (.lit (sliced a l h cap sz))))::s,m⟩ K)
  (hx:fu m (aL s x)=.buf k:=by exact j5) (hm:gm m k=some (.buf (some (a,cap)) ety sz rows):=by exact cJ) (ht:jM e.P t=some sz:=by exact nf)
  (eD:qz (lo.map (aL s))=some (l:Int):=by exact j5) (lV:qr rows.length (hi.map (aL s))=some (h:Int):=by exact j5):al e ds 0 (⟨some d,.slice t x lo hi none,ty,p,ed,none⟩::os) ⟨s,m⟩ K:=by
 simp only [al] at hK ⊢;exact ut rfl (ZDR (o:=⟨some d,.slice t x lo hi none,ty,p,ed,none⟩) rfl hx hm ht eD lV ⟨om,om,om⟩ (by simpa only [Tbx,aI] using hK))
theorem ZHV {e:Env} {K:St->Prop} {ds:List (Option Nat)} {os:List Oper} {d t ty cap ety sz l h:Nat} {p:String} {ed:Array Edge} {x i:Operand} {s:List (Nat × A)} {m:List (Nat × Bk)} {a:Option Addr} {rows:List (List C)} (k j:Nat) (hb:l+j < h∧h<=rows.length) (hK:al e ds 0 os ⟨(d,.row k (l+j) sz 0)::s,m⟩ K)
  (hx:aL s x=.d (.one (.lit (sliced a l h cap sz))):=by exact nf) (hi:aL s i=.d (.one (.lit (.int .i64 (j:Int)))):=by exact j5) (hm:gm m k=some (.buf (some (a,cap)) ety sz rows):=by exact cJ) (ht:jM e.P t=some sz:=by exact nf):al e ds 0 (⟨some d,.indexAddr t x i,ty,p,ed,none⟩::os) ⟨s,m⟩ K:=by
 simp only [al] at hK ⊢;exact ut rfl (Zs8 (o:=⟨some d,.indexAddr t x i,ty,p,ed,none⟩) rfl hx hi hm ht ⟨om,om,om⟩ (by simpa only [Tbx,aI] using hK))
theorem Zx4 {e:Env} {ds:List (Option Nat)} {K:St->Prop} {n:Nat} {os:List Oper} {o:Oper} {σ:St} (hg:o.guard=none) (ca:jb o=false) (h:zh e o σ (fun σ'=>al e ds n os σ' K)):al e ds (n+1) (o::os) σ K:=by
 simp only [al,hg];rw [if_neg (by simp [ca])];exact h
theorem ZB5 {e:Env} {K:St->Prop} {ds:List (Option Nat)} {os:List Oper} {n d t ty cap ety sz l h:Nat} {p:String} {ed:Array Edge} {x i:Operand} {s:List (Nat × A)} {m:List (Nat × Bk)} {a:Option Addr} {rows:List (List C)} (k j:Nat) (hb:l+j < h∧h<=rows.length) (hK:al e ds n os ⟨(d,.row k (l+j) sz 0)::s,m⟩ K)
  (hx:aL s x=.d (.one (.lit (sliced a l h cap sz))):=by exact nf) (hi:aL s i=.d (.one (.lit (.int .i64 (j:Int)))):=by exact j5) (hm:gm m k=some (.buf (some (a,cap)) ety sz rows):=by exact cJ) (ht:jM e.P t=some sz:=by exact nf):al e ds (n+1) (⟨some d,.indexAddr t x i,ty,p,ed,none⟩::os) ⟨s,m⟩ K :=
 Zx4 rfl rfl (Zrf (o:=⟨some d,.indexAddr t x i,ty,p,ed,none⟩) rfl hx hi hm ht ⟨om,om,om⟩ (by simpa only [Tbx,aI] using hK))
theorem ZHi {e:Env} {K:St->Prop} {ds:List (Option Nat)} {os:List Oper} {t ty cap ety sz by' l:Nat} {dd:Option Nat} {p:String} {ed:Array Edge} {x:Operand} {s s':List (Nat × A)} {m m':List (Nat × Bk)} {a:Option Addr} {rows:List (List C)} {z:List C} (k:Nat) (hl:l < rows.length) (hK:al e ds 0 os ⟨s',(k,.buf (some (a,cap)) ety sz (rows.take l++List.replicate (rows.length - l) z))::m'⟩ K)
  (hx:aL s x=.d (.one (.lit (sliced a l rows.length cap sz))):=by exact cJ) (hm:gm m k=some (.buf (some (a,cap)) ety sz rows):=by exact cJ) (ht:jc e.P t=some (ety,sz,by'):=by exact nf) (hz:iJ e.P ety=some z:=by exact nf) (vD:z.all aY=true:=by first | rfl | exact nh)
  (hs:aI s dd (.tup [])=s':=by simp only [aI];exact rfl) (hr:aA k m=m':=by exact cJ):al e ds 0 (⟨dd,.call ⟨.builtin .clear,#[x],#[t]⟩,ty,p,ed,none⟩::os) ⟨s,m⟩ K:=by
 subst hs hr;simp only [al] at hK ⊢;exact ut rfl (Zx3 (o:=⟨dd,.call ⟨.builtin .clear,#[x],#[t]⟩,ty,p,ed,none⟩) rfl hx hm ht hz vD hl hK)
theorem ZmF (a:Option Addr) (k cap sz:Nat):sliced a 0 k cap sz=.slice a k cap:=by
 cases a with
 | none=>simp [sliced]
 | some p =>
  have:p.add 0=p:=by cases p;simp [Addr.add]
  simp [sliced,this]
section
variable {e:Env} {ops:Array Oper} {K:St->Prop}
def QN (e:Env) (U:Nat->Prop) (w0:World) (S0:Nat->Prop) (nt:Nat) (K:St->Prop):Exit->Act->World->Prop:=fun ex a w=>ex=.normal∧∃ σ',K σ'∧aN e U w0 S0 nt σ' a w
def gF (e:Env) (ops:Array Oper) (K:St->Prop) (f:Nat) (ag:Array Bool) (σ:St):Prop :=
 e.Ok->∀ (U:Nat->Prop) (w0:World) (S0:Nat->Prop) (nt:Nat) (a:Act) (w:World),(∀ o∈ops.toList,∀ d,o.dst=some d->d < nt)->aN e U w0 S0 nt σ a w->wpAny e.P .any ops (QN e U w0 S0 nt K) f ag a w
theorem ZuG {ds:List (Option Nat)} {f:Nat} {ag:Array Bool} {σ:St} (bG:ops.toList.map (·.dst)=ds) (h:mU e ds ops K f ag σ):gF e ops K f ag σ:=by
 subst bG;exact fun he U w0 S0 nt a w hd hs=>Zm4 he (fun a w σ' hK iA=>⟨rfl,σ',hK,iA⟩) hd f ag σ a w hs h
def AF (ops:Array Oper) (ag:Array Bool) (i:Nat):Bool:=(List.range ops.size).all fun j=>j==i || (ag.getD j true || match ops[i]?,ops[j]? with
 | some oi,some oj=>oj.after.any (fun e=>Region.binds .any e && e.on==i) || oi.apart ops oj
 | _,_=>true)
def xT (ops:Array Oper):Bool:=ops.toList.all fun o=>match o.op with
 | .select _ _=>false
 | _=>true
theorem C9 {f i d:Nat} {ag:Array Bool} {σ:St} {o:Oper} {α:A} (hi:ops[i]?=some o) (ve:o.dst=some d) (hg:o.guard=none) (iB:xT ops=true) (lR:AF ops ag i=true) (hr:(Region.ready .any ops ag).contains i=true)
  (hp:e.Ok->∀ (U:Nat->Prop) (w0:World) (S0:Nat->Prop) (nt:Nat) (a:Act) (w:World) (S:Nat->Prop) (L:Lay),Sim e U w0 S0 nt σ a w S L->∃ v,(∀ w',(execOp a.eval o).run e.P w'=.ok (.value v) w')∧ax w S L α v)
  (hK:gF e ops K f (ag.setIfInBounds i true) ⟨(d,α)::σ.s,σ.m⟩):gF e ops K (f+1) ag σ:=by
 intro he U w0 S0 nt a w hd ⟨S,L,h⟩;obtain ⟨v,hv,kD⟩:=hp he U w0 S0 nt a w S L h;have kz:o∈ops.toList:=Tac (by simpa using hi);refine wpAny_first (oi:=o) (v:=v) hi (fun j oj cs b hj hs=>?_) (fun c a w hq=>?_) f ag a w (fun j oj hj bq hl bC=>?_) ?_ ?_ ?_
 ·have:=List.all_eq_true.1 iB oj (Tac (by simpa using hj));rw [hs] at this
  cases this
 ·have:=hq.1
  cases this
 ·have BD:=(Tbl.1 hj).1;have:=List.all_eq_true.1 lR j (List.mem_range.2 BD);simp only [hi,hj,Bool.or_eq_true,beq_iff_eq,List.any_eq_true,Array.any_eq_true',Tar] at this;rcases this with h1 | h1 | h1 | h1
  ·exact absurd h1 bq
  ·rw [hl] at h1;cases h1
  ·obtain ⟨ed,h2,h3,h4⟩:=h1;exact absurd h4 (bC ed h2 h3)
  ·exact h1
 ·simpa using hr
 ·exact .inl ⟨by simp [Region.wanted,hg],hv⟩
 ·have h2:aN e U w0 S0 nt ⟨(d,α)::σ.s,σ.m⟩ (a.put o.dst v) w:=⟨S,L,by
   have:=h.put (α:=α) kD (hd o kz)
   rwa [ve,aI,<- ve] at this⟩
  exact hK he U w0 S0 nt (a.put o.dst v) w hd h2
end
section
variable {e:Env} {K:St->Prop} {ay:Nat} {Q:PX->St->Prop} {s:List (Nat × A)} {m:List (Nat × Bk)}
theorem ZiP {id:Nat} {ops:Array Oper} {σ:St} (hK:gF e ops (nB ay Q) ops.size (Array.replicate ops.size false) σ):cp e ay (.region id ops true) σ Q:=fun he U w0 S0 nt a w aj hs=>by
 obtain ⟨S,L,h1⟩:=hs.drew he;refine Code.wp_mono (fun ex a' w' hq=>?_) (wp_region_any he.mixed (hK he U w0 S0 nt a { w with drawn:=w.drawn+1 } (Zoc aj) ⟨S,L,h1⟩));obtain ⟨rfl,σ',k1,k2⟩:=hq;exact ⟨_,k1,k2.weak (fun t=>ZjN ay t σ'.s) (fun _ _ h=>h)⟩
theorem A3 {id:Nat} {l:List Oper} (hK:gF e l.toArray (nB ay Q) l.length (Array.replicate l.length false) ⟨s,m⟩):cp e ay (.region id l.toArray true) ⟨s,m⟩ Q:=ZiP (ops:=l.toArray) (by simpa using hK)
theorem zB {ds:List (Option Nat)} {ops:Array Oper} {f:Nat} {ag:Array Bool} {σ:St} (h:mU e ds ops K f ag σ) (bG:ops.toList.map (·.dst)=ds:=by exact rfl):gF e ops K f ag σ:=ZuG bG h
theorem e8 {ops:Array Oper} {f d ty:Nat} {p:String} {ed:Array Edge} {x:Operand} {α:A} {ag:Array Bool} (i:Nat) (hK:gF e ops K f (ag.setIfInBounds i true) ⟨(d,α)::s,m⟩)
  (hi:ops[i]?=some ⟨some d,.move x,ty,p,ed,none⟩:=by simp only [List.getElem?_toArray,Tau,Tat];exact rfl) (hx:aL s x=α:=by exact cJ) (iB:xT ops=true:=by decide +kernel) (lR:AF ops ag i=true:=by decide +kernel) (hr:(Region.ready .any ops ag).contains i=true:=by decide +kernel):gF e ops K (f+1) ag ⟨s,m⟩:=by
 subst hx;exact C9 (o:=⟨some d,.move x,ty,p,ed,none⟩) hi rfl rfl iB lR hr (fun _ U w0 S0 nt a w S L h=>⟨a.eval x,fun w2=>by simp [execOp],h.eval x⟩) hK
theorem gFs {ops:Array Oper} {f d t ty cap ety sz:Nat} {p:String} {ed:Array Edge} {x:Operand} {lo hi:Option Operand} {a:Option Addr} {rows:List (List C)} {ag:Array Bool} (i k l h:Nat) (hb:l<=h∧h<=rows.length) (hK:gF e ops K f (ag.setIfInBounds i true) ⟨(d,.d (.one (.lit (sliced a l h cap sz))))::s,m⟩)
  (eG:ops[i]?=some ⟨some d,.slice t x lo hi none,ty,p,ed,none⟩:=by simp only [List.getElem?_toArray,Tau,Tat];exact rfl)
  (hx:fu m (aL s x)=.buf k:=by exact j5) (hm:gm m k=some (.buf (some (a,cap)) ety sz rows):=by exact cJ) (ht:jM e.P t=some sz:=by exact nf)
  (eD:qz (lo.map (aL s))=some (l:Int):=by exact j5) (lV:qr rows.length (hi.map (aL s))=some (h:Int):=by exact j5)
  (iB:xT ops=true:=by decide +kernel) (lR:AF ops ag i=true:=by decide +kernel) (hr:(Region.ready .any ops ag).contains i=true:=by decide +kernel):gF e ops K (f+1) ag ⟨s,m⟩:=by
 refine C9 (o:=⟨some d,.slice t x lo hi none,ty,p,ed,none⟩) eG rfl rfl iB lR hr (fun _ U w0 S0 nt ac w S L hS=>⟨sliced a l h cap sz,fun w'=>?_,by simp [ax,aW,aQ]⟩) hK;have bj:=rM hS.cls (hS.eval x);simp only at bj;rw [hx] at bj;have bj:ac.eval x=L.v k:=bj;obtain ⟨jX,_,_,ge⟩:=hS.cls.own k _ hm;have hv:L.v k=.slice a rows.length cap:=jX (a,cap) rfl;have qW:rows.length<=cap:=by
  exact m136
 have qq:∃ ety i,e.P.underlying t=some (.slice ety)∧e.P.info? ety=some i∧i.size=sz:=by
  exact m134
 obtain ⟨el,inf,hu,hinf,bO⟩:=qq;have eD:=ZjJ (w:=w) (S:=S) (L:=L) (ρv:=ac.eval) eD (fun y hy=>hS.eval y);have lV:=ZjK (w:=w) (S:=S) (L:=L) (ρv:=ac.eval) lV (fun y hy=>hS.eval y);have oy:(Instr.sliceBounds true rows.length cap (lo.map ac.eval) (hi.map ac.eval) none).run e.P w'=.ok (l,h,cap) w':=by
  have b2:(h:Int)<=(cap:Int):=om;have b5:(l:Int)<=(rows.length:Int):=om;rcases eD with ⟨rfl,e1⟩ | e1 <;> rcases lV with ⟨rfl,e2⟩ | e2
  ·have e1:l=0:=om;have e2:h=rows.length:=om;subst e1 e2;simp [Instr.sliceBounds,Result.andThen]
  ·have e1:l=0:=om;subst e1;simp [Instr.sliceBounds,e2,Result.andThen,run_sliceBound,b2]
  ·have e2:h=rows.length:=om;subst e2;simp [Instr.sliceBounds,e1,Result.andThen,run_sliceBound,b5]
  ·simp [Instr.sliceBounds,e1,e2,Result.andThen,run_sliceBound,b2,(om:(l:Int)<=(h:Int)),hb.1]
 simp only [execOp,Sem.run_bind,bj,hv,Instr.sliceAt,Instr.slice,underlying,run_program,Result.andThen_ok,hu,Sem.run_pure,Option.map_none,oy,sizeOf,typeInfo,hinf,bO,sliced]
end
section
variable {e:Env} {K:St->Prop} {s:List (Nat × A)} {m:List (Nat × Bk)}
theorem wV {ops:Array Oper} {f d ty t t':Nat} {p:String} {ed:Array Edge} {op:BinOp} {x y:Operand} {a b v:Value} {ag:Array Bool} (i:Nat) (hK:gF e ops K f (ag.setIfInBounds i true) ⟨(d,.d (.one (.lit v)))::s,m⟩)
  (hi:ops[i]?=some ⟨some d,.binOp op t x y t',ty,p,ed,none⟩:=by simp only [List.getElem?_toArray,Tau,Tat];exact rfl) (hx:aL s x=.d (.one (.lit a)):=by exact cJ) (hy:aL s y=.d (.one (.lit b)):=by exact cJ) (hv:cv e.P op t a b=some v:=by exact lL) (iB:xT ops=true:=by decide +kernel) (lR:AF ops ag i=true:=by decide +kernel) (hr:(Region.ready .any ops ag).contains i=true:=by decide +kernel):gF e ops K (f+1) ag ⟨s,m⟩:=by
 refine C9 (o:=⟨some d,.binOp op t x y t',ty,p,ed,none⟩) hi rfl rfl iB lR hr (fun _ U w0 S0 nt ac w S L h=>⟨v,fun w2=>?_,by simp [ax,aW,aQ]⟩) hK;have h1:=h.eval x;have h2:=h.eval y;rw [hx] at h1;rw [hy] at h2;have h1:=j8 h1;have h2:=j8 h2;have:=Zr9 (x:=x) (y:=y) hv w2;simp only [execOp,h1,h2];rw [Sem.run_bind,this];rfl
theorem zC {ops:Array Oper} {f d ty t k ety sz:Nat} {p:String} {ed:Array Edge} {x y:Operand} {o:Option (Option Addr × Nat)} {rows:List (List C)} {kk:IntKind} {ag:Array Bool} (i j:Nat) (au:j < rows.length) (hK:gF e ops K f (ag.setIfInBounds i true) ⟨(d,.row k j sz 0)::s,m⟩)
  (hi:ops[i]?=some ⟨some d,.indexAddr t x y,ty,p,ed,none⟩:=by simp only [List.getElem?_toArray,Tau,Tat];exact rfl) (hx:fu m (aL s x)=.buf k:=by exact j5) (hy:aL s y=.d (.one (.lit (.int kk (j:Int)))):=by exact cJ) (hm:gm m k=some (.buf o ety sz rows):=by exact cJ) (ht:jM e.P t=some sz:=by exact nf) (iB:xT ops=true:=by decide +kernel) (lR:AF ops ag i=true:=by decide +kernel) (hr:(Region.ready .any ops ag).contains i=true:=by decide +kernel):gF e ops K (f+1) ag ⟨s,m⟩:=by
 refine C9 (o:=⟨some d,.indexAddr t x y,ty,p,ed,none⟩) hi rfl rfl iB lR hr (fun _ U w0 S0 nt ac w S L h=>?_) hK;have bj:=rM h.cls (h.eval x);simp only at bj;rw [hx] at bj;have bj:ac.eval x=L.v k:=bj;have iC:=h.eval y;rw [hy] at iC;have iC:=j8 iC;obtain ⟨_,_,_,h4⟩:=h.cls.own k _ hm;rcases h4 with ⟨h4,_⟩ | ⟨g,cap,bc,hv,DR,_⟩
 ·rw [h4] at au;simp at au
 ·refine ⟨.pointer (some ⟨g,j * sz,none⟩),fun w2=>?_,g,?_,rfl⟩
  ·have:=ZkJ (P:=e.P) (j:=(j:Int)) ht (Int.natCast_nonneg _) (by rw [Tbx];exact au) (g:=g) (cap:=cap) (k:=kk) (w:=w2);rw [Tbx] at this;simp [execOp,iC,bj,hv,this]
  ·rw [hv];simp only [aP];rw [if_neg om]
end
def eQ (a:Option Addr) (cap:Nat) (us:List Tm) (r:List D) (pm:List Bk):Prop:=r=[]∧pm=[.buf (some (a,cap)) 53 4 (aq us)]
theorem df (l:List Tm) (i:Nat) (t:Tm):(aq l).set i (an t)=aq (l.set i t):=by
 rw [mI,mI,List.map_set]
theorem ow {X:Prop} {P:Program} {ts:List RS} {R:List D->List Bk->Prop} {σ:St} {r:List D} {pm:List Bk} (ks:List Nat) (hR:R r pm) (hx:DB P ts R .normal σ->X:=by first | exact fun h=>h | exact fun h=>⟨_,Wk.refl _,h⟩) (hr:lJ P σ ts=some r:=by exact sfy) (hg:ej σ.m ks=some pm:=by exact nh) (hn:ks.Nodup:=by decide) (hp:pm.all pinned=true:=by exact nh):X :=
 hx ⟨r,ks,pm,hg,hn,hp,hR,De hr⟩
theorem Zl7:wx (Tryz.prog.underlying 3)=some .i64:=by kernel_rfl
theorem Zj6:Tryz.prog.underlying 217=some (.int .u64):=by kernel_rfl
theorem Zjw (j:Int):DG j (some (.int .u64)) (some .i64)=some (.d (.one (.lit (.int .i64 (IntKind.i64.wrap j))))):=rfl
theorem toNat_one:Int.toNat 1=1:=rfl
theorem Zl8 (i j:Nat) (h:i+j < 4611686018427387904):∃ s m:Nat,IntKind.i64.wrap ((i:Int)+(j:Int))=(s:Int)∧IntKind.u64.wrap (s:Int)=(s:Int)∧(s:Int).fdiv (2 ^ (min 1 64))=(m:Int)∧IntKind.i64.wrap (m:Int)=(m:Int)∧m=(i+j) / 2:=by
 refine ⟨i+j,(i+j) / 2,dI om om om,?_,?_,IntWalk.i64_in _ ⟨om,om⟩,rfl⟩
 ·simp only [IntKind.wrap,IntKind.signed,IntKind.bits];simp;omega
 ·simp only [show min 1 64=1 from rfl,Int.pow_succ,Int.pow_zero,Int.one_mul];rw [Int.fdiv_eq_ediv_of_nonneg _ (by decide)];omega
theorem Zlj (P X Z Y Q:List Tm) (hl:X.length=Y.length) {A B n N:Nat} (hA:A=P.length) (hB:B=P.length+X.length+Z.length) (hn:n=X.length) (hN:N=P.length+X.length+Z.length+Y.length+Q.length) (dg:N<=4000000) (a:Option Addr) (cap:Nat) :
  aR e0 349 [.one (.lit (.slice a N cap)),.one (.lit (.int .i64 A)),.one (.lit (.int .i64 B)),.one (.lit (.int .i64 n)),.one (.fn 133 [])] [.buf (some (a,cap)) 53 4 (aq (P++X++Z++Y++Q))] (eQ a cap (P++Y++Z++X++Q)):=by
 refine dK (ts:=[]) [1000] 9231 Tryz.func349 ?_;refine fG @ae ?_;have F:=@ae;refine gL (ι:=Nat × List Tm) [10,13] [1000] (fun x=>[(10,.d (.one (.lit (.int .i64 (x.1:Int)))))]) (fun x=>[(1000,.buf (some (a,cap)) 53 4 (aq x.2))]) (fun x=>x.1<=n∧x.2=qc P X Z Y Q x.1) (fun x=>n - x.1) ((0,P++X++Z++Y++Q)) (⟨Taj _,(ZDP P X Z Y Q).symm⟩) (fun x hx=>?_);clear F;obtain ⟨i,us⟩:=x;obtain ⟨hi,cu⟩:=hx;simp only at hi cu
 dsimp only;by_cases au:i < n;rotate_left
 ·obtain rfl:i=n:=by omega
  have q1:=lF i i;rw [hn,ZGo hl] at cu;subst cu;refine fG (ai @q1 @ae) ?_
  first | exact (have F:=@aw;ow (R:=eQ a cap (P++Y++Z++X++Q)) [1000] ⟨rfl,rfl⟩) | exact (have F:=@aw;eU (R:=eQ a cap (P++Y++Z++X++Q)) [1000] ⟨rfl,rfl⟩)
 have q1:=lT i n;obtain ⟨x,hx⟩:∃ t,X[i]?=some t:=⟨_,Taa om⟩;obtain ⟨y,hy⟩:∃ t,Y[i]?=some t:=⟨_,Taa om⟩;obtain ⟨g1,g2,g3⟩:=ZGq (P:=P) (Z:=Z) (Q:=Q) hl hx hy;have dM:us.length=N:=by rw [cu,ZGp i hl,hN]
 rw [<- cu] at g1 g2 g3;rw [<- hB] at g2 g3;rw [<- hA] at g1 g3;obtain ⟨p,hp⟩:∃ p,p=A+i:=⟨_,rfl⟩;obtain ⟨q,hq⟩:∃ q,q=B+i:=⟨_,rfl⟩;rw [<- hp] at g1 g3;rw [<- hq] at g2 g3;have w1:IntKind.i64.wrap ((A:Int)+(i:Int))=(p:Int):=dI om om om;have w2:IntKind.i64.wrap ((B:Int)+(i:Int))=(q:Int):=dI om om om;have w3:=bI (k:=i) om;have l1:p < N:=om;have l2:q < N:=om;have cb:∀ k (t:Tm),(us.set k t).length=N:=fun k t=>by rw [Taz,dM]
 refine fN 3 (ai @q1 @ae) ?_;obtain ⟨z,g4⟩:∃ z,(us.set p y)[q]?=some z:=⟨_,Taa (by rw [Taz];omega)⟩;refine A3 ?_;refine e8 0 ?_;refine e8 1 ?_;refine e8 2 ?_;refine (have F:=(aj13 q1 w1 w2 l1 l2 dM g1 g2 g4 cb @bf @df ae);wV 3 ?_);refine e8 4 ?_;refine e8 5 ?_;refine e8 6 ?_;refine (have F:=(aj13 q1 w1 w2 l1 l2 dM g1 g2 g4 cb @bf @df ae);wV 7 ?_);refine e8 8 ?_;refine e8 9 ?_
 refine e8 10 ?_;refine (have F:=(aj13 q1 w1 w2 l1 l2 dM g1 g2 g4 cb @bf @df ae);wV 11 ?_);refine (have F:=(aj13 q1 w1 w2 l1 l2 dM g1 g2 g4 cb @bf @df ae);zC (rows:=aq us) 12 q (by rw [bf];omega) ?_);refine e8 14 ?_;refine e8 15 ?_;refine e8 16 ?_;refine (have F:=(aj13 q1 w1 w2 l1 l2 dM g1 g2 g4 cb @bf @df ae);wV 17 ?_);refine (have F:=(aj13 q1 w1 w2 l1 l2 dM g1 g2 g4 cb @bf @df ae);zC (rows:=aq us) 18 p (by rw [bf];omega) ?_)
 refine zB ?_;refine zD 13 19 ?_ ?_
 ·refine (have F:=(aj13 q1 w1 w2 l1 l2 dM g1 g2 g4 cb @bf @df ae);bT ?_);refine dW 19 ?_;refine (have F:=(aj13 q1 w1 w2 l1 l2 dM g1 g2 g4 cb @bf @df ae);bT ?_);refine dW 20 ?_;refine (have F:=(aj13 q1 w1 w2 l1 l2 dM g1 g2 g4 cb @bf @df ae);bT ?_);refine dW 21 ?_;refine (have F:=(aj13 q1 w1 w2 l1 l2 dM g1 g2 g4 cb @bf @df ae);bT ?_);refine dW 22 ?_;refine (have F:=(aj13 q1 w1 w2 l1 l2 dM g1 g2 g4 cb @bf @df ae);bT ?_)
  refine dW 23 ?_;refine (have F:=(aj13 q1 w1 w2 l1 l2 dM g1 g2 g4 cb @bf @df ae);bT ?_);refine (have F:=ae;qm ?_);refine Exists.intro _ (ai (Wk.refl _) ?_);rw [g3];have F:=@w3;refine gG ?_;exact ⟨(i+1,qc P X Z Y Q (i+1)),⟨au,rfl⟩,gw,gw,om⟩
 ·refine (have F:=(aj13 q1 w1 w2 l1 l2 dM g1 g2 g4 cb @bf @df ae);bT ?_);refine dW 13 ?_;refine (have F:=(aj13 q1 w1 w2 l1 l2 dM g1 g2 g4 cb @bf @df ae);bT ?_);refine dW 20 ?_;refine (have F:=(aj13 q1 w1 w2 l1 l2 dM g1 g2 g4 cb @bf @df ae);bT ?_);refine dW 21 ?_;refine (have F:=(aj13 q1 w1 w2 l1 l2 dM g1 g2 g4 cb @bf @df ae);bT ?_);refine dW 22 ?_;refine (have F:=(aj13 q1 w1 w2 l1 l2 dM g1 g2 g4 cb @bf @df ae);bT ?_)
  refine dW 23 ?_;refine (have F:=(aj13 q1 w1 w2 l1 l2 dM g1 g2 g4 cb @bf @df ae);bT ?_);refine (have F:=ae;qm ?_);refine Exists.intro _ (ai (Wk.refl _) ?_);rw [g3];have F:=@w3;refine gG ?_;exact ⟨(i+1,qc P X Z Y Q (i+1)),⟨au,rfl⟩,gw,gw,om⟩
theorem ZDS (P X Y Q:List Tm) (hX:0 < X.length) (hY:0 < Y.length) {A M B N:Nat} (hA:A=P.length) (hM:M=P.length+X.length) (hB:B=P.length+X.length+Y.length) (hN:N=P.length+X.length+Y.length+Q.length) (dg:N<=4000000) (a:Option Addr) (cap:Nat) :
  aR e0 341 [.one (.lit (.slice a N cap)),.one (.lit (.int .i64 A)),.one (.lit (.int .i64 M)),.one (.lit (.int .i64 B)),.one (.fn 133 [])] [.buf (some (a,cap)) 53 4 (aq (P++X++Y++Q))] (eQ a cap (P++Y++X++Q)):=by
 have w1:IntKind.i64.wrap ((M:Int) - (A:Int))=(X.length:Int):=dI om om om;have w2:IntKind.i64.wrap ((B:Int) - (M:Int))=(Y.length:Int):=dI om om om;refine dK (ts:=[]) [1000] 9440287 Tryz.func341 ?_;refine fG (aj3 @w1 @w2 @ae) ?_;have F:=@ae;refine gL (ι:=(Nat × Nat) × List Tm) [10,11,20,23] [1000] (fun x=>[(10,.d (.one (.lit (.int .i64 (x.1.1:Int))))),(11,.d (.one (.lit (.int .i64 (x.1.2:Int)))))]) (fun x=>[(1000,.buf (some (a,cap)) 53 4 (aq x.2))]) (fun x=>∃ P' X' Y' Q',x.2=P'++X'++Y'++Q'∧x.1.1=X'.length∧x.1.2=Y'.length∧P'.length+X'.length=M∧0 < X'.length∧0 < Y'.length∧P'++Y'++X'++Q'=P++Y++X++Q) (fun x=>x.1.1+x.1.2) (((X.length,Y.length),P++X++Y++Q)) (⟨P,X,Y,Q,rfl,rfl,rfl,hM.symm,hX,hY,rfl⟩) (fun x hx=>?_);clear F
 obtain ⟨⟨i,j⟩,us⟩:=x;obtain ⟨P',X',Y',Q',cu,hi,hj,hM',hX',DO,hT⟩:=hx;simp only at cu hi hj;dsimp only;have bu:=congrArg List.length hT;simp only [Tae] at bu;obtain ⟨z,hz⟩:∃ z,z=P'.length:=⟨_,rfl⟩;have w3:IntKind.i64.wrap ((M:Int) - (i:Int))=(z:Int):=dI om om om;by_cases nQ:i=j
 ·have q1:((i:Int)=(j:Int))=True:=eq_true om;have c:=Zlj P' X' [] Y' Q' om (A:=z) (B:=M) (n:=i) (N:=N) hz (by simp;omega) hi (by simp;omega) dg a cap;rw [List.append_nil,List.append_nil,hT,<- cu] at c;refine fN 8 (ai @q1 @ae) ?_;refine gB ?_;have F:=ai @ae @w3;refine bR [1000] [1000] (c) ?_;clear F;rintro r pm ⟨rfl,rfl⟩;simp only [aI,bh,aZ,Taf,Tah];refine fR @ae ?_;refine fG @ae ?_
  first | exact (have F:=@aw;ow (R:=eQ a cap (P++Y++X++Q)) [1000] ⟨rfl,rfl⟩) | exact (have F:=@aw;eU (R:=eQ a cap (P++Y++X++Q)) [1000] ⟨rfl,rfl⟩)
 have q1:((i:Int)=(j:Int))=False:=eq_false om;by_cases t6:j < i
 ·have q2:=lT j i;obtain ⟨d,hd⟩:∃ d,d=i - j:=⟨_,rfl⟩;have w4:IntKind.i64.wrap ((i:Int) - (j:Int))=(d:Int):=dI om om om;have Bi:X'=X'.take j++X'.drop j:=(Tbm j X').symm;have l1:(X'.take j).length=j:=by rw [Taw];omega
  have l2:(X'.drop j).length=d:=by rw [Tax];omega
  generalize X'.take j=X1 at Bi l1;generalize X'.drop j=X2 at Bi l2;subst Bi;have c:=Zlj P' X1 X2 Y' Q' om (A:=z) (B:=M) (n:=j) (N:=N) hz (by simp at hM';omega) l1.symm (by simp at bu;omega) dg a cap;rw [show P'++X1++X2++Y'++Q'=us by rw [cu];simp] at c;refine fN 4 (aj3 @q1 @q2 @ae) ?_;refine gB ?_;have F:=ai @ae @w3;refine bR [1000] [1000] (c) ?_;clear F;rintro r pm ⟨rfl,rfl⟩;simp only [aI,bh,aZ,Taf,Tah]
  refine fR @ae ?_;have F:=@w4;refine gG ?_;exact ⟨((d,j),P'++Y'++X2++X1++Q'),⟨P'++Y',X2,X1,Q',rfl,l2.symm,l1.symm,by simp at hM' ⊢;omega,om,om,by rw [<- hT];simp⟩,gw,gw,by dsimp only;omega⟩
 ·have q2:=lF j i;obtain ⟨d,hd⟩:∃ d,d=j - i:=⟨_,rfl⟩;have w4:IntKind.i64.wrap ((j:Int) - (i:Int))=(d:Int):=dI om om om;obtain ⟨u,hu⟩:∃ u,u=M+j:=⟨_,rfl⟩;obtain ⟨v,hv⟩:∃ v,v=M+d:=⟨_,rfl⟩;have w5:IntKind.i64.wrap ((M:Int)+(j:Int))=(u:Int):=dI om om om;have w6:IntKind.i64.wrap ((u:Int) - (i:Int))=(v:Int):=dI om om om;have Bj:Y'=Y'.take d++Y'.drop d:=(Tbm d Y').symm;have l1:(Y'.take d).length=d:=by rw [Taw];omega
  have l2:(Y'.drop d).length=i:=by rw [Tax];omega
  generalize Y'.take d=Y1 at Bj l1;generalize Y'.drop d=Y2 at Bj l2;subst Bj;have c:=Zlj P' X' Y1 Y2 Q' om (A:=z) (B:=v) (n:=i) (N:=N) hz om hi (by simp at bu;omega) dg a cap;rw [show P'++X'++Y1++Y2++Q'=us by rw [cu];simp] at c;refine fN 6 (aj3 @q1 @q2 @ae) ?_;refine gB ?_;have F:=aj4 @ae @w3 @w5 @w6;refine bR [1000] [1000] (c) ?_;clear F;rintro r pm ⟨rfl,rfl⟩;simp only [aI,bh,aZ,Taf,Tah]
  refine fR @ae ?_;have F:=@w4;refine gG ?_;exact ⟨((i,d),P'++Y2++Y1++X'++Q'),⟨P',Y2,Y1,X'++Q',by simp,l2.symm,l1.symm,om,om,om,by rw [<- hT];simp⟩,gw,gw,by dsimp only;omega⟩
theorem ZpF {M:List Tm} {k:Nat} {x:Tm} (h:M[k]?=some x):M.take k++[x]=M.take (k+1):=(xr h).symm
theorem Zs9 (P M Q:List Tm) {A B N:Nat} (hA:A=P.length) (hB:B=P.length+M.length) (hN:N=P.length+M.length+Q.length) (dg:N<=4000000) (a:Option Addr) (cap:Nat) :
  aR e0 279 [.one (.lit (.slice a N cap)),.one (.lit (.int .i64 A)),.one (.lit (.int .i64 B)),.one (.fn 133 [])] [.buf (some (a,cap)) 53 4 (aq (P++M++Q))] (eQ a cap (P++cq M++Q)):=by
 have wA:=bI (k:=A) om;obtain ⟨A1,hA1⟩:∃ A1,A1=A+1:=⟨_,rfl⟩;rw [<- hA1] at wA;have h0:P++M++Q=P++cq (M.take (A1 - A))++(M.drop (A1 - A)++Q):=by
  have:cq (M.take 1)=M.take 1:=C8 (by cases M with | nil=>exact List.Pairwise.nil | cons x M=>simp only [Tbc,List.take_zero];exact List.pairwise_singleton _ _);rw [hA1,Nat.add_sub_cancel_left,this];simp only [Tbf];rw [<- Tbf (M.take 1),Tbm]
 refine dK (ts:=[]) [1000] 17179886351 Tryz.func279 ?_;refine fG (ai @wA @ae) ?_;have F:=@ae;refine gL (ι:=Nat × List Tm) [8,9,14,34] [1000] (fun x=>[(8,.d (.one (.lit (.int .i64 (x.1:Int)))))]) (fun x=>[(1000,.buf (some (a,cap)) 53 4 (aq x.2))]) (fun x=>A1<=x.1∧(x.1<=B∨x.1=A1)∧x.2=P++cq (M.take (x.1 - A))++(M.drop (x.1 - A)++Q)) (fun x=>B+1 - x.1) ((A1,P++M++Q)) (⟨Tai _,.inr rfl,h0⟩) (fun x hx=>?_);clear F
 obtain ⟨i,us⟩:=x;obtain ⟨hi1,hi2,cu⟩:=hx;simp only at hi1 hi2 cu;dsimp only;by_cases au:i < B;rotate_left
 ·have q1:=lF i B;have e1:M.take (i - A)=M:=List.take_of_length_le om;have e2:M.drop (i - A)=[]:=List.drop_of_length_le om;rw [e1,e2,Tah] at cu;subst cu;refine fG (ai @q1 @ae) ?_
  first | exact (have F:=@aw;ow (R:=eQ a cap (P++cq M++Q)) [1000] ⟨rfl,rfl⟩) | exact (have F:=@aw;eU (R:=eQ a cap (P++cq M++Q)) [1000] ⟨rfl,rfl⟩)
 have q1:=lT i B;obtain ⟨k,hk⟩:∃ k,k=i - A:=⟨_,rfl⟩;rw [<- hk] at cu;obtain ⟨x,hx⟩:∃ t,M[k]?=some t:=⟨_,Taa om⟩;have hL:(cq (M.take k)).length=k:=by rw [xw,Taw];omega
 rw [CZ hx] at cu;have wi:=bI (k:=i) om;have hR:(M.drop (k+1)++Q).length+i+1=N:=by rw [Tae,Tax];omega
 have dh:∀ M1 M2,M1++M2=cq (M.take k)->(∀ y∈M2,aH x y<=0)->(∀ y,M1.getLast?=some y->aH y x<=0)->P++M1++x::(M2++(M.drop (k+1)++Q))=P++cq (M.take (i+1 - A))++(M.drop (i+1 - A)++Q):=fun M1 M2 e h2 h1=>by
  have:=ZsY e h2 h1;rw [ZpF hx] at this;rw [show i+1 - A=k+1 by omega,<- this];simp
 obtain ⟨T,hT⟩:∃ T,T=P++cq (M.take (i+1 - A))++(M.drop (i+1 - A)++Q):=⟨_,rfl⟩;rw [<- hT] at dh;refine fG (ai @q1 @ae) ?_;have F:=@ae;refine gL (ι:=Nat × List Tm) [9,34] [1000] (fun z=>[(9,.d (.one (.lit (.int .i64 (z.1:Int)))))]) (fun z=>[(1000,.buf (some (a,cap)) 53 4 (aq z.2))]) (fun z=>∃ M1 M2,z.2=P++M1++x::(M2++(M.drop (k+1)++Q))∧z.1=A+M1.length∧M1++M2=cq (M.take k)∧∀ y∈M2,aH x y<=0) (fun z=>z.1) ((i,us)) (⟨cq (M.take k),[],by rw [cu];simp,by rw [hL];omega,List.append_nil _,fun y h=>by simp at h⟩) (fun z hz=>?_);clear F
 obtain ⟨j,vs⟩:=z;obtain ⟨M1,M2,dD,hj,he,h2⟩:=hz;simp only at dD hj;dsimp only;have sd:M1.length+M2.length=k:=by rw [<- Tae,he,hL]
 have iP:vs.length=N:=by rw [dD];simp only [Tae,Tag] at hR ⊢;omega
 rcases List.eq_nil_or_concat M1 with h1 | ⟨M0,y,h1⟩
 ·subst h1;have hn:=dh [] M2 he h2 (fun y h=>by simp at h);obtain rfl:j=A:=by simpa using hj
  have q2:=lF j j;rw [hn] at dD;subst dD;refine fG (ai @q2 @ae) ?_;have F:=@wi;refine gG ?_;exact ⟨(i+1,vs),⟨om,.inl au,hT⟩,gw,gw,om⟩
 ·rw [List.concat_eq_append] at h1;subst h1;simp only [Tae,Tag,Tak] at hj sd;obtain ⟨p,hp⟩:∃ p,p=A+M0.length:=⟨_,rfl⟩;have hjp:j=p+1:=om;have q2:=lT A j;have w1:IntKind.i64.wrap ((j:Int) - 1)=(p:Int):=dI om om om;have uW:(P++M0).length=p:=by rw [Tae];omega
  have B4:vs=(P++M0)++y::x::(M2++(M.drop (k+1)++Q)):=by rw [dD];simp
  have g1:vs[p]?=some y:=by rw [B4];exact Dx uW
  have g2:vs[j]?=some x:=by rw [B4,hjp];exact ZpA uW
  have l1:p < N:=om;have l2:j < N:=om;refine fB (ai @q2 @ae) ?_;refine fC (aj9 @q2 @ae @g1 @g2 @w1 @l1 @l2 @iP @bf) (DD (Ax x y)) ?_;by_cases hc:aH x y < 0
  ·have z1:(aH x y < 0)=True:=eq_true hc;obtain ⟨U,hU⟩:∃ U,U=(P++M0)++x::y::(M2++(M.drop (k+1)++Q)):=⟨_,rfl⟩;have g3:(vs.set j y).set p x=U:=by rw [hU,B4,hjp];exact ZwX uW
   have cb:∀ q (t:Tm),(vs.set q t).length=N:=fun q t=>by rw [Taz,iP]
   refine fR (aj3 @z1 @q2 @ae) ?_;have hM2:∀ u∈y::M2,aH x u<=0:=fun u hu=>by
    rcases Tbg.1 hu with rfl | hu
    ·omega
    ·exact h2 u hu
   obtain ⟨z,g4⟩:∃ z,(vs.set j y)[p]?=some z:=⟨_,Taa (by rw [Taz];omega)⟩;refine fN 6 (ai @z1 @ae) ?_;refine A3 ?_;refine e8 0 ?_;refine e8 1 ?_;refine e8 2 ?_;refine e8 3 ?_;refine (have F:=(aj11 w1 l1 l2 iP g1 g2 g4 cb @bf @df ae);wV 4 ?_);refine e8 5 ?_;refine e8 6 ?_;refine (have F:=(aj11 w1 l1 l2 iP g1 g2 g4 cb @bf @df ae);wV 7 ?_);refine (have F:=(aj11 w1 l1 l2 iP g1 g2 g4 cb @bf @df ae);zC (rows:=aq vs) 8 p (by rw [bf];omega) ?_)
   refine e8 10 ?_;refine e8 11 ?_;refine (have F:=(aj11 w1 l1 l2 iP g1 g2 g4 cb @bf @df ae);zC (rows:=aq vs) 12 j (by rw [bf];omega) ?_);refine zB ?_;refine zD 9 13 ?_ ?_
   ·refine (have F:=(aj11 w1 l1 l2 iP g1 g2 g4 cb @bf @df ae);bT ?_);refine dW 13 ?_;refine (have F:=(aj11 w1 l1 l2 iP g1 g2 g4 cb @bf @df ae);bT ?_);refine dW 14 ?_;refine (have F:=(aj11 w1 l1 l2 iP g1 g2 g4 cb @bf @df ae);bT ?_);refine dW 15 ?_;refine (have F:=(aj11 w1 l1 l2 iP g1 g2 g4 cb @bf @df ae);bT ?_);refine dW 16 ?_;refine (have F:=(aj11 w1 l1 l2 iP g1 g2 g4 cb @bf @df ae);bT ?_)
    refine dW 17 ?_;refine (have F:=(aj11 w1 l1 l2 iP g1 g2 g4 cb @bf @df ae);bT ?_);refine (have F:=ae;qm ?_);refine Exists.intro _ (ai (Wk.refl _) ?_);rw [g3];have F:=@w1;refine gG ?_;exact ⟨(p,U),⟨M0,y::M2,by rw [hU];simp,hp,by rw [<- he];simp,hM2⟩,gw,gw,om⟩
   ·refine (have F:=(aj11 w1 l1 l2 iP g1 g2 g4 cb @bf @df ae);bT ?_);refine dW 9 ?_;refine (have F:=(aj11 w1 l1 l2 iP g1 g2 g4 cb @bf @df ae);bT ?_);refine dW 14 ?_;refine (have F:=(aj11 w1 l1 l2 iP g1 g2 g4 cb @bf @df ae);bT ?_);refine dW 15 ?_;refine (have F:=(aj11 w1 l1 l2 iP g1 g2 g4 cb @bf @df ae);bT ?_);refine dW 16 ?_;refine (have F:=(aj11 w1 l1 l2 iP g1 g2 g4 cb @bf @df ae);bT ?_)
    refine dW 17 ?_;refine (have F:=(aj11 w1 l1 l2 iP g1 g2 g4 cb @bf @df ae);bT ?_);refine (have F:=ae;qm ?_);refine Exists.intro _ (ai (Wk.refl _) ?_);rw [g3];have F:=@w1;refine gG ?_;exact ⟨(p,U),⟨M0,y::M2,by rw [hU];simp,hp,by rw [<- he];simp,hM2⟩,gw,gw,om⟩
  ·have z1:(aH x y < 0)=False:=eq_false hc;have hn:=dh (M0++[y]) M2 he h2 (fun u h=>by
    simp only [List.getLast?_append,List.getLast?_singleton,Option.some_or,Taq] at h;subst h;exact ZrT hc)
   rw [hn] at dD;subst dD;refine fR (aj3 @z1 @q2 @ae) ?_;refine fG (ai @z1 @ae) ?_;have F:=@wi;refine gG ?_;exact ⟨(i+1,vs),⟨om,.inl au,hT⟩,gw,gw,om⟩
theorem Zx5 {P A B Q:List Tm} {i k:Nat} {x:Tm} (h:A[i]?=some x) (hk:k=P.length+i):(P++A++B++Q)[k]?=some x:=by
 have hi:=(Tad.1 h).1;subst hk;rw [Tbf,Tbf,Tbq om,Nat.add_sub_cancel_left,Tbp hi,h]
theorem Zx6 {P A B Q:List Tm} {i k:Nat} {x:Tm} (h:B[i]?=some x) (hk:k=P.length+A.length+i):(P++A++B++Q)[k]?=some x:=by
 have hi:=(Tad.1 h).1;subst hk;rw [Tbf,Tbq (by rw [Tae];omega),Tae,Nat.add_sub_cancel_left,Tbp hi,h]
theorem Zta {B:List Tm} {x:Tm} (hB:Up B) {s:Nat} (h1:0 < s->∃ y,B[s - 1]?=some y∧aH y x<=0) (h2:s < B.length->∃ y,B[s]?=some y∧aH x y<=0):cq ([x]++B)=B.take s++x::B.drop s:=(Zho (ZDN s) (hB.put h1 h2)).symm
def SymL (A B:List Tm) (lo mid st i:Nat):Prop:=st < i->∃ u v,A[i - 1 - lo]?=some u∧B[mid - i]?=some v∧aH u v<=0
def SymR (A B:List Tm) (lo mid r0 j:Nat):Prop:=j < r0->∃ u v,B[mid - 1 - j]?=some u∧A[j - lo]?=some v∧aH u v<=0
theorem Ztb:∀ (n:Nat) (P A B Q:List Tm),A.length+B.length<=n->0 < A.length->0 < B.length->Up A->Up B->∀ {lo mi hi N:Nat},lo=P.length->mi=P.length+A.length->hi=P.length+A.length+B.length->N=P.length+A.length+B.length+Q.length->N<=4000000->∀ (a:Option Addr) (cap:Nat),
  aR e0 329 [.one (.lit (.slice a N cap)),.one (.lit (.int .i64 lo)),.one (.lit (.int .i64 mi)),.one (.lit (.int .i64 hi)),.one (.fn 133 [])] [.buf (some (a,cap)) 53 4 (aq (P++A++B++Q))] (eQ a cap (P++cq (A++B)++Q)):=by
 intro n
 induction n with
 | zero=>intro P A B Q h1 h2;omega
 | succ n ih =>
 intro P A B Q bO A9 qn hA hB lo mi hi N eD hmi lV hN dg a cap;have hU:∃ U,U=P++A++B++Q:=⟨_,rfl⟩;obtain ⟨U,hU⟩:=hU;have yg:U.length=N:=by rw [hU];simp only [Tae];omega
 rw [<- hU];have w0:IntKind.i64.wrap ((mi:Int) - (lo:Int))=(A.length:Int):=dI om om om;have w1:IntKind.i64.wrap ((hi:Int) - (mi:Int))=(B.length:Int):=dI om om om;refine dK (ts:=[]) [1000] 13164839976634628298295110780136696778032692856359452003713154079 Tryz.func329 ?_;by_cases hA1:A.length=1
 ·have q1:((A.length:Int)=1)=True:=eq_true om;obtain ⟨x,hx⟩:∃ x,A=[x]:=List.length_eq_one_iff.1 hA1;have gx:U[lo]?=some x:=by rw [hU];exact Zx5 (i:=0) (by rw [hx];rfl) om
  have l0:lo < N:=om;refine fG (aj3 @w0 @q1 @ae) ?_;clear q1;have F:=@ae;refine gL (ι:=Nat × Nat) [10,11,12,33,50] [] (fun z=>[(10,.d (.one (.lit (.int .i64 (z.1:Int))))),(11,.d (.one (.lit (.int .i64 (z.2:Int)))))]) (fun z=>[]) (fun z=>mi<=z.1∧z.1<=z.2∧z.2<=hi∧(mi < z.1->∃ y,B[z.1 - mi - 1]?=some y∧aH y x<=0)∧(z.2 < hi->∃ y,B[z.2 - mi]?=some y∧aH x y<=0)) (fun z=>z.2 - z.1) ((mi,hi)) (⟨Tai _,om,Tai _,fun h=>om,fun h=>om⟩) (fun z hz=>?_);clear F
  obtain ⟨i,j⟩:=z;obtain ⟨h1,h2,h3,h4,h5⟩:=hz;simp only at h1 h2 h3 h4 h5;dsimp only;by_cases nQ:i < j
  ·have q2:=lT i j;obtain ⟨s,h,u1,u2,u3,u4,hh⟩:=Zl8 i j om;obtain ⟨y,hy⟩:∃ y,B[h - mi]?=some y:=⟨_,Taa om⟩;have gy:U[h]?=some y:=by rw [hU];exact Zx6 hy om
   have lh:h < N:=om;have wh:=bI (k:=h) om;refine fB (aj14 @q2 @u1 @u2 @u3 @u4 @zq @Zl7 @Ar @Zj6 @xK @Zjw @toNat_one @Zn3 @ae) ?_;refine fC (aj7 @ae @gx @gy @l0 @lh @yg @bf) (DD (Ax y x)) ?_;by_cases hc:aH y x < 0
   ·have z1:(aH y x < 0)=True:=eq_true hc;refine fR (ai @z1 @ae) ?_;have F:=ai @z1 @wh;refine gG ?_;exact ⟨(h+1,j),⟨om,om,h3,fun _=>⟨y,by rw [<- hy];congr 1;omega,om⟩,h5⟩,gw,gw,om⟩
   ·have z1:(aH y x < 0)=False:=eq_false hc;refine fR (ai @z1 @ae) ?_;have F:=@z1;refine gG ?_;exact ⟨(i,h),⟨h1,om,om,h4,fun _=>⟨y,hy,ZrT hc⟩⟩,gw,gw,om⟩
  have q2:=lF i j;obtain rfl:i=j:=by omega
  obtain ⟨e,he⟩:∃ e,i=e+1:=⟨i - 1,om⟩;have w2:IntKind.i64.wrap ((i:Int) - 1)=(e:Int):=dI om om om;have lB:cq (A++B)=B.take (e - lo)++x::B.drop (e - lo):=by
   rw [hx];exact Zta hB (fun h=>by obtain ⟨y,hy,hc⟩:=h4 om;exact ⟨y,by rw [<- hy];congr 1;omega,hc⟩) (fun h=>by obtain ⟨y,hy,hc⟩:=h5 om;exact ⟨y,by rw [<- hy];congr 1;omega,hc⟩)
  rw [lB];refine fG (ai @q2 @ae) ?_;have F:=@ae;refine gL (ι:=Nat × List Tm) [13,58] [1000] (fun z=>[(13,.d (.one (.lit (.int .i64 (z.1:Int)))))]) (fun z=>[(1000,.buf (some (a,cap)) 53 4 (aq z.2))]) (fun z=>lo<=z.1∧z.1<=e∧z.2=P++B.take (z.1 - lo)++x::(B.drop (z.1 - lo)++Q)) (fun z=>e - z.1) ((lo,U)) (⟨Tai _,om,by rw [hU,hx,Nat.sub_self];simp⟩) (fun z hz=>?_);clear F;obtain ⟨k,us⟩:=z;obtain ⟨k1,k2,cu⟩:=hz
  simp only at k1 k2 cu;dsimp only;by_cases hk:k < e
  ·have q3:=lT k e;obtain ⟨y,hy⟩:∃ y,B[k - lo]?=some y:=⟨_,Taa om⟩;have uW:(P++B.take (k - lo)).length=k:=by rw [Tae,Taw];omega
   rw [CZ hy] at cu;have g1:us[k]?=some x:=by rw [cu];exact Dx uW
   have g2:us[k+1]?=some y:=by rw [cu];exact ZpA uW
   obtain ⟨V,hV⟩:∃ V,V=P++B.take (k+1 - lo)++x::(B.drop (k+1 - lo)++Q):=⟨_,rfl⟩;have g3:(us.set k y).set (k+1) x=V:=by
    rw [hV,cu,Taf,ZDO uW,show k+1 - lo=k - lo+1 by omega,xr hy];simp
   have dM:us.length=N:=by rw [cu];simp only [Tae,Tag,Taw,Tax];omega
   obtain ⟨k',eV⟩:∃ k',k'=k+1:=⟨_,rfl⟩;rw [<- eV] at g2 g3 hV;have wk:IntKind.i64.wrap ((k:Int)+1)=(k':Int):=dI om om om;have l1:k < N:=om;have l2:k' < N:=om;have cb:∀ q (t:Tm),(us.set q t).length=N:=fun q t=>by rw [Taz,dM]
   obtain ⟨z,g4⟩:∃ z,(us.set k y)[k']?=some z:=⟨_,Taa (by rw [Taz];omega)⟩;refine fN 11 (aj3 @q3 @w2 @ae) ?_;refine A3 ?_;refine e8 0 ?_;refine e8 1 ?_;refine e8 2 ?_;refine e8 3 ?_;refine (have F:=(aj11 wk l1 l2 dM g1 g2 g4 cb @bf @df ae);wV 4 ?_);refine e8 5 ?_;refine e8 6 ?_;refine (have F:=(aj11 wk l1 l2 dM g1 g2 g4 cb @bf @df ae);wV 7 ?_);refine (have F:=(aj11 wk l1 l2 dM g1 g2 g4 cb @bf @df ae);zC (rows:=aq us) 8 k' (by rw [bf];omega) ?_)
   refine e8 10 ?_;refine e8 11 ?_;refine (have F:=(aj11 wk l1 l2 dM g1 g2 g4 cb @bf @df ae);zC (rows:=aq us) 12 k (by rw [bf];omega) ?_);refine zB ?_;refine zD 9 13 ?_ ?_
   ·refine (have F:=(aj11 wk l1 l2 dM g1 g2 g4 cb @bf @df ae);bT ?_);refine dW 13 ?_;refine (have F:=(aj11 wk l1 l2 dM g1 g2 g4 cb @bf @df ae);bT ?_);refine dW 14 ?_;refine (have F:=(aj11 wk l1 l2 dM g1 g2 g4 cb @bf @df ae);bT ?_);refine dW 15 ?_;refine (have F:=(aj11 wk l1 l2 dM g1 g2 g4 cb @bf @df ae);bT ?_);refine dW 16 ?_;refine (have F:=(aj11 wk l1 l2 dM g1 g2 g4 cb @bf @df ae);bT ?_)
    refine dW 17 ?_;refine (have F:=(aj11 wk l1 l2 dM g1 g2 g4 cb @bf @df ae);bT ?_);refine (have F:=ae;qm ?_);refine Exists.intro _ (ai (Wk.refl _) ?_);rw [g3];have F:=@wk;refine gG ?_;exact ⟨(k',V),⟨om,om,hV⟩,gw,gw,om⟩
   ·refine (have F:=(aj11 wk l1 l2 dM g1 g2 g4 cb @bf @df ae);bT ?_);refine dW 9 ?_;refine (have F:=(aj11 wk l1 l2 dM g1 g2 g4 cb @bf @df ae);bT ?_);refine dW 14 ?_;refine (have F:=(aj11 wk l1 l2 dM g1 g2 g4 cb @bf @df ae);bT ?_);refine dW 15 ?_;refine (have F:=(aj11 wk l1 l2 dM g1 g2 g4 cb @bf @df ae);bT ?_);refine dW 16 ?_;refine (have F:=(aj11 wk l1 l2 dM g1 g2 g4 cb @bf @df ae);bT ?_)
    refine dW 17 ?_;refine (have F:=(aj11 wk l1 l2 dM g1 g2 g4 cb @bf @df ae);bT ?_);refine (have F:=ae;qm ?_);refine Exists.intro _ (ai (Wk.refl _) ?_);rw [g3];have F:=@wk;refine gG ?_;exact ⟨(k',V),⟨om,om,hV⟩,gw,gw,om⟩
  have q3:=lF k e;obtain rfl:k=e:=by omega
  subst cu;rw [show P++B.take (k - lo)++x::(B.drop (k - lo)++Q)=P++(B.take (k - lo)++x::B.drop (k - lo))++Q by simp];refine fG (aj3 @q3 @w2 @ae) ?_
  first | exact (have F:=@aw;ow (R:=eQ a cap (P++(B.take (k - lo)++x::B.drop (k - lo))++Q)) [1000] ⟨rfl,rfl⟩) | exact (have F:=@aw;eU (R:=eQ a cap (P++(B.take (k - lo)++x::B.drop (k - lo))++Q)) [1000] ⟨rfl,rfl⟩)
 have q1:((A.length:Int)=1)=False:=eq_false om;by_cases wX:B.length=1
 ·have q1':((B.length:Int)=1)=True:=eq_true om;obtain ⟨x,hx⟩:∃ x,B=[x]:=List.length_eq_one_iff.1 wX;have gx:U[mi]?=some x:=by rw [hU];exact Zx6 (i:=0) (by rw [hx];rfl) om
  have l0:mi < N:=om;refine fG (aj5 @w0 @w1 @q1 @q1' @ae) ?_;clear q1 q1';have F:=@ae;refine gL (ι:=Nat × Nat) [14,15,16,85,103] [] (fun z=>[(14,.d (.one (.lit (.int .i64 (z.1:Int))))),(15,.d (.one (.lit (.int .i64 (z.2:Int)))))]) (fun z=>[]) (fun z=>lo<=z.1∧z.1<=z.2∧z.2<=mi∧(lo < z.1->∃ y,A[z.1 - lo - 1]?=some y∧aH y x<=0)∧(z.2 < mi->∃ y,A[z.2 - lo]?=some y∧aH x y<=0)) (fun z=>z.2 - z.1) ((lo,mi)) (⟨Tai _,om,Tai _,fun h=>om,fun h=>om⟩) (fun z hz=>?_);clear F
  obtain ⟨i,j⟩:=z;obtain ⟨h1,h2,h3,h4,h5⟩:=hz;simp only at h1 h2 h3 h4 h5;dsimp only;by_cases nQ:i < j
  ·have q2:=lT i j;obtain ⟨s,h,u1,u2,u3,u4,hh⟩:=Zl8 i j om;obtain ⟨y,hy⟩:∃ y,A[h - lo]?=some y:=⟨_,Taa om⟩;have gy:U[h]?=some y:=by rw [hU];exact Zx5 hy om
   have lh:h < N:=om;have wh:=bI (k:=h) om;refine fB (aj14 @q2 @u1 @u2 @u3 @u4 @zq @Zl7 @Ar @Zj6 @xK @Zjw @toNat_one @Zn3 @ae) ?_;refine fC (aj7 @ae @gx @gy @l0 @lh @yg @bf) (DD (Ax x y)) ?_;by_cases hc:aH x y < 0
   ·have z1:(aH x y < 0)=True:=eq_true hc;refine fR (ai @z1 @ae) ?_;have F:=@z1;refine gG ?_;exact ⟨(i,h),⟨h1,om,om,h4,fun _=>⟨y,hy,om⟩⟩,gw,gw,om⟩
   ·have z1:(aH x y < 0)=False:=eq_false hc;refine fR (ai @z1 @ae) ?_;have F:=ai @z1 @wh;refine gG ?_;exact ⟨(h+1,j),⟨om,om,h3,fun _=>⟨y,by rw [<- hy];congr 1;omega,ZrT hc⟩,h5⟩,gw,gw,om⟩
  have q2:=lF i j;obtain rfl:i=j:=by omega
  have lB:cq (A++B)=A.take (i - lo)++x::A.drop (i - lo):=by
   rw [hx,ZsX (List.perm_append_comm (l₁:=A) (l₂:=[x]))];exact Zta hA (fun h=>by obtain ⟨y,hy,hc⟩:=h4 om;exact ⟨y,hy,hc⟩) (fun h=>by obtain ⟨y,hy,hc⟩:=h5 om;exact ⟨y,hy,hc⟩)
  rw [lB];refine fG (ai @q2 @ae) ?_;have F:=@ae;refine gL (ι:=Nat × List Tm) [17,110] [1000] (fun z=>[(17,.d (.one (.lit (.int .i64 (z.1:Int)))))]) (fun z=>[(1000,.buf (some (a,cap)) 53 4 (aq z.2))]) (fun z=>i<=z.1∧z.1<=mi∧z.2=P++A.take (z.1 - lo)++x::(A.drop (z.1 - lo)++Q)) (fun z=>z.1) ((mi,U)) (⟨h3,Tai _,by rw [hU,hx,show mi - lo=A.length by omega,Tap,List.drop_length];simp⟩) (fun z hz=>?_);clear F
  obtain ⟨k,us⟩:=z;obtain ⟨k1,k2,cu⟩:=hz;simp only at k1 k2 cu;dsimp only;by_cases hk:i < k
  ·have q3:=lT i k;obtain ⟨p,hp⟩:∃ p,k=p+1:=⟨k - 1,om⟩;obtain ⟨y,hy⟩:∃ y,A[p - lo]?=some y:=⟨_,Taa om⟩;have uW:(P++A.take (p - lo)).length=p:=by rw [Tae,Taw];omega
   have B3:us=(P++A.take (p - lo))++y::x::(A.drop (k - lo)++Q):=by rw [cu,show k - lo=p - lo+1 by omega,xr hy];simp
   have g1:us[p]?=some y:=by rw [B3];exact Dx uW
   have g2:us[k]?=some x:=by rw [B3,hp];exact ZpA uW
   obtain ⟨V,hV⟩:∃ V,V=P++A.take (p - lo)++x::(A.drop (p - lo)++Q):=⟨_,rfl⟩;have g3:(us.set k y).set p x=V:=by
    rw [hV,B3,hp,ZwX uW,CZ hy,show p+1 - lo=p - lo+1 by omega];simp
   have dM:us.length=N:=by rw [cu];simp only [Tae,Tag,Taw,Tax];omega
   have wk:IntKind.i64.wrap ((k:Int) - 1)=(p:Int):=dI om om om;have l1:k < N:=om;have l2:p < N:=om;have cb:∀ q (t:Tm),(us.set q t).length=N:=fun q t=>by rw [Taz,dM]
   obtain ⟨z,g4⟩:∃ z,(us.set k y)[p]?=some z:=⟨_,Taa (by rw [Taz];omega)⟩;refine fN 23 (ai @q3 @ae) ?_;refine A3 ?_;refine e8 0 ?_;refine e8 1 ?_;refine e8 2 ?_;refine e8 3 ?_;refine (have F:=(aj11 wk l1 l2 dM g1 g2 g4 cb @bf @df ae);wV 4 ?_);refine e8 5 ?_;refine e8 6 ?_;refine (have F:=(aj11 wk l1 l2 dM g1 g2 g4 cb @bf @df ae);wV 7 ?_);refine (have F:=(aj11 wk l1 l2 dM g1 g2 g4 cb @bf @df ae);zC (rows:=aq us) 8 p (by rw [bf];omega) ?_)
   refine e8 10 ?_;refine e8 11 ?_;refine (have F:=(aj11 wk l1 l2 dM g1 g2 g4 cb @bf @df ae);zC (rows:=aq us) 12 k (by rw [bf];omega) ?_);refine zB ?_;refine zD 9 13 ?_ ?_
   ·refine (have F:=(aj11 wk l1 l2 dM g1 g2 g4 cb @bf @df ae);bT ?_);refine dW 13 ?_;refine (have F:=(aj11 wk l1 l2 dM g1 g2 g4 cb @bf @df ae);bT ?_);refine dW 14 ?_;refine (have F:=(aj11 wk l1 l2 dM g1 g2 g4 cb @bf @df ae);bT ?_);refine dW 15 ?_;refine (have F:=(aj11 wk l1 l2 dM g1 g2 g4 cb @bf @df ae);bT ?_);refine dW 16 ?_;refine (have F:=(aj11 wk l1 l2 dM g1 g2 g4 cb @bf @df ae);bT ?_)
    refine dW 17 ?_;refine (have F:=(aj11 wk l1 l2 dM g1 g2 g4 cb @bf @df ae);bT ?_);refine (have F:=ae;qm ?_);refine Exists.intro _ (ai (Wk.refl _) ?_);rw [g3];have F:=@wk;refine gG ?_;exact ⟨(p,V),⟨om,om,hV⟩,gw,gw,om⟩
   ·refine (have F:=(aj11 wk l1 l2 dM g1 g2 g4 cb @bf @df ae);bT ?_);refine dW 9 ?_;refine (have F:=(aj11 wk l1 l2 dM g1 g2 g4 cb @bf @df ae);bT ?_);refine dW 14 ?_;refine (have F:=(aj11 wk l1 l2 dM g1 g2 g4 cb @bf @df ae);bT ?_);refine dW 15 ?_;refine (have F:=(aj11 wk l1 l2 dM g1 g2 g4 cb @bf @df ae);bT ?_);refine dW 16 ?_;refine (have F:=(aj11 wk l1 l2 dM g1 g2 g4 cb @bf @df ae);bT ?_)
    refine dW 17 ?_;refine (have F:=(aj11 wk l1 l2 dM g1 g2 g4 cb @bf @df ae);bT ?_);refine (have F:=ae;qm ?_);refine Exists.intro _ (ai (Wk.refl _) ?_);rw [g3];have F:=@wk;refine gG ?_;exact ⟨(p,V),⟨om,om,hV⟩,gw,gw,om⟩
  have q3:=lF i k;obtain rfl:i=k:=by omega
  subst cu;rw [show P++A.take (i - lo)++x::(A.drop (i - lo)++Q)=P++(A.take (i - lo)++x::A.drop (i - lo))++Q by simp];refine fG (ai @q3 @ae) ?_
  first | exact (have F:=@aw;ow (R:=eQ a cap (P++(A.take (i - lo)++x::A.drop (i - lo))++Q)) [1000] ⟨rfl,rfl⟩) | exact (have F:=@aw;eU (R:=eQ a cap (P++(A.take (i - lo)++x::A.drop (i - lo))++Q)) [1000] ⟨rfl,rfl⟩)
 have q1':((B.length:Int)=1)=False:=eq_false om;obtain ⟨s0,mid,u1,u2,u3,u4,hmid⟩:=Zl8 lo hi om;obtain ⟨nn,hnn⟩:∃ nn,nn=mid+mi:=⟨_,rfl⟩;obtain ⟨p,hp⟩:∃ p,nn=p+1:=⟨nn - 1,om⟩;have w2:IntKind.i64.wrap ((mid:Int)+(mi:Int))=(nn:Int):=dI om om om;have w3:IntKind.i64.wrap ((nn:Int) - 1)=(p:Int):=dI om om om;refine fG (aj16 @w0 @w1 @q1 @q1' @u1 @u2 @u3 @u4 @zq @Zl7 @Ar @Zj6 @xK @Zjw @toNat_one (aj3 @Zn3 @w2 @ae)) ?_
 clear q1 q1' u1 u2 u3 u4;refine gM (ι:=Nat × Nat) [20,21] [] (fun z=>[(20,.d (.one (.lit (.int .i64 (z.1:Int))))),(21,.d (.one (.lit (.int .i64 (z.2:Int)))))]) (fun z=>[]) (fun z=>mid < mi∧z.1+hi=nn∧z.2=mid∨mi<=mid∧z.1=lo∧z.2=mi) ?_ (fun z hz=>Exists.intro _ (ai (Wk.refl _) ?_))
 ·by_cases t6:mid < mi
  ·have q2:decide ((mid:Int) < (mi:Int))=true:=decide_eq_true om;have w4:IntKind.i64.wrap ((nn:Int) - (hi:Int))=((nn - hi:Nat):Int):=dI om om om;generalize hv:nn - hi=v at w4;have q2':(mid < mi)=True:=eq_true t6;have F:=aj4 @q2 @q2' @w4 @ae;refine gG ?_;exact ⟨(v,mid),.inl ⟨t6,by simp only;omega,rfl⟩,gw,gw⟩
  ·have q2:decide ((mid:Int) < (mi:Int))=false:=decide_eq_false om;have q2':(mi<=mid)=True:=eq_true om;have F:=aj3 @q2 @q2' @ae;refine gG ?_;exact ⟨(lo,mi),.inr ⟨om,rfl,rfl⟩,gw,gw⟩
 obtain ⟨st,r0⟩:=z;simp only at hz;dsimp only;refine fG (ai @w3 @ae) ?_;have F:=@ae;refine gL (ι:=Nat × Nat) [20,21,23,151,171] [] (fun z=>[(20,.d (.one (.lit (.int .i64 (z.1:Int))))),(21,.d (.one (.lit (.int .i64 (z.2:Int)))))]) (fun z=>[]) (fun z=>st<=z.1∧z.1<=z.2∧z.2<=r0∧SymL A B lo mid st z.1∧SymR A B lo mid r0 z.2) (fun z=>z.2 - z.1) ((st,r0)) (⟨Tai _,om,Tai _,fun h=>om,fun h=>om⟩) (fun z hz=>?_);clear F
 obtain ⟨i,j⟩:=z;rename_i rZ;obtain ⟨h1,h2,h3,h4,h5⟩:=hz;simp only at h1 h2 h3 h4 h5;dsimp only;by_cases nQ:i < j
 ·have q2:=lT i j;obtain ⟨s,c,u1,u2,u3,u4,hc⟩:=Zl8 i j om;obtain ⟨y,hy⟩:∃ y,A[c - lo]?=some y:=⟨_,Taa om⟩;obtain ⟨x,hx⟩:∃ x,B[mid - 1 - c]?=some x:=⟨_,Taa om⟩;obtain ⟨d,hd⟩:∃ d,d+c=p:=⟨p - c,om⟩;have gy:U[c]?=some y:=by rw [hU];exact Zx5 hy om
  have gx:U[d]?=some x:=by rw [hU];exact Zx6 hx om
  have lc:c < N:=om;have ld:d < N:=om;have wc:=bI (k:=c) om;have wd:IntKind.i64.wrap ((p:Int) - (c:Int))=(d:Int):=dI om om om;refine fB (aj14 @q2 @u1 @u2 @u3 @u4 @zq @Zl7 @Ar @Zj6 @xK @Zjw @toNat_one @Zn3 @ae) ?_;refine fC (aj8 @ae @gx @gy @lc @ld @wd @yg @bf) (DD (Ax x y)) ?_;by_cases yj:aH x y < 0
  ·have z1:(aH x y < 0)=True:=eq_true yj;refine fR (ai @z1 @ae) ?_;have F:=@z1;refine gG ?_;exact ⟨(i,c),⟨h1,om,om,h4,fun _=>⟨x,y,hx,hy,om⟩⟩,gw,gw,om⟩
  ·have z1:(aH x y < 0)=False:=eq_false yj;refine fR (ai @z1 @ae) ?_;have F:=ai @z1 @wc;refine gG ?_;exact ⟨(c+1,j),⟨om,om,h3,fun _=>⟨y,x,by rw [<- hy];congr 1,by rw [<- hx];congr 1;omega,ZrT yj⟩,h5⟩,gw,gw,om⟩
 have q2:=lF i j;obtain rfl:i=j:=by omega
 have sN:=ZGn hA hB (s:=i - lo) (e:=mid - i) (fun e1 e2=>by
  obtain ⟨u,v,k1,k2,k3⟩:=h4 om;exact ⟨u,v,by rw [<- k1];congr 1;omega,k2,k3⟩) (fun e1 e2=>by
  obtain ⟨u,v,k1,k2,k3⟩:=h5 om;exact ⟨u,v,by rw [<- k1];congr 1;omega,k2,k3⟩)
 have eA:A=A.take (i - lo)++A.drop (i - lo):=(Tbm _ _).symm;have eB:B=B.take (mid - i)++B.drop (mid - i):=(Tbm _ _).symm;have lA1:(A.take (i - lo)).length=i - lo:=by rw [Taw];omega
 have lA2:(A.drop (i - lo)).length=mi - i:=by rw [Tax];omega
 have lB1:(B.take (mid - i)).length=mid - i:=by rw [Taw];omega
 have lB2:(B.drop (mid - i)).length=hi+i - mi - mid:=by rw [Tax];omega
 have uA1:=hA.take (i - lo);have uA2:=hA.drop (i - lo);have uB1:=hB.take (mid - i);have uB2:=hB.drop (mid - i);generalize A.take (i - lo)=A1 at sN eA lA1 uA1;generalize A.drop (i - lo)=A2 at sN eA lA2 uA2;generalize B.take (mid - i)=B1 at sN eB lB1 uB1;generalize B.drop (mid - i)=B2 at sN eB lB2 uB2;have nT:=ZxX sN;rw [<- eA,<- eB] at nT;rw [<- nT];obtain ⟨ed,hed⟩:∃ ed,ed+i=nn:=⟨nn - i,om⟩
 have w5:IntKind.i64.wrap ((nn:Int) - (i:Int))=(ed:Int):=dI om om om;clear h4 h5 sN nT hA hB;refine fG (aj3 @q2 @w5 @ae) ?_;refine gM (ι:=Bool) [185] [] (fun b=>[(185,.d (.one (.lit (.bool b))))]) (fun b=>[]) (fun b=>b=decide (i < mi∧mi < ed)) ?_ (fun b hb=>Exists.intro _ (ai (Wk.refl _) ?_))
 ·by_cases ke:i < mi
  ·have q3:=lT i mi;by_cases pK:mi < ed
   ·have q4:=lT mi ed;have F:=aj3 @q3 @q4 @ae;refine gG ?_;exact ⟨true,(decide_eq_true (ai ke pK)).symm,gw,gw⟩
   ·have q4:=lF mi ed;have F:=aj3 @q3 @q4 @ae;refine gG ?_;exact ⟨false,(decide_eq_false fun h=>pK h.2).symm,gw,gw⟩
  ·have q3:=lF i mi;have F:=ai @q3 @ae;refine gG ?_;exact ⟨false,(decide_eq_false fun h=>ke h.1).symm,gw,gw⟩
 subst hb;refine gM (ι:=Unit) [] [1000] (fun z=>[]) (fun z=>[(1000,.buf (some (a,cap)) 53 4 (aq (P++A1++B1++(A2++B2++Q))))]) (fun z=>True) ?_ (fun z hz=>Exists.intro _ (ai (Wk.refl _) ?_))
 ·by_cases hr:i < mi∧mi < ed
  ·rw [decide_eq_true hr];obtain ⟨ke,pK⟩:=hr;have c:=ZDS (P++A1) A2 B1 (B2++Q) om om (A:=i) (M:=mi) (B:=ed) (N:=N) (by rw [Tae];omega) (by rw [Tae];omega) (by rw [Tae];omega) (by rw [Tae,Tae];omega) dg a cap;rw [show P++A1++A2++B1++(B2++Q)=U by rw [hU,eA,eB];simp,show P++A1++B1++A2++(B2++Q)=P++A1++B1++(A2++B2++Q) by simp] at c;generalize P++A1++B1++(A2++B2++Q)=V at c ⊢;refine fN 40 @ae ?_;refine gB ?_
   have F:=@ae;refine bR [1000] [1000] (c) ?_;clear F;rintro r pm ⟨rfl,rfl⟩;simp only [aI,bh,aZ,Taf,Tah];refine fR @ae ?_;exact ⟨(),trivial,gw,gw⟩
  ·have hUU:U=P++A1++B1++(A2++B2++Q):=by
    rw [hU,eA,eB];rcases (show mi<=i∨mid<=i by omega) with h | h
    ·have:A2=[]:=Tao om;subst this;simp
    ·have:B1=[]:=Tao om;subst this;simp
   rw [<- hUU,decide_eq_false hr];have F:=@ae;refine gG ?_;exact ⟨(),trivial,gw,gw⟩
 clear hU yg U;refine wz ?_;refine wz ?_;refine gM (ι:=Bool) [199] [] (fun b=>[(199,.d (.one (.lit (.bool b))))]) (fun b=>[]) (fun b=>b=decide (lo < i∧i < mid)) ?_ (fun b hb=>Exists.intro _ (ai (Wk.refl _) ?_))
 ·by_cases ke:lo < i
  ·have q3:=lT lo i;by_cases pK:i < mid
   ·have q4:=lT i mid;have F:=aj3 @q3 @q4 @ae;refine gG ?_;exact ⟨true,(decide_eq_true (ai ke pK)).symm,gw,gw⟩
   ·have q4:=lF i mid;have F:=aj3 @q3 @q4 @ae;refine gG ?_;exact ⟨false,(decide_eq_false fun h=>pK h.2).symm,gw,gw⟩
  ·have q3:=lF lo i;have F:=ai @q3 @ae;refine gG ?_;exact ⟨false,(decide_eq_false fun h=>ke h.1).symm,gw,gw⟩
 subst hb;refine gM (ι:=Unit) [] [1000] (fun z=>[]) (fun z=>[(1000,.buf (some (a,cap)) 53 4 (aq (P++cq (A1++B1)++(A2++B2++Q))))]) (fun z=>True) ?_ (fun z hz=>Exists.intro _ (ai (Wk.refl _) ?_))
 ·by_cases hr:lo < i∧i < mid
  ·rw [decide_eq_true hr];obtain ⟨ke,pK⟩:=hr;have c:=ih P A1 B1 (A2++B2++Q) om om om uA1 uB1 (lo:=lo) (mi:=i) (hi:=mid) (N:=N) eD om om (by simp only [Tae];omega) dg a cap;generalize P++cq (A1++B1)++(A2++B2++Q)=V at c ⊢;generalize P++A1++B1++(A2++B2++Q)=V' at c ⊢;refine fN 42 @ae ?_;refine gB ?_;have F:=@ae;refine bR [1000] [1000] (c) ?_;clear F;rintro r pm ⟨rfl,rfl⟩;simp only [aI,bh,aZ,Taf,Tah]
   refine fR @ae ?_;exact ⟨(),trivial,gw,gw⟩
  ·have hs:cq (A1++B1)=A1++B1:=by
    rcases (show i<=lo∨mid<=i by omega) with h | h
    ·have:A1=[]:=Tao om;subst this;exact C8 uB1
    ·have:B1=[]:=Tao om;subst this;rw [List.append_nil];exact C8 uA1
   rw [hs,<- Tbf P,decide_eq_false hr];generalize P++A1++B1++(A2++B2++Q)=V;have F:=@ae;refine gG ?_;exact ⟨(),trivial,gw,gw⟩
 have fh:(cq (A1++B1)).length=mid - lo:=by rw [xw,Tae];omega
 generalize cq (A1++B1)=S1 at fh ⊢;rw [show P++S1++(A2++B2++Q)=P++S1++A2++B2++Q by simp,show P++(S1++cq (A2++B2))++Q=P++S1++cq (A2++B2)++Q by simp];refine wz ?_;refine gM (ι:=Bool) [213] [] (fun b=>[(213,.d (.one (.lit (.bool b))))]) (fun b=>[]) (fun b=>b=decide (mid < ed∧ed < hi)) ?_ (fun b hb=>Exists.intro _ (ai (Wk.refl _) ?_))
 ·by_cases ke:mid < ed
  ·have q3:=lT mid ed;by_cases pK:ed < hi
   ·have q4:=lT ed hi;have F:=aj3 @q3 @q4 @ae;refine gG ?_;exact ⟨true,(decide_eq_true (ai ke pK)).symm,gw,gw⟩
   ·have q4:=lF ed hi;have F:=aj3 @q3 @q4 @ae;refine gG ?_;exact ⟨false,(decide_eq_false fun h=>pK h.2).symm,gw,gw⟩
  ·have q3:=lF mid ed;have F:=ai @q3 @ae;refine gG ?_;exact ⟨false,(decide_eq_false fun h=>ke h.1).symm,gw,gw⟩
 subst hb;by_cases hr:mid < ed∧ed < hi
 ·rw [decide_eq_true hr];obtain ⟨ke,pK⟩:=hr;have c:=ih (P++S1) A2 B2 Q om om om uA2 uB2 (lo:=mid) (mi:=ed) (hi:=hi) (N:=N) (by rw [Tae];omega) (by rw [Tae];omega) (by rw [Tae];omega) (by simp only [Tae];omega) dg a cap;generalize P++S1++cq (A2++B2)++Q=V at c ⊢;generalize P++S1++A2++B2++Q=V' at c ⊢;refine fN 44 @ae ?_;refine gB ?_;have F:=@ae;refine bR [1000] [1000] (c) ?_;clear F;rintro r pm ⟨rfl,rfl⟩
  simp only [aI,bh,aZ,Taf,Tah];refine fR @ae ?_
  first | exact (have F:=@aw;ow (R:=eQ a cap V) [1000] ⟨rfl,rfl⟩) | exact (have F:=@aw;eU (R:=eQ a cap V) [1000] ⟨rfl,rfl⟩)
 ·have hs:cq (A2++B2)=A2++B2:=by
   rcases (show ed<=mid∨hi<=ed by omega) with h | h
   ·have:A2=[]:=Tao om;subst this;exact C8 uB2
   ·have:B2=[]:=Tao om;subst this;rw [List.append_nil];exact C8 uA2
  rw [hs,<- Tbf (P++S1),decide_eq_false hr];generalize P++S1++A2++B2++Q=V;refine fG @ae ?_
  first | exact (have F:=@aw;ow (R:=eQ a cap V) [1000] ⟨rfl,rfl⟩) | exact (have F:=@aw;eU (R:=eQ a cap V) [1000] ⟨rfl,rfl⟩)
theorem Ztc {X A B r ts:List Tm} (h:(X++A++r).Perm ts) (hB:B.Perm A):(X++B++r).Perm ts:=((List.Perm.append_left X hB).append_right r).trans h
theorem Ztd (ts:List Tm) {N:Nat} (hN:N=ts.length) (dg:N<=4000000) (a:Option Addr) (cap:Nat) :
  aR e0 307 [.one (.lit (.slice a N cap)),.one (.lit (.int .i64 N)),.one (.fn 133 [])] [.buf (some (a,cap)) 53 4 (aq ts)] (eQ a cap (cq ts)):=by
 refine dK (ts:=[]) [1000] 18014433942971335 Tryz.func307 ?_;refine fG @ae ?_;have F:=@ae;refine gL (ι:=(Nat × Nat) × List Tm) [7,8,13] [1000] (fun z=>[(7,.d (.one (.lit (.int .i64 (z.1.1:Int))))),(8,.d (.one (.lit (.int .i64 (z.1.2:Int)))))]) (fun z=>[(1000,.buf (some (a,cap)) 53 4 (aq z.2))]) (fun z=>z.1.2=z.1.1+20∧z.1.1<=N∧∃ X,z.2=X++ts.drop z.1.1∧X.length=z.1.1∧Full 20 X∧X.Perm (ts.take z.1.1)) (fun z=>N - z.1.1) (((0,20),ts)) (⟨rfl,Taj _,[],rfl,rfl,.nil,List.Perm.refl _⟩) (fun z hz=>?_);clear F
 obtain ⟨⟨i,j⟩,us⟩:=z;obtain ⟨hj,hi,X,cu,hX,hF,hp⟩:=hz;simp only at hj hi cu hX hp;dsimp only;by_cases au:j<=N
 ·have q1:((j:Int)<=(N:Int))=True:=eq_true om;have hd:ts.drop i=(ts.drop i).take 20++ts.drop j:=by rw [hj,<- List.drop_drop,Tbm]
  have hl:((ts.drop i).take 20).length=20:=by rw [Taw,Tax];omega
  have ht:ts.take j=ts.take i++(ts.drop i).take 20:=by rw [hj,List.take_add]
  have c:=Zs9 X ((ts.drop i).take 20) (ts.drop j) (A:=i) (B:=j) (N:=N) hX.symm om (by rw [Tax];omega) dg a cap;rw [Tbf X,<- hd,<- cu] at c;have wj:IntKind.i64.wrap ((j:Int)+20)=((j+20:Nat):Int):=dI om om om;obtain ⟨V,hV⟩:∃ V,V=X++cq ((ts.drop i).take 20)++ts.drop j:=⟨_,rfl⟩;rw [<- hV] at c;obtain ⟨j',ka⟩:∃ j',j'=j+20:=⟨_,rfl⟩;rw [<- ka] at wj;refine fN 3 (ai @q1 @ae) ?_;refine gB ?_;have F:=@ae;refine bR [1000] [1000] (c) ?_;clear F
  rintro r pm ⟨rfl,rfl⟩;simp only [aI,bh,aZ,Taf,Tah];refine fR @ae ?_;have F:=@wj;refine gG ?_;exact ⟨((j,j'),V),⟨ka,au,X++cq ((ts.drop i).take 20),hV,by rw [Tae,xw];simp only;omega,hF.snoc (by rw [xw];exact hl) (rJ _),by simp only;rw [ht];exact hp.append (nu _)⟩,gw,gw,by dsimp only;omega⟩
 have q1:((j:Int)<=(N:Int))=False:=eq_false om;have c:=Zs9 X (ts.drop i) [] (A:=i) (B:=N) (N:=N) hX.symm (by rw [Tax];omega) (by rw [Tax];simp;omega) dg a cap;rw [List.append_nil,List.append_nil,<- cu] at c;have hB:Blks 20 (X++cq (ts.drop i)):=hF.blks (by rw [xw,Tax];omega) (rJ _);have hP:(X++cq (ts.drop i)).Perm ts:=by
  have:=hp.append (nu (ts.drop i))
  rwa [Tbm] at this
 generalize X++cq (ts.drop i)=vs at c hB hP;refine fN 6 (ai @q1 @ae) ?_;refine gB ?_;have F:=@ae;refine bR [1000] [1000] (c) ?_;clear F;rintro r pm ⟨rfl,rfl⟩;simp only [aI,bh,aZ,Taf,Tah];refine fR @ae ?_;clear c q1 cu hF hp us X hX hi hj;refine fG @ae ?_;have F:=@ae;refine gL (ι:=Nat × List Tm) [6,7,8,9,30,35,54] [1000] (fun z=>[(6,.d (.one (.lit (.int .i64 (z.1:Int)))))]) (fun z=>[(1000,.buf (some (a,cap)) 53 4 (aq z.2))]) (fun z=>0 < z.1∧z.1<=8000000∧Blks z.1 z.2∧z.2.Perm ts) (fun z=>N - z.1) ((20,vs)) (⟨om,om,hB,hP⟩) (fun z hz=>?_);clear F
 clear hB hP vs au i j;obtain ⟨k,us⟩:=z;obtain ⟨jS,hk8,hB,hP⟩:=hz;simp only at jS hk8 hB hP;dsimp only;by_cases au:k < N;rotate_left
 ·have q1:=lF k N;have e:us=cq ts:=Zho hP (hB.up (by rw [hP.length_eq];omega));subst e;refine fG (ai @q1 @ae) ?_
  first | exact (have F:=@aw;ow (R:=eQ a cap (cq ts)) [1000] ⟨rfl,rfl⟩) | exact (have F:=@aw;eU (R:=eQ a cap (cq ts)) [1000] ⟨rfl,rfl⟩)
 have q1:=lT k N;obtain ⟨k2,ec⟩:∃ k2,k2=2 * k:=⟨_,rfl⟩;have w1:IntKind.i64.wrap (2 * (k:Int))=(k2:Int):=dI om om om;have w2:IntKind.i64.wrap ((k:Int) * 2)=(k2:Int):=dI om om om;refine fG (aj3 @q1 @w1 @ae) ?_;have F:=@ae;refine gL (ι:=(Nat × Nat) × List Tm) [7,8,35] [1000] (fun z=>[(7,.d (.one (.lit (.int .i64 (z.1.1:Int))))),(8,.d (.one (.lit (.int .i64 (z.1.2:Int)))))]) (fun z=>[(1000,.buf (some (a,cap)) 53 4 (aq z.2))]) (fun z=>z.1.2=z.1.1+k2∧z.1.1<=N∧∃ X Y,z.2=X++Y∧X.length=z.1.1∧Full k2 X∧Blks k Y∧(X++Y).Perm ts) (fun z=>N - z.1.1) (((0,k2),us)) (⟨(Nat.zero_add _).symm,Taj _,[],us,rfl,rfl,.nil,hB,hP⟩) (fun z hz=>?_);clear F
 obtain ⟨⟨i,j⟩,vs⟩:=z;obtain ⟨hj,hi,X,Y,dD,hX,hF,hY,hp⟩:=hz;simp only at hj hi dD hX;dsimp only;have jX:=hp.length_eq;rw [Tae] at jX;obtain ⟨m,hm⟩:∃ m,m=i+k:=⟨_,rfl⟩;have w3:IntKind.i64.wrap ((i:Int)+(k:Int))=(m:Int):=dI om om om;by_cases lz:j<=N
 ·have q2:((j:Int)<=(N:Int))=True:=eq_true om;obtain ⟨A,B,r,DO,hA,hB',uA,uB,hr⟩:=hY.two jS om;have hYl:=congrArg List.length DO;simp only [Tae] at hYl;have c:=Ztb _ X A B r (Tai _) om om uA uB (lo:=i) (mi:=m) (hi:=j) (N:=N) hX.symm om om om dg a cap;have e1:X++A++B++r=vs:=by rw [dD,DO];simp
  rw [e1] at c;have oB:(X++cq (A++B)++r).Perm ts:=Ztc (A:=A++B) (by rw [<- Tbf,e1,dD];exact hp) (nu _);obtain ⟨V,hV⟩:∃ V,V=X++cq (A++B)++r:=⟨_,rfl⟩;rw [<- hV] at c;obtain ⟨j',ka⟩:∃ j',j'=j+k2:=⟨_,rfl⟩;have wj:IntKind.i64.wrap ((j:Int)+(k2:Int))=(j':Int):=dI om om om;refine fN 10 (ai @q2 @ae) ?_;refine gB ?_;have F:=ai @ae @w3;refine bR [1000] [1000] (c) ?_;clear F;rintro r' pm ⟨rfl,rfl⟩;simp only [aI,bh,aZ,Taf,Tah]
  refine fR @ae ?_;have F:=ai @w1 @wj;refine gG ?_;exact ⟨((j,j'),V),⟨ka,lz,X++cq (A++B),r,hV,by simp only;rw [Tae,xw,Tae];omega,hF.snoc (by rw [xw,Tae];omega) (rJ _),hr,oB⟩,gw,gw,by dsimp only;omega⟩
 have q2:((j:Int)<=(N:Int))=False:=eq_false om;by_cases DX:m < N
 ·have q3:=lT m N;obtain ⟨A,B,DO,hA,uA,hB'⟩:=hY.split om;have hYl:=congrArg List.length DO;simp only [Tae] at hYl;have uB:=hB'.up om;have c:=Ztb _ X A B [] (Tai _) om om uA uB (lo:=i) (mi:=m) (hi:=N) (N:=N) hX.symm om om (by simp only [Tak];omega) dg a cap;have e1:X++A++B++[]=vs:=by rw [dD,DO];simp
  rw [e1] at c;have oB:(X++cq (A++B)++[]).Perm ts:=Ztc (A:=A++B) (by rw [<- Tbf,e1,dD];exact hp) (nu _);rw [List.append_nil] at oB;obtain ⟨V,hV⟩:∃ V,V=X++cq (A++B):=⟨_,rfl⟩;rw [List.append_nil,<- hV] at c;refine fN 15 (aj4 @q2 @q3 @w3 @ae) ?_;refine gB ?_;have F:=@ae;refine bR [1000] [1000] (c) ?_;clear F;rintro r' pm ⟨rfl,rfl⟩;simp only [aI,bh,aZ,Taf,Tah];refine fR @ae ?_;have F:=@w2;refine gG ?_;exact ⟨(k2,V),⟨om,om,by rw [hV];exact hF.blks (by rw [xw,Tae];omega) (rJ _),by rw [hV];exact oB⟩,gw,gw,om⟩
 have q3:=lF m N;have F:=aj4 @q2 @q3 @w2 @w3;refine gG ?_;exact ⟨(k2,vs),⟨om,om,by rw [dD];exact hF.blks om (hY.up om),by rw [dD];exact hp⟩,gw,gw,om⟩
theorem ZuH (ts:List Tm) (dg:ts.length<=4000000) (a:Option Addr) (cap:Nat) :
  aR e0 248 [.one (.lit (.slice a ts.length cap)),.one (.fn 133 [])] [.buf (some (a,cap)) 53 4 (aq ts)] (eQ a cap (cq ts)):=by
 refine dK (ts:=[]) [1000] 3 Tryz.func248 ?_;refine gB ?_;have F:=@ae;refine bR [1000] [1000] (Ztd ts rfl dg a cap) ?_;clear F;rintro r pm ⟨rfl,rfl⟩;simp only [aI,bh,aZ,Taf,Tah];refine fR @ae ?_;refine fG @ae ?_
 first | exact (have F:=@aw;ow (R:=eQ a cap (cq ts)) [1000] ⟨rfl,rfl⟩) | exact (have F:=@aw;eU (R:=eQ a cap (cq ts)) [1000] ⟨rfl,rfl⟩)
def ck:Tm:=.mk 0 ByteArray.empty 0 []
theorem oc:an ck=[.lit (.int .i64 0),.lit (.string ByteArray.empty),.lit (.int .i64 0),.sl []]:=by simp [ck,an,aq]
theorem ww:aq []=[]:=by simp [aq]
theorem m295 {p:Prop} (h:p:=by
 rw [show dE o L=L by unfold dE;rw [if_neg (by rw [gQ];simp)]];have F:=ai @gQ @ae;exact rA):p:=h
theorem m198 {X Y:Prop} (b:Y) (h:Bx Y->X:=by
 intro B0
 obtain ⟨a,lw⟩:∃ a,xs[i]?=some a:=⟨_,Taa au⟩;have hT:=ha a (Tac lw);have q1:=lT i xs.length;have dY:=bI (k:=i) om;obtain ⟨k,hk⟩:=ZiL hg ho hd yq au;exact B0.o a lw hT q1 dY k hk):X:=h ⟨b⟩
theorem m158 {X Y:Prop} (b:Y) (h:Bx Y->X:=by
 intro B0
 have em:an (da op S)=[.lit (.int .i64 op),.lit (.string ByteArray.empty),.lit (.int .i64 0),.sl (aq S)]:=by simp only [da,an]
 have zs:am (da op S)=1+av S:=by rw [oK];rfl
 exact B0.o em zs):X:=h ⟨b⟩
theorem m114 {X Y:Prop} (b:Y) (h:Bx Y->X:=by
 intro B0
 have e:gZ o op a=a.args:=by unfold gZ;rw [if_pos hN]
 rw [e] at bm ct;have l3:((dc o op (xs.take i)).length+a.args.length<=ak)=True:=eq_true (by unfold ak;omega);have l4:aq (dc o op (xs.take i))++aq a.args=aq (dc o op (xs.take (i+1))):=by rw [bm,pf]
 exact B0.o e bm ct l3 l4):X:=h ⟨b⟩
theorem m112 {X Y:Prop} (b:Y) (h:Bx Y->X:=by
 intro B0
 have l3:((dc o op (xs.take i)).length+1<=ak)=True:=eq_true (by simp only [Tag,Tak] at ct;unfold ak;omega);have l4:aq (dc o op (xs.take i))++[an a]=aq (dc o op (xs.take (i+1))):=by rw [bm,pf,wb]
 exact B0.o l3 l4):X:=h ⟨b⟩
theorem yO {p:Prop} (h:p:=by
 refine gG ?_;exact ⟨i+1,dh,gw,gw,om⟩):p:=h
theorem m49 {p:Prop} (h:p:=by
 by_cases hs:60 < am (da op S)
 ·rw [if_pos (show lY o op S from .inr (.inl hs))];exact bK (ai (lT 60 (am (da op S))) @ae) (ai @hz @ae)
 refine fC (ai (lF 60 (am (da op S))) @ae) (c2) ?_;by_cases qX:20 < aG (da op S)
 ·rw [if_pos (show lY o op S from .inr (.inr qX))];exact bK (ai (lT 20 (aG (da op S))) @ae) (ai @hz @ae)
 rw [if_neg (show ¬ lY o op S from fun h=>h.elim h7 (fun h=>h.elim hs qX))];exact bK (ai (lF 20 (aG (da op S))) @ae) (ai @em @ae)):p:=h
theorem m7 {X Y:Prop} (b:Y) (h:Bx Y->X:=by
 intro B0
 simp only [aI,bh,aZ,Taf,Tah];exact B0.o):X:=h ⟨b⟩
theorem Zik {g:Sgn} {o:Opr} {op:Int}:∀ {xs:List Tm},(∀ a∈xs,TermOk g a)->(dc o op xs).length<=60 * xs.length∧av (dc o op xs)<=60 * xs.length∧aB (dc o op xs)<=20
 | [],_=>⟨Tai _,Tai _,by simp [dc,aB]⟩
 | a::xs,h=>by
  obtain ⟨i1,i2,i3⟩:=Zik (o:=o) (op:=op) fun x hx=>h x (Tal _ hx);have ha:=h a Tas;have e:dc o op (a::xs)=gZ o op a++dc o op xs:=rfl;have s1:=ha.size;have s2:=ha.depth;rw [oK] at s1;rw [ZhJ] at s2;have sl:=uw a.args;have hf:(gZ o op a).length<=60∧av (gZ o op a)<=60∧aB (gZ o op a)<=20:=by
   unfold gZ;split
   ·exact ⟨om,om,om⟩
   ·split
    ·exact ⟨by simp,by simp [av],by simp [aB]⟩
    ·refine ⟨by simp,?_,?_⟩
     ·have:=ha.size;simp only [av];omega
     ·have:=ha.depth;simp only [aB];omega
  have happ:∀ (l m:List Tm),av (l++m)=av l+av m∧aB (l++m)=max (aB l) (aB m):=fun l m=>by
   induction l with
   | nil=>simp [av,aB]
   | cons x l ih=>simp only [Taf,av,aB,ih.1,ih.2];omega
  rw [e,Tae,(happ _ _).1,(happ _ _).2,Tag];omega
section
variable {g:Sgn} {mc:C}
theorem Zx7 (hg:SgnOk g) {op:Int} {o:Opr} (h0:0<=op) (ho:g.ops[op.toNat]?=some o) (hu:o.unit≠0):az e0 247 [.one (.ptr (dJ g mc)),.one (.lit (.int .i64 op))] [.agg (an (ku o))]:=by
 refine m95 fun hw=>?_;refine gI (ts:=[.cell 4 53]) 19 Tryz.func247 ?_;exact fD (aj7 @gH @h0 @ho @bH @hw (by simp only [ku,if_neg hu,an,aq]:an (ku o)=[.lit (.int .i64 (o.unit - 1)),.lit (.string ByteArray.empty),.lit (.int .i64 0),.sl []]) @ae)
open Classical in
theorem Zx8 (hg:SgnOk g) {op:Int} {o:Opr} {d:Dcl} (h0:0<=op) (ho:g.ops[op.toNat]?=some o) (hd:o.decls[0]?=some d) (xs:List Tm) (ha:∀ a∈xs,TermOk g a) (hl:xs.length<=1048576) (sa:(dc o op xs).length<=4000000):az e0 162 [.one (.ptr (dJ g mc)),.one (.lit (.int .i64 op)),.one (.sl (aq xs))] [.agg (an ((nd g o d op xs).getD ck)),.one (.lit (.bool (nd g o d op xs).isSome))]:=by
 have hz:=oc;have zM:=Zik (o:=o) (op:=op) ha;refine gI (ts:=[.cell 6 53,.slot 7]) 85070612101775940130758990405381922759 Tryz.func162 ?_;by_cases oV:ui o d xs.length
 ·rw [show nd g o d op xs=none by unfold nd;rw [if_pos oV]];rcases oV with ⟨h1,h2⟩ | ⟨h1,h2⟩
  ·exact fD (aj8 @gH @h0 @ho @bH @h1 (lT xs.length 2) @hz @ae)
  ·exact fD (aj10 @gH @h0 @ho @bH @h1 @hd @iW (eq_false om:((xs.length:Int)=(d.args.length:Int))=False) @hz @ae)
 refine fG (aj5 @ae @gH @h0 @ho @bH) ?_;refine gM (ι:=Unit) [43] [] (fun u=>[(43,A.d (.one (.lit (.bool false))))]) (fun u=>[]) (fun u=>True) ?_ (fun u hu=>Exists.intro _ (ai (Wk.refl _) ?_))
 ·cases ha:o.assoc with
  | true =>
   have c1:((xs.length:Int) < 2)=False:=eq_false fun c=>oV (.inl ⟨ha,om⟩);have F:=aj4 @ae @bH @ha @c1;exact rA
  | false =>
   have c3:((xs.length:Int)=(d.args.length:Int))=True:=eq_true (by have:¬ (xs.length≠d.args.length):=fun c=>oV (.inr ⟨ha,c⟩);omega);have F:=aj6 @ae @bH @ha @hd @iW @c3;exact rA
 have yq:o.assoc=false->xs.length=d.args.length:=fun h=>Classical.byContradiction fun c=>oV (.inr ⟨h,c⟩);have Bv:dc o op []=[]:=rfl;refine fG @ae ?_;have F:=aj3 @Bv @ww @ae;refine gL (ι:=Nat) [7,9,10,11,48,49,60,62,75] [9] (fun i=>[(48,A.d (.one (.lit (.int .i64 i)))),(9,.buf 9)]) (fun i=>[(9,.buf none 53 4 (aq (dc o op (xs.take i))))]) (fun i=>i<=xs.length∧∀ (j:Nat) a,j < i->xs[j]?=some a->lf g o d j a) (fun i=>xs.length - i) (0) (⟨Taj _,fun j a h=>absurd h om⟩) (fun i hi=>?_)
 obtain ⟨hi,aD⟩:=hi;by_cases au:i < xs.length
 ·refine m198 fun a lw hT q1 dY k hk=>?_;have bm:=ZmC (o:=o) (op:=op) lw;have ct:=ZiO o op xs (i+1);rw [bm,Tae] at ct;refine bz 8 (aj3 @q1 @lw @ae) @ae (ZjX hg hT.form.node) ?_;refine fC @ae (Zmw hg h0 ho hd hk) ?_;by_cases cj:fz g a=((kd g.sorts k:Nat):Int)
  rotate_left
  ·have e:nd g o d op xs=none:=by
    unfold nd;rw [if_neg oV,if_neg fun h=>by
     obtain ⟨k',eV,he⟩:=h i a lw;rw [hk] at eV;injection eV with eV
     subst eV;exact cj he]
   rw [e];exact bK (ai @ae @cj) (ai @hz @ae)
  have dh:i+1<=xs.length∧∀ (j:Nat) a,j < i+1->xs[j]?=some a->lf g o d j a:=⟨au,fun j a' hj de=>by
   by_cases e:j=i
   ·subst e;rw [lw] at de;injection de with de
    subst de;exact ⟨k,hk,cj⟩
   ·exact aD j a' om de⟩
  have l1:ZaB 4 (aq (dc o op (xs.take i)))=true:=oP _;have l5:ZaB 4 (aq a.args)=true:=oP _;by_cases hN:o.assoc=true∧a.op=op
  ·refine m114 fun e bm ct l3 l4=>?_
   obtain ⟨zH,Bf⟩:=hN;refine fR (ai @ae @cj) ?_;have F:=aj9 @ae @bH @zH (eq_true Bf:(a.op=op)=True) @l1 @l5 @l3 @l4 @dY;exact yO
  ·have cU:=Zom (mc:=mc) hg h0 ho a;have bq:o.assoc=true->(a.op=op)=False:=fun h1=>eq_false fun h2=>hN ⟨h1,h2⟩;refine fR (ai @ae @cj) ?_;refine fN 12 (aj3 @ae @bH @bq) ?_;by_cases hU:o.unit≠0∧a.op=o.unit - 1
   ·have e:gZ o op a=[]:=by unfold gZ;rw [if_neg hN,if_pos hU]
    rw [e,List.append_nil] at bm;rw [decide_eq_true hU] at cU;rw [<- bm];rcases Bool.eq_false_or_eq_true o.assoc with dL | dL
    ·refine bw 12 (aj4 @ae @bH @dL (bq dL)) @ae (cU) @ae ?_;have F:=aj3 @ae @dL @dY;exact yO
    ·refine bw 12 (aj3 @ae @bH @dL) @ae (cU) @ae ?_;have F:=aj3 @ae @dL @dY;exact yO
   ·have e:gZ o op a=[a]:=by unfold gZ;rw [if_neg hN,if_neg hU]
    rw [e] at bm ct;rw [decide_eq_false hU] at cU;refine m112 fun l3 l4=>?_
    rcases Bool.eq_false_or_eq_true o.assoc with dL | dL
    ·refine bw 12 (aj4 @ae @bH @dL (bq dL)) @ae (cU) @ae ?_;have F:=aj6 @ae @dL @l1 @l3 @l4 @dY;exact yO
    ·refine bw 12 (aj3 @ae @bH @dL) @ae (cU) @ae ?_;have F:=aj6 @ae @dL @l1 @l3 @l4 @dY;exact yO
 ·obtain rfl:i=xs.length:=by omega
  have q1:=lF xs.length xs.length;rw [Tap];have hm:nd g o d op xs=uh o op (dc o op xs):=by
   unfold nd;rw [if_neg oV,if_pos fun j a h=>aD j a (Tad.1 h).1 h]
  rw [hm];clear hm aD yq;generalize hL:dc o op xs=L at zM sa ⊢;obtain ⟨b1,b2,b3⟩:=zM;refine vO fun kW eD=>?_;have xX:=fun hu=>Zx7 (mc:=mc) hg h0 ho hu;by_cases hu:o.unit≠0∧L.length < 2
  ·rw [(by unfold uh;rw [if_pos hu]:uh o op L=some (L.headD (ku o)))];obtain ⟨uc,hu2⟩:=hu;have q2:(o.unit=0)=False:=eq_false uc;have q3:=lT L.length 2
   cases L with
   | nil =>
    refine bz 18 (aj6 @q1 @bH @q2 (lT (0:Nat) 2) (eq_false om:(((0:Nat):Int)=1)=False) @ae) @ae (xX uc) ?_;exact bK @ae @ae
   | cons b bs =>
    have hb:bs=[]:=Tao (by simp only [Tag] at hu2;omega);subst hb;have z4:(((1:Nat):Int)=1)=True:=eq_true om;have q5:([b]:List Tm)[0]?=some b:=rfl;have z5:(0 < 0+1)=True:=eq_true om;have z6:((0:Nat) < 1)=True:=eq_true om;have z7:Int.toNat 0=0:=rfl;have q6:(0 < [b].length)=True:=eq_true (by simp);exact fD (aj14 @q1 @bH @q2 @q3 (lT (0+1:Nat) 2) (eq_true om:(((0+1:Nat):Int)=1)=True) (lT (1:Nat) 2) @z4 @z5 @z6 @z7 @q5 @q6 @ae)
  ·have sd:uh o op L=if lY o op (dE o L) then none else some (da op (dE o L)):=by unfold uh;rw [if_neg hu]
   rw [sd];clear sd xX;refine fG (ai @q1 @ae) ?_;refine gM (ι:=Unit) [93] [] (fun u=>[(93,A.d (.one (.lit (.bool false))))]) (fun u=>[]) (fun u=>True) ?_ (fun u hu=>Exists.intro _ (ai (Wk.refl _) ?_))
   ·by_cases gl:o.unit=0
    ·have F:=aj3 @bH (eq_true gl:(o.unit=0)=True) @ae;exact rA
    ·have q3:((L.length:Int) < 2)=False:=eq_false fun h=>hu ⟨gl,om⟩;have F:=aj4 @bH (eq_false gl:(o.unit=0)=False) @q3 @ae;exact rA
   refine fN 19 @ae ?_;refine pS 9 fun a cap=>?_;refine gB ?_;refine fR (ai @bH @ae) ?_;refine gM (ι:=Unit) [] [9] (fun u=>[]) (fun u=>[(9,.buf (some (a,cap)) 53 4 (aq (dE o L)))]) (fun u=>True) ?_ (fun u hu=>Exists.intro _ (ai (Wk.refl _) ?_))
   ·cases gQ:o.comm with
    | true =>
     rw [show dE o L=cq L by unfold dE;rw [if_pos gQ]];refine nJ 20 (ai @gQ @ae) ?_;have F:=@ae;refine bR [9] [9] (ZuH L om a cap) ?_;rintro r pm ⟨rfl,rfl⟩;refine m7 ?_;refine fR @ae ?_;exact (have F:=ae;⟨(),trivial,gw,gw⟩)
    | false =>
     exact m295
   have hSl:=Zs2 o L;have sz1:=Zlb (Zhp o L);have dz1:=Zkz (Zhp o L);generalize dE o L=S at hSl sz1 dz1 ⊢;rw [<- hSl,<- bf S];refine pD 9 [9] [] ?_;refine m158 fun em zs=>?_
   have zd:aG (da op S)=1+aB S:=by rw [ZhJ];rfl
   have c1:=Zk7 (t:=da op S) (by unfold fc;omega);have c2:=Zky (t:=da op S) (by unfold fc;omega);rw [em] at c1 c2;refine fN 22 @ae ?_;by_cases h7:o.assoc=true∧7 < S.length
   ·rw [if_pos (show lY o op S from .inl h7)];obtain ⟨dL,h7⟩:=h7;exact fD (aj5 @bH @dL (lT 7 S.length) @hz @ae)
   have dL:o.assoc=true->(7 < (S.length:Int))=False:=fun h=>eq_false fun q=>h7 ⟨h,om⟩;rcases Bool.eq_false_or_eq_true o.assoc with de | de
   ·refine nI (aj4 @bH @de (dL de) @ae) (c1) ?_;exact m49
   ·refine nI (aj3 @bH @de @ae) (c1) ?_;exact m49
open Classical in
theorem ZqC (hg:SgnOk g) {op:Int} {o:Opr} {d:Dcl} (h0:0<=op) (ho:g.ops[op.toNat]?=some o) (hd:o.decls[0]?=some d) (xs:List Tm) (ha:∀ a∈xs,TermOk g a) (hl:xs.length<=1000):az e0 162 [.one (.ptr (dJ g mc)),.one (.lit (.int .i64 op)),.one (.sl (aq xs))] [.agg (an ((nd g o d op xs).getD ck)),.one (.lit (.bool (nd g o d op xs).isSome))]:=Zx8 hg h0 ho hd xs ha om (by have:=(Zik (o:=o) (op:=op) ha).1;omega)
end
theorem m271 {p:Prop} (h:p:=by
 simp [execOp,ho,resolve,invoke,builtin,bj,iC,aJ,Result.andThen]):p:=h
section
variable {w:World} {S:Nat->Prop}
theorem Zx9 {rows:List (List C)} {ety sz cap l h:Nat} {a:Option Addr} (hb:ei w S ety sz rows (.slice a rows.length cap)) (hl:l<=h∧h<=rows.length):∃ (b:Option Addr) (c:Nat) (aF:List Value),sliced a l h cap sz=.slice b ((rows.take h).drop l).length c∧aC w S ((rows.take h).drop l).flatten aF∧∀ (P:Program) (w':World),(∀ p,w'.cell? p=w.cell? p)->(Builtin.firstCells sz ((rows.take h).drop l).length (sliced a l h cap sz)).run P w'=.ok aF.toArray w':=by
 have ix:((rows.take h).drop l).length=h - l:=by rw [Tax,Taw];omega
 obtain ⟨h1,dX,h3⟩:=hb;by_cases he:h=l
 ·have e0:((rows.take h).drop l).length=0:=om;have e1:(rows.take h).drop l=[]:=Tao e0;refine ⟨_,_,[],by rw [ix];exact rfl,by rw [e1];simp [aC],fun P w' _=>?_⟩;rw [e0];simp only [sliced,he,Nat.sub_self];split
  ·cases a <;> simp [Builtin.firstCells,loadCells,loadCellsFrom]
  ·cases a <;> simp [Builtin.firstCells,loadCells,loadCellsFrom]
 ·rcases h3 with ⟨h4,p,h5⟩ | ⟨g,dz,bc,h4,h5,h6,h7,h8,h9,h10,ye,tR⟩
  ·rw [h4] at hl;simp only [Tak] at hl;omega
  ·injection h4 with e1 e2 e3
   subst e1 e3;have sR:¬ cap=l:=om;have mA:sliced (some ⟨g,0,none⟩) l h cap sz=.slice (some ⟨g,l * sz,none⟩) (h - l) (cap - l):=by
    simp only [sliced,sR,if_false,Option.map_some,Addr.add_at,Nat.zero_add]
   have hr:=b7.sub dX tR l h;rw [Nat.zero_add] at hr;obtain ⟨aF,q5,q6⟩:=hr.flat.vals;have fh:rowsLen sz ((rows.take h).drop l):=fun r hr=>dX r (List.mem_of_mem_take (List.mem_of_mem_drop hr));rw [mA];refine ⟨_,_,aF,by rw [ix],q5,fun P w' hw=>?_⟩;exact run_firstCells_some w' sz _ _ _ _ aF (by rw [q5.len,oL fh]) (fun j u hj=>by rw [hw,Addr.add_at];exact q6 j u hj)
end
section
variable {e:Env} {K:St->Prop} {ds:List (Option Nat)} {os:List Oper} {s:List (Nat × A)} {m:List (Nat × Bk)}
theorem ZuI {σ:St} {o:Oper} {x y:Operand} {t ety jr sz by' k j d l h cap:Nat} {a0:Option Addr} {rows rj:List (List C)} {oa:Option (Option Addr × Nat)} (ho:o.op=.call ⟨.builtin .append,#[x,y],#[t,t]⟩) (i7:o.dst=some d) (hb:jc e.P t=some (ety,sz,by'))
  (hx:aL σ.s x=.buf k) (hm:gm σ.m k=some (.buf oa ety sz rows)) (hy:aL σ.s y=.d (.one (.lit (sliced a0 l h cap sz)))) (hj:gm σ.m j=some (.buf (some (a0,cap)) jr sz rj)) (hlh:l<=h∧h<=rj.length) (ct:rows.length+rj.length<=ak)
  (hK:K ⟨(d,.buf d)::bM d (bM k σ.s),(d,.buf none ety sz (rows++(rj.take h).drop l))::aA d (aA k σ.m)⟩):iT e o σ K:=by
 intro he U w0 S0 nt a w Q hd ⟨S,L,h0⟩;have bj:a.eval x=L.v k:=by have:=h0.eval x;rw [hx] at this;exact this
 have iC:=h0.eval y;rw [hy] at iC;have iC:=j8 iC;have bZ:ei w S ety sz rows (L.v k):=(h0.cls.own k _ hm).2;obtain ⟨jX,hbj⟩:=h0.cls.own j _ hj;have hvj:L.v j=.slice a0 rj.length cap:=jX (a0,cap) rfl;rw [hvj] at hbj;obtain ⟨yb,yc,aF,y1,y2,y3⟩:=Zx9 hbj hlh;have ix:((rj.take h).drop l).length=h - l:=by rw [Tax,Taw];omega
 have fh:rowsLen sz ((rj.take h).drop l):=fun r hr=>hbj.2.1 r (List.mem_of_mem_take (List.mem_of_mem_drop hr));obtain ⟨v',w',aJ,ge,τ,hk,hτ,fO⟩:=ZhB (ty:=o.type) (ts:=#[t,t]) (v:=L.v k) (u:=sliced a0 l h cap sz) he h0.cls rfl rfl hb (.inl bZ) bZ.2.1 fh om ⟨yb,yc,aF,y1,y2,y3⟩;unfold Oper.wp;have pK:(execOp a.eval o).run e.P w=.ok (.value v') w':=by
  exact m271
 rw [pK,Oper.upon_value,i7];refine ⟨_,hK,h0.born he (hd d i7) (τ:=τ) (b':=0) (v':=v') (s1:=bM k σ.s) (m1:=aA k σ.m) (fun _ h=>h) (fun _ h=>.inl h) (fun t=>?_) (fun k' x hx=>?_) (fun g hg=>?_) (fun k' x g cj hx hg dC=>?_) hk ?_ (fun g hg=>?_) (by simp [ax])⟩
 ·rcases Am k t σ.s with ⟨h1,_⟩ | h1
  ·exact .inl h1
  ·exact .inr h1
 ·rw [iL] at hx;split at hx
  ·cases hx
  ·exact hx
 ·have fo:=(hτ g hg).1;exact ⟨(bL.lt (k:=k) (L:=L) (bk:=.buf none ety sz rows) ⟨by simp,bZ⟩ fo).2,h0.cls.notE hm fo,h0.cls.mine k _ g hm fo⟩
 ·have fo:=(hτ g hg).1;rw [iL] at hx;split at hx
  ·cases hx
  ·rename_i vj;exact vj (h0.cls.inj k' k x _ g hx hm dC fo)
 ·simp only [bL,if_true];exact ⟨by simp,ge⟩
 ·simp only [cQ,if_true] at hg;exact fO g hg
theorem gAps {d t ty ety jr by' sz l h cap:Nat} {p:String} {ed:Array Edge} {x y:Operand} {rows rj:List (List C)} {oa:Option (Option Addr × Nat)} {a0:Option Addr} {s2:List (Nat × A)} {m2:List (Nat × Bk)} (k j:Nat) (hlh:l<=h∧h<=rj.length) (ct:rows.length+rj.length<=ak) (hK:al e ds 0 os ⟨(d,.buf d)::s2,(d,.buf none ety sz (rows++(rj.take h).drop l))::m2⟩ K)
  (hb:jc e.P t=some (ety,sz,by'):=by exact j5) (hx:aL s x=.buf k:=by exact j5) (hm:gm m k=some (.buf oa ety sz rows):=by exact nf) (hy:aL s y=.d (.one (.lit (sliced a0 l h cap sz))):=by exact nf) (hj:gm m j=some (.buf (some (a0,cap)) jr sz rj):=by exact nf)
  (hs:bM d (bM k s)=s2:=by exact cJ) (hr:aA d (aA k m)=m2:=by exact cJ):al e ds 0 (⟨some d,.call ⟨.builtin .append,#[x,y],#[t,t]⟩,ty,p,ed,none⟩::os) ⟨s,m⟩ K:=by
 subst hs hr;simp only [al] at hK ⊢;exact ut rfl (ZuI rfl rfl hb hx hm hy hj hlh ct hK)
end
theorem m204 {p:Prop} (h:p:=by
 exact ⟨(i+1,uss++[[u0,u1,u2,u3]],fun b=>E b∨E2 b),⟨au,by simp [hn]⟩,gw,gw,om⟩):p:=h
theorem m122 {p:Prop} (h:p:=by
 obtain ⟨i,hi⟩:=Tbk ha;have eG:(aq args)[i]?=some (an a):=by rw [sA,hi];rfl
 have h1:=n7 eG;have h2:=tB eG;exact ih a om om):p:=h
theorem zV {p:Prop} (h:p:=by
 exact br.snoc h1 h2 (fun _ h=>.inl h) (fun _ h=>.inr h) hd):p:=h
theorem vU {u0 u1 u2 u3:Value} (h:(aM [u0,u1,u2,u3]).all aY=true):aY (.lit u0)=true∧aY (.lit u1)=true∧aY (.lit u2)=true∧aY (.lit u3)=true:=by
 simpa [aM,Tar,and_assoc] using h
theorem Zjd (ts:List Tm) {i:Nat} {t:Tm} (h:ts[i]?=some t):aq (ts.take (i+1))=aq (ts.take i)++[an t]:=by
 simp only [mI,List.take_add_one,h,Option.toList,Tbv,Tbu,List.map_nil]
theorem pg (u0 u1 u2 u3:Value):aM [u0,u1,u2,u3]=[.lit u0,.lit u1,.lit u2,.lit u3]:=rfl
theorem lO (uss:List (List Value)):(uss.map aM).length=uss.length:=Tay ..
def eJ (ts:List Tm):Prop:=ts.length+ah (aq ts)<=1048576
theorem Znf (ts:List Tm) (hB:eJ ts) (h:∀ t∈ts,aR e0 46 [.agg (an t)] [] (eL (an t))):aR e0 108 [.one (.sl (aq ts))] [] (Zli 53 4 (aq ts)):=by
 have hl:ts.length<=1048576:=Tbe (Nat.le_add_right _ _) hB;refine dK (ts:=[.slot 2]) [] 1005 Tryz.func108 ?_;refine fG @aw ?_;refine pE [] [1000] Zb8 ?_;have F:=ai @bf @ww;refine gL (ι:=Nat × List (List Value) × (Nat->Prop)) [3,5,8,9] [3,1000] (fun x=>[(8,.d (.one (.lit (.int .i64 (x.1:Int))))),(3,.buf 3)]) (fun x=>[(3,.buf none 53 4 (x.2.1.map aM)),(1000,.set x.2.2 (fun w=>br w (aq (ts.take x.1)) x.2.2 x.2.1))]) (fun x=>x.1<=ts.length∧x.2.1.length=x.1) (fun x=>ts.length - x.1) ((0,[],fun _=>False)) (⟨Taj _,rfl⟩) (fun x hx=>?_)
 obtain ⟨i,uss,E⟩:=x;obtain ⟨hi,hn⟩:=hx;simp only at hi hn;by_cases au:i < ts.length
 ·have hg:ts[i]?=some ts[i]:=Taa au;have hc:=h ts[i] (List.getElem_mem au);generalize ts[i]=t at hg hc;refine fB (aj5 @bf @sA (lT i ts.length) @hg @ae) ?_;have F:=@ae;refine bR [] [1001] (hc) ?_;rintro r pm ⟨us,E2,rfl,hu,aj,rfl⟩;rw [zp] at hu;obtain ⟨u0,u1,u2,u3,rfl⟩:=len4 hu;obtain ⟨k0,k1,k2,k3⟩:=vU aj;have q3:IntKind.i64.wrap ((i:Int)+1)=(i:Int)+1:=IntWalk.i64_in _ om
  simp only [pg,aI,bh,aZ,Taf,Tah];refine fR (aj8 @pg @lO @hn (by unfold ak;omega:i+1<=ak) @k0 @k1 @k2 @k3) ?_;refine pE [1000,1001] [1000] (xB (G':=fun w=>br w (aq (ts.take (i+1))) (fun b=>E b∨E2 b) (uss++[[u0,u1,u2,u3]])) (fun w h1 h2 hd=>?_) (br.stable _ _ _)) ?_
  ·rw [Zjd ts hg];exact zV
  have F:=aj4 @pg @q3 @bf ((@Tbv.{0,0}));refine gG ?_;exact m204
 ·obtain rfl:i=ts.length:=by omega
  refine fG (ai @bf (lF ts.length ts.length)) ?_;rw [Tap];refine pS 2 fun a cap=>?_;refine eU [2,1000] (Zli.mk (by rw [hn,bf]))
theorem ZB6 {w:World} {op so:Int} {nm:ByteArray} {args:List Tm} {E:Nat->Prop} {v:Value} (h:aU w (.sl (aq args)) E v):aT w (an (.mk op nm so args)) E [.int .i64 op,.string nm,.int .i64 so,v]:=by
 simp only [an,aT];refine ⟨fun _=>False,E,fun _ h=>h.elim,fun _ h=>h,fun _ h _=>h,by simp [aU],fun _=>False,E,fun _ h=>h.elim,fun _ h=>h,fun _ h _=>h,by simp [aU],fun _=>False,E,fun _ h=>h.elim,fun _ h=>h,fun _ h _=>h,by simp [aU],E,fun _=>False,fun _ h=>h,fun _ h=>h.elim,fun _ _ h=>h,h,trivial⟩
theorem Zoy (t:Tm) (h:aR e0 108 [.one (.sl (aq t.args))] [] (Zli 53 4 (aq t.args))):aR e0 46 [.agg (an t)] [] (eL (an t)):=by
 obtain ⟨op,nm,so,args⟩:=t;have hc:an (.mk op nm so args)=[.lit (.int .i64 op),.lit (.string nm),.lit (.int .i64 so),.sl (aq args)]:=by simp only [an]
 simp only [Tm.args] at h;refine dK (ts:=[.cell 2 53]) [] 7 Tryz.func46 ?_;refine fB @hc ?_;have F:=@hc;refine bR [] [1000,1001] (h) ?_;rintro r pm ⟨a,cap,uss,E,rfl,hu,rfl⟩;refine m7 ?_;refine dT @hc @hc ?_;refine pE [1000,1001] [1000] (ZbG (G':=fun w=>aT w (an (.mk op nm so args)) (fun b=>aP (.slice a uss.length cap)=some b∨E b) [.int .i64 op,.string nm,.int .i64 so,.slice a uss.length cap]) (fun w h=>ZB6 h) (aT.stable _ _ _)) ?_
 have hm:=eL.mk (row:=an (.mk op nm so args)) (us:=[.int .i64 op,.string nm,.int .i64 so,.slice a uss.length cap]) (E:=fun b=>aP (.slice a uss.length cap)=some b∨E b) (by rw [hc];rfl) rfl;rw [pg] at hm;exact (have F:=hc;eU [1000] hm)
theorem ZDT (n:Nat):(∀ t:Tm,d6 (an t) < n->ab (an t)<=1048576->aR e0 46 [.agg (an t)] [] (eL (an t))):=by
 induction n with
 | zero=>exact fun _ h=>om
 | succ n ih =>
  intro t hn hb;obtain ⟨op,nm,so,args⟩:=t;simp only [an,d6,mo,ab,dN] at hn hb;refine Zoy _ (Znf args (by unfold eJ;have:=bf args;omega) fun a ha=>?_);exact m122
theorem Zil (t:Tm) (hb:ab (an t)<=1048576):aR e0 46 [.agg (an t)] [] (eL (an t)):=ZDT _ t (Tan _) hb
theorem ZGv (pm:List Bk):eS pm pm:=fun w S h1 h2=>⟨h1,h2,fun _ h=>h⟩
theorem ZDU {ts:List Tm} {i:Nat} (h:i<=ts.length):(aq (ts.take i)).length=i:=by rw [bf,Taw];omega
theorem Zrg (t:Tm) (hB:eJ t.args) (h:∀ a∈t.args,az e0 40 [.agg (an a)] [.agg (an a)]):az e0 40 [.agg (an t)] [.agg (an t)]:=by
 obtain ⟨op,nm,so,args⟩:=t;have hc:an (.mk op nm so args)=[.lit (.int .i64 op),.lit (.string nm),.lit (.int .i64 so),.sl (aq args)]:=by simp only [an]
 simp only [Tm.args] at h hB;have hl:args.length<=1048576:=Tbe (Nat.le_add_right _ _) hB;refine gI (ts:=[.cell 2 53]) 65567 Tryz.func40 ?_;refine nJ 1 @hc ?_;refine gP 6 ?_;refine gX ?_;refine fR @hc ?_;refine pN 1000 53 4 ?_;refine fG @hc ?_;have F:=ai @hc @ww;refine gL (ι:=Nat × Option Addr × Nat) [4,16] [3,1000] (fun x=>[(4,.d (.one (.lit (.int .i64 (x.1:Int)))))]) (fun x=>[(1000,.buf (some (x.2.1,x.2.2)) 53 4 (aq (args.take x.1))),(3,.var none [.lit (.int .i64 op),.lit (.string nm),.lit (.int .i64 so),.lit (.slice x.2.1 x.1 x.2.2)])]) (fun x=>x.1<=args.length) (fun x=>args.length - x.1) ((0,none,0)) (Taj _) (fun x hx=>?_)
 obtain ⟨i,p,cap⟩:=x;simp only at hx;by_cases au:i < args.length
 ·have hg:args[i]?=some args[i]:=Taa au;have bV:=h args[i] (List.getElem_mem au);generalize args[i]=a at hg bV;have q4:IntKind.i64.wrap ((i:Int)+1)=(i:Int)+1:=IntWalk.i64_in _ om;have q3:=ZDU hx;have q5:(args.take i).length=i:=by rw [Taw];omega
  refine bU (aj6 @hc @bf @sA (lT i args.length) @hg @ae) (aj3 @ae @sA @hg) (bV) ?_;have F:=aj4 @ae (by unfold ak;omega:i+1<=ak) @q3 @q5;refine gP 3 ?_;refine gS 28 fun p2 dB=>?_;refine fR (aj3 @ae @q3 @q5) ?_;refine pE [28] [1000] (ZGv _) ?_;rw [<- Zjd args hg];have F:=ai @hc @q4;refine gG ?_;exact ⟨(i+1,p2,dB),au,gw,gw,om⟩
 ·obtain rfl:i=args.length:=by omega
  rw [Tap];refine fG (aj3 @hc @bf (lF args.length args.length)) ?_;refine pD 1000 [] [2] ?_ (hs:=by exact cJ);exact fD (ai @hc @bf)
theorem ZB7 (n:Nat):(∀ t:Tm,d6 (an t) < n->ab (an t)<=1048576->az e0 40 [.agg (an t)] [.agg (an t)]):=by
 induction n with
 | zero=>exact fun _ h=>om
 | succ n ih =>
  intro t hn hb;obtain ⟨op,nm,so,args⟩:=t;simp only [an,d6,mo,ab,dN] at hn hb;refine Zrg _ (by unfold eJ;simp only [Tm.args];have:=bf args;omega) fun a ha=>?_;simp only [Tm.args] at ha;exact m122
theorem zf (t:Tm) (hb:ab (an t)<=1048576):az e0 40 [.agg (an t)] [.agg (an t)]:=ZB7 _ t (Tan _) hb
theorem Zya {ts:List Tm} {i:Nat} {t:Tm} (h:ts[i]?=some t):aq (ts.take i)++[an t]=aq (ts.take (i+1)):=(Zjd ts h).symm
theorem Zlk (ts:List Tm) (hB:eJ ts):az e0 240 [.one (.sl (aq ts))] [.one (.sl (aq ts))]:=by
 unfold eJ at hB;refine gI (ts:=[.slot 2]) 541 Tryz.func240 ?_;refine fG @ae ?_;have F:=@ww;refine gL (ι:=Nat) [3,4,9] [3] (fun i=>[(4,A.d (.one (.lit (.int .i64 i)))),(3,.buf 3)]) (fun i=>[(3,.buf none 53 4 (aq (ts.take i)))]) (fun i=>i<=ts.length) (fun i=>ts.length - i) (0) (Taj _) (fun i hi=>?_);by_cases au:i < ts.length;rotate_left
 ·obtain rfl:i=ts.length:=by omega
  rw [Tap];refine fG (ai (lF ts.length ts.length) @ae) ?_;have F:=@ae;refine gG ?_;exact uV [2]
 obtain ⟨t,ht⟩:∃ b,ts[i]?=some b:=⟨_,Taa au⟩;have q2:=lT i ts.length;have nL:=tB (by rw [sA,ht];rfl:(aq ts)[i]?=some (an t));have l1:ZaB 4 (aq (ts.take i))=true:=oP _;have l3:((ts.take i).length+1<=ak)=True:=eq_true (by rw [Taw];unfold ak;omega);have l4:min i ts.length+1<=ak:=by unfold ak;omega
 refine bp (ai @q2 @ae) (aj3 @q2 @ht @ae) ((zf t om)) (aj4 @l1 (eq_true (by rw [bf,Taw];unfold ak;omega):((aq (ts.take i)).length+1<=ak)=True) @l3 @ae) ?_;have F:=ai (bI (k:=i) om) (Zya ht);exact Cw
theorem m138 {p:Prop} (h:p:=by
 induction h with
 | nil=>rfl
 | cons x h ih=>simp only [aq,ah,ih]
 | swap x y l=>simp only [aq,ah];omega
 | trans h1 h2 a b=>rw [a,b]):p:=h
theorem yB {p:Prop} (h:p:=by
 induction ts with
 | nil=>simp [b9]
 | cons t ts ih=>simp [b9,ih]):p:=h
theorem ZDV:aq (cq [])=[]:=by simp [cq,aq]
theorem Zoz {l:List Tm} (h:b9 l):b9 (cq l):=by
 have:∀ {ts:List Tm},b9 ts ↔ ∀ t∈ts,aK t:=fun {ts}=>by
  exact yB
 exact this.2 fun a ha=>this.1 h a ((nu l).mem_iff.1 ha)
theorem ZmG {l:List Tm} (h:b9 l) (k:Nat):b9 (l.take k):=by
 have:∀ {ts:List Tm},b9 ts ↔ ∀ t∈ts,aK t:=fun {ts}=>by
  exact yB
 exact this.2 fun a ha=>this.1 h a (List.mem_of_mem_take ha)
theorem Zll (ts:List Tm) (aj:b9 ts) (hB:eJ ts):az e0 239 [.one (.sl (aq ts))] [.one (.sl (aq (cq ts)))]:=by
 have qn:=hB;unfold eJ at hB
 have yj:=Zlk (cq ts) (by
  have h1:=(nu ts).length_eq;have h2:ah (aq (cq ts))=ah (aq ts):=by
   have:∀ {l m:List Tm},l.Perm m->ah (aq l)=ah (aq m):=fun h=>by
    exact m138
   exact this (nu ts)
  unfold eJ;omega)
 refine gI (ts:=[.slot 2]) 1073743997 Tryz.func239 ?_;refine fG @ae ?_;have F:=ai @ZDV @ae;refine gL (ι:=Nat) [3,4,5,6,11,30] [3] (fun i=>[(4,A.d (.one (.lit (.int .i64 i)))),(3,.buf 3)]) (fun i=>[(3,.buf none 53 4 (aq (cq (ts.take i))))]) (fun i=>i<=ts.length) (fun i=>ts.length - i) (0) (Taj _) (fun i hi=>?_);by_cases au:i < ts.length;rotate_left
 ·obtain rfl:i=ts.length:=by omega
  rw [Tap];refine fN 10 (ai (lF ts.length ts.length) @ae) ?_;refine pS 3 fun a cap=>?_;refine pD 3 [3] [] ?_;refine nI @ae (yj) ?_;exact bK @ae @ae
 obtain ⟨x,hx⟩:∃ b,ts[i]?=some b:=⟨_,Taa au⟩;have q2:=lT i ts.length;have q4:=bI (k:=i) om;have hxo:=aj.mem (Tac hx);obtain ⟨M,hM⟩:∃ M,M=cq (ts.take i):=⟨_,rfl⟩;have Be:M.length=i:=by rw [hM,xw,Taw];omega
 have hMo:b9 M:=by rw [hM];exact Zoz (ZmG aj i)
 have hMr:ts.take (i+1)=ts.take i++[x]:=xr hx;rw [<- hM];refine nJ 5 (aj3 @q2 @Be @ae) ?_;refine fR (ai @Be @ae) ?_;refine wz ?_;refine gM (ι:=Nat) [5] [] (fun k=>[(5,A.d (.one (.lit (.int .i64 k))))]) (fun k=>[]) (fun k=>k<=i∧(∀ y∈M.drop k,aH x y<=0)∧(0 < k->∃ y,M[k - 1]?=some y∧aH y x<=0)) ?_ (fun k hk=>Exists.intro _ (ai (Wk.refl _) ?_))
 ·refine fG @ae ?_;have F:=@ae;refine gL (ι:=Nat) [5,30] [] (fun k=>[(5,A.d (.one (.lit (.int .i64 k))))]) (fun k=>[]) (fun k=>k<=i∧∀ y∈M.drop k,aH x y<=0) (fun k=>k) (i) (⟨Tai _,by rw [<- Be,List.drop_length];intro y hy;cases hy⟩) (fun k hk=>?_);obtain ⟨hk,h2⟩:=hk;by_cases jS:k=0
  ·have F:=ai (lF 0 k) @ae;refine gG ?_;exact ⟨k,⟨hk,h2,fun h=>om⟩,gw,gw⟩
  obtain ⟨j,rfl⟩:∃ j,k=j+1:=⟨k - 1,om⟩;obtain ⟨y,hy⟩:∃ y,M[j]?=some y:=⟨_,Taa om⟩;have q5:=lT 0 (j+1:Nat);have wj:IntKind.i64.wrap (((j+1:Nat):Int) - 1)=(j:Int):=dI om om om;have lj:j < i:=om;have iN:M.drop j=y::M.drop (j+1):=CZ hy;generalize fd:j+1=k1 at q5 wj h2 hk iN ⊢;refine bU @ae (aj8 @q5 @wj @hy @hx @Be @lj @bD @ae) (CY (hMo.mem (Tac hy)) hxo) ?_;by_cases hc:0 < aH y x
  ·have z:=eq_true hc;refine fR @z ?_;have js:∀ u∈M.drop j,aH x u<=0:=fun u hu=>by
    rw [iN] at hu;rcases Tbg.1 hu with rfl | hu
    ·rw [tF u x];omega
    ·exact h2 u hu
   have F:=ai @z @wj;refine gG ?_;exact ⟨j,⟨om,js⟩,gw,gw,om⟩
  have z:=eq_false hc;refine fR @z ?_;have F:=ai @z @ae;refine gG ?_;exact ⟨k1,⟨hk,h2,fun _=>⟨y,by rw [<- fd,Nat.add_sub_cancel];exact hy,om⟩⟩,gw,gw⟩
 obtain ⟨hk,h2,h1⟩:=hk;have hMs:M.take k++x::M.drop k=cq (ts.take (i+1)):=by
  rw [hMr];refine ZsY (by rw [Tbm,hM]) h2 fun y hy=>?_;have jS:0 < k:=by
   rcases Nat.eq_zero_or_pos k with h | h
   ·subst h;simp at hy
   ·exact h
  obtain ⟨z,hz,hc⟩:=h1 jS;rw [List.getLast?_eq_getElem?,Taw,Be,Nat.min_eq_left hk,List.getElem?_take,if_pos om,hz] at hy;injection hy with hy
  subst hy;exact hc
 have sO:((aq M).take (aq M).length).drop k=aq (M.drop k):=by rw [Tap,sB]
 refine fN 8 @ae ?_;refine pS 3 fun a cap=>?_;refine gB ?_;have F:=@ae;refine gP 3 ?_;have eX:k<=(aq M).length:=by rw [bf];omega
 refine (have F:=ai Be ae;yd 3 k (aq M).length ⟨eX,Tai _⟩ ?_);refine gO 33 53 4 ?_;refine (have F:=ae;gAps (rows:=[]) (rj:=aq M) 33 3 ⟨eX,Tai _⟩ (by rw [bf];simp only [Tak,ak];omega) ?_);rw [sO,Tah];refine fR @ae ?_;refine fN 9 @ae ?_;have ip:(aq M).take k=aq (M.take k):=rH _ _;have htl:(M.take k).length=k:=by rw [Taw];omega
 refine A3 ?_;refine e8 0 ?_;refine e8 1 ?_;refine (have F:=ai Be ae;gFs 2 3 0 k ⟨Taj _,eX⟩ ?_);rw [ZmF];refine e8 3 ?_;refine e8 4 ?_;refine e8 9 ?_;refine zB ?_;have e1:aq (M.take k)++[an x]=aq (M.take k++[x]):=by rw [pf];rfl
 have e2:aq (M.take k++[x])++aq (M.drop k)=aq (cq (ts.take (i+1))):=by rw [<- pf,<- hMs];simp
 refine dW 5 ?_;refine (have F:=aj4 q2 hx bD ae;bT ?_);refine dW 6 ?_;refine (have F:=ai hx ae;bT ?_);refine dW 7 ?_;refine (have F:=ae;bT ?_);refine dW 8 ?_;refine gE [3] [3] (ZB4 k eX) ?_;rw [ip];refine (have F:=aj4 htl (eq_true (by unfold ak;omega):(k+1<=ak)=True) e1 ae;bT ?_);refine dW 10 ?_;refine (have F:=aj3 (eq_true (by rw [htl,Tax];unfold ak;omega):((M.take k).length+1+(M.drop k).length<=ak)=True) e2 ae;bT ?_);refine dW 11 ?_;refine (have F:=ae;bT ?_);refine (have F:=ae;qm ?_);refine Exists.intro _ (ai (Wk.refl _) ?_)
 have F:=@q4;exact Cw
theorem Zlm {ts:List Tm}:b9 ts ↔ ∀ t∈ts,aK t:=by
 exact yB
theorem ZGw (op so:Int) (nm:ByteArray) (args:List Tm):ab (an (.mk op nm so args))=nm.size+(args.length+ah (aq args)):=by
 simp only [an,ab,dN,bf];omega
section
variable {g:Sgn}
mutual
theorem ZiQ:∀ {t:Tm},dt g t->ab (an t)+1<=13 * am t
 | .mk op nm so args,h=>by
  have h1:=Zj7 (Zi7.2 (nv.1 h).2.1);simp only [Tm.args] at h1;rw [ZGw];simp only [am];rcases h.node with hv | ⟨o,d,hA⟩
  ·have h2:iS nm=true:=hv.2.1;have h3:args=[]:=hv.2.2.2.2;subst h3;have h4:¬ 12 < nm.size:=fun h=>by rw [wt (.inr (.inl h))] at h2;cases h2
   simp only [aq,ah,av,Tak];omega
  ·have h2:nm=ByteArray.empty:=hA.nm;subst h2;have:ByteArray.empty.size=0:=rfl;omega
theorem Zj7:∀ {ts:List Tm},rL g ts->ah (aq ts)+ts.length<=13 * av ts
 | [],_=>by simp [aq,ah]
 | t::ts,h=>by
  simp only [rL] at h;have h1:=ZiQ h.1;have h2:=Zj7 h.2;simp only [aq,ah,av,Tag];omega
end
end
end Go.Proofs.YtbecmfjokofihaaGreatDoor
