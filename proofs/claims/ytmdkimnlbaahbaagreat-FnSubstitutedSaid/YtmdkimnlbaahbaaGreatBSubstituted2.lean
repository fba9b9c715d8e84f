/-
  Part of a proof.
-/
import Derived.Test.YtmdkimnlbaahbaaGreatBSubstituted0
import Derived.Test.YtmdkimnlbaahbaaGreatBSubstituted1
set_option linter.unusedSimpArgs false
set_option linter.unusedVariables false
set_option maxHeartbeats 400000000
set_option maxRecDepth 100000
namespace Go.Proofs.YtmdkimnlbaahbaaGreat
open Go.RowKit
theorem Zc7 {o:Opr} {d:Dcl} (hd:o.decls[0]?=some d):Con e0 44 [.agg (ZaU o)] [.one (.lit (.int .i64 d.args.length))]:=by
 refine gI 7 Tryz.func44 ?_;exact fT (aj3 @Zae @hd @ZaG)
section
variable {g:Sgn} {o:Opr}
theorem Zi3 {d:Dcl} (hd:o.decls[0]?=some d) (h1:0<=o.unit) (h2:o.unit<=g.ops.length) (h3:d.args.length=2) {a b:Int} (ha:d.args[0]?=some a) (hb:d.args[1]?=some b) (hk:kd g.sorts a=kd g.sorts b) (hr:¬ ((o.assoc=true∨o.unit≠0)∧kd g.sorts a≠kd g.sorts d.res))
  (hu:o.unit≠0->∀ (p:Opr) (u:Dcl),g.ops[o.unit.toNat - 1]?=some p->p.decls[0]?=some u->u.args.length=0∧kd g.sorts u.res=kd g.sorts d.res):AxOk g o :=
 ⟨h1,h2,fun _ d' hd'=>by
  rw [hd] at hd';injection hd' with hd';subst hd'
  refine ⟨h3,fun a' b' ha' hb'=>?_⟩;rw [ha] at ha';injection ha' with ha';subst ha'
  rw [hb] at hb';injection hb' with hb';subst hb'
  exact ⟨hk,fun h=>Classical.byContradiction fun hn=>hr ⟨h,hn⟩,hu⟩⟩
theorem Zn8 (h:o.assoc=false∧o.comm=false∧o.unit=0):AxOk g o:=⟨by rw [h.2.2];exact Int.le_refl _,by rw [h.2.2];omega,fun h2=>by
 rcases h2 with h2 | h2 | h2
 ·rw [h.1] at h2;cases h2
 ·rw [h.2.1] at h2;cases h2
 ·exact absurd h.2.2 h2⟩
theorem Zrg (h:¬ (o.assoc=false∧o.comm=false∧o.unit=0)):o.assoc=true∨o.comm=true∨o.unit≠0:=by
 by_cases h1:o.assoc=true
 ·exact .inl h1
 by_cases h2:o.comm=true
 ·exact .inr (.inl h2)
 exact .inr (.inr fun h3=>h ⟨by simpa using h1,by simpa using h2,h3⟩)
theorem ZlI (hs:SortsOk g.sorts) (hall:∀ p∈g.ops,DeclsOk g.sorts p) (ho:o∈g.ops) (hol:g.ops.length<=14):Con e0 109 [.agg (ZdK g.sorts),.agg (Zag g),.agg (ZaU o)] [.one (.lit (.bool (axOk g o)))]:=by
 have hno:¬ AxOk g o->axOk g o=false:=ZkG;have rK:=Za0 (l:=Zb0 g.sorts);obtain ⟨d,hd,hdd⟩:=(hall o ho).first;have gr:=kdg hs hdd.res;have ir:=hdd.res.1;rw [ZdK,Zag,ZaU];refine gI 87042659588714057177760255 Tryz.func109 ?_;by_cases h1:0<=o.unit;rotate_left
 ·have hf:=hno fun h=>h1 h.lo;have z1:(o.unit < 0)=True:=eq_true om;exact fT (ai @z1 @hf)
 have z1:(o.unit < 0)=False:=eq_false om;by_cases h2:o.unit<=g.ops.length;rotate_left
 ·have hf:=hno fun h=>h2 h.hi;have z2:=lT g.ops.length o.unit;exact fT (aj3 @z1 @z2 @hf)
 have z2:=lF g.ops.length o.unit;by_cases hp:o.assoc=false∧o.comm=false∧o.unit=0
 ·have ht:=Zdl (Zn8 (g:=g) hp);obtain ⟨p1,p2,p3⟩:=hp;have p3:(o.unit=0)=True:=eq_true p3;exact fT (aj6 @z1 @z2 @p1 @p2 @p3 @ht)
 have hnd:=Zrg hp;refine fN 3 (ai @z1 @z2) ?_;refine gM (ι:=Unit) [32] [] (fun v=>[(32,A.d (.one (.lit (.bool false))))]) (fun v=>[]) (fun v=>True) ?_ (fun v hv=>Exists.intro _ (ai (Wk.refl _) ?_))
 ·cases q1:o.assoc with
  | true=>(have F:=@q1;refine gG ?_;exact ⟨(),trivial,gw,gw⟩)
  | false =>
  cases q2:o.comm with
  | true=>(have F:=ai @q1 @q2;refine gG ?_;exact ⟨(),trivial,gw,gw⟩)
  | false =>
   have q3:(o.unit=0)=False:=eq_false fun h=>hp ⟨q1,q2,h⟩;have F:=aj3 @q1 @q2 @q3;refine gG ?_;exact ⟨(),trivial,gw,gw⟩
 clear hv;by_cases h3:d.args.length=2;rotate_left
 ·have hf:=hno fun h=>h3 (h.two hnd d hd).1;have z3:((d.args.length:Int)=2)=False:=eq_false om;exact fT (aj4 @hd @ZaG @z3 @hf)
 have z3:((d.args.length:Int)=2)=True:=eq_true om;obtain ⟨a,ha⟩:∃ k,d.args[0]?=some k:=⟨_,Taa om⟩;obtain ⟨b,hb⟩:∃ k,d.args[1]?=some k:=⟨_,Taa om⟩;have har:=hdd.args a (Tac ha);have hbr:=hdd.args b (Tac hb);have ga:=kdg hs har;have gb:=kdg hs hbr;have ia:=har.1;have ib:=hbr.1;by_cases hk:kd g.sorts a=kd g.sorts b;rotate_left
 ·have hf:=hno fun h=>hk ((h.two hnd d hd).2 a b ha hb).1;have z4:((kd g.sorts a:Int)=(kd g.sorts b:Int))=False:=eq_false om;exact fT (aj13 @hd @ZaG @z3 @ha @hb @Zao @ga @gb @ia @ib @rK @z4 @hf)
 have z4:((kd g.sorts a:Int)=(kd g.sorts b:Int))=True:=eq_true om;refine fN 8 (aj12 @hd @ZaG @z3 @ha @hb @Zao @ga @gb @ia @ib @rK @z4) ?_;refine gM (ι:=Bool) [83] [] (fun v=>[(83,A.d (.one (.lit (.bool v))))]) (fun v=>[]) (fun v=>(v=true->((o.assoc=true∨o.unit≠0)∧kd g.sorts a≠kd g.sorts d.res))∧(v=false->¬ ((o.assoc=true∨o.unit≠0)∧kd g.sorts a≠kd g.sorts d.res))) ?_ (fun v hv=>Exists.intro _ (ai (Wk.refl _) ?_))
 ·cases q1:o.assoc with
  | true =>
   by_cases hr:kd g.sorts a=kd g.sorts d.res
   ·have z5:((kd g.sorts a:Int)=(kd g.sorts d.res:Int))=True:=eq_true om;have F:=aj9 @q1 @ha @Zao @ga @gr @ia @ir @rK @z5;refine gG ?_;exact ⟨false,⟨fun h=>(by cases h),fun _ h=>h.2 hr⟩,gw,gw⟩
   ·have z5:((kd g.sorts a:Int)=(kd g.sorts d.res:Int))=False:=eq_false om;have F:=aj9 @q1 @ha @Zao @ga @gr @ia @ir @rK @z5;refine gG ?_;exact ⟨true,⟨fun _=>⟨.inl rfl,hr⟩,fun h=>(by cases h)⟩,gw,gw⟩
  | false =>
  by_cases q3:o.unit=0
  ·have z6:(o.unit=0)=True:=eq_true q3;have F:=ai @q1 @z6;refine gG ?_;exact ⟨false,⟨fun h=>(by cases h),fun _ h=>h.1.elim (fun h=>(by cases h)) fun h=>h q3⟩,gw,gw⟩
  ·have z6:(o.unit=0)=False:=eq_false q3;by_cases hr:kd g.sorts a=kd g.sorts d.res
   ·have z5:((kd g.sorts a:Int)=(kd g.sorts d.res:Int))=True:=eq_true om;have F:=aj10 @q1 @z6 @ha @Zao @ga @gr @ia @ir @rK @z5;refine gG ?_;exact ⟨false,⟨fun h=>(by cases h),fun _ h=>h.2 hr⟩,gw,gw⟩
   ·have z5:((kd g.sorts a:Int)=(kd g.sorts d.res:Int))=False:=eq_false om;have F:=aj10 @q1 @z6 @ha @Zao @ga @gr @ia @ir @rK @z5;refine gG ?_;exact ⟨true,⟨fun _=>⟨.inr q3,hr⟩,fun h=>(by cases h)⟩,gw,gw⟩
 obtain ⟨hv1,hv2⟩:=hv
 cases v with
 | true =>
  have hf:=hno fun h=>(hv1 rfl).2 (((h.two hnd d hd).2 a b ha hb).2.1 (hv1 rfl).1);exact fT @hf
 | false =>
 have hr:=hv2 rfl;by_cases q3:o.unit=0
 ·have z6:(o.unit=0)=True:=eq_true q3;have ht:=Zdl (Zi3 hd h1 h2 h3 ha hb hk hr fun h=>absurd q3 h);exact fT (ai @z6 @ht)
 have z6:(o.unit=0)=False:=eq_false q3;have hsub:IntKind.i64.wrap (o.unit - 1)=((o.unit.toNat - 1:Nat):Int):=Za2 om om om;obtain ⟨p,hp⟩:∃ p,g.ops[o.unit.toNat - 1]?=some p:=⟨_,Taa om⟩;obtain ⟨u,hu,huu⟩:=(hall p (Tac hp)).first;have gu':=kdg hs huu.res;have iu:=huu.res.1;have key:(u.args.length=0∧kd g.sorts u.res=kd g.sorts d.res)->axOk g o=true:=fun h=>Zdl (Zi3 hd h1 h2 h3 ha hb hk hr fun _ p' u' hp' hu'=>by
  rw [hp] at hp';injection hp' with hp';subst hp'
  rw [hu] at hu';injection hu' with hu';subst hu'
  exact h)
 have keyn:¬ (u.args.length=0∧kd g.sorts u.res=kd g.sorts d.res)->axOk g o=false:=fun h=>hno fun hA=>h (((hA.two hnd d hd).2 a b ha hb).2.2 q3 p u hp hu);by_cases hl0:u.args.length=0;rotate_left
 ·have hf:=keyn fun h=>hl0 h.1;have z7:((u.args.length:Int)=0)=False:=eq_false om;exact fT (aj9 @z6 @hsub @hp @Zae @hu @ZaG @ZaS @z7 @hf)
 have z7:((u.args.length:Int)=0)=True:=eq_true om;by_cases hku:kd g.sorts u.res=kd g.sorts d.res
 ·have ht:=key ⟨hl0,hku⟩;have z8:((kd g.sorts u.res:Int)=(kd g.sorts d.res:Int))=True:=eq_true om;exact fT (aj15 @z6 @hsub @hp @Zae @hu @ZaG @ZaS @z7 @gu' @gr @iu @ir @rK @z8 @ht)
 ·have hf:=keyn fun h=>hku h.2;have z8:((kd g.sorts u.res:Int)=(kd g.sorts d.res:Int))=False:=eq_false om;exact fT (aj15 @z6 @hsub @hp @Zae @hu @ZaG @ZaS @z7 @gu' @gr @iu @ir @rK @z8 @hf)
theorem Zn9 (hs:SortsOk g.sorts) (hall:∀ p∈g.ops,DeclsOk g.sorts p) {k:Nat} (hk0:g.ops[k]?=some o) (hol:g.ops.length<=14):Con e0 83 [.agg (Zag g),.one (.lit (.int .i64 k))] [.one (.lit (.bool (axOk g o)))]:=by
 have hno:¬ AxOk g o->axOk g o=false:=ZkG;have ho:=Tac hk0;have hkl:=(Tad.1 hk0).1;have cK:=Zdx hs;rw [show (ZbW (Zb0 g.sorts)).map Zat=nR (Zb0 g.sorts) from rfl] at cK;have rK:=Za0 (l:=Zb0 g.sorts);obtain ⟨d,hd,hdd⟩:=(hall o ho).first;have cA:=Zc7 hd;have gr:=kdg hs hdd.res;have ir:=hdd.res.1;rw [Za3] at cK;rw [ZaU] at cA;rw [Zag];refine gI 174085318024508800717819895 Tryz.func83 ?_;by_cases hp:o.assoc=false∧o.comm=false∧o.unit=0
 ·have ht:=Zdl (Zn8 (g:=g) hp);obtain ⟨p1,p2,p3⟩:=hp;have p3:(o.unit=0)=True:=eq_true p3;exact fT (aj6 @hk0 @Zae @p1 @p2 @p3 @ht)
 have hnd:=Zrg hp;refine fN 2 (ai @hk0 @Zae) ?_;refine gM (ι:=Unit) [29] [] (fun v=>[(29,A.d (.one (.lit (.bool false))))]) (fun v=>[]) (fun v=>True) ?_ (fun v hv=>Exists.intro _ (ai (Wk.refl _) ?_))
 ·cases q1:o.assoc with
  | true=>(have F:=@q1;refine gG ?_;exact ⟨(),trivial,gw,gw⟩)
  | false =>
  cases q2:o.comm with
  | true=>(have F:=ai @q1 @q2;refine gG ?_;exact ⟨(),trivial,gw,gw⟩)
  | false =>
   have q3:(o.unit=0)=False:=eq_false fun h=>hp ⟨q1,q2,h⟩;have F:=aj3 @q1 @q2 @q3;refine gG ?_;exact ⟨(),trivial,gw,gw⟩
 clear hv;refine fB @e0P ?_;refine fC @e0P (cA) ?_;by_cases h3:d.args.length=2;rotate_left
 ·have hf:=hno fun h=>h3 (h.two hnd d hd).1;have z3:((d.args.length:Int)=2)=False:=eq_false om;refine fR @z3 ?_;exact fT @hf
 have z3:((d.args.length:Int)=2)=True:=eq_true om;refine fC @z3 (Zcw o.unit 0 (g.ops.length:Int)) ?_;by_cases h12:0<=o.unit∧o.unit<=(g.ops.length:Int);rotate_left
 ·have hf:=hno fun h=>h12 ⟨h.lo,h.hi⟩;have z1:decide (0<=o.unit∧o.unit<=(g.ops.length:Int))=false:=decide_eq_false h12;refine fR (ai @z3 @z1) ?_;exact fT @hf
 have z1:decide (0<=o.unit∧o.unit<=(g.ops.length:Int))=true:=decide_eq_true h12;obtain ⟨h1,h2⟩:=h12;obtain ⟨a,ha⟩:∃ k,d.args[0]?=some k:=⟨_,Taa om⟩;obtain ⟨b,hb⟩:∃ k,d.args[1]?=some k:=⟨_,Taa om⟩;have har:=hdd.args a (Tac ha);have hbr:=hdd.args b (Tac hb);have ga:=kdg hs har;have gb:=kdg hs hbr;have ia:=har.1;have ib:=hbr.1;refine fR (ai @z3 @z1) ?_;refine fB @e0P ?_;refine fC @e0P (cK) ?_;refine fR @e0P ?_
 refine fN 8 (ai @hd @ZaG) ?_;refine Zak 22 (by decide +kernel) ?_;intro ds hds;simp only [List.map] at hds;subst hds;refine (have F:=aj10 ha hb Zao ga gb gr ia ib ir rK;gP 19 ?_);refine (have F:=ia;gAq ?_);refine (have F:=ia;gAq ?_);refine (have F:=ia;gAq ?_);refine fR @e0P ?_;refine fN 9 @e0P ?_;refine gM (ι:=Bool) [84] [] (fun v=>[(84,A.d (.one (.lit (.bool v))))]) (fun v=>[]) (fun v=>(v=true->kd g.sorts a≠kd g.sorts b∨((o.assoc=true∨o.unit≠0)∧kd g.sorts a≠kd g.sorts d.res))∧(v=false->kd g.sorts a=kd g.sorts b∧¬ ((o.assoc=true∨o.unit≠0)∧kd g.sorts a≠kd g.sorts d.res))) ?_ (fun v hv=>Exists.intro _ (ai (Wk.refl _) ?_))
 ·by_cases hk:kd g.sorts a=kd g.sorts b;rotate_left
  ·have z4:((kd g.sorts a:Int)=(kd g.sorts b:Int))=False:=eq_false om;have F:=@z4;refine gG ?_;exact ⟨true,⟨fun _=>.inl hk,fun h=>(by cases h)⟩,gw,gw⟩
  have z4:((kd g.sorts a:Int)=(kd g.sorts b:Int))=True:=eq_true om
  cases q1:o.assoc with
  | true =>
   by_cases hr:kd g.sorts a=kd g.sorts d.res
   ·have z5:((kd g.sorts a:Int)=(kd g.sorts d.res:Int))=True:=eq_true om;have F:=aj4 @q1 @Zae @z4 @z5;refine gG ?_;exact ⟨false,⟨fun h=>(by cases h),fun _=>⟨hk,fun h=>h.2 hr⟩⟩,gw,gw⟩
   ·have z5:((kd g.sorts a:Int)=(kd g.sorts d.res:Int))=False:=eq_false om;have F:=aj4 @q1 @Zae @z4 @z5;refine gG ?_;exact ⟨true,⟨fun _=>.inr ⟨.inl rfl,hr⟩,fun h=>(by cases h)⟩,gw,gw⟩
  | false =>
  by_cases q3:o.unit=0
  ·have z6:=lF 0 o.unit;have F:=aj4 @q1 @Zae @z4 @z6;refine gG ?_;exact ⟨false,⟨fun h=>(by cases h),fun _=>⟨hk,fun h=>h.1.elim (fun h=>(by cases h)) fun h=>h q3⟩⟩,gw,gw⟩
  ·have z6:=lT 0 o.unit;by_cases hr:kd g.sorts a=kd g.sorts d.res
   ·have z5:((kd g.sorts a:Int)=(kd g.sorts d.res:Int))=True:=eq_true om;have F:=aj5 @q1 @Zae @z4 @z6 @z5;refine gG ?_;exact ⟨false,⟨fun h=>(by cases h),fun _=>⟨hk,fun h=>h.2 hr⟩⟩,gw,gw⟩
   ·have z5:((kd g.sorts a:Int)=(kd g.sorts d.res:Int))=False:=eq_false om;have F:=aj5 @q1 @Zae @z4 @z6 @z5;refine gG ?_;exact ⟨true,⟨fun _=>.inr ⟨.inr q3,hr⟩,fun h=>(by cases h)⟩,gw,gw⟩
 obtain ⟨hv1,hv2⟩:=hv
 cases v with
 | true =>
  have hf:=hno fun h=>(hv1 rfl).elim (fun h'=>h' ((h.two hnd d hd).2 a b ha hb).1) fun h'=>h'.2 (((h.two hnd d hd).2 a b ha hb).2.1 h'.1);exact fT @hf
 | false =>
 obtain ⟨hk,hr⟩:=hv2 rfl;by_cases q3:o.unit=0
 ·have z6:(o.unit=0)=True:=eq_true q3;have ht:=Zdl (Zi3 hd h1 h2 h3 ha hb hk hr fun h=>absurd q3 h);exact fT (aj3 @Zae @z6 @ht)
 have z6:(o.unit=0)=False:=eq_false q3;have hsub:IntKind.i64.wrap (o.unit - 1)=((o.unit.toNat - 1:Nat):Int):=Za2 om om om;obtain ⟨p,hp⟩:∃ p,g.ops[o.unit.toNat - 1]?=some p:=⟨_,Taa om⟩;obtain ⟨u,hu,huu⟩:=(hall p (Tac hp)).first;have cP:=Zc7 hu;rw [ZaU] at cP;have gu':=kdg hs huu.res;have iu:=huu.res.1;have key:(u.args.length=0∧kd g.sorts u.res=kd g.sorts d.res)->axOk g o=true:=fun h=>Zdl (Zi3 hd h1 h2 h3 ha hb hk hr fun _ p' u' hp' hu'=>by
  rw [hp] at hp';injection hp' with hp';subst hp'
  rw [hu] at hu';injection hu' with hu';subst hu'
  exact h)
 have keyn:¬ (u.args.length=0∧kd g.sorts u.res=kd g.sorts d.res)->axOk g o=false:=fun h=>hno fun hA=>h (((hA.two hnd d hd).2 a b ha hb).2.2 q3 p u hp hu);refine fB (aj5 @z6 @hsub @hp @Zae @ZaS) ?_;refine fC @e0P (cP) ?_;by_cases hl0:u.args.length=0;rotate_left
 ·have hf:=keyn fun h=>hl0 h.1;have z7:((u.args.length:Int)=0)=False:=eq_false om;refine fR @z7 ?_;exact fT @hf
 have z7:((u.args.length:Int)=0)=True:=eq_true om;by_cases hku:kd g.sorts u.res=kd g.sorts d.res
 ·have ht:=key ⟨hl0,hku⟩;have z8:((kd g.sorts u.res:Int)=(kd g.sorts d.res:Int))=True:=eq_true om;refine fR (aj7 @z7 @hu @ZaG @gu' @iu @rK @z8) ?_;exact fT @ht
 ·have hf:=keyn fun h=>hku h.2;have z8:((kd g.sorts u.res:Int)=(kd g.sorts d.res:Int))=False:=eq_false om;refine fR (aj7 @z7 @hu @ZaG @gu' @iu @rK @z8) ?_;exact fT @hf
end
theorem Zju (a b:List Tm):sizeTms (a++b)=sizeTms a+sizeTms b:=by
 induction a with
 | nil=>simp [sizeTms]
 | cons x xs ih=>simp only [Taf,sizeTms,ih];omega
theorem ZaX {ts:List Tm} {t:Tm} (h:t∈ts):sizeTm t<=sizeTms ts:=by
 induction ts with
 | nil=>cases h
 | cons x xs ih =>
  simp only [sizeTms];rcases Tbf.1 h with rfl | h
  ·omega
  ·have:=ih h;omega
theorem Zoa {ts:List Tm} {i:Nat} {t:Tm} (h:ts[i]?=some t):sizeTms (ts.take (i+1))=sizeTms (ts.take i)+sizeTm t:=by
 rw [Zcm h,Zju];simp [sizeTms]
theorem Zob (ts:List Tm) (i:Nat):sizeTms (ts.take i)<=sizeTms ts:=by
 have:=Zju (ts.take i) (ts.drop i);rw [Tbl] at this;omega
theorem Zbv (ts:List Tm):ts.length<=sizeTms ts:=by
 induction ts with
 | nil=>simp [sizeTms]
 | cons x xs ih=>cases x;simp only [Tag,sizeTms,sizeTm];omega
mutual
def depthTm:Tm->Nat
 | .mk _ _ _ a=>1+depthTms a
def depthTms:List Tm->Nat
 | []=>0
 | t::ts=>max (depthTm t) (depthTms ts)
end
mutual
theorem ZkL:∀ t:Tm,depthTm t<=sizeTm t
 | .mk _ _ _ a=>by
  have:=Ze3 a;simp only [depthTm,sizeTm];omega
theorem Ze3:∀ ts:List Tm,depthTms ts<=sizeTms ts
 | []=>by simp [depthTms]
 | t::ts=>by
  have:=ZkL t;have:=Ze3 ts;simp only [depthTms,sizeTms];omega
end
theorem Zig (a b:List Tm):depthTms (a++b)=max (depthTms a) (depthTms b):=by
 induction a with
 | nil=>simp [depthTms]
 | cons x xs ih=>simp only [Taf,depthTms,ih];omega
theorem ZhW {ts:List Tm} {i:Nat} {t:Tm} (h:ts[i]?=some t):depthTms (ts.take (i+1))=max (depthTms (ts.take i)) (depthTm t):=by
 rw [Zcm h,Zig];simp [depthTms]
theorem ZeD {ts:List Tm} {t:Tm} (h:t∈ts):depthTm t<=depthTms ts:=by
 induction ts with
 | nil=>cases h
 | cons x xs ih =>
  simp only [depthTms];rcases Tbf.1 h with rfl | h
  ·omega
  ·have:=ih h;omega
theorem ZlJ:∀ op nm so args,Zab (.mk op nm so args)=[.lit (.int .i64 op),.lit (.string nm),.lit (.int .i64 so),.sl (Zaa args)]:=fun _ _ _ _=>by rw [Zab]
theorem Zxe:∀ op nm so args,sizeTm (.mk op nm so args)=1+sizeTms args:=fun _ _ _ _=>by rw [sizeTm]
theorem Zmj:∀ op nm so args,depthTm (.mk op nm so args)=1+depthTms args:=fun _ _ _ _=>by rw [depthTm]
theorem Zmk:sizeTms []=0:=by rw [sizeTms]
theorem ZkM:depthTms []=0:=by rw [depthTms]
def big:Nat:=4611686018427387904
theorem ZjZ:∀ (n:Nat) (t:Tm),sizeTm t < n->sizeTm t<=big->Con e0 101 [.agg (Zab t)] [.one (.lit (.int .i64 (sizeTm t)))]:=by
 intro n
 induction n with
 | zero=>intro t h;omega
 | succ n ih =>
  intro t hn hb;obtain ⟨op,nm,so,args⟩:=t;simp only [sizeTm,big] at hn hb;have hal:=Zbv args;refine gI 1967 Tryz.func101 ?_;refine fG (ai @ZlJ @tmz) ?_;have F:=@Zmk;refine gL (ι:=Nat) [3,5,9,10] [] (fun i=>[(9,A.d (.one (.lit (.int .i64 i)))),(3,A.d (.one (.lit (.int .i64 ((1+sizeTms (args.take i):Nat):Int)))))]) (fun i=>[]) (fun i=>i<=args.length) (fun i=>args.length - i) (0) om (fun i hi=>?_);clear F
  by_cases hl:i < args.length;rotate_left
  ·have hl':¬ ((i:Int) < (args.length:Int)):=om;have e:args.take i=args:=List.take_of_length_le om;exact fT (aj3 @hl' @e @Zxe)
  have hl':(i:Int) < (args.length:Int):=om;obtain ⟨a,ha⟩:∃ a,args[i]?=some a:=⟨_,Taa hl⟩;have hs:=Zoa ha;have ht:=Zob args (i+1);have hm:=ZaX (Tac ha);have hw:IntKind.i64.wrap (((1+sizeTms (args.take i):Nat):Int)+(sizeTm a:Int))=((1+sizeTms (args.take (i+1)):Nat):Int):=Za2 om om om;have hw1:=Zap (k:=i) om;refine fB (aj3 @hl' @tmz @ha) ?_;refine fC @tmz (ih a om (by unfold big;omega)) ?_;refine fR @hw ?_
  have F:=aj3 @hw1 @hw @tmz;refine gG ?_;exact ⟨i+1,om,gw,gw,om⟩
theorem Zoc {t:Tm} (h:sizeTm t<=big):Con e0 101 [.agg (Zab t)] [.one (.lit (.int .i64 (sizeTm t)))]:=ZjZ _ t (Tan _) h
theorem Zjh:∀ (n:Nat) (t:Tm),sizeTm t < n->sizeTm t<=big->Con e0 102 [.agg (Zab t)] [.one (.lit (.int .i64 (depthTm t)))]:=by
 intro n
 induction n with
 | zero=>intro t h;omega
 | succ n ih =>
  intro t hn hb;obtain ⟨op,nm,so,args⟩:=t;simp only [sizeTm,big] at hn hb;have hal:=Zbv args;have hds:=Ze3 args;refine gI 1967 Tryz.func102 ?_;refine fG (ai @ZlJ @tmz) ?_;have F:=@ZkM;refine gL (ι:=Nat) [3,5,9,10] [] (fun i=>[(9,A.d (.one (.lit (.int .i64 i)))),(3,A.d (.one (.lit (.int .i64 ((depthTms (args.take i):Nat):Int)))))]) (fun i=>[]) (fun i=>i<=args.length) (fun i=>args.length - i) (0) om (fun i hi=>?_);clear F
  by_cases hl:i < args.length;rotate_left
  ·have hl':¬ ((i:Int) < (args.length:Int)):=om;have e:args.take i=args:=List.take_of_length_le om;have hw:IntKind.i64.wrap ((depthTms args:Int)+1)=((1+depthTms args:Nat):Int):=Za2 om om om;exact fT (aj4 @hl' @e @hw @Zmj)
  have hl':(i:Int) < (args.length:Int):=om;obtain ⟨a,ha⟩:∃ a,args[i]?=some a:=⟨_,Taa hl⟩;have hs:=ZhW ha;have hm:=ZaX (Tac ha);have hw:(if (depthTm a:Int) > (depthTms (args.take i):Int) then (depthTm a:Int) else (depthTms (args.take i):Int))=((depthTms (args.take (i+1)):Nat):Int):=by
   split <;> omega
  have hw1:=Zap (k:=i) om;refine fB (aj3 @hl' @tmz @ha) ?_;refine fC @tmz (ih a om (by unfold big;omega)) ?_;refine fR @hw ?_;have F:=aj3 @hw1 @hw @tmz;refine gG ?_;exact ⟨i+1,om,gw,gw,om⟩
theorem Zm1 {t:Tm} (h:sizeTm t<=big):Con e0 102 [.agg (Zab t)] [.one (.lit (.int .i64 (depthTm t)))]:=Zjh _ t (Tan _) h
theorem Zml (a b:Int):Con e0 93 [.one (.lit (.int .i64 a)),.one (.lit (.int .i64 b))] [.one (.lit (.int .i64 (max a b)))]:=by
 refine gI 147 Tryz.func93 ?_;by_cases h:b < a
 ·have e:max a b=a:=om;exact fT (ai @h @e)
 ·have e:max a b=b:=om;exact fT (ai @h @e)
theorem Zji:∀ (n:Nat) (t:Tm),sizeTm t < n->sizeTm t<=big->Con e0 85 [.agg (Zab t)] [.one (.lit (.int .i64 (depthTm t)))]:=by
 intro n
 induction n with
 | zero=>intro t h;omega
 | succ n ih =>
  intro t hn hb;obtain ⟨op,nm,so,args⟩:=t;simp only [sizeTm,big] at hn hb;have hal:=Zbv args;have hds:=Ze3 args;refine gI 543 Tryz.func85 ?_;refine fG (ai @ZlJ @tmz) ?_;have F:=@ZkM;refine gL (ι:=Nat) [3,4,9] [] (fun i=>[(4,A.d (.one (.lit (.int .i64 i)))),(3,A.d (.one (.lit (.int .i64 ((depthTms (args.take i):Nat):Int)))))]) (fun i=>[]) (fun i=>i<=args.length) (fun i=>args.length - i) (0) om (fun i hi=>?_);clear F
  by_cases hl:i < args.length;rotate_left
  ·have hl':¬ ((i:Int) < (args.length:Int)):=om;have e:args.take i=args:=List.take_of_length_le om;have hw:IntKind.i64.wrap ((depthTms args:Int)+1)=((1+depthTms args:Nat):Int):=Za2 om om om;exact fT (aj5 @hl' @e @hw @Zmj @tmz)
  have hl':(i:Int) < (args.length:Int):=om;obtain ⟨a,ha⟩:∃ a,args[i]?=some a:=⟨_,Taa hl⟩;have hs:=ZhW ha;have hm:=ZaX (Tac ha);have hw:max (depthTms (args.take i):Int) (depthTm a:Int)=((depthTms (args.take (i+1)):Nat):Int):=om;have hw1:=Zap (k:=i) om;refine fB (aj3 @hl' @tmz @ha) ?_;refine fC (ai @tmz @ha) (ih a om (by unfold big;omega)) ?_;refine fC @tmz (Zml _ _) ?_;refine fR @hw ?_;have F:=aj3 @hw1 @hw @tmz;refine gG ?_;exact ⟨i+1,om,gw,gw,om⟩
theorem Zm2 {t:Tm} (h:sizeTm t<=big):Con e0 85 [.agg (Zab t)] [.one (.lit (.int .i64 (depthTm t)))]:=Zji _ t (Tan _) h
def Lks (sb:List (Nat × A)) (mb:List (Nat × Bk)) (σ:St):Prop:=(∀ p∈sb,gs σ.s p.1=p.2)∧∀ p∈mb,gm σ.m p.1=some p.2
def keyB (k:Nat):A->Bool
 | .ref k' _=>k'==k
 | .buf k'=>k'==k
 | .row k' _ _ _=>k'==k
 | _=>false
def Ze4 (d:Nat) (sb:List (Nat × A)) (mb:List (Nat × Bk)):Bool:=sb.all (fun p=>p.1 != d && !keyB d p.2) && mb.all (fun p=>p.1 != d)
theorem Zdt (k t:Nat):∀ (s:List (Nat × A)),keyB k (gs s t)=false->gs (Zan k s) t=gs s t
 | [],_=>rfl
 | (t',x)::r,h=>by
  have ih:=Zdt k t r;by_cases ht:t=t'
  ·cases x <;> simp_all [Zan,gs,keyB]
  ·have h2:keyB k (gs r t)=false:=by simpa [gs,ht] using h
   have h3:=ih h2;clear h ih
   cases x <;> simp [Zan,gs,ht,h3]
theorem Zvn {d:Nat} {a:Option Addr} {n cap:Nat} {x:A} (h:keyB d x=false):litB d a n cap x=x:=by
 cases x <;> simp_all [litB,keyB]
section
variable {sb sb':List (Nat × A)} {mb mb':List (Nat × Bk)} {s:List (Nat × A)} {m:List (Nat × Bk)} {d:Nat} {α:A} {bk:Bk} {σ:St}
theorem Lks.app (h:Lks sb mb σ) (h':Lks sb' mb' σ):Lks (sb++sb') (mb++mb') σ :=
 ⟨fun p hp=>(Tbg.1 hp).elim (h.1 p) (h'.1 p),fun p hp=>(Tbg.1 hp).elim (h.2 p) (h'.2 p)⟩
theorem Lks.born (h:Lks sb mb ⟨s,m⟩) (hf:Ze4 d sb mb=true):Lks sb mb ⟨(d,α)::Zan d s,(d,bk)::remM d m⟩:=by
 simp only [Ze4,Tar,List.all_eq_true,bne_iff_ne,ne_eq,Bool.not_eq_true'] at hf;refine ⟨fun p hp=>?_,fun p hp=>?_⟩
 ·have h1:=hf.1 p hp;have h2:=h.1 p hp;simp only [gs,h1.1,if_false];rw [Zdt _ _ _ (by rw [h2];exact h1.2)];exact h2
 ·have h1:=hf.2 p hp;simp only [gm,h1,if_false,ZaH];exact h.2 p hp
theorem Lks.pin (h:Lks sb mb ⟨s,m⟩) (hf:Ze4 d sb mb=true) {a:Option Addr} {n cap:Nat}:Lks sb mb ⟨(d,α)::mapS (litB d a n cap) (Zan d s),(d,bk)::remM d (remM d m)⟩:=by
 simp only [Ze4,Tar,List.all_eq_true,bne_iff_ne,ne_eq,Bool.not_eq_true'] at hf;refine ⟨fun p hp=>?_,fun p hp=>?_⟩
 ·have h1:=hf.1 p hp;have h2:=h.1 p hp;simp only [gs,h1.1,if_false];rw [ZiS rfl,Zdt _ _ _ (by rw [h2];exact h1.2),h2];exact Zvn h1.2
 ·have h1:=hf.2 p hp;simp only [gm,h1,if_false,ZaH];exact h.2 p hp
theorem Lks.slot (h:Lks sb mb ⟨s,m⟩) (hf:sb.all (fun p=>p.1 != d)=true):Lks sb mb ⟨(d,α)::s,m⟩:=by
 simp only [List.all_eq_true,bne_iff_ne,ne_eq] at hf;refine ⟨fun p hp=>?_,h.2⟩;simp only [gs,hf p hp,if_false];exact h.1 p hp
theorem Lks.own (h:Lks sb mb ⟨s,m⟩) (hf:mb.all (fun p=>p.1 != d)=true):Lks sb mb ⟨s,(d,bk)::remM d m⟩:=by
 simp only [List.all_eq_true,bne_iff_ne,ne_eq] at hf;refine ⟨h.1,fun p hp=>?_⟩;simp only [gm,hf p hp,if_false,ZaH];exact h.2 p hp
theorem ZkN:∀ {sb:List (Nat × A)} (t:Nat),(∀ p∈sb,gs σ.s p.1=p.2)->gs sb t=gs σ.s t∨gs sb t=.undef
 | [],t,_=>.inr rfl
 | (t',x)::r,t,h=>by
  simp only [gs];by_cases ht:t=t'
  ·have:=h (t',x) (by simp);rw [if_pos ht,ht];exact .inl this.symm
  ·rw [if_neg ht];exact ZkN t fun p hp=>h p (by simp [hp])
theorem ZkO:∀ {mb:List (Nat × Bk)} (t:Nat) (bk:Bk),(∀ p∈mb,gm σ.m p.1=some p.2)->gm mb t=some bk->gm σ.m t=some bk
 | [],t,bk,_,h=>by simp [gm] at h
 | (t',x)::r,t,bk,h,hg=>by
  simp only [gm] at hg;by_cases ht:t=t'
  ·rw [if_pos ht] at hg;injection hg with hg
   have:=h (t',x) (by simp);rw [ht,this,hg]
  ·rw [if_neg ht] at hg;exact ZkO t bk (fun p hp=>h p (by simp [hp])) hg
end
section
variable {e:Env} {mask:Nat} {Q:PX->St->Prop} {ds:List (Option Nat)}
theorem ZkP {os:List Oper} {σ:St} {K K':St->Prop} (h:Runs e ds 0 os σ K) (hk:∀ σ',K σ'->K' σ'):Runs e ds 0 os σ K':=by
 simp only [Runs] at h ⊢;exact fun he U w0 S0 nt a w ops Q hds hd hQ hs=>h he U w0 S0 nt a w ops Q hds hd (fun a w σ' k1 k2=>hQ a w σ' (hk σ' k1) k2) hs
def Zi4 (l:List Oper):Bool:=(List.range l.length).all fun i=>match l[i]? with
 | none=>true
 | some o=>o.guard.isNone && o.after.toList.all fun e=>!Region.binds .any e || decide (e.on < i)
def Zd6 (o:Oper):List Nat:=(o.after.toList.filter fun e=>Region.binds .any e).map (·.on)
def ZbI (L:List Oper) (j:Nat):List Nat:=match L[j]? with
 | some o=>Zd6 o
 | none=>[]
def ZfW (e:Env) (ds:List (Option Nat)) (L:List Oper) (B:St->Prop) (P:Nat->St->Prop):Nat->List Oper->Prop
 | _,[]=>True
 | i,o::os=>(∀ s m,B ⟨s,m⟩->(∀ j∈Zd6 o,P j ⟨s,m⟩)->Runs e ds 0 [o] ⟨s,m⟩ (fun σ'=>B σ'∧P i σ'∧∀ j,j≠i->i ∉ ZbI L j->P j ⟨s,m⟩->P j σ'))∧ZfW e ds L B P (i+1) os
theorem ZfW.get {L:List Oper} {B:St->Prop} {P:Nat->St->Prop}:∀ {l:List Oper} {k i:Nat} {o:Oper},ZfW e ds L B P k l->l[i]?=some o->∀ s m,B ⟨s,m⟩->(∀ j∈Zd6 o,P j ⟨s,m⟩)->Runs e ds 0 [o] ⟨s,m⟩ (fun σ'=>B σ'∧P (k+i) σ'∧∀ j,j≠k+i->k+i ∉ ZbI L j->P j ⟨s,m⟩->P j σ')
 | [],k,i,o,_,h=>by simp at h
 | x::l,k,0,o,h,ho=>by
  simp only [Tat,Taq] at ho;subst ho;exact h.1
 | x::l,k,i+1,o,h,ho=>by
  have:=ZfW.get (l:=l) (k:=k+1) (i:=i) (o:=o) h.2 (by simpa using ho);rw [show k+1+i=k+(i+1) by omega] at this;exact this
theorem ZrS {l:List Oper} {K B:St->Prop} {P:Nat->St->Prop} (hb:Zi4 l=true) (hstep:ZfW e ds l B P 0 l) (hK:∀ s m,B ⟨s,m⟩->(∀ i,i < l.length->P i ⟨s,m⟩)->K ⟨s,m⟩) :
  ∀ (f:Nat) (listed:Array Bool) (σ:St),listed.size=l.length->(List.range l.length).countP (fun i=>!listed.getD i true)=f->B σ->(∀ j,listed.getD j false=true->P j σ∧∀ q∈ZbI l j,listed.getD q false=true)->ZcN e ds l.toArray K f listed σ:=by
 have hback:∀ i o,l[i]?=some o->o.guard=none∧∀ e∈o.after,Region.binds .any e=true->e.on < i:=fun i o ho=>by
  have h1:=List.all_eq_true.1 hb i (List.mem_range.2 (Tad.1 ho).1);rw [ho] at h1;simp only [Tar,Option.isNone_iff_eq_none,List.all_eq_true,Bool.or_eq_true,Bool.not_eq_true',decide_eq_true_eq] at h1;refine ⟨h1.1,fun e he hbe=>?_⟩;rcases h1.2 e (Array.mem_toList_iff.2 he) with h2 | h2
  ·rw [hbe] at h2;cases h2
  ·exact h2
 have hfirst:∀ (listed:Array Bool),listed.size=l.length->Region.ready .any l.toArray listed=[]->∀ i,i < l.length->listed.getD i false=true:=fun listed hsz h0 i=>by
  induction i using Nat.strongRecOn with
  | _ i ih =>
   intro hi;rw [<- Zbc (by omega:i < listed.size)]
   cases hun:listed.getD i true with
   | true=>rfl
   | false =>
   obtain ⟨o,ho⟩:∃ o,l[i]?=some o:=⟨_,Taa hi⟩;have:=(mem_ready (ops:=l.toArray) (md:=.any)).2 ⟨hun,o,by simpa using ho,fun e he hbe=>ih e.on ((hback i o ho).2 e he hbe) (by have:=(hback i o ho).2 e he hbe;omega)⟩;rw [h0] at this
   cases this
 intro f
 induction f with
 | zero =>
  intro listed σ hsz hc hB hP;have hall:∀ i,i < l.length->listed.getD i true=true:=fun i hi=>by
   have:=List.countP_eq_zero.1 hc i (List.mem_range.2 hi);simpa using this
  refine ⟨?_,hK σ.s σ.m hB fun i hi=>(hP i (by rw [<- Zbc om];exact hall i hi)).1⟩
  cases hr:Region.ready .any l.toArray listed with
  | nil=>rfl
  | cons i r =>
   have hi:i∈Region.ready .any l.toArray listed:=by rw [hr];simp
   obtain ⟨hun,oi,hoi,_⟩:=mem_ready.1 hi;have hil:i < l.length:=by
    have:=(Tbk.1 hoi).1;simpa using this
   rw [hall i hil] at hun
   cases hun
 | succ f ih =>
  intro listed σ hsz hc hB hP;refine ⟨fun h0=>hK σ.s σ.m hB fun i hi=>(hP i (hfirst listed hsz h0 i hi)).1,fun i hi=>?_⟩;obtain ⟨hun,o,hoi,hall⟩:=mem_ready.1 hi;have ho:l[i]?=some o:=by simpa using hoi
  have hil:i < l.length:=(Tad.1 ho).1;have hls:i < listed.size:=om;refine ⟨o,hoi,(hback i o ho).1,ZeO (hback i o ho).1 ?_⟩;have h1:=ZfW.get hstep ho σ.s σ.m hB fun j hj=>by
   simp only [Zd6,Tbh,List.mem_filter] at hj;obtain ⟨e,⟨he,hbe⟩,rfl⟩:=hj;exact (hP e.on (hall e (Array.mem_toList_iff.1 he) hbe)).1
  rw [Nat.zero_add] at h1;refine ZkP h1 fun σ' ⟨k1,k2,k3⟩=>ih _ σ' (by simpa using hsz) ?_ k1 fun j hj=>?_
  ·have h1:(List.range l.length).countP (fun j=>!(listed.setIfInBounds i true).getD j true)+1=(List.range l.length).countP (fun j=>!listed.getD j true):=by
    have hperm:=List.perm_cons_erase (List.mem_range.2 hil);rw [hperm.countP_eq,hperm.countP_eq,List.countP_cons,List.countP_cons];have hcong:((List.range l.length).erase i).countP (fun j=>!(listed.setIfInBounds i true).getD j true)=((List.range l.length).erase i).countP (fun j=>!listed.getD j true):=by
     refine List.countP_congr fun j hj=>?_;have hne:j≠i:=fun e=>by
      subst e;exact List.Nodup.not_mem_erase (List.nodup_range) hj
     rw [getD_set_ne true (Ne.symm hne)]
    rw [hcong,hun];simp [hls]
   omega
  ·by_cases hji:j=i
   ·subst hji;refine ⟨k2,fun q hq=>?_⟩;have hda:ZbI l j=Zd6 o:=by unfold ZbI;rw [ho]
    rw [hda] at hq;simp only [Zd6,Tbh,List.mem_filter] at hq;obtain ⟨e,⟨he,hbe⟩,rfl⟩:=hq;have hlt:=(hback j o ho).2 e (Array.mem_toList_iff.1 he) hbe;rw [getD_set_ne false om];exact hall e (Array.mem_toList_iff.1 he) hbe
   ·rw [getD_set_ne false (Ne.symm hji)] at hj;obtain ⟨p1,p2⟩:=hP j hj;have hni:i ∉ ZbI l j:=fun hm=>by
     have h2:=p2 i hm;rw [<- Zbc hls,hun] at h2
     cases h2
    refine ⟨k3 j hji hni p1,fun q hq=>?_⟩;by_cases hqi:q=i
    ·subst hqi;exact absurd hq hni
    ·rw [getD_set_ne false (Ne.symm hqi)];exact p2 q hq
theorem gGd {id:Nat} {l:List Oper} {s:List (Nat × A)} {m:List (Nat × Bk)} (B:St->Prop) (P:Nat->St->Prop) (hB:B ⟨s,m⟩) (hS:ZfW e (l.map (·.dst)) l B P 0 l) (hK:∀ s' m',B ⟨s',m'⟩->(∀ i,i < l.length->P i ⟨s',m'⟩)->∃ sf mf,Lks sf mf ⟨s',m'⟩∧Q .normal ⟨sf,mf⟩)
  (hb:Zi4 l=true:=by decide +kernel) (hT:regT l.toArray 0=true:=by decide +kernel):pwp e mask (.region id l.toArray true) ⟨s,m⟩ Q:=fun he U w0 S0 nt a w hok hs=>by
 refine Zhk he hT (K:=fun σ'=>∃ sf mf,Lks sf mf σ'∧Q .normal ⟨sf,mf⟩) (fun a w σ' ⟨sf,mf,h1,h2⟩ h3=>⟨⟨sf,mf⟩,h2,h3.weak (fun t=>ZkN t h1.1) (fun t bk=>ZkO t bk h1.2)⟩) (ZiZ hok) hs ?_;simp only [List.take_zero,Runs]
 have:=ZrS (K:=fun σ'=>∃ sf mf,Lks sf mf σ'∧Q .normal ⟨sf,mf⟩) hb hS hK l.length (Zbb l.length 0) ⟨s,m⟩ (by simp [Zbb]) (by
  rw [List.countP_eq_length.2]
  ·simp
  ·intro i hi;have hi':=List.mem_range.1 hi;simp [Zbb,hi']) hB (fun j hj=>by
   have h0:(Zbb l.length 0).getD j false=false:=by
    by_cases hjl:j < l.length
    ·simp [Zbb,hjl]
    ·simp [Zbb,hjl]
   rw [h0] at hj
   cases hj)
 simpa using this
def PG {X:Type} (S:X->Nat->List (Nat × A)) (M:X->Nat->List (Nat × Bk)) (i:Nat) (σ:St):Prop:=∃ x,Lks (S x i) (M x i) σ
section
variable {X:Type} {S:X->Nat->List (Nat × A)} {M:X->Nat->List (Nat × Bk)} {d i:Nat} {L:List Oper} {s:List (Nat × A)} {m:List (Nat × Bk)} {α:A} {bk:Bk}
theorem PG.slot (hf:∀ j,j≠i->i ∉ ZbI L j->∀ x,(S x j).all (fun p=>p.1 != d)=true):∀ j,j≠i->i ∉ ZbI L j->PG S M j ⟨s,m⟩->PG S M j ⟨(d,α)::s,m⟩:=fun j h1 h2 ⟨x,h⟩=>⟨x,h.slot (hf j h1 h2 x)⟩
theorem PG.born (hf:∀ j,j≠i->i ∉ ZbI L j->∀ x,Ze4 d (S x j) (M x j)=true):∀ j,j≠i->i ∉ ZbI L j->PG S M j ⟨s,m⟩->PG S M j ⟨(d,α)::Zan d s,(d,bk)::remM d m⟩:=fun j h1 h2 ⟨x,h⟩=>⟨x,h.born (hf j h1 h2 x)⟩
theorem PG.pin (hf:∀ j,j≠i->i ∉ ZbI L j->∀ x,Ze4 d (S x j) (M x j)=true) {a:Option Addr} {n cap:Nat}:∀ j,j≠i->i ∉ ZbI L j->PG S M j ⟨s,m⟩->PG S M j ⟨(d,α)::mapS (litB d a n cap) (Zan d s),(d,bk)::remM d (remM d m)⟩:=fun j h1 h2 ⟨x,h⟩=>⟨x,h.pin (hf j h1 h2 x)⟩
end
end
theorem ZrT {e:Env} {σ:St} {k k' ety ety' sz sz' cap cap':Nat} {ad ad':Option Addr} {rows rows':List (List C)} (hne:k≠k') (h:gm σ.m k=some (.buf (some (ad,cap)) ety sz rows)) (h':gm σ.m k'=some (.buf (some (ad',cap')) ety' sz' rows')) (hr:0 < rows.length) (hr':0 < rows'.length):Turn e σ (fun σ'=>σ'=σ∧ad≠ad'):=fun he U w0 S0 nt act w hs=>by
 refine ⟨σ,⟨rfl,fun e=>?_⟩,hs⟩;obtain ⟨S,L,h1⟩:=hs;have key:∀ {k ety sz cap:Nat} {ad:Option Addr} {rows:List (List C)},gm σ.m k=some (.buf (some (ad,cap)) ety sz rows)->0 < rows.length->∃ g,vblk (L.v k)=some g∧ad=some ⟨g,0,none⟩:=fun {k ety sz cap ad rows} h hr=>by
  obtain ⟨o1,o2⟩:=h1.cls.own k _ h;have o1:=o1 _ rfl;rcases o2.2.2 with ⟨h3,_⟩ | ⟨g,cap2,cur,hv,hc,_⟩
  ·rw [h3] at hr;simp at hr
  ·refine ⟨g,by rw [hv];simp [vblk];omega,?_⟩;rw [o1] at hv;injection hv with hv _ _
 obtain ⟨g,v1,e1⟩:=key h hr;obtain ⟨g',v2,e2⟩:=key h' hr';rw [e1,e2] at e;injection e with e
 injection e with e _ _
 rw [<- e] at v2;exact hne (h1.cls.inj k k' _ _ g h h' v1 v2)
theorem pA {e:Env} {mask:Nat} {Q:PX->St->Prop} {c:Code} {s:List (Nat × A)} {m:List (Nat × Bk)} {ety ety' sz sz' cap cap':Nat} {ad ad':Option Addr} {rows rows':List (List C)} (k k':Nat) (hK:ad≠ad'->pwp e mask c ⟨s,m⟩ Q) (hr:0 < rows.length) (hr':0 < rows'.length) (hne:k≠k':=by decide) (h:gm m k=some (.buf (some (ad,cap)) ety sz rows):=by exact snv) (h':gm m k'=some (.buf (some (ad',cap')) ety' sz' rows'):=by exact snv):pwp e mask c ⟨s,m⟩ Q :=
 Zb2 (ZrT hne h h' hr hr') fun σ' ⟨hσ,ha⟩=>by subst hσ;exact hK ha
def ordS (s:Srt) (f:(Nat->Option Addr × Nat) × C × C × C):Nat->List (Nat × A)
 | 0=>[(20,.d (.agg (Za3 s)))]
 | 1=>[(21,.d (.one (.sl (nR (up s)))))]
 | 2=>[(22,.d (.one (.lit (.int .i64 s.names.length))))]
 | 3=>[(23,.d (.one (.lit (.slice (f.1 23).1 s.names.length (f.1 23).2))))]
 | 4=>[(24,.d (.one (.lit (.int .i64 s.names.length))))]
 | 5=>[(25,.d (.one (.lit (.slice (f.1 25).1 s.names.length (f.1 25).2))))]
 | 6=>[(26,.d (.agg [.sl (nR (up s)),.lit (.slice (f.1 23).1 s.names.length (f.1 23).2),.lit (.slice (f.1 25).1 s.names.length (f.1 25).2)]))]
 | 7=>[(5,.ref 5 0)]
 | 8=>[(5,.ref 5 0)]
 | _=>[]
def ordM (s:Srt) (f:(Nat->Option Addr × Nat) × C × C × C):Nat->List (Nat × Bk)
 | 3=>[(23,.buf (some (f.1 23)) 3 1 (nR (List.replicate s.names.length 0)))]
 | 5=>[(25,.buf (some (f.1 25)) 3 1 (nR (List.replicate s.names.length 0)))]
 | 6=>[(23,.buf (some (f.1 23)) 3 1 (nR (List.replicate s.names.length 0))),(25,.buf (some (f.1 25)) 3 1 (nR (List.replicate s.names.length 0)))]
 | 7=>[(5,.var none [f.2.1,f.2.2.1,f.2.2.2])]
 | 8=>[(5,.var none [.sl (nR (up s)),.lit (.slice (f.1 23).1 s.names.length (f.1 23).2),.lit (.slice (f.1 25).1 s.names.length (f.1 25).2)]),(23,.buf (some (f.1 23)) 3 1 (nR (List.replicate s.names.length 0))),(25,.buf (some (f.1 25)) 3 1 (nR (List.replicate s.names.length 0)))]
 | _=>[]
theorem ZAL:(∀ (u l:List Nat),downs u 0 l=l)∧∀ n,ZdB n 0=List.replicate n 0:=⟨fun _ _=>rfl,fun n=>by simp [ZdB]⟩
theorem ZAj (i:Nat) (l:List Nat):downIn i l []=l:=rfl
theorem Zvo {ks:List Nat} {j k:Nat} (h:ks[j]?=some k) (i:Nat) (l:List Nat):downIn i l (ks.take (j+1))=(downIn i l (ks.take j)).set k ((downIn i l (ks.take j)).getD k 0 ||| 2 ^ i):=Zhh h l
def ZkQ (s:Srt):List (Nat × A):=[(1,.ref 1 0),(2,.ref 2 0),(3,.d (.one (.lit (.bool false)))),(4,.d (.one (.lit (.int .i64 s.names.length))))]
def Znn (s:Srt):List (Nat × Bk):=[(1,.var none (Za3 s)),(2,.var none [.sl [],.sl [],.sl []])]
def ordB (s:Srt) (σ:St):Prop:=Lks (ZkQ s) (Znn s) σ
section
variable {s:Srt}
theorem Zj0 (hok:ZkB s) (hs:¬ SortsOk s):Con e0 100 [.agg (Za3 s)] [.agg [.sl [],.sl [],.sl []],.one (.lit (.bool false))]:=by
 have cI:=ZhV hok;rw [Zfh hs,Za3] at cI;rw [Za3];refine gI (ts:=[.cell 2 128,.slot 3]) 569543224310601128703 Tryz.func100 ?_;refine fB @e0P ?_;refine fC @e0P (cI) ?_;refine fR @e0P ?_;exact fD @e0P
theorem Zih (hok:ZkB s) (hs:SortsOk s):Con e0 100 [.agg (Za3 s)] [.agg (ZdK s),.one (.lit (.bool true))]:=by
 have cI:=ZhV hok;have hSI:=SortsOk.subsIn hs.subs;have cA:=ZhU hs.n1 hs.n8 hs.m16 hSI;rw [ZeA hs] at cI;rw [Za3] at cI ⊢;refine gI (ts:=[.cell 2 128,.slot 3]) 569543224310601128703 Tryz.func100 ?_;refine fB @e0P ?_;refine fC @e0P (cI) ?_;refine fR @e0P ?_;refine fN 4 @e0P ?_;have hmx:((s.names.length:Int)<=(maxApp:Int))=True:=eq_true (by have:=hs.n8;unfold maxApp;omega);refine gGd (ordB s) (PG (ordS s) (ordM s)) ⟨by simp [ZkQ,gs],by simp [Znn,gm,Za3]⟩ ⟨?_,?_,?_,?_,?_,?_,?_,?_,?_,trivial⟩ ?_
 rotate_right
 all_goals (intro s' m' hB)
 all_goals (have g1:gs s' 1=.ref 1 0:=hB.1 (1,.ref 1 0) (by simp [ZkQ]))
 all_goals (have g4:gs s' 4=.d (.one (.lit (.int .i64 s.names.length))):=hB.1 (4,_) (by simp [ZkQ]))
 all_goals (have k1:gm m' 1=some (.var none [.sl (s.names.map Zby),.sl (s.subs.map ZbM)]):=hB.2 (1,_) (by simp [Znn,Za3]))
 ·intro hP;clear g1 g4 k1;obtain ⟨f,h⟩:=hP 8 (by decide);refine ⟨_,_,h.app hB,?_⟩;generalize hp:f.1 23=p;generalize hq:f.1 25=q;obtain ⟨a3,c3⟩:=p;obtain ⟨a5,c5⟩:=q;simp only [ordS,ordM,ZkQ,Znn,Taf,Tah,Za3,hp,hq];clear hp hq h hB hP s' m' f;refine ⟨_,Wk.refl _,?_⟩;have hU:=Zfr hSI;have lU:=Za8 (l:=up s);rw [hU.1] at lU;have h8:=hs.n8;have rU:=Za0 (l:=up s);refine fN 5 @e0P ?_;have hn1:=hs.n1;have l00:0 < (nR (List.replicate s.names.length 0)).length:=by rw [Za8,List.length_replicate];omega
  refine pA 23 25 (fun hne=>?_) l00 l00;have hn5:∀ p,(a5=a3∧p)=False:=fun p=>eq_false fun e=>hne e.1.symm;refine fG @lU ?_;have F:=@ZAL;refine gL (ι:=Nat) [6,7,9,30,31,36,37,38,39] [23,25] (fun i=>[(30,A.d (.one (.lit (.int .i64 i))))]) (fun i=>[(23,.buf (some (a3,c3)) 3 1 (nR (downs (up s) i (List.replicate s.names.length 0)))),(25,.buf (some (a5,c5)) 3 1 (nR (ZdB s.names.length i)))]) (fun i=>i<=s.names.length) (fun i=>s.names.length - i) (0) (Taj _) (fun i hi=>?_);clear F
  have hDi:=UpOk.downs hU i (l:=List.replicate s.names.length 0) hi (UpOk.zeros _);have lK:=Za8 (l:=ZdB s.names.length i);rw [Zme hi] at lK;by_cases hlt:i < s.names.length
  ·have q1:(i:Int) < (s.names.length:Int):=om;have hw:=Zap (k:=i) om;obtain ⟨gi,bi⟩:=hU.get hlt;have r1:=Zbe gi;have p256:2 ^ s.names.length<=256:=Tbd (Tbr om h8) (by decide);have cL:=ZrQ (a:=(up s).getD i 0) om;have hdn:downs (up s) (i+1) (List.replicate s.names.length 0)=downIn i (downs (up s) i (List.replicate s.names.length 0)) (Zd5 ((up s).getD i 0)):=rfl;have hks:=Zmd bi;have lks:=Za8 (l:=Zd5 ((up s).getD i 0))
   have rks:=Za0 (l:=Zd5 ((up s).getD i 0));have hks16:(Zd5 ((up s).getD i 0)).length<=64:=Tbd (ZkF _ _) (by decide);have hsh:=Zi0 (k:=i) om;refine fB (aj4 @q1 @lU @r1 @rU) ?_;refine fC @e0P (cL) ?_;refine fR @lks ?_;generalize Zd5 ((up s).getD i 0)=ks at hdn hks lks rks hks16 ⊢;generalize downs (up s) i (List.replicate s.names.length 0)=l at hdn hDi ⊢;refine fG @lks ?_;have F:=@ZAj;refine gL (ι:=Nat) [9,38,39] [23] (fun j=>[(38,A.d (.one (.lit (.int .i64 j))))]) (fun j=>[(23,.buf (some (a3,c3)) 3 1 (nR (downIn i l (ks.take j))))]) (fun j=>j<=ks.length) (fun j=>ks.length - j) (0) (Taj _) (fun j hj=>?_);clear F
   by_cases hlj:j < ks.length
   ·have q2:(j:Int) < (ks.length:Int):=om;have hwj:=Zap (k:=j) om;obtain ⟨k,hk⟩:∃ k,ks[j]?=some k:=⟨_,Taa hlj⟩;have hkn:=hks k (Tac hk);have r2:=Zbe hk;have hst:=Zvo hk i l;have hV:=UpOk.downIn hlt hDi (ks:=ks.take j) fun q hq=>hks q (List.mem_of_mem_take hq);generalize downIn i l (ks.take j)=v at hst hV ⊢;obtain ⟨gk,bk⟩:=hV.get hkn;have r3:=Zbe gk;have l3:=Za8 (l:=v);rw [hV.1] at l3;have l4:=Za0 (l:=v)
    have l5:=Zdi (l:=v) k (v.getD k 0 ||| 2 ^ i);have p2:2 ^ i < 4611686018427387904:=ZfQ om;have hor:=Zer (a:=v.getD k 0) (b:=2 ^ i) om p2;have F:=aj14 @q2 @r2 @rks @lks @r3 @l3 @l4 @l5 @hsh @hor @hkn @ZaS @hwj @hst;refine gG ?_;exact ⟨j+1,hlj,gw,gw,om⟩
   obtain rfl:j=ks.length:=by omega
   have q2:¬ ((ks.length:Int) < (ks.length:Int)):=om;rw [Tap,<- hdn];have l6:=Za0 (l:=ZdB s.names.length i);have l7:=Zdi (l:=ZdB s.names.length i) i i;rw [Zvc hlt] at l7;obtain ⟨y,gy⟩:∃ y,(ZdB s.names.length i)[i]?=some y:=⟨_,Taa (by rw [Zme hi];exact hlt)⟩;have r5:=Zbe gy;have F:=aj9 @q2 @hn5 @lK @l6 @l7 @r5 @hlt @hw @ZaS;refine gG ?_;exact ⟨i+1,hlt,gw,gw,om⟩
  obtain rfl:i=s.names.length:=by omega
  have q1:¬ ((s.names.length:Int) < (s.names.length:Int)):=om;rw [Zvd,show downs (up s) s.names.length (List.replicate s.names.length 0)=down s from rfl];clear hDi lK;have hK:=KOk.start s.names.length;refine fG @q1 ?_;have F:=@Zrf;refine gL (ι:=Nat) [11,12,62,63,65,66,67,68] [25] (fun j=>[(62,A.d (.one (.lit (.int .i64 j))))]) (fun j=>[(25,.buf (some (a5,c5)) 3 1 (nR (Zdo s.subs j (List.range s.names.length))))]) (fun j=>j<=s.names.length) (fun j=>s.names.length - j) (0) (Taj _) (fun j hj=>?_);clear F
  have hKj:=KOk.iter hSI j hK;have l0:=Za8 (l:=Zdo s.subs j (List.range s.names.length));rw [hKj.1] at l0;by_cases hlj:j < s.names.length;rotate_left
  ·obtain rfl:j=s.names.length:=by omega
   have q2:¬ ((s.names.length:Int) < (s.names.length:Int)):=om;rw [show Zdo s.subs s.names.length (List.range s.names.length)=Zb0 s from rfl];refine fN 25 @q2 ?_;have lD:=Za8 (l:=down s);rw [(Zzw hSI).1] at lD;have lK:=Za8 (l:=Zb0 s);rw [(Zhi hSI).1] at lK;refine pD 23 [] [5] ?_ (hr:=by simp only [pz,↓reduceIte,Nat.reduceEqDiff,Nat.reduceAdd,Nat.reduceSub,Nat.reduceMul,Nat.reduceLeDiff,Nat.reduceBEq,Tam,decide_true,decide_false,Int.reduceLE,Int.reduceToNat,Int.reduceLT,Int.reduceEq,eq_self,Nat.reduceShiftRight,Nat.reduceAnd,Nat.reduceBneDiff,lD,hn5,if_false];exact rfl)
   refine pD 25 [] [5] ?_ (hr:=by simp only [pz,↓reduceIte,Nat.reduceEqDiff,Nat.reduceAdd,Nat.reduceSub,Nat.reduceMul,Nat.reduceLeDiff,Nat.reduceBEq,Tam,decide_true,decide_false,Int.reduceLE,Int.reduceToNat,Int.reduceLT,Int.reduceEq,eq_self,Nat.reduceShiftRight,Nat.reduceAnd,Nat.reduceBneDiff,lK,hn5,if_false];exact rfl);exact fD @Zhn
  have q2:(j:Int) < (s.names.length:Int):=om;have hwj:=Zap (k:=j) om;have hnx:Zdo s.subs (j+1) (List.range s.names.length)=s.subs.foldl kSub (Zdo s.subs j (List.range s.names.length)):=rfl;generalize Zdo s.subs j (List.range s.names.length)=u at hKj hnx l0 ⊢;refine fG (ai @l0 @q2) ?_;have hm16:=hs.m16;have F:=@Zvi;refine gL (ι:=Nat) [11,12,67,68] [25] (fun i=>[(67,A.d (.one (.lit (.int .i64 i))))]) (fun i=>[(25,.buf (some (a5,c5)) 3 1 (nR ((s.subs.take i).foldl kSub u)))]) (fun i=>i<=s.subs.length) (fun i=>s.subs.length - i) (0) (Taj _) (fun i hi=>?_);clear F
  by_cases hli:i < s.subs.length;rotate_left
  ·obtain rfl:i=s.subs.length:=by omega
   have q3:¬ ((s.subs.length:Int) < (s.subs.length:Int)):=om;rw [Tap,<- hnx];have F:=ai @q3 @hwj;refine gG ?_;exact ⟨j+1,hlj,gw,gw,om⟩
  have q3:(i:Int) < (s.subs.length:Int):=om;have hwi:=Zap (k:=i) om;obtain ⟨p,hp⟩:∃ p,s.subs[i]?=some p:=⟨_,Taa hli⟩;have hps:=hSI p (Tac hp);have hst:=Zmh hp u;have hUi:=KOk.foldl hKj (hSI.take i);generalize (s.subs.take i).foldl kSub u=v at hUi hst ⊢;obtain ⟨g1,b1⟩:=hUi.get (i:=p.1.toNat) om;obtain ⟨g2,b2⟩:=hUi.get (i:=p.2.toNat) om;have l1:=Zbe g1;have l2:=Zbe g2;have l3:=Za8 (l:=v);rw [hUi.1] at l3
  have l4:=Za0 (l:=v);have hmin:(if (v.getD p.2.toNat 0:Int) < (v.getD p.1.toNat 0:Int) then (v.getD p.2.toNat 0:Int) else (v.getD p.1.toNat 0:Int))=((min (v.getD p.1.toNat 0) (v.getD p.2.toNat 0):Nat):Int):=by
   split <;> omega
  generalize hmn:min (v.getD p.1.toNat 0) (v.getD p.2.toNat 0)=mn at hmin hst;have l5:=Zdi (l:=v) p.1.toNat mn;have l6:=Zdi (l:=v.set p.1.toNat mn) p.2.toNat mn;have l7:=Za8 (l:=v.set p.1.toNat mn);rw [Tay,hUi.1] at l7;have l8:=Za0 (l:=v.set p.1.toNat mn);obtain ⟨x9,g9⟩:∃ x,(v.set p.1.toNat mn)[p.2.toNat]?=some x:=⟨_,Taa (by rw [Tay,hUi.1];omega)⟩;have l9:=Zbe g9;have i1:0<=p.1:=hps.1;have i2:0<=p.2:=hps.2.2.1
  have i3:p.1.toNat < s.names.length:=om;have i4:p.2.toNat < s.names.length:=om;have hst:(s.subs.take (i+1)).foldl kSub u=(v.set p.1.toNat mn).set p.2.toNat mn:=by rw [hst];unfold kSub;rw [hmn]
  have F:=aj16 @q3 @hp @Zb8 @hn5 @l1 @l2 @l3 @l4 @l5 @l6 @l7 @l8 @l9 @i1 @i2 (aj5 @i3 @i4 @hmin @hwi @hst);refine gG ?_;exact ⟨i+1,hli,gw,gw,om⟩
 ·intro _;refine (have F:=ai g1 k1;gO3 ?_);exact ⟨hB.slot rfl,⟨(fun _=>(none,0),.sl [],.sl [],.sl []),by simp [ordS,gs,Za3],by simp [ordM]⟩,PG.slot (by intro j h1 h2 x;rcases j with _ | _ | _ | _ | _ | _ | _ | _ | _ | j <;> first | rfl | exact absurd rfl h1 | exact absurd (by decide) h2)⟩
 ·intro hP;obtain ⟨f,h0,_⟩:=hP 0 (by decide);have g20:gs s' 20=.d (.agg (Za3 s)):=h0 (_,_) (by simp [ordS]);refine (have F:=g20;gC cA ?_);refine ZbL ?_;exact ⟨hB.slot rfl,⟨(fun _=>(none,0),.sl [],.sl [],.sl []),by simp [ordS,gs],by simp [ordM]⟩,PG.slot (by intro j h1 h2 x;rcases j with _ | _ | _ | _ | _ | _ | _ | _ | _ | j <;> first | rfl | exact absurd rfl h1 | exact absurd (by decide) h2)⟩
 ·intro _;refine (have F:=g4;gO3 ?_);exact ⟨hB.slot rfl,⟨(fun _=>(none,0),.sl [],.sl [],.sl []),by simp [ordS,gs],by simp [ordM]⟩,PG.slot (by intro j h1 h2 x;rcases j with _ | _ | _ | _ | _ | _ | _ | _ | _ | j <;> first | rfl | exact absurd rfl h1 | exact absurd (by decide) h2)⟩
 ·intro hP;obtain ⟨f,h0,_⟩:=hP 2 (by decide);have g22:gs s' 22=.d (.one (.lit (.int .i64 s.names.length))):=h0 (_,_) (by simp [ordS]);refine (have F:=aj4 g22 hmx @Tbv @ZlH;gP 1 ?_);refine gS 23 fun a cap=>?_;refine ZbL ?_;exact ⟨hB.pin rfl,⟨(fun _=>(a,cap),.sl [],.sl [],.sl []),by simp [ordS,gs],by simp [ordM,gm,nR_0]⟩,PG.pin (by intro j h1 h2 x;rcases j with _ | _ | _ | _ | _ | _ | _ | _ | _ | j <;> first | rfl | exact absurd rfl h1 | exact absurd (by decide) h2)⟩
 ·intro _;refine (have F:=g4;gO3 ?_);exact ⟨hB.slot rfl,⟨(fun _=>(none,0),.sl [],.sl [],.sl []),by simp [ordS,gs],by simp [ordM]⟩,PG.slot (by intro j h1 h2 x;rcases j with _ | _ | _ | _ | _ | _ | _ | _ | _ | j <;> first | rfl | exact absurd rfl h1 | exact absurd (by decide) h2)⟩
 ·intro hP;obtain ⟨f,h0,_⟩:=hP 4 (by decide);have g24:gs s' 24=.d (.one (.lit (.int .i64 s.names.length))):=h0 (_,_) (by simp [ordS]);refine (have F:=aj4 g24 hmx @Tbv @ZlH;gP 1 ?_);refine gS 25 fun a cap=>?_;refine ZbL ?_;exact ⟨hB.pin rfl,⟨(fun _=>(a,cap),.sl [],.sl [],.sl []),by simp [ordS,gs],by simp [ordM,gm,nR_0]⟩,PG.pin (by intro j h1 h2 x;rcases j with _ | _ | _ | _ | _ | _ | _ | _ | _ | j <;> first | rfl | exact absurd rfl h1 | exact absurd (by decide) h2)⟩
 ·intro hP;obtain ⟨f1,h1,_⟩:=hP 1 (by decide);obtain ⟨f3,h3,h3'⟩:=hP 3 (by decide);obtain ⟨f5,h5,h5'⟩:=hP 5 (by decide);have g21:gs s' 21=.d (.one (.sl (nR (up s)))):=h1 (_,_) (by simp [ordS]);have g23:gs s' 23=.d (.one (.lit (.slice (f3.1 23).1 s.names.length (f3.1 23).2))):=h3 (_,_) (by simp [ordS]);have g25:gs s' 25=.d (.one (.lit (.slice (f5.1 25).1 s.names.length (f5.1 25).2))):=h5 (_,_) (by simp [ordS])
  have k23:=h3' (23,_) (by simp [ordM];rfl);have k25:=h5' (25,_) (by simp [ordM];rfl);refine (have F:=aj3 g21 g23 g25;gO3 ?_);exact ⟨hB.slot rfl,⟨(fun k=>if k=23 then f3.1 23 else f5.1 25,.sl [],.sl [],.sl []),by simp [ordS,gs],by simp [ordM];exact ⟨k23,k25⟩⟩,PG.slot (by intro j h1 h2 x;rcases j with _ | _ | _ | _ | _ | _ | _ | _ | _ | j <;> first | rfl | exact absurd rfl h1 | exact absurd (by decide) h2)⟩
 ·intro _;refine (have F:=g4;gO3 ?_);exact ⟨hB.born rfl,⟨(fun _=>(none,0),.sl [],.sl [],.sl []),by simp [ordS,gs],by simp [ordM,gm]⟩,PG.born (by intro j h1 h2 x;rcases j with _ | _ | _ | _ | _ | _ | _ | _ | _ | j <;> first | rfl | exact absurd rfl h1 | exact absurd (by decide) h2)⟩
 ·intro hP;obtain ⟨f6,h6,h6'⟩:=hP 6 (by decide);obtain ⟨f7,h7,h7'⟩:=hP 7 (by decide);have g26:gs s' 26=.d (.agg [.sl (nR (up s)),.lit (.slice (f6.1 23).1 s.names.length (f6.1 23).2),.lit (.slice (f6.1 25).1 s.names.length (f6.1 25).2)]):=h6 (_,_) (by simp [ordS]);have g5:gs s' 5=.ref 5 0:=h7 (_,_) (by simp [ordS]);have k5:gm m' 5=some (.var none [f7.2.1,f7.2.2.1,f7.2.2.2]):=h7' (_,_) (by simp [ordM])
  have k23:=h6' (23,_) (by simp [ordM];rfl);have k25:=h6' (25,_) (by simp [ordM];rfl);refine (have F:=aj3 g26 g5 k5;gO3 ?_);refine ⟨hB.own rfl,⟨f6,by simp [ordS,g5],by simp [ordM,gm,ZaH];exact ⟨k23,k25⟩⟩,?_⟩;intro j q1 q2 ⟨x,q⟩;rcases j with _ | _ | _ | _ | _ | _ | _ | _ | _ | j
  all_goals first
   | exact ⟨x,q.own rfl⟩
   | exact absurd rfl q1
   | exact ⟨(fun _=>(none,0),.sl (nR (up s)),.lit (.slice (f6.1 23).1 s.names.length (f6.1 23).2),.lit (.slice (f6.1 25).1 s.names.length (f6.1 25).2)),by simp [ordS,g5],by simp [ordM,gm]⟩
end
section
variable {g:Sgn}
theorem Zps {k:Nat} {o:Opr} (h:g.ops[k]?=some o):Zdd (Zbt (g.ops.take k))++[(o.name,.bool true)]=Zdd (Zbt (g.ops.take (k+1))):=by
 rw [Zif h,Zdd,Zdd,Tbu];rfl
theorem Zpt {l:List Opr} {i k m:Nat} (h:i=k+m) {s:ByteArray} (hs:Za6 (Zbt (l.take k)) s=true):Za6 (Zbt (l.take i)) s=true:=by
 subst h;rw [List.take_add,Zbt,Tbu];unfold Za6 at hs ⊢;rw [List.any_append];rw [Zbt] at hs;rw [hs,Bool.true_or]
theorem Zxf (l:List Opr):Zdd (Zbt (l.take 0))=[]∧Zdd (Zbt [])=[]:=⟨rfl,rfl⟩
theorem ZgC (hg:ZbJ g):Con e0 70 [.agg (Zag g)] [.one (.lit (.bool (Zbw g)))]:=by
 have hno:¬ SgnOk g->Zbw g=false:=Ze1;rw [Zag];refine gI 9358620764179268287 Tryz.func70 ?_;by_cases hs:SortsOk g.sorts;rotate_left
 ·have cO:=Zj0 hg.1 hs;have hf:=hno fun h=>hs h.sorts;rw [Za3] at cO;refine fB @e0P ?_;refine fC @e0P (cO) ?_;refine fR @e0P ?_;exact fT @hf
 have cO:=Zih hg.1 hs;rw [Za3] at cO;refine fB @e0P ?_;refine fC @e0P (cO) ?_;refine fR @Zhn ?_;by_cases h14:g.ops.length<=14;rotate_left
 ·have z1:=lT 14 g.ops.length;have hf:=hno fun h=>h14 h.len;exact fT (ai @z1 @hf)
 have z1:=lF 14 g.ops.length;refine fN 4 @z1 ?_;refine gB ?_;refine gMk fun b=>?_;refine fR @e0P ?_;refine fG @e0P ?_;have F:=((Zxf g.ops));refine gL (ι:=Nat) [2,7,28,29,47] [24] (fun i=>[(28,A.d (.one (.lit (.int .i64 i))))]) (fun i=>[(24,mapB b (Zdd (Zbt (g.ops.take i))))]) (fun i=>i<=g.ops.length∧(∀ (j:Nat) (o:Opr),j < i->g.ops[j]?=some o->Za7 o.name=true∧Za6 (Zbt (g.ops.take j)) o.name=false)∧(∀ o∈g.ops.take i,DeclsOk g.sorts o)) (fun i=>g.ops.length - i) (0) (⟨Taj _,fun j o h=>absurd h om,fun o h=>by simp at h⟩) (fun i hi=>?_);clear F
 obtain ⟨hil,hnm,hdc⟩:=hi;by_cases hlt:i < g.ops.length
 ·have q1:(i:Int) < (g.ops.length:Int):=om;obtain ⟨o,ho⟩:∃ o,g.ops[i]?=some o:=⟨_,Taa hlt⟩;have hom:=Tac ho;have hw:=Zap (k:=i) om;have hfs:=ZkI (Zbt (g.ops.take i)) o.name;have hbad:¬ (Za7 o.name=true∧Za6 (Zbt (g.ops.take i)) o.name=false)->Zbw g=false:=fun h=>hno fun hs=>h (hs.names i o ho);have hbad2:Zca g.sorts o=false->Zbw g=false:=fun h=>hno fun hs=>by rw [ZeB (hs.decls o hom)] at h;cases h
  have cN:=ZfS (hg.2 o hom).1;have cD:=Zm0 hs o;rw [ZaU,ZdK] at cD;refine fN 8 (aj3 @q1 @ho @Zae) ?_;refine gB ?_;have F:=@e0P;refine gP 3 ?_;clear F
  cases hh:Za6 (Zbt (g.ops.take i)) o.name with
  | true =>
   rw [hh] at hfs hbad;have hf:=hbad fun h=>by cases h.2
   refine (have F:=e0P;gLk 24 ZfE ZgX Zi2 (v:=.bool true) (by rw [hfs];rfl) ?_);refine fR @e0P ?_;exact fT @hf
  | false =>
  rw [hh] at hfs hbad;refine (have F:=e0P;gLk 24 ZfE ZgX Zi2 (v:=.bool false) (by rw [hfs];rfl) ?_);refine fC @e0P (cN) ?_
  cases hn:Za7 o.name with
  | false =>
   have hf:=hbad fun h=>by rw [hn] at h;cases h.1
   refine fR @e0P ?_;exact fT @hf
  | true =>
  refine fC @Zhn (cD) ?_
  cases hd:Zca g.sorts o with
  | false =>
   have hf:=hbad2 hd;refine fR @e0P ?_;exact fT @hf
  | true =>
  have hq:i+1<=g.ops.length∧(∀ (j:Nat) (o:Opr),j < i+1->g.ops[j]?=some o->Za7 o.name=true∧Za6 (Zbt (g.ops.take j)) o.name=false)∧(∀ o∈g.ops.take (i+1),DeclsOk g.sorts o):=⟨hlt,fun j o' hj ho'=>by
   by_cases e:j=i
   ·subst e;rw [ho] at ho';injection ho' with ho'
    subst ho';exact ⟨hn,hh⟩
   ·exact hnm j o' om ho',fun o' ho'=>by
   rw [Zcm ho] at ho';rcases Tbg.1 ho' with h | h
   ·exact hdc o' h
   ·rw [Tbi.1 h];exact Zjq.1 hd⟩
  have hsn:=Zps ho;refine fR @e0P ?_;refine fN 10 @e0P ?_;refine gB ?_;have F:=@e0P;refine gP 3 ?_;clear F;refine (have F:=e0P;gUp 24 ZfE ZgX (by rw [hfs];rfl) ?_);rw [hsn];refine fR @e0P ?_;have F:=@hw;refine gG ?_;exact ⟨i+1,hq,gw,gw,om⟩
 obtain rfl:i=g.ops.length:=by omega
 have q1:¬ ((g.ops.length:Int) < (g.ops.length:Int)):=om;rw [Tap] at hdc;have hnames:∀ (i:Nat) (o:Opr),g.ops[i]?=some o->Za7 o.name=true∧Za6 (Zbt (g.ops.take i)) o.name=false:=fun i o ho=>hnm i o (Tad.1 ho).1 ho;refine fG @q1 ?_;have F:=@e0P;refine gL (ι:=Nat) [2,9,55,56,63] [] (fun k=>[(55,A.d (.one (.lit (.int .i64 k))))]) (fun k=>[]) (fun k=>k<=g.ops.length∧∀ o∈g.ops.take k,AxOk g o) (fun k=>g.ops.length - k) (0) (⟨Taj _,fun o h=>by simp at h⟩) (fun k hk=>?_);clear F
 obtain ⟨hkl,hax⟩:=hk;by_cases hlk:k < g.ops.length;rotate_left
 ·obtain rfl:k=g.ops.length:=by omega
  rw [Tap] at hax;have q2:¬ ((g.ops.length:Int) < (g.ops.length:Int)):=om;have ht:=ZcX ⟨hs,h14,hnames,hdc,hax⟩;exact fT (ai @q2 @ht)
 have q2:(k:Int) < (g.ops.length:Int):=om;obtain ⟨o,ho⟩:∃ o,g.ops[k]?=some o:=⟨_,Taa hlk⟩;have hom:=Tac ho;have hw:=Zap (k:=k) om;have cA:=ZlI hs hdc hom h14;rw [ZaU,ZdK,Zag] at cA;refine fB (aj3 @q2 @ho @Zae) ?_;refine fC @Zhn (cA) ?_
 cases ha:axOk g o with
 | false =>
  have hf:=hno fun h=>by rw [Zdl (h.axs o hom)] at ha;cases ha
  refine fR @e0P ?_;exact fT @hf
 | true =>
 have hq:k+1<=g.ops.length∧∀ o∈g.ops.take (k+1),AxOk g o:=⟨hlk,fun o' ho'=>by
  rw [Zcm ho] at ho';rcases Tbg.1 ho' with h | h
  ·exact hax o' h
  ·rw [Tbi.1 h];exact Zn2.1 ha⟩
 refine fR @e0P ?_;have F:=@hw;refine gG ?_;exact ⟨k+1,hq,gw,gw,om⟩
theorem ZgD (hg:ZbJ g):Con e0 42 [.agg (Zag g)] [.one (.lit (.bool (Zbw g)))]:=by
 have hno:¬ SgnOk g->Zbw g=false:=Ze1;have cS:=ZmZ hg.1;rw [Za3] at cS;rw [Zag];refine gI 599807422667317870655 Tryz.func42 ?_;refine fB @e0P ?_;refine fC @e0P (cS) ?_
 cases hss:ZbU g.sorts with
 | false =>
  have hf:=hno fun h=>by rw [ZeA h.sorts] at hss;cases hss
  refine fR @e0P ?_;exact fT @hf
 | true =>
 have hs:=Zpn.1 hss;by_cases h14:g.ops.length<=14;rotate_left
 ·have z1:=lT 14 g.ops.length;have hf:=hno fun h=>h14 h.len;refine fR @z1 ?_;exact fT @hf
 have z1:=lF 14 g.ops.length;refine fR @z1 ?_;refine fG @e0P ?_;have F:=@e0P;refine gL (ι:=Nat) [2,3,4,20,40,43,58] [] (fun i=>[(3,A.d (.one (.lit (.int .i64 i))))]) (fun i=>[]) (fun i=>i<=g.ops.length∧(∀ (j:Nat) (o:Opr),j < i->g.ops[j]?=some o->Za7 o.name=true∧Za6 (Zbt (g.ops.take j)) o.name=false)∧(∀ o∈g.ops.take i,DeclsOk g.sorts o)) (fun i=>g.ops.length - i) (0) (⟨Taj _,fun j o h=>absurd h om,fun o h=>by simp at h⟩) (fun i hi=>?_);clear F
 obtain ⟨hil,hnm,hdc⟩:=hi;by_cases hlt:i < g.ops.length
 ·have q1:(i:Int) < (g.ops.length:Int):=om;obtain ⟨o,ho⟩:∃ o,g.ops[i]?=some o:=⟨_,Taa hlt⟩;have hom:=Tac ho;have hw:=Zap (k:=i) om;have hbad:¬ (Za7 o.name=true∧Za6 (Zbt (g.ops.take i)) o.name=false)->Zbw g=false:=fun h=>hno fun hs=>h (hs.names i o ho);have hbad2:Zca g.sorts o=false->Zbw g=false:=fun h=>hno fun hs=>by rw [ZeB (hs.decls o hom)] at h;cases h
  have cN:=ZfT (hg.2 o hom).1;have cD:=Zpr (g:=g) hs o;rw [ZaU,Zag] at cD;refine fB @q1 ?_;refine fC (ai @ho @Zae) (cN) ?_
  cases hn:Za7 o.name with
  | false =>
   have hf:=hbad fun h=>by rw [hn] at h;cases h.1
   refine fR @e0P ?_;exact fT @hf
  | true =>
  refine fC (ai @ho @Zae) (cD) ?_
  cases hd:Zca g.sorts o with
  | false =>
   have hf:=hbad2 hd;refine fR @e0P ?_;exact fT @hf
  | true =>
  refine fR @e0P ?_;refine fG @e0P ?_;have F:=@e0P;refine gL (ι:=Nat) [2,4,43,58] [] (fun k=>[(4,A.d (.one (.lit (.int .i64 k))))]) (fun k=>[]) (fun k=>k<=i∧Za6 (Zbt (g.ops.take k)) o.name=false) (fun k=>i - k) (0) (⟨Taj _,rfl⟩) (fun k hk=>?_);clear F;obtain ⟨hkl,hseen⟩:=hk;by_cases hlk:k < i
  ·have q2:(k:Int) < (i:Int):=om;obtain ⟨p,hp⟩:∃ o,g.ops[k]?=some o:=⟨_,Taa om⟩;have hw2:=Zap (k:=k) om;have hsn:=Zpp (Zbt (g.ops.take k)) p.name o.name;rw [hseen,Bool.false_or,Zra,<- Zif hp] at hsn
   cases hb:(p.name.toList==o.name.toList) with
   | true =>
    rw [hb] at hsn;have hbp:(p.name.toList==o.name.toList)=true:=hb;have hf:=hbad fun h=>by
     obtain ⟨m,hm⟩:∃ m,i=k+1+m:=⟨i - (k+1),om⟩;have h2:=h.2;rw [Zpt hm hsn] at h2
     cases h2
    exact fT (aj6 @q2 @ho @hp @Zae @hb @hf)
   | false =>
    rw [hb] at hsn;have F:=aj6 @q2 @ho @hp @Zae @hb @hw2;refine gG ?_;exact ⟨k+1,⟨hlk,hsn⟩,gw,gw,om⟩
  obtain rfl:k=i:=by omega
  have q2:=lF k k;have hq:k+1<=g.ops.length∧(∀ (j:Nat) (o:Opr),j < k+1->g.ops[j]?=some o->Za7 o.name=true∧Za6 (Zbt (g.ops.take j)) o.name=false)∧(∀ o∈g.ops.take (k+1),DeclsOk g.sorts o):=⟨hlt,fun j o' hj ho'=>by
   by_cases e:j=k
   ·subst e;rw [ho] at ho';injection ho' with ho'
    subst ho';exact ⟨hn,hseen⟩
   ·exact hnm j o' om ho',fun o' ho'=>by
   rw [Zcm ho] at ho';rcases Tbg.1 ho' with h | h
   ·exact hdc o' h
   ·rw [Tbi.1 h];exact Zjq.1 hd⟩
  have F:=ai @q2 @hw;refine gG ?_;exact ⟨k+1,hq,gw,gw,om⟩
 obtain rfl:i=g.ops.length:=by omega
 have q1:¬ ((g.ops.length:Int) < (g.ops.length:Int)):=om;rw [Tap] at hdc;have hnames:∀ (i:Nat) (o:Opr),g.ops[i]?=some o->Za7 o.name=true∧Za6 (Zbt (g.ops.take i)) o.name=false:=fun i o ho=>hnm i o (Tad.1 ho).1 ho;refine fG @q1 ?_;have F:=@e0P;refine gL (ι:=Nat) [2,5,63,69] [] (fun k=>[(5,A.d (.one (.lit (.int .i64 k))))]) (fun k=>[]) (fun k=>k<=g.ops.length∧∀ o∈g.ops.take k,AxOk g o) (fun k=>g.ops.length - k) (0) (⟨Taj _,fun o h=>by simp at h⟩) (fun k hk=>?_);clear F
 obtain ⟨hkl,hax⟩:=hk;by_cases hlk:k < g.ops.length;rotate_left
 ·obtain rfl:k=g.ops.length:=by omega
  rw [Tap] at hax;have q2:¬ ((g.ops.length:Int) < (g.ops.length:Int)):=om;have ht:=ZcX ⟨hs,h14,hnames,hdc,hax⟩;exact fT (ai @q2 @ht)
 have q2:(k:Int) < (g.ops.length:Int):=om;obtain ⟨o,ho⟩:∃ o,g.ops[k]?=some o:=⟨_,Taa hlk⟩;have hom:=Tac ho;have hw:=Zap (k:=k) om;have cA:=Zn9 hs hdc ho h14;rw [Zag] at cA;refine fB @q2 ?_;refine fC @e0P (cA) ?_
 cases ha:axOk g o with
 | false =>
  have hf:=hno fun h=>by rw [Zdl (h.axs o hom)] at ha;cases ha
  refine fR @e0P ?_;exact fT @hf
 | true =>
 have hq:k+1<=g.ops.length∧∀ o∈g.ops.take (k+1),AxOk g o:=⟨hlk,fun o' ho'=>by
  rw [Zcm ho] at ho';rcases Tbg.1 ho' with h | h
  ·exact hax o' h
  ·rw [Tbi.1 h];exact Zn2.1 ha⟩
 refine fR @e0P ?_;have F:=@hw;refine gG ?_;exact ⟨k+1,hq,gw,gw,om⟩
end
theorem ZdV (s:ByteArray):(s.toList==ByteArray.toList { data:=#[] })=decide (s=ByteArray.empty):=by
 rw [Bool.eq_iff_iff,beq_iff_eq,decide_eq_true_iff,ByteArray.toList_eq,ByteArray.toList_eq];constructor
 ·intro h
  cases s with
  | mk d =>
   have:d=#[]:=by apply Array.toList_inj.1;exact h
   rw [this];rfl
 ·rintro rfl;rfl
def encX (g:Sgn) (mc:C):List C:=[.sl ((ZbW (up g.sorts)).map Zat),.sl ((ZbW (down g.sorts)).map Zat),.sl ((ZbW (Zb0 g.sorts)).map Zat),.sl (g.sorts.names.map Zby),.sl (g.sorts.subs.map ZbM),.sl (g.ops.map ZaU),mc]
theorem ZcY:∀ (g:Sgn) (mc:C),encX g mc=[.sl ((ZbW (up g.sorts)).map Zat),.sl ((ZbW (down g.sorts)).map Zat),.sl ((ZbW (Zb0 g.sorts)).map Zat),.sl (g.sorts.names.map Zby),.sl (g.sorts.subs.map ZbM),.sl (g.ops.map ZaU),mc]:=fun _ _=>rfl
theorem Zvp {s:Srt} (h:SortsOk s):(up s).length=s.names.length:=(Zfr (SortsOk.subsIn h.subs)).1
theorem Zfc {s:Srt} (h:SortsOk s) {k:Int} (h0:0<=k) (h1:k < s.names.length):(ZbW (Zb0 s))[k.toNat]?=some ((kd s k:Nat):Int):=by
 have hk:=Zhi (SortsOk.subsIn h.subs);have hl:k.toNat < (Zb0 s).length:=by rw [hk.1];omega
 unfold ZbW kd;rw [Taz,Taa hl];simp [List.getD,Taa hl]
def Zcu (g:Sgn) (t:Tm):Prop:=t.op=-1∧Za7 t.name=true∧0<=t.sort∧t.sort < g.sorts.names.length∧t.args=[]
open Classical in
noncomputable def Zho (g:Sgn) (t:Tm):Bool:=decide (Zcu g t)
structure AppOk (g:Sgn) (t:Tm) (o:Opr) (d:Dcl):Prop where
 lo:0<=t.op
 at':g.ops[t.op.toNat]?=some o
 fst:o.decls[0]?=some d
 nm:t.name=ByteArray.empty
 so:t.sort=0
 asc:o.assoc=true->2<=t.args.length∧t.args.length<=7
 nas:o.assoc=false->t.args.length=d.args.length
def Zcp (g:Sgn) (t:Tm):Prop:=Zcu g t∨∃ o d,AppOk g t o d
def ZrU (g:Sgn) (op:Int):Int:=((g.ops[op.toNat]?.bind (·.decls[0]?)).map (·.res)).getD 0
def ZbD (g:Sgn) (t:Tm):Int:=if t.op=-1 then kd g.sorts t.sort else kd g.sorts (ZrU g t.op)
def argAt (o:Opr) (i:Nat):Nat:=if o.assoc=true then 0 else i
theorem ZfF:∀ (o:Opr) (i:Nat),argAt o i=if o.assoc=true then 0 else i:=fun _ _=>rfl
structure ArgOk (g:Sgn) (op:Int) (o:Opr) (d:Dcl) (args:List Tm) (i:Nat) (a:Tm):Prop where
 kind:∀ k,d.args[argAt o i]?=some k->ZbD g a=kd g.sorts k
 nest:o.assoc=true->a.op≠op
 unit:o.unit≠0->a.op≠o.unit - 1
 ord:o.comm=true->∀ (j:Nat) p,i=j+1->args[j]?=some p->Zah p a<=0
def Zi5 (g:Sgn) (op:Int) (args:List Tm):Prop:=∀ o d,g.ops[op.toNat]?=some o->o.decls[0]?=some d->∀ (i:Nat) a,args[i]?=some a->ArgOk g op o d args i a
mutual
def ZaD (g:Sgn):Tm->Prop
 | .mk op nm so args=>Zcp g (.mk op nm so args)∧ZcO g args∧(op=-1∨Zi5 g op args)
def ZcO (g:Sgn):List Tm->Prop
 | []=>True
 | t::ts=>ZaD g t∧ZcO g ts
end
theorem Zd7 {g:Sgn} {ts:List Tm}:ZcO g ts ↔ ∀ a∈ts,ZaD g a:=by
 induction ts with
 | nil=>simp [ZcO]
 | cons t ts ih=>simp [ZcO,ih]
theorem ZaI {g:Sgn} {t:Tm}:ZaD g t ↔ Zcp g t∧(∀ a∈t.args,ZaD g a)∧(t.op=-1∨Zi5 g t.op t.args):=by
 cases t
 simp only [ZaD,Zd7,Tm.args,Tm.op]
theorem ZaD.node {g:Sgn} {t:Tm} (h:ZaD g t):Zcp g t:=(ZaI.1 h).1
open Classical in
noncomputable def ZbR (g:Sgn) (t:Tm):Bool:=decide (ZaD g t)
theorem Ze5 {g:Sgn} {t:Tm} (h:ZaD g t):ZbR g t=true:=by simp [ZbR,h]
theorem Zii {g:Sgn} {t:Tm} (h:¬ ZaD g t):ZbR g t=false:=by simp [ZbR,h]
theorem ZkR {g:Sgn} {t:Tm}:ZbR g t=true ↔ ZaD g t:=by simp [ZbR]
theorem SgnOk.first {g:Sgn} (h:SgnOk g) {i:Nat} {o:Opr} (ho:g.ops[i]?=some o):∃ d,o.decls[0]?=some d∧(0:Int)<=d.res∧d.res < (g.sorts.names.length:Int)∧∀ k:Int,k∈d.args->0<=k∧k < (g.sorts.names.length:Int):=by
 have hm:=Tac ho;obtain ⟨d,hd,hD⟩:=(h.decls o hm).first;exact ⟨d,hd,hD.res.1,hD.res.2,hD.args⟩
theorem Zhp {g:Sgn} {op:Int} {o:Opr} {d:Dcl} (ho:g.ops[op.toNat]?=some o) (hd:o.decls[0]?=some d):ZrU g op=d.res:=by simp [ZrU,ho,hd]
theorem AppOk.op {g:Sgn} {t:Tm} {o:Opr} {d:Dcl} (h:AppOk g t o d):t.op≠-1:=by have:=h.lo;omega
section
variable {g:Sgn} {mc:C}
theorem ZzB (hg:SgnOk g) (k:Int):Con e0 129 [.agg [.sl ((ZbW (up g.sorts)).map Zat),.sl ((ZbW (down g.sorts)).map Zat),.sl ((ZbW (Zb0 g.sorts)).map Zat)],.one (.lit (.int .i64 k))] [.one (.lit (.bool (decide (0<=k∧k < g.sorts.names.length))))]:=by
 have hl:=Zvp hg.sorts;refine gI 23 Tryz.func129 ?_;by_cases h0:0<=k
 ·have e:decide (0<=k∧k < (g.sorts.names.length:Int))=decide (k < (g.sorts.names.length:Int)):=by simp [h0]
  rw [e];exact fT (aj3 @h0 @Zmc @hl)
 ·have e:decide (0<=k∧k < (g.sorts.names.length:Int))=false:=by simp [h0]
  rw [e];exact fT @h0
theorem ZrV (hg:SgnOk g) {t:Tm} (ht:Zcp g t):Con e0 119 [.one (.ptr (encX g mc)),.agg (Zab t)] [.one (.lit (.int .i64 (ZbD g t)))]:=by
 refine gI 155 Tryz.func119 ?_;rcases ht with ⟨h1,h2,h3,h4,h5⟩ | ⟨o,d,h⟩
 ·have hn:(-1:Int) < 0:=om;have hk:=Zfc hg.sorts h3 h4;have e:ZbD g t=kd g.sorts t.sort:=by simp [ZbD,h1]
  exact fT (aj8 @tmz @h1 @hn @ZcY @h3 @hk @Zao @e)
 ·have hn:¬ (t.op < 0):=by have:=h.lo;omega
  obtain ⟨d',hd',hr0,hr1,_⟩:=hg.first h.at';rw [h.fst] at hd';injection hd' with hd'
  subst hd';have hk:=Zfc hg.sorts hr0 hr1;have e:ZbD g t=kd g.sorts d.res:=by simp [ZbD,h.op,Zhp h.at' h.fst]
  have hlo:=h.lo;have hat:=h.at';have hfst:=h.fst;exact fT (aj12 @tmz @hn @ZcY @hlo @hat @Zae @hfst @ZaG @hr0 @hk @Zao @e)
theorem Zpu (hg:SgnOk g) {op:Int} {i:Nat} {o:Opr} {d:Dcl} {k:Int} (h0:0<=op) (ho:g.ops[op.toNat]?=some o) (hd:o.decls[0]?=some d) (hk:d.args[argAt o i]?=some k):Con e0 120 [.one (.ptr (encX g mc)),.one (.lit (.int .i64 op)),.one (.lit (.int .i64 i))] [.one (.lit (.int .i64 (kd g.sorts k)))]:=by
 obtain ⟨d',hd',_,_,hk0⟩:=hg.first ho;rw [hd] at hd';injection hd' with hd'
 subst hd';obtain ⟨k0,k1⟩:=hk0 k (Tac hk);have hkd:=Zfc hg.sorts k0 k1;refine gI 131271 Tryz.func120 ?_;unfold argAt at hk
 cases ha:o.assoc with
 | true =>
  rw [ha] at hk;simp only [↓reduceIte] at hk;exact fT (aj11 @ZcY @h0 @ho @Zae @ha @hd @ZaG @hk @k0 @hkd @Zao)
 | false =>
  rw [ha] at hk;simp only [Tam,↓reduceIte] at hk;exact fT (aj11 @ZcY @h0 @ho @Zae @ha @hd @ZaG @hk @k0 @hkd @Zao)
theorem ZrW (hg:SgnOk g) {op:Int} {o:Opr} (h0:0<=op) (ho:g.ops[op.toNat]?=some o) (t:Tm):Con e0 121 [.one (.ptr (encX g mc)),.one (.lit (.int .i64 op)),.agg (Zab t)] [.one (.lit (.bool (decide (o.unit≠0∧t.op=o.unit - 1))))]:=by
 have hax:=hg.axs o (Tac ho);have hlo:=hax.lo;have hhi:=hax.hi;have hln:=hg.len;have hw:IntKind.i64.wrap (o.unit - 1)=o.unit - 1:=Za2 rfl om om;refine gI 103 Tryz.func121 ?_;by_cases hu:o.unit=0
 ·have e:decide (o.unit≠0∧t.op=o.unit - 1)=false:=by simp [hu]
  rw [e];exact fT (aj6 @ZcY @tmz @h0 @ho @Zae @hu)
 ·have e:decide (o.unit≠0∧t.op=o.unit - 1)=decide (t.op=o.unit - 1):=by simp [hu]
  rw [e];exact fT (aj7 @ZcY @tmz @h0 @ho @Zae @hu @hw)
theorem ZlK (hg:SgnOk g) {t:Tm} (hs:t.name.size<=maxLen):Con e0 118 [.one (.ptr (encX g mc)),.agg (Zab t)] [.one (.lit (.bool (Zho g t)))]:=by
 have hno:¬ Zcu g t->Zho g t=false:=fun h=>by simp [Zho,h]
 refine gI 27 Tryz.func118 ?_;refine fG @tmz ?_;by_cases h1:t.op=-1;rotate_left
 ·have hf:=hno fun h=>h1 h.1;exact fT (aj3 @tmz @h1 @hf)
 refine gB ?_;refine fC (ai @tmz @h1) (ZfS hs) ?_;by_cases h2:Za7 t.name=true;rotate_left
 ·have hf:=hno fun h=>h2 h.2.1;have h2':Za7 t.name=false:=by simpa using h2
  refine fR (ai @tmz @h2') ?_;exact fT (ai @tmz @hf)
 refine fC (aj3 @tmz @h2 @ZcY) (ZzB hg t.sort) ?_;by_cases h3:0<=t.sort∧t.sort < g.sorts.names.length;rotate_left
 ·have hf:=hno fun h=>h3 ⟨h.2.2.1,h.2.2.2.1⟩;have h3':decide (0<=t.sort∧t.sort < (g.sorts.names.length:Int))=false:=by simp only [decide_eq_false_iff_not];exact h3
  refine fR (ai @tmz @h3') ?_;exact fT (ai @tmz @hf)
 have h3':decide (0<=t.sort∧t.sort < (g.sorts.names.length:Int))=true:=by simp only [decide_eq_true_eq];exact h3
 by_cases h4:t.args=[]
 ·have hT:Zho g t=true:=by simp only [Zho,decide_eq_true_eq];exact ⟨h1,h2,h3.1,h3.2,h4⟩
  refine fR (aj3 @tmz @h3' @h4) ?_;exact fT (ai @tmz @hT)
 ·have hf:=hno fun h=>h4 h.2.2.2.2;have h4':¬ ((t.args.length:Int)=0):=by
   intro h;apply h4;apply Tao;omega
  refine fR (aj3 @tmz @h3' @h4') ?_;exact fT (ai @tmz @hf)
end
theorem ZeP {t:Tm}:okTm t ↔ I64 t.op∧t.name.size<=maxLen∧I64 t.sort∧Zaw t.args:=by cases t;simp only [okTm,Tm.op,Tm.name,Tm.sort,Tm.args]
theorem ZaO (t:Tm):sizeTm t=1+sizeTms t.args:=by cases t;simp only [sizeTm,Tm.args]
theorem ZcZ (t:Tm):depthTm t=1+depthTms t.args:=by cases t;simp only [depthTm,Tm.args]
theorem ZrX {g:Sgn} {t:Tm} (h:t.op=-1):ZbR g t=Zho g t:=by
 unfold ZbR Zho;congr 1;rw [ZaI];apply propext;constructor
 ·rintro ⟨h1 | ⟨o,d,h1⟩,_⟩
  ·exact h1
  ·have:=h1.lo;omega
 ·intro h1;exact ⟨.inl h1,fun a ha=>(by rw [h1.2.2.2.2] at ha;cases ha),.inl h⟩
theorem Zcp.app {g:Sgn} {t:Tm} (h:Zcp g t) (hop:t.op≠-1):∃ o d,AppOk g t o d:=by
 rcases h with h | h
 ·exact absurd h.1 hop
 ·exact h
theorem Zgj {g:Sgn} (hg:SgnOk g) {i:Nat} {o:Opr} {d:Dcl} {n j:Nat} (ho:g.ops[i]?=some o) (hd:o.decls[0]?=some d) (nas:o.assoc=false->n=d.args.length) (hj:j < n):∃ k,d.args[argAt o j]?=some k:=by
 unfold argAt
 cases ha:o.assoc with
 | true =>
  have h2:=((hg.axs o (Tac ho)).two (.inl ha) d hd).1;exact ⟨_,Taa (by simp only [↓reduceIte];omega)⟩
 | false=>exact ⟨_,Taa (by simp only [Tam,↓reduceIte];have:=nas ha;omega)⟩
section
variable {g:Sgn} {mc:C}
theorem Zj1 (hg:SgnOk g):∀ (n:Nat) (t:Tm),sizeTm t < n->okTm t->sizeTm t<=big->Con e0 103 [.one (.ptr (encX g mc)),.agg (Zab t)] [.one (.lit (.bool (ZbR g t)))]:=by
 intro n
 induction n with
 | zero=>intro t h;omega
 | succ n ih =>
  intro t hn hok hb;have hno:¬ ZaD g t->ZbR g t=false:=Zii;obtain ⟨k1,k2,k3,k4⟩:=ZeP.1 hok;have hsz:=ZaO t;have hal:=Zbv t.args;unfold big at hb;refine gI 43556142965880125627826793391928073259515 Tryz.func103 ?_;by_cases h1:t.op=-1
  ·have e:=ZrX (g:=g) h1;rw [e];refine fB (ai @tmz @h1) ?_;refine fC (ai @tmz @h1) (ZlK hg k2) ?_;refine fR @tmz ?_;exact fT @tmz
  by_cases h2:t.op < 0
  ·have hf:=hno fun h=>by
    obtain ⟨o,d,h⟩:=h.node.app h1;have:=h.lo;omega
   exact fT (aj4 @tmz @h1 @h2 @hf)
  by_cases h3:(g.ops.length:Int)<=t.op
  ·have hf:=hno fun h=>by
    obtain ⟨o,d,h⟩:=h.node.app h1;have:=(Tad.1 h.at').1;omega
   exact fT (aj6 @tmz @h1 @h2 @h3 @ZcY @hf)
  by_cases h4:t.name=ByteArray.empty;rotate_left
  ·have hf:=hno fun h=>by
    obtain ⟨o,d,h⟩:=h.node.app h1;exact h4 h.nm
   exact fT (aj8 @tmz @h1 @h2 @h3 @ZcY @ZdV @h4 @hf)
  by_cases h5:t.sort=0;rotate_left
  ·have hf:=hno fun h=>by
    obtain ⟨o,d,h⟩:=h.node.app h1;exact h5 h.so
   exact fT (aj9 @tmz @h1 @h2 @h3 @ZcY @ZdV @h4 @h5 @hf)
  have h0:0<=t.op:=om;obtain ⟨o,ho⟩:∃ o,g.ops[t.op.toNat]?=some o:=⟨_,Taa om⟩;obtain ⟨d,hd,hr0,hr1,hargs⟩:=hg.first ho;have hgt:ZaD g t->AppOk g t o d:=fun h=>by
   obtain ⟨o',d',h⟩:=h.node.app h1;have e1:=h.at';rw [ho] at e1;injection e1 with e1
   subst e1;have e2:=h.fst;rw [hd] at e2;injection e2 with e2
   subst e2;exact h
  by_cases hW:(o.assoc=true->2<=t.args.length∧t.args.length<=7)∧(o.assoc=false->t.args.length=d.args.length);rotate_left
  ·have hf:=hno fun h=>hW ⟨(hgt h).asc,(hgt h).nas⟩
   cases ha:o.assoc with
   | true =>
    by_cases c1:t.args.length < 2
    ·have c1':(t.args.length:Int) < 2:=om;exact fT (aj14 @tmz @h1 @h2 @h3 @ZcY @ZdV @h4 @h5 @h0 @ho @Zae @ha @c1' @hf)
    ·have c1':¬ ((t.args.length:Int) < 2):=om;have c2:(7:Int) < (t.args.length:Int):=by
      by_cases c2:t.args.length<=7
      ·exact absurd ⟨fun _=>⟨om,c2⟩,fun h=>by rw [ha] at h;cases h⟩ hW
      ·omega
     exact fT (aj15 @tmz @h1 @h2 @h3 @ZcY @ZdV @h4 @h5 @h0 @ho @Zae @ha @c1' @c2 @hf)
   | false =>
    have c3:¬ ((t.args.length:Int)=(d.args.length:Int)):=fun c=>hW ⟨fun h=>(by rw [ha] at h;cases h),fun _=>om⟩;exact fT (aj16 @tmz @h1 @h2 @h3 @ZcY @ZdV @h4 @h5 @h0 @ho @Zae @ha @hd @ZaG @c3 @hf)
  have hA:AppOk g t o d:=⟨h0,ho,hd,h4,h5,hW.1,hW.2⟩;refine fG (aj11 @tmz @h1 @h2 @h3 @ZcY @ZdV @h4 @h5 @h0 @ho @Zae) ?_;refine gM (ι:=Unit) [75] [] (fun u=>[(75,A.d (.one (.lit (.bool false))))]) (fun u=>[]) (fun u=>True) ?_ (fun u hu=>Exists.intro _ (ai (Wk.refl _) ?_))
  ·cases ha:o.assoc with
   | true =>
    have c:=hW.1 ha;have c1':¬ ((t.args.length:Int) < 2):=om;have c2:¬ ((7:Int) < (t.args.length:Int)):=om;have F:=aj5 @tmz @Zae @ha @c1' @c2;refine gG ?_;exact ⟨(),trivial,gw,gw⟩
   | false =>
    have c3:((t.args.length:Int)=(d.args.length:Int)):=by have:=hW.2 ha;omega
    have F:=aj6 @tmz @Zae @ha @hd @ZaG @c3;refine gG ?_;exact ⟨(),trivial,gw,gw⟩
  refine fG @tmz ?_;have F:=@e0P;refine gL (ι:=Nat) [4,7,8,79,80,135] [] (fun i=>[(79,A.d (.one (.lit (.int .i64 i))))]) (fun i=>[]) (fun i=>i<=t.args.length∧∀ (j:Nat) a,j < i->t.args[j]?=some a->ZaD g a∧ArgOk g t.op o d t.args j a) (fun i=>t.args.length - i) (0) (⟨om,fun j a h=>absurd h om⟩) (fun i hi=>?_);clear F;obtain ⟨hil,hall⟩:=hi;by_cases hl:i < t.args.length;rotate_left
  ·have hl':¬ ((i:Int) < (t.args.length:Int)):=om;have hT:=Ze5 (ZaI.2 ⟨.inr ⟨o,d,hA⟩,fun a ha=>by
     obtain ⟨j,hj⟩:=Tbj ha;exact (hall j a (by have:=(Tad.1 hj).1;omega) hj).1,.inr fun o' d' ho' hd' j a hj=>by
     rw [ho] at ho';injection ho' with ho'
     subst ho';rw [hd] at hd';injection hd' with hd'
     subst hd';exact (hall j a (by have:=(Tad.1 hj).1;omega) hj).2⟩)
   exact fT (ai @hl' @hT)
  have hl':(i:Int) < (t.args.length:Int):=om;obtain ⟨a,ha⟩:∃ a,t.args[i]?=some a:=⟨_,Taa hl⟩;have hm:=Tac ha;have hsa:=ZaX hm;have hw1:=Zap (k:=i) om;have hnoA:¬ ArgOk g t.op o d t.args i a->ZbR g t=false:=fun h=>hno fun hF=>by
   obtain ⟨_,_,h3⟩:=ZaI.1 hF;rcases h3 with h3 | h3
   ·exact h1 h3
   ·exact h (h3 o d ho hd i a ha)
  obtain ⟨k,hk⟩:=Zgj hg ho hd hA.nas hl;refine fB (aj3 @hl' @tmz @ha) ?_;refine fC @tmz (ih a om (k4.mem hm) (by unfold big;omega)) ?_;by_cases hfa:ZbR g a=true;rotate_left
  ·have hf:=hno fun h=>hfa (Ze5 ((ZaI.1 h).2.1 a hm));have hfa':ZbR g a=false:=by simpa using hfa
   refine fR (ai @tmz @hfa') ?_;exact fT @hf
  have hFa:=ZkR.1 hfa;refine fC (ai @tmz @hfa) (ZrV hg hFa.node) ?_;refine fC @tmz (Zpu hg h0 ho hd hk) ?_;by_cases hkd:ZbD g a=((kd g.sorts k:Nat):Int);rotate_left
  ·have hf:=hnoA fun h=>hkd (h.kind k hk);refine fR (ai @tmz @hkd) ?_;exact fT @hf
  by_cases hN:o.assoc=true∧a.op=t.op
  ·have hf:=hnoA fun h=>h.nest hN.1 hN.2;obtain ⟨hN1,hN2⟩:=hN;refine fR (aj5 @tmz @hkd @Zae @hN1 @hN2) ?_;exact fT @hf
  have hne:o.assoc=true->¬ a.op=t.op:=fun h1 h2=>hN ⟨h1,h2⟩;have cU:=ZrW (mc:=mc) hg h0 ho a;generalize hU:decide (o.unit≠0∧a.op=o.unit - 1)=U at cU;have hnext:(U=false)->(o.comm=true->∀ (j:Nat) p,i=j+1->t.args[j]?=some p->Zah p a<=0)->i+1<=t.args.length∧∀ (j:Nat) a,j < i+1->t.args[j]?=some a->ZaD g a∧ArgOk g t.op o d t.args j a:=fun hU' hc=>⟨om,fun j a' hj ha'=>by
   by_cases e:j=i
   ·subst e;rw [ha] at ha';injection ha' with ha'
    subst ha';refine ⟨hFa,fun k' hk'=>?_,fun h1 h2=>hN ⟨h1,h2⟩,fun h1 h2=>?_,hc⟩
    ·rw [hk] at hk';injection hk' with hk'
     subst hk';exact hkd
    ·rw [hU'] at hU;simp only [decide_eq_false_iff_not] at hU;exact hU ⟨h1,h2⟩
   ·exact hall j a' om ha'⟩
  rcases Bool.eq_false_or_eq_true o.assoc with hac | hac
  all_goals (
   refine fC (aj5 @tmz @hkd @Zae @hac @hne) (cU) ?_;rcases Bool.eq_false_or_eq_true U with hu | hu
   ·have hf:=hnoA fun h=>by
     rw [hu] at hU;simp only [decide_eq_true_eq] at hU;exact h.unit hU.1 hU.2
    refine fR (ai @tmz @hu) ?_;exact fT @hf
   rcases Bool.eq_false_or_eq_true o.comm with hcm | hcm
   rotate_left
   ·have hq:=hnext hu (fun h=>by rw [hcm] at h;cases h);refine fR (aj4 @tmz @hu @Zae @hcm) ?_;have F:=aj5 @hw1 @tmz @Zae @hcm @hac;refine gG ?_;exact ⟨i+1,hq,gw,gw,om⟩
   rcases Nat.eq_zero_or_pos i with hi0 | hi0
   ·have hq:=hnext hu (fun _ j p h=>om);have hi0':¬ ((0:Int) < (i:Int)):=om;refine fR (aj5 @tmz @hu @Zae @hcm @hi0') ?_;have F:=aj5 @hw1 @tmz @Zae @hcm @hac;refine gG ?_;exact ⟨i+1,hq,gw,gw,om⟩
   obtain ⟨j,rfl⟩:∃ j,i=j+1:=⟨i - 1,om⟩;obtain ⟨p,hp⟩:∃ p,t.args[j]?=some p:=⟨_,Taa om⟩;have cC:=Zpl (k4.mem (Tac hp)) (k4.mem hm);have hgt0:(0:Int) < ((j+1:Nat):Int):=om;have hsub:IntKind.i64.wrap (((j+1:Nat):Int) - 1)=(j:Int):=Za2 om om om;refine fC (aj7 @tmz @hu @Zae @hcm @hgt0 @hsub @hp) (cC) ?_;by_cases hc:0 < Zah p a
   ·have hf:=hnoA fun h=>by have:=h.ord hcm j p rfl hp;omega
    refine fR (ai @tmz @hc) ?_;exact fT @hf
   ·have hq:=hnext hu (fun _ j' p' h hp'=>by
     have:j'=j:=om;subst this;rw [hp] at hp';injection hp' with hp'
     subst hp';omega)
    refine fR (ai @tmz @hc) ?_
    (have F:=aj5 @hw1 @tmz @Zae @hcm @hac;refine gG ?_;exact ⟨j+1+1,hq,gw,gw,om⟩))
theorem Zod (hg:SgnOk g) {t:Tm} (hok:okTm t) (hb:sizeTm t<=big):Con e0 103 [.one (.ptr (encX g mc)),.agg (Zab t)] [.one (.lit (.bool (ZbR g t)))]:=Zj1 hg _ t (Tan _) hok hb
structure TermOk (g:Sgn) (t:Tm):Prop where
 size:sizeTm t<=60
 depth:depthTm t<=20
 form:ZaD g t
open Classical in
noncomputable def Zbs (g:Sgn) (t:Tm):Bool:=decide (TermOk g t)
theorem ZgE {g:Sgn} {t:Tm} (h:TermOk g t):Zbs g t=true:=by simp [Zbs,h]
theorem Zij {g:Sgn} {t:Tm} (h:¬ TermOk g t):Zbs g t=false:=by simp [Zbs,h]
theorem Zc0 {g:Sgn} {t:Tm}:Zbs g t=true ↔ TermOk g t:=by simp [Zbs]
theorem Zjv {g:Sgn} {t:Tm} (h1:sizeTm t<=60) (h2:depthTm t<=20):ZbR g t=Zbs g t:=by
 unfold ZbR Zbs;congr 1;exact propext ⟨fun h=>⟨h1,h2,h⟩,fun h=>h.form⟩
theorem Zpv (hg:SgnOk g) {t:Tm} (hok:okTm t) (hb:sizeTm t<=big):Con e0 64 [.one (.ptr (encX g mc)),.agg (Zab t)] [.one (.lit (.bool (Zbs g t)))]:=by
 have hno:¬ TermOk g t->Zbs g t=false:=Zij;refine gI 27 Tryz.func64 ?_;refine fB @tmz ?_;refine fC @tmz (Zoc hb) ?_;by_cases h1:sizeTm t<=60;rotate_left
 ·have h1':¬ ((sizeTm t:Int)<=60):=om;have hf:=hno fun h=>h1 h.size;refine fR (ai @tmz @h1') ?_;exact fT @hf
 have h1':((sizeTm t:Int)<=60):=om;refine fC (ai @tmz @h1') (Zm1 hb) ?_;by_cases h2:depthTm t<=20;rotate_left
 ·have h2':¬ ((depthTm t:Int)<=20):=om;have hf:=hno fun h=>h2 h.depth;refine fR (ai @tmz @h2') ?_;exact fT @hf
 have h2':((depthTm t:Int)<=20):=om;refine fC (ai @tmz @h2') (Zod hg hok hb) ?_;have e:=Zjv (g:=g) h1 h2;refine fR @tmz ?_;exact fT @e
end
mutual
theorem ZdW:∀ {a b:Tm},Zah a b=0->a=b
 | .mk o n s x,.mk o' n' s' x',h=>by
  simp only [Zah,ZaJ] at h;split at h
  ·rename_i h1;split at h
   ·rename_i h2;split at h
    ·rename_i h3;split at h
     ·rename_i h4;rw [ZcE.1 h1,Ze0.1 h2,ZcE.1 h3,Zjw h4]
     ·contradiction
    ·contradiction
   ·contradiction
  ·contradiction
theorem Zjw:∀ {a b:List Tm},ZaF a b=0->a=b
 | [],[],_=>rfl
 | [],_::_,h=>by simp [ZaF] at h
 | _::_,[],h=>by simp [ZaF] at h
 | x::xs,y::ys,h=>by
  simp only [ZaF,ZaJ] at h;split at h
  ·rename_i h1;split at h
   ·rename_i h2;rw [ZdW h1,Zjw h2]
   ·contradiction
  ·contradiction
end
mutual
theorem Zb9:∀ (a:Tm),Zah a a=0
 | .mk o n s x=>by simp only [Zah,ZaJ,ZcE.2 (rfl:o=o),ZcE.2 (rfl:s=s),Ze0.2 (rfl:n=n),Zjx x,if_true]
theorem Zjx:∀ (a:List Tm),ZaF a a=0
 | []=>rfl
 | x::xs=>by simp only [ZaF,ZaJ,Zb9 x,Zjx xs,if_true]
end
theorem Zc1 {a b:Tm}:Zah a b=0 ↔ a=b:=⟨ZdW,fun h=>h ▸ Zb9 a⟩
theorem ZdX {a b:Tm} (ha:okTm a) (hb:okTm b):Con e0 79 [.agg (Zab a),.agg (Zab b)] [.one (.lit (.bool (decide (Zah a b=0))))]:=by
 refine gI 31 Tryz.func79 ?_;refine fB @tmz ?_;refine fC @tmz (Zdw ha hb) ?_;refine fR @tmz ?_;exact fT @tmz
section
variable {g:Sgn}
theorem ZlL (hok:ZbJ g) (hg:¬ SgnOk g):Con e0 63 [.agg (Zag g)] [.one (.lit (.pointer none)),.one (.lit (.bool false))]:=by
 have hs:Zbw g=false:=Ze1 hg;have c:=ZgC hok;rw [hs,Zag] at c;refine gI 287 Tryz.func63 ?_;refine fB @Zbj ?_;refine fC @Zbj (c) ?_;refine fR @Zbj ?_;exact fT @Zbj
def algR (g:Sgn) (r:List D):Prop:=∃ b:Nat,r=[.one (.ptr (encX g (.lit (.map (some b))))),.one (.lit (.bool true))]
theorem Zpw (hok:ZbJ g) (hg:SgnOk g):ConE e0 63 [.agg (Zag g)] (algR g):=by
 have hs:Zbw g=true:=ZcX hg;have c:=ZgC hok;rw [hs,Zag] at c;have c2:=Zih hok.1 hg.sorts;rw [Za3,ZdK] at c2;refine gIE 287 Tryz.func63 ?_;refine fB @Zbj ?_;refine fC @Zbj (c) ?_;refine fR @Zbj ?_;refine fB @Zbj ?_;refine fC @Zbj (c2) ?_;refine fR @Zbj ?_;refine fB @Zbj ?_;refine ZwU (by simp only [pz,↓reduceIte,Nat.reduceEqDiff,Nat.reduceAdd,Nat.reduceSub,Nat.reduceMul,Nat.reduceLeDiff,Nat.reduceBEq,Tam,decide_true,decide_false,Int.reduceLE,Int.reduceToNat,Int.reduceLT,Int.reduceEq,eq_self,Nat.reduceShiftRight,Nat.reduceAnd,Nat.reduceBneDiff,ZsN];exact rfl) fun b=>?_
 refine fR @ZiW ?_;refine Zep (Zy4 [19] _ ⟨b,rfl⟩ (by exact snv) ?_);simp [Zcb,resA,Zbd,gs,encX,nR]
theorem Zhq (hok:ZbJ g) (hg:SgnOk g) {t:Tm} (ht:Zcp g t):Con e0 61 [.agg (Zag g),.agg (Zab t)] [.one (.lit (.int .i64 (ZbD g t)))]:=by
 have c2:=Zdx hg.sorts;rw [Za3] at c2;refine gI 2111 Tryz.func61 ?_;refine fB (ai @tmz @Zbj) ?_;refine fC @Zbj (c2) ?_;refine fR @Zbj ?_;rcases ht with ⟨h1,h2,h3,h4,h5⟩ | ⟨o,d,h⟩
 ·have hk:=Zfc hg.sorts h3 h4;have e:ZbD g t=kd g.sorts t.sort:=by simp [ZbD,h1]
  exact fT (aj6 @tmz @h1 @h3 @hk @Zao @e)
 ·have hn:=h.op;obtain ⟨d',hd',hr0,hr1,_⟩:=hg.first h.at';rw [h.fst] at hd';injection hd' with hd'
  subst hd';have hk:=Zfc hg.sorts hr0 hr1;have e:ZbD g t=kd g.sorts d.res:=by simp [ZbD,h.op,Zhp h.at' h.fst]
  have hlo:=h.lo;have hat:=h.at';have hfst:=h.fst;exact fT (aj11 @tmz @hn @hlo @hat @Zae @hfst @ZaG @hr0 @hk @Zao @e)
def ZaE (o:Opr):Tm:=.mk (if o.unit=0 then 0 else o.unit - 1) .empty 0 []
theorem ZkS (hg:SgnOk g) {op:Int} {o:Opr} (h0:0<=op) (ho:g.ops[op.toNat]?=some o):Con e0 89 [.agg (Zag g),.one (.lit (.int .i64 op))] [.agg (Zab (ZaE o)),.one (.lit (.bool (!decide (o.unit=0))))]:=by
 have hax:=hg.axs o (Tac ho);have hlo:=hax.lo;have hhi:=hax.hi;have hln:=hg.len;have hw:IntKind.i64.wrap (o.unit - 1)=o.unit - 1:=Za2 rfl om om;refine gI 4151 Tryz.func89 ?_;by_cases hu:o.unit=0
 ·refine fG (aj5 @Zbj @h0 @ho @Zae @hu) ?_;refine Zep (Zkw ?_);simp [Zcb,resA,Zbd,gs,hu,ZaE,Zab,Zaa,gm,ptrA,varA,e0P,pz,tt_0,tt_1]
 ·refine fG (aj6 @Zbj @h0 @ho @Zae @hu @hw) ?_;refine Zep (Zkw ?_);simp [Zcb,resA,Zbd,gs,hu,ZaE,Zab,Zaa,gm,ptrA,varA,e0P,pz]
end
def Tri (a b c:Int):Prop:=((a<=0->b<=0->c<=0)∧(a < 0->b<=0->c < 0)∧(a<=0->b < 0->c < 0))∧((0<=a->0<=b->0<=c)∧(0 < a->0<=b->0 < c)∧(0<=a->0 < b->0 < c))
theorem ZkT (p q:Int):ZaJ [p,q]=if p=0 then q else p:=by
 simp only [ZaJ];split
 ·split <;> simp_all
 ·rfl
theorem Zvq (p q r s:Int):ZaJ [p,q,r,s]=ZaJ [p,ZaJ [q,ZaJ [r,s]]]:=by
 simp only [ZkT,ZaJ];by_cases h1:p=0 <;> by_cases h2:q=0 <;> by_cases h3:r=0 <;> by_cases h4:s=0 <;> simp [h1,h2,h3,h4]
theorem Tri.lex {a b c a' b' c':Int} (h:Tri a b c) (h':Tri a' b' c'):Tri (ZaJ [a,a']) (ZaJ [b,b']) (ZaJ [c,c']):=by
 simp only [ZkT];unfold Tri at *;by_cases h1:a=0
 ·by_cases h2:b=0
  ·by_cases h3:c=0
   ·simp only [h1,h2,h3,if_true];exact h'
   ·omega
  ·by_cases h3:c=0
   ·omega
   ·simp only [h1,h2,h3,if_true,if_false];omega
 ·by_cases h2:b=0
  ·by_cases h3:c=0
   ·omega
   ·simp only [h1,h2,h3,if_true,if_false];omega
  ·by_cases h3:c=0
   ·simp only [h1,h2,h3,if_true,if_false];omega
   ·simp only [h1,h2,h3,if_false];omega
theorem Zd8 (p q:Int):ZaJ [-p,-q]=-ZaJ [p,q]:=by
 simp only [ZkT];by_cases h:p=0
 ·simp [h]
 ·have:¬ -p=0:=om;simp [h,this]
theorem Zhr (a b c:Int):Tri (ZaN a b) (ZaN b c) (ZaN a c):=by
 unfold Tri ZaN;by_cases h1:a < b <;> by_cases h2:b < c <;> by_cases h3:a < c <;> by_cases h4:b < a <;> by_cases h5:c < b <;> by_cases h6:c < a <;> simp only [h1,h2,h3,h4,h5,h6,if_true,if_false] <;> omega
theorem Zhs (a b:Int):ZaN b a=-ZaN a b:=by
 unfold ZaN;by_cases h1:a < b <;> by_cases h2:b < a <;> simp only [h1,h2,if_true,if_false] <;> omega
theorem ZgF (x y:UInt8) (xs ys:List UInt8):Lib.compareBytes (x::xs) (y::ys)=ZaJ [ZaN x.toNat y.toNat,Lib.compareBytes xs ys]:=by
 rw [ZkT];simp only [Lib.compareBytes,ZaN,UInt8.lt_iff_toNat_lt];by_cases h1:x.toNat < y.toNat
 ·have:((x.toNat:Int) < y.toNat):=om;simp [h1,this]
 ·have h1':¬ ((x.toNat:Int) < y.toNat):=om;by_cases h2:y.toNat < x.toNat
  ·have:((y.toNat:Int) < x.toNat):=om;simp [h1,h2,h1',this]
  ·have:¬ ((y.toNat:Int) < x.toNat):=om;simp [h1,h2,h1',this]
theorem Zmm:∀ (a b c:List UInt8),Tri (Lib.compareBytes a b) (Lib.compareBytes b c) (Lib.compareBytes a c)
 | [],[],[]=>by simp [Lib.compareBytes,Tri]
 | [],[],_::_=>by simp [Lib.compareBytes,Tri]
 | [],_::_,[]=>by simp [Lib.compareBytes,Tri]
 | [],y::ys,z::zs=>by
  have:Lib.compareBytes [] (y::ys)=-1:=rfl;have h2:Lib.compareBytes [] (z::zs)=-1:=rfl;rw [this,h2];unfold Tri;omega
 | _::_,[],[]=>by simp [Lib.compareBytes,Tri]
 | x::xs,[],z::zs=>by
  have:Lib.compareBytes (x::xs) []=1:=rfl;have h2:Lib.compareBytes [] (z::zs)=-1:=rfl;rw [this,h2];unfold Tri;omega
 | x::xs,y::ys,[]=>by
  have:Lib.compareBytes (x::xs) []=1:=rfl;have h2:Lib.compareBytes (y::ys) []=1:=rfl;rw [this,h2];unfold Tri;omega
 | x::xs,y::ys,z::zs=>by
  simp only [ZgF];exact (Zhr _ _ _).lex (Zmm xs ys zs)
theorem Zmn:∀ (a b:List UInt8),Lib.compareBytes b a=-Lib.compareBytes a b
 | [],[]=>rfl
 | [],_::_=>rfl
 | _::_,[]=>rfl
 | x::xs,y::ys=>by rw [ZgF,ZgF,Zhs,Zmn xs ys,Zd8]
mutual
theorem Zcq:∀ (a b:Tm),Zah b a=-Zah a b
 | .mk o n s a,.mk o' n' s' a'=>by
  simp only [Zah,Zvq];rw [Zhs o o',Zhs s s',ZkU a a',show ZbZ n' n=-ZbZ n n' from Zmn _ _,Zd8,Zd8,Zd8]
theorem ZkU:∀ (a b:List Tm),ZaF b a=-ZaF a b
 | [],[]=>by simp [ZaF]
 | [],_::_=>by simp [ZaF]
 | _::_,[]=>by simp [ZaF]
 | x::xs,y::ys=>by
  simp only [ZaF];rw [Zcq x y,ZkU xs ys,Zd8]
end
mutual
theorem Zik:∀ (a b c:Tm),Tri (Zah a b) (Zah b c) (Zah a c)
 | .mk o n s a,.mk o' n' s' a',.mk o'' n'' s'' a''=>by
  simp only [Zah,Zvq];exact (Zhr _ _ _).lex ((Zmm _ _ _).lex ((Zhr _ _ _).lex (ZkV a a' a'')))
theorem ZkV:∀ (a b c:List Tm),Tri (ZaF a b) (ZaF b c) (ZaF a c)
 | [],[],[]=>by simp [ZaF,Tri]
 | [],[],_::_=>by simp [ZaF,Tri]
 | [],_::_,[]=>by simp [ZaF,Tri]
 | [],_::_,_::_=>by simp only [ZaF];unfold Tri;omega
 | _::_,[],[]=>by simp [ZaF,Tri]
 | _::_,[],_::_=>by simp only [ZaF];unfold Tri;omega
 | _::_,_::_,[]=>by simp only [ZaF];unfold Tri;omega
 | x::xs,y::ys,z::zs=>by
  simp only [ZaF];exact (Zik x y z).lex (ZkV xs ys zs)
end
theorem ZdY {a b c:Tm} (h1:Zah a b < 0) (h2:Zah b c < 0):Zah a c < 0:=(Zik a b c).1.2.1 h1 om
theorem Zdj {a b c:Tm} (h1:Zah a b<=0) (h2:Zah b c<=0):Zah a c<=0:=(Zik a b c).1.1 h1 h2
def Asc (l:List Tm):Prop:=l.Pairwise fun a b=>Zah a b < 0
theorem Asc.ext {l l':List Tm} (h:Asc l) (h':Asc l') (hm:∀ t,t∈l ↔ t∈l'):l=l':=by
 induction l generalizing l' with
 | nil =>
  cases l' with
  | nil=>rfl
  | cons y ys=>exact absurd ((hm y).2 (by simp)) (by simp)
 | cons x xs ih =>
  cases l' with
  | nil=>exact absurd ((hm x).1 (by simp)) (by simp)
  | cons y ys =>
   have h1:=List.pairwise_cons.1 h;have h2:=List.pairwise_cons.1 h';have e:x=y:=by
    rcases Tbf.1 ((hm x).1 (by simp)) with e | hx
    ·exact e
    ·rcases Tbf.1 ((hm y).2 (by simp)) with e | hy
     ·exact e.symm
     ·have a1:=h1.1 y hy;have a2:=h2.1 x hx;rw [Zcq x y] at a2;omega
   subst e;refine congrArg (x::·) (ih h1.2 h2.2 fun t=>⟨fun ht=>?_,fun ht=>?_⟩)
   ·rcases Tbf.1 ((hm t).1 (Tal _ ht)) with e | h3
    ·subst e;have:=h1.1 t ht;rw [Zb9] at this;omega
    ·exact h3
   ·rcases Tbf.1 ((hm t).2 (Tal _ ht)) with e | h3
    ·subst e;have:=h2.1 t ht;rw [Zb9] at this;omega
    ·exact h3
def Za4 (t:Tm):List Tm->List Tm
 | []=>[t]
 | x::xs=>if Zah x t < 0 then x::Za4 t xs else if Zah x t=0 then x::xs else t::x::xs
theorem Zil {t u:Tm}:∀ {l:List Tm},u∈Za4 t l ↔ u=t∨u∈l
 | []=>by simp [Za4]
 | x::xs=>by
  simp only [Za4];split
  ·simp only [Tbf,Zil (l:=xs)];constructor
   ·rintro (h | h | h) <;> simp [h]
   ·rintro (h | h | h) <;> simp [h]
  ·split
   ·rename_i h0;have e:=ZdW h0;simp only [Tbf];constructor
    ·exact fun h=>.inr h
    ·rintro (h | h)
     ·exact .inl (by rw [h,e])
     ·exact h
   ·simp only [Tbf]
theorem Asc.ins {t:Tm}:∀ {l:List Tm},Asc l->Asc (Za4 t l)
 | [],_=>by simp [Za4,Asc]
 | x::xs,h=>by
  have h1:=List.pairwise_cons.1 h;simp only [Za4];split
  ·rename_i hx;refine List.pairwise_cons.2 ⟨fun u hu=>?_,Asc.ins h1.2⟩;rcases Zil.1 hu with e | hu
   ·rw [e];exact hx
   ·exact h1.1 u hu
  ·split
   ·exact h
   ·rename_i h2 h3;have h4:Zah t x < 0:=by rw [Zcq x t];omega
    refine List.pairwise_cons.2 ⟨fun u hu=>?_,h⟩;rcases Tbf.1 hu with e | hu
    ·rw [e];exact h4
    ·exact ZdY h4 (h1.1 u hu)
def Zc2 (l:List Tm):List Tm:=l.foldl (fun r t=>Za4 t r) []
theorem Zmo {l r:List Tm} (h:Asc r):Asc (l.foldl (fun r t=>Za4 t r) r)∧∀ u,u∈l.foldl (fun r t=>Za4 t r) r ↔ u∈l∨u∈r:=by
 induction l generalizing r with
 | nil=>exact ⟨h,fun u=>by simp⟩
 | cons x xs ih =>
  have:=ih (r:=Za4 x r) h.ins;refine ⟨this.1,fun u=>?_⟩;rw [List.foldl_cons,this.2,Zil,Tbf];constructor
  ·rintro (h | h | h)
   ·exact .inl (.inr h)
   ·exact .inl (.inl h)
   ·exact .inr h
  ·rintro ((h | h) | h)
   ·exact .inr (.inl h)
   ·exact .inl h
   ·exact .inr (.inr h)
theorem Zfs (l:List Tm):Asc (Zc2 l):=(Zmo List.Pairwise.nil).1
theorem ZdZ {l:List Tm} {u:Tm}:u∈Zc2 l ↔ u∈l:=by
 have:=(Zmo (l:=l) (r:=[]) List.Pairwise.nil).2 u;simpa [Zc2] using this
theorem Zvr {l l':List Tm} (h:Asc l') (hm:∀ t,t∈l' ↔ t∈l):Zc2 l=l':=(Zfs l).ext h fun t=>ZdZ.trans (hm t).symm
mutual
def Zav:Tm->List Tm
 | .mk op nm so args=>if op=-1 then [.mk (-1) nm so []] else Zaz args
def Zaz:List Tm->List Tm
 | []=>[]
 | t::ts=>Zav t++Zaz ts
end
def ZaB (t:Tm):List Tm:=Zc2 (Zav t)
def zTm0:Tm:=.mk 0 ByteArray.empty 0 []
def ddT:Option Tm->List Tm->List Tm
 | _,[]=>[]
 | none,x::xs=>x::ddT (some x) xs
 | some y,x::xs=>if Zah x y=0 then ddT (some x) xs else x::ddT (some x) xs
def Zgk:Option Tm->List Tm->Option Tm
 | p,[]=>p
 | _,x::xs=>Zgk (some x) xs
theorem Zj2:∀ (p:Option Tm) (l:List Tm) (x:Tm),ddT p (l++[x])=match Zgk p l with
  | none=>ddT p l++[x]
  | some y=>if Zah x y=0 then ddT p l else ddT p l++[x]
 | none,[],x=>rfl
 | some y,[],x=>by simp only [Tah,ddT,Zgk]
 | none,a::l,x=>by
  simp only [Taf,ddT,Zgk,Zj2 (some a) l x];split
  ·rfl
  ·split <;> rfl
 | some y,a::l,x=>by
  simp only [Taf,ddT,Zgk,Zj2 (some a) l x];split
  ·rfl
  ·split
   ·rfl
   ·split <;> rfl
theorem ZkW:∀ (p:Option Tm) (l:List Tm) (i:Nat) (y:Tm),l[i]?=some y->Zgk p (l.take (i+1))=some y
 | p,[],i,y,h=>by simp at h
 | p,x::xs,0,y,h=>by simp at h;subst h;simp [Zgk]
 | p,x::xs,i+1,y,h=>by
  simp only [Tbb,Zgk];exact ZkW (some x) xs i y (by simpa using h)
theorem Zoe {l:List Tm} {i:Nat} {x y:Tm} (hx:l[i+1]?=some x) (hy:l[i]?=some y):ddT none (l.take (i+2))=if Zah x y=0 then ddT none (l.take (i+1)) else ddT none (l.take (i+1))++[x]:=by
 have e:l.take (i+2)=l.take (i+1)++[x]:=by simp [List.take_add_one,hx]
 rw [e,Zj2,ZkW none l i y hy]
theorem ZzC {l:List Tm} {x:Tm} (hx:l[0]?=some x):ddT none (l.take 1)=[x]:=by
 cases l with
 | nil=>simp at hx
 | cons a l=>simp at hx;subst hx;simp [ddT]
def Up (l:List Tm):Prop:=l.Pairwise fun a b=>Zah a b<=0
theorem Zvs:∀ (l:List Tm) (y:Tm),Up l->(∀ x∈l,Zah y x<=0)->Asc (ddT (some y) l)∧(∀ z∈ddT (some y) l,Zah y z < 0)∧∀ z,(z=y∨z∈ddT (some y) l) ↔ (z=y∨z∈l)
 | [],y,_,_=>⟨List.Pairwise.nil,fun z h=>by simp [ddT] at h,fun z=>by simp [ddT]⟩
 | x::xs,y,hu,hy=>by
  have h1:=List.pairwise_cons.1 hu;have hyx:=hy x Tas;obtain ⟨k1,k2,k3⟩:=Zvs xs x h1.2 h1.1;simp only [ddT];by_cases h0:Zah x y=0
  ·rw [if_pos h0];have e:=ZdW h0;subst e;exact ⟨k1,k2,fun z=>by rw [k3 z];simp⟩
  ·rw [if_neg h0];have hlt:Zah y x < 0:=by rw [Zcq x y] at hyx ⊢;omega
   refine ⟨List.pairwise_cons.2 ⟨k2,k1⟩,fun z hz=>?_,fun z=>?_⟩
   ·rcases Tbf.1 hz with rfl | hz
    ·exact hlt
    ·exact ZdY hlt (k2 z hz)
   ·have:=k3 z;simp only [Tbf];rw [this]
theorem Zxg {l:List Tm} (h:Up l):ddT none l=Zc2 l:=by
 cases l with
 | nil=>rfl
 | cons x xs =>
  have h1:=List.pairwise_cons.1 h;obtain ⟨k1,k2,k3⟩:=Zvs xs x h1.2 h1.1;simp only [ddT];refine (Zvr (List.pairwise_cons.2 ⟨k2,k1⟩) fun t=>?_).symm;simp only [Tbf];exact k3 t
def ZbE (l:List Tm):List Tm:=l.mergeSort fun a b=>decide (Zah a b<=0)
theorem ZbT (l:List Tm):(ZbE l).Perm l:=List.mergeSort_perm l _
theorem ZdL (l:List Tm):Up (ZbE l):=by
 have h:=List.pairwise_mergeSort (le:=fun a b=>decide (Zah a b<=0)) (fun a b c h1 h2=>by simp only [decide_eq_true_eq] at *;exact Zdj h1 h2) (fun a b=>by
  simp only [Bool.or_eq_true,decide_eq_true_eq];have:=Zcq a b;omega) l
 exact h.imp fun h=>by simpa using h
theorem Zi6:∀ {l l':List Tm},Up l->Up l'->l.Perm l'->l=l'
 | [],l',_,_,h=>by have:=h.length_eq;cases l' with | nil=>rfl | cons _ _=>simp at this
 | x::xs,[],_,_,h=>by have:=h.length_eq;simp at this
 | x::xs,y::ys,h1,h2,h=>by
  have p1:=List.pairwise_cons.1 h1;have p2:=List.pairwise_cons.1 h2;have hx:x∈y::ys:=h.mem_iff.1 Tas;have hy:y∈x::xs:=h.mem_iff.2 Tas;have e:x=y:=by
   rcases Tbf.1 hx with e | hx
   ·exact e
   ·rcases Tbf.1 hy with e | hy
    ·exact e.symm
    ·have a1:=p2.1 x hx;have a2:=p1.1 y hy;refine ZdW ?_;rw [Zcq x y] at a1;omega
  subst e;rw [Zi6 p1.2 p2.2 h.cons_inv]
theorem Zpx {l l':List Tm} (h:l.Perm l'):Zc2 l=Zc2 l':=(Zfs l).ext (Zfs l') fun t=>by rw [ZdZ,ZdZ,h.mem_iff]
mutual
theorem Zmp:∀ {a b:Tm},Zab a=Zab b->a=b
 | .mk o n s a,.mk o' n' s' a',h=>by
  simp only [Zab,List.cons.injEq,C.lit.injEq,C.sl.injEq,Value.int.injEq,Value.string.injEq,true_and,and_true] at h;obtain ⟨rfl,rfl,rfl,h⟩:=h;rw [ZkX h]
theorem ZkX:∀ {a b:List Tm},Zaa a=Zaa b->a=b
 | [],[],_=>rfl
 | [],_::_,h=>by simp [Zaa] at h
 | _::_,[],h=>by simp [Zaa] at h
 | x::xs,y::ys,h=>by
  simp only [Zaa,List.cons.injEq] at h;rw [Zmp h.1,ZkX h.2]
end
open Classical in
noncomputable def unT (r:List C):Tm:=if h:∃ t,r=Zab t then h.choose else zTm0
theorem Zrh (t:Tm):unT (Zab t)=t:=by
 have h:∃ t',Zab t=Zab t':=⟨t,rfl⟩;unfold unT;rw [dif_pos h];exact (Zmp h.choose_spec).symm
theorem ZzD (l:List Tm):(Zaa l).map unT=l:=by
 rw [Zbu,List.map_map]
 conv=>rhs;rw [<- List.map_id l]
 exact List.map_congr_left fun t _=>Zrh t
theorem Zdy (l:List Tm) (k:Nat):(Zaa l).take k=Zaa (l.take k):=by rw [Zbu,Zbu,List.map_take]
theorem Zd9 (l:List Tm) (k:Nat):(Zaa l).drop k=Zaa (l.drop k):=by rw [Zbu,Zbu,List.map_drop]
theorem ZbN (a b:List Tm):Zaa (a++b)=Zaa a++Zaa b:=by rw [Zbu,Zbu,Zbu,Tbu]
theorem Zck (t:Tm):Zaa [t]=[Zab t]:=by simp [Zaa]
theorem ZfX (a b:Tm):Con e0 69 [.agg (Zab a),.agg (Zab b)] [.one (.lit (.bool (decide (Zah a b=0))))]:=by
 refine gI (ts:=[.slot 4]) 31 Tryz.func69 ?_;refine fB @tmz ?_;refine fC @tmz (Zy6 (ZjW a b)) ?_;refine fR @tmz ?_;exact fD @tmz
theorem Zvt {l m:List Tm} (hp:m.Perm l) (hu:Up m):m=ZbE l:=Zi6 hu (ZdL l) (hp.trans (ZbT l).symm)
theorem ZrY (l:List Tm):(ZbE l).length=l.length:=(ZbT l).length_eq
theorem Zof {l m:List Tm} (h:l.Perm m):ZbE l=ZbE m:=Zi6 (ZdL l) (ZdL m) ((ZbT l).trans (h.trans (ZbT m).symm))
theorem Up.get {l:List Tm} (h:Up l) {i j:Nat} {x y:Tm} (hij:i<=j) (hx:l[i]?=some x) (hy:l[j]?=some y):Zah x y<=0:=by
 rcases Nat.lt_or_ge i j with hl | hl
 ·obtain ⟨h1,rfl⟩:=Tad.1 hx;obtain ⟨h2,rfl⟩:=Tad.1 hy;exact List.pairwise_iff_getElem.1 h i j h1 h2 hl
 ·obtain rfl:i=j:=by omega
  rw [hx] at hy;injection hy with hy
  subst hy;rw [Zb9];omega
theorem Zim {l:List Tm} {k:Nat} {x:Tm} (h:x∈l.take k):∃ i,i < k∧l[i]?=some x:=by
 obtain ⟨i,hi⟩:=Tbj h;rw [List.getElem?_take] at hi;split at hi
 ·exact ⟨i,by assumption,hi⟩
 ·cases hi
theorem Zin {l:List Tm} {k:Nat} {x:Tm} (h:x∈l.drop k):∃ i,k<=i∧l[i]?=some x:=by
 obtain ⟨i,hi⟩:=Tbj h;rw [Tba] at hi;exact ⟨k+i,om,hi⟩
theorem Up.append {l m:List Tm} (hl:Up l) (hm:Up m) (h:∀ x∈l,∀ y∈m,Zah x y<=0):Up (l++m):=List.pairwise_append.2 ⟨hl,hm,h⟩
theorem Up.left {l m:List Tm} (h:Up (l++m)):Up l:=(List.pairwise_append.1 h).1
theorem Up.right {l m:List Tm} (h:Up (l++m)):Up m:=(List.pairwise_append.1 h).2.1
theorem Up.take {l:List Tm} (h:Up l) (k:Nat):Up (l.take k):=List.Pairwise.sublist (List.take_sublist k l) h
theorem Up.drop {l:List Tm} (h:Up l) (k:Nat):Up (l.drop k):=List.Pairwise.sublist (List.drop_sublist k l) h
theorem Up.put {B:List Tm} {x:Tm} (hB:Up B) {s:Nat} (h1:0 < s->∃ y,B[s - 1]?=some y∧Zah y x<=0) (h2:s < B.length->∃ y,B[s]?=some y∧Zah x y<=0):Up (B.take s++x::B.drop s):=by
 have k2:∀ z∈B.drop s,Zah x z<=0:=fun z hz=>by
  obtain ⟨i,hi,hz⟩:=Zin hz;have hl:=(Tad.1 hz).1;obtain ⟨y,hy,hc⟩:=h2 om;exact Zdj hc (hB.get hi hy hz)
 have k1:∀ z∈B.take s,Zah z x<=0:=fun z hz=>by
  obtain ⟨i,hi,hz⟩:=Zim hz;obtain ⟨y,hy,hc⟩:=h1 om;exact Zdj (hB.get om hz hy) hc
 refine (hB.take s).append (List.pairwise_cons.2 ⟨k2,hB.drop s⟩) fun z hz u hu=>?_;rcases Tbf.1 hu with rfl | hu
 ·exact k1 z hz
 ·obtain ⟨i,hi,hz⟩:=Zim hz;obtain ⟨j,hj,hu⟩:=Zin hu;exact hB.get om hz hu
inductive Blks (k:Nat):List Tm->Prop where
 | last {l:List Tm} (hl:l.length<=k) (hu:Up l):Blks k l
 | cons {X r:List Tm} (hl:X.length=k) (hu:Up X) (hr:Blks k r):Blks k (X++r)
inductive Full (k:Nat):List Tm->Prop where
 | nil:Full k []
 | cons {X r:List Tm} (hl:X.length=k) (hu:Up X) (hr:Full k r):Full k (X++r)
theorem Full.snoc {k:Nat} {X Z:List Tm} (h:Full k X) (hl:Z.length=k) (hu:Up Z):Full k (X++Z):=by
 induction h with
 | nil=>have:=Full.cons hl hu Full.nil;rwa [List.append_nil] at this
 | cons h1 h2 _ ih=>rw [Tbe];exact .cons h1 h2 ih
theorem Blks.up {k:Nat} {l:List Tm} (h:Blks k l) (hl:l.length<=k):Up l:=by
 cases h with
 | last h1 h2=>exact h2
 | @cons X r h1 h2 h3 =>
  rw [Tae] at hl;have:r=[]:=Tao om;subst this
  rwa [List.append_nil]
theorem Blks.split {k:Nat} {l:List Tm} (h:Blks k l) (hl:k < l.length):∃ X r,l=X++r∧X.length=k∧Up X∧Blks k r:=by
 cases h with
 | last h1 h2=>omega
 | cons h1 h2 h3=>exact ⟨_,_,rfl,h1,h2,h3⟩
theorem Blks.two {k:Nat} {l:List Tm} (h:Blks k l) (hk:0 < k) (hl:2 * k<=l.length):∃ A B r,l=A++B++r∧A.length=k∧B.length=k∧Up A∧Up B∧Blks k r:=by
 obtain ⟨A,r,rfl,h1,h2,h3⟩:=h.split om;rw [Tae] at hl;rcases Nat.lt_or_ge k r.length with h4 | h4
 ·obtain ⟨B,r',rfl,h5,h6,h7⟩:=h3.split h4;exact ⟨A,B,r',by rw [Tbe],h1,h5,h2,h6,h7⟩
 ·exact ⟨A,r,[],by rw [List.append_nil],h1,om,h2,h3.up h4,.last (by simp) List.Pairwise.nil⟩
theorem Zog {l:List Tm} {i:Nat} {x:Tm} (h:l[i]?=some x):l.drop i=x::l.drop (i+1):=by
 obtain ⟨h1,rfl⟩:=Tad.1 h;exact List.drop_eq_getElem_cons h1
theorem ZfY {l:List Tm} {i:Nat} {x:Tm} (h:l[i]?=some x):l.take (i+1)=l.take i++[x]:=by
 rw [List.take_add_one,h];rfl
theorem Zxh {M1 M2:List Tm} {x:Tm} (h:Up (M1++M2)) (h2:∀ y∈M2,Zah x y<=0) (h1:∀ y,M1.getLast?=some y->Zah y x<=0):Up (M1++x::M2):=by
 obtain ⟨u1,u2,u3⟩:=List.pairwise_append.1 h;refine Up.append u1 (List.pairwise_cons.2 ⟨h2,u2⟩) fun z hz u hu=>?_;rcases Tbf.1 hu with rfl | hu
 ·obtain ⟨M0,y,rfl⟩:∃ M0 y,M1=M0++[y]:=⟨M1.dropLast,M1.getLast (List.ne_nil_of_mem hz),(List.dropLast_concat_getLast _).symm⟩;have hy:=h1 y (by simp);rcases Tbg.1 hz with hz | hz
  ·exact Zdj ((List.pairwise_append.1 u1).2.2 z hz y (by simp)) hy
  ·simp only [Tbi] at hz;subst hz;exact hy
 ·exact u3 z hz u hu
theorem Zxi {M1 M2 L:List Tm} {x:Tm} (e:M1++M2=ZbE L) (h2:∀ y∈M2,Zah x y<=0) (h1:∀ y,M1.getLast?=some y->Zah y x<=0):M1++x::M2=ZbE (L++[x]):=by
 have hu:Up (M1++M2):=by rw [e];exact ZdL _
 refine Zvt ?_ (Zxh hu h2 h1);refine List.perm_middle.trans ?_;rw [e];exact ((ZbT L).cons x).trans (List.perm_append_comm (l₁:=[x]) (l₂:=L))
mutual
def Zc3:Tm->Int->Int
 | .mk _ _ _ args,l=>Zbr args (l - 1)
def Zbr:List Tm->Int->Int
 | [],l=>l
 | t::ts,l=>if 0<=l then Zbr ts (Zc3 t l) else l
end
theorem Zvu:∀ l,Zbr [] l=l:=fun _=>by rw [Zbr]
mutual
theorem Zjy:∀ (t:Tm) (l:Int),0<=l->(-1<=Zc3 t l∧Zc3 t l<=l∧((sizeTm t:Int)<=l->Zc3 t l=l - sizeTm t)∧(l < sizeTm t->Zc3 t l < 0))
 | .mk _ _ _ args,l,hl=>by
  have:=ZfZ args (l - 1) om;simp only [Zc3,sizeTm];refine ⟨this.1,om,fun h=>?_,fun h=>?_⟩
  ·have:=this.2.2.1 om;omega
  ·by_cases h1:0<=l - 1
   ·exact this.2.2.2 om
   ·have h2:=this.2.1;omega
theorem ZfZ:∀ (ts:List Tm) (l:Int),-1<=l->(-1<=Zbr ts l∧Zbr ts l<=l∧((sizeTms ts:Int)<=l->Zbr ts l=l - sizeTms ts)∧(l < sizeTms ts->Zbr ts l < 0))
 | [],l,hl=>by simp only [Zbr,sizeTms];omega
 | t::ts,l,hl=>by
  simp only [Zbr,sizeTms];by_cases h0:0<=l
  ·rw [if_pos h0];have h1:=Zjy t l h0;have h2:=ZfZ ts (Zc3 t l) h1.1;refine ⟨h2.1,om,fun h=>?_,fun h=>?_⟩
   ·have e1:=h1.2.2.1 om;have e2:=h2.2.2.1 om;omega
   ·by_cases h3:(sizeTm t:Int)<=l
    ·have e1:=h1.2.2.1 h3;exact h2.2.2.2 om
    ·have e1:=h1.2.2.2 om;omega
  ·rw [if_neg h0];have:=Zbv ts;refine ⟨hl,Int.le_refl _,fun h=>om,fun h=>om⟩
end
theorem Zjz {ts:List Tm} {l:Int} (h:¬ 0<=l):Zbr ts l=l:=by
 cases ts with
 | nil=>rfl
 | cons t ts=>simp only [Zbr,if_neg h]
theorem ZgG:∀ (a b:List Tm) (l:Int),Zbr (a++b) l=Zbr b (Zbr a l)
 | [],b,l=>rfl
 | t::ts,b,l=>by
  simp only [Taf,Zbr];by_cases h:0<=l
  ·rw [if_pos h,if_pos h,ZgG]
  ·rw [if_neg h,if_neg h,Zjz h]
theorem Zoh {ts:List Tm} {i:Nat} {t:Tm} {l:Int} (h:ts[i]?=some t) (h0:0<=Zbr (ts.take i) l):Zbr (ts.take (i+1)) l=Zc3 t (Zbr (ts.take i) l):=by
 rw [Zcm h,ZgG];simp only [Zbr,if_pos h0]
theorem Zoi {ts:List Tm} {i:Nat} {l:Int} (h0:¬ 0<=Zbr (ts.take i) l):Zbr ts l=Zbr (ts.take i) l:=by
 conv=>lhs;rw [<- Tbl i ts]
 rw [ZgG,Zjz h0]
theorem Zvv (t:Tm) (l:Int):Zc3 t l=Zbr t.args (l - 1):=by cases t;simp only [Zc3,Tm.args]
theorem ZlM:∀ (n:Nat) (t:Tm) (l:Int),sizeTm t < n->sizeTm t<=big->0<=l->l<=60->Con e0 84 [.agg (Zab t),.one (.lit (.int .i64 l))] [.one (.lit (.int .i64 (Zc3 t l)))]:=by
 intro n
 induction n with
 | zero=>intro t l h;omega
 | succ n ih =>
  intro t l hn hb hl0 hl1;have hsz:=ZaO t;have hal:=Zbv t.args;unfold big at hb;have hw:IntKind.i64.wrap (l - 1)=l - 1:=Za2 rfl om om;rw [Zvv];refine gI 65591 Tryz.func84 ?_;refine fG (ai @tmz @hw) ?_;have F:=@Zvu;refine gL (ι:=Nat) [1,5,16] [] (fun i=>[(5,A.d (.one (.lit (.int .i64 i)))),(1,A.d (.one (.lit (.int .i64 (Zbr (t.args.take i) (l - 1))))))]) (fun i=>[]) (fun i=>i<=t.args.length) (fun i=>t.args.length - i) (0) om (fun i hi=>?_);clear F
  have hsp:=ZfZ (t.args.take i) (l - 1) om;by_cases hl:i < t.args.length;rotate_left
  ·have hl':¬ ((i:Int) < (t.args.length:Int)):=om;have e:t.args.take i=t.args:=List.take_of_length_le om;exact fT (aj3 @hl' @e @tmz)
  have hl':(i:Int) < (t.args.length:Int):=om;by_cases h0:0<=Zbr (t.args.take i) (l - 1);rotate_left
  ·have e:=Zoi h0;exact fT (aj4 @hl' @h0 @e @tmz)
  obtain ⟨a,ha⟩:∃ a,t.args[i]?=some a:=⟨_,Taa hl⟩;have hm:=ZaX (Tac ha);have hw1:=Zap (k:=i) om;have hs:=Zoh ha h0;refine fB (aj4 @hl' @h0 @tmz @ha) ?_;refine fC (ai @tmz @ha) (ih a _ om (by unfold big;omega) h0 om) ?_;refine fR @tmz ?_;have F:=aj3 @hw1 @hs @tmz;refine gG ?_;exact ⟨i+1,om,gw,gw,om⟩
theorem Zmq {t:Tm}:0<=Zc3 t 60 ↔ sizeTm t<=60:=by
 have:=Zjy t 60 om;by_cases h:sizeTm t<=60
 ·have:=this.2.2.1 om;omega
 ·have:=this.2.2.2 om;omega
theorem ZgH {t:Tm} (hb:sizeTm t<=big):Con e0 45 [.agg (Zab t)] [.one (.lit (.bool (decide (sizeTm t<=60∧depthTm t<=20))))]:=by
 refine gI 7 Tryz.func45 ?_;refine fB @tmz ?_;refine fC @tmz (ZlM _ t 60 (Tan _) hb om om) ?_;by_cases h1:sizeTm t<=60;rotate_left
 ·have h1':¬ (0<=Zc3 t 60):=fun h=>h1 (Zmq.1 h);refine fR (ai @tmz @h1') ?_;exact fT @h1
 have h1':(0<=Zc3 t 60):=Zmq.2 h1;refine fC (ai @tmz @h1') (Zm2 hb) ?_;by_cases h2:depthTm t<=20
 ·have h2':((depthTm t:Int)<=20):=om;refine fR (ai @tmz @h2') ?_;exact fT (ai @h1 @h2)
 ·have h2':¬ ((depthTm t:Int)<=20):=om;refine fR (ai @tmz @h2') ?_;exact fT (ai @h1 @h2)
section
variable {g:Sgn}
open Classical in
noncomputable def ZdM (g:Sgn) (t:Tm):Bool:=decide (Zcp g t)
theorem Ze6 {t:Tm} (h:Zcp g t):ZdM g t=true:=by simp [ZdM,h]
theorem Zoj {t:Tm} (h:¬ Zcp g t):ZdM g t=false:=by simp [ZdM,h]
theorem ZkY {t:Tm}:ZdM g t=true ↔ Zcp g t:=by simp [ZdM]
theorem ZkZ (hg:SgnOk g) {t:Tm} (hok:okTm t) (hb:sizeTm t<=big):Con e0 86 [.agg (Zag g),.agg (Zab t)] [.one (.lit (.bool (ZdM g t)))]:=by
 have hno:¬ Zcp g t->ZdM g t=false:=Zoj;obtain ⟨k1,k2,k3,k4⟩:=ZeP.1 hok;have hsz:=ZaO t;have hal:=Zbv t.args;have hn8:=hg.sorts.n8;have hn1:=hg.sorts.n1;have hln:=hg.len;unfold big at hb;have hwn:IntKind.i64.wrap ((g.sorts.names.length:Int) - 1)=(g.sorts.names.length:Int) - 1:=Za2 rfl om om;have hwo:IntKind.i64.wrap ((g.ops.length:Int) - 1)=(g.ops.length:Int) - 1:=Za2 rfl om om;refine gI 9444733036108034605695 Tryz.func86 ?_
 by_cases h1:t.op=-1
 ·have hV:Zcp g t->Zcu g t:=fun h=>by
   rcases h with h | ⟨o,d,h⟩
   ·exact h
   ·exact absurd h1 h.op
  refine fB (aj3 @tmz @Zbj @h1) ?_;refine fC @tmz (ZfT k2) ?_;by_cases h2:Za7 t.name=true;rotate_left
  ·have h2':Za7 t.name=false:=by simpa using h2
   have hf:=hno fun h=>h2 (hV h).2.1;refine fR (ai @tmz @h2') ?_;exact fT @hf
  refine fC (aj3 @tmz @h2 @hwn) (Zcw _ _ _) ?_;by_cases h3:0<=t.sort∧t.sort < g.sorts.names.length;rotate_left
  ·have h3':decide (0<=t.sort∧t.sort<=(g.sorts.names.length:Int) - 1)=false:=by simp only [decide_eq_false_iff_not];omega
   have hf:=hno fun h=>h3 ⟨(hV h).2.2.1,(hV h).2.2.2.1⟩;refine fR (ai @tmz @h3') ?_;exact fT @hf
  have h3':decide (0<=t.sort∧t.sort<=(g.sorts.names.length:Int) - 1)=true:=by simp only [decide_eq_true_eq];omega
  by_cases h4:t.args=[]
  ·have hT:=Ze6 (g:=g) (.inl ⟨h1,h2,h3.1,h3.2,h4⟩);refine fR (aj3 @tmz @h3' @h4) ?_;exact fT @hT
  ·have hf:=hno fun h=>h4 (hV h).2.2.2.2;have h4':¬ ((t.args.length:Int)=0):=by
    intro h;apply h4;apply Tao;omega
   refine fR (aj3 @tmz @h3' @h4') ?_;exact fT @hf
 refine fB (aj3 @tmz @Zbj @h1) ?_;refine fC (ai @tmz @hwo) (Zcw _ _ _) ?_;by_cases h2:0<=t.op∧t.op < g.ops.length;rotate_left
 ·have h2':decide (0<=t.op∧t.op<=(g.ops.length:Int) - 1)=false:=by simp only [decide_eq_false_iff_not];omega
  have hf:=hno fun h=>by
   obtain ⟨o,d,h⟩:=h.app h1;have:=(Tad.1 h.at').1;have:=h.lo;omega
  refine fR (ai @tmz @h2') ?_;exact fT @hf
 have h2':decide (0<=t.op∧t.op<=(g.ops.length:Int) - 1)=true:=by simp only [decide_eq_true_eq];omega
 by_cases h4:t.name=ByteArray.empty;rotate_left
 ·have hf:=hno fun h=>by
   obtain ⟨o,d,h⟩:=h.app h1;exact h4 h.nm
  refine fR (aj4 @tmz @h2' @ZdV @h4) ?_;exact fT @hf
 by_cases h5:t.sort=0;rotate_left
 ·have hf:=hno fun h=>by
   obtain ⟨o,d,h⟩:=h.app h1;exact h5 h.so
  refine fR (aj5 @tmz @h2' @ZdV @h4 @h5) ?_;exact fT @hf
 have h0:=h2.1;obtain ⟨o,ho⟩:∃ o,g.ops[t.op.toNat]?=some o:=⟨_,Taa om⟩;obtain ⟨d,hd,hr0,hr1,hargs⟩:=hg.first ho;have hgt:Zcp g t->AppOk g t o d:=fun h=>by
  obtain ⟨o',d',h⟩:=h.app h1;have e1:=h.at';rw [ho] at e1;injection e1 with e1
  subst e1;have e2:=h.fst;rw [hd] at e2;injection e2 with e2
  subst e2;exact h
 have cA:=Zc7 hd;rw [ZaU] at cA;refine fR (aj5 @tmz @h2' @ZdV @h4 @h5) ?_;refine fG (aj4 @tmz @h0 @ho @Zae) ?_
 cases ha:o.assoc with
 | false =>
  rw [ha] at cA;refine gB ?_;refine fC (ai @tmz @ha) (cA) ?_;by_cases c:t.args.length=d.args.length
  ·have hT:=Ze6 (g:=g) (.inr ⟨o,d,h0,ho,hd,h4,h5,fun h=>(by rw [ha] at h;cases h),fun _=>c⟩);have c':((t.args.length:Int)=(d.args.length:Int)):=om;refine fR (aj3 @tmz @c' @ha) ?_;exact fT @hT
  ·have hf:=hno fun h=>c ((hgt h).nas ha);have c':¬ ((t.args.length:Int)=(d.args.length:Int)):=om;refine fR (aj3 @tmz @c' @ha) ?_;exact fT @hf
 | true =>
  refine gB ?_;refine fC (ai @tmz @ha) (Zcw _ _ _) ?_;by_cases c:2<=t.args.length∧t.args.length<=7
  ·have hT:=Ze6 (g:=g) (.inr ⟨o,d,h0,ho,hd,h4,h5,fun _=>c,fun h=>(by rw [ha] at h;cases h)⟩);have c':decide ((2:Int)<=(t.args.length:Int)∧(t.args.length:Int)<=7)=true:=by simp only [decide_eq_true_eq];omega
   refine fR (aj3 @tmz @c' @ha) ?_;exact fT @hT
  ·have hf:=hno fun h=>c ((hgt h).asc ha);have c':decide ((2:Int)<=(t.args.length:Int)∧(t.args.length:Int)<=7)=false:=by simp only [decide_eq_false_iff_not];omega
   refine fR (aj3 @tmz @c' @ha) ?_;exact fT @hf
end
section
variable {g:Sgn}
open Classical in
noncomputable def Zd0 (g:Sgn) (op:Int) (args:List Tm):Bool:=decide (Zi5 g op args)
theorem Zfd (hg:SgnOk g) {op:Int} {o:Opr} (ho:g.ops[op.toNat]?=some o) (hu:o.unit≠0) {a:Tm} (ha:ZaD g a) (hop:a.op=o.unit - 1):a=ZaE o:=by
 have hax:=hg.axs o (Tac ho);have hlo:=hax.lo;obtain ⟨p,u,h⟩:=ha.node.app om;obtain ⟨d,hd,_⟩:=hg.first ho;have e:a.op.toNat=o.unit.toNat - 1:=om;have hz:u.args.length=0:=by
  have h2:=hax.two (.inr (.inr hu)) d hd;obtain ⟨d0,hd0⟩:∃ x,d.args[0]?=some x:=⟨_,Taa om⟩;obtain ⟨d1,hd1⟩:∃ x,d.args[1]?=some x:=⟨_,Taa om⟩;exact ((h2.2 d0 d1 hd0 hd1).2.2 hu p u (by rw [<- e];exact h.at') h.fst).1
 have has:p.assoc=false:=by
  cases hp:p.assoc with
  | false=>rfl
  | true =>
   have:=((hg.axs p (Tac h.at')).two (.inl hp) u h.fst).1;omega
 have hl:=h.nas has;have hnil:a.args=[]:=Tao om;have hnm:=h.nm;have hso:=h.so
 cases a with
 | mk x n s l =>
  simp only [Tm.args,Tm.name,Tm.sort,Tm.op] at *;subst hnil hnm hso hop;simp only [ZaE,if_neg hu]
theorem Zio {o:Opr} (h0:0<=o.unit) (h1:o.unit<=14):okTm (ZaE o):=by
 rw [ZeP];simp only [ZaE,Tm.op,Tm.name,Tm.sort,Tm.args,Zaw,and_true];refine ⟨?_,by simp [maxLen],?_⟩
 ·unfold I64;split <;> omega
 ·unfold I64;omega
theorem Zpy (hokg:ZbJ g) (hg:SgnOk g) {t:Tm} {o:Opr} {d:Dcl} (hA:AppOk g t o d) (hF:∀ a∈t.args,ZaD g a) (hok:okTm t) (hb:sizeTm t<=big):Con e0 87 [.agg (Zag g),.agg (Zab t)] [.one (.lit (.bool (Zd0 g t.op t.args)))]:=by
 have hno:¬ Zi5 g t.op t.args->Zd0 g t.op t.args=false:=fun h=>by simp [Zd0,h]
 obtain ⟨k1,k2,k3,k4⟩:=ZeP.1 hok;have hsz:=ZaO t;have hal:=Zbv t.args;unfold big at hb;have h0:=hA.lo;have ho:=hA.at';have hd:=hA.fst;obtain ⟨d',hd',hr0,hr1,hargs⟩:=hg.first ho;rw [hd] at hd';injection hd' with hd'
 subst hd';have hax:=hg.axs o (Tac ho);have hlo:=hax.lo;have hhi:=hax.hi;have hln:=hg.len;have cK:=Zdx hg.sorts;rw [Za3] at cK;have cUn:=ZkS hg h0 ho;rw [Zag] at cUn;have hnoA:∀ (i:Nat) a,t.args[i]?=some a->¬ ArgOk g t.op o d t.args i a->Zd0 g t.op t.args=false:=fun i a ha h=>hno fun hR=>h (hR o d ho hd i a ha);refine gI 9903595872146772515857895423 Tryz.func87 ?_;refine fB (aj5 @tmz @Zbj @h0 @ho @Zae) ?_
 refine fC @tmz (cK) ?_;refine fR @tmz ?_;refine fB @tmz ?_;refine fC @tmz (cUn) ?_;refine fR @tmz ?_;refine fG @tmz ?_;have F:=@e0P;refine gL (ι:=Nat) [4,9,10,11,32,42,76,93] [] (fun i=>[(9,A.d (.one (.lit (.int .i64 i))))]) (fun i=>[]) (fun i=>i<=t.args.length∧∀ (j:Nat) a,j < i->t.args[j]?=some a->ArgOk g t.op o d t.args j a) (fun i=>t.args.length - i) (0) (⟨om,fun j a h=>absurd h om⟩) (fun i hi=>?_);clear F
 obtain ⟨hil,hall⟩:=hi;by_cases hl:i < t.args.length;rotate_left
 ·have hl':¬ ((i:Int) < (t.args.length:Int)):=om;have hT:Zd0 g t.op t.args=true:=by
   simp only [Zd0,decide_eq_true_eq];intro o' d' ho' hd' j a hj;rw [ho] at ho';injection ho' with ho'
   subst ho';rw [hd] at hd';injection hd' with hd'
   subst hd';exact hall j a (by have:=(Tad.1 hj).1;omega) hj
  exact fT (aj3 @tmz @hl' @hT)
 have hl':(i:Int) < (t.args.length:Int):=om;obtain ⟨a,ha⟩:∃ a,t.args[i]?=some a:=⟨_,Taa hl⟩;have hm:=Tac ha;have hFa:=hF a hm;have hw1:=Zap (k:=i) om;obtain ⟨k,hk⟩:=Zgj hg ho hd hA.nas hl;obtain ⟨hk0,hk1⟩:=hargs k (Tac hk);have hkd:=Zfc hg.sorts hk0 hk1;have cKa:=Zhq hokg hg hFa.node;rw [Zag] at cKa;have cU:=ZdX (k4.mem hm) (Zio (o:=o) hlo om);have hUiff:o.unit≠0->(Zah a (ZaE o)=0 ↔ a.op=o.unit - 1):=fun hu=>by
  rw [Zc1];constructor
  ·rintro h;rw [h];simp [ZaE,Tm.op,hu]
  ·exact Zfd hg ho hu hFa
 generalize hU:decide (Zah a (ZaE o)=0)=U at cU;have hnext:ZbD g a=((kd g.sorts k:Nat):Int)->(o.assoc=true->¬ a.op=t.op)->(o.unit≠0->U=false)->(o.comm=true->∀ (j:Nat) p,i=j+1->t.args[j]?=some p->Zah p a<=0)->i+1<=t.args.length∧∀ (j:Nat) a,j < i+1->t.args[j]?=some a->ArgOk g t.op o d t.args j a:=fun hkk hne hU' hc=>⟨om,fun j a' hj ha'=>by
  by_cases e:j=i
  ·subst e;rw [ha] at ha';injection ha' with ha'
   subst ha';refine ⟨fun k' hk'=>?_,hne,fun h1 h2=>?_,hc⟩
   ·rw [hk] at hk';injection hk' with hk'
    subst hk';exact hkk
   ·have:=hU' h1;rw [this] at hU;simp only [decide_eq_false_iff_not] at hU;exact hU ((hUiff h1).2 h2)
  ·exact hall j a' om ha'⟩
 have hkN:d.args[(argAt o i:Nat)]?=some k:=hk;refine fG (aj3 @tmz @hl' @ha) ?_;refine gM (ι:=Unit) [11] [] (fun u=>[(11,A.d (.one (.lit (.int .i64 (argAt o i:Nat)))))]) (fun u=>[]) (fun u=>True) ?_ (fun u hu=>Exists.intro _ (ai (Wk.refl _) ?_))
 ·rcases Bool.eq_false_or_eq_true o.assoc with hac | hac
  ·have F:=aj3 @Zae @hac @ZfF;refine gG ?_;exact ⟨(),trivial,gw,gw⟩
  ·have F:=aj4 @Zae @hac @ZfF @if_false.{1};refine gG ?_;exact ⟨(),trivial,gw,gw⟩
 refine fG @tmz ?_;refine gM (ι:=Bool) [76] [] (fun x=>[(76,A.d (.one (.lit (.bool x))))]) (fun x=>[]) (fun x=>(x=true->Zd0 g t.op t.args=false)∧(x=false->ZbD g a=((kd g.sorts k:Nat):Int)∧(o.assoc=true->¬ a.op=t.op)∧(o.unit≠0->U=false))) ?_ (fun x hx=>Exists.intro _ (ai (Wk.refl _) ?_))
 ·refine gB ?_;refine fC @tmz (cKa) ?_;by_cases hkk:ZbD g a=((kd g.sorts k:Nat):Int);rotate_left
  ·have hf:=hnoA i a ha fun h=>hkk (h.kind k hk);refine fR (aj9 @tmz @Zae @hd @ZaG @hkN @hk0 @hkd @Zao @hkk) ?_;have F:=@tmz;refine gG ?_;exact ⟨true,⟨fun _=>hf,fun h=>by cases h⟩,gw,gw⟩
  by_cases hN:o.assoc=true∧a.op=t.op
  ·have hf:=hnoA i a ha fun h=>h.nest hN.1 hN.2;obtain ⟨hN1,hN2⟩:=hN;refine fR (aj11 @tmz @Zae @hd @ZaG @hkN @hk0 @hkd @Zao @hkk @hN1 @hN2) ?_;have F:=ai @tmz @hN1;refine gG ?_;exact ⟨true,⟨fun _=>hf,fun h=>by cases h⟩,gw,gw⟩
  have hne:o.assoc=true->¬ a.op=t.op:=fun h1 h2=>hN ⟨h1,h2⟩;rcases Bool.eq_false_or_eq_true o.assoc with hac | hac
  all_goals (
   by_cases hu:o.unit=0
   ·refine fR (aj12 @tmz @Zae @hd @ZaG @hkN @hk0 @hkd @Zao @hkk @hac @hne @hu) ?_;have F:=aj3 @tmz @hac @hu;refine gG ?_;exact ⟨false,⟨fun h=>(by cases h),fun _=>⟨hkk,hne,fun h=>absurd hu h⟩⟩,gw,gw⟩
   refine fC (aj12 @tmz @Zae @hd @ZaG @hkN @hk0 @hkd @Zao @hkk @hac @hne @hu) (cU) ?_;rcases Bool.eq_false_or_eq_true U with hub | hub
   ·have hf:=hnoA i a ha fun h=>by
     rw [hub] at hU;simp only [decide_eq_true_eq] at hU;exact h.unit hu ((hUiff hu).1 hU)
    refine fR (ai @tmz @hub) ?_;have F:=aj3 @tmz @hac @hu;refine gG ?_;exact ⟨true,⟨fun _=>hf,fun h=>by cases h⟩,gw,gw⟩
   ·refine fR (ai @tmz @hub) ?_
    (have F:=aj3 @tmz @hac @hu;refine gG ?_;exact ⟨false,⟨fun h=>(by cases h),fun _=>⟨hkk,hne,fun _=>hub⟩⟩,gw,gw⟩))
 cases x with
 | true =>
  have hf:=hx.1 rfl;exact fT @hf
 | false =>
  obtain ⟨hkk,hne,hub⟩:=hx.2 rfl;refine fG @tmz ?_;rcases Bool.eq_false_or_eq_true o.comm with hcm | hcm
  rotate_left
  ·have hq:=hnext hkk hne hub (fun h=>by rw [hcm] at h;cases h);have F:=aj4 @hw1 @tmz @Zae @hcm;refine gG ?_;exact ⟨i+1,hq,gw,gw,om⟩
  rcases Nat.eq_zero_or_pos i with hi0 | hi0
  ·have hq:=hnext hkk hne hub (fun _ j p h=>om);have hi0':¬ ((0:Int) < (i:Int)):=om;have F:=aj5 @hw1 @tmz @Zae @hcm @hi0';refine gG ?_;exact ⟨i+1,hq,gw,gw,om⟩
  obtain ⟨j,hj⟩:∃ j,i=j+1:=⟨i - 1,om⟩;obtain ⟨p,hp⟩:∃ p,t.args[j]?=some p:=⟨_,Taa om⟩;have cC:=Zdw (k4.mem (Tac hp)) (k4.mem hm);have hgt0:(0:Int) < (i:Int):=om;have hsub:IntKind.i64.wrap ((i:Int) - 1)=(j:Int):=Za2 om om om;refine gB ?_;refine fC (aj6 @tmz @Zae @hcm @hgt0 @hsub @hp) (cC) ?_;by_cases hc:0 < Zah p a
  ·have hf:=hnoA i a ha fun h=>by have:=h.ord hcm j p hj hp;omega
   refine fR (ai @tmz @hc) ?_;exact fT @hf
  ·have hq:=hnext hkk hne hub (fun _ j' p' h hp'=>by
    have:j'=j:=om;subst this;rw [hp] at hp';injection hp' with hp'
    subst hp';omega)
   refine fR (ai @tmz @hc) ?_;have F:=aj4 @hw1 @tmz @Zae @hcm;refine gG ?_;exact ⟨i+1,hq,gw,gw,om⟩
theorem ZlN (hokg:ZbJ g) (hg:SgnOk g):∀ (n:Nat) (t:Tm),sizeTm t < n->okTm t->sizeTm t<=big->Con e0 46 [.agg (Zag g),.agg (Zab t)] [.one (.lit (.bool (ZbR g t)))]:=by
 intro n
 induction n with
 | zero=>intro t h;omega
 | succ n ih =>
  intro t hn hok hb;have hno:¬ ZaD g t->ZbR g t=false:=Zii;obtain ⟨k1,k2,k3,k4⟩:=ZeP.1 hok;have hsz:=ZaO t;have hal:=Zbv t.args;have cN:=ZkZ hg hok hb;have hb':=hb;unfold big at hb';rw [Zag] at cN;have ih':=fun a h1 h2 h3=>ih a h1 h2 h3;simp only [Zag] at ih';refine gI 16794175 Tryz.func46 ?_;refine fB (ai @tmz @Zbj) ?_;refine fC @tmz (cN) ?_;by_cases hN:ZdM g t=true;rotate_left
  ·have hf:=hno fun h=>hN (Ze6 h.node);have hN':ZdM g t=false:=by simpa using hN
   refine fR (ai @tmz @hN') ?_;exact fT @hf
  have hNd:=ZkY.1 hN;refine fR (ai @tmz @hN) ?_;refine fG @tmz ?_;have F:=@e0P;refine gL (ι:=Nat) [4,5,14,24] [] (fun i=>[(5,A.d (.one (.lit (.int .i64 i))))]) (fun i=>[]) (fun i=>i<=t.args.length∧∀ (j:Nat) a,j < i->t.args[j]?=some a->ZaD g a) (fun i=>t.args.length - i) (0) (⟨om,fun j a h=>absurd h om⟩) (fun i hi=>?_);clear F;obtain ⟨hil,hall⟩:=hi;by_cases hl:i < t.args.length;rotate_left
  ·have hl':¬ ((i:Int) < (t.args.length:Int)):=om;have hF:∀ a∈t.args,ZaD g a:=fun a ha=>by
    obtain ⟨j,hj⟩:=Tbj ha;exact hall j a (by have:=(Tad.1 hj).1;omega) hj
   by_cases h1:t.op=-1
   ·have hT:=Ze5 (g:=g) (t:=t) (ZaI.2 ⟨hNd,hF,.inl h1⟩);exact fT (aj4 @tmz @hl' @h1 @hT)
   obtain ⟨o,d,hA⟩:=hNd.app h1;have cR:=Zpy hokg hg hA hF hok hb;rw [Zag] at cR;have e:Zd0 g t.op t.args=ZbR g t:=by
    unfold Zd0 ZbR;congr 1;rw [ZaI];exact propext ⟨fun h=>⟨hNd,hF,.inr h⟩,fun h=>h.2.2.resolve_left h1⟩
   refine fB (aj3 @tmz @hl' @h1) ?_;refine fC (ai @tmz @h1) (cR) ?_;refine fR @tmz ?_;exact fT @e
  have hl':(i:Int) < (t.args.length:Int):=om;obtain ⟨a,ha⟩:∃ a,t.args[i]?=some a:=⟨_,Taa hl⟩;have hm:=Tac ha;have hsa:=ZaX hm;have hw1:=Zap (k:=i) om;refine fB (aj3 @tmz @hl' @ha) ?_;refine fC (ai @tmz @ha) (ih' a om (k4.mem hm) (by unfold big;omega)) ?_;by_cases hfa:ZbR g a=true;rotate_left
  ·have hf:=hno fun h=>hfa (Ze5 ((ZaI.1 h).2.1 a hm));have hfa':ZbR g a=false:=by simpa using hfa
   refine fR (ai @tmz @hfa') ?_;exact fT @hf
  have hq:i+1<=t.args.length∧∀ (j:Nat) a,j < i+1->t.args[j]?=some a->ZaD g a:=⟨om,fun j a' hj ha'=>by
   by_cases e:j=i
   ·subst e;rw [ha] at ha';injection ha' with ha'
    subst ha';exact ZkR.1 hfa
   ·exact hall j a' om ha'⟩
  refine fR (ai @tmz @hfa) ?_;have F:=ai @hw1 @tmz;refine gG ?_;exact ⟨i+1,hq,gw,gw,om⟩
theorem ZrZ (hokg:ZbJ g) (hg:SgnOk g) {t:Tm} (hok:okTm t) (hb:sizeTm t<=big):Con e0 46 [.agg (Zag g),.agg (Zab t)] [.one (.lit (.bool (ZbR g t)))]:=ZlN hokg hg _ t (Tan _) hok hb
theorem Zd1 (hokg:ZbJ g) {t:Tm} (hok:okTm t) (hb:sizeTm t<=big):Con e0 34 [.agg (Zag g),.agg (Zab t)] [.one (.lit (.bool (Zbw g && Zbs g t)))]:=by
 have cS:=ZgD hokg;rw [Zag] at cS;refine gI 31 Tryz.func34 ?_;refine fB (ai @tmz @Zbj) ?_;refine fC @tmz (cS) ?_;by_cases hs:Zbw g=true;rotate_left
 ·have hs':Zbw g=false:=by simpa using hs
  refine fR (ai @tmz @hs') ?_;exact fT @hs'
 have hg:=Zdm.1 hs;have cF:=ZrZ hokg hg hok hb;rw [Zag] at cF;refine fC (ai @tmz @hs) (ZgH hb) ?_;by_cases h1:sizeTm t<=60∧depthTm t<=20;rotate_left
 ·have hf:Zbs g t=false:=Zij fun h=>h1 ⟨h.size,h.depth⟩;have h1':decide (sizeTm t<=60∧depthTm t<=20)=false:=by simp only [decide_eq_false_iff_not];exact h1
  refine fR (aj3 @tmz @h1' @hs) ?_;exact fT (ai @hs @hf)
 have h1':decide (sizeTm t<=60∧depthTm t<=20)=true:=by simp only [decide_eq_true_eq];exact h1
 have e:=Zjv (g:=g) h1.1 h1.2;refine fC (aj3 @tmz @h1' @hs) (cF) ?_;refine fR (aj3 @tmz @h1' @hs) ?_;exact fT (ai @hs @e)
end
def ZaW (o:Opr) (op:Int) (a:Tm):List Tm:=if o.assoc=true∧a.op=op then a.args else if o.unit≠0∧a.op=o.unit - 1 then [] else [a]
def Zaj (o:Opr) (op:Int) (xs:List Tm):List Tm:=xs.flatMap (ZaW o op)
def KArg (g:Sgn) (o:Opr) (d:Dcl) (i:Nat) (a:Tm):Prop:=∃ k,d.args[argAt o i]?=some k∧ZbD g a=kd g.sorts k
def srtO (o:Opr) (l:List Tm):List Tm:=if o.comm=true then ZbE l else l
def appT (op:Int) (l:List Tm):Tm:=.mk op ByteArray.empty 0 l
def BigT (o:Opr) (op:Int) (l:List Tm):Prop:=(o.assoc=true∧7 < l.length)∨60 < sizeTm (appT op l)∨20 < depthTm (appT op l)
def ArB (o:Opr) (d:Dcl) (n:Nat):Prop:=(o.assoc=true∧n < 2)∨(o.assoc=false∧n≠d.args.length)
open Classical in
noncomputable def mkL (o:Opr) (op:Int) (l:List Tm):Option Tm:=if o.unit≠0∧l.length < 2 then some (l.headD (ZaE o)) else if BigT o op (srtO o l) then none else some (appT op (srtO o l))
open Classical in
noncomputable def mkO (g:Sgn) (o:Opr) (d:Dcl) (op:Int) (xs:List Tm):Option Tm:=if ArB o d xs.length then none else if ∀ (i:Nat) a,xs[i]?=some a->KArg g o d i a then mkL o op (Zaj o op xs) else none
noncomputable def mkT (g:Sgn) (op:Int) (xs:List Tm):Option Tm:=match g.ops[op.toNat]? with
 | none=>none
 | some o=>match o.decls[0]? with
  | none=>none
  | some d=>mkO g o d op xs
theorem Zok {g:Sgn} {op:Int} {o:Opr} {d:Dcl} (ho:g.ops[op.toNat]?=some o) (hd:o.decls[0]?=some d) (xs:List Tm):mkT g op xs=mkO g o d op xs:=by simp only [mkT,ho,hd]
theorem ZjA {o:Opr} {op:Int} {xs:List Tm} {i:Nat} {a:Tm} (h:xs[i]?=some a):Zaj o op (xs.take (i+1))=Zaj o op (xs.take i)++ZaW o op a:=by
 rw [ZfY h];simp [Zaj]
theorem Zgl (o:Opr) (op:Int) (xs:List Tm) (i:Nat):(Zaj o op (xs.take i)).length<=(Zaj o op xs).length:=by
 have:Zaj o op xs=Zaj o op (xs.take i)++Zaj o op (xs.drop i):=by
  unfold Zaj;rw [<- List.flatMap_append,Tbl]
 rw [this,Tae];omega
theorem ZdN (o:Opr) (l:List Tm):(srtO o l).Perm l:=by
 unfold srtO;split
 ·exact ZbT l
 ·exact List.Perm.refl _
theorem ZeQ (o:Opr) (l:List Tm):(srtO o l).length=l.length:=(ZdN o l).length_eq
theorem Zip {l m:List Tm} (h:l.Perm m):sizeTms l=sizeTms m:=by
 induction h with
 | nil=>rfl
 | cons x h ih=>simp only [sizeTms,ih]
 | swap x y l=>simp only [sizeTms];omega
 | trans h1 h2 a b=>rw [a,b]
theorem Zfi {l m:List Tm} (h:l.Perm m):depthTms l=depthTms m:=by
 induction h with
 | nil=>rfl
 | cons x h ih=>simp only [depthTms,ih]
 | swap x y l=>simp only [depthTms];omega
 | trans h1 h2 a b=>rw [a,b]
theorem Opr.two {g:Sgn} (hg:SgnOk g) {i:Nat} {o:Opr} {d:Dcl} (ho:g.ops[i]?=some o) (hd:o.decls[0]?=some d) (h:o.assoc=true∨o.comm=true∨o.unit≠0):∃ k1 k2,d.args=[k1,k2]∧kd g.sorts k1=kd g.sorts k2∧((o.assoc=true∨o.unit≠0)->kd g.sorts k1=kd g.sorts d.res):=by
 have h2:=(hg.axs o (Tac ho)).two h d hd;obtain ⟨a,b,hab⟩:=Zn3 h2.1;have h3:=h2.2 a b (by rw [hab];rfl) (by rw [hab];rfl);exact ⟨a,b,hab,h3.1,h3.2.1⟩
theorem Zmr {g:Sgn} (hg:SgnOk g) {i:Nat} {o:Opr} {d:Dcl} (ho:g.ops[i]?=some o) (hd:o.decls[0]?=some d) (hu:o.unit≠0):TermOk g (ZaE o)∧ZbD g (ZaE o)=kd g.sorts d.res:=by
 have hax:=hg.axs o (Tac ho);have hlo:=hax.lo;have hhi:=hax.hi;obtain ⟨k1,k2,hk,_⟩:=Opr.two hg ho hd (.inr (.inr hu));obtain ⟨p,hp⟩:∃ p,g.ops[o.unit.toNat - 1]?=some p:=⟨_,Taa om⟩;obtain ⟨u,hfu,_⟩:=hg.first hp;have h2:=((hax.two (.inr (.inr hu)) d hd).2 k1 k2 (by rw [hk];rfl) (by rw [hk];rfl)).2.2 hu p u hp hfu;have e:ZaE o=.mk (o.unit - 1) ByteArray.empty 0 []:=by simp only [ZaE,if_neg hu]
 have hop:((o.unit - 1:Int)).toNat=o.unit.toNat - 1:=om;have has:p.assoc=false:=by
  cases hpa:p.assoc with
  | false=>rfl
  | true=>have:=((hg.axs p (Tac hp)).two (.inl hpa) u hfu).1;omega
 have hA:AppOk g (ZaE o) p u:=by
  rw [e];exact ⟨by simp only [Tm.op];omega,by simp only [Tm.op];rw [hop];exact hp,hfu,rfl,rfl,fun h=>(by rw [has] at h;cases h),fun _=>by simp only [Tm.args,Tak];omega⟩
 refine ⟨⟨?_,?_,ZaI.2 ⟨.inr ⟨p,u,hA⟩,?_,.inr ?_⟩⟩,?_⟩
 ·rw [e];simp only [sizeTm,sizeTms];omega
 ·rw [e];simp only [depthTm,depthTms];omega
 ·rw [e];intro a ha;simp [Tm.args] at ha
 ·rw [e];intro o' d' _ _ j a ha;simp [Tm.args] at ha
 ·have hneg:¬ ((ZaE o).op=-1):=hA.op;rw [ZbD,if_neg hneg,e];simp only [Tm.op];rw [Zhp (by rw [hop];exact hp) hfu,h2.2]
structure FlOk (g:Sgn) (o:Opr) (op:Int) (b:Tm):Prop where
 form:ZaD g b
 size:sizeTm b<=60
 depth:depthTm b<=20
 nest:o.assoc=true->b.op≠op
 unit:o.unit≠0->b.op≠o.unit - 1
theorem ZAM {g:Sgn} (hg:SgnOk g) {op:Int} {o:Opr} {d:Dcl} (h0:0<=op) (ho:g.ops[op.toNat]?=some o) (hd:o.decls[0]?=some d) {a:Tm} (ha:TermOk g a):∀ b∈ZaW o op a,FlOk g o op b:=by
 intro b hb;unfold ZaW at hb;split at hb
 ·rename_i h;obtain ⟨h1,h2⟩:=h;obtain ⟨_,f2,f3⟩:=ZaI.1 ha.form;have hR:=f3.resolve_left om;rw [h2] at hR;obtain ⟨j,hj⟩:=Tbj hb;have hA:=hR o d ho hd j b hj;have s1:=ZaX hb;have s2:=ZeD hb;have s3:=ha.size;have s4:=ha.depth;rw [ZaO] at s3;rw [ZcZ] at s4;exact ⟨f2 b hb,om,om,hA.nest,hA.unit⟩
 ·rename_i h;split at hb
  ·simp at hb
  ·rename_i h';simp only [Tbi] at hb;subst hb;exact ⟨ha.form,ha.size,ha.depth,fun h1 h2=>h ⟨h1,h2⟩,fun h1 h2=>h' ⟨h1,h2⟩⟩
theorem Zvw {g:Sgn} (hg:SgnOk g) {op:Int} {o:Opr} {d:Dcl} (h0:0<=op) (ho:g.ops[op.toNat]?=some o) (hd:o.decls[0]?=some d) {xs:List Tm} (ha:∀ a∈xs,TermOk g a):∀ b∈Zaj o op xs,FlOk g o op b:=by
 intro b hb;obtain ⟨a,h1,h2⟩:=List.mem_flatMap.1 hb;exact ZAM hg h0 ho hd (ha a h1) b h2
theorem ZzE {g:Sgn} (hg:SgnOk g) {op:Int} {o:Opr} {d:Dcl} {k1 k2:Int} (h0:0<=op) (ho:g.ops[op.toNat]?=some o) (hd:o.decls[0]?=some d) (hk:d.args=[k1,k2]) (hkk:kd g.sorts k1=kd g.sorts k2) {a:Tm} (ha:TermOk g a) {i:Nat} (hK:KArg g o d i a):∀ b∈ZaW o op a,ZbD g b=kd g.sorts k1:=by
 have hat:∀ (j:Nat) k,d.args[j]?=some k->kd g.sorts k=kd g.sorts k1:=fun j k h=>by
  rw [hk] at h
  match j,h with
  | 0,h=>simp only [Tat,Taq] at h;rw [h]
  | 1,h=>simp only [Tau,Tat,Taq] at h;rw [<- h,hkk]
  | j+2,h=>simp at h
 intro b hb;unfold ZaW at hb;split at hb
 ·rename_i h;obtain ⟨h1,h2⟩:=h;obtain ⟨_,f2,f3⟩:=ZaI.1 ha.form;have hR:=f3.resolve_left om;rw [h2] at hR;obtain ⟨j,hj⟩:=Tbj hb;exact (hR o d ho hd j b hj).kind k1 (by rw [argAt,if_pos h1,hk];rfl)
 ·split at hb
  ·simp at hb
  ·simp only [Tbi] at hb;subst hb;obtain ⟨k,h1,h2⟩:=hK;rw [h2,hat _ _ h1]
theorem ZjB {g:Sgn} (hg:SgnOk g) {op:Int} {o:Opr} {d:Dcl} {k1 k2:Int} (h0:0<=op) (ho:g.ops[op.toNat]?=some o) (hd:o.decls[0]?=some d) (hk:d.args=[k1,k2]) (hkk:kd g.sorts k1=kd g.sorts k2) {xs:List Tm} (ha:∀ a∈xs,TermOk g a) (hK:∀ (i:Nat) a,xs[i]?=some a->KArg g o d i a):∀ b∈Zaj o op xs,ZbD g b=kd g.sorts k1:=by
 intro b hb;obtain ⟨a,h1,h2⟩:=List.mem_flatMap.1 hb;obtain ⟨i,hi⟩:=Tbj h1;exact ZzE hg h0 ho hd hk hkk (ha a h1) (hK i a hi) b h2
theorem Zms {o:Opr} {op:Int} (has:o.assoc=false) (a:Tm):(ZaW o op a).length<=1∧((ZaW o op a).length=1->ZaW o op a=[a]):=by
 unfold ZaW;rw [if_neg fun h=>by rw [has] at h;cases h.1];split <;> simp
theorem Zf0 {o:Opr} {op:Int} (has:o.assoc=false):∀ (xs:List Tm),(Zaj o op xs).length<=xs.length∧((Zaj o op xs).length=xs.length->Zaj o op xs=xs)
 | []=>⟨Tai _,fun _=>rfl⟩
 | a::xs=>by
  obtain ⟨i1,i2⟩:=Zf0 (op:=op) has xs;obtain ⟨j1,j2⟩:=Zms (op:=op) has a;have e:Zaj o op (a::xs)=ZaW o op a++Zaj o op xs:=rfl;rw [e,Tae,Tag];refine ⟨om,fun h=>?_⟩;rw [j2 om,i2 om];rfl
theorem ZgI {o:Opr} {op:Int} (has:o.assoc=false) (hu:o.unit=0) (xs:List Tm):Zaj o op xs=xs:=by
 induction xs with
 | nil=>rfl
 | cons a xs ih =>
  have e:Zaj o op (a::xs)=ZaW o op a++Zaj o op xs:=rfl;rw [e,ih];unfold ZaW;rw [if_neg (fun h=>by rw [has] at h;cases h.1),if_neg fun h=>h.1 hu];rfl
theorem Zht {o:Opr} {op:Int} {g:Sgn} (hg:SgnOk g) (h0:0<=op) (ho:g.ops[op.toNat]?=some o) (hac:o.assoc=true) (hu:o.unit=0):∀ {xs:List Tm},(∀ a∈xs,TermOk g a)->xs.length<=(Zaj o op xs).length
 | [],_=>Tai _
 | a::xs,ha=>by
  have ih:=Zht hg h0 ho hac hu (xs:=xs) fun x hx=>ha x (Tal _ hx);have e:Zaj o op (a::xs)=ZaW o op a++Zaj o op xs:=rfl;rw [e,Tae,Tag];have:1<=(ZaW o op a).length:=by
   unfold ZaW;split
   ·rename_i h;obtain ⟨o',d',hA⟩:=(ha a Tas).form.node.app om;have:o'=o:=by have:=hA.at';rw [h.2,ho] at this;injection this with this;exact this.symm
    subst this;have:=(hA.asc hac).1;omega
   ·rw [if_neg fun h=>h.1 hu];simp
  omega
theorem ZAk {g:Sgn} (hg:SgnOk g) {op:Int} {o:Opr} {d:Dcl} (h0:0<=op) (ho:g.ops[op.toNat]?=some o) (hd:o.decls[0]?=some d) {xs:List Tm} (ha:∀ a∈xs,TermOk g a) {t:Tm} (h:mkO g o d op xs=some t):TermOk g t∧ZbD g t=kd g.sorts d.res:=by
 unfold mkO at h;split at h
 ·cases h
 rename_i hAr;split at h;rotate_left
 ·cases h
 rename_i hK;have hfl:=Zvw hg h0 ho hd ha;unfold mkL at h;split at h
 ·rename_i hu;obtain ⟨hu,hl⟩:=hu;injection h with h
  have hU:=Zmr hg ho hd hu;obtain ⟨k1,k2,hk,hkk,hkr⟩:=Opr.two hg ho hd (.inr (.inr hu));have hfk:=ZjB hg h0 ho hd hk hkk ha hK
  cases hf:Zaj o op xs with
  | nil=>rw [hf] at h;simp only [List.headD] at h;subst h;exact hU
  | cons b bs =>
   rw [hf] at h hfl hfk;simp only [List.headD] at h;subst h;have hb:=hfl b Tas;exact ⟨⟨hb.size,hb.depth,hb.form⟩,by rw [hfk b Tas,hkr (.inr hu)]⟩
 ·rename_i hu;split at h
  ·cases h
  rename_i hB;injection h with h
  subst h;have hB1:¬ (o.assoc=true∧7 < (srtO o (Zaj o op xs)).length):=fun q=>hB (.inl q);have hB2:¬ 60 < sizeTm (appT op (srtO o (Zaj o op xs))):=fun q=>hB (.inr (.inl q));have hB3:¬ 20 < depthTm (appT op (srtO o (Zaj o op xs))):=fun q=>hB (.inr (.inr q));have hp:=ZdN o (Zaj o op xs);have hsl:=hp.length_eq;have hmem:∀ b,b∈srtO o (Zaj o op xs) ↔ b∈Zaj o op xs:=fun b=>hp.mem_iff;have hneg:¬ ((appT op (srtO o (Zaj o op xs))).op=-1):=by simp only [appT,Tm.op];omega
  refine ⟨⟨om,om,ZaI.2 ⟨.inr ⟨o,d,h0,ho,hd,rfl,rfl,fun hac=>?_,fun has=>?_⟩,fun a hm=>(hfl a ((hmem a).1 hm)).form,.inr ?_⟩⟩,?_⟩
  ·simp only [appT,Tm.args];have:¬ (xs.length < 2):=fun q=>hAr (.inl ⟨hac,q⟩);by_cases hu0:o.unit=0
   ·have:=Zht hg h0 ho hac hu0 ha;exact ⟨om,by have:¬ (7 < (srtO o (Zaj o op xs)).length):=fun q=>hB1 ⟨hac,q⟩;omega⟩
   ·exact ⟨by have:¬ ((Zaj o op xs).length < 2):=fun q=>hu ⟨hu0,q⟩;omega,by have:¬ (7 < (srtO o (Zaj o op xs)).length):=fun q=>hB1 ⟨hac,q⟩;omega⟩
  ·simp only [appT,Tm.args];have hlen:xs.length=d.args.length:=Classical.byContradiction fun q=>hAr (.inr ⟨has,q⟩);rw [hsl];by_cases hu0:o.unit=0
   ·rw [ZgI has hu0,hlen]
   ·obtain ⟨k1,k2,hk,_⟩:=Opr.two hg ho hd (.inr (.inr hu0));have h1:=(Zf0 (op:=op) has xs).1;have:¬ ((Zaj o op xs).length < 2):=fun q=>hu ⟨hu0,q⟩;rw [hlen,hk] at h1;rw [hk];simp only [Tag,Tak] at h1 ⊢;omega
  ·intro o' d' ho' hd' i a hi;simp only [appT,Tm.op] at ho';rw [ho] at ho';injection ho' with ho'
   subst ho';rw [hd] at hd';injection hd' with hd'
   subst hd';simp only [appT,Tm.args] at hi ⊢;have hm:=Tac hi;have hf:=hfl a ((hmem a).1 hm);refine ⟨fun k hk=>?_,hf.nest,hf.unit,fun hc j p hij hj=>?_⟩
   ·by_cases hax:o.assoc=true∨o.comm=true∨o.unit≠0
    ·obtain ⟨k1,k2,hka,hkk,_⟩:=Opr.two hg ho hd hax;have hfk:=ZjB hg h0 ho hd hka hkk ha hK a ((hmem a).1 hm);rw [hfk];have:kd g.sorts k=kd g.sorts k1:=by
      generalize argAt o i=n at hk;rw [hka] at hk
      match n,hk with
      | 0,hk=>simp only [Tat,Taq] at hk;rw [hk]
      | 1,hk=>simp only [Tau,Tat,Taq] at hk;rw [<- hk,hkk]
      | n+2,hk=>simp at hk
     rw [this]
    ·have has:o.assoc=false:=by cases h:o.assoc with | false=>rfl | true=>exact absurd (.inl h) hax
     have hc:o.comm=false:=by cases h:o.comm with | false=>rfl | true=>exact absurd (.inr (.inl h)) hax
     have hu0:o.unit=0:=Classical.byContradiction fun q=>hax (.inr (.inr q));rw [srtO,if_neg (by rw [hc];simp),ZgI has hu0] at hi;obtain ⟨k',h1,h2⟩:=hK i a hi;rw [hk] at h1;injection h1 with h1
     rw [h2,h1]
   ·rw [srtO,if_pos hc] at hi hj;exact (ZdL _).get om hj hi
  ·rw [ZbD,if_neg hneg];simp only [appT,Tm.op];rw [Zhp ho hd]
theorem ZaD.ok {g:Sgn} (hg:SgnOk g):∀ (n:Nat) (t:Tm),sizeTm t < n->ZaD g t->okTm t:=by
 intro n
 induction n with
 | zero=>intro t h;omega
 | succ n ih =>
  intro t hn hf;obtain ⟨h1,h2,_⟩:=ZaI.1 hf;have hargs:Zaw t.args:=by
   have:∀ l:List Tm,(∀ a∈l,okTm a)->Zaw l:=fun l=>by
    induction l with
    | nil=>intro _;trivial
    | cons x xs ih=>intro h;exact ⟨h x Tas,ih fun a ha=>h a (Tal _ ha)⟩
   refine this _ fun a ha=>ih a ?_ (h2 a ha);have:=ZaX ha;rw [ZaO] at hn;omega
  rw [ZeP];have hsn:g.sorts.names.length<=8:=hg.sorts.n8;rcases h1 with hv | ⟨o,d,hA⟩
  ·obtain ⟨v1,v2,v3,v4,v5⟩:=hv;have:t.name.size<=12:=by unfold Za7 at v2;simp only [Tar,decide_eq_true_eq] at v2;exact v2.1.1.1.2
   exact ⟨by unfold I64;omega,by unfold maxLen;omega,by unfold I64;omega,hargs⟩
  ·have h3:=hA.lo;have h4:=(Tad.1 hA.at').1;have h5:=hg.len;rw [hA.nm,hA.so];exact ⟨by unfold I64;omega,by simp [maxLen],by unfold I64;omega,hargs⟩
theorem TermOk.ok {g:Sgn} (hg:SgnOk g) {t:Tm} (h:TermOk g t):okTm t:=ZaD.ok hg _ t (Tan _) h.form
def Zcc (w:World):List (List C)->(Nat->Prop)->List (List Value)->Prop
 | [],_,[]=>True
 | r::rs,S,us::uss=>∃ S1 S2:Nat->Prop,(∀ x,S1 x->S x)∧(∀ x,S2 x->S x)∧(∀ x,S1 x->S2 x->False)∧Zam w r S1 us∧Zcc w rs S2 uss
 | _,_,_=>False
def ZbF (us:List Value):List C:=us.map .lit
section
variable {w w':World}
theorem Zcc.keep (hz:w.heap.size<=w'.heap.size):∀ (rows:List (List C)) (S S':Nat->Prop) (uss:List (List Value)),(∀ b,S b->w'.heap[b]?=w.heap[b]?)->(∀ b,S b->S' b)->Zcc w rows S uss->Zcc w' rows S' uss
 | [],_,_,[],_,_,_=>trivial
 | r::rs,S,S',us::uss,hk,hS,h=>by
  obtain ⟨S1,S2,h1,h2,hd,hr,hrs⟩:=h;exact ⟨S1,S2,fun x hx=>hS x (h1 x hx),fun x hx=>hS x (h2 x hx),hd,Zam.keep hz r S1 S1 us (fun x hx=>hk x (h1 x hx)) (fun _ h=>h) hr,Zcc.keep hz rs S2 S2 uss (fun x hx=>hk x (h2 x hx)) (fun _ h=>h) hrs⟩
 | [],_,_,_::_,_,_,h=>h.elim
 | _::_,_,_,[],_,_,h=>h.elim
theorem Zcc.len:∀ {rows:List (List C)} {S:Nat->Prop} {uss:List (List Value)},Zcc w rows S uss->uss.length=rows.length
 | [],_,[],_=>rfl
 | r::rs,S,us::uss,⟨S1,S2,_,_,_,_,h⟩=>by simp [Zcc.len h]
theorem Zcc.snoc:∀ {rows:List (List C)} {r:List C} {S S1 S2:Nat->Prop} {uss:List (List Value)} {us:List Value},Zcc w rows S1 uss->Zam w r S2 us->(∀ x,S1 x->S x)->(∀ x,S2 x->S x)->(∀ x,S1 x->S2 x->False)->Zcc w (rows++[r]) S (uss++[us])
 | [],r,S,S1,S2,[],us,_,h2,i1,i2,hd=>⟨S2,fun _=>False,i2,fun _ h=>h.elim,fun _ _ h=>h,h2,trivial⟩
 | q::qs,r,S,S1,S2,vs::vss,us,⟨T1,T2,a1,a2,a3,a4,a5⟩,h2,i1,i2,hd =>
  ⟨T1,fun x=>T2 x∨S2 x,fun x hx=>i1 x (a1 x hx),fun x hx=>hx.elim (fun h=>i1 x (a2 x h)) (i2 x),fun x hx hy=>hy.elim (a3 x hx) (hd x (a1 x hx)),a4,
   Zcc.snoc a5 h2 (fun _ h=>.inl h) (fun _ h=>.inr h) (fun x hx hy=>hd x (a2 x hx) hy)⟩
 | [],_,_,_,_,_::_,_,h,_,_,_,_=>h.elim
 | _::_,_,_,_,_,[],_,h,_,_,_,_=>h.elim
theorem Zcc.get:∀ {rows:List (List C)} {S:Nat->Prop} {uss:List (List Value)} {i:Nat} {r:List C} {us:List Value},Zcc w rows S uss->rows[i]?=some r->uss[i]?=some us->Zam w r S us
 | r::rs,S,us::uss,0,r',us',⟨S1,S2,h1,_,_,h,_⟩,hr,hu=>by
  simp at hr hu;subst hr hu;exact Zam.keep (Tai _) r S1 S us (fun _ _=>rfl) h1 h
 | r::rs,S,us::uss,i+1,r',us',⟨S1,S2,_,h2,_,_,h⟩,hr,hu =>
  Zam.keep (Tai _) r' S2 S us' (fun _ _=>rfl) h2 (Zcc.get h (by simpa using hr) (by simpa using hu))
 | [],_,_,_,_,_,_,hr,_=>by simp at hr
 | _::_,_,[],_,_,_,h,_,_=>h.elim
theorem Zcc.stable (rows:List (List C)) (E:Nat->Prop) (uss:List (List Value)):ZdE E (fun w=>Zcc w rows E uss):=fun w w' hz hk h=>Zcc.keep hz rows E E uss hk (fun _ h=>h) h
theorem Zam.stable (r:List C) (E:Nat->Prop) (us:List Value):ZdE E (fun w=>Zam w r E us):=fun w w' hz hk h=>Zam.keep hz r E E us hk (fun _ h=>h) h
theorem Own.stable (c:C) (E:Nat->Prop) (v:Value):ZdE E (fun w=>Own w c E v):=fun w w' hz hk h=>Own.keep hz c E E v hk (fun _ h=>h) h
theorem ZjC {S:Nat->Prop}:∀ {us vs:List Value},Zad w S (ZbF us) vs->vs=us
 | [],[],_=>rfl
 | u::us,v::vs,h=>by
  simp only [ZbF,Tbt,Zad,Rep] at h;rw [h.1,ZjC h.2]
 | [],_::_,h=>by simp [ZbF,Zad] at h
 | _::_,[],h=>by simp [ZbF,Zad] at h
theorem ZbC.open {b:Nat}:∀ {cs:List C} {S:Nat->Prop} {off:Nat},ZbC w b cs S off->∃ us,Zam w cs S us∧∀ j u,us[j]?=some u->w.cell? ⟨b,off+j,none⟩=some u
 | [],S,off,_=>⟨[],Zam.nil,fun j u h=>by simp at h⟩
 | c::cs,S,off,h=>by
  simp only [ZbC] at h;obtain ⟨S1,S2,u,h1,h2,hd,hu,hc,hcs⟩:=h;obtain ⟨us,k1,k2⟩:=ZbC.open hcs;refine ⟨u::us,Zam.cons S1 S2 hc k1 h1 h2 hd,fun j v hj=>?_⟩
  cases j with
  | zero=>simp at hj;subst hj;exact hu
  | succ j=>have:=k2 j v (by simpa using hj);rw [<- this];congr 2;omega
theorem Zbg.open {b:Nat}:∀ {rows:List (List C)} {S:Nat->Prop} {off:Nat},Zbg w b rows S off->∃ uss,Zcc w rows S uss∧∀ T:Nat->Prop,Zaq w T b off (uss.map ZbF)
 | [],S,off,_=>⟨[],trivial,fun T=>by simp [Zaq]⟩
 | r::rs,S,off,h=>by
  simp only [Zbg] at h;obtain ⟨S1,S2,h1,h2,hd,hr,hrs⟩:=h;obtain ⟨us,k1,k2⟩:=ZbC.open hr;obtain ⟨uss,k3,k4⟩:=Zbg.open hrs;refine ⟨us::uss,⟨S1,S2,h1,h2,hd,k1,k3⟩,fun T=>?_⟩;simp only [Tbt,Zaq];refine ⟨Zaf.of_vals _ us off (ZfL us) k2,?_⟩;rw [show (ZbF us).length=r.length by simp [ZbF,k1.len]];exact k4 T
theorem Zam.cells:∀ {cs:List C} {S:Nat->Prop} {us:List Value},Zam w cs S us->cs.all Zay=true->(ZbF us).all Zay=true
 | [],_,[],_,_=>rfl
 | c::cs,S,u::us,h,hc=>by
  simp only [Zam] at h;obtain ⟨S1,S2,_,_,_,h1,h2⟩:=h;simp only [List.all_cons,Tar] at hc;simp only [ZbF,Tbt,List.all_cons,Tar];exact ⟨Zfn (c:=c) hc.1 (Own.rep c S1 u h1),Zam.cells h2 hc.2⟩
 | [],_,_::_,h,_=>by simp [Zam] at h
 | _::_,_,[],h,_=>by simp [Zam] at h
theorem Own.open {T:Nat->Prop} {rows:List (List C)} {E:Nat->Prop} {a:Option Addr} {n cap sz:Nat} (hT:∀ b,E b->¬ T b) (hne:rows≠[]) (hrl:rowsLen sz rows) (h:Own w (.sl rows) E (.slice a n cap)) :
  ∃ uss ety E',n=uss.length∧ZaR w T ety sz (uss.map ZbF) (.slice a uss.length cap)∧Zcc w rows E' uss∧(∀ b,E' b->E b∧vblk (.slice a uss.length cap)≠some b)∧∀ b,vblk (.slice a uss.length cap)=some b->E b:=by
 simp only [Own] at h;obtain ⟨A,n',cap',hv,hn,hle,hmx,hb⟩:=h;injection hv with e1 e2 e3
 subst e1 e2 e3;have h0:0 < rows.length:=List.length_pos_iff.2 hne;obtain ⟨b,off,S',rfl,hEb,hbl,⟨hfr,rfl,cur,ety,sz',hh,hcs,hz,hrs⟩,hS',hrows⟩:=hb om;obtain ⟨uss,k1,k2⟩:=Zbg.open hrows;have hl:=k1.len;have hsz:sz'=sz:=by
  obtain ⟨r,hr⟩:=List.exists_mem_of_ne_nil _ hne;rw [<- hrs r hr,(hrl r hr).1]
 subst hsz;have hvb:vblk (.slice (some ⟨b,0,none⟩) uss.length cap)=some b:=by simp only [vblk];rw [if_neg om]
 have hrow:rowsLen sz' (uss.map ZbF):=fun x hx=>by
  obtain ⟨us,hus,rfl⟩:=Tbh.1 hx;obtain ⟨i,hi⟩:=Tbj hus;have hil:=(Tad.1 hi).1;obtain ⟨r,hr⟩:∃ r,rows[i]?=some r:=⟨_,Taa om⟩;have hov:=k1.get hr hi;have hrm:=hrl r (Tac hr);exact ⟨by simp only [ZbF,Tax];rw [hov.len];exact hrm.1,hov.cells hrm.2⟩
 refine ⟨uss,ety,S',om,⟨hz,hrow,.inr ⟨b,cap,cur,by simp,om,hbl,hT b hEb,hh,by simp only [Tax];omega,hmx,hcs,k2 T⟩⟩,k1,fun x hx=>⟨(hS' x hx).1,fun e=>?_⟩,fun x hx=>?_⟩
 ·rw [hvb] at e;injection e with e;exact (hS' x hx).2 e.symm
 ·rw [hvb] at hx;injection hx with hx;rw [<- hx];exact hEb
end
theorem ZzF (x:Bk):Zeb [x]:=⟨by simp,trivial⟩
def Zno (row:List C) (r:List D) (pm:List Bk):Prop:=∃ us E,r=[.agg (ZbF us)]∧us.length=row.length∧(ZbF us).all Zay=true∧pm=[.set E (fun w=>Zam w row E us)]
def Zvx (ety sz:Nat) (rows:List (List C)) (r:List D) (pm:List Bk):Prop:=∃ a cap uss E,r=[.one (.lit (.slice a uss.length cap))]∧uss.length=rows.length∧pm=[.buf (some (a,cap)) ety sz (uss.map ZbF),.set E (fun w=>Zcc w rows E uss)]
theorem Zno.mk {row:List C} {us:List Value} {E:Nat->Prop} (h:us.length=row.length) (hok:(ZbF us).all Zay=true):Zno row [.agg (ZbF us)] [.set E (fun w=>Zam w row E us)]:=⟨us,E,rfl,h,hok,rfl⟩
theorem Zvx.mk {ety sz:Nat} {rows:List (List C)} {a:Option Addr} {cap:Nat} {uss:List (List Value)} {E:Nat->Prop} (h:uss.length=rows.length):Zvx ety sz rows [.one (.lit (.slice a uss.length cap))] [.buf (some (a,cap)) ety sz (uss.map ZbF),.set E (fun w=>Zcc w rows E uss)]:=⟨a,cap,uss,E,rfl,h,rfl⟩
theorem Zmt {n:Nat}:∀ {rows:List (List C)} (l:Nat),rowsLen n rows->(rows.take l).flatten=rows.flatten.take (l * n)
 | [],l,_=>by simp
 | r::rs,0,_=>by simp
 | r::rs,l+1,h=>by
  have h1:=(h r Tas).1;have h2:=Zmt (n:=n) l (fun x hx=>h x (Tal _ hx):rowsLen n rs);simp only [Tbb,List.flatten_cons,h2];rw [show (l+1) * n=r.length+l * n by rw [h1,Nat.succ_mul,Nat.add_comm],List.take_length_add_append]
theorem Zmu {n:Nat}:∀ {rows:List (List C)} (l:Nat),rowsLen n rows->(rows.drop l).flatten=rows.flatten.drop (l * n)
 | [],l,_=>by simp
 | r::rs,0,_=>by simp
 | r::rs,l+1,h=>by
  have h1:=(h r Tas).1;have h2:=Zmu (n:=n) l (fun x hx=>h x (Tal _ hx):rowsLen n rs);simp only [List.drop_succ_cons,List.flatten_cons,h2];rw [show (l+1) * n=r.length+l * n by rw [h1,Nat.succ_mul,Nat.add_comm],List.drop_length_add_append]
section
variable {e:Env} {U:Nat->Prop} {w0:World} {S0:Nat->Prop} {nt:Nat} {σ:St} {a:Act} {w:World} {S:Nat->Prop} {L:Lay}
theorem Sim.storeRows (h:Sim e U w0 S0 nt σ a w S L) (he:e.Ok) {o:Option (Option Addr × Nat)} {k l g ety sz:Nat} {rows news:List (List C)} {vs:List Value} (hm:gm σ.m k=some (.buf o ety sz rows)) (hg:vblk (L.v k)=some g) (hl:l+news.length<=rows.length) (hn:rowsLen sz news) (hu:Zad w S news.flatten vs) :
  ∃ w',(storeCells ⟨g,l * sz,none⟩ vs).run e.P w=.ok () w'∧SimE e U w0 S0 nt ⟨σ.s,(k,.buf o ety sz (rows.take l++news++rows.drop (l+news.length)))::remM k σ.m⟩ a w':=by
 obtain ⟨hb0,hs0,hrl,h3⟩:=h.cls.own k _ hm;have hvl:=hu.len;have h1:=Zly hn;rw [Zb1 hn] at hvl;rcases h3 with ⟨h3,p,h4⟩ | ⟨g',cap,cur,hv,hcp,hg1,hg2,hheap0,hlen,hcap,hcs,hrows⟩
 ·rw [h4] at hg;cases p <;> simp [vblk] at hg
 ·have hgg:g'=g:=by rw [hv] at hg;simp only [vblk] at hg;rw [if_neg om] at hg;injection hg
  subst hgg;have hfl:=Zb1 hrl;have hin:l * sz+vs.length<=rows.length * sz:=by
   have:=Nat.mul_le_mul_right sz hl;rw [Nat.add_mul] at this;omega
  have hin2:rows.length * sz<=cap * sz:=Nat.mul_le_mul_right sz hlen;have hst:=run_storeCells_at e.P g' (l * sz) ety vs 0 cur w hheap0 (by rw [hcs];omega) (Zew h1 hu);simp only [Nat.add_zero] at hst;have hput:=Zfm w g' (l * sz) ety vs cur hheap0 (by rw [hcs];omega);refine ⟨_,hst,?_⟩;have hheap:=setRow_heap w g' cur (cur.toList.take (l * sz)++vs++cur.toList.drop (l * sz+vs.length)).toArray ety _ hheap0
  have hdr:(w.setRow g' (cur.toList.take (l * sz)++vs++cur.toList.drop (l * sz+vs.length)).toArray).drawn=w.drawn:=Zex _ _ _;generalize hW:w.setRow g' (cur.toList.take (l * sz)++vs++cur.toList.drop (l * sz+vs.length)).toArray=W at hput hheap hdr ⊢;have hsz:W.heap.size=w.heap.size:=hput.size;have hkc:∀ b o,S b->W.cell? ⟨b,o,none⟩=w.cell? ⟨b,o,none⟩:=fun b o hs=>Zbk (hput.other b (fun e=>hg2 (e ▸ hs))) o
  have hbk:Zau L k (.buf o ety sz rows) g':=hg;have hln:(rows.take l++news++rows.drop (l+news.length)).length=rows.length:=by simp;omega
  have hown:Own1 W S L k (.buf o ety sz (rows.take l++news++rows.drop (l+news.length))):=by
   simp only [Own1];refine ⟨fun a ha=>by rw [hb0 a ha,hln],hs0,fun x hx=>?_,.inr ⟨g',cap,_,by rw [hv,hln],hcp,om,hg2,hheap,by rw [hln];exact hlen,hcap,by simp;omega,?_⟩⟩
   ·rcases Tbg.1 hx with hx | hx
    ·rcases Tbg.1 hx with hx | hx
     ·exact hrl x (List.mem_of_mem_take hx)
     ·exact hn x hx
    ·exact hrl x (List.mem_of_mem_drop hx)
   ·apply Zaq.of_flat;rw [List.flatten_append,List.flatten_append,Zmt l hrl,Zmu _ hrl];have hz:w.heap.size<=W.heap.size:=om;have hf:=hrows.flat;have r1:=Zaf.keepAt (S':=S) hz hkc (fun _ h=>h) g' 0 (rows.flatten.take (l * sz)) (fun i hi=>hput.old _ (.inl (by simp at hi;omega))) (hf.take (l * sz));have r3:Zaf W S g' (l * sz) news.flatten:=Zaf.of_vals _ vs _ (Zad.keep2 hz hkc (fun _ h=>h) hu) hput.new
    have r5:=Zaf.keepAt (S':=S) hz hkc (fun _ h=>h) g' _ (rows.flatten.drop ((l+news.length) * sz)) (fun i hi=>hput.old _ (.inr (by rw [hvl];rw [Nat.add_mul];omega))) (hf.drop ((l+news.length) * sz));have l1:(rows.flatten.take (l * sz)).length=l * sz:=by rw [Taw,hfl];omega
    refine Zaf.append _ _ 0 (Zaf.append _ _ 0 r1 ?_) ?_
    ·rw [l1,Nat.zero_add];exact r3
    ·rw [Tae,l1,Zb1 hn,<- Nat.add_mul];exact r5
  obtain ⟨t1,t2,t3⟩:=h.touch he (d:=k) (bk:=.buf o ety sz (rows.take l++news++rows.drop (l+news.length))) (m':=(k,.buf o ety sz (rows.take l++news++rows.drop (l+news.length)))::remM k σ.m) (w':=W) (L':=L) (τ:=some g') (fun _ h=>h) (fun _ h=>.inl h)
   (fun k' x hkd hx=>by simp only [gm,hkd,if_false,ZaH] at hx;exact hx) (by simp [gm]) (fun _ _=>⟨rfl,rfl⟩)
   (fun q hq=>by injection hq with hq;subst hq;exact ⟨hg2,h.cls.notE hm hbk,h.cls.mine k _ _ hm hbk⟩)
   (fun k' x q hkd hx hq hb=>by
    injection hq with hq;subst hq
    simp only [gm,hkd,if_false,ZaH] at hx;exact hkd (h.cls.inj k' k x _ _ hx hm hb hbk))
   ⟨hput.os,hput.tape,hput.output,fun _=>Nat.le_of_eq hdr.symm,om,fun b hb hE=>hput.other b (fun eq=>hE (by rw [eq]))⟩ hown (fun q hq=>.inl (by rw [<- hq];exact hg.symm))
  exact ⟨S,L,t1,fun t=>t3 _ _ (fun _=>⟨rfl,rfl⟩) (h.rel t),h.size,h.defers,t2⟩
end
section
variable {e:Env} {σ:St} {o:Oper} {K:St->Prop}
theorem Zvy {U:Nat->Prop} {base:Nat} {S0:Nat->Prop} {t:TypeId} {x:Operand} {lo hi:Option Operand} (ho:o.op=.slice t x lo hi none) {k cap ety sz:Nat} {a:Option Addr} {rows:List (List C)} {l h:Int} (hx:nrm σ.m (evA σ.s x)=.buf k) (hm:gm σ.m k=some (.buf (some (a,cap)) ety sz rows)) (ht:Zbn e.P t=some sz)
  (hlo:loA (lo.map (evA σ.s))=some l) (hhi:hiA rows.length (hi.map (evA σ.s))=some h) (hb:0<=l∧l<=h∧h<=rows.length):ZaM e U base S0 σ.m o (evA σ.s) (.d (.one (.lit (sliced a l.toNat h.toNat cap sz)))):=by
 refine Zax fun w S L ρv hC hr=>?_;have hx':=Zch hC (hr x (by simp [ho,Op.operands]));rw [hx] at hx';have hx':ρv x=L.v k:=hx';obtain ⟨hpl,_,_,hbuf⟩:=hC.own k _ hm;have hv:L.v k=.slice a rows.length cap:=hpl (a,cap) rfl;have hcap:rows.length<=cap:=by
  rcases hbuf with ⟨h4,_⟩ | ⟨g,cap',cur,h4,_,_,_,_,h5,_⟩
  ·rw [h4];exact Taj _
  ·rw [hv] at h4;injection h4 with _ _ h4;rw [h4];exact h5
 have hel:∃ ety i,e.P.underlying t=some (.slice ety)∧e.P.info? ety=some i∧i.size=sz:=by
  unfold Zbn at ht;split at ht
  ·rename_i ety hu;simp only [Tav] at ht;obtain ⟨i,hi,hs⟩:=ht;exact ⟨ety,i,hu,hi,hs⟩
  ·cases ht
 obtain ⟨el,i,hu,hi',hsz⟩:=hel;have hlo:=Zg8 (w:=w) (S:=S) (L:=L) (ρv:=ρv) hlo (fun y hy=>hr y (by simp [ho,Op.operands,hy]));have hhi:=Zg9 (w:=w) (S:=S) (L:=L) (ρv:=ρv) hhi (fun y hy=>hr y (by simp [ho,Op.operands,hy]));refine ⟨sliced a l.toNat h.toNat cap sz,?_,by simp [ARel,DRel,Rep]⟩;have hbnd:(Instr.sliceBounds true rows.length cap (lo.map ρv) (hi.map ρv) none).run e.P w=.ok (l.toNat,h.toNat,cap) w:=by
  have eh:(h.toNat:Int)=h:=Int.toNat_of_nonneg om;have b1:0<=h:=om;have b2:h<=(cap:Int):=om;have b3:0<=l:=hb.1;have b4:l<=h:=hb.2.1;rcases hlo with ⟨rfl,rfl⟩ | e1 <;> rcases hhi with ⟨rfl,e2⟩ | e2
  ·simp [Instr.sliceBounds,e2,Result.andThen]
  ·simp [Instr.sliceBounds,e2,Result.andThen,run_sliceBound,b1,b2]
  ·have b5:l<=(rows.length:Int):=om;simp [Instr.sliceBounds,e1,e2,Result.andThen,run_sliceBound,b3,b5]
  ·simp [Instr.sliceBounds,e1,e2,Result.andThen,run_sliceBound,b1,b2,b3,b4,eh]
 simp only [execOp,ho,Sem.run_bind,hx',hv,Instr.sliceAt,Instr.slice,underlying,run_program,Result.andThen_ok,hu,Sem.run_pure,Option.map_none,hbnd,sizeOf,typeInfo,hi',hsz,sliced]
theorem Zxj {t:TypeId} {x:Operand} {lo hi:Option Operand} (ho:o.op=.slice t x lo hi none) {k cap ety sz:Nat} {a:Option Addr} {rows:List (List C)} {l h:Int} (hx:nrm σ.m (evA σ.s x)=.buf k) (hm:gm σ.m k=some (.buf (some (a,cap)) ety sz rows)) (ht:Zbn e.P t=some sz)
  (hlo:loA (lo.map (evA σ.s))=some l) (hhi:hiA rows.length (hi.map (evA σ.s))=some h) (hb:0<=l∧l<=h∧h<=rows.length) (hK:K ⟨setA σ.s o.dst (.d (.one (.lit (sliced a l.toNat h.toNat cap sz)))),σ.m⟩):Zbx e o σ K:=by
 intro he U w0 S0 nt ac w Q hd ⟨S,L,h1⟩;exact Oper.wp_mono (fun a' w' hs=>⟨_,hK,hs⟩) (ZdR h1 hd (Zvy ho hx hm ht hlo hhi hb))
theorem ZhX {U:Nat->Prop} {base:Nat} {S0:Nat->Prop} {t:TypeId} {x i:Operand} (ho:o.op=.indexAddr t x i) {k cap ety sz l h:Nat} {a:Option Addr} {rows:List (List C)} {j:Int} (hx:evA σ.s x=.d (.one (.lit (sliced a l h cap sz)))) (hi:evA σ.s i=.d (.one (.lit (.int .i64 j)))) (hm:gm σ.m k=some (.buf (some (a,cap)) ety sz rows)) (ht:Zbn e.P t=some sz)
  (hb:0<=j∧l+j < h∧h<=rows.length):ZaM e U base S0 σ.m o (evA σ.s) (.row k (l+j.toNat) sz 0):=by
 refine Zax fun w S L ρv hC hr=>?_;have hx':=hr x (by simp [ho,Op.operands]);have hi':=hr i (by simp [ho,Op.operands]);rw [hx] at hx';rw [hi] at hi';have hx':=Zbi hx';have hi':=Zbi hi';obtain ⟨hpl,_,_,hbuf⟩:=hC.own k _ hm;have hv:L.v k=.slice a rows.length cap:=hpl (a,cap) rfl;rcases hbuf with ⟨h4,_⟩ | ⟨g,cap',cur,h4,h6,_,_,_,h5,_⟩
 ·rw [h4] at hb;simp at hb;omega
 ·rw [hv] at h4;injection h4 with h7 _ h8
  subst h7 h8;have hlc:¬ cap=l:=om;have hval:sliced (some ⟨g,0,none⟩) l h cap sz=.slice (some ⟨g,l * sz,none⟩) (h - l) (cap - l):=by
   simp only [sliced,hlc,if_false,Option.map_some,Addr.add_at,Nat.zero_add]
  refine ⟨.pointer (some ⟨g,(l+j.toNat) * sz+0,none⟩),?_,g,?_,rfl⟩
  ·unfold Zbn at ht;split at ht
   ·rename_i el hu;simp only [Tav] at ht;obtain ⟨ii,hii,hn⟩:=ht;have hlt:j < ((h - l:Nat):Int):=om;have hj:=hb.1;have e2:l * sz+j.toNat * sz=(l+j.toNat) * sz+0:=by rw [Nat.add_mul];rfl
    simp [execOp,ho,hi',hx',hval,Instr.indexAt,asIntOf,underlying,hu,sizeOf,typeInfo,hii,hn,Addr.add_at,hj,hlt,Result.andThen,e2]
   ·cases ht
  ·rw [hv];simp only [vblk];rw [if_neg om]
theorem Zol {t:TypeId} {x i:Operand} (ho:o.op=.indexAddr t x i) {k cap ety sz l h:Nat} {a:Option Addr} {rows:List (List C)} {j:Int} (hx:evA σ.s x=.d (.one (.lit (sliced a l h cap sz)))) (hi:evA σ.s i=.d (.one (.lit (.int .i64 j)))) (hm:gm σ.m k=some (.buf (some (a,cap)) ety sz rows)) (ht:Zbn e.P t=some sz)
  (hb:0<=j∧l+j < h∧h<=rows.length) (hK:K ⟨setA σ.s o.dst (.row k (l+j.toNat) sz 0),σ.m⟩):Zbx e o σ K:=by
 intro he U w0 S0 nt ac w Q hd ⟨S,L,h1⟩;exact Oper.wp_mono (fun a' w' hs=>⟨_,hK,hs⟩) (ZdR h1 hd (ZhX ho hx hi hm ht hb))
theorem Zm3 {t:TypeId} {x i:Operand} (ho:o.op=.indexAddr t x i) {k cap ety sz l h:Nat} {a:Option Addr} {rows:List (List C)} {j:Int} (hx:evA σ.s x=.d (.one (.lit (sliced a l h cap sz)))) (hi:evA σ.s i=.d (.one (.lit (.int .i64 j)))) (hm:gm σ.m k=some (.buf (some (a,cap)) ety sz rows)) (ht:Zbn e.P t=some sz)
  (hb:0<=j∧l+j < h∧h<=rows.length) (hK:K ⟨setA σ.s o.dst (.row k (l+j.toNat) sz 0),σ.m⟩):Zdu e o σ K:=fun he=>⟨_,hK,fun U base S0=>ZhX ho hx hi hm ht hb⟩
theorem Zr0 {x:Operand} {t:TypeId} (ho:o.op=.call ⟨.builtin .clear,#[x],#[t]⟩) {k cap ety sz by' l:Nat} {a:Option Addr} {rows:List (List C)} {z:List C} (hx:evA σ.s x=.d (.one (.lit (sliced a l rows.length cap sz)))) (hm:gm σ.m k=some (.buf (some (a,cap)) ety sz rows)) (ht:Zbh e.P t=some (ety,sz,by')) (hz:ZaP e.P ety=some z) (hzok:z.all Zay=true) (hl:l < rows.length)
  (hK:K ⟨setA σ.s o.dst (.tup []),(k,.buf (some (a,cap)) ety sz (rows.take l++List.replicate (rows.length - l) z))::remM k σ.m⟩):Zbx e o σ K:=by
 intro he U w0 S0 nt ac w Q hd ⟨S,L,h1⟩;have hx':=h1.eval x;rw [hx] at hx';have hx':=Zbi hx';obtain ⟨hpl,hs0,_,hbuf⟩:=h1.cls.own k _ hm;have hv:L.v k=.slice a rows.length cap:=hpl (a,cap) rfl;obtain ⟨i,zv,hu,hi,hzz,hsz,hby,hzs,hs0,hb4⟩:=ZcC ht;have hzc:z=zv.cells.toList.map toC:=by
  unfold ZaP at hz;simp only [hi,Option.bind_some,hzz,Option.map_some,Taq] at hz;exact hz.symm
 rcases hbuf with ⟨h4,_⟩ | ⟨g,cap',cur,h4,h6,_,_,_,h5,_⟩
 ·rw [h4] at hl;simp at hl
 ·rw [hv] at h4;injection h4 with h7 _ h8
  subst h7 h8;have hlc:¬ cap=l:=om;have hval:sliced (some ⟨g,0,none⟩) l rows.length cap sz=.slice (some ⟨g,l * sz,none⟩) (rows.length - l) (cap - l):=by
   simp only [sliced,hlc,if_false,Option.map_some,Addr.add_at,Nat.zero_add]
  have hn:rowsLen sz (List.replicate (rows.length - l) z):=fun r hr=>by
   rw [List.eq_of_mem_replicate hr];exact ⟨by rw [hzc];simp [hzs],hzok⟩
  have hu':Zad w S (List.replicate (rows.length - l) z).flatten ((List.replicate (rows.length - l) zv).flatMap fun v=>v.cells.toList):=by rw [hzc];exact Zh4 _
  obtain ⟨w',hst,hsim⟩:=h1.storeRows he (l:=l) (g:=g) hm (by rw [hv];simp only [vblk];rw [if_neg om]) (by simp;omega) hn hu';rw [List.length_replicate,show l+(rows.length - l)=rows.length by omega,List.drop_length,List.append_nil] at hsim;obtain ⟨S',L',hsim⟩:=hsim;have hzc2:(Builtin.zeroCells zv.cells (rows.length - l)).toList=(List.replicate (rows.length - l) zv).flatMap fun v=>v.cells.toList:=by
   have:=Zkp zv sz hs0 hzs (rows.length - l);rw [<- this];simp [Builtin.zeroCells,madeCells,hzs]
  have hrun:(execOp ac.eval o).run e.P w=.ok (.value (.tuple #[])) w':=by
   have hne:¬ (rows.length - l=0):=om;obtain ⟨q,hq⟩:∃ q,rows.length - l=q+1:=⟨rows.length - l - 1,om⟩;rw [hq] at hst hzc2;simp [execOp,ho,resolve,invoke,builtin,Builtin.clear_,hx',hval,hq,underlying,hu,zeroValue,hi,hzz,typeInfo,Result.andThen,hzc2,hst]
  unfold Oper.wp;rw [hrun,Oper.upon_value];refine ⟨_,hK,S',L',hsim.put (α:=.tup []) (v:=.tuple #[]) ⟨[],rfl,trivial⟩ hd⟩
end
theorem Zvz {a:Option Addr} {cap ety sz:Nat} {rows:List (List C)} (m:Nat) (hm:m<=rows.length):ZgV [.buf (some (a,cap)) ety sz rows] [.buf (some (a,cap)) ety sz (rows.take m)]:=fun w S h ha=>by
 have hl:(rows.take m).length=m:=by rw [Taw];omega
 obtain ⟨h0,hrl,hc⟩:ZaR w S ety sz rows (.slice a rows.length cap):=h (.buf (some (a,cap)) ety sz rows) (by simp);have hb:∀ b,vblk (.slice a m cap)=some b ↔ vblk (.slice a rows.length cap)=some b:=fun b=>by cases a <;> simp [vblk]
 refine ⟨fun x hx=>?_,ZzF _,fun g ⟨x,hx,hg⟩=>?_⟩
 ·simp only [Tbf,List.not_mem_nil,or_false] at hx;subst hx;show ZaR w S ety sz (rows.take m) (.slice a (rows.take m).length cap);rw [hl];refine ⟨h0,fun r hr=>hrl r (List.mem_of_mem_take hr),?_⟩;rcases hc with ⟨h4,p,h5⟩ | ⟨g,cap',cur,h4,h5,h6,h7,h8,h9,h10,h11,h12⟩
  ·subst h4;simp only [Tak,Nat.le_zero_eq] at hm;subst hm;exact .inl ⟨by simp,p,by simpa using h5⟩
  ·injection h4 with e1 e2 e3
   subst e1 e3;refine .inr ⟨g,cap,cur,by rw [hl],h5,h6,h7,h8,by rw [hl];omega,h10,h11,?_⟩;have:=Zaq.sub hrl h12 0 m;simpa using this
 ·simp only [Tbf,List.not_mem_nil,or_false] at hx;subst hx;refine ⟨.buf (some (a,cap)) ety sz rows,by simp,?_⟩;simp only [pblk,hl] at hg ⊢;exact (hb g).1 hg
theorem gSub {e:Env} {K:St->Prop} {ds:List (Option Nat)} {os:List Oper} {d t ty cap ety sz:Nat} {p:String} {ed:Array Edge} {x:Operand} {lo hi:Option Operand} {s:List (Nat × A)} {m:List (Nat × Bk)} {a:Option Addr} {rows:List (List C)} (k l h:Nat) (hb:l<=h∧h<=rows.length) (hK:Runs e ds 0 os ⟨(d,.d (.one (.lit (sliced a l h cap sz))))::s,m⟩ K)
  (hx:nrm m (evA s x)=.buf k:=by exact sfx) (hm:gm m k=some (.buf (some (a,cap)) ety sz rows):=by exact snv) (ht:Zbn e.P t=some sz:=by exact snx)
  (hlo:loA (lo.map (evA s))=some (l:Int):=by exact sfx) (hhi:hiA rows.length (hi.map (evA s))=some (h:Int):=by exact sfx):Runs e ds 0 (⟨some d,.slice t x lo hi none,ty,p,ed,none⟩::os) ⟨s,m⟩ K:=by
 simp only [Runs] at hK ⊢;exact Zcz rfl (Zxj (o:=⟨some d,.slice t x lo hi none,ty,p,ed,none⟩) rfl hx hm ht hlo hhi ⟨om,om,om⟩ (by simpa only [Tbv,setA] using hK))
theorem ZAN {e:Env} {K:St->Prop} {ds:List (Option Nat)} {os:List Oper} {d t ty cap ety sz l h:Nat} {p:String} {ed:Array Edge} {x i:Operand} {s:List (Nat × A)} {m:List (Nat × Bk)} {a:Option Addr} {rows:List (List C)} (k j:Nat) (hb:l+j < h∧h<=rows.length) (hK:Runs e ds 0 os ⟨(d,.row k (l+j) sz 0)::s,m⟩ K)
  (hx:evA s x=.d (.one (.lit (sliced a l h cap sz))):=by exact snx) (hi:evA s i=.d (.one (.lit (.int .i64 (j:Int)))):=by exact sfx) (hm:gm m k=some (.buf (some (a,cap)) ety sz rows):=by exact snv) (ht:Zbn e.P t=some sz:=by exact snx):Runs e ds 0 (⟨some d,.indexAddr t x i,ty,p,ed,none⟩::os) ⟨s,m⟩ K:=by
 simp only [Runs] at hK ⊢;exact Zcz rfl (Zol (o:=⟨some d,.indexAddr t x i,ty,p,ed,none⟩) rfl hx hi hm ht ⟨om,om,om⟩ (by simpa only [Tbv,setA] using hK))
theorem Zr1 {e:Env} {ds:List (Option Nat)} {K:St->Prop} {n:Nat} {os:List Oper} {o:Oper} {σ:St} (hg:o.guard=none) (hal:isAl o=false) (h:Zdu e o σ (fun σ'=>Runs e ds n os σ' K)):Runs e ds (n+1) (o::os) σ K:=by
 simp only [Runs,hg];rw [if_neg (by simp [hal])];exact h
theorem ZvA {e:Env} {K:St->Prop} {ds:List (Option Nat)} {os:List Oper} {n d t ty cap ety sz l h:Nat} {p:String} {ed:Array Edge} {x i:Operand} {s:List (Nat × A)} {m:List (Nat × Bk)} {a:Option Addr} {rows:List (List C)} (k j:Nat) (hb:l+j < h∧h<=rows.length) (hK:Runs e ds n os ⟨(d,.row k (l+j) sz 0)::s,m⟩ K)
  (hx:evA s x=.d (.one (.lit (sliced a l h cap sz))):=by exact snx) (hi:evA s i=.d (.one (.lit (.int .i64 (j:Int)))):=by exact sfx) (hm:gm m k=some (.buf (some (a,cap)) ety sz rows):=by exact snv) (ht:Zbn e.P t=some sz:=by exact snx):Runs e ds (n+1) (⟨some d,.indexAddr t x i,ty,p,ed,none⟩::os) ⟨s,m⟩ K :=
 Zr1 rfl rfl (Zm3 (o:=⟨some d,.indexAddr t x i,ty,p,ed,none⟩) rfl hx hi hm ht ⟨om,om,om⟩ (by simpa only [Tbv,setA] using hK))
theorem ZAl {e:Env} {K:St->Prop} {ds:List (Option Nat)} {os:List Oper} {t ty cap ety sz by' l:Nat} {dd:Option Nat} {p:String} {ed:Array Edge} {x:Operand} {s s':List (Nat × A)} {m m':List (Nat × Bk)} {a:Option Addr} {rows:List (List C)} {z:List C} (k:Nat) (hl:l < rows.length) (hK:Runs e ds 0 os ⟨s',(k,.buf (some (a,cap)) ety sz (rows.take l++List.replicate (rows.length - l) z))::m'⟩ K)
  (hx:evA s x=.d (.one (.lit (sliced a l rows.length cap sz))):=by exact snv) (hm:gm m k=some (.buf (some (a,cap)) ety sz rows):=by exact snv) (ht:Zbh e.P t=some (ety,sz,by'):=by exact snx) (hz:ZaP e.P ety=some z:=by exact snx) (hzok:z.all Zay=true:=by first | rfl | exact sny)
  (hs:setA s dd (.tup [])=s':=by simp only [setA];exact rfl) (hr:remM k m=m':=by exact snv):Runs e ds 0 (⟨dd,.call ⟨.builtin .clear,#[x],#[t]⟩,ty,p,ed,none⟩::os) ⟨s,m⟩ K:=by
 subst hs hr;simp only [Runs] at hK ⊢;exact Zcz rfl (Zr0 (o:=⟨dd,.call ⟨.builtin .clear,#[x],#[t]⟩,ty,p,ed,none⟩) rfl hx hm ht hz hzok hl hK)
theorem ZjD (a:Option Addr) (k cap sz:Nat):sliced a 0 k cap sz=.slice a k cap:=by
 cases a with
 | none=>simp [sliced]
 | some p =>
  have:p.add 0=p:=by cases p;simp [Addr.add]
  simp [sliced,this]
section
variable {e:Env} {ops:Array Oper} {K:St->Prop}
def QN (e:Env) (U:Nat->Prop) (w0:World) (S0:Nat->Prop) (nt:Nat) (K:St->Prop):Exit->Act->World->Prop:=fun ex a w=>ex=.normal∧∃ σ',K σ'∧SimE e U w0 S0 nt σ' a w
def Zcl (e:Env) (ops:Array Oper) (K:St->Prop) (f:Nat) (listed:Array Bool) (σ:St):Prop :=
 e.Ok->∀ (U:Nat->Prop) (w0:World) (S0:Nat->Prop) (nt:Nat) (a:Act) (w:World),(∀ o∈ops.toList,∀ d,o.dst=some d->d < nt)->SimE e U w0 S0 nt σ a w->wpAny e.P .any ops (QN e U w0 S0 nt K) f listed a w
theorem Zpz {ds:List (Option Nat)} {f:Nat} {listed:Array Bool} {σ:St} (hds:ops.toList.map (·.dst)=ds) (h:ZcN e ds ops K f listed σ):Zcl e ops K f listed σ:=by
 subst hds;exact fun he U w0 S0 nt a w hd hs=>ZjX he (fun a w σ' hK hs'=>⟨rfl,σ',hK,hs'⟩) hd f listed σ a w hs h
def Zom (ops:Array Oper) (listed:Array Bool) (i:Nat):Bool:=(List.range ops.size).all fun j=>j==i || (listed.getD j true || match ops[i]?,ops[j]? with
 | some oi,some oj=>oj.after.any (fun e=>Region.binds .any e && e.on==i) || oi.apart ops oj
 | _,_=>true)
def Zk0 (ops:Array Oper):Bool:=ops.toList.all fun o=>match o.op with
 | .select _ _=>false
 | _=>true
theorem ZjE {f i d:Nat} {listed:Array Bool} {σ:St} {o:Oper} {α:A} (hi:ops[i]?=some o) (hdst:o.dst=some d) (hg:o.guard=none) (hsel:Zk0 ops=true) (hap:Zom ops listed i=true) (hr:(Region.ready .any ops listed).contains i=true)
  (hp:e.Ok->∀ (U:Nat->Prop) (w0:World) (S0:Nat->Prop) (nt:Nat) (a:Act) (w:World) (S:Nat->Prop) (L:Lay),Sim e U w0 S0 nt σ a w S L->∃ v,(∀ w',(execOp a.eval o).run e.P w'=.ok (.value v) w')∧ARel w S L α v)
  (hK:Zcl e ops K f (listed.setIfInBounds i true) ⟨(d,α)::σ.s,σ.m⟩):Zcl e ops K (f+1) listed σ:=by
 intro he U w0 S0 nt a w hd ⟨S,L,h⟩;obtain ⟨v,hv,hrel⟩:=hp he U w0 S0 nt a w S L h;have hmem:o∈ops.toList:=Tac (by simpa using hi);refine wpAny_first (oi:=o) (v:=v) hi (fun j oj cs b hj hs=>?_) (fun c a w hq=>?_) f listed a w (fun j oj hj hne hl hno=>?_) ?_ ?_ ?_
 ·have:=List.all_eq_true.1 hsel oj (Tac (by simpa using hj));rw [hs] at this
  cases this
 ·have:=hq.1
  cases this
 ·have hjs:=(Tbk.1 hj).1;have:=List.all_eq_true.1 hap j (List.mem_range.2 hjs);simp only [hi,hj,Bool.or_eq_true,beq_iff_eq,List.any_eq_true,Array.any_eq_true',Tar] at this;rcases this with h1 | h1 | h1 | h1
  ·exact absurd h1 hne
  ·rw [hl] at h1;cases h1
  ·obtain ⟨ed,h2,h3,h4⟩:=h1;exact absurd h4 (hno ed h2 h3)
  ·exact h1
 ·simpa using hr
 ·exact .inl ⟨by simp [Region.wanted,hg],hv⟩
 ·have h2:SimE e U w0 S0 nt ⟨(d,α)::σ.s,σ.m⟩ (a.put o.dst v) w:=⟨S,L,by
   have:=h.put (α:=α) hrel (hd o hmem)
   rwa [hdst,setA,<- hdst] at this⟩
  exact hK he U w0 S0 nt (a.put o.dst v) w hd h2
end
section
variable {e:Env} {K:St->Prop} {mask:Nat} {Q:PX->St->Prop} {s:List (Nat × A)} {m:List (Nat × Bk)}
theorem Zgm {id:Nat} {ops:Array Oper} {σ:St} (hK:Zcl e ops (Zct mask Q) ops.size (Array.replicate ops.size false) σ):pwp e mask (.region id ops true) σ Q:=fun he U w0 S0 nt a w hok hs=>by
 obtain ⟨S,L,h1⟩:=hs.drew he;refine Code.wp_mono (fun ex a' w' hq=>?_) (wp_region_any he.mixed (hK he U w0 S0 nt a { w with drawn:=w.drawn+1 } (ZiZ hok) ⟨S,L,h1⟩));obtain ⟨rfl,σ',k1,k2⟩:=hq;exact ⟨_,k1,k2.weak (fun t=>Zhc mask t σ'.s) (fun _ _ h=>h)⟩
theorem gF0 {id:Nat} {l:List Oper} (hK:Zcl e l.toArray (Zct mask Q) l.length (Array.replicate l.length false) ⟨s,m⟩):pwp e mask (.region id l.toArray true) ⟨s,m⟩ Q:=Zgm (ops:=l.toArray) (by simpa using hK)
theorem gFT {ds:List (Option Nat)} {ops:Array Oper} {f:Nat} {listed:Array Bool} {σ:St} (h:ZcN e ds ops K f listed σ) (hds:ops.toList.map (·.dst)=ds:=by exact rfl):Zcl e ops K f listed σ:=Zpz hds h
theorem gFm {ops:Array Oper} {f d ty:Nat} {p:String} {ed:Array Edge} {x:Operand} {α:A} {listed:Array Bool} (i:Nat) (hK:Zcl e ops K f (listed.setIfInBounds i true) ⟨(d,α)::s,m⟩)
  (hi:ops[i]?=some ⟨some d,.move x,ty,p,ed,none⟩:=by simp only [List.getElem?_toArray,Tau,Tat];exact rfl) (hx:evA s x=α:=by exact snv) (hsel:Zk0 ops=true:=by decide +kernel) (hap:Zom ops listed i=true:=by decide +kernel) (hr:(Region.ready .any ops listed).contains i=true:=by decide +kernel):Zcl e ops K (f+1) listed ⟨s,m⟩:=by
 subst hx;exact ZjE (o:=⟨some d,.move x,ty,p,ed,none⟩) hi rfl rfl hsel hap hr (fun _ U w0 S0 nt a w S L h=>⟨a.eval x,fun w2=>by simp [execOp],h.eval x⟩) hK
theorem gFs {ops:Array Oper} {f d t ty cap ety sz:Nat} {p:String} {ed:Array Edge} {x:Operand} {lo hi:Option Operand} {a:Option Addr} {rows:List (List C)} {listed:Array Bool} (i k l h:Nat) (hb:l<=h∧h<=rows.length) (hK:Zcl e ops K f (listed.setIfInBounds i true) ⟨(d,.d (.one (.lit (sliced a l h cap sz))))::s,m⟩)
  (hi':ops[i]?=some ⟨some d,.slice t x lo hi none,ty,p,ed,none⟩:=by simp only [List.getElem?_toArray,Tau,Tat];exact rfl)
  (hx:nrm m (evA s x)=.buf k:=by exact sfx) (hm:gm m k=some (.buf (some (a,cap)) ety sz rows):=by exact snv) (ht:Zbn e.P t=some sz:=by exact snx)
  (hlo:loA (lo.map (evA s))=some (l:Int):=by exact sfx) (hhi:hiA rows.length (hi.map (evA s))=some (h:Int):=by exact sfx)
  (hsel:Zk0 ops=true:=by decide +kernel) (hap:Zom ops listed i=true:=by decide +kernel) (hr:(Region.ready .any ops listed).contains i=true:=by decide +kernel):Zcl e ops K (f+1) listed ⟨s,m⟩:=by
 refine ZjE (o:=⟨some d,.slice t x lo hi none,ty,p,ed,none⟩) hi' rfl rfl hsel hap hr (fun _ U w0 S0 nt ac w S L hS=>⟨sliced a l h cap sz,fun w'=>?_,by simp [ARel,DRel,Rep]⟩) hK;have hx':=Zch hS.cls (hS.eval x);simp only at hx';rw [hx] at hx';have hx':ac.eval x=L.v k:=hx';obtain ⟨hpl,_,_,hbuf⟩:=hS.cls.own k _ hm;have hv:L.v k=.slice a rows.length cap:=hpl (a,cap) rfl;have hcap:rows.length<=cap:=by
  rcases hbuf with ⟨h4,_⟩ | ⟨g,cap',cur,h4,_,_,_,_,h5,_⟩
  ·rw [h4];exact Taj _
  ·rw [hv] at h4;injection h4 with _ _ h4;rw [h4];exact h5
 have hel:∃ ety i,e.P.underlying t=some (.slice ety)∧e.P.info? ety=some i∧i.size=sz:=by
  unfold Zbn at ht;split at ht
  ·rename_i ety hu;simp only [Tav] at ht;obtain ⟨i,hi,hs⟩:=ht;exact ⟨ety,i,hu,hi,hs⟩
  ·cases ht
 obtain ⟨el,inf,hu,hinf,hsz⟩:=hel;have hlo:=Zg8 (w:=w) (S:=S) (L:=L) (ρv:=ac.eval) hlo (fun y hy=>hS.eval y);have hhi:=Zg9 (w:=w) (S:=S) (L:=L) (ρv:=ac.eval) hhi (fun y hy=>hS.eval y);have hbnd:(Instr.sliceBounds true rows.length cap (lo.map ac.eval) (hi.map ac.eval) none).run e.P w'=.ok (l,h,cap) w':=by
  have b2:(h:Int)<=(cap:Int):=om;have b5:(l:Int)<=(rows.length:Int):=om;rcases hlo with ⟨rfl,e1⟩ | e1 <;> rcases hhi with ⟨rfl,e2⟩ | e2
  ·have e1:l=0:=om;have e2:h=rows.length:=om;subst e1 e2;simp [Instr.sliceBounds,Result.andThen]
  ·have e1:l=0:=om;subst e1;simp [Instr.sliceBounds,e2,Result.andThen,run_sliceBound,b2]
  ·have e2:h=rows.length:=om;subst e2;simp [Instr.sliceBounds,e1,Result.andThen,run_sliceBound,b5]
  ·have b4:(l:Int)<=(h:Int):=om;simp [Instr.sliceBounds,e1,e2,Result.andThen,run_sliceBound,b2,b4,hb.1]
 simp only [execOp,Sem.run_bind,hx',hv,Instr.sliceAt,Instr.slice,underlying,run_program,Result.andThen_ok,hu,Sem.run_pure,Option.map_none,hbnd,sizeOf,typeInfo,hinf,hsz,sliced]
end
section
variable {w:World} {S:Nat->Prop}
theorem Zr2 {rows:List (List C)} {ety sz cap l h:Nat} {a:Option Addr} (hb:ZaR w S ety sz rows (.slice a rows.length cap)) (hl:l<=h∧h<=rows.length):∃ (b:Option Addr) (c:Nat) (news:List Value),sliced a l h cap sz=.slice b ((rows.take h).drop l).length c∧Zad w S ((rows.take h).drop l).flatten news∧∀ (P:Program) (w':World),(∀ p,w'.cell? p=w.cell? p)->(Builtin.firstCells sz ((rows.take h).drop l).length (sliced a l h cap sz)).run P w'=.ok news.toArray w':=by
 have hln:((rows.take h).drop l).length=h - l:=by rw [List.length_drop,Taw];omega
 obtain ⟨h1,hrl,h3⟩:=hb;by_cases he:h=l
 ·have e0:((rows.take h).drop l).length=0:=om;have e1:(rows.take h).drop l=[]:=Tao e0;refine ⟨_,_,[],by rw [hln];exact rfl,by rw [e1];simp [Zad],fun P w' _=>?_⟩;rw [e0];simp only [sliced,he,Nat.sub_self];split
  ·cases a <;> simp [Builtin.firstCells,loadCells,loadCellsFrom]
  ·cases a <;> simp [Builtin.firstCells,loadCells,loadCellsFrom]
 ·rcases h3 with ⟨h4,p,h5⟩ | ⟨g,cap',cur,h4,h5,h6,h7,h8,h9,h10,h11,h12⟩
  ·rw [h4] at hl;simp only [Tak] at hl;omega
  ·injection h4 with e1 e2 e3
   subst e1 e3;have hlc:¬ cap=l:=om;have hval:sliced (some ⟨g,0,none⟩) l h cap sz=.slice (some ⟨g,l * sz,none⟩) (h - l) (cap - l):=by
    simp only [sliced,hlc,if_false,Option.map_some,Addr.add_at,Nat.zero_add]
   have hr:=Zaq.sub hrl h12 l h;rw [Nat.zero_add] at hr;obtain ⟨news,q5,q6⟩:=hr.flat.vals;have hsl:rowsLen sz ((rows.take h).drop l):=fun r hr=>hrl r (List.mem_of_mem_take (List.mem_of_mem_drop hr));rw [hval];refine ⟨_,_,news,by rw [hln],q5,fun P w' hw=>?_⟩;exact run_firstCells_some w' sz _ _ _ _ news (by rw [q5.len,Zb1 hsl]) (fun j u hj=>by rw [hw,Addr.add_at];exact q6 j u hj)
end
section
variable {e:Env} {K:St->Prop} {ds:List (Option Nat)} {os:List Oper} {s:List (Nat × A)} {m:List (Nat × Bk)}
theorem ZpA {σ:St} {o:Oper} {x y:Operand} {t ety ety' sz by' k j d l h cap:Nat} {a0:Option Addr} {rows rj:List (List C)} {oa:Option (Option Addr × Nat)} (ho:o.op=.call ⟨.builtin .append,#[x,y],#[t,t]⟩) (hdd:o.dst=some d) (hb:Zbh e.P t=some (ety,sz,by'))
  (hx:evA σ.s x=.buf k) (hm:gm σ.m k=some (.buf oa ety sz rows)) (hy:evA σ.s y=.d (.one (.lit (sliced a0 l h cap sz)))) (hj:gm σ.m j=some (.buf (some (a0,cap)) ety' sz rj)) (hlh:l<=h∧h<=rj.length) (hle:rows.length+rj.length<=maxApp)
  (hK:K ⟨(d,.buf d)::Zan d (Zan k σ.s),(d,.buf none ety sz (rows++(rj.take h).drop l))::remM d (remM k σ.m)⟩):Zbx e o σ K:=by
 intro he U w0 S0 nt a w Q hd ⟨S,L,h0⟩;have hx':a.eval x=L.v k:=by have:=h0.eval x;rw [hx] at this;exact this
 have hy':=h0.eval y;rw [hy] at hy';have hy':=Zbi hy';have ho':ZaR w S ety sz rows (L.v k):=(h0.cls.own k _ hm).2;obtain ⟨hpl,hbj⟩:=h0.cls.own j _ hj;have hvj:L.v j=.slice a0 rj.length cap:=hpl (a0,cap) rfl;rw [hvj] at hbj;obtain ⟨yb,yc,news,y1,y2,y3⟩:=Zr2 hbj hlh;have hln:((rj.take h).drop l).length=h - l:=by rw [List.length_drop,Taw];omega
 have hsl:rowsLen sz ((rj.take h).drop l):=fun r hr=>hbj.2.1 r (List.mem_of_mem_take (List.mem_of_mem_drop hr));obtain ⟨v',w',hrun,hbuf,τ,hk,hτ,hblk⟩:=Zfo (ty:=o.type) (ts:=#[t,t]) (v:=L.v k) (u:=sliced a0 l h cap sz) he h0.cls rfl rfl hb (.inl ho') ho'.2.1 hsl om ⟨yb,yc,news,y1,y2,y3⟩;unfold Oper.wp;have hr2:(execOp a.eval o).run e.P w=.ok (.value v') w':=by
  simp [execOp,ho,resolve,invoke,builtin,hx',hy',hrun,Result.andThen]
 rw [hr2,Oper.upon_value,hdd];refine ⟨_,hK,h0.born he (hd d hdd) (τ:=τ) (b':=0) (v':=v') (s1:=Zan k σ.s) (m1:=remM k σ.m) (fun _ h=>h) (fun _ h=>.inl h) (fun t=>?_) (fun k' x hx=>?_) (fun g hg=>?_) (fun k' x g hkd hx hg hb'=>?_) hk ?_ (fun g hg=>?_) (by simp [ARel])⟩
 ·rcases Zei k t σ.s with ⟨h1,_⟩ | h1
  ·exact .inl h1
  ·exact .inr h1
 ·rw [ZaH] at hx;split at hx
  ·cases hx
  ·exact hx
 ·have hg':=(hτ g hg).1;exact ⟨(Own1.lt (k:=k) (L:=L) (bk:=.buf none ety sz rows) ⟨by simp,ho'⟩ hg').2,h0.cls.notE hm hg',h0.cls.mine k _ g hm hg'⟩
 ·have hg':=(hτ g hg).1;rw [ZaH] at hx;split at hx
  ·cases hx
  ·rename_i hne';exact hne' (h0.cls.inj k' k x _ g hx hm hb' hg')
 ·simp only [Own1,if_true];exact ⟨by simp,hbuf⟩
 ·simp only [Zau,if_true] at hg;exact hblk g hg
theorem gAps {d t ty ety ety' by' sz l h cap:Nat} {p:String} {ed:Array Edge} {x y:Operand} {rows rj:List (List C)} {oa:Option (Option Addr × Nat)} {a0:Option Addr} {s2:List (Nat × A)} {m2:List (Nat × Bk)} (k j:Nat) (hlh:l<=h∧h<=rj.length) (hle:rows.length+rj.length<=maxApp) (hK:Runs e ds 0 os ⟨(d,.buf d)::s2,(d,.buf none ety sz (rows++(rj.take h).drop l))::m2⟩ K)
  (hb:Zbh e.P t=some (ety,sz,by'):=by exact sfx) (hx:evA s x=.buf k:=by exact sfx) (hm:gm m k=some (.buf oa ety sz rows):=by exact snx) (hy:evA s y=.d (.one (.lit (sliced a0 l h cap sz))):=by exact snx) (hj:gm m j=some (.buf (some (a0,cap)) ety' sz rj):=by exact snx)
  (hs:Zan d (Zan k s)=s2:=by exact snv) (hr:remM d (remM k m)=m2:=by exact snv):Runs e ds 0 (⟨some d,.call ⟨.builtin .append,#[x,y],#[t,t]⟩,ty,p,ed,none⟩::os) ⟨s,m⟩ K:=by
 subst hs hr;simp only [Runs] at hK ⊢;exact Zcz rfl (ZpA rfl rfl hb hx hm hy hj hlh hle hK)
end
def zTm:Tm:=.mk 0 ByteArray.empty 0 []
theorem Zft:Zab zTm=[.lit (.int .i64 0),.lit (.string ByteArray.empty),.lit (.int .i64 0),.sl []]:=by simp [zTm,Zab,Zaa]
theorem Zc4:Zaa []=[]:=by simp [Zaa]
theorem ZgJ (ts:List Tm) {i:Nat} {t:Tm} (h:ts[i]?=some t):Zaa (ts.take (i+1))=Zaa (ts.take i)++[Zab t]:=by
 simp only [Zbu,List.take_add_one,h,Option.toList,Tbu,Tbt,List.map_nil]
def tmsB (ts:List Tm):Prop:=ts.length+Zas (Zaa ts)<=1048576
theorem Zri (pm:List Bk):ZgV pm pm:=fun w S h1 h2=>⟨h1,h2,fun _ h=>h⟩
theorem Zon {ts:List Tm} {i:Nat} (h:i<=ts.length):(Zaa (ts.take i)).length=i:=by rw [Zai,Taw];omega
theorem Zm4 (t:Tm) (hB:tmsB t.args) (h:∀ a∈t.args,Con e0 40 [.agg (Zab a)] [.agg (Zab a)]):Con e0 40 [.agg (Zab t)] [.agg (Zab t)]:=by
 obtain ⟨op,nm,so,args⟩:=t;have hc:Zab (.mk op nm so args)=[.lit (.int .i64 op),.lit (.string nm),.lit (.int .i64 so),.sl (Zaa args)]:=by simp only [Zab]
 simp only [Tm.args] at h hB;have hl:args.length<=1048576:=Tbd (Nat.le_add_right _ _) hB;refine gI (ts:=[.cell 2 34]) 65567 Tryz.func40 ?_;refine fN 1 @hc ?_;refine gB ?_;refine gP 6 ?_;refine gX ?_;refine fR @hc ?_;refine pN 1000 34 4 ?_;refine fG @hc ?_;have F:=ai @hc @Zc4;refine gL (ι:=Nat × Option Addr × Nat) [4,16] [3,1000] (fun x=>[(4,.d (.one (.lit (.int .i64 (x.1:Int)))))]) (fun x=>[(1000,.buf (some (x.2.1,x.2.2)) 34 4 (Zaa (args.take x.1))),(3,.var none [.lit (.int .i64 op),.lit (.string nm),.lit (.int .i64 so),.lit (.slice x.2.1 x.1 x.2.2)])]) (fun x=>x.1<=args.length) (fun x=>args.length - x.1) ((0,none,0)) (Taj _) (fun x hx=>?_);clear F
 obtain ⟨i,p,cap⟩:=x;simp only at hx;by_cases hlt:i < args.length
 ·have hg:args[i]?=some args[i]:=Taa hlt;have hcon:=h args[i] (List.getElem_mem hlt);generalize args[i]=a at hg hcon;have q1:=lT i args.length;have q4:IntKind.i64.wrap ((i:Int)+1)=(i:Int)+1:=IntWalk.i64_in _ om;have q2:i+1<=maxApp:=by unfold maxApp;omega
  have q3:=Zon hx;have q5:(args.take i).length=i:=by rw [Taw];omega
  refine fB (aj6 @hc @Zai @Zbo @q1 @hg @tmz) ?_;refine fC (aj3 @tmz @Zbo @hg) (hcon) ?_;have F:=aj4 @tmz @q2 @q3 @q5;refine gP 3 ?_;clear F;refine gS 28 fun p2 cap2=>?_;refine fR (aj3 @tmz @q3 @q5) ?_;refine pE [28] [1000] (Zri _) ?_;rw [<- ZgJ args hg];have F:=ai @hc @q4;refine gG ?_;exact ⟨(i+1,p2,cap2),hlt,gw,gw,om⟩
 ·obtain rfl:i=args.length:=by omega
  have q1:=lF args.length args.length;rw [Tap];refine fG (aj3 @hc @Zai @q1) ?_;refine pD 1000 [] [2] ?_ (hs:=by exact snv);exact fD (ai @hc @Zai)
theorem ZvB (n:Nat):(∀ t:Tm,Zce (Zab t) < n->Zal (Zab t)<=1048576->Con e0 40 [.agg (Zab t)] [.agg (Zab t)]):=by
 induction n with
 | zero=>exact fun _ h=>om
 | succ n ih =>
  intro t hn hb;obtain ⟨op,nm,so,args⟩:=t;simp only [Zab,Zce,ZgN,Zal,Zc9] at hn hb;refine Zm4 _ (by unfold tmsB;simp only [Tm.args];have:=Zai args;omega) fun a ha=>?_;simp only [Tm.args] at ha;obtain ⟨i,hi⟩:=Tbj ha;have hi':(Zaa args)[i]?=some (Zab a):=by rw [Zbo,hi];rfl
  have h1:=Zen hi';have h2:=ZdC hi';exact ih a om om
theorem ZeE (t:Tm) (hb:Zal (Zab t)<=1048576):Con e0 40 [.agg (Zab t)] [.agg (Zab t)]:=ZvB _ t (Tan _) hb
theorem Zk1 {ts:List Tm} {i:Nat} {t:Tm} (h:ts[i]?=some t):Zaa (ts.take i)++[Zab t]=Zaa (ts.take (i+1)):=(ZgJ ts h).symm
theorem Ziq (ts:List Tm) (hB:tmsB ts):Con e0 91 [.one (.sl (Zaa ts))] [.one (.sl (Zaa ts))]:=by
 unfold tmsB at hB;refine gI (ts:=[.slot 2]) 541 Tryz.func91 ?_;refine fG @tmz ?_;have F:=@Zc4;refine gL (ι:=Nat) [3,4,9] [3] (fun i=>[(4,A.d (.one (.lit (.int .i64 i)))),(3,.buf 3)]) (fun i=>[(3,.buf none 34 4 (Zaa (ts.take i)))]) (fun i=>i<=ts.length) (fun i=>ts.length - i) (0) (Taj _) (fun i hi=>?_);clear F;by_cases hlt:i < ts.length;rotate_left
 ·obtain rfl:i=ts.length:=by omega
  have q2:=lF ts.length ts.length;rw [Tap];refine fG (ai @q2 @tmz) ?_;have F:=@tmz;refine gG ?_;exact gTz [2]
 obtain ⟨t,ht⟩:∃ b,ts[i]?=some b:=⟨_,Taa hlt⟩;have q2:=lT i ts.length;have q4:=Zap (k:=i) om;have hi':(Zaa ts)[i]?=some (Zab t):=by rw [Zbo,ht];rfl
 have hbt:=ZdC hi';have cc:=ZeE t om;have l1:ZaL 4 (Zaa (ts.take i))=true:=ZcL _;have l2:((Zaa (ts.take i)).length+1<=maxApp)=True:=eq_true (by rw [Zai,Taw];unfold maxApp;omega);have l3:((ts.take i).length+1<=maxApp)=True:=eq_true (by rw [Taw];unfold maxApp;omega);have l4:min i ts.length+1<=maxApp:=by unfold maxApp;omega
 have e:=Zk1 ht;refine fB (ai @q2 @tmz) ?_;refine fC (aj3 @q2 @ht @tmz) (cc) ?_;refine fR (aj4 @l1 @l2 @l3 @tmz) ?_;have F:=ai @q4 @e;refine gG ?_;exact ⟨i+1,hlt,gw,gw,om⟩
theorem Zxk:Zaa (ZbE [])=[]:=by simp [ZbE,Zaa]
theorem Zr3 {l:List Tm} (h:Zaw l):Zaw (ZbE l):=by
 have:∀ {ts:List Tm},Zaw ts ↔ ∀ t∈ts,okTm t:=fun {ts}=>by
  induction ts with
  | nil=>simp [Zaw]
  | cons t ts ih=>simp [Zaw,ih]
 exact this.2 fun a ha=>this.1 h a ((ZbT l).mem_iff.1 ha)
theorem ZpB {l:List Tm} (h:Zaw l) (k:Nat):Zaw (l.take k):=by
 have:∀ {ts:List Tm},Zaw ts ↔ ∀ t∈ts,okTm t:=fun {ts}=>by
  induction ts with
  | nil=>simp [Zaw]
  | cons t ts ih=>simp [Zaw,ih]
 exact this.2 fun a ha=>this.1 h a (List.mem_of_mem_take ha)
theorem Zir (ts:List Tm) (hok:Zaw ts) (hB:tmsB ts):Con e0 90 [.one (.sl (Zaa ts))] [.one (.sl (Zaa (ZbE ts)))]:=by
 have hB0:=hB;unfold tmsB at hB
 have hcc:=Ziq (ZbE ts) (by
  have h1:=(ZbT ts).length_eq;have h2:Zas (Zaa (ZbE ts))=Zas (Zaa ts):=by
   have:∀ {l m:List Tm},l.Perm m->Zas (Zaa l)=Zas (Zaa m):=fun h=>by
    induction h with
    | nil=>rfl
    | cons x h ih=>simp only [Zaa,Zas,ih]
    | swap x y l=>simp only [Zaa,Zas];omega
    | trans h1 h2 a b=>rw [a,b]
   exact this (ZbT ts)
  unfold tmsB;omega)
 refine gI (ts:=[.slot 2]) 1073743997 Tryz.func90 ?_;refine fG @tmz ?_;have F:=ai @Zxk @tmz;refine gL (ι:=Nat) [3,4,5,6,11,30] [3] (fun i=>[(4,A.d (.one (.lit (.int .i64 i)))),(3,.buf 3)]) (fun i=>[(3,.buf none 34 4 (Zaa (ZbE (ts.take i))))]) (fun i=>i<=ts.length) (fun i=>ts.length - i) (0) (Taj _) (fun i hi=>?_);clear F;by_cases hlt:i < ts.length;rotate_left
 ·obtain rfl:i=ts.length:=by omega
  have q2:=lF ts.length ts.length;rw [Tap];refine fN 10 (ai @q2 @tmz) ?_;refine pS 3 fun a cap=>?_;refine pD 3 [3] [] ?_;refine gB ?_;refine fC @tmz (hcc) ?_;refine fR @tmz ?_;exact fD @tmz
 obtain ⟨x,hx⟩:∃ b,ts[i]?=some b:=⟨_,Taa hlt⟩;have q2:=lT i ts.length;have q4:=Zap (k:=i) om;have hxo:=hok.mem (Tac hx);obtain ⟨M,hM⟩:∃ M,M=ZbE (ts.take i):=⟨_,rfl⟩;have hMl:M.length=i:=by rw [hM,ZrY,Taw];omega
 have hMo:Zaw M:=by rw [hM];exact Zr3 (ZpB hok i)
 have hMr:ts.take (i+1)=ts.take i++[x]:=ZfY hx;rw [<- hM];refine fN 5 (aj3 @q2 @hMl @tmz) ?_;refine gB ?_;refine fR (ai @hMl @tmz) ?_;refine ZfO ?_;refine gM (ι:=Nat) [5] [] (fun k=>[(5,A.d (.one (.lit (.int .i64 k))))]) (fun k=>[]) (fun k=>k<=i∧(∀ y∈M.drop k,Zah x y<=0)∧(0 < k->∃ y,M[k - 1]?=some y∧Zah y x<=0)) ?_ (fun k hk=>Exists.intro _ (ai (Wk.refl _) ?_))
 ·refine fG @tmz ?_;have F:=@tmz;refine gL (ι:=Nat) [5,30] [] (fun k=>[(5,A.d (.one (.lit (.int .i64 k))))]) (fun k=>[]) (fun k=>k<=i∧∀ y∈M.drop k,Zah x y<=0) (fun k=>k) (i) (⟨Tai _,by rw [<- hMl,List.drop_length];intro y hy;cases hy⟩) (fun k hk=>?_);clear F;obtain ⟨hk,h2⟩:=hk;by_cases hk0:k=0
  ·have q0:=lF 0 k;have F:=ai @q0 @tmz;refine gG ?_;exact ⟨k,⟨hk,h2,fun h=>om⟩,gw,gw⟩
  obtain ⟨j,rfl⟩:∃ j,k=j+1:=⟨k - 1,om⟩;obtain ⟨y,hy⟩:∃ y,M[j]?=some y:=⟨_,Taa om⟩;have q5:=lT 0 (j+1:Nat);have wj:IntKind.i64.wrap (((j+1:Nat):Int) - 1)=(j:Int):=Za2 om om om;have lj:j < i:=om;have hdr:M.drop j=y::M.drop (j+1):=Zog hy;generalize hk1:j+1=k1 at q5 wj h2 hk hdr ⊢;refine fB @tmz ?_;refine fC (aj8 @q5 @wj @hy @hx @hMl @lj @ZaS @tmz) (Zdw (hMo.mem (Tac hy)) hxo) ?_;by_cases hc:0 < Zah y x
  ·have z:=eq_true hc;refine fR @z ?_;have h2':∀ u∈M.drop j,Zah x u<=0:=fun u hu=>by
    rw [hdr] at hu;rcases Tbf.1 hu with rfl | hu
    ·rw [Zcq u x];omega
    ·exact h2 u hu
   have F:=ai @z @wj;refine gG ?_;exact ⟨j,⟨om,h2'⟩,gw,gw,om⟩
  have z:=eq_false hc;refine fR @z ?_;have F:=ai @z @tmz;refine gG ?_;exact ⟨k1,⟨hk,h2,fun _=>⟨y,by rw [<- hk1,Nat.add_sub_cancel];exact hy,om⟩⟩,gw,gw⟩
 obtain ⟨hk,h2,h1⟩:=hk;have hMs:M.take k++x::M.drop k=ZbE (ts.take (i+1)):=by
  rw [hMr];refine Zxi (by rw [Tbl,hM]) h2 fun y hy=>?_;have hk0:0 < k:=by
   rcases Nat.eq_zero_or_pos k with h | h
   ·subst h;simp at hy
   ·exact h
  obtain ⟨z,hz,hc⟩:=h1 hk0;rw [List.getLast?_eq_getElem?,Taw,hMl,Nat.min_eq_left hk,List.getElem?_take,if_pos om,hz] at hy;injection hy with hy
  subst hy;exact hc
 have hdl:((Zaa M).take (Zaa M).length).drop k=Zaa (M.drop k):=by rw [Tap,Zd9]
 refine fN 8 @tmz ?_;refine pS 3 fun a cap=>?_;refine gB ?_;have F:=@tmz;refine gP 3 ?_;clear F;have hkl:k<=(Zaa M).length:=by rw [Zai];omega
 refine (have F:=ai hMl tmz;gSub 3 k (Zaa M).length ⟨hkl,Tai _⟩ ?_);refine gO 33 34 4 ?_;refine (have F:=tmz;gAps (rows:=[]) (rj:=Zaa M) 33 3 ⟨hkl,Tai _⟩ (by rw [Zai];simp only [Tak,maxApp];omega) ?_);rw [hdl,Tah];refine fR @tmz ?_;refine fN 9 @tmz ?_;have hcl:(Zaa M).take k=Zaa (M.take k):=Zdy _ _;have htl:(M.take k).length=k:=by rw [Taw];omega
 refine gF0 ?_;refine gFm 0 ?_;refine gFm 1 ?_;refine (have F:=ai hMl tmz;gFs 2 3 0 k ⟨Taj _,hkl⟩ ?_);rw [ZjD];refine gFm 3 ?_;refine gFm 4 ?_;refine gFm 9 ?_;refine gFT ?_;have l1:(k+1<=maxApp)=True:=eq_true (by unfold maxApp;omega);have l2:((M.take k).length+1+(M.drop k).length<=maxApp)=True:=eq_true (by rw [htl,List.length_drop];unfold maxApp;omega);have e1:Zaa (M.take k)++[Zab x]=Zaa (M.take k++[x]):=by rw [ZbN];rfl
 have e2:Zaa (M.take k++[x])++Zaa (M.drop k)=Zaa (ZbE (ts.take (i+1))):=by rw [<- ZbN,<- hMs];simp
 refine gO1 5 ?_;refine (have F:=aj4 q2 hx ZaS tmz;gO3 ?_);refine gO1 6 ?_;refine (have F:=ai hx tmz;gO3 ?_);refine gO1 7 ?_;refine (have F:=tmz;gO3 ?_);refine gO1 8 ?_;refine gE [3] [3] (Zvz k hkl) ?_;rw [hcl];refine (have F:=aj4 htl l1 e1 tmz;gO3 ?_);refine gO1 10 ?_;refine (have F:=aj3 l2 e2 tmz;gO3 ?_);refine gO1 11 ?_;refine (have F:=tmz;gO3 ?_);refine (have F:=tmz;gT0 ?_);refine Exists.intro _ (ai (Wk.refl _) ?_)
 have F:=@q4;refine gG ?_;exact ⟨i+1,hlt,gw,gw,om⟩
theorem Zmv {ts:List Tm}:Zaw ts ↔ ∀ t∈ts,okTm t:=by
 induction ts with
 | nil=>simp [Zaw]
 | cons t ts ih=>simp [Zaw,ih]
theorem ZgY (op so:Int) (nm:ByteArray) (args:List Tm):Zal (Zab (.mk op nm so args))=nm.size+(args.length+Zas (Zaa args)):=by
 simp only [Zab,Zal,Zc9,Zai];omega
section
variable {g:Sgn}
mutual
theorem ZdO:∀ {t:Tm},ZaD g t->Zal (Zab t)+1<=13 * sizeTm t
 | .mk op nm so args,h=>by
  have h1:=Zhu (Zd7.2 (ZaI.1 h).2.1);simp only [Tm.args] at h1;rw [ZgY];simp only [sizeTm];rcases h.node with hv | ⟨o,d,hA⟩
  ·have h2:Za7 nm=true:=hv.2.1;have h3:args=[]:=hv.2.2.2.2;subst h3;have h4:¬ 12 < nm.size:=fun h=>by rw [ZcB (.inr (.inl h))] at h2;cases h2
   simp only [Zaa,Zas,sizeTms,Tak];omega
  ·have h2:nm=ByteArray.empty:=hA.nm;subst h2;have:ByteArray.empty.size=0:=rfl;omega
theorem Zhu:∀ {ts:List Tm},ZcO g ts->Zas (Zaa ts)+ts.length<=13 * sizeTms ts
 | [],_=>by simp [Zaa,Zas]
 | t::ts,h=>by
  simp only [ZcO] at h;have h1:=ZdO h.1;have h2:=Zhu h.2;simp only [Zaa,Zas,sizeTms,Tag];omega
end
end
def addL (i:Nat):Nat->List Oper->List Oper
 | _,[]=>[]
 | 0,o::l=>{ o with after:=o.after.push ⟨i,.data⟩ }::l
 | k+1,o::l=>o::addL i k l
theorem Zf1 (i:Nat):∀ (k:Nat) (l:List Oper) (j:Nat),(addL i k l)[j]?=if j=k then l[j]?.map fun o=>{ o with after:=o.after.push ⟨i,.data⟩ } else l[j]?
 | k,[],j=>by simp [addL]
 | 0,o::l,0=>by simp [addL]
 | 0,o::l,j+1=>by simp [addL]
 | k+1,o::l,0=>by simp [addL]
 | k+1,o::l,j+1=>by simp [addL,Zf1 i k l j]
theorem Zhv (i:Nat):∀ (k:Nat) (l:List Oper),(addL i k l).length=l.length
 | k,[]=>by simp [addL]
 | 0,o::l=>by simp [addL]
 | k+1,o::l=>by simp [addL,Zhv i k l]
theorem Zj3 (i:Nat):∀ (k:Nat) (l:List Oper),(addL i k l).map (·.dst)=l.map (·.dst)
 | k,[]=>by simp [addL]
 | 0,o::l=>by simp [addL]
 | k+1,o::l=>by simp [addL,Zj3 i k l]
section
variable {P:Program} {l:List Oper} {i k:Nat} {oi ok:Oper}
theorem Zgn {Q:Exit->Act->World->Prop} {j:Nat} {K:Act->World->Prop} {a:Act} {w:World}:wpOp P (addL i k l).toArray Q j K a w ↔ wpOp P l.toArray Q j K a w:=by
 have hb:∀ g:Nat,((addL i k l)[g]?).bind (fun x=>x.dst)=(l[g]?).bind fun x=>x.dst:=fun g=>by
  rw [Zf1];by_cases h:g=k
  ·rw [if_pos h];cases l[g]? <;> rfl
  ·rw [if_neg h]
 have hy:yielded (addL i k l).toArray a.tmps=yielded l.toArray a.tmps:=by
  funext g;unfold yielded;simp only [List.getElem?_toArray,hb]
 unfold wpOp;rw [hy];simp only [List.getElem?_toArray,Zf1];by_cases hjk:j=k
 ·rw [if_pos hjk]
  cases hj:l[j]? with
  | none=>exact Iff.rfl
  | some o=>exact Iff.rfl
 ·rw [if_neg hjk]
def ZvC (ops:Array Oper) (i:Nat):Bool:=(List.range ops.size).all fun j=>j==i || match ops[i]?,ops[j]? with
 | some oi,some oj=>oi.after.any (fun e=>Region.binds .any e && e.on==j) || (oj.after.any (fun e=>Region.binds .any e && e.on==i) || oi.apart ops oj)
 | _,_=>true
def Zk2 (ops:Array Oper) (i k:Nat):Bool:=Zk0 ops && ZvC ops i && i != k && match ops[i]?,ops[k]? with
 | some oi,some ok=>(match oi with
  | ⟨some _,.extract _ _,_,_,_,none⟩=>true
  | _=>false) && oi.after.all fun e=>!Region.binds .any e || ok.after.any fun e'=>Region.binds .any e' && e'.on==e.on
 | _,_=>false
theorem Zr4 {Q:Exit->Act->World->Prop} (hQ:∀ ex a w,Q ex a w->ex=.normal) (hB:Zk2 l.toArray i k=true) :
  ∀ (f:Nat) (listed:Array Bool) (a:Act) (w:World),listed.size=l.length->wpAny P .any (addL i k l).toArray Q f listed a w->wpAny P .any l.toArray Q f listed a w:=by
 simp only [Zk2,Tar,bne_iff_ne,ne_eq] at hB;obtain ⟨⟨⟨hsel,hap⟩,hik⟩,h4⟩:=hB;split at h4;rotate_left
 ·cases h4
 rename_i oi ok hoi hok;simp only [Tar] at h4;obtain ⟨h5,h6⟩:=h4;have hpre:∀ e∈oi.after,Region.binds .any e=true->∃ e'∈ok.after,Region.binds .any e'=true∧e'.on=e.on:=fun e he hb=>by
  have:=Array.all_eq_true_iff_forall_mem.1 h6 e he;simp only [hb,Bool.not_true,Bool.false_or,Array.any_eq_true',Tar,beq_iff_eq] at this;obtain ⟨e',q1,q2,q3⟩:=this;exact ⟨e',q1,q2,q3⟩
 have hrdy:∀ (listed:Array Bool) (j:Nat),j∈Region.ready .any (addL i k l).toArray listed ↔ j∈Region.ready .any l.toArray listed∧(j=k->listed.getD i false=true):=fun listed j=>by
  rw [mem_ready,mem_ready];simp only [List.getElem?_toArray,Zf1];by_cases hj:j=k
  ·subst hj;simp only [if_true,true_implies];constructor
   ·rintro ⟨q1,o,q2,q3⟩
    cases hl:l[j]? with
    | none=>rw [hl] at q2;cases q2
    | some o' =>
     rw [hl] at q2;injection q2 with q2
     subst q2;exact ⟨⟨q1,o',rfl,fun e he hb=>q3 e (by simp [he]) hb⟩,q3 ⟨i,.data⟩ (by simp) rfl⟩
   ·rintro ⟨⟨q1,o,q2,q3⟩,q4⟩;refine ⟨q1,_,by rw [q2];rfl,fun e he hb=>?_⟩;rcases Array.mem_push.1 he with he | he
    ·exact q3 e he hb
    ·subst he;exact q4
  ·simp [hj]
 have hun:∀ (listed:Array Bool),listed.size=l.length->k∈Region.ready .any l.toArray listed->i∈Region.ready .any l.toArray listed∨listed.getD i false=true:=fun listed hs hk=>by
  by_cases h:listed.getD i false=true
  ·exact .inr h
  ·left;rw [mem_ready] at hk ⊢;obtain ⟨_,o,q2,q3⟩:=hk;have:o=ok:=by rw [hok] at q2;injection q2 with q2;exact q2.symm
   subst this;have hlt:i < l.length:=by have:=(Tbk.1 hoi).1;simpa using this
   refine ⟨?_,oi,hoi,fun e he hb=>?_⟩
   ·have hl:i < listed.size:=om;rw [Zbc hl];simpa using h
   ·obtain ⟨e',r1,r2,r3⟩:=hpre e he hb;rw [<- r3];exact q3 e' r1 r2
 have hap':=hap;intro f
 induction f with
 | zero =>
  intro listed a w hs h;refine ⟨?_,h.2⟩;by_cases hk:k∈Region.ready .any l.toArray listed
  ·rcases hun listed hs hk with h1 | h1
   ·have:=(hrdy listed i).2 ⟨h1,fun e=>absurd e hik⟩;rw [h.1] at this
    cases this
   ·have:=(hrdy listed k).2 ⟨hk,fun _=>h1⟩;rw [h.1] at this
    cases this
  ·refine List.eq_nil_iff_forall_not_mem.2 fun j hj=>?_;have:=(hrdy listed j).2 ⟨hj,fun e=>absurd (e ▸ hj) hk⟩;rw [h.1] at this
   cases this
 | succ f ih =>
  intro listed a w hs h;by_cases hi:i∈Region.ready .any l.toArray listed
  ·have h1:=h.2 i ((hrdy listed i).2 ⟨hi,fun e=>absurd e hik⟩);rw [Zgn] at h1;have h1':∃ v,Yields P l.toArray oi v a∧wpAny P .any (addL i k l).toArray Q f (listed.setIfInBounds i true) (a.put oi.dst v) w:=by
    unfold wpOp at h1;simp only [hoi] at h1;split at h5;rotate_left
    ·cases h5
    rename_i d x n ty pos af;have hw:Region.wanted ⟨some d,.extract x n,ty,pos,af,none⟩ (yielded l.toArray a.tmps)=true:=by simp [Region.wanted]
    rw [if_pos hw] at h1;rcases h1 with h1 | ⟨_,b,w',h1⟩
    rotate_left
    ·have:=hQ _ _ _ h1;cases this
    unfold Oper.wp at h1
    cases hx:a.eval x with
    | tuple vs =>
     cases hv:vs[n]? with
     | some v =>
      have hrun:∀ w',(execOp a.eval ⟨some d,.extract x n,ty,pos,af,none⟩).run P w'=.ok (.value v) w':=fun w'=>by
       simp [execOp,Instr.extract,hx,hv]
      rw [hrun,Oper.upon_value] at h1;exact ⟨v,.inl ⟨hw,hrun⟩,h1⟩
     | none =>
      simp [execOp,Instr.extract,hx,hv,stuck,Oper.upon] at h1
    | _=>simp [execOp,Instr.extract,hx,stuck,Oper.upon] at h1
   obtain ⟨v,hv,h2⟩:=h1';refine wpAny_first (oi:=oi) (v:=v) hoi (fun j oj cs b hj hsl=>?_) (fun c a w hq=>?_) f listed a w (fun j oj hj hne hl hno=>?_) hi hv (ih _ _ _ (by simpa using hs) h2)
   ·have:=List.all_eq_true.1 hsel oj (Tac (by simpa using hj));rw [hsl] at this
    cases this
   ·have:=hQ _ _ _ hq;cases this
   ·have hjs:=(Tbk.1 hj).1;have:=List.all_eq_true.1 hap j (List.mem_range.2 hjs);simp only [hoi,hj,Bool.or_eq_true,beq_iff_eq,List.any_eq_true,Array.any_eq_true',Tar] at this;rcases this with h1 | h1 | h1 | h1
    ·exact absurd h1 hne
    ·obtain ⟨ed,h2,h3,h4⟩:=h1;obtain ⟨_,o,q2,q3⟩:=mem_ready.1 hi;rw [hoi] at q2;injection q2 with q2
     subst q2;have q4:=q3 ed h2 h3;rw [h4,<- Zbc (by simpa [hs] using hjs)] at q4;rw [hl] at q4
     cases q4
    ·obtain ⟨ed,h2,h3,h4⟩:=h1;exact absurd h4 (hno ed h2 h3)
    ·exact h1
  ·refine ⟨fun h0=>h.1 ?_,fun j hj=>?_⟩
   ·refine List.eq_nil_iff_forall_not_mem.2 fun j hj=>?_;have:=((hrdy listed j).1 hj).1;rw [h0] at this
    cases this
   ·have hj':j∈Region.ready .any (addL i k l).toArray listed:=(hrdy listed j).2 ⟨hj,fun e=>by
     subst e;rcases hun listed hs hj with h1 | h1
     ·exact absurd h1 hi
     ·exact h1⟩
    have h1:=h.2 j hj';rw [Zgn] at h1;exact wpOp_mono (fun a w h=>ih _ a w (by simpa using hs) h) h1
end
section
variable {e:Env} {K:St->Prop} {mask:Nat} {Q:PX->St->Prop} {s:List (Nat × A)} {m:List (Nat × Bk)}
theorem Zk3 {l:List Oper} {i k:Nat} {σ:St} (hB:Zk2 l.toArray i k=true) (h:Zcl e (addL i k l).toArray K l.length (Array.replicate l.length false) σ):Zcl e l.toArray K l.length (Array.replicate l.length false) σ:=by
 intro he U w0 S0 nt a w hd hs;refine Zr4 (fun ex a w hq=>hq.1) hB _ _ _ _ (by simp) (h he U w0 S0 nt a w (fun o ho d hdd=>?_) hs);have:some d∈(addL i k l).map (·.dst):=Tbh.2 ⟨o,by simpa using ho,hdd⟩;rw [Zj3] at this;obtain ⟨o',h1,h2⟩:=Tbh.1 this;exact hd o' (by simpa using h1) d h2
theorem ZpC {l:List Oper} {p:Nat} {σ:St} (hAl:Zeh l.toArray p=true) (hB:regB l.toArray (p+1)=true) (hp:Runs e (l.map (·.dst)) (p+1) l σ K):Zcl e l.toArray K l.length (Array.replicate l.length false) σ:=by
 intro he U w0 S0 nt a w hd hs;have:=ZfN (ops:=l.toArray) he hAl hB (K:=K) (Q:=QN e U w0 S0 nt K) (fun a w σ' hK hs'=>⟨rfl,σ',hK,hs'⟩) hd hs (by simpa using hp);simpa using this
theorem gLt {id:Nat} {l l':List Oper} {ds:List (Option Nat)} (p i k:Nat) (hK:Runs e ds (p+1) l' ⟨s,m⟩ (Zct mask Q)) (hl:addL i k l=l':=by simp only [addL];exact rfl) (hds:l'.map (·.dst)=ds:=by simp only [Tbt,List.map_nil];exact rfl) (hc:Zk2 l.toArray i k=true:=by decide +kernel) (hA:Zeh l'.toArray p=true:=by decide +kernel) (hr:regB l'.toArray (p+1)=true:=by decide +kernel):pwp e mask (.region id l.toArray true) ⟨s,m⟩ Q:=by
 subst hl hds;have h1:=Zk3 hc (by have:=ZpC hA hr hK;rwa [Zhv] at this);exact Zgm (ops:=l.toArray) (by simpa using h1)
end
def Zzc (ops:Array Oper) (ok:Oper):List Nat:=(ok.after.toList.filter fun e=>Region.binds .any e).flatMap fun e=>e.on::match ops[e.on]? with
 | some o=>(o.after.toList.filter fun e=>Region.binds .any e).map (·.on)
 | none=>[]
def Znp (ops:Array Oper) (i k:Nat):Bool:=Zk0 ops && ZvC ops i && i != k && match ops[i]?,ops[k]? with
 | some oi,some ok=>(match oi with
  | ⟨some _,.pick _ _ _,_,_,_,none⟩=>true
  | _=>false) && oi.after.all fun e=>!Region.binds .any e || (Zzc ops ok).contains e.on
 | _,_=>false
section
variable {P:Program} {l:List Oper} {i k:Nat}
def ZgZ (l:List Oper) (listed:Array Bool):Prop:=∀ (j:Nat) o,listed.getD j false=true->l[j]?=some o->∀ e∈o.after,Region.binds .any e=true->listed.getD e.on false=true
theorem ZgZ.put {listed:Array Bool} {j:Nat} (hc:ZgZ l listed) (hj:j∈Region.ready .any l.toArray listed):ZgZ l (listed.setIfInBounds j true):=by
 intro q o hq ho e he hb;obtain ⟨_,o',h2,h3⟩:=mem_ready.1 hj;have hmono:∀ t,listed.getD t false=true->(listed.setIfInBounds j true).getD t false=true:=fun t ht=>by
  by_cases htj:t=j
  ·subst htj;simp only [Array.getD_eq_getD_getElem?,Array.getElem?_setIfInBounds] at ht ⊢
   cases hl:listed[t]? with
   | none=>rw [hl] at ht;cases ht
   | some b =>
    have:t < listed.size:=(Tbk.1 hl).1;simp [this]
  ·rw [getD_set_ne false (Ne.symm htj)];exact ht
 by_cases hqj:q=j
 ·subst hqj;have:o'=o:=by
   rw [List.getElem?_toArray,ho] at h2;injection h2 with h2
   exact h2.symm
  subst this;exact hmono _ (h3 e he hb)
 ·rw [getD_set_ne false (Ne.symm hqj)] at hq;exact hmono _ (hc q o hq ho e he hb)
theorem ZpD {Q:Exit->Act->World->Prop} (hQ:∀ ex a w,Q ex a w->ex=.normal) (hB:Znp l.toArray i k=true) :
  ∀ (f:Nat) (listed:Array Bool) (a:Act) (w:World),listed.size=l.length->ZgZ l listed->wpAny P .any (addL i k l).toArray Q f listed a w->wpAny P .any l.toArray Q f listed a w:=by
 simp only [Znp,Tar,bne_iff_ne,ne_eq] at hB;obtain ⟨⟨⟨hsel,hap⟩,hik⟩,h4⟩:=hB;split at h4;rotate_left
 ·cases h4
 rename_i oi ok hoi hok;simp only [Tar] at h4;obtain ⟨h5,h6⟩:=h4;have hrdy:∀ (listed:Array Bool) (j:Nat),j∈Region.ready .any (addL i k l).toArray listed ↔ j∈Region.ready .any l.toArray listed∧(j=k->listed.getD i false=true):=fun listed j=>by
  rw [mem_ready,mem_ready];simp only [List.getElem?_toArray,Zf1];by_cases hj:j=k
  ·subst hj;simp only [if_true,true_implies];constructor
   ·rintro ⟨q1,o,q2,q3⟩
    cases hl:l[j]? with
    | none=>rw [hl] at q2;cases q2
    | some o' =>
     rw [hl] at q2;injection q2 with q2
     subst q2;exact ⟨⟨q1,o',rfl,fun e he hb=>q3 e (by simp [he]) hb⟩,q3 ⟨i,.data⟩ (by simp) rfl⟩
   ·rintro ⟨⟨q1,o,q2,q3⟩,q4⟩;refine ⟨q1,_,by rw [q2];rfl,fun e he hb=>?_⟩;rcases Array.mem_push.1 he with he | he
    ·exact q3 e he hb
    ·subst he;exact q4
  ·simp [hj]
 have hun:∀ (listed:Array Bool),listed.size=l.length->ZgZ l listed->k∈Region.ready .any l.toArray listed->i∈Region.ready .any l.toArray listed∨listed.getD i false=true:=fun listed hs hcl hk=>by
  by_cases h:listed.getD i false=true
  ·exact .inr h
  ·left;rw [mem_ready] at hk ⊢;obtain ⟨_,o,q2,q3⟩:=hk;have:o=ok:=by rw [hok] at q2;injection q2 with q2;exact q2.symm
   subst this;have hlt:i < l.length:=by have:=(Tbk.1 hoi).1;simpa using this
   refine ⟨?_,oi,hoi,fun e he hb=>?_⟩
   ·have hl:i < listed.size:=om;rw [Zbc hl];simpa using h
   ·have:=Array.all_eq_true_iff_forall_mem.1 h6 e he;simp only [hb,Bool.not_true,Bool.false_or,List.contains_eq_mem,decide_eq_true_eq,Zzc,List.mem_flatMap,List.mem_filter,Tbf] at this;obtain ⟨e',⟨r1,r2⟩,r3⟩:=this;have hl':=q3 e' (Array.mem_toList_iff.1 r1) r2;rcases r3 with r3 | r3
    ·rw [r3];exact hl'
    ·cases ho':l.toArray[e'.on]? with
     | none=>rw [ho'] at r3;simp at r3
     | some o' =>
      rw [ho'] at r3;simp only [Tbh,List.mem_filter] at r3;obtain ⟨e2,⟨r4,r5⟩,r6⟩:=r3;rw [<- r6];exact hcl e'.on o' hl' (by simpa using ho') e2 (Array.mem_toList_iff.1 r4) r5
 intro f
 induction f with
 | zero =>
  intro listed a w hs hcl h;refine ⟨?_,h.2⟩;by_cases hk:k∈Region.ready .any l.toArray listed
  ·rcases hun listed hs hcl hk with h1 | h1
   ·have:=(hrdy listed i).2 ⟨h1,fun e=>absurd e hik⟩;rw [h.1] at this
    cases this
   ·have:=(hrdy listed k).2 ⟨hk,fun _=>h1⟩;rw [h.1] at this
    cases this
  ·refine List.eq_nil_iff_forall_not_mem.2 fun j hj=>?_;have:=(hrdy listed j).2 ⟨hj,fun e=>absurd (e ▸ hj) hk⟩;rw [h.1] at this
   cases this
 | succ f ih =>
  intro listed a w hs hcl h;by_cases hi:i∈Region.ready .any l.toArray listed
  ·have h1:=h.2 i ((hrdy listed i).2 ⟨hi,fun e=>absurd e hik⟩);rw [Zgn] at h1;have h1':∃ v,Yields P l.toArray oi v a∧wpAny P .any (addL i k l).toArray Q f (listed.setIfInBounds i true) (a.put oi.dst v) w:=by
    unfold wpOp at h1;simp only [hoi] at h1;split at h5;rotate_left
    ·cases h5
    rename_i d x y z ty pos af;have hw:Region.wanted ⟨some d,.pick x y z,ty,pos,af,none⟩ (yielded l.toArray a.tmps)=true:=by simp [Region.wanted]
    rw [if_pos hw] at h1;rcases h1 with h1 | ⟨_,b,w',h1⟩
    rotate_left
    ·have:=hQ _ _ _ h1;cases this
    unfold Oper.wp at h1
    cases hx:a.eval x with
    | bool b =>
     have hrun:∀ w',(execOp a.eval ⟨some d,.pick x y z,ty,pos,af,none⟩).run P w'=.ok (.value (if b then a.eval y else a.eval z)) w':=fun w'=>by
      cases b <;> simp [execOp,hx,asBool]
     rw [hrun,Oper.upon_value] at h1;exact ⟨_,.inl ⟨hw,hrun⟩,h1⟩
    | _=>simp [execOp,hx,asBool,stuck,Oper.upon,Result.andThen] at h1
   obtain ⟨v,hv,h2⟩:=h1';refine wpAny_first (oi:=oi) (v:=v) hoi (fun j oj cs b hj hsl=>?_) (fun c a w hq=>?_) f listed a w (fun j oj hj hne hl hno=>?_) hi hv (ih _ _ _ (by simpa using hs) (hcl.put hi) h2)
   ·have:=List.all_eq_true.1 hsel oj (Tac (by simpa using hj));rw [hsl] at this
    cases this
   ·have:=hQ _ _ _ hq;cases this
   ·have hjs:=(Tbk.1 hj).1;have:=List.all_eq_true.1 hap j (List.mem_range.2 hjs);simp only [hoi,hj,Bool.or_eq_true,beq_iff_eq,List.any_eq_true,Array.any_eq_true',Tar] at this;rcases this with h1 | h1 | h1 | h1
    ·exact absurd h1 hne
    ·obtain ⟨ed,h2,h3,h4⟩:=h1;obtain ⟨_,o,q2,q3⟩:=mem_ready.1 hi;rw [hoi] at q2;injection q2 with q2
     subst q2;have q4:=q3 ed h2 h3;rw [h4,<- Zbc (by simpa [hs] using hjs)] at q4;rw [hl] at q4
     cases q4
    ·obtain ⟨ed,h2,h3,h4⟩:=h1;exact absurd h4 (hno ed h2 h3)
    ·exact h1
  ·refine ⟨fun h0=>h.1 ?_,fun j hj=>?_⟩
   ·refine List.eq_nil_iff_forall_not_mem.2 fun j hj=>?_;have:=((hrdy listed j).1 hj).1;rw [h0] at this
    cases this
   ·have hj':j∈Region.ready .any (addL i k l).toArray listed:=(hrdy listed j).2 ⟨hj,fun e=>by
     subst e;rcases hun listed hs hcl hj with h1 | h1
     ·exact absurd h1 hi
     ·exact h1⟩
    have h1:=h.2 j hj';rw [Zgn] at h1;exact wpOp_mono (fun a w h=>ih _ a w (by simpa using hs) (hcl.put hj) h) h1
end
section
variable {e:Env} {K:St->Prop} {mask:Nat} {Q:PX->St->Prop} {s:List (Nat × A)} {m:List (Nat × Bk)}
theorem ZpE {l:List Oper} {i k:Nat} {σ:St} (hB:Znp l.toArray i k=true) (h:Zcl e (addL i k l).toArray K l.length (Array.replicate l.length false) σ):Zcl e l.toArray K l.length (Array.replicate l.length false) σ:=by
 intro he U w0 S0 nt a w hd hs;refine ZpD (fun ex a w hq=>hq.1) hB _ _ _ _ (by simp) (fun j o hj=>by rw [getD_replicate_false] at hj;cases hj) (h he U w0 S0 nt a w (fun o ho d hdd=>?_) hs);have:some d∈(addL i k l).map (·.dst):=Tbh.2 ⟨o,by simpa using ho,hdd⟩;rw [Zj3] at this;obtain ⟨o',h1,h2⟩:=Tbh.1 this;exact hd o' (by simpa using h1) d h2
theorem Zk4 (he:e.Ok) {U:Nat->Prop} {w0:World} {S0:Nat->Prop} {nt:Nat} {ops:Array Oper} {n:Nat} (hB:regB ops n=true) (hna:∀ o,(ops.toList.take n).getLast?=some o->isAl o=false) {Q:Exit->Act->World->Prop} (hQ:∀ a w σ',K σ'->SimE e U w0 S0 nt σ' a w->Q .normal a w) {σ:St} {a:Act} {w:World}
  (hd:∀ o∈ops.toList,∀ d,o.dst=some d->d < nt) (h:SimE e U w0 S0 nt σ a w) (hp:Runs e (ops.toList.map (·.dst)) n ops.toList σ K):wpAny e.P .any ops Q ops.size (Array.replicate ops.size false) a w:=by
 simp only [regB,Tar,Bool.or_eq_true,decide_eq_true_eq] at hB;obtain ⟨⟨⟨hH,hn⟩,hs⟩,hsq⟩:=hB;obtain ⟨S,L,h1⟩:=h;have hsplit:ops.toList=ops.toList.take n++ops.toList.drop n:=(Tbl n _).symm;have hlen:(ops.toList.take n).length=n:=by simp;omega
 have hp':Runs e (ops.toList.map (·.dst)) ((ops.toList.take n).length+0) (ops.toList.take n++ops.toList.drop n) σ K:=by rw [<- hsplit,hlen];exact hp
 obtain ⟨αs,hal,hch,hrest⟩:=ZcS (U:=U) he w0.heap.size S0 ops.toList (ops.toList.drop n) 0 (ops.toList.take n) σ (fun _=>hna) hp';rw [hlen] at hal
 have inv0:InvA e U w0 S0 nt σ.m ops n σ.s αs L (Array.replicate ops.size false) a w S :=
  ⟨⟨by simp,fun j oj _ hl=>(by rw [getD_replicate_false] at hl;cases hl),fun t _ ht=>getD_in (by simpa using ht) (getD_replicate_false _ _)⟩,h1.size,h1.defers,h1.cls,h1.kept,fun t _=>h1.rel t,fun i o d α _ hl=>(by rw [getD_replicate_false] at hl;cases hl)⟩
 have H:=Zc6 (e:=e) (L:=L) (Q:=Q) he hH hn (fun hlt=>by
   rcases hs with hs | hs
   ·omega
   ·exact hs) hsq (fun i o d hi ho hdd=>hd o (List.mem_iff_getElem?.2 ⟨i,by simpa using ho⟩) d hdd) hal hch (ZgA hH Q) (fun _ _ _ _ _ _ _ _ _ _ _ _ _ _=>trivial) (fun listed a' w' S' hI _ hall=>?_) n _ a _ S inv0 trivial ?_
 ·rw [show n+(ops.size - n)=ops.size by omega] at H;exact H
 ·have hsim:SimE e U w0 S0 nt ⟨after σ.s (ops.toList.take n) αs,σ.m⟩ a' w':=by
   refine ⟨S',L,hI.cls,fun t=>?_,hI.size,hI.defers,hI.kept⟩;by_cases hex:∃ (j:Nat) (p:Oper),j < n∧ops[j]?=some p∧p.dst=some t
   ·obtain ⟨j,p,hj,hp,hpt⟩:=hex;obtain ⟨p',d',hP⟩:=ZbV.get hH hj;have hpp:p'=p:=by have:=hP.op;rw [hp] at this;injection this with this;exact this.symm
    subst hpp;have hdt:d'=t:=by have:=hP.dst;rw [hpt] at this;injection this with this;exact this.symm
    subst hdt;obtain ⟨α,hα⟩:∃ α,αs[j]?=some α:=⟨αs[j],Taa om⟩;show ARel w' S' L (gs (after σ.s (ops.toList.take n) αs) d') _;rw [Zc5 (ops.toList.take n) αs σ.s j p' α (by rw [List.getElem?_take,if_pos hj];simpa using hp) hα hpt (fun k q hk hq=>by
     rw [List.getElem?_take] at hq;split at hq
     ·exact (hP.dep k q om (by simpa using hq)).1 hk
     ·cases hq)]
    exact hI.done j p' d' α hj (hall j hj) hp hpt hα
   ·have hno:∀ (j:Nat) (p:Oper),j < n->ops[j]?=some p->p.dst≠some t:=fun j p hj hp hd=>hex ⟨j,p,hj,hp,hd⟩;show ARel w' S' L (gs (after σ.s (ops.toList.take n) αs) t) _;rw [Zb7 _ _ _ (fun p hp=>by
     obtain ⟨j,hj⟩:=List.mem_iff_getElem?.1 hp;rw [List.getElem?_take] at hj;split at hj
     ·exact hno j p om (by simpa using hj)
     ·cases hj)]
    exact hI.out t hno
  have:=ZgT he ops.toList hQ (ops.toList.drop n) _ a' w' (fun o ho=>hd o (List.mem_of_mem_drop ho)) hsim hrest;simpa using this
 ·rw [List.countP_eq_length.2]
  ·simp
  ·intro i hi;have hi':=List.mem_range.1 hi;have hsz:i < (Array.replicate ops.size false).size:=by simp;omega
   rw [Zbc hsz,getD_replicate_false];rfl
theorem Zr5 {l:List Oper} {n:Nat} {σ:St} (hB:regB l.toArray n=true) (hna:∀ o,(l.take n).getLast?=some o->isAl o=false) (hp:Runs e (l.map (·.dst)) n l σ K):Zcl e l.toArray K l.length (Array.replicate l.length false) σ:=by
 intro he U w0 S0 nt a w hd hs;have:=Zk4 (ops:=l.toArray) (n:=n) he hB (by simpa using hna) (K:=K) (Q:=QN e U w0 S0 nt K) (fun a w σ' hK hs'=>⟨rfl,σ',hK,hs'⟩) hd hs (by simpa using hp);simpa using this
def ZvD (l:List Oper) (n:Nat):Bool:=match (l.take n).getLast? with
 | some o=>!isAl o
 | none=>true
theorem gLp {id:Nat} {l l':List Oper} {ds:List (Option Nat)} (n i k:Nat) (hK:Runs e ds n l' ⟨s,m⟩ (Zct mask Q)) (hl:addL i k l=l':=by simp only [addL];exact rfl) (hds:l'.map (·.dst)=ds:=by simp only [Tbt,List.map_nil];exact rfl) (hc:Znp l.toArray i k=true:=by decide +kernel) (hA:ZvD l' n=true:=by decide +kernel) (hr:regB l'.toArray n=true:=by decide +kernel):pwp e mask (.region id l.toArray true) ⟨s,m⟩ Q:=by
 subst hl hds;have h1:=ZpE hc (by have:=Zr5 hr (fun o ho=>by unfold ZvD at hA;rw [ho] at hA;simpa using hA) hK;rwa [Zhv] at this);exact Zgm (ops:=l.toArray) (by simpa using h1)
end
end Go.Proofs.YtmdkimnlbaahbaaGreat
namespace Go.Proofs.YtmdkimnlbaahbaaGreat
open Go.RowKit
open Classical in
noncomputable def mk6 (g:Sgn) (o:Opr) (d:Dcl) (op:Int) (xs:List Tm):Tm:=(mkO g o d op xs).getD (if ¬ ArB o d xs.length∧∀ (i:Nat) a,xs[i]?=some a->KArg g o d i a then appT op (srtO o (Zaj o op xs)) else zTm)
theorem Zj4 {g:Sgn} {o:Opr} {op:Int} {xs:List Tm} (h:∀ a∈xs,TermOk g a):∀ b∈Zaj o op xs,ZaD g b:=by
 intro b hb;obtain ⟨a,h1,h2⟩:=List.mem_flatMap.1 hb;have hf:=(h a h1).form;unfold ZaW at h2;split at h2
 ·exact (ZaI.1 hf).2.1 b h2
 ·split at h2
  ·cases h2
  ·rw [Tbi.1 h2];exact hf
theorem Zmw:∀ (l m:List Tm),sizeTms (l++m)=sizeTms l+sizeTms m
 | [],m=>by simp [sizeTms]
 | x::l,m=>by simp only [Taf,sizeTms,Zmw l m];omega
theorem Zhw {g:Sgn} {o:Opr} {op:Int}:∀ {xs:List Tm},(∀ a∈xs,TermOk g a)->sizeTms (Zaj o op xs)<=60 * xs.length
 | [],_=>by simp [Zaj,sizeTms]
 | a::xs,h=>by
  have ih:=Zhw (o:=o) (op:=op) (xs:=xs) fun x hx=>h x (Tal _ hx);have ha:=(h a Tas).size;have e:Zaj o op (a::xs)=ZaW o op a++Zaj o op xs:=rfl;have hz:=ZaO a;have hf:sizeTms (ZaW o op a)<=sizeTm a:=by
   unfold ZaW;split
   ·omega
   ·split
    ·simp [sizeTms]
    ·simp [sizeTms]
  rw [e,Zmw,Tag];omega
theorem Zrj {g:Sgn} {o:Opr} {op:Int} {xs:List Tm} (h:∀ a∈xs,TermOk g a) (hl:xs.length<=1000):tmsB (Zaj o op xs):=by
 have h1:=Zhu (Zd7.2 (Zj4 (o:=o) (op:=op) h));have h2:=Zhw (o:=o) (op:=op) h;unfold tmsB;omega
theorem Zk5 {l m:List Tm} (h:l.Perm m):Zas (Zaa l)=Zas (Zaa m):=by
 induction h with
 | nil=>rfl
 | cons x h ih=>simp only [Zaa,Zas,ih]
 | swap x y l=>simp only [Zaa,Zas];omega
 | trans h1 h2 a b=>rw [a,b]
section
variable {g:Sgn}
open Classical in
theorem ZpF (hokg:ZbJ g) (hg:SgnOk g) {op:Int} {o:Opr} {d:Dcl} (h0:0<=op) (ho:g.ops[op.toNat]?=some o) (hd:o.decls[0]?=some d) (xs:List Tm) (ha:∀ a∈xs,TermOk g a) (hl:xs.length<=1048576) (hfb:tmsB (Zaj o op xs)):Con e0 47 [.agg (Zag g),.one (.lit (.int .i64 op)),.one (.sl (Zaa xs))] [.agg (Zab (mk6 g o d op xs)),.one (.lit (.bool (mkO g o d op xs).isSome))]:=by
 have hz:=Zft;have hfo:Zaw (Zaj o op xs):=Zmv.2 fun b hb=>ZaD.ok hg _ b (Tan _) (Zj4 ha b hb);have hfs:=Zhw (o:=o) (op:=op) ha;have hax:=hg.axs o (Tac ho);have hlo:=hax.lo;have hhi:=hax.hi;have hln:=hg.len;obtain ⟨d',hd',hr0,hr1,hargs⟩:=hg.first ho;rw [hd] at hd';injection hd' with hd'
 subst hd';have cK:=Zdx hg.sorts;rw [Za3] at cK;have cUn:=ZkS hg h0 ho;rw [Zag] at cUn;have cA:=Zc7 hd;rw [ZaU] at cA;have hB:mkO g o d op xs=if ArB o d xs.length then none else if ∀ (i:Nat) a,xs[i]?=some a->KArg g o d i a then mkL o op (Zaj o op xs) else none:=rfl
 have hM:mk6 g o d op xs=(mkO g o d op xs).getD (if ¬ ArB o d xs.length∧∀ (i:Nat) a,xs[i]?=some a->KArg g o d i a then appT op (srtO o (Zaj o op xs)) else zTm):=rfl;have har2:o.assoc=true->d.args.length=2:=fun h=>by
  obtain ⟨k1,k2,hk,_⟩:=Opr.two hg ho hd (.inl h);rw [hk];rfl
 refine gI (ts:=[.cell 6 34,.slot 7]) 691281634562849416457226259614436229071 Tryz.func47 ?_;refine fN 2 (aj5 @tmz @Zbj @h0 @ho @Zae) ?_;refine gB ?_;refine fC @tmz (cK) ?_;refine fR @tmz ?_;refine fN 3 @tmz ?_;refine gM (ι:=Bool) [38] [] (fun b=>[(38,A.d (.one (.lit (.bool b))))]) (fun b=>[]) (fun b=>b=decide (ArB o d xs.length)) ?_ (fun b hb=>Exists.intro _ (ai (Wk.refl _) ?_))
 ·refine gB ?_;refine fC (ai @tmz @Zae) (cA) ?_;by_cases q:xs.length=d.args.length
  ·have q1:((xs.length:Int)=(d.args.length:Int))=True:=eq_true om;have hA:¬ ArB o d xs.length:=fun h=>h.elim (fun h=>by have:=har2 h.1;omega) fun h=>h.2 q;refine fR (ai @q1 @tmz) ?_;have F:=@tmz;refine gG ?_;exact ⟨false,(decide_eq_false hA).symm,gw,gw⟩
  have q1:((xs.length:Int)=(d.args.length:Int))=False:=eq_false om
  cases hac:o.assoc with
  | false =>
   have hA:ArB o d xs.length:=.inr ⟨hac,q⟩;refine fR (aj3 @q1 @hac @tmz) ?_;have F:=@tmz;refine gG ?_;exact ⟨true,(decide_eq_true hA).symm,gw,gw⟩
  | true =>
  by_cases q2:xs.length < 2
  ·have hA:ArB o d xs.length:=.inl ⟨hac,q2⟩;have q3:((2:Int)<=(xs.length:Int))=False:=eq_false om;refine fR (aj4 @q1 @hac @q3 @tmz) ?_;have F:=@tmz;refine gG ?_;exact ⟨true,(decide_eq_true hA).symm,gw,gw⟩
  ·have hA:¬ ArB o d xs.length:=fun h=>h.elim (fun h=>q2 h.2) fun h=>by rw [hac] at h;cases h.1
   have q3:((2:Int)<=(xs.length:Int))=True:=eq_true om;refine fR (aj4 @q1 @hac @q3 @tmz) ?_;have F:=@tmz;refine gG ?_;exact ⟨false,(decide_eq_false hA).symm,gw,gw⟩
 by_cases hAr:ArB o d xs.length
 ·rw [decide_eq_true hAr] at hb;subst hb;rw [if_pos hAr] at hB;rw [hB,if_neg fun h=>h.1 hAr] at hM;rw [hM,hB];exact fD (ai @hz @tmz)
 rw [decide_eq_false hAr] at hb;subst hb;rw [if_neg hAr] at hB;have hnas:o.assoc=false->xs.length=d.args.length:=fun h=>Classical.byContradiction fun c=>hAr (.inr ⟨h,c⟩);have hfl0:Zaj o op []=[]:=rfl;refine fN 5 @tmz ?_;refine gB ?_;refine fC @tmz (cUn) ?_;refine fR @tmz ?_;refine fG @tmz ?_;have F:=aj3 @hfl0 @Zc4 @tmz;refine gL (ι:=Nat) [7,12,13,14,50,55,73,82,92] [12] (fun i=>[(13,A.d (.one (.lit (.int .i64 i)))),(12,.buf 12)]) (fun i=>[(12,.buf none 34 4 (Zaa (Zaj o op (xs.take i))))]) (fun i=>i<=xs.length∧∀ (j:Nat) a,j < i->xs[j]?=some a->KArg g o d j a) (fun i=>xs.length - i) (0) (⟨Taj _,fun j a h=>absurd h om⟩) (fun i hi=>?_);clear F
 obtain ⟨hi,hall⟩:=hi;by_cases hlt:i < xs.length
 ·obtain ⟨a,hai⟩:∃ a,xs[i]?=some a:=⟨_,Taa hlt⟩;have hT:=ha a (Tac hai);have q1:=lT i xs.length;have hw1:=Zap (k:=i) om;obtain ⟨k,hk⟩:=Zgj hg ho hd hnas hlt;obtain ⟨hk0,hk1⟩:=hargs k (Tac hk);have hkd:=Zfc hg.sorts hk0 hk1;have hkN:d.args[(argAt o i:Nat)]?=some k:=hk;have cKa:=Zhq hokg hg hT.form.node;rw [Zag] at cKa;have cU:=ZdX (hT.ok hg) (Zio (o:=o) hlo om);have hUiff:o.unit≠0->(Zah a (ZaE o)=0 ↔ a.op=o.unit - 1):=fun hu=>by
   rw [Zc1];constructor
   ·rintro h;rw [h];simp [ZaE,Tm.op,hu]
   ·exact Zfd hg ho hu hT.form
  generalize hU:decide (Zah a (ZaE o)=0)=U at cU;have hst:=ZjA (o:=o) (op:=op) hai;have hle:=Zgl o op xs (i+1);rw [hst,Tae] at hle;have hfl:=Zbv (Zaj o op xs);have hnext:ZbD g a=((kd g.sorts k:Nat):Int)->i+1<=xs.length∧∀ (j:Nat) a,j < i+1->xs[j]?=some a->KArg g o d j a:=fun hkk=>⟨hlt,fun j a' hj ha'=>by
   by_cases e:j=i
   ·subst e;rw [hai] at ha';injection ha' with ha'
    subst ha';exact ⟨k,hk,hkk⟩
   ·exact hall j a' om ha'⟩
  refine fG (ai @q1 @tmz) ?_;refine gM (ι:=Unit) [14] [] (fun u=>[(14,A.d (.one (.lit (.int .i64 (argAt o i:Nat)))))]) (fun u=>[]) (fun u=>True) ?_ (fun u hu=>Exists.intro _ (ai (Wk.refl _) ?_))
  ·rcases Bool.eq_false_or_eq_true o.assoc with hac | hac
   ·have F:=aj3 @Zae @hac @ZfF;refine gG ?_;exact ⟨(),trivial,gw,gw⟩
   ·have F:=aj4 @Zae @hac @ZfF @if_false.{1};refine gG ?_;exact ⟨(),trivial,gw,gw⟩
  refine fN 13 @tmz ?_;refine gB ?_;refine fC (ai @hai @tmz) (cKa) ?_;by_cases hkk:ZbD g a=((kd g.sorts k:Nat):Int);rotate_left
  ·have hno:¬ ∀ (i:Nat) a,xs[i]?=some a->KArg g o d i a:=fun h=>by
    obtain ⟨k',hk',he⟩:=h i a hai;rw [hk] at hk';injection hk' with hk'
    subst hk';exact hkk he
   rw [if_neg hno] at hB;rw [hB,if_neg fun h=>hno h.2] at hM;rw [hM,hB];refine fR (aj9 @tmz @Zae @hd @ZaG @hkN @hk0 @hkd @Zao @hkk) ?_;exact fD (ai @hz @tmz)
  have hnext:=hnext hkk;have l1:ZaL 4 (Zaa (Zaj o op (xs.take i)))=true:=ZcL _;have l5:ZaL 4 (Zaa a.args)=true:=ZcL _;refine fR (aj9 @tmz @Zae @hd @ZaG @hkN @hk0 @hkd @Zao @hkk) ?_;refine fN 16 @tmz ?_;refine gM (ι:=Bool) [82] [] (fun b=>[(82,A.d (.one (.lit (.bool b))))]) (fun b=>[]) (fun b=>b=decide (o.unit≠0∧a.op=o.unit - 1)) ?_ (fun b hb=>Exists.intro _ (ai (Wk.refl _) ?_))
  ·by_cases hu:o.unit=0
   ·have F:=ai @hu @tmz;refine gG ?_;exact ⟨false,(decide_eq_false fun h=>h.1 hu).symm,gw,gw⟩
   ·refine gB ?_;refine fC (aj3 @hu @hai @tmz) (cU) ?_;refine fR @tmz ?_;have e:U=decide (o.unit≠0∧a.op=o.unit - 1):=by
     rw [<- hU];exact decide_eq_decide.2 ⟨fun h=>⟨hu,(hUiff hu).1 h⟩,fun h=>(hUiff hu).2 h.2⟩
    have F:=ai @hu @tmz;refine gG ?_;exact ⟨U,e,gw,gw⟩
  by_cases hUn:o.unit≠0∧a.op=o.unit - 1
  ·rw [decide_eq_true hUn] at hb;subst hb;have hN:¬ (o.assoc=true∧a.op=op):=fun h=>by
    have e:(ZaE o).args=[]:=by unfold ZaE;rfl
    have e2:=Zfd hg ho hUn.1 hT.form hUn.2;obtain ⟨o',d',hA⟩:=hT.form.node.app om;have:o'=o:=by have:=hA.at';rw [h.2,ho] at this;injection this with this;exact this.symm
    subst this;have:=(hA.asc h.1).1;rw [e2,e] at this;simp at this
   have e:ZaW o op a=[]:=by unfold ZaW;rw [if_neg hN,if_pos hUn]
   rw [e,List.append_nil] at hst;rw [<- hst];have F:=ai @tmz @hw1;refine gG ?_;exact ⟨i+1,hnext,gw,gw,om⟩
  rw [decide_eq_false hUn] at hb;subst hb;by_cases hN:o.assoc=true∧a.op=op
  ·have e:ZaW o op a=a.args:=by unfold ZaW;rw [if_pos hN]
   rw [e] at hst hle;have l3:((Zaj o op (xs.take i)).length+a.args.length<=maxApp)=True:=eq_true (by unfold maxApp;omega);have l4:Zaa (Zaj o op (xs.take i))++Zaa a.args=Zaa (Zaj o op (xs.take (i+1))):=by rw [hst,ZbN]
   obtain ⟨hN1,hN2⟩:=hN;have q2:(a.op=op)=True:=eq_true hN2;have F:=aj10 @tmz @hai @Zae @hN1 @q2 @l1 @l5 @l3 @l4 @hw1;refine gG ?_;exact ⟨i+1,hnext,gw,gw,om⟩
  ·have e:ZaW o op a=[a]:=by unfold ZaW;rw [if_neg hN,if_neg hUn]
   rw [e] at hst hle;have l3:((Zaj o op (xs.take i)).length+1<=maxApp)=True:=eq_true (by simp only [Tag,Tak] at hle;unfold maxApp;omega);have l4:Zaa (Zaj o op (xs.take i))++[Zab a]=Zaa (Zaj o op (xs.take (i+1))):=by rw [hst,ZbN,Zck]
   rcases Bool.eq_false_or_eq_true o.assoc with hac | hac
   ·have hq:(a.op=op)=False:=eq_false fun h=>hN ⟨hac,h⟩;have F:=aj9 @tmz @hai @Zae @hac @hq @l1 @l3 @l4 @hw1;refine gG ?_;exact ⟨i+1,hnext,gw,gw,om⟩
   ·have F:=aj8 @tmz @hai @Zae @hac @l1 @l3 @l4 @hw1;refine gG ?_;exact ⟨i+1,hnext,gw,gw,om⟩
 ·obtain rfl:i=xs.length:=by omega
  have q1:=lF xs.length xs.length;rw [Tap];have hAll:∀ (i:Nat) a,xs[i]?=some a->KArg g o d i a:=fun j a h=>hall j a (Tad.1 h).1 h;rw [if_pos hAll] at hB;rw [hB,if_pos ⟨hAr,hAll⟩] at hM;rw [hM,hB];clear hM hB hall hAll hnas;generalize hL:Zaj o op xs=L at hfb hfo hfs ⊢;have hLb:L.length+Zas (Zaa L)<=1048576:=hfb;refine fN 19 (ai @q1 @tmz) ?_;refine pS 12 fun a cap=>?_;refine pD 12 [12] [] ?_;by_cases hu:o.unit≠0∧L.length < 2
  ·have e:mkL o op L=some (L.headD (ZaE o)):=by unfold mkL;rw [if_pos hu]
   rw [e];obtain ⟨hu1,hu2⟩:=hu;have q2:(o.unit=0)=False:=eq_false hu1
   cases L with
   | nil =>
    have z2:(((0:Nat):Int)=0)=True:=eq_true om;exact fD (aj5 @q1 @Zae @q2 @z2 @tmz)
   | cons b bs =>
    have hbs:bs=[]:=Tao (by simp only [Tag] at hu2;omega);subst hbs;have hbb:Zal (Zab b)<=1048576:=by simp only [Zaa,Zas] at hLb;omega
    have z1:(((0+1:Nat):Int)=0)=False:=eq_false om;have z2:(((0+1:Nat):Int)=1)=True:=eq_true om;have z3:(((1:Nat):Int)=0)=False:=eq_false om;have z4:(((1:Nat):Int)=1)=True:=eq_true om;have q5:([b]:List Tm)[0]?=some b:=rfl;have z5:(0 < 0+1)=True:=eq_true om;have z6:((0:Nat) < 1)=True:=eq_true om;have z7:Int.toNat 0=0:=rfl;refine fN 22 (aj12 @q1 @Zae @q2 @z1 @z2 @z3 @z4 @z5 @z6 @z7 @q5 @tmz) ?_;refine gB ?_
    refine fC (aj5 @z5 @z6 @z7 @q5 @tmz) (ZeE b hbb) ?_;refine fR @tmz ?_;exact fD @tmz
  ·have hml:mkL o op L=if BigT o op (srtO o L) then none else some (appT op (srtO o L)):=by unfold mkL;rw [if_neg hu]
   rw [hml];clear hml cUn cK cA;have hSl:=ZeQ o L;have hSp:=ZdN o L;have sz1:=Zip hSp;have dz1:=Zfi hSp;have sl1:=Zbv L;have cSo:=Zir L hfo hfb;refine gM (ι:=Unit) [116] [] (fun v=>[(116,A.d (.one (.lit (.bool false))))]) (fun v=>[]) (fun v=>True) ?_ (fun v hv=>Exists.intro _ (ai (Wk.refl _) ?_))
   ·by_cases hu0:o.unit=0
    ·have q2:(o.unit=0)=True:=eq_true hu0;have F:=ai @q2 @tmz;refine gG ?_;exact ⟨(),trivial,gw,gw⟩
    ·have q2:(o.unit=0)=False:=eq_false hu0;have q3:((L.length:Int)=0)=False:=eq_false fun h=>hu ⟨hu0,om⟩;have F:=aj3 @q2 @q3 @tmz;refine gG ?_;exact ⟨(),trivial,gw,gw⟩
   refine fN 21 @tmz ?_;refine gM (ι:=Unit) [123] [] (fun v=>[(123,A.d (.one (.lit (.bool false))))]) (fun v=>[]) (fun v=>True) ?_ (fun v hv=>Exists.intro _ (ai (Wk.refl _) ?_))
   ·by_cases hu0:o.unit=0
    ·have q2:(o.unit=0)=True:=eq_true hu0;have F:=ai @q2 @tmz;refine gG ?_;exact ⟨(),trivial,gw,gw⟩
    ·have q2:(o.unit=0)=False:=eq_false hu0;have q3:((L.length:Int)=1)=False:=eq_false fun h=>hu ⟨hu0,om⟩;have F:=aj3 @q2 @q3 @tmz;refine gG ?_;exact ⟨(),trivial,gw,gw⟩
   refine fN 23 @tmz ?_;refine gB ?_;refine fR (ai @Zae @tmz) ?_;refine gM (ι:=Unit) [12] [] (fun v=>[(12,.d (.one (.sl (Zaa (srtO o L)))))]) (fun v=>[]) (fun v=>True) ?_ (fun v hv=>Exists.intro _ (ai (Wk.refl _) ?_))
   ·cases hcm:o.comm with
    | true =>
     rw [show srtO o L=ZbE L by unfold srtO;rw [if_pos hcm]];refine fN 24 (ai @hcm @tmz) ?_;refine gB ?_;refine fC @tmz (cSo) ?_;refine fR @tmz ?_;have F:=@tmz;refine gG ?_;exact ⟨(),trivial,gw,gw⟩
    | false =>
     rw [show srtO o L=L by unfold srtO;rw [if_neg (by rw [hcm];simp)]];have F:=ai @hcm @tmz;refine gG ?_;exact ⟨(),trivial,gw,gw⟩
   have hSB:tmsB (srtO o L):=by
    unfold tmsB at hfb ⊢;rw [Zk5 hSp,hSl];exact hfb
   generalize srtO o L=S at hSl sz1 dz1 hSB ⊢;have em:Zab (appT op S)=[.lit (.int .i64 op),.lit (.string ByteArray.empty),.lit (.int .i64 0),.sl (Zaa S)]:=by simp only [appT,Zab]
   have zs:sizeTm (appT op S)=1+sizeTms S:=by rw [ZaO];rfl
   have c1:=ZgH (t:=appT op S) (by unfold big;omega);rw [em] at c1;refine fN 25 @tmz ?_;refine gB ?_;refine fC @tmz (Ziq S hSB) ?_;refine fR @tmz ?_;refine fN 26 @tmz ?_;by_cases h7:o.assoc=true∧7 < S.length
   ·rw [if_pos (show BigT o op S from .inl h7)];obtain ⟨hac,h7⟩:=h7;have q2:((S.length:Int)<=7)=False:=eq_false om;refine gLp 13 12 13 ?_;refine fR (aj3 @hac @q2 @tmz) ?_;exact fD (aj3 @hz @em @tmz)
   have hac:o.assoc=true->((S.length:Int)<=7)=True:=fun h=>eq_true (Int.not_lt.1 fun q=>h7 ⟨h,om⟩);have hres:(if BigT o op S then none else some (appT op S)).isSome=decide (sizeTm (appT op S)<=60∧depthTm (appT op S)<=20):=by
    by_cases hbg:BigT o op S
    ·rw [if_pos hbg];refine (decide_eq_false fun h=>?_).symm;rcases hbg with h | h | h
     ·exact h7 h
     ·omega
     ·omega
    ·rw [if_neg hbg];refine (decide_eq_true ⟨?_,?_⟩).symm
     ·exact Nat.not_lt.1 fun h=>hbg (.inr (.inl h))
     ·exact Nat.not_lt.1 fun h=>hbg (.inr (.inr h))
   have hgd:(if BigT o op S then none else some (appT op S)).getD (appT op S)=appT op S:=by
    split <;> rfl
   rw [hres,hgd,em];rcases Bool.eq_false_or_eq_true o.assoc with ha' | ha'
   ·have q2:=hac ha';refine gLp 13 12 13 ?_;refine fC (aj3 @ha' @q2 @tmz) (c1) ?_;refine fR @tmz ?_;exact fD @tmz
   ·refine gLp 13 12 13 ?_;refine fC (ai @ha' @tmz) (c1) ?_;refine fR @tmz ?_;exact fD @tmz
open Classical in
theorem Zr6 (hokg:ZbJ g) (hg:SgnOk g) {op:Int} {o:Opr} {d:Dcl} (h0:0<=op) (ho:g.ops[op.toNat]?=some o) (hd:o.decls[0]?=some d) (xs:List Tm) (ha:∀ a∈xs,TermOk g a) (hl:xs.length<=1000):Con e0 47 [.agg (Zag g),.one (.lit (.int .i64 op)),.one (.sl (Zaa xs))] [.agg (Zab (mk6 g o d op xs)),.one (.lit (.bool (mkO g o d op xs).isSome))]:=ZpF hokg hg h0 ho hd xs ha om (Zrj (o:=o) (op:=op) ha hl)
end
end Go.Proofs.YtmdkimnlbaahbaaGreat
namespace Go.Proofs.YtmdkimnlbaahbaaGreat
open Go.RowKit
def ZvE (rows:List (List C)) (r:List D) (pm:List Bk):Prop:=∃ v E,r=[.one (.lit v)]∧Zay (.lit v)=true∧pm=[.set E (fun w=>Own w (.sl rows) E v)]
def Znq:Bk->Bool
 | .set _ _=>true
 | _=>false
def litC:C->Bool
 | .lit _=>true
 | _=>false
def litD:D->Bool
 | .one c=>litC c
 | .agg cs=>cs.all litC
 | _=>false
theorem ZjF {w:World} {S S':Nat->Prop}:∀ {cs:List C} {vs:List Value},cs.all litC=true->Zad w S cs vs->Zad w S' cs vs
 | [],[],_,_=>trivial
 | .lit x::cs,v::vs,hl,h=>by
  simp only [List.all_cons,Tar] at hl;exact ⟨h.1,ZjF hl.2 h.2⟩
 | .sl _::_,_::_,hl,_=>by simp [litC] at hl
 | .ptr _::_,_::_,hl,_=>by simp [litC] at hl
 | .fn _ _::_,_::_,hl,_=>by simp [litC] at hl
 | [],_::_,_,h=>h.elim
 | _::_,[],_,h=>h.elim
theorem Zoo {w:World} {S S':Nat->Prop} {x:D} {v:Value} (hl:litD x=true) (h:DRel w S x v):DRel w S' x v:=by
 cases x with
 | one c=>cases c with
  | lit y=>exact h
  | _=>simp [litD,litC] at hl
 | agg cs=>obtain ⟨vs,h1,h2⟩:=h;exact ⟨vs,h1,ZjF hl h2⟩
 | clip _=>simp [litD] at hl
theorem Zis {w:World} {S S':Nat->Prop}:∀ {r:List D} {vs:List Value},r.all litD=true->Zar w S r vs->Zar w S' r vs
 | [],[],_,_=>trivial
 | x::r,v::vs,hl,h=>by
  simp only [List.all_cons,Tar] at hl;exact ⟨Zoo hl.1 h.1,Zis hl.2 h.2⟩
 | [],_::_,_,h=>h.elim
 | _::_,[],_,h=>h.elim
theorem Zxl {w:World} {S S':Nat->Prop} {L:Lay}:∀ {r:List D} {v:Value},r.all litD=true->ARel w S L (retA r) v->ARel w S' L (retA r) v
 | [],_,_,h=>by obtain ⟨vs,h1,h2⟩:=h;exact ⟨vs,h1,Zis rfl h2⟩
 | [x],v,hl,h=>by
  simp only [List.all_cons,List.all_nil,Bool.and_true] at hl;exact Zoo (x:=x) (v:=v) hl h
 | x::y::z,_,hl,h=>by obtain ⟨vs,h1,h2⟩:=h;exact ⟨vs,h1,Zis hl h2⟩
def Zk6 (a:Option Addr) (cap:Nat) (rows:List (List C)):List D->List D->Prop
 | [],[]=>True
 | l::ls,d::ds=>(l=d∨(l=.one (.lit (.slice a rows.length cap))∧d=.one (.sl rows)))∧Zk6 a cap rows ls ds
 | _,_=>False
theorem Zk6.rel {a:Option Addr} {cap ety sz:Nat} {rows:List (List C)}:∀ {lits data:List D},Zk6 a cap rows lits data->∀ (w:World) (S:Nat->Prop) (vs:List Value),ZaR w S ety sz rows (.slice a rows.length cap)->Zar w S lits vs->Zar w (fun b=>S b∨vblk (.slice a rows.length cap)=some b) data vs
 | [],[],_,w,S,[],_,_=>trivial
 | [],[],_,w,S,_::_,_,h=>h.elim
 | l::ls,d::ds,hr,w,S,[],_,h=>h.elim
 | l::ls,d::ds,⟨h1,h2⟩,w,S,v::vs,hp,⟨hv,hvs⟩=>by
  refine ⟨?_,Zk6.rel h2 w S vs hp hvs⟩;rcases h1 with rfl | ⟨rfl,rfl⟩
  ·exact DRel.keep (Tai _) (fun _ _ _=>rfl) (fun b hb=>.inl hb) hv
  ·have hv:v=.slice a rows.length cap:=hv;subst hv;exact hp.rep
 | [],_::_,h,_,_,_,_,_=>h.elim
 | _::_,[],h,_,_,_,_,_=>h.elim
section
variable {e:Env} {U:Nat->Prop} {S0:Nat->Prop} {o:Oper}
end
section
variable {e:Env} {ds:List (Option Nat)} {K:St->Prop} {n n':Nat} {os os':List Oper} {σ:St}
end
def RelB (a:Option Addr) (cap ety sz:Nat) (rows:List (List C)) (lits data:List D):Prop:=∀ (w:World) (S:Nat->Prop) (vs:List Value),ZaR w S ety sz rows (.slice a rows.length cap)->Zar w S lits vs->Zar w (fun b=>S b∨vblk (.slice a rows.length cap)=some b) data vs
section
variable {a:Option Addr} {cap ety sz:Nat} {rows:List (List C)} {lits data:List D}
theorem RelB.nil:RelB a cap ety sz rows [] []:=fun w S vs _ h=>by cases vs <;> exact h
theorem RelB.same {d:D} (h:RelB a cap ety sz rows lits data):RelB a cap ety sz rows (d::lits) (d::data):=fun w S vs hb hv=>by
 cases vs with
 | nil=>exact hv.elim
 | cons v vs=>exact ⟨DRel.keep (Tai _) (fun _ _ _=>rfl) (fun b hb=>.inl hb) hv.1,h w S vs hb hv.2⟩
theorem RelB.tm {c0 c1 c2:C} (h:RelB a cap ety sz rows lits data):RelB a cap ety sz rows (.agg [c0,c1,c2,.lit (.slice a rows.length cap)]::lits) (.agg [c0,c1,c2,.sl rows]::data):=fun w S vs hb hv=>by
 cases vs with
 | nil=>exact hv.elim
 | cons v vs =>
  obtain ⟨⟨us,hv1,hr⟩,hv2⟩:=hv;refine ⟨⟨us,hv1,?_⟩,h w S vs hb hv2⟩
  match us,hr with
  | [u0,u1,u2,u3],hr =>
   simp only [Zad,and_true] at hr ⊢;obtain ⟨h0,h1,h2,h3⟩:=hr;have k:∀ {c u},Rep w S c u->Rep w (fun b=>S b∨vblk (.slice a rows.length cap)=some b) c u:=fun h=>Rep.mono h fun b hb=>.inl hb;refine ⟨k h0,k h1,k h2,?_⟩;simp only [Rep] at h3;subst h3;exact hb.rep
end
section
variable {e:Env} {U:Nat->Prop} {S0:Nat->Prop} {o:Oper}
theorem ZpG {m:List (Nat × Bk)} {base:Nat} {ρ:Operand->A} {c:Operand} {args:Array Operand} {ts:Array TypeId} (ho:o.op=.call ⟨.value c,args,ts⟩) {f:FuncId} {xs data r:List D} (hc:Zcg (ρ c)=some (f,[])) (hx:dsA (args.toList.map ρ)=some xs)
  {k cap ety sz:Nat} {a:Option Addr} {rows:List (List C)} (hm:gm m k=some (.buf (some (a,cap)) ety sz rows)) (hrd:RelB a cap ety sz rows xs data) (hcon:Con e f data r) (hl:r.all litD=true):ZaM e U base S0 m o ρ (retA r):=by
 intro w S L ρv hC hr;obtain ⟨m1,m2⟩:=Zha ho;obtain ⟨us,hv,hus⟩:=ZcH hc (hr c m1);have hds:Zar w S xs (args.toList.map ρv):=ZdG hx (by simp) (mapx (fun p hp=>hr p (m2 p hp)));obtain ⟨hbody,hcon⟩:=hcon;obtain ⟨hva,hb⟩:=hC.own k _ hm;have hva:L.v k=.slice a rows.length cap:=hva (a,cap) rfl;rw [hva] at hb;have hlt:∀ g,vblk (.slice a rows.length cap)=some g->g < w.heap.size∧¬ S g∧¬ e.E g:=fun g hg=>by
  have hE:¬ e.E g:=hC.notE hm (by simp only [Zau];rw [hva];exact hg);obtain ⟨_,_,h3⟩:=hb;rcases h3 with ⟨hn,b,hv⟩ | ⟨g',cap',cur,hv,hc,hg',hs,_⟩
  ·injection hv with e1 e2 e3
   rw [e3] at hg
   cases a <;> simp [vblk] at hg
  ·rw [hv] at hg;simp only [vblk] at hg;split at hg
   ·cases hg
   ·injection hg with hg
    subst hg;exact ⟨hg',hs,hE⟩
 have hus0:us=[]:=by cases us with | nil=>rfl | cons u us=>exact hus.elim
 subst hus0;have hcl:=hcon w (fun b=>S b∨vblk (.slice a rows.length cap)=some b) _ (fun b hb=>hb.elim (hC.sin b) fun q=>⟨(hlt b q).1,(hlt b q).2.2⟩) (fun b hb=>Tbc (hC.ein b hb) hC.bsz) hC.g (hrd w S _ hb hds);unfold gives;rw [ZdI ho hv hbody];simp only [List.append_nil];exact hcl.mono fun en w' ⟨v,h1,h2,h3,h4⟩=>⟨v,h1,S,⟨fun _ h=>h,fun _ h=>.inl h⟩,hC.later h2 h3 (fun _ h=>h) (fun _ h=>.inl h),h2,Zxl hl (Zej h4)⟩
end
section
variable {e:Env} {ds:List (Option Nat)} {K:St->Prop} {n n':Nat} {os os':List Oper} {σ:St}
theorem gCN {c:Operand} {args:List Operand} {f:FuncId} {xs data r:List D} {d:Option Nat} {s1 s2 s3:List (Nat × A)} {m1 m2:List (Nat × Bk)} {cap ety sz:Nat} {a:Option Addr} {rows:List (List C)} (k:Nat) (hc:Con e f data r) (hrd:RelB a cap ety sz rows xs data) (hK:Runs e ds n' os' ⟨s3,m2⟩ K) (h:ZaQ e.P ds n os σ=.call true c args d n' os' ⟨s1,m1⟩:=by exact sfv) (h1:ZiV c args (some ⟨s1,m1⟩)=some (f,xs,⟨s2,m2⟩):=by exact sfv) (hcap:Zcg (evA s1 c)=some (f,[]):=by exact sfx)
  (hm:gm m2 k=some (.buf (some (a,cap)) ety sz rows):=by exact snv) (hl:r.all litD=true:=by rfl) (h2:setA s2 d (retA r)=s3:=by simp only [setA,retA];exact rfl):Runs e ds n os σ K:=by
 refine ZdT os n σ ?_;rw [h];intro o ts ho hd;simp only [ZiV,Zkt,hcap] at h1;split at h1
 ·rename_i f' caps xs' e1 e2;injection e1 with e1
  injection e1 with e1 e3
  subst e1 e3;injection h1 with h1
  injection h1 with h3 h4
  injection h4 with h4 h5
  injection h5 with h5 h6
  subst h5 h6;simp only [List.map_nil,List.append_nil] at h4;subst h4;show Zkq e true o _ _;intro he;exact ⟨retA r,by rw [hd,h2];exact hK,fun U base S0=>ZpG ho hcap e2 hm hrd hc hl⟩
 ·cases h1
end
def topC (u:Tm) (a:Option Addr) (cap:Nat):List C:=[.lit (.int .i64 u.op),.lit (.string u.name),.lit (.int .i64 u.sort),.lit (.slice a (Zaa u.args).length cap)]
abbrev topB (u:Tm) (a:Option Addr) (cap:Nat):Bk:=.buf (some (a,cap)) 34 4 (Zaa u.args)
def RTop (u:Tm) (r:List D) (pm:List Bk):Prop:=∃ (a:Option Addr) (cap:Nat),r=[.agg (topC u a cap)]∧pm=[topB u a cap]
def ZeF (u:Tm) (b:Bool) (r:List D) (pm:List Bk):Prop:=∃ (a:Option Addr) (cap:Nat),r=[.agg (topC u a cap),.one (.lit (.bool b))]∧pm=[topB u a cap]
theorem ZeG:∀ u a cap,topC u a cap=[.lit (.int .i64 u.op),.lit (.string u.name),.lit (.int .i64 u.sort),.lit (.slice a (Zaa u.args).length cap)]:=fun _ _ _=>rfl
theorem ZpH (t:Tm) (hb:Zal (Zab t)<=1048576):ConP e0 40 [.agg (Zab t)] [] (RTop t):=by
 obtain ⟨op,nm,so,args⟩:=t;have hc:Zab (.mk op nm so args)=[.lit (.int .i64 op),.lit (.string nm),.lit (.int .i64 so),.sl (Zaa args)]:=by simp only [Zab]
 have hl:args.length<=1048576:=by have:=Zai args;simp only [Zab,Zal,Zc9] at hb;omega
 have h:∀ a∈args,Con e0 40 [.agg (Zab a)] [.agg (Zab a)]:=fun a ha=>by
  obtain ⟨i,hi⟩:=Tbj ha;have hi':(Zaa args)[i]?=some (Zab a):=by rw [Zbo,hi];rfl
  have h2:=ZdC hi';refine ZeE a ?_;simp only [Zab,Zal,Zc9] at hb;omega
 refine gIP (ts:=[.cell 2 34]) [] 65567 Tryz.func40 ?_;refine fN 1 @hc ?_;refine gB ?_;refine gP 6 ?_;refine gX ?_;refine fR @hc ?_;refine pN 1000 34 4 ?_;refine fG @hc ?_;have F:=ai @Zc4 @hc;refine gL (ι:=Nat × Option Addr × Nat) [4,16] [3,1000] (fun x=>[(4,.d (.one (.lit (.int .i64 (x.1:Int)))))]) (fun x=>[(1000,.buf (some (x.2.1,x.2.2)) 34 4 (Zaa (args.take x.1))),(3,.var none [.lit (.int .i64 op),.lit (.string nm),.lit (.int .i64 so),.lit (.slice x.2.1 x.1 x.2.2)])]) (fun x=>x.1<=args.length) (fun x=>args.length - x.1) ((0,none,0)) (Taj _) (fun x hx=>?_);clear F
 obtain ⟨i,p,cap⟩:=x;simp only at hx;by_cases hlt:i < args.length
 ·have hg:args[i]?=some args[i]:=Taa hlt;have hcon:=h args[i] (List.getElem_mem hlt);generalize args[i]=a at hg hcon;have q1:=lT i args.length;have q4:IntKind.i64.wrap ((i:Int)+1)=(i:Int)+1:=IntWalk.i64_in _ om;have q2:i+1<=maxApp:=by unfold maxApp;omega
  have q3:=Zon hx;have q5:(args.take i).length=i:=by rw [Taw];omega
  refine fB (aj6 @hc @Zai @Zbo @q1 @hg @tmz) ?_;refine fC (aj3 @tmz @Zbo @hg) (hcon) ?_;have F:=aj4 @tmz @q2 @q3 @q5;refine gP 3 ?_;clear F;refine gS 28 fun p2 cap2=>?_;refine fR (aj3 @tmz @q3 @q5) ?_;refine pE [28] [1000] (Zri _) ?_;rw [<- ZgJ args hg];have F:=ai @hc @q4;refine gG ?_;exact ⟨(i+1,p2,cap2),hlt,gw,gw,om⟩
 ·obtain rfl:i=args.length:=by omega
  have q1:=lF args.length args.length;rw [Tap];refine fG (aj3 @hc @Zai @q1) ?_;rw [show args.length=(Zaa args).length from (Zai args).symm];exact (have F:=e0P;gTP (R:=RTop (.mk op nm so args)) [1000] ⟨p,cap,rfl,rfl⟩)
def Zzd (ts:List Tm) (r:List D) (pm:List Bk):Prop:=∃ (a:Option Addr) (cap:Nat),r=[.one (.lit (.slice a (Zaa ts).length cap))]∧pm=[.buf (some (a,cap)) 34 4 (Zaa ts)]
theorem Zm5 (ts:List Tm) (hB:tmsB ts):ConP e0 91 [.one (.sl (Zaa ts))] [] (Zzd ts):=by
 unfold tmsB at hB;refine gIP (ts:=[.slot 2]) [] 541 Tryz.func91 ?_;refine fG @tmz ?_;have F:=@Zc4;refine gL (ι:=Nat) [3,4,9] [3] (fun i=>[(4,A.d (.one (.lit (.int .i64 i)))),(3,.buf 3)]) (fun i=>[(3,.buf none 34 4 (Zaa (ts.take i)))]) (fun i=>i<=ts.length) (fun i=>ts.length - i) (0) (Taj _) (fun i hi=>?_);clear F;by_cases hlt:i < ts.length;rotate_left
 ·obtain rfl:i=ts.length:=by omega
  have q2:=lF ts.length ts.length;rw [Tap];refine fG (ai @q2 @tmz) ?_;refine pS 2 fun a cap=>?_;exact (have F:=tmz;gTP (R:=Zzd ts) [2] ⟨a,cap,rfl,rfl⟩)
 obtain ⟨t,ht⟩:∃ b,ts[i]?=some b:=⟨_,Taa hlt⟩;have q2:=lT i ts.length;have q4:=Zap (k:=i) om;have hi':(Zaa ts)[i]?=some (Zab t):=by rw [Zbo,ht];rfl
 have hbt:=ZdC hi';have cc:=ZeE t om;have l1:ZaL 4 (Zaa (ts.take i))=true:=ZcL _;have l2:((Zaa (ts.take i)).length+1<=maxApp)=True:=eq_true (by rw [Zai,Taw];unfold maxApp;omega);have l3:((ts.take i).length+1<=maxApp)=True:=eq_true (by rw [Taw];unfold maxApp;omega);have e:=Zk1 ht;refine fB (ai @q2 @tmz) ?_;refine fC (aj3 @q2 @ht @tmz) (cc) ?_;refine fR (aj4 @l1 @l2 @l3 @tmz) ?_;have F:=ai @q4 @e;refine gG ?_;exact ⟨i+1,hlt,gw,gw,om⟩
def Zr7 (u:Tm) (b:Bool):List D:=[.agg [.lit (.int .i64 u.op),.lit (.string u.name),.lit (.int .i64 u.sort),.lit (.slice none 0 0)],.one (.lit (.bool b))]
def nilC (op:Int) (nm:ByteArray) (so:Int):List C:=[.lit (.int .i64 op),.lit (.string nm),.lit (.int .i64 so),.lit (.slice none 0 0)]
theorem Zr8 (nm:ByteArray) (so:Int):Con e0 97 [.one (.lit (.string nm)),.one (.lit (.int .i64 so))] [.agg (nilC (-1) nm so)]:=by
 rw [nilC];refine gI (ts:=[.cell 4 34]) 19 Tryz.func97 ?_;refine fN 1 @tmz ?_;refine gB ?_;have F:=@tmz;refine gP 2 ?_;clear F;have F:=tmz;refine gX ?_;clear F;refine fR @tmz ?_;exact fD @tmz
section
variable {g:Sgn}
theorem ZpI (hg:SgnOk g) {op:Int} {o:Opr} (h0:0<=op) (ho:g.ops[op.toNat]?=some o):Con e0 89 [.agg (Zag g),.one (.lit (.int .i64 op))] (Zr7 (ZaE o) (!decide (o.unit=0))):=by
 have hax:=hg.axs o (Tac ho);have hlo:=hax.lo;have hhi:=hax.hi;have hln:=hg.len;have hw:IntKind.i64.wrap (o.unit - 1)=o.unit - 1:=Za2 rfl om om;rw [Zr7];rw [Zag];refine gI (ts:=[.cell 4 34,.slot 5]) 4151 Tryz.func89 ?_;by_cases hu:o.unit=0
 ·have hb:(!decide (o.unit=0))=false:=by simp [hu]
  have u0:(ZaE o).op=0:=by simp [ZaE,Tm.op,hu]
  have u1:(ZaE o).name=ByteArray.empty:=rfl;have u2:(ZaE o).sort=0:=rfl;rw [hb,u0,u1,u2];refine fN 2 (aj5 @h0 @ho @Zae @hu @tmz) ?_;refine gB ?_;have F:=tmz;refine gX ?_;clear F;refine fR @tmz ?_;exact fD @tmz
 ·have hb:(!decide (o.unit=0))=true:=by simp [hu]
  have u0:(ZaE o).op=o.unit - 1:=by simp [ZaE,Tm.op,hu]
  have u1:(ZaE o).name=ByteArray.empty:=rfl;have u2:(ZaE o).sort=0:=rfl;rw [hb,u0,u1,u2];refine fN 3 (aj6 @h0 @ho @Zae @hu @hw @tmz) ?_;refine gB ?_;have F:=aj6 @h0 @ho @Zae @hu @hw @tmz;refine gP 7 ?_;clear F;have F:=tmz;refine gX ?_;clear F;refine fR @tmz ?_;exact fD @tmz
end
theorem Con.args {e:Env} {f:FuncId} {lits data r:List D} (h:Con e f data r) (hd:∀ (w:World) (S:Nat->Prop) (vs:List Value),Zar w S lits vs->Zar w S data vs):Con e f lits r:=⟨h.1,fun w S vs hS hE hG hvs=>h.2 w S vs hS hE hG (hd w S vs hvs)⟩
theorem Zar.nilTm {x:D} {op so:Int} {nm:ByteArray} {w:World} {S:Nat->Prop} {vs:List Value} (h:Zar w S [x,.agg [.lit (.int .i64 op),.lit (.string nm),.lit (.int .i64 so),.lit (.slice none 0 0)]] vs):Zar w S [x,.agg (Zab (.mk op nm so []))] vs:=by
 match vs,h with
 | [v1,v2],⟨h1,⟨us,hu,hr⟩,_⟩ =>
  refine ⟨h1,⟨us,hu,?_⟩,trivial⟩
  match us,hr with
  | [u0,u1,u2,u3],hr =>
   simp only [Zad,Rep,and_true] at hr;obtain ⟨rfl,rfl,rfl,rfl⟩:=hr;simp only [Zab,Zaa,Zad,Rep,and_true,true_and];exact ⟨none,0,0,rfl,rfl,Tai _,by decide,fun h=>absurd h (by decide)⟩
section
variable {g:Sgn}
open Classical in
theorem Zop (hokg:ZbJ g) (hg:SgnOk g) {op:Int} {o:Opr} {d:Dcl} (h0:0<=op) (ho:g.ops[op.toNat]?=some o) (hd:o.decls[0]?=some d) (xs:List Tm) (ha:∀ a∈xs,TermOk g a) (hl:xs.length<=1048576) (hfb:tmsB (Zaj o op xs)):ConP e0 47 [.agg (Zag g),.one (.lit (.int .i64 op)),.one (.sl (Zaa xs))] [] (ZeF (mk6 g o d op xs) (mkO g o d op xs).isSome):=by
 have hz:=Zft;have hfo:Zaw (Zaj o op xs):=Zmv.2 fun b hb=>ZaD.ok hg _ b (Tan _) (Zj4 ha b hb);have hfs:=Zhw (o:=o) (op:=op) ha;have hax:=hg.axs o (Tac ho);have hlo:=hax.lo;have hhi:=hax.hi;have hln:=hg.len;obtain ⟨d',hd',hr0,hr1,hargs⟩:=hg.first ho;rw [hd] at hd';injection hd' with hd'
 subst hd';have cK:=Zdx hg.sorts;rw [Za3] at cK;have cUn:=ZpI hg h0 ho;rw [Zag,Zr7] at cUn;have cA:=Zc7 hd;rw [ZaU] at cA;have hB:mkO g o d op xs=if ArB o d xs.length then none else if ∀ (i:Nat) a,xs[i]?=some a->KArg g o d i a then mkL o op (Zaj o op xs) else none:=rfl
 have hM:mk6 g o d op xs=(mkO g o d op xs).getD (if ¬ ArB o d xs.length∧∀ (i:Nat) a,xs[i]?=some a->KArg g o d i a then appT op (srtO o (Zaj o op xs)) else zTm):=rfl;have har2:o.assoc=true->d.args.length=2:=fun h=>by
  obtain ⟨k1,k2,hk,_⟩:=Opr.two hg ho hd (.inl h);rw [hk];rfl
 refine gIP (ts:=[.cell 6 34,.slot 7]) [] 691281634562849416457226259614436229071 Tryz.func47 ?_;refine fN 2 (aj5 @tmz @Zbj @h0 @ho @Zae) ?_;refine gB ?_;refine fC @tmz (cK) ?_;refine fR @tmz ?_;refine fN 3 @tmz ?_;refine gM (ι:=Bool) [38] [] (fun b=>[(38,A.d (.one (.lit (.bool b))))]) (fun b=>[]) (fun b=>b=decide (ArB o d xs.length)) ?_ (fun b hb=>Exists.intro _ (ai (Wk.refl _) ?_))
 ·refine gB ?_;refine fC (ai @tmz @Zae) (cA) ?_;by_cases q:xs.length=d.args.length
  ·have q1:((xs.length:Int)=(d.args.length:Int))=True:=eq_true om;have hA:¬ ArB o d xs.length:=fun h=>h.elim (fun h=>by have:=har2 h.1;omega) fun h=>h.2 q;refine fR (ai @q1 @tmz) ?_;have F:=@tmz;refine gG ?_;exact ⟨false,(decide_eq_false hA).symm,gw,gw⟩
  have q1:((xs.length:Int)=(d.args.length:Int))=False:=eq_false om
  cases hac:o.assoc with
  | false =>
   have hA:ArB o d xs.length:=.inr ⟨hac,q⟩;refine fR (aj3 @q1 @hac @tmz) ?_;have F:=@tmz;refine gG ?_;exact ⟨true,(decide_eq_true hA).symm,gw,gw⟩
  | true =>
  by_cases q2:xs.length < 2
  ·have hA:ArB o d xs.length:=.inl ⟨hac,q2⟩;have q3:((2:Int)<=(xs.length:Int))=False:=eq_false om;refine fR (aj4 @q1 @hac @q3 @tmz) ?_;have F:=@tmz;refine gG ?_;exact ⟨true,(decide_eq_true hA).symm,gw,gw⟩
  ·have hA:¬ ArB o d xs.length:=fun h=>h.elim (fun h=>q2 h.2) fun h=>by rw [hac] at h;cases h.1
   have q3:((2:Int)<=(xs.length:Int))=True:=eq_true om;refine fR (aj4 @q1 @hac @q3 @tmz) ?_;have F:=@tmz;refine gG ?_;exact ⟨false,(decide_eq_false hA).symm,gw,gw⟩
 by_cases hAr:ArB o d xs.length
 ·rw [decide_eq_true hAr] at hb;subst hb;rw [if_pos hAr] at hB;rw [hB,if_neg fun h=>h.1 hAr] at hM;rw [hM,hB];refine fN 4 @tmz ?_;refine gB ?_;have F:=tmz;refine gX ?_;clear F;refine fR @tmz ?_;refine pN 1000 34 4 ?_;exact (have F:=e0P;gTP (R:=ZeF zTm false) [1000] ⟨none,0,rfl,rfl⟩)
 rw [decide_eq_false hAr] at hb;subst hb;rw [if_neg hAr] at hB;have hnas:o.assoc=false->xs.length=d.args.length:=fun h=>Classical.byContradiction fun c=>hAr (.inr ⟨h,c⟩);have hfl0:Zaj o op []=[]:=rfl;refine fN 5 @tmz ?_;refine gB ?_;refine fC @tmz (cUn) ?_;refine fR @tmz ?_;refine fG @tmz ?_;have F:=aj3 @hfl0 @Zc4 @tmz;refine gL (ι:=Nat) [7,12,13,14,50,55,73,82,92] [12] (fun i=>[(13,A.d (.one (.lit (.int .i64 i)))),(12,.buf 12)]) (fun i=>[(12,.buf none 34 4 (Zaa (Zaj o op (xs.take i))))]) (fun i=>i<=xs.length∧∀ (j:Nat) a,j < i->xs[j]?=some a->KArg g o d j a) (fun i=>xs.length - i) (0) (⟨Taj _,fun j a h=>absurd h om⟩) (fun i hi=>?_);clear F
 obtain ⟨hi,hall⟩:=hi;by_cases hlt:i < xs.length
 ·obtain ⟨a,hai⟩:∃ a,xs[i]?=some a:=⟨_,Taa hlt⟩;have hT:=ha a (Tac hai);have q1:=lT i xs.length;have hw1:=Zap (k:=i) om;obtain ⟨k,hk⟩:=Zgj hg ho hd hnas hlt;obtain ⟨hk0,hk1⟩:=hargs k (Tac hk);have hkd:=Zfc hg.sorts hk0 hk1;have hkN:d.args[(argAt o i:Nat)]?=some k:=hk;have cKa:=Zhq hokg hg hT.form.node;rw [Zag] at cKa;have cU:Con e0 79 [.agg (Zab a),.agg [.lit (.int .i64 (ZaE o).op),.lit (.string (ZaE o).name),.lit (.int .i64 (ZaE o).sort),.lit (.slice none 0 0)]] _:=(ZdX (hT.ok hg) (Zio (o:=o) hlo om)).args fun w S vs h=>Zar.nilTm h
  have hUiff:o.unit≠0->(Zah a (ZaE o)=0 ↔ a.op=o.unit - 1):=fun hu=>by
   rw [Zc1];constructor
   ·rintro h;rw [h];simp [ZaE,Tm.op,hu]
   ·exact Zfd hg ho hu hT.form
  generalize hU:decide (Zah a (ZaE o)=0)=U at cU;have hst:=ZjA (o:=o) (op:=op) hai;have hle:=Zgl o op xs (i+1);rw [hst,Tae] at hle;have hfl:=Zbv (Zaj o op xs);have hnext:ZbD g a=((kd g.sorts k:Nat):Int)->i+1<=xs.length∧∀ (j:Nat) a,j < i+1->xs[j]?=some a->KArg g o d j a:=fun hkk=>⟨hlt,fun j a' hj ha'=>by
   by_cases e:j=i
   ·subst e;rw [hai] at ha';injection ha' with ha'
    subst ha';exact ⟨k,hk,hkk⟩
   ·exact hall j a' om ha'⟩
  refine fG (ai @q1 @tmz) ?_;refine gM (ι:=Unit) [14] [] (fun u=>[(14,A.d (.one (.lit (.int .i64 (argAt o i:Nat)))))]) (fun u=>[]) (fun u=>True) ?_ (fun u hu=>Exists.intro _ (ai (Wk.refl _) ?_))
  ·rcases Bool.eq_false_or_eq_true o.assoc with hac | hac
   ·have F:=aj3 @Zae @hac @ZfF;refine gG ?_;exact ⟨(),trivial,gw,gw⟩
   ·have F:=aj4 @Zae @hac @ZfF @if_false.{1};refine gG ?_;exact ⟨(),trivial,gw,gw⟩
  refine fN 13 @tmz ?_;refine gB ?_;refine fC (ai @hai @tmz) (cKa) ?_;by_cases hkk:ZbD g a=((kd g.sorts k:Nat):Int);rotate_left
  ·have hno:¬ ∀ (i:Nat) a,xs[i]?=some a->KArg g o d i a:=fun h=>by
    obtain ⟨k',hk',he⟩:=h i a hai;rw [hk] at hk';injection hk' with hk'
    subst hk';exact hkk he
   rw [if_neg hno] at hB;rw [hB,if_neg fun h=>hno h.2] at hM;rw [hM,hB];refine fR (aj9 @tmz @Zae @hd @ZaG @hkN @hk0 @hkd @Zao @hkk) ?_;refine fN 14 @tmz ?_;refine gB ?_;have F:=tmz;refine gX ?_;clear F;refine fR @tmz ?_;refine pN 1000 34 4 ?_;exact (have F:=e0P;gTP (R:=ZeF zTm false) [1000] ⟨none,0,rfl,rfl⟩)
  have hnext:=hnext hkk;have l1:ZaL 4 (Zaa (Zaj o op (xs.take i)))=true:=ZcL _;have l5:ZaL 4 (Zaa a.args)=true:=ZcL _;refine fR (aj9 @tmz @Zae @hd @ZaG @hkN @hk0 @hkd @Zao @hkk) ?_;refine fN 16 @tmz ?_;refine gM (ι:=Bool) [82] [] (fun b=>[(82,A.d (.one (.lit (.bool b))))]) (fun b=>[]) (fun b=>b=decide (o.unit≠0∧a.op=o.unit - 1)) ?_ (fun b hb=>Exists.intro _ (ai (Wk.refl _) ?_))
  ·by_cases hu:o.unit=0
   ·have F:=ai @hu @tmz;refine gG ?_;exact ⟨false,(decide_eq_false fun h=>h.1 hu).symm,gw,gw⟩
   ·refine gB ?_;refine fC (aj3 @hu @hai @tmz) (cU) ?_;refine fR @tmz ?_;have e:U=decide (o.unit≠0∧a.op=o.unit - 1):=by
     rw [<- hU];exact decide_eq_decide.2 ⟨fun h=>⟨hu,(hUiff hu).1 h⟩,fun h=>(hUiff hu).2 h.2⟩
    have F:=ai @hu @tmz;refine gG ?_;exact ⟨U,e,gw,gw⟩
  by_cases hUn:o.unit≠0∧a.op=o.unit - 1
  ·rw [decide_eq_true hUn] at hb;subst hb;have hN:¬ (o.assoc=true∧a.op=op):=fun h=>by
    have e:(ZaE o).args=[]:=by unfold ZaE;rfl
    have e2:=Zfd hg ho hUn.1 hT.form hUn.2;obtain ⟨o',d',hA⟩:=hT.form.node.app om;have:o'=o:=by have:=hA.at';rw [h.2,ho] at this;injection this with this;exact this.symm
    subst this;have:=(hA.asc h.1).1;rw [e2,e] at this;simp at this
   have e:ZaW o op a=[]:=by unfold ZaW;rw [if_neg hN,if_pos hUn]
   rw [e,List.append_nil] at hst;rw [<- hst];have F:=ai @tmz @hw1;refine gG ?_;exact ⟨i+1,hnext,gw,gw,om⟩
  rw [decide_eq_false hUn] at hb;subst hb;by_cases hN:o.assoc=true∧a.op=op
  ·have e:ZaW o op a=a.args:=by unfold ZaW;rw [if_pos hN]
   rw [e] at hst hle;have l3:((Zaj o op (xs.take i)).length+a.args.length<=maxApp)=True:=eq_true (by unfold maxApp;omega);have l4:Zaa (Zaj o op (xs.take i))++Zaa a.args=Zaa (Zaj o op (xs.take (i+1))):=by rw [hst,ZbN]
   obtain ⟨hN1,hN2⟩:=hN;have q2:(a.op=op)=True:=eq_true hN2;have F:=aj10 @tmz @hai @Zae @hN1 @q2 @l1 @l5 @l3 @l4 @hw1;refine gG ?_;exact ⟨i+1,hnext,gw,gw,om⟩
  ·have e:ZaW o op a=[a]:=by unfold ZaW;rw [if_neg hN,if_neg hUn]
   rw [e] at hst hle;have l3:((Zaj o op (xs.take i)).length+1<=maxApp)=True:=eq_true (by simp only [Tag,Tak] at hle;unfold maxApp;omega);have l4:Zaa (Zaj o op (xs.take i))++[Zab a]=Zaa (Zaj o op (xs.take (i+1))):=by rw [hst,ZbN,Zck]
   rcases Bool.eq_false_or_eq_true o.assoc with hac | hac
   ·have hq:(a.op=op)=False:=eq_false fun h=>hN ⟨hac,h⟩;have F:=aj9 @tmz @hai @Zae @hac @hq @l1 @l3 @l4 @hw1;refine gG ?_;exact ⟨i+1,hnext,gw,gw,om⟩
   ·have F:=aj8 @tmz @hai @Zae @hac @l1 @l3 @l4 @hw1;refine gG ?_;exact ⟨i+1,hnext,gw,gw,om⟩
 ·obtain rfl:i=xs.length:=by omega
  have q1:=lF xs.length xs.length;rw [Tap];have hAll:∀ (i:Nat) a,xs[i]?=some a->KArg g o d i a:=fun j a h=>hall j a (Tad.1 h).1 h;rw [if_pos hAll] at hB;rw [hB,if_pos ⟨hAr,hAll⟩] at hM;rw [hM,hB];clear hM hB hall hAll hnas;generalize hL:Zaj o op xs=L at hfb hfo hfs ⊢;have hLb:L.length+Zas (Zaa L)<=1048576:=hfb;refine fN 19 (ai @q1 @tmz) ?_;refine pS 12 fun a cap=>?_;refine pD 12 [12] [] ?_;by_cases hu:o.unit≠0∧L.length < 2
  ·have e:mkL o op L=some (L.headD (ZaE o)):=by unfold mkL;rw [if_pos hu]
   rw [e];obtain ⟨hu1,hu2⟩:=hu;have q2:(o.unit=0)=False:=eq_false hu1
   cases L with
   | nil =>
    have z2:(((0:Nat):Int)=0)=True:=eq_true om;refine fN 20 (aj5 @q1 @Zae @q2 @z2 @tmz) ?_;refine gB ?_;refine fR @tmz ?_;refine pN 1000 34 4 ?_;exact (have F:=e0P;gTP (R:=ZeF (ZaE o) true) [1000] ⟨none,0,rfl,rfl⟩)
   | cons b bs =>
    have hbs:bs=[]:=Tao (by simp only [Tag] at hu2;omega);subst hbs;have hbb:Zal (Zab b)<=1048576:=by simp only [Zaa,Zas] at hLb;omega
    have z1:(((0+1:Nat):Int)=0)=False:=eq_false om;have z2:(((0+1:Nat):Int)=1)=True:=eq_true om;have z3:(((1:Nat):Int)=0)=False:=eq_false om;have z4:(((1:Nat):Int)=1)=True:=eq_true om;have q5:([b]:List Tm)[0]?=some b:=rfl;have z5:(0 < 0+1)=True:=eq_true om;have z6:((0:Nat) < 1)=True:=eq_true om;have z7:Int.toNat 0=0:=rfl;refine fN 22 (aj12 @q1 @Zae @q2 @z1 @z2 @z3 @z4 @z5 @z6 @z7 @q5 @tmz) ?_;refine gB ?_
    have F:=aj5 @z5 @z6 @z7 @q5 @tmz;refine gCP [] [1000] (ZpH b hbb) ?_;clear F;rintro r pm ⟨a1,k1,rfl,rfl⟩;simp only [setA,retA,zipM,Taf,Tah];refine fR @tmz ?_;exact (have F:=e0P;gTP (R:=ZeF b true) [1000] ⟨a1,k1,rfl,rfl⟩)
  ·have hml:mkL o op L=if BigT o op (srtO o L) then none else some (appT op (srtO o L)):=by unfold mkL;rw [if_neg hu]
   rw [hml];clear hml cUn cK cA;have hSl:=ZeQ o L;have hSp:=ZdN o L;have sz1:=Zip hSp;have dz1:=Zfi hSp;have sl1:=Zbv L;have cSo:=Zir L hfo hfb;refine gM (ι:=Unit) [116] [] (fun v=>[(116,A.d (.one (.lit (.bool false))))]) (fun v=>[]) (fun v=>True) ?_ (fun v hv=>Exists.intro _ (ai (Wk.refl _) ?_))
   ·by_cases hu0:o.unit=0
    ·have q2:(o.unit=0)=True:=eq_true hu0;have F:=ai @q2 @tmz;refine gG ?_;exact ⟨(),trivial,gw,gw⟩
    ·have q2:(o.unit=0)=False:=eq_false hu0;have q3:((L.length:Int)=0)=False:=eq_false fun h=>hu ⟨hu0,om⟩;have F:=aj3 @q2 @q3 @tmz;refine gG ?_;exact ⟨(),trivial,gw,gw⟩
   refine fN 21 @tmz ?_;refine gM (ι:=Unit) [123] [] (fun v=>[(123,A.d (.one (.lit (.bool false))))]) (fun v=>[]) (fun v=>True) ?_ (fun v hv=>Exists.intro _ (ai (Wk.refl _) ?_))
   ·by_cases hu0:o.unit=0
    ·have q2:(o.unit=0)=True:=eq_true hu0;have F:=ai @q2 @tmz;refine gG ?_;exact ⟨(),trivial,gw,gw⟩
    ·have q2:(o.unit=0)=False:=eq_false hu0;have q3:((L.length:Int)=1)=False:=eq_false fun h=>hu ⟨hu0,om⟩;have F:=aj3 @q2 @q3 @tmz;refine gG ?_;exact ⟨(),trivial,gw,gw⟩
   refine fN 23 @tmz ?_;refine gB ?_;refine fR (ai @Zae @tmz) ?_;refine gM (ι:=Unit) [12] [] (fun v=>[(12,.d (.one (.sl (Zaa (srtO o L)))))]) (fun v=>[]) (fun v=>True) ?_ (fun v hv=>Exists.intro _ (ai (Wk.refl _) ?_))
   ·cases hcm:o.comm with
    | true =>
     rw [show srtO o L=ZbE L by unfold srtO;rw [if_pos hcm]];refine fN 24 (ai @hcm @tmz) ?_;refine gB ?_;refine fC @tmz (cSo) ?_;refine fR @tmz ?_;have F:=@tmz;refine gG ?_;exact ⟨(),trivial,gw,gw⟩
    | false =>
     rw [show srtO o L=L by unfold srtO;rw [if_neg (by rw [hcm];simp)]];have F:=ai @hcm @tmz;refine gG ?_;exact ⟨(),trivial,gw,gw⟩
   have hSB:tmsB (srtO o L):=by
    unfold tmsB at hfb ⊢;rw [Zk5 hSp,hSl];exact hfb
   generalize srtO o L=S at hSl sz1 dz1 hSB ⊢;have em:Zab (appT op S)=[.lit (.int .i64 op),.lit (.string ByteArray.empty),.lit (.int .i64 0),.sl (Zaa S)]:=by simp only [appT,Zab]
   have zs:sizeTm (appT op S)=1+sizeTms S:=by rw [ZaO];rfl
   have c1:=ZgH (t:=appT op S) (by unfold big;omega);rw [em] at c1;refine fN 25 @tmz ?_;refine gB ?_;have F:=@tmz;refine gCP [] [1000] (Zm5 S hSB) ?_;clear F;rintro r pm ⟨a1,k1,rfl,rfl⟩;simp only [setA,retA,zipM,Taf,Tah];refine fR @e0P ?_;refine fN 26 @tmz ?_;by_cases h7:o.assoc=true∧7 < S.length
   ·rw [if_pos (show BigT o op S from .inl h7)];obtain ⟨hac,h7⟩:=h7;have q2:((S.length:Int)<=7)=False:=eq_false om;have q2':(((Zaa S).length:Int)<=7)=False:=by rw [Zai];exact q2
    refine gLp 13 12 13 ?_;refine fR (ai @hac @q2') ?_;exact (have F:=e0P;gTP (R:=ZeF (appT op S) false) [1000] ⟨a1,k1,rfl,rfl⟩)
   have hac:o.assoc=true->((S.length:Int)<=7)=True:=fun h=>eq_true (Int.not_lt.1 fun q=>h7 ⟨h,om⟩);have hres:(if BigT o op S then none else some (appT op S)).isSome=decide (sizeTm (appT op S)<=60∧depthTm (appT op S)<=20):=by
    by_cases hbg:BigT o op S
    ·rw [if_pos hbg];refine (decide_eq_false fun h=>?_).symm;rcases hbg with h | h | h
     ·exact h7 h
     ·omega
     ·omega
    ·rw [if_neg hbg];refine (decide_eq_true ⟨?_,?_⟩).symm
     ·exact Nat.not_lt.1 fun h=>hbg (.inr (.inl h))
     ·exact Nat.not_lt.1 fun h=>hbg (.inr (.inr h))
   have hgd:(if BigT o op S then none else some (appT op S)).getD (appT op S)=appT op S:=by
    split <;> rfl
   rw [hres,hgd];rcases Bool.eq_false_or_eq_true o.assoc with ha' | ha'
   ·have q2:(((Zaa S).length:Int)<=7)=True:=by rw [Zai];exact hac ha'
    refine gLp 13 12 13 ?_;have F:=ai ha' q2;refine gCN 1000 c1 (RelB.tm RelB.nil) ?_;clear F;refine fR @e0P ?_;exact (have F:=e0P;gTP (R:=ZeF (appT op S) _) [1000] ⟨a1,k1,rfl,rfl⟩)
   ·refine gLp 13 12 13 ?_;have F:=ha';refine gCN 1000 c1 (RelB.tm RelB.nil) ?_;clear F;refine fR @e0P ?_;exact (have F:=e0P;gTP (R:=ZeF (appT op S) _) [1000] ⟨a1,k1,rfl,rfl⟩)
end
end Go.Proofs.YtmdkimnlbaahbaaGreat
