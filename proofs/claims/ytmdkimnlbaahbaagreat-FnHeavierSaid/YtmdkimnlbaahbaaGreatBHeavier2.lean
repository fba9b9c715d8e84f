/-
  Part of a proof.
-/
import Derived.Test.YtmdkimnlbaahbaaGreatBHeavier0
import Derived.Test.YtmdkimnlbaahbaaGreatBHeavier1
import Derived.Test.YtmdkimnlbaahbaaGreatRows
set_option linter.unusedSimpArgs false
set_option linter.unusedVariables false
set_option maxHeartbeats 400000000
set_option maxRecDepth 100000
namespace Go.Proofs.YtmdkimnlbaahbaaGreat
open Go.RowKit
theorem ZcF {o:Opr} {d:Dcl} (hd:o.decls[0]?=some d):Con e0 44 [.agg (ZaT o)] [.one (.lit (.int .i64 d.args.length))]:=by
 refine gI 7 Tryz.func44 ?_;exact fT (aj3 @Zae @hd @ZaJ)
section
variable {g:Sgn} {o:Opr}
theorem Zi2 {d:Dcl} (hd:o.decls[0]?=some d) (h1:0<=o.unit) (h2:o.unit<=g.ops.length) (h3:d.args.length=2) {a b:Int} (ha:d.args[0]?=some a) (hb:d.args[1]?=some b) (hk:kd g.sorts a=kd g.sorts b) (hr:¬ ((o.assoc=true∨o.unit≠0)∧kd g.sorts a≠kd g.sorts d.res))
  (hu:o.unit≠0->∀ (p:Opr) (u:Dcl),g.ops[o.unit.toNat - 1]?=some p->p.decls[0]?=some u->u.args.length=0∧kd g.sorts u.res=kd g.sorts d.res):AxOk g o :=
 ⟨h1,h2,fun _ d' hd'=>by
  rw [hd] at hd';injection hd' with hd';subst hd'
  refine ⟨h3,fun a' b' ha' hb'=>?_⟩;rw [ha] at ha';injection ha' with ha';subst ha'
  rw [hb] at hb';injection hb' with hb';subst hb'
  exact ⟨hk,fun h=>Classical.byContradiction fun hn=>hr ⟨h,hn⟩,hu⟩⟩
theorem Zn8 (h:o.assoc=false∧o.comm=false∧o.unit=0):AxOk g o:=⟨by rw [h.2.2];exact Int.le_refl _,by rw [h.2.2];omega,fun h2=>by
 rcases h2 with h2 | h2 | h2
 ·rw [h.1] at h2;cases h2
 ·rw [h.2.1] at h2;cases h2
 ·exact absurd h.2.2 h2⟩
theorem Zrq (h:¬ (o.assoc=false∧o.comm=false∧o.unit=0)):o.assoc=true∨o.comm=true∨o.unit≠0:=by
 by_cases h1:o.assoc=true
 ·exact .inl h1
 by_cases h2:o.comm=true
 ·exact .inr (.inl h2)
 exact .inr (.inr fun h3=>h ⟨by simpa using h1,by simpa using h2,h3⟩)
theorem ZlN (hs:SortsOk g.sorts) (hall:∀ p∈g.ops,DeclsOk g.sorts p) (ho:o∈g.ops) (hol:g.ops.length<=14):Con e0 109 [.agg (ZdM g.sorts),.agg (Zaf g),.agg (ZaT o)] [.one (.lit (.bool (axOk g o)))]:=by
 have hno:¬ AxOk g o->axOk g o=false:=ZkG;have rK:=Za0 (l:=ZbW g.sorts);obtain ⟨d,hd,hdd⟩:=(hall o ho).first;have gr:=kdg hs hdd.res;have ir:=hdd.res.1;rw [ZdM,Zaf,ZaT];refine gI 87042659588714057177760255 Tryz.func109 ?_;by_cases h1:0<=o.unit;rotate_left
 ·have hf:=hno fun h=>h1 h.lo;have z1:(o.unit < 0)=True:=eq_true om;exact fT (ai @z1 @hf)
 have z1:(o.unit < 0)=False:=eq_false om;by_cases h2:o.unit<=g.ops.length;rotate_left
 ·have hf:=hno fun h=>h2 h.hi;have z2:=lT g.ops.length o.unit;exact fT (aj3 @z1 @z2 @hf)
 have z2:=lF g.ops.length o.unit;by_cases hp:o.assoc=false∧o.comm=false∧o.unit=0
 ·have ht:=Zdi (Zn8 (g:=g) hp);obtain ⟨p1,p2,p3⟩:=hp;have p3:(o.unit=0)=True:=eq_true p3;exact fT (aj6 @z1 @z2 @p1 @p2 @p3 @ht)
 have hnd:=Zrq hp;refine fN 3 (ai @z1 @z2) ?_;refine gM (ι:=Unit) [32] [] (fun v=>[(32,A.d (.one (.lit (.bool false))))]) (fun v=>[]) (fun v=>True) ?_ (fun v hv=>Exists.intro _ (ai (Wk.refl _) ?_))
 ·cases q1:o.assoc with
  | true=>(have F:=@q1;refine gG ?_;exact ⟨(),trivial,gw,gw⟩)
  | false =>
  cases q2:o.comm with
  | true=>(have F:=ai @q1 @q2;refine gG ?_;exact ⟨(),trivial,gw,gw⟩)
  | false =>
   have q3:(o.unit=0)=False:=eq_false fun h=>hp ⟨q1,q2,h⟩;have F:=aj3 @q1 @q2 @q3;refine gG ?_;exact ⟨(),trivial,gw,gw⟩
 clear hv;by_cases h3:d.args.length=2;rotate_left
 ·have hf:=hno fun h=>h3 (h.two hnd d hd).1;have z3:((d.args.length:Int)=2)=False:=eq_false om;exact fT (aj4 @hd @ZaJ @z3 @hf)
 have z3:((d.args.length:Int)=2)=True:=eq_true om;obtain ⟨a,ha⟩:∃ k,d.args[0]?=some k:=⟨_,Taa om⟩;obtain ⟨b,hb⟩:∃ k,d.args[1]?=some k:=⟨_,Taa om⟩;have har:=hdd.args a (Tac ha);have hbr:=hdd.args b (Tac hb);have ga:=kdg hs har;have gb:=kdg hs hbr;have ia:=har.1;have ib:=hbr.1;by_cases hk:kd g.sorts a=kd g.sorts b;rotate_left
 ·have hf:=hno fun h=>hk ((h.two hnd d hd).2 a b ha hb).1;have z4:((kd g.sorts a:Int)=(kd g.sorts b:Int))=False:=eq_false om;exact fT (aj13 @hd @ZaJ @z3 @ha @hb @Zai @ga @gb @ia @ib @rK @z4 @hf)
 have z4:((kd g.sorts a:Int)=(kd g.sorts b:Int))=True:=eq_true om;refine fN 8 (aj12 @hd @ZaJ @z3 @ha @hb @Zai @ga @gb @ia @ib @rK @z4) ?_;refine gM (ι:=Bool) [83] [] (fun v=>[(83,A.d (.one (.lit (.bool v))))]) (fun v=>[]) (fun v=>(v=true->((o.assoc=true∨o.unit≠0)∧kd g.sorts a≠kd g.sorts d.res))∧(v=false->¬ ((o.assoc=true∨o.unit≠0)∧kd g.sorts a≠kd g.sorts d.res))) ?_ (fun v hv=>Exists.intro _ (ai (Wk.refl _) ?_))
 ·cases q1:o.assoc with
  | true =>
   by_cases hr:kd g.sorts a=kd g.sorts d.res
   ·have z5:((kd g.sorts a:Int)=(kd g.sorts d.res:Int))=True:=eq_true om;have F:=aj9 @q1 @ha @Zai @ga @gr @ia @ir @rK @z5;refine gG ?_;exact ⟨false,⟨fun h=>(by cases h),fun _ h=>h.2 hr⟩,gw,gw⟩
   ·have z5:((kd g.sorts a:Int)=(kd g.sorts d.res:Int))=False:=eq_false om;have F:=aj9 @q1 @ha @Zai @ga @gr @ia @ir @rK @z5;refine gG ?_;exact ⟨true,⟨fun _=>⟨.inl rfl,hr⟩,fun h=>(by cases h)⟩,gw,gw⟩
  | false =>
  by_cases q3:o.unit=0
  ·have z6:(o.unit=0)=True:=eq_true q3;have F:=ai @q1 @z6;refine gG ?_;exact ⟨false,⟨fun h=>(by cases h),fun _ h=>h.1.elim (fun h=>(by cases h)) fun h=>h q3⟩,gw,gw⟩
  ·have z6:(o.unit=0)=False:=eq_false q3;by_cases hr:kd g.sorts a=kd g.sorts d.res
   ·have z5:((kd g.sorts a:Int)=(kd g.sorts d.res:Int))=True:=eq_true om;have F:=aj10 @q1 @z6 @ha @Zai @ga @gr @ia @ir @rK @z5;refine gG ?_;exact ⟨false,⟨fun h=>(by cases h),fun _ h=>h.2 hr⟩,gw,gw⟩
   ·have z5:((kd g.sorts a:Int)=(kd g.sorts d.res:Int))=False:=eq_false om;have F:=aj10 @q1 @z6 @ha @Zai @ga @gr @ia @ir @rK @z5;refine gG ?_;exact ⟨true,⟨fun _=>⟨.inr q3,hr⟩,fun h=>(by cases h)⟩,gw,gw⟩
 obtain ⟨hv1,hv2⟩:=hv
 cases v with
 | true =>
  have hf:=hno fun h=>(hv1 rfl).2 (((h.two hnd d hd).2 a b ha hb).2.1 (hv1 rfl).1);exact fT @hf
 | false =>
 have hr:=hv2 rfl;by_cases q3:o.unit=0
 ·have z6:(o.unit=0)=True:=eq_true q3;have ht:=Zdi (Zi2 hd h1 h2 h3 ha hb hk hr fun h=>absurd q3 h);exact fT (ai @z6 @ht)
 have z6:(o.unit=0)=False:=eq_false q3;have hsub:IntKind.i64.wrap (o.unit - 1)=((o.unit.toNat - 1:Nat):Int):=Za2 om om om;obtain ⟨p,hp⟩:∃ p,g.ops[o.unit.toNat - 1]?=some p:=⟨_,Taa om⟩;obtain ⟨u,hu,huu⟩:=(hall p (Tac hp)).first;have gu':=kdg hs huu.res;have iu:=huu.res.1;have key:(u.args.length=0∧kd g.sorts u.res=kd g.sorts d.res)->axOk g o=true:=fun h=>Zdi (Zi2 hd h1 h2 h3 ha hb hk hr fun _ p' u' hp' hu'=>by
  rw [hp] at hp';injection hp' with hp';subst hp'
  rw [hu] at hu';injection hu' with hu';subst hu'
  exact h)
 have keyn:¬ (u.args.length=0∧kd g.sorts u.res=kd g.sorts d.res)->axOk g o=false:=fun h=>hno fun hA=>h (((hA.two hnd d hd).2 a b ha hb).2.2 q3 p u hp hu);by_cases hl0:u.args.length=0;rotate_left
 ·have hf:=keyn fun h=>hl0 h.1;have z7:((u.args.length:Int)=0)=False:=eq_false om;exact fT (aj9 @z6 @hsub @hp @Zae @hu @ZaJ @ZaW @z7 @hf)
 have z7:((u.args.length:Int)=0)=True:=eq_true om;by_cases hku:kd g.sorts u.res=kd g.sorts d.res
 ·have ht:=key ⟨hl0,hku⟩;have z8:((kd g.sorts u.res:Int)=(kd g.sorts d.res:Int))=True:=eq_true om;exact fT (aj15 @z6 @hsub @hp @Zae @hu @ZaJ @ZaW @z7 @gu' @gr @iu @ir @rK @z8 @ht)
 ·have hf:=keyn fun h=>hku h.2;have z8:((kd g.sorts u.res:Int)=(kd g.sorts d.res:Int))=False:=eq_false om;exact fT (aj15 @z6 @hsub @hp @Zae @hu @ZaJ @ZaW @z7 @gu' @gr @iu @ir @rK @z8 @hf)
theorem Zn9 (hs:SortsOk g.sorts) (hall:∀ p∈g.ops,DeclsOk g.sorts p) {k:Nat} (hk0:g.ops[k]?=some o) (hol:g.ops.length<=14):Con e0 83 [.agg (Zaf g),.one (.lit (.int .i64 k))] [.one (.lit (.bool (axOk g o)))]:=by
 have hno:¬ AxOk g o->axOk g o=false:=ZkG;have ho:=Tac hk0;have hkl:=(Tad.1 hk0).1;have cK:=Zdy hs;rw [show (ZbT (ZbW g.sorts)).map ZaG=nR (ZbW g.sorts) from rfl] at cK;have rK:=Za0 (l:=ZbW g.sorts);obtain ⟨d,hd,hdd⟩:=(hall o ho).first;have cA:=ZcF hd;have gr:=kdg hs hdd.res;have ir:=hdd.res.1;rw [Za3] at cK;rw [ZaT] at cA;rw [Zaf];refine gI 174085318024508800717819895 Tryz.func83 ?_;by_cases hp:o.assoc=false∧o.comm=false∧o.unit=0
 ·have ht:=Zdi (Zn8 (g:=g) hp);obtain ⟨p1,p2,p3⟩:=hp;have p3:(o.unit=0)=True:=eq_true p3;exact fT (aj6 @hk0 @Zae @p1 @p2 @p3 @ht)
 have hnd:=Zrq hp;refine fN 2 (ai @hk0 @Zae) ?_;refine gM (ι:=Unit) [29] [] (fun v=>[(29,A.d (.one (.lit (.bool false))))]) (fun v=>[]) (fun v=>True) ?_ (fun v hv=>Exists.intro _ (ai (Wk.refl _) ?_))
 ·cases q1:o.assoc with
  | true=>(have F:=@q1;refine gG ?_;exact ⟨(),trivial,gw,gw⟩)
  | false =>
  cases q2:o.comm with
  | true=>(have F:=ai @q1 @q2;refine gG ?_;exact ⟨(),trivial,gw,gw⟩)
  | false =>
   have q3:(o.unit=0)=False:=eq_false fun h=>hp ⟨q1,q2,h⟩;have F:=aj3 @q1 @q2 @q3;refine gG ?_;exact ⟨(),trivial,gw,gw⟩
 clear hv;refine fB @e0P ?_;refine fC @e0P (cA) ?_;by_cases h3:d.args.length=2;rotate_left
 ·have hf:=hno fun h=>h3 (h.two hnd d hd).1;have z3:((d.args.length:Int)=2)=False:=eq_false om;refine fR @z3 ?_;exact fT @hf
 have z3:((d.args.length:Int)=2)=True:=eq_true om;refine fC @z3 (Zcf o.unit 0 (g.ops.length:Int)) ?_;by_cases h12:0<=o.unit∧o.unit<=(g.ops.length:Int);rotate_left
 ·have hf:=hno fun h=>h12 ⟨h.lo,h.hi⟩;have z1:decide (0<=o.unit∧o.unit<=(g.ops.length:Int))=false:=decide_eq_false h12;refine fR (ai @z3 @z1) ?_;exact fT @hf
 have z1:decide (0<=o.unit∧o.unit<=(g.ops.length:Int))=true:=decide_eq_true h12;obtain ⟨h1,h2⟩:=h12;obtain ⟨a,ha⟩:∃ k,d.args[0]?=some k:=⟨_,Taa om⟩;obtain ⟨b,hb⟩:∃ k,d.args[1]?=some k:=⟨_,Taa om⟩;have har:=hdd.args a (Tac ha);have hbr:=hdd.args b (Tac hb);have ga:=kdg hs har;have gb:=kdg hs hbr;have ia:=har.1;have ib:=hbr.1;refine fR (ai @z3 @z1) ?_;refine fB @e0P ?_;refine fC @e0P (cK) ?_;refine fR @e0P ?_
 refine fN 8 (ai @hd @ZaJ) ?_;refine Zam 22 (by decide +kernel) ?_;intro ds hds;simp only [List.map] at hds;subst hds;refine (have F:=aj10 ha hb Zai ga gb gr ia ib ir rK;gP 19 ?_);refine (have F:=ia;gAq ?_);refine (have F:=ia;gAq ?_);refine (have F:=ia;gAq ?_);refine fR @e0P ?_;refine fN 9 @e0P ?_;refine gM (ι:=Bool) [84] [] (fun v=>[(84,A.d (.one (.lit (.bool v))))]) (fun v=>[]) (fun v=>(v=true->kd g.sorts a≠kd g.sorts b∨((o.assoc=true∨o.unit≠0)∧kd g.sorts a≠kd g.sorts d.res))∧(v=false->kd g.sorts a=kd g.sorts b∧¬ ((o.assoc=true∨o.unit≠0)∧kd g.sorts a≠kd g.sorts d.res))) ?_ (fun v hv=>Exists.intro _ (ai (Wk.refl _) ?_))
 ·by_cases hk:kd g.sorts a=kd g.sorts b;rotate_left
  ·have z4:((kd g.sorts a:Int)=(kd g.sorts b:Int))=False:=eq_false om;have F:=@z4;refine gG ?_;exact ⟨true,⟨fun _=>.inl hk,fun h=>(by cases h)⟩,gw,gw⟩
  have z4:((kd g.sorts a:Int)=(kd g.sorts b:Int))=True:=eq_true om
  cases q1:o.assoc with
  | true =>
   by_cases hr:kd g.sorts a=kd g.sorts d.res
   ·have z5:((kd g.sorts a:Int)=(kd g.sorts d.res:Int))=True:=eq_true om;have F:=aj4 @q1 @Zae @z4 @z5;refine gG ?_;exact ⟨false,⟨fun h=>(by cases h),fun _=>⟨hk,fun h=>h.2 hr⟩⟩,gw,gw⟩
   ·have z5:((kd g.sorts a:Int)=(kd g.sorts d.res:Int))=False:=eq_false om;have F:=aj4 @q1 @Zae @z4 @z5;refine gG ?_;exact ⟨true,⟨fun _=>.inr ⟨.inl rfl,hr⟩,fun h=>(by cases h)⟩,gw,gw⟩
  | false =>
  by_cases q3:o.unit=0
  ·have z6:=lF 0 o.unit;have F:=aj4 @q1 @Zae @z4 @z6;refine gG ?_;exact ⟨false,⟨fun h=>(by cases h),fun _=>⟨hk,fun h=>h.1.elim (fun h=>(by cases h)) fun h=>h q3⟩⟩,gw,gw⟩
  ·have z6:=lT 0 o.unit;by_cases hr:kd g.sorts a=kd g.sorts d.res
   ·have z5:((kd g.sorts a:Int)=(kd g.sorts d.res:Int))=True:=eq_true om;have F:=aj5 @q1 @Zae @z4 @z6 @z5;refine gG ?_;exact ⟨false,⟨fun h=>(by cases h),fun _=>⟨hk,fun h=>h.2 hr⟩⟩,gw,gw⟩
   ·have z5:((kd g.sorts a:Int)=(kd g.sorts d.res:Int))=False:=eq_false om;have F:=aj5 @q1 @Zae @z4 @z6 @z5;refine gG ?_;exact ⟨true,⟨fun _=>.inr ⟨.inr q3,hr⟩,fun h=>(by cases h)⟩,gw,gw⟩
 obtain ⟨hv1,hv2⟩:=hv
 cases v with
 | true =>
  have hf:=hno fun h=>(hv1 rfl).elim (fun h'=>h' ((h.two hnd d hd).2 a b ha hb).1) fun h'=>h'.2 (((h.two hnd d hd).2 a b ha hb).2.1 h'.1);exact fT @hf
 | false =>
 obtain ⟨hk,hr⟩:=hv2 rfl;by_cases q3:o.unit=0
 ·have z6:(o.unit=0)=True:=eq_true q3;have ht:=Zdi (Zi2 hd h1 h2 h3 ha hb hk hr fun h=>absurd q3 h);exact fT (aj3 @Zae @z6 @ht)
 have z6:(o.unit=0)=False:=eq_false q3;have hsub:IntKind.i64.wrap (o.unit - 1)=((o.unit.toNat - 1:Nat):Int):=Za2 om om om;obtain ⟨p,hp⟩:∃ p,g.ops[o.unit.toNat - 1]?=some p:=⟨_,Taa om⟩;obtain ⟨u,hu,huu⟩:=(hall p (Tac hp)).first;have cP:=ZcF hu;rw [ZaT] at cP;have gu':=kdg hs huu.res;have iu:=huu.res.1;have key:(u.args.length=0∧kd g.sorts u.res=kd g.sorts d.res)->axOk g o=true:=fun h=>Zdi (Zi2 hd h1 h2 h3 ha hb hk hr fun _ p' u' hp' hu'=>by
  rw [hp] at hp';injection hp' with hp';subst hp'
  rw [hu] at hu';injection hu' with hu';subst hu'
  exact h)
 have keyn:¬ (u.args.length=0∧kd g.sorts u.res=kd g.sorts d.res)->axOk g o=false:=fun h=>hno fun hA=>h (((hA.two hnd d hd).2 a b ha hb).2.2 q3 p u hp hu);refine fB (aj5 @z6 @hsub @hp @Zae @ZaW) ?_;refine fC @e0P (cP) ?_;by_cases hl0:u.args.length=0;rotate_left
 ·have hf:=keyn fun h=>hl0 h.1;have z7:((u.args.length:Int)=0)=False:=eq_false om;refine fR @z7 ?_;exact fT @hf
 have z7:((u.args.length:Int)=0)=True:=eq_true om;by_cases hku:kd g.sorts u.res=kd g.sorts d.res
 ·have ht:=key ⟨hl0,hku⟩;have z8:((kd g.sorts u.res:Int)=(kd g.sorts d.res:Int))=True:=eq_true om;refine fR (aj7 @z7 @hu @ZaJ @gu' @iu @rK @z8) ?_;exact fT @ht
 ·have hf:=keyn fun h=>hku h.2;have z8:((kd g.sorts u.res:Int)=(kd g.sorts d.res:Int))=False:=eq_false om;refine fR (aj7 @z7 @hu @ZaJ @gu' @iu @rK @z8) ?_;exact fT @hf
end
theorem Zjt (a b:List Tm):sizeTms (a++b)=sizeTms a+sizeTms b:=by
 induction a with
 | nil=>simp [sizeTms]
 | cons x xs ih=>simp only [Taf,sizeTms,ih];omega
theorem ZaV {ts:List Tm} {t:Tm} (h:t∈ts):sizeTm t<=sizeTms ts:=by
 induction ts with
 | nil=>cases h
 | cons x xs ih =>
  simp only [sizeTms];rcases Tbg.1 h with rfl | h
  ·omega
  ·have:=ih h;omega
theorem Zoa {ts:List Tm} {i:Nat} {t:Tm} (h:ts[i]?=some t):sizeTms (ts.take (i+1))=sizeTms (ts.take i)+sizeTm t:=by
 rw [Zcj h,Zjt];simp [sizeTms]
theorem Zob (ts:List Tm) (i:Nat):sizeTms (ts.take i)<=sizeTms ts:=by
 have:=Zjt (ts.take i) (ts.drop i);rw [Tbm] at this;omega
theorem Zbp (ts:List Tm):ts.length<=sizeTms ts:=by
 induction ts with
 | nil=>simp [sizeTms]
 | cons x xs ih=>cases x;simp only [Tag,sizeTms,sizeTm];omega
mutual
def depthTm:Tm->Nat
 | .mk _ _ _ a=>1+depthTms a
def depthTms:List Tm->Nat
 | []=>0
 | t::ts=>max (depthTm t) (depthTms ts)
end
mutual
theorem ZkN:∀ t:Tm,depthTm t<=sizeTm t
 | .mk _ _ _ a=>by
  have:=ZeY a;simp only [depthTm,sizeTm];omega
theorem ZeY:∀ ts:List Tm,depthTms ts<=sizeTms ts
 | []=>by simp [depthTms]
 | t::ts=>by
  have:=ZkN t;have:=ZeY ts;simp only [depthTms,sizeTms];omega
end
theorem Zih (a b:List Tm):depthTms (a++b)=max (depthTms a) (depthTms b):=by
 induction a with
 | nil=>simp [depthTms]
 | cons x xs ih=>simp only [Taf,depthTms,ih];omega
theorem ZhY {ts:List Tm} {i:Nat} {t:Tm} (h:ts[i]?=some t):depthTms (ts.take (i+1))=max (depthTms (ts.take i)) (depthTm t):=by
 rw [Zcj h,Zih];simp [depthTms]
theorem ZdN {ts:List Tm} {t:Tm} (h:t∈ts):depthTm t<=depthTms ts:=by
 induction ts with
 | nil=>cases h
 | cons x xs ih =>
  simp only [depthTms];rcases Tbg.1 h with rfl | h
  ·omega
  ·have:=ih h;omega
theorem ZlO:∀ op nm so args,Zaa (.mk op nm so args)=[.lit (.int .i64 op),.lit (.string nm),.lit (.int .i64 so),.sl (Zab args)]:=fun _ _ _ _=>by rw [Zaa]
theorem Zxz:∀ op nm so args,sizeTm (.mk op nm so args)=1+sizeTms args:=fun _ _ _ _=>by rw [sizeTm]
theorem Zmq:∀ op nm so args,depthTm (.mk op nm so args)=1+depthTms args:=fun _ _ _ _=>by rw [depthTm]
theorem Zmr:sizeTms []=0:=by rw [sizeTms]
theorem ZkO:depthTms []=0:=by rw [depthTms]
def big:Nat:=4611686018427387904
theorem ZjX:∀ (n:Nat) (t:Tm),sizeTm t < n->sizeTm t<=big->Con e0 101 [.agg (Zaa t)] [.one (.lit (.int .i64 (sizeTm t)))]:=by
 intro n
 induction n with
 | zero=>intro t h;omega
 | succ n ih =>
  intro t hn hb;obtain ⟨op,nm,so,args⟩:=t;simp only [sizeTm,big] at hn hb;have hal:=Zbp args;refine gI 1967 Tryz.func101 ?_;refine fG (ai @ZlO @tmz) ?_;have F:=@Zmr;refine gL (ι:=Nat) [3,5,9,10] [] (fun i=>[(9,A.d (.one (.lit (.int .i64 i)))),(3,A.d (.one (.lit (.int .i64 ((1+sizeTms (args.take i):Nat):Int)))))]) (fun i=>[]) (fun i=>i<=args.length) (fun i=>args.length - i) (0) om (fun i hi=>?_);clear F
  by_cases hl:i < args.length;rotate_left
  ·have hl':¬ ((i:Int) < (args.length:Int)):=om;have e:args.take i=args:=List.take_of_length_le om;exact fT (aj3 @hl' @e @Zxz)
  have hl':(i:Int) < (args.length:Int):=om;obtain ⟨a,ha⟩:∃ a,args[i]?=some a:=⟨_,Taa hl⟩;have hs:=Zoa ha;have ht:=Zob args (i+1);have hm:=ZaV (Tac ha);have hw:IntKind.i64.wrap (((1+sizeTms (args.take i):Nat):Int)+(sizeTm a:Int))=((1+sizeTms (args.take (i+1)):Nat):Int):=Za2 om om om;have hw1:=Zaq (k:=i) om;refine fB (aj3 @hl' @tmz @ha) ?_;refine fC @tmz (ih a om (by unfold big;omega)) ?_;refine fR @hw ?_
  have F:=aj3 @hw1 @hw @tmz;refine gG ?_;exact ⟨i+1,om,gw,gw,om⟩
theorem Zoc {t:Tm} (h:sizeTm t<=big):Con e0 101 [.agg (Zaa t)] [.one (.lit (.int .i64 (sizeTm t)))]:=ZjX _ t (Tan _) h
theorem Zjh:∀ (n:Nat) (t:Tm),sizeTm t < n->sizeTm t<=big->Con e0 102 [.agg (Zaa t)] [.one (.lit (.int .i64 (depthTm t)))]:=by
 intro n
 induction n with
 | zero=>intro t h;omega
 | succ n ih =>
  intro t hn hb;obtain ⟨op,nm,so,args⟩:=t;simp only [sizeTm,big] at hn hb;have hal:=Zbp args;have hds:=ZeY args;refine gI 1967 Tryz.func102 ?_;refine fG (ai @ZlO @tmz) ?_;have F:=@ZkO;refine gL (ι:=Nat) [3,5,9,10] [] (fun i=>[(9,A.d (.one (.lit (.int .i64 i)))),(3,A.d (.one (.lit (.int .i64 ((depthTms (args.take i):Nat):Int)))))]) (fun i=>[]) (fun i=>i<=args.length) (fun i=>args.length - i) (0) om (fun i hi=>?_);clear F
  by_cases hl:i < args.length;rotate_left
  ·have hl':¬ ((i:Int) < (args.length:Int)):=om;have e:args.take i=args:=List.take_of_length_le om;have hw:IntKind.i64.wrap ((depthTms args:Int)+1)=((1+depthTms args:Nat):Int):=Za2 om om om;exact fT (aj4 @hl' @e @hw @Zmq)
  have hl':(i:Int) < (args.length:Int):=om;obtain ⟨a,ha⟩:∃ a,args[i]?=some a:=⟨_,Taa hl⟩;have hs:=ZhY ha;have hm:=ZaV (Tac ha);have hw:(if (depthTm a:Int) > (depthTms (args.take i):Int) then (depthTm a:Int) else (depthTms (args.take i):Int))=((depthTms (args.take (i+1)):Nat):Int):=by
   split <;> omega
  have hw1:=Zaq (k:=i) om;refine fB (aj3 @hl' @tmz @ha) ?_;refine fC @tmz (ih a om (by unfold big;omega)) ?_;refine fR @hw ?_;have F:=aj3 @hw1 @hw @tmz;refine gG ?_;exact ⟨i+1,om,gw,gw,om⟩
theorem Zm1 {t:Tm} (h:sizeTm t<=big):Con e0 102 [.agg (Zaa t)] [.one (.lit (.int .i64 (depthTm t)))]:=Zjh _ t (Tan _) h
theorem ZvH (a b:Int):Con e0 93 [.one (.lit (.int .i64 a)),.one (.lit (.int .i64 b))] [.one (.lit (.int .i64 (max a b)))]:=by
 refine gI 147 Tryz.func93 ?_;by_cases h:b < a
 ·have e:max a b=a:=om;exact fT (ai @h @e)
 ·have e:max a b=b:=om;exact fT (ai @h @e)
theorem Zji:∀ (n:Nat) (t:Tm),sizeTm t < n->sizeTm t<=big->Con e0 85 [.agg (Zaa t)] [.one (.lit (.int .i64 (depthTm t)))]:=by
 intro n
 induction n with
 | zero=>intro t h;omega
 | succ n ih =>
  intro t hn hb;obtain ⟨op,nm,so,args⟩:=t;simp only [sizeTm,big] at hn hb;have hal:=Zbp args;have hds:=ZeY args;refine gI 543 Tryz.func85 ?_;refine fG (ai @ZlO @tmz) ?_;have F:=@ZkO;refine gL (ι:=Nat) [3,4,9] [] (fun i=>[(4,A.d (.one (.lit (.int .i64 i)))),(3,A.d (.one (.lit (.int .i64 ((depthTms (args.take i):Nat):Int)))))]) (fun i=>[]) (fun i=>i<=args.length) (fun i=>args.length - i) (0) om (fun i hi=>?_);clear F
  by_cases hl:i < args.length;rotate_left
  ·have hl':¬ ((i:Int) < (args.length:Int)):=om;have e:args.take i=args:=List.take_of_length_le om;have hw:IntKind.i64.wrap ((depthTms args:Int)+1)=((1+depthTms args:Nat):Int):=Za2 om om om;exact fT (aj5 @hl' @e @hw @Zmq @tmz)
  have hl':(i:Int) < (args.length:Int):=om;obtain ⟨a,ha⟩:∃ a,args[i]?=some a:=⟨_,Taa hl⟩;have hs:=ZhY ha;have hm:=ZaV (Tac ha);have hw:max (depthTms (args.take i):Int) (depthTm a:Int)=((depthTms (args.take (i+1)):Nat):Int):=om;have hw1:=Zaq (k:=i) om;refine fB (aj3 @hl' @tmz @ha) ?_;refine fC (ai @tmz @ha) (ih a om (by unfold big;omega)) ?_;refine fC @tmz (ZvH _ _) ?_;refine fR @hw ?_;have F:=aj3 @hw1 @hw @tmz;refine gG ?_;exact ⟨i+1,om,gw,gw,om⟩
theorem Zm2 {t:Tm} (h:sizeTm t<=big):Con e0 85 [.agg (Zaa t)] [.one (.lit (.int .i64 (depthTm t)))]:=Zji _ t (Tan _) h
def Lks (sb:List (Nat × A)) (mb:List (Nat × Bk)) (σ:St):Prop:=(∀ p∈sb,gs σ.s p.1=p.2)∧∀ p∈mb,gm σ.m p.1=some p.2
def keyB (k:Nat):A->Bool
 | .ref k' _=>k'==k
 | .buf k'=>k'==k
 | .row k' _ _ _=>k'==k
 | _=>false
def ZeZ (d:Nat) (sb:List (Nat × A)) (mb:List (Nat × Bk)):Bool:=sb.all (fun p=>p.1 != d && !keyB d p.2) && mb.all (fun p=>p.1 != d)
theorem Zdu (k t:Nat):∀ (s:List (Nat × A)),keyB k (gs s t)=false->gs (Zao k s) t=gs s t
 | [],_=>rfl
 | (t',x)::r,h=>by
  have ih:=Zdu k t r;by_cases ht:t=t'
  ·cases x <;> simp_all [Zao,gs,keyB]
  ·have h2:keyB k (gs r t)=false:=by simpa [gs,ht] using h
   have h3:=ih h2;clear h ih
   cases x <;> simp [Zao,gs,ht,h3]
theorem ZvI {d:Nat} {a:Option Addr} {n cap:Nat} {x:A} (h:keyB d x=false):litB d a n cap x=x:=by
 cases x <;> simp_all [litB,keyB]
section
variable {sb sb':List (Nat × A)} {mb mb':List (Nat × Bk)} {s:List (Nat × A)} {m:List (Nat × Bk)} {d:Nat} {α:A} {bk:Bk} {σ:St}
theorem Lks.app (h:Lks sb mb σ) (h':Lks sb' mb' σ):Lks (sb++sb') (mb++mb') σ :=
 ⟨fun p hp=>(Tbh.1 hp).elim (h.1 p) (h'.1 p),fun p hp=>(Tbh.1 hp).elim (h.2 p) (h'.2 p)⟩
theorem Lks.born (h:Lks sb mb ⟨s,m⟩) (hf:ZeZ d sb mb=true):Lks sb mb ⟨(d,α)::Zao d s,(d,bk)::remM d m⟩:=by
 simp only [ZeZ,Tar,List.all_eq_true,bne_iff_ne,ne_eq,Bool.not_eq_true'] at hf;refine ⟨fun p hp=>?_,fun p hp=>?_⟩
 ·have h1:=hf.1 p hp;have h2:=h.1 p hp;simp only [gs,h1.1,if_false];rw [Zdu _ _ _ (by rw [h2];exact h1.2)];exact h2
 ·have h1:=hf.2 p hp;simp only [gm,h1,if_false,ZaA];exact h.2 p hp
theorem Lks.pin (h:Lks sb mb ⟨s,m⟩) (hf:ZeZ d sb mb=true) {a:Option Addr} {n cap:Nat}:Lks sb mb ⟨(d,α)::mapS (litB d a n cap) (Zao d s),(d,bk)::remM d (remM d m)⟩:=by
 simp only [ZeZ,Tar,List.all_eq_true,bne_iff_ne,ne_eq,Bool.not_eq_true'] at hf;refine ⟨fun p hp=>?_,fun p hp=>?_⟩
 ·have h1:=hf.1 p hp;have h2:=h.1 p hp;simp only [gs,h1.1,if_false];rw [ZiT rfl,Zdu _ _ _ (by rw [h2];exact h1.2),h2];exact ZvI h1.2
 ·have h1:=hf.2 p hp;simp only [gm,h1,if_false,ZaA];exact h.2 p hp
theorem Lks.slot (h:Lks sb mb ⟨s,m⟩) (hf:sb.all (fun p=>p.1 != d)=true):Lks sb mb ⟨(d,α)::s,m⟩:=by
 simp only [List.all_eq_true,bne_iff_ne,ne_eq] at hf;refine ⟨fun p hp=>?_,h.2⟩;simp only [gs,hf p hp,if_false];exact h.1 p hp
theorem Lks.own (h:Lks sb mb ⟨s,m⟩) (hf:mb.all (fun p=>p.1 != d)=true):Lks sb mb ⟨s,(d,bk)::remM d m⟩:=by
 simp only [List.all_eq_true,bne_iff_ne,ne_eq] at hf;refine ⟨h.1,fun p hp=>?_⟩;simp only [gm,hf p hp,if_false,ZaA];exact h.2 p hp
theorem Zod:∀ {sb:List (Nat × A)} (t:Nat),(∀ p∈sb,gs σ.s p.1=p.2)->gs sb t=gs σ.s t∨gs sb t=.undef
 | [],t,_=>.inr rfl
 | (t',x)::r,t,h=>by
  simp only [gs];by_cases ht:t=t'
  ·have:=h (t',x) (by simp);rw [if_pos ht,ht];exact .inl this.symm
  ·rw [if_neg ht];exact Zod t fun p hp=>h p (by simp [hp])
theorem Zoe:∀ {mb:List (Nat × Bk)} (t:Nat) (bk:Bk),(∀ p∈mb,gm σ.m p.1=some p.2)->gm mb t=some bk->gm σ.m t=some bk
 | [],t,bk,_,h=>by simp [gm] at h
 | (t',x)::r,t,bk,h,hg=>by
  simp only [gm] at hg;by_cases ht:t=t'
  ·rw [if_pos ht] at hg;injection hg with hg
   have:=h (t',x) (by simp);rw [ht,this,hg]
  ·rw [if_neg ht] at hg;exact Zoe t bk (fun p hp=>h p (by simp [hp])) hg
end
section
variable {e:Env} {mask:Nat} {Q:PX->St->Prop} {ds:List (Option Nat)}
theorem ZkP {os:List Oper} {σ:St} {K K':St->Prop} (h:Runs e ds 0 os σ K) (hk:∀ σ',K σ'->K' σ'):Runs e ds 0 os σ K':=by
 simp only [Runs] at h ⊢;exact fun he U w0 S0 nt a w ops Q hds hd hQ hs=>h he U w0 S0 nt a w ops Q hds hd (fun a w σ' k1 k2=>hQ a w σ' (hk σ' k1) k2) hs
def ZkQ (l:List Oper):Bool:=(List.range l.length).all fun i=>match l[i]? with
 | none=>true
 | some o=>o.guard.isNone && o.after.toList.all fun e=>!Region.binds .any e || decide (e.on < i)
def Zdv (o:Oper):List Nat:=(o.after.toList.filter fun e=>Region.binds .any e).map (·.on)
def Zbx (L:List Oper) (j:Nat):List Nat:=match L[j]? with
 | some o=>Zdv o
 | none=>[]
def ZfV (e:Env) (ds:List (Option Nat)) (L:List Oper) (B:St->Prop) (P:Nat->St->Prop):Nat->List Oper->Prop
 | _,[]=>True
 | i,o::os=>(∀ s m,B ⟨s,m⟩->(∀ j∈Zdv o,P j ⟨s,m⟩)->Runs e ds 0 [o] ⟨s,m⟩ (fun σ'=>B σ'∧P i σ'∧∀ j,j≠i->i ∉ Zbx L j->P j ⟨s,m⟩->P j σ'))∧ZfV e ds L B P (i+1) os
theorem ZfV.get {L:List Oper} {B:St->Prop} {P:Nat->St->Prop}:∀ {l:List Oper} {k i:Nat} {o:Oper},ZfV e ds L B P k l->l[i]?=some o->∀ s m,B ⟨s,m⟩->(∀ j∈Zdv o,P j ⟨s,m⟩)->Runs e ds 0 [o] ⟨s,m⟩ (fun σ'=>B σ'∧P (k+i) σ'∧∀ j,j≠k+i->k+i ∉ Zbx L j->P j ⟨s,m⟩->P j σ')
 | [],k,i,o,_,h=>by simp at h
 | x::l,k,0,o,h,ho=>by
  simp only [Tat,Taq] at ho;subst ho;exact h.1
 | x::l,k,i+1,o,h,ho=>by
  have:=ZfV.get (l:=l) (k:=k+1) (i:=i) (o:=o) h.2 (by simpa using ho);rw [show k+1+i=k+(i+1) by omega] at this;exact this
theorem Zr6 {l:List Oper} {K B:St->Prop} {P:Nat->St->Prop} (hb:ZkQ l=true) (hstep:ZfV e ds l B P 0 l) (hK:∀ s m,B ⟨s,m⟩->(∀ i,i < l.length->P i ⟨s,m⟩)->K ⟨s,m⟩) :
  ∀ (f:Nat) (listed:Array Bool) (σ:St),listed.size=l.length->(List.range l.length).countP (fun i=>!listed.getD i true)=f->B σ->(∀ j,listed.getD j false=true->P j σ∧∀ q∈Zbx l j,listed.getD q false=true)->ZcP e ds l.toArray K f listed σ:=by
 have hback:∀ i o,l[i]?=some o->o.guard=none∧∀ e∈o.after,Region.binds .any e=true->e.on < i:=fun i o ho=>by
  have h1:=List.all_eq_true.1 hb i (List.mem_range.2 (Tad.1 ho).1);rw [ho] at h1;simp only [Tar,Option.isNone_iff_eq_none,List.all_eq_true,Bool.or_eq_true,Bool.not_eq_true',decide_eq_true_eq] at h1;refine ⟨h1.1,fun e he hbe=>?_⟩;rcases h1.2 e (Array.mem_toList_iff.2 he) with h2 | h2
  ·rw [hbe] at h2;cases h2
  ·exact h2
 have hfirst:∀ (listed:Array Bool),listed.size=l.length->Region.ready .any l.toArray listed=[]->∀ i,i < l.length->listed.getD i false=true:=fun listed hsz h0 i=>by
  induction i using Nat.strongRecOn with
  | _ i ih =>
   intro hi;rw [<- Zbb (by omega:i < listed.size)]
   cases hun:listed.getD i true with
   | true=>rfl
   | false =>
   obtain ⟨o,ho⟩:∃ o,l[i]?=some o:=⟨_,Taa hi⟩;have:=(mem_ready (ops:=l.toArray) (md:=.any)).2 ⟨hun,o,by simpa using ho,fun e he hbe=>ih e.on ((hback i o ho).2 e he hbe) (by have:=(hback i o ho).2 e he hbe;omega)⟩;rw [h0] at this
   cases this
 intro f
 induction f with
 | zero =>
  intro listed σ hsz hc hB hP;have hall:∀ i,i < l.length->listed.getD i true=true:=fun i hi=>by
   have:=List.countP_eq_zero.1 hc i (List.mem_range.2 hi);simpa using this
  refine ⟨?_,hK σ.s σ.m hB fun i hi=>(hP i (by rw [<- Zbb om];exact hall i hi)).1⟩
  cases hr:Region.ready .any l.toArray listed with
  | nil=>rfl
  | cons i r =>
   have hi:i∈Region.ready .any l.toArray listed:=by rw [hr];simp
   obtain ⟨hun,oi,hoi,_⟩:=mem_ready.1 hi;have hil:i < l.length:=by
    have:=(Tbl.1 hoi).1;simpa using this
   rw [hall i hil] at hun
   cases hun
 | succ f ih =>
  intro listed σ hsz hc hB hP;refine ⟨fun h0=>hK σ.s σ.m hB fun i hi=>(hP i (hfirst listed hsz h0 i hi)).1,fun i hi=>?_⟩;obtain ⟨hun,o,hoi,hall⟩:=mem_ready.1 hi;have ho:l[i]?=some o:=by simpa using hoi
  have hil:i < l.length:=(Tad.1 ho).1;have hls:i < listed.size:=om;refine ⟨o,hoi,(hback i o ho).1,ZeK (hback i o ho).1 ?_⟩;have h1:=ZfV.get hstep ho σ.s σ.m hB fun j hj=>by
   simp only [Zdv,Tbi,List.mem_filter] at hj;obtain ⟨e,⟨he,hbe⟩,rfl⟩:=hj;exact (hP e.on (hall e (Array.mem_toList_iff.1 he) hbe)).1
  rw [Nat.zero_add] at h1;refine ZkP h1 fun σ' ⟨k1,k2,k3⟩=>ih _ σ' (by simpa using hsz) ?_ k1 fun j hj=>?_
  ·have h1:(List.range l.length).countP (fun j=>!(listed.setIfInBounds i true).getD j true)+1=(List.range l.length).countP (fun j=>!listed.getD j true):=by
    have hperm:=List.perm_cons_erase (List.mem_range.2 hil);rw [hperm.countP_eq,hperm.countP_eq,List.countP_cons,List.countP_cons];have hcong:((List.range l.length).erase i).countP (fun j=>!(listed.setIfInBounds i true).getD j true)=((List.range l.length).erase i).countP (fun j=>!listed.getD j true):=by
     refine List.countP_congr fun j hj=>?_;have hne:j≠i:=fun e=>by
      subst e;exact List.Nodup.not_mem_erase (List.nodup_range) hj
     rw [getD_set_ne true (Ne.symm hne)]
    rw [hcong,hun];simp [hls]
   omega
  ·by_cases hji:j=i
   ·subst hji;refine ⟨k2,fun q hq=>?_⟩;have hda:Zbx l j=Zdv o:=by unfold Zbx;rw [ho]
    rw [hda] at hq;simp only [Zdv,Tbi,List.mem_filter] at hq;obtain ⟨e,⟨he,hbe⟩,rfl⟩:=hq;have hlt:=(hback j o ho).2 e (Array.mem_toList_iff.1 he) hbe;rw [getD_set_ne false om];exact hall e (Array.mem_toList_iff.1 he) hbe
   ·rw [getD_set_ne false (Ne.symm hji)] at hj;obtain ⟨p1,p2⟩:=hP j hj;have hni:i ∉ Zbx l j:=fun hm=>by
     have h2:=p2 i hm;rw [<- Zbb hls,hun] at h2
     cases h2
    refine ⟨k3 j hji hni p1,fun q hq=>?_⟩;by_cases hqi:q=i
    ·subst hqi;exact absurd hq hni
    ·rw [getD_set_ne false (Ne.symm hqi)];exact p2 q hq
theorem gGd {id:Nat} {l:List Oper} {s:List (Nat × A)} {m:List (Nat × Bk)} (B:St->Prop) (P:Nat->St->Prop) (hB:B ⟨s,m⟩) (hS:ZfV e (l.map (·.dst)) l B P 0 l) (hK:∀ s' m',B ⟨s',m'⟩->(∀ i,i < l.length->P i ⟨s',m'⟩)->∃ sf mf,Lks sf mf ⟨s',m'⟩∧Q .normal ⟨sf,mf⟩)
  (hb:ZkQ l=true:=by decide +kernel) (hT:regT l.toArray 0=true:=by decide +kernel):pwp e mask (.region id l.toArray true) ⟨s,m⟩ Q:=fun he U w0 S0 nt a w hok hs=>by
 refine ZjV he hT (K:=fun σ'=>∃ sf mf,Lks sf mf σ'∧Q .normal ⟨sf,mf⟩) (fun a w σ' ⟨sf,mf,h1,h2⟩ h3=>⟨⟨sf,mf⟩,h2,h3.weak (fun t=>Zod t h1.1) (fun t bk=>Zoe t bk h1.2)⟩) (ZkI hok) hs ?_;simp only [List.take_zero,Runs]
 have:=Zr6 (K:=fun σ'=>∃ sf mf,Lks sf mf σ'∧Q .normal ⟨sf,mf⟩) hb hS hK l.length (Zbu l.length 0) ⟨s,m⟩ (by simp [Zbu]) (by
  rw [List.countP_eq_length.2]
  ·simp
  ·intro i hi;have hi':=List.mem_range.1 hi;simp [Zbu,hi']) hB (fun j hj=>by
   have h0:(Zbu l.length 0).getD j false=false:=by
    by_cases hjl:j < l.length
    ·simp [Zbu,hjl]
    ·simp [Zbu,hjl]
   rw [h0] at hj
   cases hj)
 simpa using this
def PG {X:Type} (S:X->Nat->List (Nat × A)) (M:X->Nat->List (Nat × Bk)) (i:Nat) (σ:St):Prop:=∃ x,Lks (S x i) (M x i) σ
section
variable {X:Type} {S:X->Nat->List (Nat × A)} {M:X->Nat->List (Nat × Bk)} {d i:Nat} {L:List Oper} {s:List (Nat × A)} {m:List (Nat × Bk)} {α:A} {bk:Bk}
theorem PG.slot (hf:∀ j,j≠i->i ∉ Zbx L j->∀ x,(S x j).all (fun p=>p.1 != d)=true):∀ j,j≠i->i ∉ Zbx L j->PG S M j ⟨s,m⟩->PG S M j ⟨(d,α)::s,m⟩:=fun j h1 h2 ⟨x,h⟩=>⟨x,h.slot (hf j h1 h2 x)⟩
theorem PG.born (hf:∀ j,j≠i->i ∉ Zbx L j->∀ x,ZeZ d (S x j) (M x j)=true):∀ j,j≠i->i ∉ Zbx L j->PG S M j ⟨s,m⟩->PG S M j ⟨(d,α)::Zao d s,(d,bk)::remM d m⟩:=fun j h1 h2 ⟨x,h⟩=>⟨x,h.born (hf j h1 h2 x)⟩
theorem PG.pin (hf:∀ j,j≠i->i ∉ Zbx L j->∀ x,ZeZ d (S x j) (M x j)=true) {a:Option Addr} {n cap:Nat}:∀ j,j≠i->i ∉ Zbx L j->PG S M j ⟨s,m⟩->PG S M j ⟨(d,α)::mapS (litB d a n cap) (Zao d s),(d,bk)::remM d (remM d m)⟩:=fun j h1 h2 ⟨x,h⟩=>⟨x,h.pin (hf j h1 h2 x)⟩
end
end
theorem Zr7 {e:Env} {σ:St} {k k' ety ety' sz sz' cap cap':Nat} {ad ad':Option Addr} {rows rows':List (List C)} (hne:k≠k') (h:gm σ.m k=some (.buf (some (ad,cap)) ety sz rows)) (h':gm σ.m k'=some (.buf (some (ad',cap')) ety' sz' rows')) (hr:0 < rows.length) (hr':0 < rows'.length):Turn e σ (fun σ'=>σ'=σ∧ad≠ad'):=fun he U w0 S0 nt act w hs=>by
 refine ⟨σ,⟨rfl,fun e=>?_⟩,hs⟩;obtain ⟨S,L,h1⟩:=hs;have key:∀ {k ety sz cap:Nat} {ad:Option Addr} {rows:List (List C)},gm σ.m k=some (.buf (some (ad,cap)) ety sz rows)->0 < rows.length->∃ g,vblk (L.v k)=some g∧ad=some ⟨g,0,none⟩:=fun {k ety sz cap ad rows} h hr=>by
  obtain ⟨o1,o2⟩:=h1.cls.own k _ h;have o1:=o1 _ rfl;rcases o2.2.2 with ⟨h3,_⟩ | ⟨g,cap2,cur,hv,hc,_⟩
  ·rw [h3] at hr;simp at hr
  ·refine ⟨g,by rw [hv];simp [vblk];omega,?_⟩;rw [o1] at hv;injection hv with hv _ _
 obtain ⟨g,v1,e1⟩:=key h hr;obtain ⟨g',v2,e2⟩:=key h' hr';rw [e1,e2] at e;injection e with e
 injection e with e _ _
 rw [<- e] at v2;exact hne (h1.cls.inj k k' _ _ g h h' v1 v2)
theorem pA {e:Env} {mask:Nat} {Q:PX->St->Prop} {c:Code} {s:List (Nat × A)} {m:List (Nat × Bk)} {ety ety' sz sz' cap cap':Nat} {ad ad':Option Addr} {rows rows':List (List C)} (k k':Nat) (hK:ad≠ad'->pwp e mask c ⟨s,m⟩ Q) (hr:0 < rows.length) (hr':0 < rows'.length) (hne:k≠k':=by decide) (h:gm m k=some (.buf (some (ad,cap)) ety sz rows):=by exact snv) (h':gm m k'=some (.buf (some (ad',cap')) ety' sz' rows'):=by exact snv):pwp e mask c ⟨s,m⟩ Q :=
 Zc4 (Zr7 hne h h' hr hr') fun σ' ⟨hσ,ha⟩=>by subst hσ;exact hK ha
def ordS (s:Srt) (f:(Nat->Option Addr × Nat) × C × C × C):Nat->List (Nat × A)
 | 0=>[(20,.d (.agg (Za3 s)))]
 | 1=>[(21,.d (.one (.sl (nR (up s)))))]
 | 2=>[(22,.d (.one (.lit (.int .i64 s.names.length))))]
 | 3=>[(23,.d (.one (.lit (.slice (f.1 23).1 s.names.length (f.1 23).2))))]
 | 4=>[(24,.d (.one (.lit (.int .i64 s.names.length))))]
 | 5=>[(25,.d (.one (.lit (.slice (f.1 25).1 s.names.length (f.1 25).2))))]
 | 6=>[(26,.d (.agg [.sl (nR (up s)),.lit (.slice (f.1 23).1 s.names.length (f.1 23).2),.lit (.slice (f.1 25).1 s.names.length (f.1 25).2)]))]
 | 7=>[(5,.ref 5 0)]
 | 8=>[(5,.ref 5 0)]
 | _=>[]
def ordM (s:Srt) (f:(Nat->Option Addr × Nat) × C × C × C):Nat->List (Nat × Bk)
 | 3=>[(23,.buf (some (f.1 23)) 3 1 (nR (List.replicate s.names.length 0)))]
 | 5=>[(25,.buf (some (f.1 25)) 3 1 (nR (List.replicate s.names.length 0)))]
 | 6=>[(23,.buf (some (f.1 23)) 3 1 (nR (List.replicate s.names.length 0))),(25,.buf (some (f.1 25)) 3 1 (nR (List.replicate s.names.length 0)))]
 | 7=>[(5,.var none [f.2.1,f.2.2.1,f.2.2.2])]
 | 8=>[(5,.var none [.sl (nR (up s)),.lit (.slice (f.1 23).1 s.names.length (f.1 23).2),.lit (.slice (f.1 25).1 s.names.length (f.1 25).2)]),(23,.buf (some (f.1 23)) 3 1 (nR (List.replicate s.names.length 0))),(25,.buf (some (f.1 25)) 3 1 (nR (List.replicate s.names.length 0)))]
 | _=>[]
theorem ZA4:(∀ (u l:List Nat),downs u 0 l=l)∧∀ n,ZdD n 0=List.replicate n 0:=⟨fun _ _=>rfl,fun n=>by simp [ZdD]⟩
theorem ZAG (i:Nat) (l:List Nat):downIn i l []=l:=rfl
theorem ZvJ {ks:List Nat} {j k:Nat} (h:ks[j]?=some k) (i:Nat) (l:List Nat):downIn i l (ks.take (j+1))=(downIn i l (ks.take j)).set k ((downIn i l (ks.take j)).getD k 0 ||| 2 ^ i):=Zhi h l
def ZkR (s:Srt):List (Nat × A):=[(1,.ref 1 0),(2,.ref 2 0),(3,.d (.one (.lit (.bool false)))),(4,.d (.one (.lit (.int .i64 s.names.length))))]
def Znr (s:Srt):List (Nat × Bk):=[(1,.var none (Za3 s)),(2,.var none [.sl [],.sl [],.sl []])]
def ordB (s:Srt) (σ:St):Prop:=Lks (ZkR s) (Znr s) σ
section
variable {s:Srt}
theorem ZjY (hok:ZkB s) (hs:¬ SortsOk s):Con e0 100 [.agg (Za3 s)] [.agg [.sl [],.sl [],.sl []],.one (.lit (.bool false))]:=by
 have cI:=ZhX hok;rw [Zfi hs,Za3] at cI;rw [Za3];refine gI (ts:=[.cell 2 128,.slot 3]) 569543224310601128703 Tryz.func100 ?_;refine fB @e0P ?_;refine fC @e0P (cI) ?_;refine fR @e0P ?_;exact fD @e0P
theorem Zii (hok:ZkB s) (hs:SortsOk s):Con e0 100 [.agg (Za3 s)] [.agg (ZdM s),.one (.lit (.bool true))]:=by
 have cI:=ZhX hok;have hSI:=SortsOk.subsIn hs.subs;have cA:=ZhW hs.n1 hs.n8 hs.m16 hSI;rw [Zey hs] at cI;rw [Za3] at cI ⊢;refine gI (ts:=[.cell 2 128,.slot 3]) 569543224310601128703 Tryz.func100 ?_;refine fB @e0P ?_;refine fC @e0P (cI) ?_;refine fR @e0P ?_;refine fN 4 @e0P ?_;have hmx:((s.names.length:Int)<=(maxApp:Int))=True:=eq_true (by have:=hs.n8;unfold maxApp;omega);refine gGd (ordB s) (PG (ordS s) (ordM s)) ⟨by simp [ZkR,gs],by simp [Znr,gm,Za3]⟩ ⟨?_,?_,?_,?_,?_,?_,?_,?_,?_,trivial⟩ ?_
 rotate_right
 all_goals (intro s' m' hB)
 all_goals (have g1:gs s' 1=.ref 1 0:=hB.1 (1,.ref 1 0) (by simp [ZkR]))
 all_goals (have g4:gs s' 4=.d (.one (.lit (.int .i64 s.names.length))):=hB.1 (4,_) (by simp [ZkR]))
 all_goals (have k1:gm m' 1=some (.var none [.sl (s.names.map ZbA),.sl (s.subs.map ZbN)]):=hB.2 (1,_) (by simp [Znr,Za3]))
 ·intro hP;clear g1 g4 k1;obtain ⟨f,h⟩:=hP 8 (by decide);refine ⟨_,_,h.app hB,?_⟩;generalize hp:f.1 23=p;generalize hq:f.1 25=q;obtain ⟨a3,c3⟩:=p;obtain ⟨a5,c5⟩:=q;simp only [ordS,ordM,ZkR,Znr,Taf,Tah,Za3,hp,hq];clear hp hq h hB hP s' m' f;refine ⟨_,Wk.refl _,?_⟩;have hU:=Zft hSI;have lU:=Za7 (l:=up s);rw [hU.1] at lU;have h8:=hs.n8;have rU:=Za0 (l:=up s);refine fN 5 @e0P ?_;have hn1:=hs.n1;have l00:0 < (nR (List.replicate s.names.length 0)).length:=by rw [Za7,List.length_replicate];omega
  refine pA 23 25 (fun hne=>?_) l00 l00;have hn5:∀ p,(a5=a3∧p)=False:=fun p=>eq_false fun e=>hne e.1.symm;refine fG @lU ?_;have F:=@ZA4;refine gL (ι:=Nat) [6,7,9,30,31,36,37,38,39] [23,25] (fun i=>[(30,A.d (.one (.lit (.int .i64 i))))]) (fun i=>[(23,.buf (some (a3,c3)) 3 1 (nR (downs (up s) i (List.replicate s.names.length 0)))),(25,.buf (some (a5,c5)) 3 1 (nR (ZdD s.names.length i)))]) (fun i=>i<=s.names.length) (fun i=>s.names.length - i) (0) (Taj _) (fun i hi=>?_);clear F
  have hDi:=UpOk.downs hU i (l:=List.replicate s.names.length 0) hi (UpOk.zeros _);have lK:=Za7 (l:=ZdD s.names.length i);rw [Zml hi] at lK;by_cases hlt:i < s.names.length
  ·have q1:(i:Int) < (s.names.length:Int):=om;have hw:=Zaq (k:=i) om;obtain ⟨gi,bi⟩:=hU.get hlt;have r1:=Zbd gi;have p256:2 ^ s.names.length<=256:=Tbe (Tbs om h8) (by decide);have cL:=Zr4 (a:=(up s).getD i 0) om;have hdn:downs (up s) (i+1) (List.replicate s.names.length 0)=downIn i (downs (up s) i (List.replicate s.names.length 0)) (Zd3 ((up s).getD i 0)):=rfl;have hks:=Zmk bi;have lks:=Za7 (l:=Zd3 ((up s).getD i 0))
   have rks:=Za0 (l:=Zd3 ((up s).getD i 0));have hks16:(Zd3 ((up s).getD i 0)).length<=64:=Tbe (ZkF _ _) (by decide);have hsh:=ZiZ (k:=i) om;refine fB (aj4 @q1 @lU @r1 @rU) ?_;refine fC @e0P (cL) ?_;refine fR @lks ?_;generalize Zd3 ((up s).getD i 0)=ks at hdn hks lks rks hks16 ⊢;generalize downs (up s) i (List.replicate s.names.length 0)=l at hdn hDi ⊢;refine fG @lks ?_;have F:=@ZAG;refine gL (ι:=Nat) [9,38,39] [23] (fun j=>[(38,A.d (.one (.lit (.int .i64 j))))]) (fun j=>[(23,.buf (some (a3,c3)) 3 1 (nR (downIn i l (ks.take j))))]) (fun j=>j<=ks.length) (fun j=>ks.length - j) (0) (Taj _) (fun j hj=>?_);clear F
   by_cases hlj:j < ks.length
   ·have q2:(j:Int) < (ks.length:Int):=om;have hwj:=Zaq (k:=j) om;obtain ⟨k,hk⟩:∃ k,ks[j]?=some k:=⟨_,Taa hlj⟩;have hkn:=hks k (Tac hk);have r2:=Zbd hk;have hst:=ZvJ hk i l;have hV:=UpOk.downIn hlt hDi (ks:=ks.take j) fun q hq=>hks q (List.mem_of_mem_take hq);generalize downIn i l (ks.take j)=v at hst hV ⊢;obtain ⟨gk,bk⟩:=hV.get hkn;have r3:=Zbd gk;have l3:=Za7 (l:=v);rw [hV.1] at l3;have l4:=Za0 (l:=v)
    have l5:=Zdf (l:=v) k (v.getD k 0 ||| 2 ^ i);have p2:2 ^ i < 4611686018427387904:=ZfP om;have hor:=Zep (a:=v.getD k 0) (b:=2 ^ i) om p2;have F:=aj14 @q2 @r2 @rks @lks @r3 @l3 @l4 @l5 @hsh @hor @hkn @ZaW @hwj @hst;refine gG ?_;exact ⟨j+1,hlj,gw,gw,om⟩
   obtain rfl:j=ks.length:=by omega
   have q2:¬ ((ks.length:Int) < (ks.length:Int)):=om;rw [Tap,<- hdn];have l6:=Za0 (l:=ZdD s.names.length i);have l7:=Zdf (l:=ZdD s.names.length i) i i;rw [Zvw hlt] at l7;obtain ⟨y,gy⟩:∃ y,(ZdD s.names.length i)[i]?=some y:=⟨_,Taa (by rw [Zml hi];exact hlt)⟩;have r5:=Zbd gy;have F:=aj9 @q2 @hn5 @lK @l6 @l7 @r5 @hlt @hw @ZaW;refine gG ?_;exact ⟨i+1,hlt,gw,gw,om⟩
  obtain rfl:i=s.names.length:=by omega
  have q1:¬ ((s.names.length:Int) < (s.names.length:Int)):=om;rw [Zvx,show downs (up s) s.names.length (List.replicate s.names.length 0)=down s from rfl];clear hDi lK;have hK:=KOk.start s.names.length;refine fG @q1 ?_;have F:=@Zrp;refine gL (ι:=Nat) [11,12,62,63,65,66,67,68] [25] (fun j=>[(62,A.d (.one (.lit (.int .i64 j))))]) (fun j=>[(25,.buf (some (a5,c5)) 3 1 (nR (Zdm s.subs j (List.range s.names.length))))]) (fun j=>j<=s.names.length) (fun j=>s.names.length - j) (0) (Taj _) (fun j hj=>?_);clear F
  have hKj:=KOk.iter hSI j hK;have l0:=Za7 (l:=Zdm s.subs j (List.range s.names.length));rw [hKj.1] at l0;by_cases hlj:j < s.names.length;rotate_left
  ·obtain rfl:j=s.names.length:=by omega
   have q2:¬ ((s.names.length:Int) < (s.names.length:Int)):=om;rw [show Zdm s.subs s.names.length (List.range s.names.length)=ZbW s from rfl];refine fN 25 @q2 ?_;have lD:=Za7 (l:=down s);rw [(ZzS hSI).1] at lD;have lK:=Za7 (l:=ZbW s);rw [(Zhj hSI).1] at lK;refine pD 23 [] [5] ?_ (hr:=by simp only [pz,↓reduceIte,Nat.reduceEqDiff,Nat.reduceAdd,Nat.reduceSub,Nat.reduceMul,Nat.reduceLeDiff,Nat.reduceBEq,Tam,decide_true,decide_false,Int.reduceLE,Int.reduceToNat,Int.reduceLT,Int.reduceEq,eq_self,Nat.reduceShiftRight,Nat.reduceAnd,Nat.reduceBneDiff,lD,hn5,if_false];exact rfl)
   refine pD 25 [] [5] ?_ (hr:=by simp only [pz,↓reduceIte,Nat.reduceEqDiff,Nat.reduceAdd,Nat.reduceSub,Nat.reduceMul,Nat.reduceLeDiff,Nat.reduceBEq,Tam,decide_true,decide_false,Int.reduceLE,Int.reduceToNat,Int.reduceLT,Int.reduceEq,eq_self,Nat.reduceShiftRight,Nat.reduceAnd,Nat.reduceBneDiff,lK,hn5,if_false];exact rfl);exact fD @Zhm
  have q2:(j:Int) < (s.names.length:Int):=om;have hwj:=Zaq (k:=j) om;have hnx:Zdm s.subs (j+1) (List.range s.names.length)=s.subs.foldl kSub (Zdm s.subs j (List.range s.names.length)):=rfl;generalize Zdm s.subs j (List.range s.names.length)=u at hKj hnx l0 ⊢;refine fG (ai @l0 @q2) ?_;have hm16:=hs.m16;have F:=@ZvC;refine gL (ι:=Nat) [11,12,67,68] [25] (fun i=>[(67,A.d (.one (.lit (.int .i64 i))))]) (fun i=>[(25,.buf (some (a5,c5)) 3 1 (nR ((s.subs.take i).foldl kSub u)))]) (fun i=>i<=s.subs.length) (fun i=>s.subs.length - i) (0) (Taj _) (fun i hi=>?_);clear F
  by_cases hli:i < s.subs.length;rotate_left
  ·obtain rfl:i=s.subs.length:=by omega
   have q3:¬ ((s.subs.length:Int) < (s.subs.length:Int)):=om;rw [Tap,<- hnx];have F:=ai @q3 @hwj;refine gG ?_;exact ⟨j+1,hlj,gw,gw,om⟩
  have q3:(i:Int) < (s.subs.length:Int):=om;have hwi:=Zaq (k:=i) om;obtain ⟨p,hp⟩:∃ p,s.subs[i]?=some p:=⟨_,Taa hli⟩;have hps:=hSI p (Tac hp);have hst:=Zmo hp u;have hUi:=KOk.foldl hKj (hSI.take i);generalize (s.subs.take i).foldl kSub u=v at hUi hst ⊢;obtain ⟨g1,b1⟩:=hUi.get (i:=p.1.toNat) om;obtain ⟨g2,b2⟩:=hUi.get (i:=p.2.toNat) om;have l1:=Zbd g1;have l2:=Zbd g2;have l3:=Za7 (l:=v);rw [hUi.1] at l3
  have l4:=Za0 (l:=v);have hmin:(if (v.getD p.2.toNat 0:Int) < (v.getD p.1.toNat 0:Int) then (v.getD p.2.toNat 0:Int) else (v.getD p.1.toNat 0:Int))=((min (v.getD p.1.toNat 0) (v.getD p.2.toNat 0):Nat):Int):=by
   split <;> omega
  generalize hmn:min (v.getD p.1.toNat 0) (v.getD p.2.toNat 0)=mn at hmin hst;have l5:=Zdf (l:=v) p.1.toNat mn;have l6:=Zdf (l:=v.set p.1.toNat mn) p.2.toNat mn;have l7:=Za7 (l:=v.set p.1.toNat mn);rw [Taz,hUi.1] at l7;have l8:=Za0 (l:=v.set p.1.toNat mn);obtain ⟨x9,g9⟩:∃ x,(v.set p.1.toNat mn)[p.2.toNat]?=some x:=⟨_,Taa (by rw [Taz,hUi.1];omega)⟩;have l9:=Zbd g9;have i1:0<=p.1:=hps.1;have i2:0<=p.2:=hps.2.2.1
  have i3:p.1.toNat < s.names.length:=om;have i4:p.2.toNat < s.names.length:=om;have hst:(s.subs.take (i+1)).foldl kSub u=(v.set p.1.toNat mn).set p.2.toNat mn:=by rw [hst];unfold kSub;rw [hmn]
  have F:=aj16 @q3 @hp @Zb5 @hn5 @l1 @l2 @l3 @l4 @l5 @l6 @l7 @l8 @l9 @i1 @i2 (aj5 @i3 @i4 @hmin @hwi @hst);refine gG ?_;exact ⟨i+1,hli,gw,gw,om⟩
 ·intro _;refine (have F:=ai g1 k1;gO3 ?_);exact ⟨hB.slot rfl,⟨(fun _=>(none,0),.sl [],.sl [],.sl []),by simp [ordS,gs,Za3],by simp [ordM]⟩,PG.slot (by intro j h1 h2 x;rcases j with _ | _ | _ | _ | _ | _ | _ | _ | _ | j <;> first | rfl | exact absurd rfl h1 | exact absurd (by decide) h2)⟩
 ·intro hP;obtain ⟨f,h0,_⟩:=hP 0 (by decide);have g20:gs s' 20=.d (.agg (Za3 s)):=h0 (_,_) (by simp [ordS]);refine (have F:=g20;gC cA ?_);refine ZbG ?_;exact ⟨hB.slot rfl,⟨(fun _=>(none,0),.sl [],.sl [],.sl []),by simp [ordS,gs],by simp [ordM]⟩,PG.slot (by intro j h1 h2 x;rcases j with _ | _ | _ | _ | _ | _ | _ | _ | _ | j <;> first | rfl | exact absurd rfl h1 | exact absurd (by decide) h2)⟩
 ·intro _;refine (have F:=g4;gO3 ?_);exact ⟨hB.slot rfl,⟨(fun _=>(none,0),.sl [],.sl [],.sl []),by simp [ordS,gs],by simp [ordM]⟩,PG.slot (by intro j h1 h2 x;rcases j with _ | _ | _ | _ | _ | _ | _ | _ | _ | j <;> first | rfl | exact absurd rfl h1 | exact absurd (by decide) h2)⟩
 ·intro hP;obtain ⟨f,h0,_⟩:=hP 2 (by decide);have g22:gs s' 22=.d (.one (.lit (.int .i64 s.names.length))):=h0 (_,_) (by simp [ordS]);refine (have F:=aj4 g22 hmx @Tbw @ZlM;gP 1 ?_);refine gS 23 fun a cap=>?_;refine ZbG ?_;exact ⟨hB.pin rfl,⟨(fun _=>(a,cap),.sl [],.sl [],.sl []),by simp [ordS,gs],by simp [ordM,gm,nR_0]⟩,PG.pin (by intro j h1 h2 x;rcases j with _ | _ | _ | _ | _ | _ | _ | _ | _ | j <;> first | rfl | exact absurd rfl h1 | exact absurd (by decide) h2)⟩
 ·intro _;refine (have F:=g4;gO3 ?_);exact ⟨hB.slot rfl,⟨(fun _=>(none,0),.sl [],.sl [],.sl []),by simp [ordS,gs],by simp [ordM]⟩,PG.slot (by intro j h1 h2 x;rcases j with _ | _ | _ | _ | _ | _ | _ | _ | _ | j <;> first | rfl | exact absurd rfl h1 | exact absurd (by decide) h2)⟩
 ·intro hP;obtain ⟨f,h0,_⟩:=hP 4 (by decide);have g24:gs s' 24=.d (.one (.lit (.int .i64 s.names.length))):=h0 (_,_) (by simp [ordS]);refine (have F:=aj4 g24 hmx @Tbw @ZlM;gP 1 ?_);refine gS 25 fun a cap=>?_;refine ZbG ?_;exact ⟨hB.pin rfl,⟨(fun _=>(a,cap),.sl [],.sl [],.sl []),by simp [ordS,gs],by simp [ordM,gm,nR_0]⟩,PG.pin (by intro j h1 h2 x;rcases j with _ | _ | _ | _ | _ | _ | _ | _ | _ | j <;> first | rfl | exact absurd rfl h1 | exact absurd (by decide) h2)⟩
 ·intro hP;obtain ⟨f1,h1,_⟩:=hP 1 (by decide);obtain ⟨f3,h3,h3'⟩:=hP 3 (by decide);obtain ⟨f5,h5,h5'⟩:=hP 5 (by decide);have g21:gs s' 21=.d (.one (.sl (nR (up s)))):=h1 (_,_) (by simp [ordS]);have g23:gs s' 23=.d (.one (.lit (.slice (f3.1 23).1 s.names.length (f3.1 23).2))):=h3 (_,_) (by simp [ordS]);have g25:gs s' 25=.d (.one (.lit (.slice (f5.1 25).1 s.names.length (f5.1 25).2))):=h5 (_,_) (by simp [ordS])
  have k23:=h3' (23,_) (by simp [ordM];rfl);have k25:=h5' (25,_) (by simp [ordM];rfl);refine (have F:=aj3 g21 g23 g25;gO3 ?_);exact ⟨hB.slot rfl,⟨(fun k=>if k=23 then f3.1 23 else f5.1 25,.sl [],.sl [],.sl []),by simp [ordS,gs],by simp [ordM];exact ⟨k23,k25⟩⟩,PG.slot (by intro j h1 h2 x;rcases j with _ | _ | _ | _ | _ | _ | _ | _ | _ | j <;> first | rfl | exact absurd rfl h1 | exact absurd (by decide) h2)⟩
 ·intro _;refine (have F:=g4;gO3 ?_);exact ⟨hB.born rfl,⟨(fun _=>(none,0),.sl [],.sl [],.sl []),by simp [ordS,gs],by simp [ordM,gm]⟩,PG.born (by intro j h1 h2 x;rcases j with _ | _ | _ | _ | _ | _ | _ | _ | _ | j <;> first | rfl | exact absurd rfl h1 | exact absurd (by decide) h2)⟩
 ·intro hP;obtain ⟨f6,h6,h6'⟩:=hP 6 (by decide);obtain ⟨f7,h7,h7'⟩:=hP 7 (by decide);have g26:gs s' 26=.d (.agg [.sl (nR (up s)),.lit (.slice (f6.1 23).1 s.names.length (f6.1 23).2),.lit (.slice (f6.1 25).1 s.names.length (f6.1 25).2)]):=h6 (_,_) (by simp [ordS]);have g5:gs s' 5=.ref 5 0:=h7 (_,_) (by simp [ordS]);have k5:gm m' 5=some (.var none [f7.2.1,f7.2.2.1,f7.2.2.2]):=h7' (_,_) (by simp [ordM])
  have k23:=h6' (23,_) (by simp [ordM];rfl);have k25:=h6' (25,_) (by simp [ordM];rfl);refine (have F:=aj3 g26 g5 k5;gO3 ?_);refine ⟨hB.own rfl,⟨f6,by simp [ordS,g5],by simp [ordM,gm,ZaA];exact ⟨k23,k25⟩⟩,?_⟩;intro j q1 q2 ⟨x,q⟩;rcases j with _ | _ | _ | _ | _ | _ | _ | _ | _ | j
  all_goals first
   | exact ⟨x,q.own rfl⟩
   | exact absurd rfl q1
   | exact ⟨(fun _=>(none,0),.sl (nR (up s)),.lit (.slice (f6.1 23).1 s.names.length (f6.1 23).2),.lit (.slice (f6.1 25).1 s.names.length (f6.1 25).2)),by simp [ordS,g5],by simp [ordM,gm]⟩
end
section
variable {g:Sgn}
theorem Zpz {k:Nat} {o:Opr} (h:g.ops[k]?=some o):Zda (Zbr (g.ops.take k))++[(o.name,.bool true)]=Zda (Zbr (g.ops.take (k+1))):=by
 rw [Zig h,Zda,Zda,Tbv];rfl
theorem ZpA {l:List Opr} {i k m:Nat} (h:i=k+m) {s:ByteArray} (hs:Za5 (Zbr (l.take k)) s=true):Za5 (Zbr (l.take i)) s=true:=by
 subst h;rw [List.take_add,Zbr,Tbv];unfold Za5 at hs ⊢;rw [List.any_append];rw [Zbr] at hs;rw [hs,Bool.true_or]
theorem ZxA (l:List Opr):Zda (Zbr (l.take 0))=[]∧Zda (Zbr [])=[]:=⟨rfl,rfl⟩
theorem ZgC (hg:Zbv g):Con e0 70 [.agg (Zaf g)] [.one (.lit (.bool (Zbq g)))]:=by
 have hno:¬ SgnOk g->Zbq g=false:=ZeW;rw [Zaf];refine gI 9358620764179268287 Tryz.func70 ?_;by_cases hs:SortsOk g.sorts;rotate_left
 ·have cO:=ZjY hg.1 hs;have hf:=hno fun h=>hs h.sorts;rw [Za3] at cO;refine fB @e0P ?_;refine fC @e0P (cO) ?_;refine fR @e0P ?_;exact fT @hf
 have cO:=Zii hg.1 hs;rw [Za3] at cO;refine fB @e0P ?_;refine fC @e0P (cO) ?_;refine fR @Zhm ?_;by_cases h14:g.ops.length<=14;rotate_left
 ·have z1:=lT 14 g.ops.length;have hf:=hno fun h=>h14 h.len;exact fT (ai @z1 @hf)
 have z1:=lF 14 g.ops.length;refine fN 4 @z1 ?_;refine gB ?_;refine gMk fun b=>?_;refine fR @e0P ?_;refine fG @e0P ?_;have F:=((ZxA g.ops));refine gL (ι:=Nat) [2,7,28,29,47] [24] (fun i=>[(28,A.d (.one (.lit (.int .i64 i))))]) (fun i=>[(24,mapB b (Zda (Zbr (g.ops.take i))))]) (fun i=>i<=g.ops.length∧(∀ (j:Nat) (o:Opr),j < i->g.ops[j]?=some o->Za6 o.name=true∧Za5 (Zbr (g.ops.take j)) o.name=false)∧(∀ o∈g.ops.take i,DeclsOk g.sorts o)) (fun i=>g.ops.length - i) (0) (⟨Taj _,fun j o h=>absurd h om,fun o h=>by simp at h⟩) (fun i hi=>?_);clear F
 obtain ⟨hil,hnm,hdc⟩:=hi;by_cases hlt:i < g.ops.length
 ·have q1:(i:Int) < (g.ops.length:Int):=om;obtain ⟨o,ho⟩:∃ o,g.ops[i]?=some o:=⟨_,Taa hlt⟩;have hom:=Tac ho;have hw:=Zaq (k:=i) om;have hfs:=ZkK (Zbr (g.ops.take i)) o.name;have hbad:¬ (Za6 o.name=true∧Za5 (Zbr (g.ops.take i)) o.name=false)->Zbq g=false:=fun h=>hno fun hs=>h (hs.names i o ho);have hbad2:Zb7 g.sorts o=false->Zbq g=false:=fun h=>hno fun hs=>by rw [Zez (hs.decls o hom)] at h;cases h
  have cN:=ZfR (hg.2 o hom).1;have cD:=Zm0 hs o;rw [ZaT,ZdM] at cD;refine fN 8 (aj3 @q1 @ho @Zae) ?_;refine gB ?_;have F:=@e0P;refine gP 3 ?_;clear F
  cases hh:Za5 (Zbr (g.ops.take i)) o.name with
  | true =>
   rw [hh] at hfs hbad;have hf:=hbad fun h=>by cases h.2
   refine (have F:=e0P;gLk 24 ZfE ZgV Zi1 (v:=.bool true) (by rw [hfs];rfl) ?_);refine fR @e0P ?_;exact fT @hf
  | false =>
  rw [hh] at hfs hbad;refine (have F:=e0P;gLk 24 ZfE ZgV Zi1 (v:=.bool false) (by rw [hfs];rfl) ?_);refine fC @e0P (cN) ?_
  cases hn:Za6 o.name with
  | false =>
   have hf:=hbad fun h=>by rw [hn] at h;cases h.1
   refine fR @e0P ?_;exact fT @hf
  | true =>
  refine fC @Zhm (cD) ?_
  cases hd:Zb7 g.sorts o with
  | false =>
   have hf:=hbad2 hd;refine fR @e0P ?_;exact fT @hf
  | true =>
  have hq:i+1<=g.ops.length∧(∀ (j:Nat) (o:Opr),j < i+1->g.ops[j]?=some o->Za6 o.name=true∧Za5 (Zbr (g.ops.take j)) o.name=false)∧(∀ o∈g.ops.take (i+1),DeclsOk g.sorts o):=⟨hlt,fun j o' hj ho'=>by
   by_cases e:j=i
   ·subst e;rw [ho] at ho';injection ho' with ho'
    subst ho';exact ⟨hn,hh⟩
   ·exact hnm j o' om ho',fun o' ho'=>by
   rw [Zcj ho] at ho';rcases Tbh.1 ho' with h | h
   ·exact hdc o' h
   ·rw [Tbj.1 h];exact Zjq.1 hd⟩
  have hsn:=Zpz ho;refine fR @e0P ?_;refine fN 10 @e0P ?_;refine gB ?_;have F:=@e0P;refine gP 3 ?_;clear F;refine (have F:=e0P;gUp 24 ZfE ZgV (by rw [hfs];rfl) ?_);rw [hsn];refine fR @e0P ?_;have F:=@hw;refine gG ?_;exact ⟨i+1,hq,gw,gw,om⟩
 obtain rfl:i=g.ops.length:=by omega
 have q1:¬ ((g.ops.length:Int) < (g.ops.length:Int)):=om;rw [Tap] at hdc;have hnames:∀ (i:Nat) (o:Opr),g.ops[i]?=some o->Za6 o.name=true∧Za5 (Zbr (g.ops.take i)) o.name=false:=fun i o ho=>hnm i o (Tad.1 ho).1 ho;refine fG @q1 ?_;have F:=@e0P;refine gL (ι:=Nat) [2,9,55,56,63] [] (fun k=>[(55,A.d (.one (.lit (.int .i64 k))))]) (fun k=>[]) (fun k=>k<=g.ops.length∧∀ o∈g.ops.take k,AxOk g o) (fun k=>g.ops.length - k) (0) (⟨Taj _,fun o h=>by simp at h⟩) (fun k hk=>?_);clear F
 obtain ⟨hkl,hax⟩:=hk;by_cases hlk:k < g.ops.length;rotate_left
 ·obtain rfl:k=g.ops.length:=by omega
  rw [Tap] at hax;have q2:¬ ((g.ops.length:Int) < (g.ops.length:Int)):=om;have ht:=Zb4 ⟨hs,h14,hnames,hdc,hax⟩;exact fT (ai @q2 @ht)
 have q2:(k:Int) < (g.ops.length:Int):=om;obtain ⟨o,ho⟩:∃ o,g.ops[k]?=some o:=⟨_,Taa hlk⟩;have hom:=Tac ho;have hw:=Zaq (k:=k) om;have cA:=ZlN hs hdc hom h14;rw [ZaT,ZdM,Zaf] at cA;refine fB (aj3 @q2 @ho @Zae) ?_;refine fC @Zhm (cA) ?_
 cases ha:axOk g o with
 | false =>
  have hf:=hno fun h=>by rw [Zdi (h.axs o hom)] at ha;cases ha
  refine fR @e0P ?_;exact fT @hf
 | true =>
 have hq:k+1<=g.ops.length∧∀ o∈g.ops.take (k+1),AxOk g o:=⟨hlk,fun o' ho'=>by
  rw [Zcj ho] at ho';rcases Tbh.1 ho' with h | h
  ·exact hax o' h
  ·rw [Tbj.1 h];exact Zn3.1 ha⟩
 refine fR @e0P ?_;have F:=@hw;refine gG ?_;exact ⟨k+1,hq,gw,gw,om⟩
theorem Zd4 (hg:Zbv g):Con e0 42 [.agg (Zaf g)] [.one (.lit (.bool (Zbq g)))]:=by
 have hno:¬ SgnOk g->Zbq g=false:=ZeW;have cS:=ZmZ hg.1;rw [Za3] at cS;rw [Zaf];refine gI 599807422667317870655 Tryz.func42 ?_;refine fB @e0P ?_;refine fC @e0P (cS) ?_
 cases hss:ZbQ g.sorts with
 | false =>
  have hf:=hno fun h=>by rw [Zey h.sorts] at hss;cases hss
  refine fR @e0P ?_;exact fT @hf
 | true =>
 have hs:=Zpu.1 hss;by_cases h14:g.ops.length<=14;rotate_left
 ·have z1:=lT 14 g.ops.length;have hf:=hno fun h=>h14 h.len;refine fR @z1 ?_;exact fT @hf
 have z1:=lF 14 g.ops.length;refine fR @z1 ?_;refine fG @e0P ?_;have F:=@e0P;refine gL (ι:=Nat) [2,3,4,20,40,43,58] [] (fun i=>[(3,A.d (.one (.lit (.int .i64 i))))]) (fun i=>[]) (fun i=>i<=g.ops.length∧(∀ (j:Nat) (o:Opr),j < i->g.ops[j]?=some o->Za6 o.name=true∧Za5 (Zbr (g.ops.take j)) o.name=false)∧(∀ o∈g.ops.take i,DeclsOk g.sorts o)) (fun i=>g.ops.length - i) (0) (⟨Taj _,fun j o h=>absurd h om,fun o h=>by simp at h⟩) (fun i hi=>?_);clear F
 obtain ⟨hil,hnm,hdc⟩:=hi;by_cases hlt:i < g.ops.length
 ·have q1:(i:Int) < (g.ops.length:Int):=om;obtain ⟨o,ho⟩:∃ o,g.ops[i]?=some o:=⟨_,Taa hlt⟩;have hom:=Tac ho;have hw:=Zaq (k:=i) om;have hbad:¬ (Za6 o.name=true∧Za5 (Zbr (g.ops.take i)) o.name=false)->Zbq g=false:=fun h=>hno fun hs=>h (hs.names i o ho);have hbad2:Zb7 g.sorts o=false->Zbq g=false:=fun h=>hno fun hs=>by rw [Zez (hs.decls o hom)] at h;cases h
  have cN:=ZfS (hg.2 o hom).1;have cD:=Zpy (g:=g) hs o;rw [ZaT,Zaf] at cD;refine fB @q1 ?_;refine fC (ai @ho @Zae) (cN) ?_
  cases hn:Za6 o.name with
  | false =>
   have hf:=hbad fun h=>by rw [hn] at h;cases h.1
   refine fR @e0P ?_;exact fT @hf
  | true =>
  refine fC (ai @ho @Zae) (cD) ?_
  cases hd:Zb7 g.sorts o with
  | false =>
   have hf:=hbad2 hd;refine fR @e0P ?_;exact fT @hf
  | true =>
  refine fR @e0P ?_;refine fG @e0P ?_;have F:=@e0P;refine gL (ι:=Nat) [2,4,43,58] [] (fun k=>[(4,A.d (.one (.lit (.int .i64 k))))]) (fun k=>[]) (fun k=>k<=i∧Za5 (Zbr (g.ops.take k)) o.name=false) (fun k=>i - k) (0) (⟨Taj _,rfl⟩) (fun k hk=>?_);clear F;obtain ⟨hkl,hseen⟩:=hk;by_cases hlk:k < i
  ·have q2:(k:Int) < (i:Int):=om;obtain ⟨p,hp⟩:∃ o,g.ops[k]?=some o:=⟨_,Taa om⟩;have hw2:=Zaq (k:=k) om;have hsn:=Zpw (Zbr (g.ops.take k)) p.name o.name;rw [hseen,Bool.false_or,Zrk,<- Zig hp] at hsn
   cases hb:(p.name.toList==o.name.toList) with
   | true =>
    rw [hb] at hsn;have hbp:(p.name.toList==o.name.toList)=true:=hb;have hf:=hbad fun h=>by
     obtain ⟨m,hm⟩:∃ m,i=k+1+m:=⟨i - (k+1),om⟩;have h2:=h.2;rw [ZpA hm hsn] at h2
     cases h2
    exact fT (aj6 @q2 @ho @hp @Zae @hb @hf)
   | false =>
    rw [hb] at hsn;have F:=aj6 @q2 @ho @hp @Zae @hb @hw2;refine gG ?_;exact ⟨k+1,⟨hlk,hsn⟩,gw,gw,om⟩
  obtain rfl:k=i:=by omega
  have q2:=lF k k;have hq:k+1<=g.ops.length∧(∀ (j:Nat) (o:Opr),j < k+1->g.ops[j]?=some o->Za6 o.name=true∧Za5 (Zbr (g.ops.take j)) o.name=false)∧(∀ o∈g.ops.take (k+1),DeclsOk g.sorts o):=⟨hlt,fun j o' hj ho'=>by
   by_cases e:j=k
   ·subst e;rw [ho] at ho';injection ho' with ho'
    subst ho';exact ⟨hn,hseen⟩
   ·exact hnm j o' om ho',fun o' ho'=>by
   rw [Zcj ho] at ho';rcases Tbh.1 ho' with h | h
   ·exact hdc o' h
   ·rw [Tbj.1 h];exact Zjq.1 hd⟩
  have F:=ai @q2 @hw;refine gG ?_;exact ⟨k+1,hq,gw,gw,om⟩
 obtain rfl:i=g.ops.length:=by omega
 have q1:¬ ((g.ops.length:Int) < (g.ops.length:Int)):=om;rw [Tap] at hdc;have hnames:∀ (i:Nat) (o:Opr),g.ops[i]?=some o->Za6 o.name=true∧Za5 (Zbr (g.ops.take i)) o.name=false:=fun i o ho=>hnm i o (Tad.1 ho).1 ho;refine fG @q1 ?_;have F:=@e0P;refine gL (ι:=Nat) [2,5,63,69] [] (fun k=>[(5,A.d (.one (.lit (.int .i64 k))))]) (fun k=>[]) (fun k=>k<=g.ops.length∧∀ o∈g.ops.take k,AxOk g o) (fun k=>g.ops.length - k) (0) (⟨Taj _,fun o h=>by simp at h⟩) (fun k hk=>?_);clear F
 obtain ⟨hkl,hax⟩:=hk;by_cases hlk:k < g.ops.length;rotate_left
 ·obtain rfl:k=g.ops.length:=by omega
  rw [Tap] at hax;have q2:¬ ((g.ops.length:Int) < (g.ops.length:Int)):=om;have ht:=Zb4 ⟨hs,h14,hnames,hdc,hax⟩;exact fT (ai @q2 @ht)
 have q2:(k:Int) < (g.ops.length:Int):=om;obtain ⟨o,ho⟩:∃ o,g.ops[k]?=some o:=⟨_,Taa hlk⟩;have hom:=Tac ho;have hw:=Zaq (k:=k) om;have cA:=Zn9 hs hdc ho h14;rw [Zaf] at cA;refine fB @q2 ?_;refine fC @e0P (cA) ?_
 cases ha:axOk g o with
 | false =>
  have hf:=hno fun h=>by rw [Zdi (h.axs o hom)] at ha;cases ha
  refine fR @e0P ?_;exact fT @hf
 | true =>
 have hq:k+1<=g.ops.length∧∀ o∈g.ops.take (k+1),AxOk g o:=⟨hlk,fun o' ho'=>by
  rw [Zcj ho] at ho';rcases Tbh.1 ho' with h | h
  ·exact hax o' h
  ·rw [Tbj.1 h];exact Zn3.1 ha⟩
 refine fR @e0P ?_;have F:=@hw;refine gG ?_;exact ⟨k+1,hq,gw,gw,om⟩
end
theorem ZdW (s:ByteArray):(s.toList==ByteArray.toList { data:=#[] })=decide (s=ByteArray.empty):=by
 rw [Bool.eq_iff_iff,beq_iff_eq,decide_eq_true_iff,ByteArray.toList_eq,ByteArray.toList_eq];constructor
 ·intro h
  cases s with
  | mk d =>
   have:d=#[]:=by apply Array.toList_inj.1;exact h
   rw [this];rfl
 ·rintro rfl;rfl
def encX (g:Sgn) (mc:C):List C:=[.sl ((ZbT (up g.sorts)).map ZaG),.sl ((ZbT (down g.sorts)).map ZaG),.sl ((ZbT (ZbW g.sorts)).map ZaG),.sl (g.sorts.names.map ZbA),.sl (g.sorts.subs.map ZbN),.sl (g.ops.map ZaT),mc]
theorem ZcY:∀ (g:Sgn) (mc:C),encX g mc=[.sl ((ZbT (up g.sorts)).map ZaG),.sl ((ZbT (down g.sorts)).map ZaG),.sl ((ZbT (ZbW g.sorts)).map ZaG),.sl (g.sorts.names.map ZbA),.sl (g.sorts.subs.map ZbN),.sl (g.ops.map ZaT),mc]:=fun _ _=>rfl
theorem ZvK {s:Srt} (h:SortsOk s):(up s).length=s.names.length:=(Zft (SortsOk.subsIn h.subs)).1
theorem Zfa {s:Srt} (h:SortsOk s) {k:Int} (h0:0<=k) (h1:k < s.names.length):(ZbT (ZbW s))[k.toNat]?=some ((kd s k:Nat):Int):=by
 have hk:=Zhj (SortsOk.subsIn h.subs);have hl:k.toNat < (ZbW s).length:=by rw [hk.1];omega
 unfold ZbT kd;rw [Tba,Taa hl];simp [List.getD,Taa hl]
def ZcQ (g:Sgn) (t:Tm):Prop:=t.op=-1∧Za6 t.name=true∧0<=t.sort∧t.sort < g.sorts.names.length∧t.args=[]
open Classical in
noncomputable def Zhn (g:Sgn) (t:Tm):Bool:=decide (ZcQ g t)
structure AppOk (g:Sgn) (t:Tm) (o:Opr) (d:Dcl):Prop where
 lo:0<=t.op
 at':g.ops[t.op.toNat]?=some o
 fst:o.decls[0]?=some d
 nm:t.name=ByteArray.empty
 so:t.sort=0
 asc:o.assoc=true->2<=t.args.length∧t.args.length<=7
 nas:o.assoc=false->t.args.length=d.args.length
def Zcm (g:Sgn) (t:Tm):Prop:=ZcQ g t∨∃ o d,AppOk g t o d
def Zr8 (g:Sgn) (op:Int):Int:=((g.ops[op.toNat]?.bind (·.decls[0]?)).map (·.res)).getD 0
def Zbt (g:Sgn) (t:Tm):Int:=if t.op=-1 then kd g.sorts t.sort else kd g.sorts (Zr8 g t.op)
def argAt (o:Opr) (i:Nat):Nat:=if o.assoc=true then 0 else i
theorem ZfF:∀ (o:Opr) (i:Nat),argAt o i=if o.assoc=true then 0 else i:=fun _ _=>rfl
structure ArgOk (g:Sgn) (op:Int) (o:Opr) (d:Dcl) (args:List Tm) (i:Nat) (a:Tm):Prop where
 kind:∀ k,d.args[argAt o i]?=some k->Zbt g a=kd g.sorts k
 nest:o.assoc=true->a.op≠op
 unit:o.unit≠0->a.op≠o.unit - 1
 ord:o.comm=true->∀ (j:Nat) p,i=j+1->args[j]?=some p->Zah p a<=0
def Zi3 (g:Sgn) (op:Int) (args:List Tm):Prop:=∀ o d,g.ops[op.toNat]?=some o->o.decls[0]?=some d->∀ (i:Nat) a,args[i]?=some a->ArgOk g op o d args i a
mutual
def Zaw (g:Sgn):Tm->Prop
 | .mk op nm so args=>Zcm g (.mk op nm so args)∧Zdz g args∧(op=-1∨Zi3 g op args)
def Zdz (g:Sgn):List Tm->Prop
 | []=>True
 | t::ts=>Zaw g t∧Zdz g ts
end
theorem ZgD {g:Sgn} {ts:List Tm}:Zdz g ts ↔ ∀ a∈ts,Zaw g a:=by
 induction ts with
 | nil=>simp [Zdz]
 | cons t ts ih=>simp [Zdz,ih]
theorem ZaK {g:Sgn} {t:Tm}:Zaw g t ↔ Zcm g t∧(∀ a∈t.args,Zaw g a)∧(t.op=-1∨Zi3 g t.op t.args):=by
 cases t
 simp only [Zaw,ZgD,Tm.args,Tm.op]
theorem Zaw.node {g:Sgn} {t:Tm} (h:Zaw g t):Zcm g t:=(ZaK.1 h).1
open Classical in
noncomputable def ZbO (g:Sgn) (t:Tm):Bool:=decide (Zaw g t)
theorem Zd5 {g:Sgn} {t:Tm} (h:Zaw g t):ZbO g t=true:=by simp [ZbO,h]
theorem Zij {g:Sgn} {t:Tm} (h:¬ Zaw g t):ZbO g t=false:=by simp [ZbO,h]
theorem ZkS {g:Sgn} {t:Tm}:ZbO g t=true ↔ Zaw g t:=by simp [ZbO]
theorem SgnOk.first {g:Sgn} (h:SgnOk g) {i:Nat} {o:Opr} (ho:g.ops[i]?=some o):∃ d,o.decls[0]?=some d∧(0:Int)<=d.res∧d.res < (g.sorts.names.length:Int)∧∀ k:Int,k∈d.args->0<=k∧k < (g.sorts.names.length:Int):=by
 have hm:=Tac ho;obtain ⟨d,hd,hD⟩:=(h.decls o hm).first;exact ⟨d,hd,hD.res.1,hD.res.2,hD.args⟩
theorem Zho {g:Sgn} {op:Int} {o:Opr} {d:Dcl} (ho:g.ops[op.toNat]?=some o) (hd:o.decls[0]?=some d):Zr8 g op=d.res:=by simp [Zr8,ho,hd]
theorem AppOk.op {g:Sgn} {t:Tm} {o:Opr} {d:Dcl} (h:AppOk g t o d):t.op≠-1:=by have:=h.lo;omega
section
variable {g:Sgn} {mc:C}
theorem ZzX (hg:SgnOk g) (k:Int):Con e0 129 [.agg [.sl ((ZbT (up g.sorts)).map ZaG),.sl ((ZbT (down g.sorts)).map ZaG),.sl ((ZbT (ZbW g.sorts)).map ZaG)],.one (.lit (.int .i64 k))] [.one (.lit (.bool (decide (0<=k∧k < g.sorts.names.length))))]:=by
 have hl:=ZvK hg.sorts;refine gI 23 Tryz.func129 ?_;by_cases h0:0<=k
 ·have e:decide (0<=k∧k < (g.sorts.names.length:Int))=decide (k < (g.sorts.names.length:Int)):=by simp [h0]
  rw [e];exact fT (aj3 @h0 @Zmj @hl)
 ·have e:decide (0<=k∧k < (g.sorts.names.length:Int))=false:=by simp [h0]
  rw [e];exact fT @h0
theorem Zr9 (hg:SgnOk g) {t:Tm} (ht:Zcm g t):Con e0 119 [.one (.ptr (encX g mc)),.agg (Zaa t)] [.one (.lit (.int .i64 (Zbt g t)))]:=by
 refine gI 155 Tryz.func119 ?_;rcases ht with ⟨h1,h2,h3,h4,h5⟩ | ⟨o,d,h⟩
 ·have hn:(-1:Int) < 0:=om;have hk:=Zfa hg.sorts h3 h4;have e:Zbt g t=kd g.sorts t.sort:=by simp [Zbt,h1]
  exact fT (aj8 @tmz @h1 @hn @ZcY @h3 @hk @Zai @e)
 ·have hn:¬ (t.op < 0):=by have:=h.lo;omega
  obtain ⟨d',hd',hr0,hr1,_⟩:=hg.first h.at';rw [h.fst] at hd';injection hd' with hd'
  subst hd';have hk:=Zfa hg.sorts hr0 hr1;have e:Zbt g t=kd g.sorts d.res:=by simp [Zbt,h.op,Zho h.at' h.fst]
  have hlo:=h.lo;have hat:=h.at';have hfst:=h.fst;exact fT (aj12 @tmz @hn @ZcY @hlo @hat @Zae @hfst @ZaJ @hr0 @hk @Zai @e)
theorem ZpB (hg:SgnOk g) {op:Int} {i:Nat} {o:Opr} {d:Dcl} {k:Int} (h0:0<=op) (ho:g.ops[op.toNat]?=some o) (hd:o.decls[0]?=some d) (hk:d.args[argAt o i]?=some k):Con e0 120 [.one (.ptr (encX g mc)),.one (.lit (.int .i64 op)),.one (.lit (.int .i64 i))] [.one (.lit (.int .i64 (kd g.sorts k)))]:=by
 obtain ⟨d',hd',_,_,hk0⟩:=hg.first ho;rw [hd] at hd';injection hd' with hd'
 subst hd';obtain ⟨k0,k1⟩:=hk0 k (Tac hk);have hkd:=Zfa hg.sorts k0 k1;refine gI 131271 Tryz.func120 ?_;unfold argAt at hk
 cases ha:o.assoc with
 | true =>
  rw [ha] at hk;simp only [↓reduceIte] at hk;exact fT (aj11 @ZcY @h0 @ho @Zae @ha @hd @ZaJ @hk @k0 @hkd @Zai)
 | false =>
  rw [ha] at hk;simp only [Tam,↓reduceIte] at hk;exact fT (aj11 @ZcY @h0 @ho @Zae @ha @hd @ZaJ @hk @k0 @hkd @Zai)
theorem Zsa (hg:SgnOk g) {op:Int} {o:Opr} (h0:0<=op) (ho:g.ops[op.toNat]?=some o) (t:Tm):Con e0 121 [.one (.ptr (encX g mc)),.one (.lit (.int .i64 op)),.agg (Zaa t)] [.one (.lit (.bool (decide (o.unit≠0∧t.op=o.unit - 1))))]:=by
 have hax:=hg.axs o (Tac ho);have hlo:=hax.lo;have hhi:=hax.hi;have hln:=hg.len;have hw:IntKind.i64.wrap (o.unit - 1)=o.unit - 1:=Za2 rfl om om;refine gI 103 Tryz.func121 ?_;by_cases hu:o.unit=0
 ·have e:decide (o.unit≠0∧t.op=o.unit - 1)=false:=by simp [hu]
  rw [e];exact fT (aj6 @ZcY @tmz @h0 @ho @Zae @hu)
 ·have e:decide (o.unit≠0∧t.op=o.unit - 1)=decide (t.op=o.unit - 1):=by simp [hu]
  rw [e];exact fT (aj7 @ZcY @tmz @h0 @ho @Zae @hu @hw)
theorem ZlP (hg:SgnOk g) {t:Tm} (hs:t.name.size<=maxLen):Con e0 118 [.one (.ptr (encX g mc)),.agg (Zaa t)] [.one (.lit (.bool (Zhn g t)))]:=by
 have hno:¬ ZcQ g t->Zhn g t=false:=fun h=>by simp [Zhn,h]
 refine gI 27 Tryz.func118 ?_;refine fG @tmz ?_;by_cases h1:t.op=-1;rotate_left
 ·have hf:=hno fun h=>h1 h.1;exact fT (aj3 @tmz @h1 @hf)
 refine gB ?_;refine fC (ai @tmz @h1) (ZfR hs) ?_;by_cases h2:Za6 t.name=true;rotate_left
 ·have hf:=hno fun h=>h2 h.2.1;have h2':Za6 t.name=false:=by simpa using h2
  refine fR (ai @tmz @h2') ?_;exact fT (ai @tmz @hf)
 refine fC (aj3 @tmz @h2 @ZcY) (ZzX hg t.sort) ?_;by_cases h3:0<=t.sort∧t.sort < g.sorts.names.length;rotate_left
 ·have hf:=hno fun h=>h3 ⟨h.2.2.1,h.2.2.2.1⟩;have h3':decide (0<=t.sort∧t.sort < (g.sorts.names.length:Int))=false:=by simp only [decide_eq_false_iff_not];exact h3
  refine fR (ai @tmz @h3') ?_;exact fT (ai @tmz @hf)
 have h3':decide (0<=t.sort∧t.sort < (g.sorts.names.length:Int))=true:=by simp only [decide_eq_true_eq];exact h3
 by_cases h4:t.args=[]
 ·have hT:Zhn g t=true:=by simp only [Zhn,decide_eq_true_eq];exact ⟨h1,h2,h3.1,h3.2,h4⟩
  refine fR (aj3 @tmz @h3' @h4) ?_;exact fT (ai @tmz @hT)
 ·have hf:=hno fun h=>h4 h.2.2.2.2;have h4':¬ ((t.args.length:Int)=0):=by
   intro h;apply h4;apply Tao;omega
  refine fR (aj3 @tmz @h3' @h4') ?_;exact fT (ai @tmz @hf)
end
theorem Zei {t:Tm}:okTm t ↔ I64 t.op∧t.name.size<=maxLen∧I64 t.sort∧Zax t.args:=by cases t;simp only [okTm,Tm.op,Tm.name,Tm.sort,Tm.args]
theorem ZaN (t:Tm):sizeTm t=1+sizeTms t.args:=by cases t;simp only [sizeTm,Tm.args]
theorem Zcy (t:Tm):depthTm t=1+depthTms t.args:=by cases t;simp only [depthTm,Tm.args]
theorem Zsb {g:Sgn} {t:Tm} (h:t.op=-1):ZbO g t=Zhn g t:=by
 unfold ZbO Zhn;congr 1;rw [ZaK];apply propext;constructor
 ·rintro ⟨h1 | ⟨o,d,h1⟩,_⟩
  ·exact h1
  ·have:=h1.lo;omega
 ·intro h1;exact ⟨.inl h1,fun a ha=>(by rw [h1.2.2.2.2] at ha;cases ha),.inl h⟩
theorem Zcm.app {g:Sgn} {t:Tm} (h:Zcm g t) (hop:t.op≠-1):∃ o d,AppOk g t o d:=by
 rcases h with h | h
 ·exact absurd h.1 hop
 ·exact h
theorem Zgj {g:Sgn} (hg:SgnOk g) {i:Nat} {o:Opr} {d:Dcl} {n j:Nat} (ho:g.ops[i]?=some o) (hd:o.decls[0]?=some d) (nas:o.assoc=false->n=d.args.length) (hj:j < n):∃ k,d.args[argAt o j]?=some k:=by
 unfold argAt
 cases ha:o.assoc with
 | true =>
  have h2:=((hg.axs o (Tac ho)).two (.inl ha) d hd).1;exact ⟨_,Taa (by simp only [↓reduceIte];omega)⟩
 | false=>exact ⟨_,Taa (by simp only [Tam,↓reduceIte];have:=nas ha;omega)⟩
section
variable {g:Sgn} {mc:C}
theorem ZjZ (hg:SgnOk g):∀ (n:Nat) (t:Tm),sizeTm t < n->okTm t->sizeTm t<=big->Con e0 103 [.one (.ptr (encX g mc)),.agg (Zaa t)] [.one (.lit (.bool (ZbO g t)))]:=by
 intro n
 induction n with
 | zero=>intro t h;omega
 | succ n ih =>
  intro t hn hok hb;have hno:¬ Zaw g t->ZbO g t=false:=Zij;obtain ⟨k1,k2,k3,k4⟩:=Zei.1 hok;have hsz:=ZaN t;have hal:=Zbp t.args;unfold big at hb;refine gI 43556142965880125627826793391928073259515 Tryz.func103 ?_;by_cases h1:t.op=-1
  ·have e:=Zsb (g:=g) h1;rw [e];refine fB (ai @tmz @h1) ?_;refine fC (ai @tmz @h1) (ZlP hg k2) ?_;refine fR @tmz ?_;exact fT @tmz
  by_cases h2:t.op < 0
  ·have hf:=hno fun h=>by
    obtain ⟨o,d,h⟩:=h.node.app h1;have:=h.lo;omega
   exact fT (aj4 @tmz @h1 @h2 @hf)
  by_cases h3:(g.ops.length:Int)<=t.op
  ·have hf:=hno fun h=>by
    obtain ⟨o,d,h⟩:=h.node.app h1;have:=(Tad.1 h.at').1;omega
   exact fT (aj6 @tmz @h1 @h2 @h3 @ZcY @hf)
  by_cases h4:t.name=ByteArray.empty;rotate_left
  ·have hf:=hno fun h=>by
    obtain ⟨o,d,h⟩:=h.node.app h1;exact h4 h.nm
   exact fT (aj8 @tmz @h1 @h2 @h3 @ZcY @ZdW @h4 @hf)
  by_cases h5:t.sort=0;rotate_left
  ·have hf:=hno fun h=>by
    obtain ⟨o,d,h⟩:=h.node.app h1;exact h5 h.so
   exact fT (aj9 @tmz @h1 @h2 @h3 @ZcY @ZdW @h4 @h5 @hf)
  have h0:0<=t.op:=om;obtain ⟨o,ho⟩:∃ o,g.ops[t.op.toNat]?=some o:=⟨_,Taa om⟩;obtain ⟨d,hd,hr0,hr1,hargs⟩:=hg.first ho;have hgt:Zaw g t->AppOk g t o d:=fun h=>by
   obtain ⟨o',d',h⟩:=h.node.app h1;have e1:=h.at';rw [ho] at e1;injection e1 with e1
   subst e1;have e2:=h.fst;rw [hd] at e2;injection e2 with e2
   subst e2;exact h
  by_cases hW:(o.assoc=true->2<=t.args.length∧t.args.length<=7)∧(o.assoc=false->t.args.length=d.args.length);rotate_left
  ·have hf:=hno fun h=>hW ⟨(hgt h).asc,(hgt h).nas⟩
   cases ha:o.assoc with
   | true =>
    by_cases c1:t.args.length < 2
    ·have c1':(t.args.length:Int) < 2:=om;exact fT (aj14 @tmz @h1 @h2 @h3 @ZcY @ZdW @h4 @h5 @h0 @ho @Zae @ha @c1' @hf)
    ·have c1':¬ ((t.args.length:Int) < 2):=om;have c2:(7:Int) < (t.args.length:Int):=by
      by_cases c2:t.args.length<=7
      ·exact absurd ⟨fun _=>⟨om,c2⟩,fun h=>by rw [ha] at h;cases h⟩ hW
      ·omega
     exact fT (aj15 @tmz @h1 @h2 @h3 @ZcY @ZdW @h4 @h5 @h0 @ho @Zae @ha @c1' @c2 @hf)
   | false =>
    have c3:¬ ((t.args.length:Int)=(d.args.length:Int)):=fun c=>hW ⟨fun h=>(by rw [ha] at h;cases h),fun _=>om⟩;exact fT (aj16 @tmz @h1 @h2 @h3 @ZcY @ZdW @h4 @h5 @h0 @ho @Zae @ha @hd @ZaJ @c3 @hf)
  have hA:AppOk g t o d:=⟨h0,ho,hd,h4,h5,hW.1,hW.2⟩;refine fG (aj11 @tmz @h1 @h2 @h3 @ZcY @ZdW @h4 @h5 @h0 @ho @Zae) ?_;refine gM (ι:=Unit) [75] [] (fun u=>[(75,A.d (.one (.lit (.bool false))))]) (fun u=>[]) (fun u=>True) ?_ (fun u hu=>Exists.intro _ (ai (Wk.refl _) ?_))
  ·cases ha:o.assoc with
   | true =>
    have c:=hW.1 ha;have c1':¬ ((t.args.length:Int) < 2):=om;have c2:¬ ((7:Int) < (t.args.length:Int)):=om;have F:=aj5 @tmz @Zae @ha @c1' @c2;refine gG ?_;exact ⟨(),trivial,gw,gw⟩
   | false =>
    have c3:((t.args.length:Int)=(d.args.length:Int)):=by have:=hW.2 ha;omega
    have F:=aj6 @tmz @Zae @ha @hd @ZaJ @c3;refine gG ?_;exact ⟨(),trivial,gw,gw⟩
  refine fG @tmz ?_;have F:=@e0P;refine gL (ι:=Nat) [4,7,8,79,80,135] [] (fun i=>[(79,A.d (.one (.lit (.int .i64 i))))]) (fun i=>[]) (fun i=>i<=t.args.length∧∀ (j:Nat) a,j < i->t.args[j]?=some a->Zaw g a∧ArgOk g t.op o d t.args j a) (fun i=>t.args.length - i) (0) (⟨om,fun j a h=>absurd h om⟩) (fun i hi=>?_);clear F;obtain ⟨hil,hall⟩:=hi;by_cases hl:i < t.args.length;rotate_left
  ·have hl':¬ ((i:Int) < (t.args.length:Int)):=om;have hT:=Zd5 (ZaK.2 ⟨.inr ⟨o,d,hA⟩,fun a ha=>by
     obtain ⟨j,hj⟩:=Tbk ha;exact (hall j a (by have:=(Tad.1 hj).1;omega) hj).1,.inr fun o' d' ho' hd' j a hj=>by
     rw [ho] at ho';injection ho' with ho'
     subst ho';rw [hd] at hd';injection hd' with hd'
     subst hd';exact (hall j a (by have:=(Tad.1 hj).1;omega) hj).2⟩)
   exact fT (ai @hl' @hT)
  have hl':(i:Int) < (t.args.length:Int):=om;obtain ⟨a,ha⟩:∃ a,t.args[i]?=some a:=⟨_,Taa hl⟩;have hm:=Tac ha;have hsa:=ZaV hm;have hw1:=Zaq (k:=i) om;have hnoA:¬ ArgOk g t.op o d t.args i a->ZbO g t=false:=fun h=>hno fun hF=>by
   obtain ⟨_,_,h3⟩:=ZaK.1 hF;rcases h3 with h3 | h3
   ·exact h1 h3
   ·exact h (h3 o d ho hd i a ha)
  obtain ⟨k,hk⟩:=Zgj hg ho hd hA.nas hl;refine fB (aj3 @hl' @tmz @ha) ?_;refine fC @tmz (ih a om (k4.mem hm) (by unfold big;omega)) ?_;by_cases hfa:ZbO g a=true;rotate_left
  ·have hf:=hno fun h=>hfa (Zd5 ((ZaK.1 h).2.1 a hm));have hfa':ZbO g a=false:=by simpa using hfa
   refine fR (ai @tmz @hfa') ?_;exact fT @hf
  have hFa:=ZkS.1 hfa;refine fC (ai @tmz @hfa) (Zr9 hg hFa.node) ?_;refine fC @tmz (ZpB hg h0 ho hd hk) ?_;by_cases hkd:Zbt g a=((kd g.sorts k:Nat):Int);rotate_left
  ·have hf:=hnoA fun h=>hkd (h.kind k hk);refine fR (ai @tmz @hkd) ?_;exact fT @hf
  by_cases hN:o.assoc=true∧a.op=t.op
  ·have hf:=hnoA fun h=>h.nest hN.1 hN.2;obtain ⟨hN1,hN2⟩:=hN;refine fR (aj5 @tmz @hkd @Zae @hN1 @hN2) ?_;exact fT @hf
  have hne:o.assoc=true->¬ a.op=t.op:=fun h1 h2=>hN ⟨h1,h2⟩;have cU:=Zsa (mc:=mc) hg h0 ho a;generalize hU:decide (o.unit≠0∧a.op=o.unit - 1)=U at cU;have hnext:(U=false)->(o.comm=true->∀ (j:Nat) p,i=j+1->t.args[j]?=some p->Zah p a<=0)->i+1<=t.args.length∧∀ (j:Nat) a,j < i+1->t.args[j]?=some a->Zaw g a∧ArgOk g t.op o d t.args j a:=fun hU' hc=>⟨om,fun j a' hj ha'=>by
   by_cases e:j=i
   ·subst e;rw [ha] at ha';injection ha' with ha'
    subst ha';refine ⟨hFa,fun k' hk'=>?_,fun h1 h2=>hN ⟨h1,h2⟩,fun h1 h2=>?_,hc⟩
    ·rw [hk] at hk';injection hk' with hk'
     subst hk';exact hkd
    ·rw [hU'] at hU;simp only [decide_eq_false_iff_not] at hU;exact hU ⟨h1,h2⟩
   ·exact hall j a' om ha'⟩
  rcases Bool.eq_false_or_eq_true o.assoc with hac | hac
  all_goals (
   refine fC (aj5 @tmz @hkd @Zae @hac @hne) (cU) ?_;rcases Bool.eq_false_or_eq_true U with hu | hu
   ·have hf:=hnoA fun h=>by
     rw [hu] at hU;simp only [decide_eq_true_eq] at hU;exact h.unit hU.1 hU.2
    refine fR (ai @tmz @hu) ?_;exact fT @hf
   rcases Bool.eq_false_or_eq_true o.comm with hcm | hcm
   rotate_left
   ·have hq:=hnext hu (fun h=>by rw [hcm] at h;cases h);refine fR (aj4 @tmz @hu @Zae @hcm) ?_;have F:=aj5 @hw1 @tmz @Zae @hcm @hac;refine gG ?_;exact ⟨i+1,hq,gw,gw,om⟩
   rcases Nat.eq_zero_or_pos i with hi0 | hi0
   ·have hq:=hnext hu (fun _ j p h=>om);have hi0':¬ ((0:Int) < (i:Int)):=om;refine fR (aj5 @tmz @hu @Zae @hcm @hi0') ?_;have F:=aj5 @hw1 @tmz @Zae @hcm @hac;refine gG ?_;exact ⟨i+1,hq,gw,gw,om⟩
   obtain ⟨j,rfl⟩:∃ j,i=j+1:=⟨i - 1,om⟩;obtain ⟨p,hp⟩:∃ p,t.args[j]?=some p:=⟨_,Taa om⟩;have cC:=Zps (k4.mem (Tac hp)) (k4.mem hm);have hgt0:(0:Int) < ((j+1:Nat):Int):=om;have hsub:IntKind.i64.wrap (((j+1:Nat):Int) - 1)=(j:Int):=Za2 om om om;refine fC (aj7 @tmz @hu @Zae @hcm @hgt0 @hsub @hp) (cC) ?_;by_cases hc:0 < Zah p a
   ·have hf:=hnoA fun h=>by have:=h.ord hcm j p rfl hp;omega
    refine fR (ai @tmz @hc) ?_;exact fT @hf
   ·have hq:=hnext hu (fun _ j' p' h hp'=>by
     have:j'=j:=om;subst this;rw [hp] at hp';injection hp' with hp'
     subst hp';omega)
    refine fR (ai @tmz @hc) ?_
    (have F:=aj5 @hw1 @tmz @Zae @hcm @hac;refine gG ?_;exact ⟨j+1+1,hq,gw,gw,om⟩))
theorem Zof (hg:SgnOk g) {t:Tm} (hok:okTm t) (hb:sizeTm t<=big):Con e0 103 [.one (.ptr (encX g mc)),.agg (Zaa t)] [.one (.lit (.bool (ZbO g t)))]:=ZjZ hg _ t (Tan _) hok hb
structure TermOk (g:Sgn) (t:Tm):Prop where
 size:sizeTm t<=60
 depth:depthTm t<=20
 form:Zaw g t
open Classical in
noncomputable def Za8 (g:Sgn) (t:Tm):Bool:=decide (TermOk g t)
theorem Ze0 {g:Sgn} {t:Tm} (h:TermOk g t):Za8 g t=true:=by simp [Za8,h]
theorem Zik {g:Sgn} {t:Tm} (h:¬ TermOk g t):Za8 g t=false:=by simp [Za8,h]
theorem Zcz {g:Sgn} {t:Tm}:Za8 g t=true ↔ TermOk g t:=by simp [Za8]
theorem Zju {g:Sgn} {t:Tm} (h1:sizeTm t<=60) (h2:depthTm t<=20):ZbO g t=Za8 g t:=by
 unfold ZbO Za8;congr 1;exact propext ⟨fun h=>⟨h1,h2,h⟩,fun h=>h.form⟩
theorem ZpC (hg:SgnOk g) {t:Tm} (hok:okTm t) (hb:sizeTm t<=big):Con e0 64 [.one (.ptr (encX g mc)),.agg (Zaa t)] [.one (.lit (.bool (Za8 g t)))]:=by
 have hno:¬ TermOk g t->Za8 g t=false:=Zik;refine gI 27 Tryz.func64 ?_;refine fB @tmz ?_;refine fC @tmz (Zoc hb) ?_;by_cases h1:sizeTm t<=60;rotate_left
 ·have h1':¬ ((sizeTm t:Int)<=60):=om;have hf:=hno fun h=>h1 h.size;refine fR (ai @tmz @h1') ?_;exact fT @hf
 have h1':((sizeTm t:Int)<=60):=om;refine fC (ai @tmz @h1') (Zm1 hb) ?_;by_cases h2:depthTm t<=20;rotate_left
 ·have h2':¬ ((depthTm t:Int)<=20):=om;have hf:=hno fun h=>h2 h.depth;refine fR (ai @tmz @h2') ?_;exact fT @hf
 have h2':((depthTm t:Int)<=20):=om;refine fC (ai @tmz @h2') (Zof hg hok hb) ?_;have e:=Zju (g:=g) h1 h2;refine fR @tmz ?_;exact fT @e
end
mutual
theorem Zdn:∀ {a b:Tm},Zah a b=0->a=b
 | .mk o n s x,.mk o' n' s' x',h=>by
  simp only [Zah,ZaL] at h;split at h
  ·rename_i h1;split at h
   ·rename_i h2;split at h
    ·rename_i h3;split at h
     ·rename_i h4;rw [ZcE.1 h1,ZeV.1 h2,ZcE.1 h3,Zjv h4]
     ·contradiction
    ·contradiction
   ·contradiction
  ·contradiction
theorem Zjv:∀ {a b:List Tm},ZaH a b=0->a=b
 | [],[],_=>rfl
 | [],_::_,h=>by simp [ZaH] at h
 | _::_,[],h=>by simp [ZaH] at h
 | x::xs,y::ys,h=>by
  simp only [ZaH,ZaL] at h;split at h
  ·rename_i h1;split at h
   ·rename_i h2;rw [Zdn h1,Zjv h2]
   ·contradiction
  ·contradiction
end
mutual
theorem Zb6:∀ (a:Tm),Zah a a=0
 | .mk o n s x=>by simp only [Zah,ZaL,ZcE.2 (rfl:o=o),ZcE.2 (rfl:s=s),ZeV.2 (rfl:n=n),Zjw x,if_true]
theorem Zjw:∀ (a:List Tm),ZaH a a=0
 | []=>rfl
 | x::xs=>by simp only [ZaH,ZaL,Zb6 x,Zjw xs,if_true]
end
theorem ZcZ {a b:Tm}:Zah a b=0 ↔ a=b:=⟨Zdn,fun h=>h ▸ Zb6 a⟩
theorem Zdo {a b:Tm} (ha:okTm a) (hb:okTm b):Con e0 79 [.agg (Zaa a),.agg (Zaa b)] [.one (.lit (.bool (decide (Zah a b=0))))]:=by
 refine gI 31 Tryz.func79 ?_;refine fB @tmz ?_;refine fC @tmz (Zd2 ha hb) ?_;refine fR @tmz ?_;exact fT @tmz
section
variable {g:Sgn}
theorem ZlQ (hok:Zbv g) (hg:¬ SgnOk g):Con e0 63 [.agg (Zaf g)] [.one (.lit (.pointer none)),.one (.lit (.bool false))]:=by
 have hs:Zbq g=false:=ZeW hg;have c:=ZgC hok;rw [hs,Zaf] at c;refine gI 287 Tryz.func63 ?_;refine fB @Zbh ?_;refine fC @Zbh (c) ?_;refine fR @Zbh ?_;exact fT @Zbh
def algR (g:Sgn) (r:List D):Prop:=∃ b:Nat,r=[.one (.ptr (encX g (.lit (.map (some b))))),.one (.lit (.bool true))]
theorem ZpD (hok:Zbv g) (hg:SgnOk g):ConE e0 63 [.agg (Zaf g)] (algR g):=by
 have hs:Zbq g=true:=Zb4 hg;have c:=ZgC hok;rw [hs,Zaf] at c;have c2:=Zii hok.1 hg.sorts;rw [Za3,ZdM] at c2;refine gIE 287 Tryz.func63 ?_;refine fB @Zbh ?_;refine fC @Zbh (c) ?_;refine fR @Zbh ?_;refine fB @Zbh ?_;refine fC @Zbh (c2) ?_;refine fR @Zbh ?_;refine fB @Zbh ?_;refine Zxf (by simp only [pz,↓reduceIte,Nat.reduceEqDiff,Nat.reduceAdd,Nat.reduceSub,Nat.reduceMul,Nat.reduceLeDiff,Nat.reduceBEq,Tam,decide_true,decide_false,Int.reduceLE,Int.reduceToNat,Int.reduceLT,Int.reduceEq,eq_self,Nat.reduceShiftRight,Nat.reduceAnd,Nat.reduceBneDiff,Zs7];exact rfl) fun b=>?_
 refine fR @ZiX ?_;refine Zen (Zzk [19] _ ⟨b,rfl⟩ (by exact snv) ?_);simp [Zb8,resA,Zbc,gs,encX,nR]
theorem Zfu (hok:Zbv g) (hg:SgnOk g) {t:Tm} (ht:Zcm g t):Con e0 61 [.agg (Zaf g),.agg (Zaa t)] [.one (.lit (.int .i64 (Zbt g t)))]:=by
 have c2:=Zdy hg.sorts;rw [Za3] at c2;refine gI 2111 Tryz.func61 ?_;refine fB (ai @tmz @Zbh) ?_;refine fC @Zbh (c2) ?_;refine fR @Zbh ?_;rcases ht with ⟨h1,h2,h3,h4,h5⟩ | ⟨o,d,h⟩
 ·have hk:=Zfa hg.sorts h3 h4;have e:Zbt g t=kd g.sorts t.sort:=by simp [Zbt,h1]
  exact fT (aj6 @tmz @h1 @h3 @hk @Zai @e)
 ·have hn:=h.op;obtain ⟨d',hd',hr0,hr1,_⟩:=hg.first h.at';rw [h.fst] at hd';injection hd' with hd'
  subst hd';have hk:=Zfa hg.sorts hr0 hr1;have e:Zbt g t=kd g.sorts d.res:=by simp [Zbt,h.op,Zho h.at' h.fst]
  have hlo:=h.lo;have hat:=h.at';have hfst:=h.fst;exact fT (aj11 @tmz @hn @hlo @hat @Zae @hfst @ZaJ @hr0 @hk @Zai @e)
def ZaI (o:Opr):Tm:=.mk (if o.unit=0 then 0 else o.unit - 1) .empty 0 []
theorem ZkT (hg:SgnOk g) {op:Int} {o:Opr} (h0:0<=op) (ho:g.ops[op.toNat]?=some o):Con e0 89 [.agg (Zaf g),.one (.lit (.int .i64 op))] [.agg (Zaa (ZaI o)),.one (.lit (.bool (!decide (o.unit=0))))]:=by
 have hax:=hg.axs o (Tac ho);have hlo:=hax.lo;have hhi:=hax.hi;have hln:=hg.len;have hw:IntKind.i64.wrap (o.unit - 1)=o.unit - 1:=Za2 rfl om om;refine gI 4151 Tryz.func89 ?_;by_cases hu:o.unit=0
 ·refine fG (aj5 @Zbh @h0 @ho @Zae @hu) ?_;refine Zen (Zkw ?_);simp [Zb8,resA,Zbc,gs,hu,ZaI,Zaa,Zab,gm,ptrA,varA,e0P,pz,tt_0,tt_1]
 ·refine fG (aj6 @Zbh @h0 @ho @Zae @hu @hw) ?_;refine Zen (Zkw ?_);simp [Zb8,resA,Zbc,gs,hu,ZaI,Zaa,Zab,gm,ptrA,varA,e0P,pz]
end
def Tri (a b c:Int):Prop:=((a<=0->b<=0->c<=0)∧(a < 0->b<=0->c < 0)∧(a<=0->b < 0->c < 0))∧((0<=a->0<=b->0<=c)∧(0 < a->0<=b->0 < c)∧(0<=a->0 < b->0 < c))
theorem ZkU (p q:Int):ZaL [p,q]=if p=0 then q else p:=by
 simp only [ZaL];split
 ·split <;> simp_all
 ·rfl
theorem ZvL (p q r s:Int):ZaL [p,q,r,s]=ZaL [p,ZaL [q,ZaL [r,s]]]:=by
 simp only [ZkU,ZaL];by_cases h1:p=0 <;> by_cases h2:q=0 <;> by_cases h3:r=0 <;> by_cases h4:s=0 <;> simp [h1,h2,h3,h4]
theorem Tri.lex {a b c a' b' c':Int} (h:Tri a b c) (h':Tri a' b' c'):Tri (ZaL [a,a']) (ZaL [b,b']) (ZaL [c,c']):=by
 simp only [ZkU];unfold Tri at *;by_cases h1:a=0
 ·by_cases h2:b=0
  ·by_cases h3:c=0
   ·simp only [h1,h2,h3,if_true];exact h'
   ·omega
  ·by_cases h3:c=0
   ·omega
   ·simp only [h1,h2,h3,if_true,if_false];omega
 ·by_cases h2:b=0
  ·by_cases h3:c=0
   ·omega
   ·simp only [h1,h2,h3,if_true,if_false];omega
  ·by_cases h3:c=0
   ·simp only [h1,h2,h3,if_true,if_false];omega
   ·simp only [h1,h2,h3,if_false];omega
theorem Zd6 (p q:Int):ZaL [-p,-q]=-ZaL [p,q]:=by
 simp only [ZkU];by_cases h:p=0
 ·simp [h]
 ·have:¬ -p=0:=om;simp [h,this]
theorem Zhp (a b c:Int):Tri (ZaP a b) (ZaP b c) (ZaP a c):=by
 unfold Tri ZaP;by_cases h1:a < b <;> by_cases h2:b < c <;> by_cases h3:a < c <;> by_cases h4:b < a <;> by_cases h5:c < b <;> by_cases h6:c < a <;> simp only [h1,h2,h3,h4,h5,h6,if_true,if_false] <;> omega
theorem Zhq (a b:Int):ZaP b a=-ZaP a b:=by
 unfold ZaP;by_cases h1:a < b <;> by_cases h2:b < a <;> simp only [h1,h2,if_true,if_false] <;> omega
theorem ZgE (x y:UInt8) (xs ys:List UInt8):Lib.compareBytes (x::xs) (y::ys)=ZaL [ZaP x.toNat y.toNat,Lib.compareBytes xs ys]:=by
 rw [ZkU];simp only [Lib.compareBytes,ZaP,UInt8.lt_iff_toNat_lt];by_cases h1:x.toNat < y.toNat
 ·have:((x.toNat:Int) < y.toNat):=om;simp [h1,this]
 ·have h1':¬ ((x.toNat:Int) < y.toNat):=om;by_cases h2:y.toNat < x.toNat
  ·have:((y.toNat:Int) < x.toNat):=om;simp [h1,h2,h1',this]
  ·have:¬ ((y.toNat:Int) < x.toNat):=om;simp [h1,h2,h1',this]
theorem Zms:∀ (a b c:List UInt8),Tri (Lib.compareBytes a b) (Lib.compareBytes b c) (Lib.compareBytes a c)
 | [],[],[]=>by simp [Lib.compareBytes,Tri]
 | [],[],_::_=>by simp [Lib.compareBytes,Tri]
 | [],_::_,[]=>by simp [Lib.compareBytes,Tri]
 | [],y::ys,z::zs=>by
  have:Lib.compareBytes [] (y::ys)=-1:=rfl;have h2:Lib.compareBytes [] (z::zs)=-1:=rfl;rw [this,h2];unfold Tri;omega
 | _::_,[],[]=>by simp [Lib.compareBytes,Tri]
 | x::xs,[],z::zs=>by
  have:Lib.compareBytes (x::xs) []=1:=rfl;have h2:Lib.compareBytes [] (z::zs)=-1:=rfl;rw [this,h2];unfold Tri;omega
 | x::xs,y::ys,[]=>by
  have:Lib.compareBytes (x::xs) []=1:=rfl;have h2:Lib.compareBytes (y::ys) []=1:=rfl;rw [this,h2];unfold Tri;omega
 | x::xs,y::ys,z::zs=>by
  simp only [ZgE];exact (Zhp _ _ _).lex (Zms xs ys zs)
theorem Zmt:∀ (a b:List UInt8),Lib.compareBytes b a=-Lib.compareBytes a b
 | [],[]=>rfl
 | [],_::_=>rfl
 | _::_,[]=>rfl
 | x::xs,y::ys=>by rw [ZgE,ZgE,Zhq,Zmt xs ys,Zd6]
mutual
theorem Zcn:∀ (a b:Tm),Zah b a=-Zah a b
 | .mk o n s a,.mk o' n' s' a'=>by
  simp only [Zah,ZvL];rw [Zhq o o',Zhq s s',ZkV a a',show ZbV n' n=-ZbV n n' from Zmt _ _,Zd6,Zd6,Zd6]
theorem ZkV:∀ (a b:List Tm),ZaH b a=-ZaH a b
 | [],[]=>by simp [ZaH]
 | [],_::_=>by simp [ZaH]
 | _::_,[]=>by simp [ZaH]
 | x::xs,y::ys=>by
  simp only [ZaH];rw [Zcn x y,ZkV xs ys,Zd6]
end
mutual
theorem Zil:∀ (a b c:Tm),Tri (Zah a b) (Zah b c) (Zah a c)
 | .mk o n s a,.mk o' n' s' a',.mk o'' n'' s'' a''=>by
  simp only [Zah,ZvL];exact (Zhp _ _ _).lex ((Zms _ _ _).lex ((Zhp _ _ _).lex (ZkW a a' a'')))
theorem ZkW:∀ (a b c:List Tm),Tri (ZaH a b) (ZaH b c) (ZaH a c)
 | [],[],[]=>by simp [ZaH,Tri]
 | [],[],_::_=>by simp [ZaH,Tri]
 | [],_::_,[]=>by simp [ZaH,Tri]
 | [],_::_,_::_=>by simp only [ZaH];unfold Tri;omega
 | _::_,[],[]=>by simp [ZaH,Tri]
 | _::_,[],_::_=>by simp only [ZaH];unfold Tri;omega
 | _::_,_::_,[]=>by simp only [ZaH];unfold Tri;omega
 | x::xs,y::ys,z::zs=>by
  simp only [ZaH];exact (Zil x y z).lex (ZkW xs ys zs)
end
theorem ZeL {a b c:Tm} (h1:Zah a b < 0) (h2:Zah b c < 0):Zah a c < 0:=(Zil a b c).1.2.1 h1 om
theorem Zdg {a b c:Tm} (h1:Zah a b<=0) (h2:Zah b c<=0):Zah a c<=0:=(Zil a b c).1.1 h1 h2
def Asc (l:List Tm):Prop:=l.Pairwise fun a b=>Zah a b < 0
theorem Asc.ext {l l':List Tm} (h:Asc l) (h':Asc l') (hm:∀ t,t∈l ↔ t∈l'):l=l':=by
 induction l generalizing l' with
 | nil =>
  cases l' with
  | nil=>rfl
  | cons y ys=>exact absurd ((hm y).2 (by simp)) (by simp)
 | cons x xs ih =>
  cases l' with
  | nil=>exact absurd ((hm x).1 (by simp)) (by simp)
  | cons y ys =>
   have h1:=List.pairwise_cons.1 h;have h2:=List.pairwise_cons.1 h';have e:x=y:=by
    rcases Tbg.1 ((hm x).1 (by simp)) with e | hx
    ·exact e
    ·rcases Tbg.1 ((hm y).2 (by simp)) with e | hy
     ·exact e.symm
     ·have a1:=h1.1 y hy;have a2:=h2.1 x hx;rw [Zcn x y] at a2;omega
   subst e;refine congrArg (x::·) (ih h1.2 h2.2 fun t=>⟨fun ht=>?_,fun ht=>?_⟩)
   ·rcases Tbg.1 ((hm t).1 (Tal _ ht)) with e | h3
    ·subst e;have:=h1.1 t ht;rw [Zb6] at this;omega
    ·exact h3
   ·rcases Tbg.1 ((hm t).2 (Tal _ ht)) with e | h3
    ·subst e;have:=h2.1 t ht;rw [Zb6] at this;omega
    ·exact h3
def Za4 (t:Tm):List Tm->List Tm
 | []=>[t]
 | x::xs=>if Zah x t < 0 then x::Za4 t xs else if Zah x t=0 then x::xs else t::x::xs
theorem Zim {t u:Tm}:∀ {l:List Tm},u∈Za4 t l ↔ u=t∨u∈l
 | []=>by simp [Za4]
 | x::xs=>by
  simp only [Za4];split
  ·simp only [Tbg,Zim (l:=xs)];constructor
   ·rintro (h | h | h) <;> simp [h]
   ·rintro (h | h | h) <;> simp [h]
  ·split
   ·rename_i h0;have e:=Zdn h0;simp only [Tbg];constructor
    ·exact fun h=>.inr h
    ·rintro (h | h)
     ·exact .inl (by rw [h,e])
     ·exact h
   ·simp only [Tbg]
theorem Asc.ins {t:Tm}:∀ {l:List Tm},Asc l->Asc (Za4 t l)
 | [],_=>by simp [Za4,Asc]
 | x::xs,h=>by
  have h1:=List.pairwise_cons.1 h;simp only [Za4];split
  ·rename_i hx;refine List.pairwise_cons.2 ⟨fun u hu=>?_,Asc.ins h1.2⟩;rcases Zim.1 hu with e | hu
   ·rw [e];exact hx
   ·exact h1.1 u hu
  ·split
   ·exact h
   ·rename_i h2 h3;have h4:Zah t x < 0:=by rw [Zcn x t];omega
    refine List.pairwise_cons.2 ⟨fun u hu=>?_,h⟩;rcases Tbg.1 hu with e | hu
    ·rw [e];exact h4
    ·exact ZeL h4 (h1.1 u hu)
def Zc0 (l:List Tm):List Tm:=l.foldl (fun r t=>Za4 t r) []
theorem Zmu {l r:List Tm} (h:Asc r):Asc (l.foldl (fun r t=>Za4 t r) r)∧∀ u,u∈l.foldl (fun r t=>Za4 t r) r ↔ u∈l∨u∈r:=by
 induction l generalizing r with
 | nil=>exact ⟨h,fun u=>by simp⟩
 | cons x xs ih =>
  have:=ih (r:=Za4 x r) h.ins;refine ⟨this.1,fun u=>?_⟩;rw [List.foldl_cons,this.2,Zim,Tbg];constructor
  ·rintro (h | h | h)
   ·exact .inl (.inr h)
   ·exact .inl (.inl h)
   ·exact .inr h
  ·rintro ((h | h) | h)
   ·exact .inr (.inl h)
   ·exact .inl h
   ·exact .inr (.inr h)
theorem Zfv (l:List Tm):Asc (Zc0 l):=(Zmu List.Pairwise.nil).1
theorem Zdp {l:List Tm} {u:Tm}:u∈Zc0 l ↔ u∈l:=by
 have:=(Zmu (l:=l) (r:=[]) List.Pairwise.nil).2 u;simpa [Zc0] using this
theorem ZvM {l l':List Tm} (h:Asc l') (hm:∀ t,t∈l' ↔ t∈l):Zc0 l=l':=(Zfv l).ext h fun t=>Zdp.trans (hm t).symm
mutual
def Zau:Tm->List Tm
 | .mk op nm so args=>if op=-1 then [.mk (-1) nm so []] else ZaC args
def ZaC:List Tm->List Tm
 | []=>[]
 | t::ts=>Zau t++ZaC ts
end
def ZaD (t:Tm):List Tm:=Zc0 (Zau t)
def zTm0:Tm:=.mk 0 ByteArray.empty 0 []
def ddT:Option Tm->List Tm->List Tm
 | _,[]=>[]
 | none,x::xs=>x::ddT (some x) xs
 | some y,x::xs=>if Zah x y=0 then ddT (some x) xs else x::ddT (some x) xs
def Zgk:Option Tm->List Tm->Option Tm
 | p,[]=>p
 | _,x::xs=>Zgk (some x) xs
theorem Zj0:∀ (p:Option Tm) (l:List Tm) (x:Tm),ddT p (l++[x])=match Zgk p l with
  | none=>ddT p l++[x]
  | some y=>if Zah x y=0 then ddT p l else ddT p l++[x]
 | none,[],x=>rfl
 | some y,[],x=>by simp only [Tah,ddT,Zgk]
 | none,a::l,x=>by
  simp only [Taf,ddT,Zgk,Zj0 (some a) l x];split
  ·rfl
  ·split <;> rfl
 | some y,a::l,x=>by
  simp only [Taf,ddT,Zgk,Zj0 (some a) l x];split
  ·rfl
  ·split
   ·rfl
   ·split <;> rfl
theorem ZkX:∀ (p:Option Tm) (l:List Tm) (i:Nat) (y:Tm),l[i]?=some y->Zgk p (l.take (i+1))=some y
 | p,[],i,y,h=>by simp at h
 | p,x::xs,0,y,h=>by simp at h;subst h;simp [Zgk]
 | p,x::xs,i+1,y,h=>by
  simp only [Tbc,Zgk];exact ZkX (some x) xs i y (by simpa using h)
theorem Zog {l:List Tm} {i:Nat} {x y:Tm} (hx:l[i+1]?=some x) (hy:l[i]?=some y):ddT none (l.take (i+2))=if Zah x y=0 then ddT none (l.take (i+1)) else ddT none (l.take (i+1))++[x]:=by
 have e:l.take (i+2)=l.take (i+1)++[x]:=by simp [List.take_add_one,hx]
 rw [e,Zj0,ZkX none l i y hy]
theorem ZzY {l:List Tm} {x:Tm} (hx:l[0]?=some x):ddT none (l.take 1)=[x]:=by
 cases l with
 | nil=>simp at hx
 | cons a l=>simp at hx;subst hx;simp [ddT]
def Up (l:List Tm):Prop:=l.Pairwise fun a b=>Zah a b<=0
theorem ZvN:∀ (l:List Tm) (y:Tm),Up l->(∀ x∈l,Zah y x<=0)->Asc (ddT (some y) l)∧(∀ z∈ddT (some y) l,Zah y z < 0)∧∀ z,(z=y∨z∈ddT (some y) l) ↔ (z=y∨z∈l)
 | [],y,_,_=>⟨List.Pairwise.nil,fun z h=>by simp [ddT] at h,fun z=>by simp [ddT]⟩
 | x::xs,y,hu,hy=>by
  have h1:=List.pairwise_cons.1 hu;have hyx:=hy x Tas;obtain ⟨k1,k2,k3⟩:=ZvN xs x h1.2 h1.1;simp only [ddT];by_cases h0:Zah x y=0
  ·rw [if_pos h0];have e:=Zdn h0;subst e;exact ⟨k1,k2,fun z=>by rw [k3 z];simp⟩
  ·rw [if_neg h0];have hlt:Zah y x < 0:=by rw [Zcn x y] at hyx ⊢;omega
   refine ⟨List.pairwise_cons.2 ⟨k2,k1⟩,fun z hz=>?_,fun z=>?_⟩
   ·rcases Tbg.1 hz with rfl | hz
    ·exact hlt
    ·exact ZeL hlt (k2 z hz)
   ·have:=k3 z;simp only [Tbg];rw [this]
theorem ZxB {l:List Tm} (h:Up l):ddT none l=Zc0 l:=by
 cases l with
 | nil=>rfl
 | cons x xs =>
  have h1:=List.pairwise_cons.1 h;obtain ⟨k1,k2,k3⟩:=ZvN xs x h1.2 h1.1;simp only [ddT];refine (ZvM (List.pairwise_cons.2 ⟨k2,k1⟩) fun t=>?_).symm;simp only [Tbg];exact k3 t
def ZbE (l:List Tm):List Tm:=l.mergeSort fun a b=>decide (Zah a b<=0)
theorem ZbP (l:List Tm):(ZbE l).Perm l:=List.mergeSort_perm l _
theorem ZdO (l:List Tm):Up (ZbE l):=by
 have h:=List.pairwise_mergeSort (le:=fun a b=>decide (Zah a b<=0)) (fun a b c h1 h2=>by simp only [decide_eq_true_eq] at *;exact Zdg h1 h2) (fun a b=>by
  simp only [Bool.or_eq_true,decide_eq_true_eq];have:=Zcn a b;omega) l
 exact h.imp fun h=>by simpa using h
theorem Zi4:∀ {l l':List Tm},Up l->Up l'->l.Perm l'->l=l'
 | [],l',_,_,h=>by have:=h.length_eq;cases l' with | nil=>rfl | cons _ _=>simp at this
 | x::xs,[],_,_,h=>by have:=h.length_eq;simp at this
 | x::xs,y::ys,h1,h2,h=>by
  have p1:=List.pairwise_cons.1 h1;have p2:=List.pairwise_cons.1 h2;have hx:x∈y::ys:=h.mem_iff.1 Tas;have hy:y∈x::xs:=h.mem_iff.2 Tas;have e:x=y:=by
   rcases Tbg.1 hx with e | hx
   ·exact e
   ·rcases Tbg.1 hy with e | hy
    ·exact e.symm
    ·have a1:=p2.1 x hx;have a2:=p1.1 y hy;refine Zdn ?_;rw [Zcn x y] at a1;omega
  subst e;rw [Zi4 p1.2 p2.2 h.cons_inv]
theorem ZpE {l l':List Tm} (h:l.Perm l'):Zc0 l=Zc0 l':=(Zfv l).ext (Zfv l') fun t=>by rw [Zdp,Zdp,h.mem_iff]
mutual
theorem Zmv:∀ {a b:Tm},Zaa a=Zaa b->a=b
 | .mk o n s a,.mk o' n' s' a',h=>by
  simp only [Zaa,List.cons.injEq,C.lit.injEq,C.sl.injEq,Value.int.injEq,Value.string.injEq,true_and,and_true] at h;obtain ⟨rfl,rfl,rfl,h⟩:=h;rw [ZkY h]
theorem ZkY:∀ {a b:List Tm},Zab a=Zab b->a=b
 | [],[],_=>rfl
 | [],_::_,h=>by simp [Zab] at h
 | _::_,[],h=>by simp [Zab] at h
 | x::xs,y::ys,h=>by
  simp only [Zab,List.cons.injEq] at h;rw [Zmv h.1,ZkY h.2]
end
open Classical in
noncomputable def unT (r:List C):Tm:=if h:∃ t,r=Zaa t then h.choose else zTm0
theorem Zrr (t:Tm):unT (Zaa t)=t:=by
 have h:∃ t',Zaa t=Zaa t':=⟨t,rfl⟩;unfold unT;rw [dif_pos h];exact (Zmv h.choose_spec).symm
theorem ZzZ (l:List Tm):(Zab l).map unT=l:=by
 rw [Zbs,List.map_map]
 conv=>rhs;rw [<- List.map_id l]
 exact List.map_congr_left fun t _=>Zrr t
theorem ZdA (l:List Tm) (k:Nat):(Zab l).take k=Zab (l.take k):=by rw [Zbs,Zbs,List.map_take]
theorem Zd7 (l:List Tm) (k:Nat):(Zab l).drop k=Zab (l.drop k):=by rw [Zbs,Zbs,List.map_drop]
theorem ZbH (a b:List Tm):Zab (a++b)=Zab a++Zab b:=by rw [Zbs,Zbs,Zbs,Tbv]
theorem ZbX (t:Tm):Zab [t]=[Zaa t]:=by simp [Zab]
theorem ZeA (a b:Tm):Con e0 69 [.agg (Zaa a),.agg (Zaa b)] [.one (.lit (.bool (decide (Zah a b=0))))]:=by
 refine gI (ts:=[.slot 4]) 31 Tryz.func69 ?_;refine fB @tmz ?_;refine fC @tmz (Zzm (ZjT a b)) ?_;refine fR @tmz ?_;exact fD @tmz
theorem ZvO {l m:List Tm} (hp:m.Perm l) (hu:Up m):m=ZbE l:=Zi4 hu (ZdO l) (hp.trans (ZbP l).symm)
theorem Zsc (l:List Tm):(ZbE l).length=l.length:=(ZbP l).length_eq
theorem Zoh {l m:List Tm} (h:l.Perm m):ZbE l=ZbE m:=Zi4 (ZdO l) (ZdO m) ((ZbP l).trans (h.trans (ZbP m).symm))
theorem Up.get {l:List Tm} (h:Up l) {i j:Nat} {x y:Tm} (hij:i<=j) (hx:l[i]?=some x) (hy:l[j]?=some y):Zah x y<=0:=by
 rcases Nat.lt_or_ge i j with hl | hl
 ·obtain ⟨h1,rfl⟩:=Tad.1 hx;obtain ⟨h2,rfl⟩:=Tad.1 hy;exact List.pairwise_iff_getElem.1 h i j h1 h2 hl
 ·obtain rfl:i=j:=by omega
  rw [hx] at hy;injection hy with hy
  subst hy;rw [Zb6];omega
theorem Zin {l:List Tm} {k:Nat} {x:Tm} (h:x∈l.take k):∃ i,i < k∧l[i]?=some x:=by
 obtain ⟨i,hi⟩:=Tbk h;rw [List.getElem?_take] at hi;split at hi
 ·exact ⟨i,by assumption,hi⟩
 ·cases hi
theorem Zio {l:List Tm} {k:Nat} {x:Tm} (h:x∈l.drop k):∃ i,k<=i∧l[i]?=some x:=by
 obtain ⟨i,hi⟩:=Tbk h;rw [Tbb] at hi;exact ⟨k+i,om,hi⟩
theorem Up.append {l m:List Tm} (hl:Up l) (hm:Up m) (h:∀ x∈l,∀ y∈m,Zah x y<=0):Up (l++m):=List.pairwise_append.2 ⟨hl,hm,h⟩
theorem Up.left {l m:List Tm} (h:Up (l++m)):Up l:=(List.pairwise_append.1 h).1
theorem Up.take {l:List Tm} (h:Up l) (k:Nat):Up (l.take k):=List.Pairwise.sublist (List.take_sublist k l) h
theorem Up.drop {l:List Tm} (h:Up l) (k:Nat):Up (l.drop k):=List.Pairwise.sublist (List.drop_sublist k l) h
theorem Up.put {B:List Tm} {x:Tm} (hB:Up B) {s:Nat} (h1:0 < s->∃ y,B[s - 1]?=some y∧Zah y x<=0) (h2:s < B.length->∃ y,B[s]?=some y∧Zah x y<=0):Up (B.take s++x::B.drop s):=by
 have k2:∀ z∈B.drop s,Zah x z<=0:=fun z hz=>by
  obtain ⟨i,hi,hz⟩:=Zio hz;have hl:=(Tad.1 hz).1;obtain ⟨y,hy,hc⟩:=h2 om;exact Zdg hc (hB.get hi hy hz)
 have k1:∀ z∈B.take s,Zah z x<=0:=fun z hz=>by
  obtain ⟨i,hi,hz⟩:=Zin hz;obtain ⟨y,hy,hc⟩:=h1 om;exact Zdg (hB.get om hz hy) hc
 refine (hB.take s).append (List.pairwise_cons.2 ⟨k2,hB.drop s⟩) fun z hz u hu=>?_;rcases Tbg.1 hu with rfl | hu
 ·exact k1 z hz
 ·obtain ⟨i,hi,hz⟩:=Zin hz;obtain ⟨j,hj,hu⟩:=Zio hu;exact hB.get om hz hu
inductive Blks (k:Nat):List Tm->Prop where
 | last {l:List Tm} (hl:l.length<=k) (hu:Up l):Blks k l
 | cons {X r:List Tm} (hl:X.length=k) (hu:Up X) (hr:Blks k r):Blks k (X++r)
inductive Full (k:Nat):List Tm->Prop where
 | nil:Full k []
 | cons {X r:List Tm} (hl:X.length=k) (hu:Up X) (hr:Full k r):Full k (X++r)
theorem Full.snoc {k:Nat} {X Z:List Tm} (h:Full k X) (hl:Z.length=k) (hu:Up Z):Full k (X++Z):=by
 induction h with
 | nil=>have:=Full.cons hl hu Full.nil;rwa [List.append_nil] at this
 | cons h1 h2 _ ih=>rw [Tbf];exact .cons h1 h2 ih
theorem Blks.up {k:Nat} {l:List Tm} (h:Blks k l) (hl:l.length<=k):Up l:=by
 cases h with
 | last h1 h2=>exact h2
 | @cons X r h1 h2 h3 =>
  rw [Tae] at hl;have:r=[]:=Tao om;subst this
  rwa [List.append_nil]
theorem Blks.split {k:Nat} {l:List Tm} (h:Blks k l) (hl:k < l.length):∃ X r,l=X++r∧X.length=k∧Up X∧Blks k r:=by
 cases h with
 | last h1 h2=>omega
 | cons h1 h2 h3=>exact ⟨_,_,rfl,h1,h2,h3⟩
theorem Blks.two {k:Nat} {l:List Tm} (h:Blks k l) (hk:0 < k) (hl:2 * k<=l.length):∃ A B r,l=A++B++r∧A.length=k∧B.length=k∧Up A∧Up B∧Blks k r:=by
 obtain ⟨A,r,rfl,h1,h2,h3⟩:=h.split om;rw [Tae] at hl;rcases Nat.lt_or_ge k r.length with h4 | h4
 ·obtain ⟨B,r',rfl,h5,h6,h7⟩:=h3.split h4;exact ⟨A,B,r',by rw [Tbf],h1,h5,h2,h6,h7⟩
 ·exact ⟨A,r,[],by rw [List.append_nil],h1,om,h2,h3.up h4,.last (by simp) List.Pairwise.nil⟩
theorem Zoi {l:List Tm} {i:Nat} {x:Tm} (h:l[i]?=some x):l.drop i=x::l.drop (i+1):=by
 obtain ⟨h1,rfl⟩:=Tad.1 h;exact List.drop_eq_getElem_cons h1
theorem ZfW {l:List Tm} {i:Nat} {x:Tm} (h:l[i]?=some x):l.take (i+1)=l.take i++[x]:=by
 rw [List.take_add_one,h];rfl
theorem ZxC {M1 M2:List Tm} {x:Tm} (h:Up (M1++M2)) (h2:∀ y∈M2,Zah x y<=0) (h1:∀ y,M1.getLast?=some y->Zah y x<=0):Up (M1++x::M2):=by
 obtain ⟨u1,u2,u3⟩:=List.pairwise_append.1 h;refine Up.append u1 (List.pairwise_cons.2 ⟨h2,u2⟩) fun z hz u hu=>?_;rcases Tbg.1 hu with rfl | hu
 ·obtain ⟨M0,y,rfl⟩:∃ M0 y,M1=M0++[y]:=⟨M1.dropLast,M1.getLast (List.ne_nil_of_mem hz),(List.dropLast_concat_getLast _).symm⟩;have hy:=h1 y (by simp);rcases Tbh.1 hz with hz | hz
  ·exact Zdg ((List.pairwise_append.1 u1).2.2 z hz y (by simp)) hy
  ·simp only [Tbj] at hz;subst hz;exact hy
 ·exact u3 z hz u hu
theorem ZxD {M1 M2 L:List Tm} {x:Tm} (e:M1++M2=ZbE L) (h2:∀ y∈M2,Zah x y<=0) (h1:∀ y,M1.getLast?=some y->Zah y x<=0):M1++x::M2=ZbE (L++[x]):=by
 have hu:Up (M1++M2):=by rw [e];exact ZdO _
 refine ZvO ?_ (ZxC hu h2 h1);refine List.perm_middle.trans ?_;rw [e];exact ((ZbP L).cons x).trans (List.perm_append_comm (l₁:=[x]) (l₂:=L))
mutual
def Zc1:Tm->Int->Int
 | .mk _ _ _ args,l=>Zbo args (l - 1)
def Zbo:List Tm->Int->Int
 | [],l=>l
 | t::ts,l=>if 0<=l then Zbo ts (Zc1 t l) else l
end
theorem ZvP:∀ l,Zbo [] l=l:=fun _=>by rw [Zbo]
mutual
theorem Zjx:∀ (t:Tm) (l:Int),0<=l->(-1<=Zc1 t l∧Zc1 t l<=l∧((sizeTm t:Int)<=l->Zc1 t l=l - sizeTm t)∧(l < sizeTm t->Zc1 t l < 0))
 | .mk _ _ _ args,l,hl=>by
  have:=ZfX args (l - 1) om;simp only [Zc1,sizeTm];refine ⟨this.1,om,fun h=>?_,fun h=>?_⟩
  ·have:=this.2.2.1 om;omega
  ·by_cases h1:0<=l - 1
   ·exact this.2.2.2 om
   ·have h2:=this.2.1;omega
theorem ZfX:∀ (ts:List Tm) (l:Int),-1<=l->(-1<=Zbo ts l∧Zbo ts l<=l∧((sizeTms ts:Int)<=l->Zbo ts l=l - sizeTms ts)∧(l < sizeTms ts->Zbo ts l < 0))
 | [],l,hl=>by simp only [Zbo,sizeTms];omega
 | t::ts,l,hl=>by
  simp only [Zbo,sizeTms];by_cases h0:0<=l
  ·rw [if_pos h0];have h1:=Zjx t l h0;have h2:=ZfX ts (Zc1 t l) h1.1;refine ⟨h2.1,om,fun h=>?_,fun h=>?_⟩
   ·have e1:=h1.2.2.1 om;have e2:=h2.2.2.1 om;omega
   ·by_cases h3:(sizeTm t:Int)<=l
    ·have e1:=h1.2.2.1 h3;exact h2.2.2.2 om
    ·have e1:=h1.2.2.2 om;omega
  ·rw [if_neg h0];have:=Zbp ts;refine ⟨hl,Int.le_refl _,fun h=>om,fun h=>om⟩
end
theorem Zjy {ts:List Tm} {l:Int} (h:¬ 0<=l):Zbo ts l=l:=by
 cases ts with
 | nil=>rfl
 | cons t ts=>simp only [Zbo,if_neg h]
theorem ZgF:∀ (a b:List Tm) (l:Int),Zbo (a++b) l=Zbo b (Zbo a l)
 | [],b,l=>rfl
 | t::ts,b,l=>by
  simp only [Taf,Zbo];by_cases h:0<=l
  ·rw [if_pos h,if_pos h,ZgF]
  ·rw [if_neg h,if_neg h,Zjy h]
theorem Zoj {ts:List Tm} {i:Nat} {t:Tm} {l:Int} (h:ts[i]?=some t) (h0:0<=Zbo (ts.take i) l):Zbo (ts.take (i+1)) l=Zc1 t (Zbo (ts.take i) l):=by
 rw [Zcj h,ZgF];simp only [Zbo,if_pos h0]
theorem Zok {ts:List Tm} {i:Nat} {l:Int} (h0:¬ 0<=Zbo (ts.take i) l):Zbo ts l=Zbo (ts.take i) l:=by
 conv=>lhs;rw [<- Tbm i ts]
 rw [ZgF,Zjy h0]
theorem ZvQ (t:Tm) (l:Int):Zc1 t l=Zbo t.args (l - 1):=by cases t;simp only [Zc1,Tm.args]
theorem ZlR:∀ (n:Nat) (t:Tm) (l:Int),sizeTm t < n->sizeTm t<=big->0<=l->l<=60->Con e0 84 [.agg (Zaa t),.one (.lit (.int .i64 l))] [.one (.lit (.int .i64 (Zc1 t l)))]:=by
 intro n
 induction n with
 | zero=>intro t l h;omega
 | succ n ih =>
  intro t l hn hb hl0 hl1;have hsz:=ZaN t;have hal:=Zbp t.args;unfold big at hb;have hw:IntKind.i64.wrap (l - 1)=l - 1:=Za2 rfl om om;rw [ZvQ];refine gI 65591 Tryz.func84 ?_;refine fG (ai @tmz @hw) ?_;have F:=@ZvP;refine gL (ι:=Nat) [1,5,16] [] (fun i=>[(5,A.d (.one (.lit (.int .i64 i)))),(1,A.d (.one (.lit (.int .i64 (Zbo (t.args.take i) (l - 1))))))]) (fun i=>[]) (fun i=>i<=t.args.length) (fun i=>t.args.length - i) (0) om (fun i hi=>?_);clear F
  have hsp:=ZfX (t.args.take i) (l - 1) om;by_cases hl:i < t.args.length;rotate_left
  ·have hl':¬ ((i:Int) < (t.args.length:Int)):=om;have e:t.args.take i=t.args:=List.take_of_length_le om;exact fT (aj3 @hl' @e @tmz)
  have hl':(i:Int) < (t.args.length:Int):=om;by_cases h0:0<=Zbo (t.args.take i) (l - 1);rotate_left
  ·have e:=Zok h0;exact fT (aj4 @hl' @h0 @e @tmz)
  obtain ⟨a,ha⟩:∃ a,t.args[i]?=some a:=⟨_,Taa hl⟩;have hm:=ZaV (Tac ha);have hw1:=Zaq (k:=i) om;have hs:=Zoj ha h0;refine fB (aj4 @hl' @h0 @tmz @ha) ?_;refine fC (ai @tmz @ha) (ih a _ om (by unfold big;omega) h0 om) ?_;refine fR @tmz ?_;have F:=aj3 @hw1 @hs @tmz;refine gG ?_;exact ⟨i+1,om,gw,gw,om⟩
theorem Zmw {t:Tm}:0<=Zc1 t 60 ↔ sizeTm t<=60:=by
 have:=Zjx t 60 om;by_cases h:sizeTm t<=60
 ·have:=this.2.2.1 om;omega
 ·have:=this.2.2.2 om;omega
theorem Ze1 {t:Tm} (hb:sizeTm t<=big):Con e0 45 [.agg (Zaa t)] [.one (.lit (.bool (decide (sizeTm t<=60∧depthTm t<=20))))]:=by
 refine gI 7 Tryz.func45 ?_;refine fB @tmz ?_;refine fC @tmz (ZlR _ t 60 (Tan _) hb om om) ?_;by_cases h1:sizeTm t<=60;rotate_left
 ·have h1':¬ (0<=Zc1 t 60):=fun h=>h1 (Zmw.1 h);refine fR (ai @tmz @h1') ?_;exact fT @h1
 have h1':(0<=Zc1 t 60):=Zmw.2 h1;refine fC (ai @tmz @h1') (Zm2 hb) ?_;by_cases h2:depthTm t<=20
 ·have h2':((depthTm t:Int)<=20):=om;refine fR (ai @tmz @h2') ?_;exact fT (ai @h1 @h2)
 ·have h2':¬ ((depthTm t:Int)<=20):=om;refine fR (ai @tmz @h2') ?_;exact fT (ai @h1 @h2)
section
variable {g:Sgn}
open Classical in
noncomputable def ZdP (g:Sgn) (t:Tm):Bool:=decide (Zcm g t)
theorem Ze2 {t:Tm} (h:Zcm g t):ZdP g t=true:=by simp [ZdP,h]
theorem Zol {t:Tm} (h:¬ Zcm g t):ZdP g t=false:=by simp [ZdP,h]
theorem ZkZ {t:Tm}:ZdP g t=true ↔ Zcm g t:=by simp [ZdP]
theorem Zk0 (hg:SgnOk g) {t:Tm} (hok:okTm t) (hb:sizeTm t<=big):Con e0 86 [.agg (Zaf g),.agg (Zaa t)] [.one (.lit (.bool (ZdP g t)))]:=by
 have hno:¬ Zcm g t->ZdP g t=false:=Zol;obtain ⟨k1,k2,k3,k4⟩:=Zei.1 hok;have hsz:=ZaN t;have hal:=Zbp t.args;have hn8:=hg.sorts.n8;have hn1:=hg.sorts.n1;have hln:=hg.len;unfold big at hb;have hwn:IntKind.i64.wrap ((g.sorts.names.length:Int) - 1)=(g.sorts.names.length:Int) - 1:=Za2 rfl om om;have hwo:IntKind.i64.wrap ((g.ops.length:Int) - 1)=(g.ops.length:Int) - 1:=Za2 rfl om om;refine gI 9444733036108034605695 Tryz.func86 ?_
 by_cases h1:t.op=-1
 ·have hV:Zcm g t->ZcQ g t:=fun h=>by
   rcases h with h | ⟨o,d,h⟩
   ·exact h
   ·exact absurd h1 h.op
  refine fB (aj3 @tmz @Zbh @h1) ?_;refine fC @tmz (ZfS k2) ?_;by_cases h2:Za6 t.name=true;rotate_left
  ·have h2':Za6 t.name=false:=by simpa using h2
   have hf:=hno fun h=>h2 (hV h).2.1;refine fR (ai @tmz @h2') ?_;exact fT @hf
  refine fC (aj3 @tmz @h2 @hwn) (Zcf _ _ _) ?_;by_cases h3:0<=t.sort∧t.sort < g.sorts.names.length;rotate_left
  ·have h3':decide (0<=t.sort∧t.sort<=(g.sorts.names.length:Int) - 1)=false:=by simp only [decide_eq_false_iff_not];omega
   have hf:=hno fun h=>h3 ⟨(hV h).2.2.1,(hV h).2.2.2.1⟩;refine fR (ai @tmz @h3') ?_;exact fT @hf
  have h3':decide (0<=t.sort∧t.sort<=(g.sorts.names.length:Int) - 1)=true:=by simp only [decide_eq_true_eq];omega
  by_cases h4:t.args=[]
  ·have hT:=Ze2 (g:=g) (.inl ⟨h1,h2,h3.1,h3.2,h4⟩);refine fR (aj3 @tmz @h3' @h4) ?_;exact fT @hT
  ·have hf:=hno fun h=>h4 (hV h).2.2.2.2;have h4':¬ ((t.args.length:Int)=0):=by
    intro h;apply h4;apply Tao;omega
   refine fR (aj3 @tmz @h3' @h4') ?_;exact fT @hf
 refine fB (aj3 @tmz @Zbh @h1) ?_;refine fC (ai @tmz @hwo) (Zcf _ _ _) ?_;by_cases h2:0<=t.op∧t.op < g.ops.length;rotate_left
 ·have h2':decide (0<=t.op∧t.op<=(g.ops.length:Int) - 1)=false:=by simp only [decide_eq_false_iff_not];omega
  have hf:=hno fun h=>by
   obtain ⟨o,d,h⟩:=h.app h1;have:=(Tad.1 h.at').1;have:=h.lo;omega
  refine fR (ai @tmz @h2') ?_;exact fT @hf
 have h2':decide (0<=t.op∧t.op<=(g.ops.length:Int) - 1)=true:=by simp only [decide_eq_true_eq];omega
 by_cases h4:t.name=ByteArray.empty;rotate_left
 ·have hf:=hno fun h=>by
   obtain ⟨o,d,h⟩:=h.app h1;exact h4 h.nm
  refine fR (aj4 @tmz @h2' @ZdW @h4) ?_;exact fT @hf
 by_cases h5:t.sort=0;rotate_left
 ·have hf:=hno fun h=>by
   obtain ⟨o,d,h⟩:=h.app h1;exact h5 h.so
  refine fR (aj5 @tmz @h2' @ZdW @h4 @h5) ?_;exact fT @hf
 have h0:=h2.1;obtain ⟨o,ho⟩:∃ o,g.ops[t.op.toNat]?=some o:=⟨_,Taa om⟩;obtain ⟨d,hd,hr0,hr1,hargs⟩:=hg.first ho;have hgt:Zcm g t->AppOk g t o d:=fun h=>by
  obtain ⟨o',d',h⟩:=h.app h1;have e1:=h.at';rw [ho] at e1;injection e1 with e1
  subst e1;have e2:=h.fst;rw [hd] at e2;injection e2 with e2
  subst e2;exact h
 have cA:=ZcF hd;rw [ZaT] at cA;refine fR (aj5 @tmz @h2' @ZdW @h4 @h5) ?_;refine fG (aj4 @tmz @h0 @ho @Zae) ?_
 cases ha:o.assoc with
 | false =>
  rw [ha] at cA;refine gB ?_;refine fC (ai @tmz @ha) (cA) ?_;by_cases c:t.args.length=d.args.length
  ·have hT:=Ze2 (g:=g) (.inr ⟨o,d,h0,ho,hd,h4,h5,fun h=>(by rw [ha] at h;cases h),fun _=>c⟩);have c':((t.args.length:Int)=(d.args.length:Int)):=om;refine fR (aj3 @tmz @c' @ha) ?_;exact fT @hT
  ·have hf:=hno fun h=>c ((hgt h).nas ha);have c':¬ ((t.args.length:Int)=(d.args.length:Int)):=om;refine fR (aj3 @tmz @c' @ha) ?_;exact fT @hf
 | true =>
  refine gB ?_;refine fC (ai @tmz @ha) (Zcf _ _ _) ?_;by_cases c:2<=t.args.length∧t.args.length<=7
  ·have hT:=Ze2 (g:=g) (.inr ⟨o,d,h0,ho,hd,h4,h5,fun _=>c,fun h=>(by rw [ha] at h;cases h)⟩);have c':decide ((2:Int)<=(t.args.length:Int)∧(t.args.length:Int)<=7)=true:=by simp only [decide_eq_true_eq];omega
   refine fR (aj3 @tmz @c' @ha) ?_;exact fT @hT
  ·have hf:=hno fun h=>c ((hgt h).asc ha);have c':decide ((2:Int)<=(t.args.length:Int)∧(t.args.length:Int)<=7)=false:=by simp only [decide_eq_false_iff_not];omega
   refine fR (aj3 @tmz @c' @ha) ?_;exact fT @hf
end
section
variable {g:Sgn}
open Classical in
noncomputable def ZdX (g:Sgn) (op:Int) (args:List Tm):Bool:=decide (Zi3 g op args)
theorem Zfb (hg:SgnOk g) {op:Int} {o:Opr} (ho:g.ops[op.toNat]?=some o) (hu:o.unit≠0) {a:Tm} (ha:Zaw g a) (hop:a.op=o.unit - 1):a=ZaI o:=by
 have hax:=hg.axs o (Tac ho);have hlo:=hax.lo;obtain ⟨p,u,h⟩:=ha.node.app om;obtain ⟨d,hd,_⟩:=hg.first ho;have e:a.op.toNat=o.unit.toNat - 1:=om;have hz:u.args.length=0:=by
  have h2:=hax.two (.inr (.inr hu)) d hd;obtain ⟨d0,hd0⟩:∃ x,d.args[0]?=some x:=⟨_,Taa om⟩;obtain ⟨d1,hd1⟩:∃ x,d.args[1]?=some x:=⟨_,Taa om⟩;exact ((h2.2 d0 d1 hd0 hd1).2.2 hu p u (by rw [<- e];exact h.at') h.fst).1
 have has:p.assoc=false:=by
  cases hp:p.assoc with
  | false=>rfl
  | true =>
   have:=((hg.axs p (Tac h.at')).two (.inl hp) u h.fst).1;omega
 have hl:=h.nas has;have hnil:a.args=[]:=Tao om;have hnm:=h.nm;have hso:=h.so
 cases a with
 | mk x n s l =>
  simp only [Tm.args,Tm.name,Tm.sort,Tm.op] at *;subst hnil hnm hso hop;simp only [ZaI,if_neg hu]
theorem Zip {o:Opr} (h0:0<=o.unit) (h1:o.unit<=14):okTm (ZaI o):=by
 rw [Zei];simp only [ZaI,Tm.op,Tm.name,Tm.sort,Tm.args,Zax,and_true];refine ⟨?_,by simp [maxLen],?_⟩
 ·unfold I64;split <;> omega
 ·unfold I64;omega
theorem ZpF (hokg:Zbv g) (hg:SgnOk g) {t:Tm} {o:Opr} {d:Dcl} (hA:AppOk g t o d) (hF:∀ a∈t.args,Zaw g a) (hok:okTm t) (hb:sizeTm t<=big):Con e0 87 [.agg (Zaf g),.agg (Zaa t)] [.one (.lit (.bool (ZdX g t.op t.args)))]:=by
 have hno:¬ Zi3 g t.op t.args->ZdX g t.op t.args=false:=fun h=>by simp [ZdX,h]
 obtain ⟨k1,k2,k3,k4⟩:=Zei.1 hok;have hsz:=ZaN t;have hal:=Zbp t.args;unfold big at hb;have h0:=hA.lo;have ho:=hA.at';have hd:=hA.fst;obtain ⟨d',hd',hr0,hr1,hargs⟩:=hg.first ho;rw [hd] at hd';injection hd' with hd'
 subst hd';have hax:=hg.axs o (Tac ho);have hlo:=hax.lo;have hhi:=hax.hi;have hln:=hg.len;have cK:=Zdy hg.sorts;rw [Za3] at cK;have cUn:=ZkT hg h0 ho;rw [Zaf] at cUn;have hnoA:∀ (i:Nat) a,t.args[i]?=some a->¬ ArgOk g t.op o d t.args i a->ZdX g t.op t.args=false:=fun i a ha h=>hno fun hR=>h (hR o d ho hd i a ha);refine gI 9903595872146772515857895423 Tryz.func87 ?_;refine fB (aj5 @tmz @Zbh @h0 @ho @Zae) ?_
 refine fC @tmz (cK) ?_;refine fR @tmz ?_;refine fB @tmz ?_;refine fC @tmz (cUn) ?_;refine fR @tmz ?_;refine fG @tmz ?_;have F:=@e0P;refine gL (ι:=Nat) [4,9,10,11,32,42,76,93] [] (fun i=>[(9,A.d (.one (.lit (.int .i64 i))))]) (fun i=>[]) (fun i=>i<=t.args.length∧∀ (j:Nat) a,j < i->t.args[j]?=some a->ArgOk g t.op o d t.args j a) (fun i=>t.args.length - i) (0) (⟨om,fun j a h=>absurd h om⟩) (fun i hi=>?_);clear F
 obtain ⟨hil,hall⟩:=hi;by_cases hl:i < t.args.length;rotate_left
 ·have hl':¬ ((i:Int) < (t.args.length:Int)):=om;have hT:ZdX g t.op t.args=true:=by
   simp only [ZdX,decide_eq_true_eq];intro o' d' ho' hd' j a hj;rw [ho] at ho';injection ho' with ho'
   subst ho';rw [hd] at hd';injection hd' with hd'
   subst hd';exact hall j a (by have:=(Tad.1 hj).1;omega) hj
  exact fT (aj3 @tmz @hl' @hT)
 have hl':(i:Int) < (t.args.length:Int):=om;obtain ⟨a,ha⟩:∃ a,t.args[i]?=some a:=⟨_,Taa hl⟩;have hm:=Tac ha;have hFa:=hF a hm;have hw1:=Zaq (k:=i) om;obtain ⟨k,hk⟩:=Zgj hg ho hd hA.nas hl;obtain ⟨hk0,hk1⟩:=hargs k (Tac hk);have hkd:=Zfa hg.sorts hk0 hk1;have cKa:=Zfu hokg hg hFa.node;rw [Zaf] at cKa;have cU:=Zdo (k4.mem hm) (Zip (o:=o) hlo om);have hUiff:o.unit≠0->(Zah a (ZaI o)=0 ↔ a.op=o.unit - 1):=fun hu=>by
  rw [ZcZ];constructor
  ·rintro h;rw [h];simp [ZaI,Tm.op,hu]
  ·exact Zfb hg ho hu hFa
 generalize hU:decide (Zah a (ZaI o)=0)=U at cU;have hnext:Zbt g a=((kd g.sorts k:Nat):Int)->(o.assoc=true->¬ a.op=t.op)->(o.unit≠0->U=false)->(o.comm=true->∀ (j:Nat) p,i=j+1->t.args[j]?=some p->Zah p a<=0)->i+1<=t.args.length∧∀ (j:Nat) a,j < i+1->t.args[j]?=some a->ArgOk g t.op o d t.args j a:=fun hkk hne hU' hc=>⟨om,fun j a' hj ha'=>by
  by_cases e:j=i
  ·subst e;rw [ha] at ha';injection ha' with ha'
   subst ha';refine ⟨fun k' hk'=>?_,hne,fun h1 h2=>?_,hc⟩
   ·rw [hk] at hk';injection hk' with hk'
    subst hk';exact hkk
   ·have:=hU' h1;rw [this] at hU;simp only [decide_eq_false_iff_not] at hU;exact hU ((hUiff h1).2 h2)
  ·exact hall j a' om ha'⟩
 have hkN:d.args[(argAt o i:Nat)]?=some k:=hk;refine fG (aj3 @tmz @hl' @ha) ?_;refine gM (ι:=Unit) [11] [] (fun u=>[(11,A.d (.one (.lit (.int .i64 (argAt o i:Nat)))))]) (fun u=>[]) (fun u=>True) ?_ (fun u hu=>Exists.intro _ (ai (Wk.refl _) ?_))
 ·rcases Bool.eq_false_or_eq_true o.assoc with hac | hac
  ·have F:=aj3 @Zae @hac @ZfF;refine gG ?_;exact ⟨(),trivial,gw,gw⟩
  ·have F:=aj4 @Zae @hac @ZfF @if_false.{1};refine gG ?_;exact ⟨(),trivial,gw,gw⟩
 refine fG @tmz ?_;refine gM (ι:=Bool) [76] [] (fun x=>[(76,A.d (.one (.lit (.bool x))))]) (fun x=>[]) (fun x=>(x=true->ZdX g t.op t.args=false)∧(x=false->Zbt g a=((kd g.sorts k:Nat):Int)∧(o.assoc=true->¬ a.op=t.op)∧(o.unit≠0->U=false))) ?_ (fun x hx=>Exists.intro _ (ai (Wk.refl _) ?_))
 ·refine gB ?_;refine fC @tmz (cKa) ?_;by_cases hkk:Zbt g a=((kd g.sorts k:Nat):Int);rotate_left
  ·have hf:=hnoA i a ha fun h=>hkk (h.kind k hk);refine fR (aj9 @tmz @Zae @hd @ZaJ @hkN @hk0 @hkd @Zai @hkk) ?_;have F:=@tmz;refine gG ?_;exact ⟨true,⟨fun _=>hf,fun h=>by cases h⟩,gw,gw⟩
  by_cases hN:o.assoc=true∧a.op=t.op
  ·have hf:=hnoA i a ha fun h=>h.nest hN.1 hN.2;obtain ⟨hN1,hN2⟩:=hN;refine fR (aj11 @tmz @Zae @hd @ZaJ @hkN @hk0 @hkd @Zai @hkk @hN1 @hN2) ?_;have F:=ai @tmz @hN1;refine gG ?_;exact ⟨true,⟨fun _=>hf,fun h=>by cases h⟩,gw,gw⟩
  have hne:o.assoc=true->¬ a.op=t.op:=fun h1 h2=>hN ⟨h1,h2⟩;rcases Bool.eq_false_or_eq_true o.assoc with hac | hac
  all_goals (
   by_cases hu:o.unit=0
   ·refine fR (aj12 @tmz @Zae @hd @ZaJ @hkN @hk0 @hkd @Zai @hkk @hac @hne @hu) ?_;have F:=aj3 @tmz @hac @hu;refine gG ?_;exact ⟨false,⟨fun h=>(by cases h),fun _=>⟨hkk,hne,fun h=>absurd hu h⟩⟩,gw,gw⟩
   refine fC (aj12 @tmz @Zae @hd @ZaJ @hkN @hk0 @hkd @Zai @hkk @hac @hne @hu) (cU) ?_;rcases Bool.eq_false_or_eq_true U with hub | hub
   ·have hf:=hnoA i a ha fun h=>by
     rw [hub] at hU;simp only [decide_eq_true_eq] at hU;exact h.unit hu ((hUiff hu).1 hU)
    refine fR (ai @tmz @hub) ?_;have F:=aj3 @tmz @hac @hu;refine gG ?_;exact ⟨true,⟨fun _=>hf,fun h=>by cases h⟩,gw,gw⟩
   ·refine fR (ai @tmz @hub) ?_
    (have F:=aj3 @tmz @hac @hu;refine gG ?_;exact ⟨false,⟨fun h=>(by cases h),fun _=>⟨hkk,hne,fun _=>hub⟩⟩,gw,gw⟩))
 cases x with
 | true =>
  have hf:=hx.1 rfl;exact fT @hf
 | false =>
  obtain ⟨hkk,hne,hub⟩:=hx.2 rfl;refine fG @tmz ?_;rcases Bool.eq_false_or_eq_true o.comm with hcm | hcm
  rotate_left
  ·have hq:=hnext hkk hne hub (fun h=>by rw [hcm] at h;cases h);have F:=aj4 @hw1 @tmz @Zae @hcm;refine gG ?_;exact ⟨i+1,hq,gw,gw,om⟩
  rcases Nat.eq_zero_or_pos i with hi0 | hi0
  ·have hq:=hnext hkk hne hub (fun _ j p h=>om);have hi0':¬ ((0:Int) < (i:Int)):=om;have F:=aj5 @hw1 @tmz @Zae @hcm @hi0';refine gG ?_;exact ⟨i+1,hq,gw,gw,om⟩
  obtain ⟨j,hj⟩:∃ j,i=j+1:=⟨i - 1,om⟩;obtain ⟨p,hp⟩:∃ p,t.args[j]?=some p:=⟨_,Taa om⟩;have cC:=Zd2 (k4.mem (Tac hp)) (k4.mem hm);have hgt0:(0:Int) < (i:Int):=om;have hsub:IntKind.i64.wrap ((i:Int) - 1)=(j:Int):=Za2 om om om;refine gB ?_;refine fC (aj6 @tmz @Zae @hcm @hgt0 @hsub @hp) (cC) ?_;by_cases hc:0 < Zah p a
  ·have hf:=hnoA i a ha fun h=>by have:=h.ord hcm j p hj hp;omega
   refine fR (ai @tmz @hc) ?_;exact fT @hf
  ·have hq:=hnext hkk hne hub (fun _ j' p' h hp'=>by
    have:j'=j:=om;subst this;rw [hp] at hp';injection hp' with hp'
    subst hp';omega)
   refine fR (ai @tmz @hc) ?_;have F:=aj4 @hw1 @tmz @Zae @hcm;refine gG ?_;exact ⟨i+1,hq,gw,gw,om⟩
theorem ZlS (hokg:Zbv g) (hg:SgnOk g):∀ (n:Nat) (t:Tm),sizeTm t < n->okTm t->sizeTm t<=big->Con e0 46 [.agg (Zaf g),.agg (Zaa t)] [.one (.lit (.bool (ZbO g t)))]:=by
 intro n
 induction n with
 | zero=>intro t h;omega
 | succ n ih =>
  intro t hn hok hb;have hno:¬ Zaw g t->ZbO g t=false:=Zij;obtain ⟨k1,k2,k3,k4⟩:=Zei.1 hok;have hsz:=ZaN t;have hal:=Zbp t.args;have cN:=Zk0 hg hok hb;have hb':=hb;unfold big at hb';rw [Zaf] at cN;have ih':=fun a h1 h2 h3=>ih a h1 h2 h3;simp only [Zaf] at ih';refine gI 16794175 Tryz.func46 ?_;refine fB (ai @tmz @Zbh) ?_;refine fC @tmz (cN) ?_;by_cases hN:ZdP g t=true;rotate_left
  ·have hf:=hno fun h=>hN (Ze2 h.node);have hN':ZdP g t=false:=by simpa using hN
   refine fR (ai @tmz @hN') ?_;exact fT @hf
  have hNd:=ZkZ.1 hN;refine fR (ai @tmz @hN) ?_;refine fG @tmz ?_;have F:=@e0P;refine gL (ι:=Nat) [4,5,14,24] [] (fun i=>[(5,A.d (.one (.lit (.int .i64 i))))]) (fun i=>[]) (fun i=>i<=t.args.length∧∀ (j:Nat) a,j < i->t.args[j]?=some a->Zaw g a) (fun i=>t.args.length - i) (0) (⟨om,fun j a h=>absurd h om⟩) (fun i hi=>?_);clear F;obtain ⟨hil,hall⟩:=hi;by_cases hl:i < t.args.length;rotate_left
  ·have hl':¬ ((i:Int) < (t.args.length:Int)):=om;have hF:∀ a∈t.args,Zaw g a:=fun a ha=>by
    obtain ⟨j,hj⟩:=Tbk ha;exact hall j a (by have:=(Tad.1 hj).1;omega) hj
   by_cases h1:t.op=-1
   ·have hT:=Zd5 (g:=g) (t:=t) (ZaK.2 ⟨hNd,hF,.inl h1⟩);exact fT (aj4 @tmz @hl' @h1 @hT)
   obtain ⟨o,d,hA⟩:=hNd.app h1;have cR:=ZpF hokg hg hA hF hok hb;rw [Zaf] at cR;have e:ZdX g t.op t.args=ZbO g t:=by
    unfold ZdX ZbO;congr 1;rw [ZaK];exact propext ⟨fun h=>⟨hNd,hF,.inr h⟩,fun h=>h.2.2.resolve_left h1⟩
   refine fB (aj3 @tmz @hl' @h1) ?_;refine fC (ai @tmz @h1) (cR) ?_;refine fR @tmz ?_;exact fT @e
  have hl':(i:Int) < (t.args.length:Int):=om;obtain ⟨a,ha⟩:∃ a,t.args[i]?=some a:=⟨_,Taa hl⟩;have hm:=Tac ha;have hsa:=ZaV hm;have hw1:=Zaq (k:=i) om;refine fB (aj3 @tmz @hl' @ha) ?_;refine fC (ai @tmz @ha) (ih' a om (k4.mem hm) (by unfold big;omega)) ?_;by_cases hfa:ZbO g a=true;rotate_left
  ·have hf:=hno fun h=>hfa (Zd5 ((ZaK.1 h).2.1 a hm));have hfa':ZbO g a=false:=by simpa using hfa
   refine fR (ai @tmz @hfa') ?_;exact fT @hf
  have hq:i+1<=t.args.length∧∀ (j:Nat) a,j < i+1->t.args[j]?=some a->Zaw g a:=⟨om,fun j a' hj ha'=>by
   by_cases e:j=i
   ·subst e;rw [ha] at ha';injection ha' with ha'
    subst ha';exact ZkS.1 hfa
   ·exact hall j a' om ha'⟩
  refine fR (ai @tmz @hfa) ?_;have F:=ai @hw1 @tmz;refine gG ?_;exact ⟨i+1,hq,gw,gw,om⟩
theorem Zk1 (hokg:Zbv g) (hg:SgnOk g) {t:Tm} (hok:okTm t) (hb:sizeTm t<=big):Con e0 46 [.agg (Zaf g),.agg (Zaa t)] [.one (.lit (.bool (ZbO g t)))]:=ZlS hokg hg _ t (Tan _) hok hb
theorem ZcG (hokg:Zbv g) {t:Tm} (hok:okTm t) (hb:sizeTm t<=big):Con e0 34 [.agg (Zaf g),.agg (Zaa t)] [.one (.lit (.bool (Zbq g && Za8 g t)))]:=by
 have cS:=Zd4 hokg;rw [Zaf] at cS;refine gI 31 Tryz.func34 ?_;refine fB (ai @tmz @Zbh) ?_;refine fC @tmz (cS) ?_;by_cases hs:Zbq g=true;rotate_left
 ·have hs':Zbq g=false:=by simpa using hs
  refine fR (ai @tmz @hs') ?_;exact fT @hs'
 have hg:=Zdj.1 hs;have cF:=Zk1 hokg hg hok hb;rw [Zaf] at cF;refine fC (ai @tmz @hs) (Ze1 hb) ?_;by_cases h1:sizeTm t<=60∧depthTm t<=20;rotate_left
 ·have hf:Za8 g t=false:=Zik fun h=>h1 ⟨h.size,h.depth⟩;have h1':decide (sizeTm t<=60∧depthTm t<=20)=false:=by simp only [decide_eq_false_iff_not];exact h1
  refine fR (aj3 @tmz @h1' @hs) ?_;exact fT (ai @hs @hf)
 have h1':decide (sizeTm t<=60∧depthTm t<=20)=true:=by simp only [decide_eq_true_eq];exact h1
 have e:=Zju (g:=g) h1.1 h1.2;refine fC (aj3 @tmz @h1' @hs) (cF) ?_;refine fR (aj3 @tmz @h1' @hs) ?_;exact fT (ai @hs @e)
end
def ZaY (o:Opr) (op:Int) (a:Tm):List Tm:=if o.assoc=true∧a.op=op then a.args else if o.unit≠0∧a.op=o.unit - 1 then [] else [a]
def Zan (o:Opr) (op:Int) (xs:List Tm):List Tm:=xs.flatMap (ZaY o op)
def KArg (g:Sgn) (o:Opr) (d:Dcl) (i:Nat) (a:Tm):Prop:=∃ k,d.args[argAt o i]?=some k∧Zbt g a=kd g.sorts k
def srtO (o:Opr) (l:List Tm):List Tm:=if o.comm=true then ZbE l else l
def appT (op:Int) (l:List Tm):Tm:=.mk op ByteArray.empty 0 l
def BigT (o:Opr) (op:Int) (l:List Tm):Prop:=(o.assoc=true∧7 < l.length)∨60 < sizeTm (appT op l)∨20 < depthTm (appT op l)
def ArB (o:Opr) (d:Dcl) (n:Nat):Prop:=(o.assoc=true∧n < 2)∨(o.assoc=false∧n≠d.args.length)
open Classical in
noncomputable def mkL (o:Opr) (op:Int) (l:List Tm):Option Tm:=if o.unit≠0∧l.length < 2 then some (l.headD (ZaI o)) else if BigT o op (srtO o l) then none else some (appT op (srtO o l))
open Classical in
noncomputable def mkO (g:Sgn) (o:Opr) (d:Dcl) (op:Int) (xs:List Tm):Option Tm:=if ArB o d xs.length then none else if ∀ (i:Nat) a,xs[i]?=some a->KArg g o d i a then mkL o op (Zan o op xs) else none
noncomputable def mkT (g:Sgn) (op:Int) (xs:List Tm):Option Tm:=match g.ops[op.toNat]? with
 | none=>none
 | some o=>match o.decls[0]? with
  | none=>none
  | some d=>mkO g o d op xs
theorem Ziq {g:Sgn} {op:Int} {o:Opr} {d:Dcl} (ho:g.ops[op.toNat]?=some o) (hd:o.decls[0]?=some d) (xs:List Tm):mkT g op xs=mkO g o d op xs:=by simp only [mkT,ho,hd]
theorem Zjz {o:Opr} {op:Int} {xs:List Tm} {i:Nat} {a:Tm} (h:xs[i]?=some a):Zan o op (xs.take (i+1))=Zan o op (xs.take i)++ZaY o op a:=by
 rw [ZfW h];simp [Zan]
theorem Zgl (o:Opr) (op:Int) (xs:List Tm) (i:Nat):(Zan o op (xs.take i)).length<=(Zan o op xs).length:=by
 have:Zan o op xs=Zan o op (xs.take i)++Zan o op (xs.drop i):=by
  unfold Zan;rw [<- List.flatMap_append,Tbm]
 rw [this,Tae];omega
theorem ZdQ (o:Opr) (l:List Tm):(srtO o l).Perm l:=by
 unfold srtO;split
 ·exact ZbP l
 ·exact List.Perm.refl _
theorem ZeM (o:Opr) (l:List Tm):(srtO o l).length=l.length:=(ZdQ o l).length_eq
theorem Zir {l m:List Tm} (h:l.Perm m):sizeTms l=sizeTms m:=by
 induction h with
 | nil=>rfl
 | cons x h ih=>simp only [sizeTms,ih]
 | swap x y l=>simp only [sizeTms];omega
 | trans h1 h2 a b=>rw [a,b]
theorem Zfj {l m:List Tm} (h:l.Perm m):depthTms l=depthTms m:=by
 induction h with
 | nil=>rfl
 | cons x h ih=>simp only [depthTms,ih]
 | swap x y l=>simp only [depthTms];omega
 | trans h1 h2 a b=>rw [a,b]
theorem Opr.two {g:Sgn} (hg:SgnOk g) {i:Nat} {o:Opr} {d:Dcl} (ho:g.ops[i]?=some o) (hd:o.decls[0]?=some d) (h:o.assoc=true∨o.comm=true∨o.unit≠0):∃ k1 k2,d.args=[k1,k2]∧kd g.sorts k1=kd g.sorts k2∧((o.assoc=true∨o.unit≠0)->kd g.sorts k1=kd g.sorts d.res):=by
 have h2:=(hg.axs o (Tac ho)).two h d hd;obtain ⟨a,b,hab⟩:=ZkH h2.1;have h3:=h2.2 a b (by rw [hab];rfl) (by rw [hab];rfl);exact ⟨a,b,hab,h3.1,h3.2.1⟩
theorem ZvR {g:Sgn} (hg:SgnOk g) {i:Nat} {o:Opr} {d:Dcl} (ho:g.ops[i]?=some o) (hd:o.decls[0]?=some d) (hu:o.unit≠0):TermOk g (ZaI o)∧Zbt g (ZaI o)=kd g.sorts d.res:=by
 have hax:=hg.axs o (Tac ho);have hlo:=hax.lo;have hhi:=hax.hi;obtain ⟨k1,k2,hk,_⟩:=Opr.two hg ho hd (.inr (.inr hu));obtain ⟨p,hp⟩:∃ p,g.ops[o.unit.toNat - 1]?=some p:=⟨_,Taa om⟩;obtain ⟨u,hfu,_⟩:=hg.first hp;have h2:=((hax.two (.inr (.inr hu)) d hd).2 k1 k2 (by rw [hk];rfl) (by rw [hk];rfl)).2.2 hu p u hp hfu;have e:ZaI o=.mk (o.unit - 1) ByteArray.empty 0 []:=by simp only [ZaI,if_neg hu]
 have hop:((o.unit - 1:Int)).toNat=o.unit.toNat - 1:=om;have has:p.assoc=false:=by
  cases hpa:p.assoc with
  | false=>rfl
  | true=>have:=((hg.axs p (Tac hp)).two (.inl hpa) u hfu).1;omega
 have hA:AppOk g (ZaI o) p u:=by
  rw [e];exact ⟨by simp only [Tm.op];omega,by simp only [Tm.op];rw [hop];exact hp,hfu,rfl,rfl,fun h=>(by rw [has] at h;cases h),fun _=>by simp only [Tm.args,Tak];omega⟩
 refine ⟨⟨?_,?_,ZaK.2 ⟨.inr ⟨p,u,hA⟩,?_,.inr ?_⟩⟩,?_⟩
 ·rw [e];simp only [sizeTm,sizeTms];omega
 ·rw [e];simp only [depthTm,depthTms];omega
 ·rw [e];intro a ha;simp [Tm.args] at ha
 ·rw [e];intro o' d' _ _ j a ha;simp [Tm.args] at ha
 ·have hneg:¬ ((ZaI o).op=-1):=hA.op;rw [Zbt,if_neg hneg,e];simp only [Tm.op];rw [Zho (by rw [hop];exact hp) hfu,h2.2]
structure FlOk (g:Sgn) (o:Opr) (op:Int) (b:Tm):Prop where
 form:Zaw g b
 size:sizeTm b<=60
 depth:depthTm b<=20
 nest:o.assoc=true->b.op≠op
 unit:o.unit≠0->b.op≠o.unit - 1
theorem ZA5 {g:Sgn} (hg:SgnOk g) {op:Int} {o:Opr} {d:Dcl} (h0:0<=op) (ho:g.ops[op.toNat]?=some o) (hd:o.decls[0]?=some d) {a:Tm} (ha:TermOk g a):∀ b∈ZaY o op a,FlOk g o op b:=by
 intro b hb;unfold ZaY at hb;split at hb
 ·rename_i h;obtain ⟨h1,h2⟩:=h;obtain ⟨_,f2,f3⟩:=ZaK.1 ha.form;have hR:=f3.resolve_left om;rw [h2] at hR;obtain ⟨j,hj⟩:=Tbk hb;have hA:=hR o d ho hd j b hj;have s1:=ZaV hb;have s2:=ZdN hb;have s3:=ha.size;have s4:=ha.depth;rw [ZaN] at s3;rw [Zcy] at s4;exact ⟨f2 b hb,om,om,hA.nest,hA.unit⟩
 ·rename_i h;split at hb
  ·simp at hb
  ·rename_i h';simp only [Tbj] at hb;subst hb;exact ⟨ha.form,ha.size,ha.depth,fun h1 h2=>h ⟨h1,h2⟩,fun h1 h2=>h' ⟨h1,h2⟩⟩
theorem ZvS {g:Sgn} (hg:SgnOk g) {op:Int} {o:Opr} {d:Dcl} (h0:0<=op) (ho:g.ops[op.toNat]?=some o) (hd:o.decls[0]?=some d) {xs:List Tm} (ha:∀ a∈xs,TermOk g a):∀ b∈Zan o op xs,FlOk g o op b:=by
 intro b hb;obtain ⟨a,h1,h2⟩:=List.mem_flatMap.1 hb;exact ZA5 hg h0 ho hd (ha a h1) b h2
theorem Zz0 {g:Sgn} (hg:SgnOk g) {op:Int} {o:Opr} {d:Dcl} {k1 k2:Int} (h0:0<=op) (ho:g.ops[op.toNat]?=some o) (hd:o.decls[0]?=some d) (hk:d.args=[k1,k2]) (hkk:kd g.sorts k1=kd g.sorts k2) {a:Tm} (ha:TermOk g a) {i:Nat} (hK:KArg g o d i a):∀ b∈ZaY o op a,Zbt g b=kd g.sorts k1:=by
 have hat:∀ (j:Nat) k,d.args[j]?=some k->kd g.sorts k=kd g.sorts k1:=fun j k h=>by
  rw [hk] at h
  match j,h with
  | 0,h=>simp only [Tat,Taq] at h;rw [h]
  | 1,h=>simp only [Tau,Tat,Taq] at h;rw [<- h,hkk]
  | j+2,h=>simp at h
 intro b hb;unfold ZaY at hb;split at hb
 ·rename_i h;obtain ⟨h1,h2⟩:=h;obtain ⟨_,f2,f3⟩:=ZaK.1 ha.form;have hR:=f3.resolve_left om;rw [h2] at hR;obtain ⟨j,hj⟩:=Tbk hb;exact (hR o d ho hd j b hj).kind k1 (by rw [argAt,if_pos h1,hk];rfl)
 ·split at hb
  ·simp at hb
  ·simp only [Tbj] at hb;subst hb;obtain ⟨k,h1,h2⟩:=hK;rw [h2,hat _ _ h1]
theorem ZjA {g:Sgn} (hg:SgnOk g) {op:Int} {o:Opr} {d:Dcl} {k1 k2:Int} (h0:0<=op) (ho:g.ops[op.toNat]?=some o) (hd:o.decls[0]?=some d) (hk:d.args=[k1,k2]) (hkk:kd g.sorts k1=kd g.sorts k2) {xs:List Tm} (ha:∀ a∈xs,TermOk g a) (hK:∀ (i:Nat) a,xs[i]?=some a->KArg g o d i a):∀ b∈Zan o op xs,Zbt g b=kd g.sorts k1:=by
 intro b hb;obtain ⟨a,h1,h2⟩:=List.mem_flatMap.1 hb;obtain ⟨i,hi⟩:=Tbk h1;exact Zz0 hg h0 ho hd hk hkk (ha a h1) (hK i a hi) b h2
theorem ZvT {o:Opr} {op:Int} (has:o.assoc=false) (a:Tm):(ZaY o op a).length<=1∧((ZaY o op a).length=1->ZaY o op a=[a]):=by
 unfold ZaY;rw [if_neg fun h=>by rw [has] at h;cases h.1];split <;> simp
theorem ZfY {o:Opr} {op:Int} (has:o.assoc=false):∀ (xs:List Tm),(Zan o op xs).length<=xs.length∧((Zan o op xs).length=xs.length->Zan o op xs=xs)
 | []=>⟨Tai _,fun _=>rfl⟩
 | a::xs=>by
  obtain ⟨i1,i2⟩:=ZfY (op:=op) has xs;obtain ⟨j1,j2⟩:=ZvT (op:=op) has a;have e:Zan o op (a::xs)=ZaY o op a++Zan o op xs:=rfl;rw [e,Tae,Tag];refine ⟨om,fun h=>?_⟩;rw [j2 om,i2 om];rfl
theorem ZgG {o:Opr} {op:Int} (has:o.assoc=false) (hu:o.unit=0) (xs:List Tm):Zan o op xs=xs:=by
 induction xs with
 | nil=>rfl
 | cons a xs ih =>
  have e:Zan o op (a::xs)=ZaY o op a++Zan o op xs:=rfl;rw [e,ih];unfold ZaY;rw [if_neg (fun h=>by rw [has] at h;cases h.1),if_neg fun h=>h.1 hu];rfl
theorem Zk2 {o:Opr} {op:Int} {g:Sgn} (hg:SgnOk g) (h0:0<=op) (ho:g.ops[op.toNat]?=some o) (hac:o.assoc=true) (hu:o.unit=0):∀ {xs:List Tm},(∀ a∈xs,TermOk g a)->xs.length<=(Zan o op xs).length
 | [],_=>Tai _
 | a::xs,ha=>by
  have ih:=Zk2 hg h0 ho hac hu (xs:=xs) fun x hx=>ha x (Tal _ hx);have e:Zan o op (a::xs)=ZaY o op a++Zan o op xs:=rfl;rw [e,Tae,Tag];have:1<=(ZaY o op a).length:=by
   unfold ZaY;split
   ·rename_i h;obtain ⟨o',d',hA⟩:=(ha a Tas).form.node.app om;have:o'=o:=by have:=hA.at';rw [h.2,ho] at this;injection this with this;exact this.symm
    subst this;have:=(hA.asc hac).1;omega
   ·rw [if_neg fun h=>h.1 hu];simp
  omega
theorem ZAH {g:Sgn} (hg:SgnOk g) {op:Int} {o:Opr} {d:Dcl} (h0:0<=op) (ho:g.ops[op.toNat]?=some o) (hd:o.decls[0]?=some d) {xs:List Tm} (ha:∀ a∈xs,TermOk g a) {t:Tm} (h:mkO g o d op xs=some t):TermOk g t∧Zbt g t=kd g.sorts d.res:=by
 unfold mkO at h;split at h
 ·cases h
 rename_i hAr;split at h;rotate_left
 ·cases h
 rename_i hK;have hfl:=ZvS hg h0 ho hd ha;unfold mkL at h;split at h
 ·rename_i hu;obtain ⟨hu,hl⟩:=hu;injection h with h
  have hU:=ZvR hg ho hd hu;obtain ⟨k1,k2,hk,hkk,hkr⟩:=Opr.two hg ho hd (.inr (.inr hu));have hfk:=ZjA hg h0 ho hd hk hkk ha hK
  cases hf:Zan o op xs with
  | nil=>rw [hf] at h;simp only [List.headD] at h;subst h;exact hU
  | cons b bs =>
   rw [hf] at h hfl hfk;simp only [List.headD] at h;subst h;have hb:=hfl b Tas;exact ⟨⟨hb.size,hb.depth,hb.form⟩,by rw [hfk b Tas,hkr (.inr hu)]⟩
 ·rename_i hu;split at h
  ·cases h
  rename_i hB;injection h with h
  subst h;have hB1:¬ (o.assoc=true∧7 < (srtO o (Zan o op xs)).length):=fun q=>hB (.inl q);have hB2:¬ 60 < sizeTm (appT op (srtO o (Zan o op xs))):=fun q=>hB (.inr (.inl q));have hB3:¬ 20 < depthTm (appT op (srtO o (Zan o op xs))):=fun q=>hB (.inr (.inr q));have hp:=ZdQ o (Zan o op xs);have hsl:=hp.length_eq;have hmem:∀ b,b∈srtO o (Zan o op xs) ↔ b∈Zan o op xs:=fun b=>hp.mem_iff;have hneg:¬ ((appT op (srtO o (Zan o op xs))).op=-1):=by simp only [appT,Tm.op];omega
  refine ⟨⟨om,om,ZaK.2 ⟨.inr ⟨o,d,h0,ho,hd,rfl,rfl,fun hac=>?_,fun has=>?_⟩,fun a hm=>(hfl a ((hmem a).1 hm)).form,.inr ?_⟩⟩,?_⟩
  ·simp only [appT,Tm.args];have:¬ (xs.length < 2):=fun q=>hAr (.inl ⟨hac,q⟩);by_cases hu0:o.unit=0
   ·have:=Zk2 hg h0 ho hac hu0 ha;exact ⟨om,by have:¬ (7 < (srtO o (Zan o op xs)).length):=fun q=>hB1 ⟨hac,q⟩;omega⟩
   ·exact ⟨by have:¬ ((Zan o op xs).length < 2):=fun q=>hu ⟨hu0,q⟩;omega,by have:¬ (7 < (srtO o (Zan o op xs)).length):=fun q=>hB1 ⟨hac,q⟩;omega⟩
  ·simp only [appT,Tm.args];have hlen:xs.length=d.args.length:=Classical.byContradiction fun q=>hAr (.inr ⟨has,q⟩);rw [hsl];by_cases hu0:o.unit=0
   ·rw [ZgG has hu0,hlen]
   ·obtain ⟨k1,k2,hk,_⟩:=Opr.two hg ho hd (.inr (.inr hu0));have h1:=(ZfY (op:=op) has xs).1;have:¬ ((Zan o op xs).length < 2):=fun q=>hu ⟨hu0,q⟩;rw [hlen,hk] at h1;rw [hk];simp only [Tag,Tak] at h1 ⊢;omega
  ·intro o' d' ho' hd' i a hi;simp only [appT,Tm.op] at ho';rw [ho] at ho';injection ho' with ho'
   subst ho';rw [hd] at hd';injection hd' with hd'
   subst hd';simp only [appT,Tm.args] at hi ⊢;have hm:=Tac hi;have hf:=hfl a ((hmem a).1 hm);refine ⟨fun k hk=>?_,hf.nest,hf.unit,fun hc j p hij hj=>?_⟩
   ·by_cases hax:o.assoc=true∨o.comm=true∨o.unit≠0
    ·obtain ⟨k1,k2,hka,hkk,_⟩:=Opr.two hg ho hd hax;have hfk:=ZjA hg h0 ho hd hka hkk ha hK a ((hmem a).1 hm);rw [hfk];have:kd g.sorts k=kd g.sorts k1:=by
      generalize argAt o i=n at hk;rw [hka] at hk
      match n,hk with
      | 0,hk=>simp only [Tat,Taq] at hk;rw [hk]
      | 1,hk=>simp only [Tau,Tat,Taq] at hk;rw [<- hk,hkk]
      | n+2,hk=>simp at hk
     rw [this]
    ·have has:o.assoc=false:=by cases h:o.assoc with | false=>rfl | true=>exact absurd (.inl h) hax
     have hc:o.comm=false:=by cases h:o.comm with | false=>rfl | true=>exact absurd (.inr (.inl h)) hax
     have hu0:o.unit=0:=Classical.byContradiction fun q=>hax (.inr (.inr q));rw [srtO,if_neg (by rw [hc];simp),ZgG has hu0] at hi;obtain ⟨k',h1,h2⟩:=hK i a hi;rw [hk] at h1;injection h1 with h1
     rw [h2,h1]
   ·rw [srtO,if_pos hc] at hi hj;exact (ZdO _).get om hj hi
  ·rw [Zbt,if_neg hneg];simp only [appT,Tm.op];rw [Zho ho hd]
theorem Zaw.ok {g:Sgn} (hg:SgnOk g):∀ (n:Nat) (t:Tm),sizeTm t < n->Zaw g t->okTm t:=by
 intro n
 induction n with
 | zero=>intro t h;omega
 | succ n ih =>
  intro t hn hf;obtain ⟨h1,h2,_⟩:=ZaK.1 hf;have hargs:Zax t.args:=by
   have:∀ l:List Tm,(∀ a∈l,okTm a)->Zax l:=fun l=>by
    induction l with
    | nil=>intro _;trivial
    | cons x xs ih=>intro h;exact ⟨h x Tas,ih fun a ha=>h a (Tal _ ha)⟩
   refine this _ fun a ha=>ih a ?_ (h2 a ha);have:=ZaV ha;rw [ZaN] at hn;omega
  rw [Zei];have hsn:g.sorts.names.length<=8:=hg.sorts.n8;rcases h1 with hv | ⟨o,d,hA⟩
  ·obtain ⟨v1,v2,v3,v4,v5⟩:=hv;have:t.name.size<=12:=by unfold Za6 at v2;simp only [Tar,decide_eq_true_eq] at v2;exact v2.1.1.1.2
   exact ⟨by unfold I64;omega,by unfold maxLen;omega,by unfold I64;omega,hargs⟩
  ·have h3:=hA.lo;have h4:=(Tad.1 hA.at').1;have h5:=hg.len;rw [hA.nm,hA.so];exact ⟨by unfold I64;omega,by simp [maxLen],by unfold I64;omega,hargs⟩
theorem TermOk.ok {g:Sgn} (hg:SgnOk g) {t:Tm} (h:TermOk g t):okTm t:=Zaw.ok hg _ t (Tan _) h.form
theorem TermOk.arg {g:Sgn} {t a:Tm} (h:TermOk g t) (ha:a∈t.args):TermOk g a:=by
 have s1:=ZaV ha;have s2:=ZdN ha;have s3:=h.size;have s4:=h.depth;rw [ZaN] at s3;rw [Zcy] at s4;exact ⟨om,om,(ZaK.1 h.form).2.1 a ha⟩
theorem TermOk.app {g:Sgn} {t a:Tm} (h:TermOk g t) (ha:a∈t.args):∃ o d,AppOk g t o d:=by
 rcases h.form.node with hv | h
 ·rw [hv.2.2.2.2] at ha;cases ha
 ·exact h
theorem Zfc {g:Sgn} (hg:SgnOk g) {op:Int} (h0:0<=op) {xs:List Tm} (ha:∀ a∈xs,TermOk g a) {t:Tm} (h:mkT g op xs=some t):TermOk g t:=by
 unfold mkT at h
 cases ho:g.ops[op.toNat]? with
 | none=>rw [ho] at h;cases h
 | some o =>
  rw [ho] at h;simp only at h
  cases hd:o.decls[0]? with
  | none=>rw [hd] at h;cases h
  | some d =>
   rw [hd] at h;exact (ZAH hg h0 ho hd ha h).1
theorem ZxE {g:Sgn} {t:Tm} (h:TermOk g t):t.args.length<=60:=by
 have h1:=h.size;rw [ZaN] at h1;have:=Zbp t.args;omega
structure Bd where
 var:Tm
 to:Tm
def ZbR (b:Bd):List C:=Zaa b.var++Zaa b.to
def okBd (b:Bd):Prop:=okTm b.var∧okTm b.to
def Zhr (l:List Bd):Prop:=∀ b∈l,okBd b
def ZaE (l:List Bd):List (List C):=l.map ZbR
theorem Zhs (l:List Bd):(ZaE l).length=l.length:=by simp [ZaE]
theorem Zht (l:List Bd) (i:Nat):(ZaE l)[i]?=l[i]?.map ZbR:=by simp [ZaE]
theorem bd_l:∀ (b:Bd),(ZbR b).length=8:=fun b=>by simp [ZbR,tmz]
theorem Zzs:∀ (b:Bd),(ZbR b).take 8=ZbR b:=fun b=>List.take_of_length_le (by rw [bd_l];omega)
theorem Zzt:∀ (b:Bd),(ZbR b).drop 8=[]:=fun b=>List.drop_eq_nil_of_le (by rw [bd_l];omega)
theorem Zzu:∀ (b:Bd),(ZbR b).take 4=Zaa b.var:=fun ⟨v,t⟩=>by cases v;simp [ZbR,Zaa]
theorem Zzv:∀ (b:Bd),(ZbR b).drop 4=Zaa b.to:=fun ⟨v,t⟩=>by cases v;simp [ZbR,Zaa]
theorem Zzw:∀ (b:Bd),(ZbR b).drop 2=.lit (.int .i64 b.var.sort)::.sl (Zab b.var.args)::Zaa b.to:=fun ⟨v,t⟩=>by cases v;simp [ZbR,Zaa,Tm.sort,Tm.args]
theorem bd_o:∀ (b:Bd),valT TK.one (ZbR b)=some (A.d (D.one (C.lit (Value.int IntKind.i64 b.var.op)))):=fun ⟨v,t⟩=>by cases v;simp [ZbR,Zaa,Tm.op,valT]
theorem bd_k:∀ (b:Bd),(ZbR b).all ZaB=true:=fun b=>by simp [ZbR,List.all_append,tmz]
theorem bdz:type_of% (aj8 bd_l Zzs Zzt Zzu Zzv Zzw bd_o bd_k):=aj8 bd_l Zzs Zzt Zzu Zzv Zzw bd_o bd_k
theorem bds8 (l:List Bd):ZaM 8 (ZaE l)=true:=by
 refine List.all_eq_true.2 fun r hr=>?_;obtain ⟨y,hy,rfl⟩:=Tbi.1 hr;simp [ZbR,List.all_append,tmz]
end Go.Proofs.YtmdkimnlbaahbaaGreat
namespace Go.Proofs.YtmdkimnlbaahbaaGreat
theorem Zj1 (m p:Nat) (a b:Bool):(2 * m+a.toNat) &&& (2 * p+b.toNat)=2 * (m &&& p)+(a && b).toNat:=by
 apply Nat.eq_of_testBit_eq;intro i;rw [Nat.testBit_and]
 cases i with
 | zero=>simp only [Nat.testBit_zero];cases a <;> cases b <;> simp [Nat.add_mod]
 | succ i =>
  simp only [Nat.testBit_succ];have h:∀ (n:Nat) (c:Bool),(2 * n+c.toNat) / 2=n:=fun n c=>by cases c <;> simp <;> omega
  rw [h,h,h,Nat.testBit_and]
theorem Zis (n:Nat):∃ m,∃ a:Bool,n=2 * m+a.toNat:=by
 refine ⟨n / 2,decide (n % 2=1),?_⟩;rcases Nat.mod_two_eq_zero_or_one n with h | h
 ·rw [h];simp;omega
 ·rw [h];simp;omega
theorem Zz1 {m p:Nat} {a b:Bool}:2 * m+a.toNat=2 * p+b.toNat ↔ m=p∧a=b:=by
 constructor
 ·intro h;cases a <;> cases b <;> simp_all <;> omega
 ·rintro ⟨rfl,rfl⟩;rfl
theorem ZvU {q m:Nat} (h:q &&& m=q):q<=m:=by rw [<- h];exact Nat.and_le_right
theorem Zom:∀ (m p q:Nat),p &&& m=p->q &&& m=q->q < p->q<=(p - 1) &&& m:=by
 intro m
 induction m using Nat.strongRecOn with
 | ind m ih =>
 intro p q hp hq hlt;by_cases hm:m=0
 ·subst hm;simp at hp hq;omega
 obtain ⟨m',a,rfl⟩:=Zis m;obtain ⟨p',b,rfl⟩:=Zis p;obtain ⟨q',c,rfl⟩:=Zis q;rw [Zj1,Zz1] at hp hq;have hm':m' < 2 * m'+a.toNat:=by cases a <;> simp at hm ⊢ <;> omega
 cases b with
 | true =>
  have e:2 * p'+true.toNat - 1=2 * p'+false.toNat:=by simp
  rw [e,Zj1,hp.1]
  cases c <;> simp at hlt hq ⊢ <;> omega
 | false =>
  have hlt':q' < p':=by cases c <;> simp at hlt <;> omega
  have e:2 * p'+false.toNat - 1=2 * (p' - 1)+true.toNat:=by simp;omega
  rw [e,Zj1];have:=ih m' hm' p' q' hp.1 hq.1 hlt';have h2:=hq.2
  cases c <;> cases a <;> simp at h2 ⊢ <;> omega
open Classical in
noncomputable def ofB (P:Nat->Prop):Nat->Nat
 | 0=>0
 | n+1=>ofB P n ||| (if P n then 2 ^ n else 0)
theorem ZcR (P:Nat->Prop):∀ (n i:Nat),(ofB P n).testBit i=true ↔ i < n∧P i
 | 0,i=>by simp [ofB]
 | n+1,i=>by
  rw [ofB,Nat.testBit_or,Bool.or_eq_true,ZcR P n i];by_cases h:P n
  ·rw [if_pos h,Nat.testBit_two_pow];simp only [decide_eq_true_eq];constructor
   ·rintro (⟨h1,h2⟩ | rfl)
    ·exact ⟨om,h2⟩
    ·exact ⟨om,h⟩
   ·rintro ⟨h1,h2⟩;by_cases h3:n=i
    ·exact .inr h3
    ·exact .inl ⟨om,h2⟩
  ·rw [if_neg h];simp only [Nat.zero_testBit,Tam,or_false];constructor
   ·rintro ⟨h1,h2⟩;exact ⟨om,h2⟩
   ·rintro ⟨h1,h2⟩;by_cases h3:i=n
    ·subst h3;exact absurd h2 h
    ·exact ⟨om,h2⟩
theorem ZcM (P:Nat->Prop) (n:Nat):ofB P n < 2 ^ n:=by
 apply Nat.lt_pow_two_of_testBit;intro i hi
 cases h:(ofB P n).testBit i with
 | false=>rfl
 | true=>have:=((ZcR P n i).1 h).1;omega
theorem Zk3 {v n i:Nat} (h:v < 2 ^ n) (hb:v.testBit i=true):i < n:=by
 apply Classical.byContradiction;intro hc;have:v < 2 ^ i:=Tbd h (Tbs (by decide) om);rw [Tbt this] at hb
 cases hb
theorem Zsd {v u:Nat} (h:∀ i,v.testBit i=true ↔ u.testBit i=true):v=u:=by
 apply Nat.eq_of_testBit_eq;intro i;have:=h i
 cases h1:v.testBit i <;> cases h2:u.testBit i <;> simp_all
theorem Zk4 {P:Nat->Prop} {n v:Nat} (hv:v < 2 ^ n) (h:∀ i,i < n->(v.testBit i=true ↔ P i)):v=ofB P n:=by
 apply Zsd;intro i;rw [ZcR];constructor
 ·intro hb;have:=Zk3 hv hb;exact ⟨this,(h i this).1 hb⟩
 ·rintro ⟨h1,h2⟩;exact (h i h1).2 h2
theorem ZbF {P Q:Nat->Prop} {n:Nat} (h:∀ i,i < n->(P i ↔ Q i)):ofB P n=ofB Q n :=
 Zk4 (ZcM P n) fun i hi=>by rw [ZcR,h i hi];exact ⟨fun x=>x.2,fun x=>⟨hi,x⟩⟩
inductive BagB (R:Nat->Nat->Nat->Prop) (sets:List Nat):Nat->Nat->Prop
 | leaf {i b s:Nat}:sets[i]?=some s->s.testBit b=true->BagB R sets (2 ^ i) b
 | node {p q a c b:Nat}:p≠0->q≠0->p &&& q=0->BagB R sets p a->BagB R sets q c->R a c b->BagB R sets (p ||| q) b
inductive ChB (R:Nat->Nat->Nat->Prop) (sets:List Nat):Nat->Nat->Nat->Prop
 | leaf {i b s:Nat}:sets[i]?=some s->s.testBit b=true->ChB R sets i (i+1) b
 | node {i k j a c b:Nat}:i < k->k < j->ChB R sets i k a->ChB R sets k j c->R a c b->ChB R sets i j b
def Two (R:Nat->Nat->Nat->Prop) (s t b:Nat):Prop:=∃ a c,s.testBit a=true∧t.testBit c=true∧R a c b
theorem Zrs (i j:Nat):(2 ^ i).testBit j=true ↔ i=j:=by rw [Nat.testBit_two_pow];simp
theorem Zj2 {p:Nat} (h:p≠0):∃ i,p.testBit i=true:=by
 apply Classical.byContradiction;intro hc;apply h;apply Nat.eq_of_testBit_eq;intro i
 cases hb:p.testBit i with
 | false=>simp
 | true=>exact absurd ⟨i,hb⟩ hc
theorem ZlT {p q i:Nat} (h:p &&& q=0) (h1:p.testBit i=true) (h2:q.testBit i=true):False:=by
 have:=congrArg (fun x=>x.testBit i) h;simp [h1,h2] at this
theorem Zse {p q i:Nat} (hp:p≠0) (hq:q≠0) (h:p &&& q=0):p ||| q≠2 ^ i:=by
 intro e;obtain ⟨a,ha⟩:=Zj2 hp;obtain ⟨c,hc⟩:=Zj2 hq;have h1:(2 ^ i).testBit a=true:=by rw [<- e,Nat.testBit_or,ha];rfl
 have h2:(2 ^ i).testBit c=true:=by rw [<- e,Nat.testBit_or,hc];simp
 rw [Zrs] at h1 h2;subst h1;subst h2;exact ZlT h ha hc
theorem ZxF {R:Nat->Nat->Nat->Prop} {sets:List Nat} {i s b:Nat} (hs:sets[i]?=some s):BagB R sets (2 ^ i) b ↔ s.testBit b=true:=by
 constructor
 ·intro h;generalize hm:2 ^ i=m at h
  cases h with
  | leaf h1 h2 =>
   have:=(Nat.pow_right_inj (by decide)).1 hm;subst this;rw [hs] at h1;injection h1 with h1;subst h1;exact h2
  | node h1 h2 h3 _ _ _=>exact absurd hm.symm (Zse h1 h2 h3)
 ·exact fun h=>.leaf hs h
theorem ZAI {p q:Nat} (h:p &&& q=0):(p ||| q) ^^^ p=q:=by
 apply Nat.eq_of_testBit_eq;intro i;rw [Nat.testBit_xor,Nat.testBit_or]
 cases h1:p.testBit i <;> cases h2:q.testBit i <;> simp
 exact absurd h1 (by intro h1;exact ZlT h h1 h2)
theorem Zrt {p m:Nat} (h:p &&& m=p) {i:Nat} (hi:p.testBit i=true):m.testBit i=true:=by
 rw [<- h,Nat.testBit_and] at hi;simp at hi;exact hi.2
theorem Zru {p m:Nat} (h:p &&& m=p):p &&& (m ^^^ p)=0∧p ||| (m ^^^ p)=m:=by
 constructor
 ·apply Nat.eq_of_testBit_eq;intro i;rw [Nat.testBit_and,Nat.testBit_xor]
  cases h1:p.testBit i with
  | false=>simp
  | true=>simp [Zrt h h1]
 ·apply Nat.eq_of_testBit_eq;intro i;rw [Nat.testBit_or,Nat.testBit_xor]
  cases h1:p.testBit i with
  | false=>simp
  | true=>simp [Zrt h h1]
theorem Zon {p m:Nat} (h:p≠m):m ^^^ p≠0:=by
 intro e;apply h;apply Nat.eq_of_testBit_eq;intro i;have:=congrArg (fun x=>x.testBit i) e;rw [Nat.testBit_xor] at this
 cases h1:p.testBit i <;> cases h2:m.testBit i <;> simp [h1,h2] at this ⊢
theorem ZxG {R:Nat->Nat->Nat->Prop} {sets:List Nat} {m b:Nat} (hm:∀ i,m≠2 ^ i):BagB R sets m b ↔ ∃ p,p≠0∧p≠m∧p &&& m=p∧∃ a c,BagB R sets p a∧BagB R sets (m ^^^ p) c∧R a c b:=by
 constructor
 ·intro h
  cases h with
  | leaf=>exact absurd rfl (hm _)
  | node h1 h2 h3 h4 h5 h6 =>
   rename_i p q a c;refine ⟨p,h1,?_,?_,a,c,h4,?_,h6⟩
   ·intro e;obtain ⟨i,hi⟩:=Zj2 h2;exact ZlT h3 (by rw [e,Nat.testBit_or,hi];simp) hi
   ·apply Nat.eq_of_testBit_eq;intro i;rw [Nat.testBit_and,Nat.testBit_or];cases p.testBit i <;> simp
   ·rw [ZAI h3];exact h5
 ·rintro ⟨p,h1,h2,h3,a,c,h4,h5,h6⟩;have:=Zru h3;have h:=BagB.node h1 (Zon h2) this.1 h4 h5 h6;rw [this.2] at h;exact h
theorem Zz2 {R:Nat->Nat->Nat->Prop} {sets:List Nat} {i s b:Nat} (hs:sets[i]?=some s):ChB R sets i (i+1) b ↔ s.testBit b=true:=by
 constructor
 ·intro h;generalize hj:i+1=j at h
  cases h with
  | leaf h1 h2=>rw [hs] at h1;injection h1 with h1;subst h1;exact h2
  | node h1 h2 _ _ _=>omega
 ·exact fun h=>.leaf hs h
theorem Zz3 {R:Nat->Nat->Nat->Prop} {sets:List Nat} {i j b:Nat} (hij:i+1 < j):ChB R sets i j b ↔ ∃ k,i < k∧k < j∧∃ a c,ChB R sets i k a∧ChB R sets k j c∧R a c b:=by
 constructor
 ·intro h
  cases h with
  | leaf=>omega
  | node h1 h2 h3 h4 h5=>exact ⟨_,h1,h2,_,_,h3,h4,h5⟩
 ·rintro ⟨k,h1,h2,a,c,h3,h4,h5⟩;exact .node h1 h2 h3 h4 h5
end Go.Proofs.YtmdkimnlbaahbaaGreat
namespace Go.Proofs.YtmdkimnlbaahbaaGreat
open Go.RowKit
theorem Zit (P Q:Nat->Prop) (n:Nat):ofB P n ||| ofB Q n=ofB (fun b=>P b∨Q b) n :=
 Zk4 (Nat.or_lt_two_pow (ZcM P n) (ZcM Q n)) fun i hi=>by
  rw [Nat.testBit_or,Bool.or_eq_true,ZcR,ZcR];simp only [hi,true_and]
theorem Zhu {P:Nat->Prop} {n:Nat} (h:∀ i,i < n->¬ P i):ofB P n=0 :=
 (Zk4 (Nat.pos_of_ne_zero (by have:=Nat.one_le_two_pow (n:=n);omega)) fun i hi=>by
  rw [Nat.zero_testBit];exact ⟨fun e=>(by cases e),fun e=>absurd e (h i hi)⟩).symm
theorem Zhv {v n:Nat} (h:v < 2 ^ n):ofB (fun b=>v.testBit b=true) n=v:=(Zk4 h fun i _=>Iff.rfl).symm
def upk (g:Sgn) (k:Int):Nat:=(up g.sorts).getD k.toNat 0
theorem ZlU {g:Sgn} (hs:SortsOk g.sorts) {k:Int} (h0:0<=k) (h1:k < g.sorts.names.length):(up g.sorts)[k.toNat]?=some (upk g k)∧upk g k < 2 ^ g.sorts.names.length :=
 (Zft (SortsOk.subsIn hs.subs)).get om
def Zdb (g:Sgn) (o:Opr) (sets:List Nat) (b:Nat):Prop:=∃ d∈o.decls,(∀ (i:Nat) k s,d.args[i]?=some k->sets[i]?=some s->s.testBit k.toNat=true)∧(upk g d.res).testBit b=true
def Rel2 (g:Sgn) (o:Opr) (a c b:Nat):Prop:=∃ d∈o.decls,d.args.map Int.toNat=[a,c]∧(upk g d.res).testBit b=true
def AnyB (g:Sgn) (o:Opr) (sets:List Nat) (b:Nat):Prop:=Zdb g o sets b∨(o.comm=true∧Zdb g o sets.reverse b)
def AppB (g:Sgn) (o:Opr) (sets:List Nat) (b:Nat):Prop:=if o.assoc=true then (if o.comm=true then BagB (Rel2 g o) sets (2 ^ sets.length - 1) b else ChB (Rel2 g o) sets 0 sets.length b) else AnyB g o sets b
noncomputable def appS (g:Sgn) (o:Opr) (sets:List Nat):Nat:=ofB (AppB g o sets) g.sorts.names.length
mutual
noncomputable def sortsTm (g:Sgn):Tm->Nat
 | .mk op _ so args=>if op=-1 then upk g so else match g.ops[op.toNat]? with
  | none=>0
  | some o=>appS g o (Zhw g args)
noncomputable def Zhw (g:Sgn):List Tm->List Nat
 | []=>[]
 | t::ts=>sortsTm g t::Zhw g ts
end
theorem Ziu (g:Sgn):∀ (l:List Tm),Zhw g l=l.map (sortsTm g)
 | []=>rfl
 | t::ts=>by simp only [Zhw,Tbu,Ziu g ts]
theorem ZjB {g:Sgn} {t:Tm} (h:t.op=-1):sortsTm g t=upk g t.sort:=by
 obtain ⟨op,nm,so,args⟩:=t;simp only [Tm.op] at h;simp only [sortsTm,if_pos h,Tm.sort]
theorem ZjC {g:Sgn} {t:Tm} {o:Opr} (h:t.op≠-1) (ho:g.ops[t.op.toNat]?=some o):sortsTm g t=appS g o (t.args.map (sortsTm g)):=by
 obtain ⟨op,nm,so,args⟩:=t;simp only [Tm.op] at h ho;simp only [sortsTm,if_neg h,ho,Tm.args,Ziu]
theorem Zfw {g:Sgn} (hg:SgnOk g) {t:Tm} (ht:Zcm g t):sortsTm g t < 2 ^ g.sorts.names.length:=by
 rcases ht with hv | ⟨o,d,hA⟩
 ·rw [ZjB hv.1];exact (ZlU hg.sorts hv.2.2.1 hv.2.2.2.1).2
 ·rw [ZjC hA.op hA.at'];exact ZcM _ _
theorem Rel2.lt {g:Sgn} (hg:SgnOk g) {o:Opr} (ho:o∈g.ops) {a c b:Nat} (h:Rel2 g o a c b):b < g.sorts.names.length:=by
 obtain ⟨d,hd,_,hb⟩:=h;have hD:=hg.decls o ho;obtain ⟨f,hf,_⟩:=hD.first;have hd':=hD.all f hf d hd;exact Zk3 (ZlU hg.sorts hd'.res.1 hd'.res.2).2 hb
theorem Zoo {g:Sgn} {o:Opr} (h2:∀ d∈o.decls,d.args.length=2) {s t b:Nat}:Zdb g o [s,t] b ↔ Two (Rel2 g o) s t b:=by
 constructor
 ·rintro ⟨d,hd,h1,hb⟩;obtain ⟨x,y,hxy⟩:=ZkH (h2 d hd);rw [hxy] at h1;exact ⟨x.toNat,y.toNat,h1 0 x s rfl rfl,h1 1 y t rfl rfl,d,hd,by rw [hxy];rfl,hb⟩
 ·rintro ⟨a,c,ha,hc,d,hd,he,hb⟩;obtain ⟨x,y,hxy⟩:=ZkH (h2 d hd);rw [hxy] at he;simp only [Tbu,List.map_nil,List.cons.injEq,and_true] at he;obtain ⟨rfl,rfl⟩:=he;refine ⟨d,hd,fun i k u hk hu=>?_,hb⟩;rw [hxy] at hk
  match i,hk,hu with
  | 0,hk,hu =>
   simp only [Tat,Taq] at hk hu;subst hk;subst hu;exact ha
  | 1,hk,hu =>
   simp only [Tau,Tat,Taq] at hk hu;subst hk;subst hu;exact hc
  | i+2,hk,hu=>simp at hk
theorem Opr.deg2 {g:Sgn} (hg:SgnOk g) {i:Nat} {o:Opr} (ho:g.ops[i]?=some o) (h:o.assoc=true∨o.comm=true∨o.unit≠0):∀ d∈o.decls,d.args.length=2:=by
 intro d hd;have hm:=Tac ho;have hD:=hg.decls o hm;obtain ⟨f,hf,_⟩:=hD.first;rw [(hD.all f hf d hd).len];exact ((hg.axs o hm).two h f hf).1
theorem BagB.lt {R:Nat->Nat->Nat->Prop} {sets:List Nat} {N:Nat} (hs:∀ s∈sets,s < 2 ^ N) (hR:∀ a c b,R a c b->b < N) {m b:Nat} (h:BagB R sets m b):b < N:=by
 cases h with
 | leaf h1 h2=>exact Zk3 (hs _ (Tac h1)) h2
 | node _ _ _ _ _ h=>exact hR _ _ _ h
theorem ChB.lt {R:Nat->Nat->Nat->Prop} {sets:List Nat} {N:Nat} (hs:∀ s∈sets,s < 2 ^ N) (hR:∀ a c b,R a c b->b < N) {i j b:Nat} (h:ChB R sets i j b):b < N:=by
 cases h with
 | leaf h1 h2=>exact Zk3 (hs _ (Tac h1)) h2
 | node _ _ _ _ h=>exact hR _ _ _ h
def Zgm (R:Nat->Nat->Nat->Prop) (sets:List Nat) (N m part b:Nat):Prop:=∃ p,part < p∧p≠0∧p≠m∧p &&& m=p∧Two R (ofB (BagB R sets p) N) (ofB (BagB R sets (m ^^^ p)) N) b
theorem Zi5 {R:Nat->Nat->Nat->Prop} {P Q:Nat->Prop} {N b:Nat} (hP:∀ b,P b->b < N) (hQ:∀ b,Q b->b < N):Two R (ofB P N) (ofB Q N) b ↔ ∃ a c,P a∧Q c∧R a c b:=by
 unfold Two;constructor
 ·rintro ⟨a,c,h1,h2,h3⟩;exact ⟨a,c,((ZcR _ _ _).1 h1).2,((ZcR _ _ _).1 h2).2,h3⟩
 ·rintro ⟨a,c,h1,h2,h3⟩;exact ⟨a,c,(ZcR _ _ _).2 ⟨hP a h1,h1⟩,(ZcR _ _ _).2 ⟨hQ c h2,h2⟩,h3⟩
theorem Zsf {R:Nat->Nat->Nat->Prop} {sets:List Nat} {N m:Nat} (hm:m≠0):ofB (Zgm R sets N m ((m - 1) &&& m)) N=0:=Zhu fun b _ h=>by
 obtain ⟨p,h1,h2,h3,h4,_⟩:=h;have h5:=ZvU h4;have:=Zom m m p (Nat.and_self m) h4 om;omega
theorem ZvV {R:Nat->Nat->Nat->Prop} {sets:List Nat} {N m p b:Nat} (hp:p≠0) (hm:p≠m) (h:p &&& m=p):Zgm R sets N m ((p - 1) &&& m) b ↔ Zgm R sets N m p b∨Two R (ofB (BagB R sets p) N) (ofB (BagB R sets (m ^^^ p)) N) b:=by
 constructor
 ·rintro ⟨q,h1,h2,h3,h4,h5⟩;by_cases hq:p < q
  ·exact .inl ⟨q,hq,h2,h3,h4,h5⟩
  ·by_cases e:q=p
   ·subst e;exact .inr h5
   ·have:=Zom m p q h h4 om;omega
 ·have hlt:(p - 1) &&& m < p:=by have:(p - 1) &&& m<=p - 1:=Nat.and_le_left;omega
  rintro (⟨q,h1,h2,h3,h4,h5⟩ | h5)
  ·exact ⟨q,om,h2,h3,h4,h5⟩
  ·exact ⟨p,hlt,hp,hm,h,h5⟩
theorem ZxH {R:Nat->Nat->Nat->Prop} {sets:List Nat} {N m:Nat} (hs:∀ s∈sets,s < 2 ^ N) (hR:∀ a c b,R a c b->b < N) (hm:∀ i,m≠2 ^ i):ofB (Zgm R sets N m 0) N=ofB (BagB R sets m) N:=ZbF fun b _=>by
 rw [ZxG hm];unfold Zgm;constructor
 ·rintro ⟨p,h1,h2,h3,h4,h5⟩;obtain ⟨a,c,h6,h7,h8⟩:=(Zi5 (fun b hb=>BagB.lt hs hR hb) (fun b hb=>BagB.lt hs hR hb)).1 h5;exact ⟨p,h2,h3,h4,a,c,h6,h7,h8⟩
 ·rintro ⟨p,h2,h3,h4,a,c,h6,h7,h8⟩;exact ⟨p,om,h2,h3,h4,(Zi5 (fun b hb=>BagB.lt hs hR hb) (fun b hb=>BagB.lt hs hR hb)).2 ⟨a,c,h6,h7,h8⟩⟩
def CutB (R:Nat->Nat->Nat->Prop) (sets:List Nat) (N i j at' b:Nat):Prop:=∃ k,i < k∧k < at'∧k < j∧Two R (ofB (ChB R sets i k) N) (ofB (ChB R sets k j) N) b
theorem ZvW {R:Nat->Nat->Nat->Prop} {sets:List Nat} {N i j:Nat}:ofB (CutB R sets N i j (i+1)) N=0:=Zhu fun b _ h=>by
 obtain ⟨k,h1,h2,_⟩:=h;omega
theorem ZxI {R:Nat->Nat->Nat->Prop} {sets:List Nat} {N i j k b:Nat} (h1:i < k) (h2:k < j):CutB R sets N i j (k+1) b ↔ CutB R sets N i j k b∨Two R (ofB (ChB R sets i k) N) (ofB (ChB R sets k j) N) b:=by
 constructor
 ·rintro ⟨q,q1,q2,q3,q4⟩;by_cases e:q=k
  ·subst e;exact .inr q4
  ·exact .inl ⟨q,q1,om,q3,q4⟩
 ·rintro (⟨q,q1,q2,q3,q4⟩ | h)
  ·exact ⟨q,q1,om,q3,q4⟩
  ·exact ⟨k,h1,om,h2,h⟩
theorem Zz4 {R:Nat->Nat->Nat->Prop} {sets:List Nat} {N i j:Nat} (hs:∀ s∈sets,s < 2 ^ N) (hR:∀ a c b,R a c b->b < N) (hij:i+1 < j):ofB (CutB R sets N i j j) N=ofB (ChB R sets i j) N:=ZbF fun b _=>by
 rw [Zz3 hij];unfold CutB;constructor
 ·rintro ⟨k,h1,h2,h3,h5⟩;obtain ⟨a,c,h6,h7,h8⟩:=(Zi5 (fun b hb=>ChB.lt hs hR hb) (fun b hb=>ChB.lt hs hR hb)).1 h5;exact ⟨k,h1,h2,a,c,h6,h7,h8⟩
 ·rintro ⟨k,h1,h2,a,c,h6,h7,h8⟩;exact ⟨k,h1,h2,h2,(Zi5 (fun b hb=>ChB.lt hs hR hb) (fun b hb=>ChB.lt hs hR hb)).2 ⟨a,c,h6,h7,h8⟩⟩
theorem Zz5 {R:Nat->Nat->Nat->Prop} {sets:List Nat} {N i s:Nat} (hs:sets[i]?=some s) (h:s < 2 ^ N):ofB (BagB R sets (2 ^ i)) N=s:=by
 rw [show ofB (BagB R sets (2 ^ i)) N=ofB (fun b=>s.testBit b=true) N from ZbF fun b _=>ZxF hs,Zhv h]
theorem ZvX {R:Nat->Nat->Nat->Prop} {sets:List Nat} {N i s:Nat} (hs:sets[i]?=some s) (h:s < 2 ^ N):ofB (ChB R sets i (i+1)) N=s:=by
 rw [show ofB (ChB R sets i (i+1)) N=ofB (fun b=>s.testBit b=true) N from ZbF fun b _=>Zz2 hs,Zhv h]
def ZcA:List Bd->Tm->Option Tm
 | [],_=>none
 | b::l,v=>if Zah b.var v=0 then some b.to else ZcA l v
mutual
noncomputable def apT (g:Sgn) (l:List Bd):Tm->Option Tm
 | .mk op nm so args=>if op=-1 then some ((ZcA l (.mk op nm so args)).getD (.mk op nm so args)) else (apTs g l args).bind (mkT g op)
noncomputable def apTs (g:Sgn) (l:List Bd):List Tm->Option (List Tm)
 | []=>some []
 | t::ts=>(apT g l t).bind fun u=>(apTs g l ts).map (u::·)
end
theorem Zi6 {g:Sgn} {l:List Bd} {t:Tm} (h:t.op=-1):apT g l t=some ((ZcA l t).getD t):=by
 obtain ⟨op,nm,so,args⟩:=t;simp only [Tm.op] at h;simp only [apT,if_pos h]
theorem ZgW {g:Sgn} {l:List Bd} {t:Tm} (h:t.op≠-1):apT g l t=(apTs g l t.args).bind (mkT g t.op):=by
 obtain ⟨op,nm,so,args⟩:=t;simp only [Tm.op] at h;simp only [apT,if_neg h,Tm.op,Tm.args]
theorem Zmx {g:Sgn} {l:List Bd} {t:Tm}:∀ (ts:List Tm),apTs g l (ts++[t])=(apTs g l ts).bind fun us=>(apT g l t).map fun u=>us++[u]
 | []=>by
  simp only [Tah,apTs,Option.bind_some]
  cases apT g l t <;> rfl
 | x::ts=>by
  simp only [Taf,apTs,Zmx ts]
  cases apT g l x with
  | none=>rfl
  | some u =>
   simp only [Option.bind_some]
   cases apTs g l ts with
   | none=>rfl
   | some us =>
    simp only [Option.bind_some,Option.map_some]
    cases apT g l t <;> rfl
theorem Zj3 {g:Sgn} {l:List Bd}:∀ {ts us:List Tm},apTs g l ts=some us->us.length=ts.length
 | [],us,h=>by simp only [apTs,Taq] at h;subst h;rfl
 | t::ts,us,h=>by
  simp only [apTs] at h
  cases h1:apT g l t with
  | none=>rw [h1] at h;cases h
  | some u =>
   rw [h1] at h
   cases h2:apTs g l ts with
   | none=>rw [h2] at h;cases h
   | some vs =>
    rw [h2] at h;simp only [Option.bind_some,Option.map_some,Taq] at h;subst h;simp only [Tag,Zj3 h2]
theorem Zmy {g:Sgn} {l:List Bd} {t:Tm}:∀ {ts:List Tm},t∈ts->apT g l t=none->apTs g l ts=none
 | x::ts,hm,h=>by
  simp only [apTs];rcases Tbg.1 hm with rfl | hm
  ·rw [h];rfl
  ·rw [Zmy hm h]
   cases apT g l x <;> rfl
theorem Zhx {g:Sgn} {l:List Bd}:∀ {ts us:List Tm},apTs g l ts=some us->∀ u∈us,∃ t∈ts,apT g l t=some u
 | [],us,h,u,hu=>by simp only [apTs,Taq] at h;subst h;cases hu
 | t::ts,us,h,u,hu=>by
  simp only [apTs] at h
  cases h1:apT g l t with
  | none=>rw [h1] at h;cases h
  | some v =>
   rw [h1] at h
   cases h2:apTs g l ts with
   | none=>rw [h2] at h;cases h
   | some vs =>
    rw [h2] at h;simp only [Option.bind_some,Option.map_some,Taq] at h;subst h;rcases Tbg.1 hu with rfl | hu
    ·exact ⟨t,Tas,h1⟩
    ·obtain ⟨x,hx,hxe⟩:=Zhx h2 u hu;exact ⟨x,Tal _ hx,hxe⟩
structure SbsAt (g:Sgn) (l:List Bd) (i:Nat) (y:Bd):Prop where
 var:ZcQ g y.var
 ord:∀ (j:Nat) p,i=j+1->l[j]?=some p->Zah p.var y.var < 0
 to':TermOk g y.to
 srt:(sortsTm g y.to).testBit y.var.sort.toNat=true
structure SbsOk (g:Sgn) (l:List Bd):Prop where
 len:l.length<=8
 at':∀ (i:Nat) y,l[i]?=some y->SbsAt g l i y
open Classical in
noncomputable def ZdY (g:Sgn) (l:List Bd):Bool:=decide (SbsOk g l)
theorem Zsg {g:Sgn} {l:List Bd} (h:SbsOk g l):ZdY g l=true:=by simp [ZdY,h]
theorem ZjD {g:Sgn} {l:List Bd} (h:¬ SbsOk g l):ZdY g l=false:=by simp [ZdY,h]
theorem ZlV {g:Sgn} {v u:Tm}:∀ {l:List Bd},(∀ y∈l,TermOk g y.to)->ZcA l v=some u->TermOk g u
 | b::l,h,hu=>by
  simp only [ZcA] at hu;split at hu
  ·injection hu with hu;subst hu;exact h b Tas
  ·exact ZlV (fun y hy=>h y (Tal _ hy)) hu
theorem SbsOk.to' {g:Sgn} {l:List Bd} (h:SbsOk g l):∀ y∈l,TermOk g y.to:=fun y hy=>by
 obtain ⟨i,hi⟩:=Tbk hy;exact (h.at' i y hi).to'
theorem SbsOk.var {g:Sgn} {l:List Bd} (h:SbsOk g l):∀ y∈l,ZcQ g y.var:=fun y hy=>by
 obtain ⟨i,hi⟩:=Tbk hy;exact (h.at' i y hi).var
theorem ZfZ {g:Sgn} (hg:SgnOk g) {l:List Bd} (hl:∀ y∈l,TermOk g y.to):∀ (n:Nat) (t:Tm),sizeTm t < n->TermOk g t->∀ {u:Tm},apT g l t=some u->TermOk g u
 | 0,t,hn,_,_,_=>om
 | n+1,t,hn,ht,u,h=>by
  by_cases ho:t.op=-1
  ·rw [Zi6 ho] at h;simp only [Taq] at h;subst h
   cases hk:ZcA l t with
   | none=>exact ht
   | some v=>exact ZlV hl hk
  ·rw [ZgW ho] at h
   cases h2:apTs g l t.args with
   | none=>rw [h2] at h;cases h
   | some us =>
    rw [h2] at h;simp only [Option.bind_some] at h;have h0:0<=t.op:=by
     rcases ht.form.node with hv | ⟨o,d,hA⟩
     ·exact absurd hv.1 ho
     ·exact hA.lo
    refine Zfc hg h0 (fun a ha=>?_) h;obtain ⟨x,hx,hxe⟩:=Zhx h2 a ha;have:=ZaV hx;rw [ZaN] at hn;exact ZfZ hg hl n x om (ht.arg hx) hxe
def Zb9 (w:World):List (List C)->(Nat->Prop)->List (List Value)->Prop
 | [],_,[]=>True
 | r::rs,S,us::uss=>∃ S1 S2:Nat->Prop,(∀ x,S1 x->S x)∧(∀ x,S2 x->S x)∧(∀ x,S1 x->S2 x->False)∧Zak w r S1 us∧Zb9 w rs S2 uss
 | _,_,_=>False
def ZbB (us:List Value):List C:=us.map .lit
section
variable {w w':World}
theorem Zb9.keep (hz:w.heap.size<=w'.heap.size):∀ (rows:List (List C)) (S S':Nat->Prop) (uss:List (List Value)),(∀ b,S b->w'.heap[b]?=w.heap[b]?)->(∀ b,S b->S' b)->Zb9 w rows S uss->Zb9 w' rows S' uss
 | [],_,_,[],_,_,_=>trivial
 | r::rs,S,S',us::uss,hk,hS,h=>by
  obtain ⟨S1,S2,h1,h2,hd,hr,hrs⟩:=h;exact ⟨S1,S2,fun x hx=>hS x (h1 x hx),fun x hx=>hS x (h2 x hx),hd,Zak.keep hz r S1 S1 us (fun x hx=>hk x (h1 x hx)) (fun _ h=>h) hr,Zb9.keep hz rs S2 S2 uss (fun x hx=>hk x (h2 x hx)) (fun _ h=>h) hrs⟩
 | [],_,_,_::_,_,_,h=>h.elim
 | _::_,_,_,[],_,_,h=>h.elim
theorem Zb9.len:∀ {rows:List (List C)} {S:Nat->Prop} {uss:List (List Value)},Zb9 w rows S uss->uss.length=rows.length
 | [],_,[],_=>rfl
 | r::rs,S,us::uss,⟨S1,S2,_,_,_,_,h⟩=>by simp [Zb9.len h]
theorem Zb9.snoc:∀ {rows:List (List C)} {r:List C} {S S1 S2:Nat->Prop} {uss:List (List Value)} {us:List Value},Zb9 w rows S1 uss->Zak w r S2 us->(∀ x,S1 x->S x)->(∀ x,S2 x->S x)->(∀ x,S1 x->S2 x->False)->Zb9 w (rows++[r]) S (uss++[us])
 | [],r,S,S1,S2,[],us,_,h2,i1,i2,hd=>⟨S2,fun _=>False,i2,fun _ h=>h.elim,fun _ _ h=>h,h2,trivial⟩
 | q::qs,r,S,S1,S2,vs::vss,us,⟨T1,T2,a1,a2,a3,a4,a5⟩,h2,i1,i2,hd =>
  ⟨T1,fun x=>T2 x∨S2 x,fun x hx=>i1 x (a1 x hx),fun x hx=>hx.elim (fun h=>i1 x (a2 x h)) (i2 x),fun x hx hy=>hy.elim (a3 x hx) (hd x (a1 x hx)),a4,
   Zb9.snoc a5 h2 (fun _ h=>.inl h) (fun _ h=>.inr h) (fun x hx hy=>hd x (a2 x hx) hy)⟩
 | [],_,_,_,_,_::_,_,h,_,_,_,_=>h.elim
 | _::_,_,_,_,_,[],_,h,_,_,_,_=>h.elim
theorem Zb9.get:∀ {rows:List (List C)} {S:Nat->Prop} {uss:List (List Value)} {i:Nat} {r:List C} {us:List Value},Zb9 w rows S uss->rows[i]?=some r->uss[i]?=some us->Zak w r S us
 | r::rs,S,us::uss,0,r',us',⟨S1,S2,h1,_,_,h,_⟩,hr,hu=>by
  simp at hr hu;subst hr hu;exact Zak.keep (Tai _) r S1 S us (fun _ _=>rfl) h1 h
 | r::rs,S,us::uss,i+1,r',us',⟨S1,S2,_,h2,_,_,h⟩,hr,hu =>
  Zak.keep (Tai _) r' S2 S us' (fun _ _=>rfl) h2 (Zb9.get h (by simpa using hr) (by simpa using hu))
 | [],_,_,_,_,_,_,hr,_=>by simp at hr
 | _::_,_,[],_,_,_,h,_,_=>h.elim
theorem Zb9.stable (rows:List (List C)) (E:Nat->Prop) (uss:List (List Value)):ZdG E (fun w=>Zb9 w rows E uss):=fun w w' hz hk h=>Zb9.keep hz rows E E uss hk (fun _ h=>h) h
theorem Zak.stable (r:List C) (E:Nat->Prop) (us:List Value):ZdG E (fun w=>Zak w r E us):=fun w w' hz hk h=>Zak.keep hz r E E us hk (fun _ h=>h) h
theorem Own.stable (c:C) (E:Nat->Prop) (v:Value):ZdG E (fun w=>Own w c E v):=fun w w' hz hk h=>Own.keep hz c E E v hk (fun _ h=>h) h
theorem ZjE {S:Nat->Prop}:∀ {us vs:List Value},Zad w S (ZbB us) vs->vs=us
 | [],[],_=>rfl
 | u::us,v::vs,h=>by
  simp only [ZbB,Tbu,Zad,Rep] at h;rw [h.1,ZjE h.2]
 | [],_::_,h=>by simp [ZbB,Zad] at h
 | _::_,[],h=>by simp [ZbB,Zad] at h
theorem ZbD.open {b:Nat}:∀ {cs:List C} {S:Nat->Prop} {off:Nat},ZbD w b cs S off->∃ us,Zak w cs S us∧∀ j u,us[j]?=some u->w.cell? ⟨b,off+j,none⟩=some u
 | [],S,off,_=>⟨[],Zak.nil,fun j u h=>by simp at h⟩
 | c::cs,S,off,h=>by
  simp only [ZbD] at h;obtain ⟨S1,S2,u,h1,h2,hd,hu,hc,hcs⟩:=h;obtain ⟨us,k1,k2⟩:=ZbD.open hcs;refine ⟨u::us,Zak.cons S1 S2 hc k1 h1 h2 hd,fun j v hj=>?_⟩
  cases j with
  | zero=>simp at hj;subst hj;exact hu
  | succ j=>have:=k2 j v (by simpa using hj);rw [<- this];congr 2;omega
theorem Zbe.open {b:Nat}:∀ {rows:List (List C)} {S:Nat->Prop} {off:Nat},Zbe w b rows S off->∃ uss,Zb9 w rows S uss∧∀ T:Nat->Prop,Zap w T b off (uss.map ZbB)
 | [],S,off,_=>⟨[],trivial,fun T=>by simp [Zap]⟩
 | r::rs,S,off,h=>by
  simp only [Zbe] at h;obtain ⟨S1,S2,h1,h2,hd,hr,hrs⟩:=h;obtain ⟨us,k1,k2⟩:=ZbD.open hr;obtain ⟨uss,k3,k4⟩:=Zbe.open hrs;refine ⟨us::uss,⟨S1,S2,h1,h2,hd,k1,k3⟩,fun T=>?_⟩;simp only [Tbu,Zap];refine ⟨Zag.of_vals _ us off (ZfL us) k2,?_⟩;rw [show (ZbB us).length=r.length by simp [ZbB,k1.len]];exact k4 T
theorem Zak.cells:∀ {cs:List C} {S:Nat->Prop} {us:List Value},Zak w cs S us->cs.all ZaB=true->(ZbB us).all ZaB=true
 | [],_,[],_,_=>rfl
 | c::cs,S,u::us,h,hc=>by
  simp only [Zak] at h;obtain ⟨S1,S2,_,_,_,h1,h2⟩:=h;simp only [List.all_cons,Tar] at hc;simp only [ZbB,Tbu,List.all_cons,Tar];exact ⟨Zfp (c:=c) hc.1 (Own.rep c S1 u h1),Zak.cells h2 hc.2⟩
 | [],_,_::_,h,_=>by simp [Zak] at h
 | _::_,_,[],h,_=>by simp [Zak] at h
theorem Own.open {T:Nat->Prop} {rows:List (List C)} {E:Nat->Prop} {a:Option Addr} {n cap sz:Nat} (hT:∀ b,E b->¬ T b) (hne:rows≠[]) (hrl:rowsLen sz rows) (h:Own w (.sl rows) E (.slice a n cap)) :
  ∃ uss ety E',n=uss.length∧ZaS w T ety sz (uss.map ZbB) (.slice a uss.length cap)∧Zb9 w rows E' uss∧(∀ b,E' b->E b∧vblk (.slice a uss.length cap)≠some b)∧∀ b,vblk (.slice a uss.length cap)=some b->E b:=by
 simp only [Own] at h;obtain ⟨A,n',cap',hv,hn,hle,hmx,hb⟩:=h;injection hv with e1 e2 e3
 subst e1 e2 e3;have h0:0 < rows.length:=List.length_pos_iff.2 hne;obtain ⟨b,off,S',rfl,hEb,hbl,⟨hfr,rfl,cur,ety,sz',hh,hcs,hz,hrs⟩,hS',hrows⟩:=hb om;obtain ⟨uss,k1,k2⟩:=Zbe.open hrows;have hl:=k1.len;have hsz:sz'=sz:=by
  obtain ⟨r,hr⟩:=List.exists_mem_of_ne_nil _ hne;rw [<- hrs r hr,(hrl r hr).1]
 subst hsz;have hvb:vblk (.slice (some ⟨b,0,none⟩) uss.length cap)=some b:=by simp only [vblk];rw [if_neg om]
 have hrow:rowsLen sz' (uss.map ZbB):=fun x hx=>by
  obtain ⟨us,hus,rfl⟩:=Tbi.1 hx;obtain ⟨i,hi⟩:=Tbk hus;have hil:=(Tad.1 hi).1;obtain ⟨r,hr⟩:∃ r,rows[i]?=some r:=⟨_,Taa om⟩;have hov:=k1.get hr hi;have hrm:=hrl r (Tac hr);exact ⟨by simp only [ZbB,Tay];rw [hov.len];exact hrm.1,hov.cells hrm.2⟩
 refine ⟨uss,ety,S',om,⟨hz,hrow,.inr ⟨b,cap,cur,by simp,om,hbl,hT b hEb,hh,by simp only [Tay];omega,hmx,hcs,k2 T⟩⟩,k1,fun x hx=>⟨(hS' x hx).1,fun e=>?_⟩,fun x hx=>?_⟩
 ·rw [hvb] at e;injection e with e;exact (hS' x hx).2 e.symm
 ·rw [hvb] at hx;injection hx with hx;rw [<- hx];exact hEb
end
theorem Zz6 (x:Bk):Zd9 [x]:=⟨by simp,trivial⟩
def Zns (row:List C) (r:List D) (pm:List Bk):Prop:=∃ us E,r=[.agg (ZbB us)]∧us.length=row.length∧(ZbB us).all ZaB=true∧pm=[.set E (fun w=>Zak w row E us)]
def ZvY (ety sz:Nat) (rows:List (List C)) (r:List D) (pm:List Bk):Prop:=∃ a cap uss E,r=[.one (.lit (.slice a uss.length cap))]∧uss.length=rows.length∧pm=[.buf (some (a,cap)) ety sz (uss.map ZbB),.set E (fun w=>Zb9 w rows E uss)]
theorem Zns.mk {row:List C} {us:List Value} {E:Nat->Prop} (h:us.length=row.length) (hok:(ZbB us).all ZaB=true):Zns row [.agg (ZbB us)] [.set E (fun w=>Zak w row E us)]:=⟨us,E,rfl,h,hok,rfl⟩
theorem ZvY.mk {ety sz:Nat} {rows:List (List C)} {a:Option Addr} {cap:Nat} {uss:List (List Value)} {E:Nat->Prop} (h:uss.length=rows.length):ZvY ety sz rows [.one (.lit (.slice a uss.length cap))] [.buf (some (a,cap)) ety sz (uss.map ZbB),.set E (fun w=>Zb9 w rows E uss)]:=⟨a,cap,uss,E,rfl,h,rfl⟩
def ZvZ (rows:List (List C)) (r:List D) (pm:List Bk):Prop:=∃ v E,r=[.one (.lit v)]∧ZaB (.lit v)=true∧pm=[.set E (fun w=>Own w (.sl rows) E v)]
def Znt:Bk->Bool
 | .set _ _=>true
 | _=>false
def litC:C->Bool
 | .lit _=>true
 | _=>false
def litD:D->Bool
 | .one c=>litC c
 | .agg cs=>cs.all litC
 | _=>false
theorem ZjF {w:World} {S S':Nat->Prop}:∀ {cs:List C} {vs:List Value},cs.all litC=true->Zad w S cs vs->Zad w S' cs vs
 | [],[],_,_=>trivial
 | .lit x::cs,v::vs,hl,h=>by
  simp only [List.all_cons,Tar] at hl;exact ⟨h.1,ZjF hl.2 h.2⟩
 | .sl _::_,_::_,hl,_=>by simp [litC] at hl
 | .ptr _::_,_::_,hl,_=>by simp [litC] at hl
 | .fn _ _::_,_::_,hl,_=>by simp [litC] at hl
 | [],_::_,_,h=>h.elim
 | _::_,[],_,h=>h.elim
theorem Zop {w:World} {S S':Nat->Prop} {x:D} {v:Value} (hl:litD x=true) (h:DRel w S x v):DRel w S' x v:=by
 cases x with
 | one c=>cases c with
  | lit y=>exact h
  | _=>simp [litD,litC] at hl
 | agg cs=>obtain ⟨vs,h1,h2⟩:=h;exact ⟨vs,h1,ZjF hl h2⟩
 | clip _=>simp [litD] at hl
theorem Ziv {w:World} {S S':Nat->Prop}:∀ {r:List D} {vs:List Value},r.all litD=true->Zas w S r vs->Zas w S' r vs
 | [],[],_,_=>trivial
 | x::r,v::vs,hl,h=>by
  simp only [List.all_cons,Tar] at hl;exact ⟨Zop hl.1 h.1,Ziv hl.2 h.2⟩
 | [],_::_,_,h=>h.elim
 | _::_,[],_,h=>h.elim
theorem ZxJ {w:World} {S S':Nat->Prop} {L:Lay}:∀ {r:List D} {v:Value},r.all litD=true->ARel w S L (retA r) v->ARel w S' L (retA r) v
 | [],_,_,h=>by obtain ⟨vs,h1,h2⟩:=h;exact ⟨vs,h1,Ziv rfl h2⟩
 | [x],v,hl,h=>by
  simp only [List.all_cons,List.all_nil,Bool.and_true] at hl;exact Zop (x:=x) (v:=v) hl h
 | x::y::z,_,hl,h=>by obtain ⟨vs,h1,h2⟩:=h;exact ⟨vs,h1,Ziv hl h2⟩
def zTm:Tm:=.mk 0 ByteArray.empty 0 []
theorem Ze3:Zaa zTm=[.lit (.int .i64 0),.lit (.string ByteArray.empty),.lit (.int .i64 0),.sl []]:=by simp [zTm,Zaa,Zab]
theorem ZcB:Zab []=[]:=by simp [Zab]
theorem ZgH (ts:List Tm) {i:Nat} {t:Tm} (h:ts[i]?=some t):Zab (ts.take (i+1))=Zab (ts.take i)++[Zaa t]:=by
 simp only [Zbs,List.take_add_one,h,Option.toList,Tbv,Tbu,List.map_nil]
def tmsB (ts:List Tm):Prop:=ts.length+Zat (Zab ts)<=1048576
def Zv0 (x:Tm × Bool) (r:List D) (pm:List Bk):Prop:=∃ us E,r=[.agg (ZbB us),.one (.lit (.bool x.2))]∧us.length=4∧(ZbB us).all ZaB=true∧pm=[.set E (fun w=>Zak w (Zaa x.1) E us)]
theorem Zv0.mk {x:Tm × Bool} {b:Bool} {u0 u1 u2 u3:Value} {E:Nat->Prop} (hok:(ZbB [u0,u1,u2,u3]).all ZaB=true) (hb:b=x.2):Zv0 x [.agg [.lit u0,.lit u1,.lit u2,.lit u3],.one (.lit (.bool b))] [.set E (fun w=>Zak w (Zaa x.1) E [u0,u1,u2,u3])]:=⟨[u0,u1,u2,u3],E,by rw [hb];rfl,rfl,hok,rfl⟩
def wo:List Tm->List Tm->List Tm × Bool
 | l,[]=>(l,true)
 | [],_::_=>([],false)
 | a::l,o::os=>if Zah a o=0 then wo l os else (a::(wo l (o::os)).1,(wo l (o::os)).2)
theorem ZAJ (l:List Tm):wo l []=(l,true):=by cases l <;> rfl
where wo_mem:∀ {l os:List Tm},(wo l os).2=true->∀ s∈os,s∈l
 | l,[],_,s,hs=>by cases hs
 | [],o::os,h,s,hs=>by simp [wo] at h
 | a::l,o::os,h,s,hs=>by
  by_cases hc:Zah a o=0
  ·simp only [wo,if_pos hc] at h;have e:=Zdn hc;subst e;rcases Tbg.1 hs with rfl | hs
   ·exact Tas
   ·exact Tal _ (wo_mem h s hs)
  ·simp only [wo,if_neg hc] at h;exact Tal _ (wo_mem h s hs)
theorem Zrv (pm:List Bk):ZgT pm pm:=fun w S h1 h2=>⟨h1,h2,fun _ h=>h⟩
theorem Zoq {ts:List Tm} {i:Nat} (h:i<=ts.length):(Zab (ts.take i)).length=i:=by rw [Zaj,Taw];omega
theorem Zm3 (t:Tm) (hB:tmsB t.args) (h:∀ a∈t.args,Con e0 40 [.agg (Zaa a)] [.agg (Zaa a)]):Con e0 40 [.agg (Zaa t)] [.agg (Zaa t)]:=by
 obtain ⟨op,nm,so,args⟩:=t;have hc:Zaa (.mk op nm so args)=[.lit (.int .i64 op),.lit (.string nm),.lit (.int .i64 so),.sl (Zab args)]:=by simp only [Zaa]
 simp only [Tm.args] at h hB;have hl:args.length<=1048576:=Tbe (Nat.le_add_right _ _) hB;refine gI (ts:=[.cell 2 34]) 65567 Tryz.func40 ?_;refine fN 1 @hc ?_;refine gB ?_;refine gP 6 ?_;refine gX ?_;refine fR @hc ?_;refine pN 1000 34 4 ?_;refine fG @hc ?_;have F:=ai @hc @ZcB;refine gL (ι:=Nat × Option Addr × Nat) [4,16] [3,1000] (fun x=>[(4,.d (.one (.lit (.int .i64 (x.1:Int)))))]) (fun x=>[(1000,.buf (some (x.2.1,x.2.2)) 34 4 (Zab (args.take x.1))),(3,.var none [.lit (.int .i64 op),.lit (.string nm),.lit (.int .i64 so),.lit (.slice x.2.1 x.1 x.2.2)])]) (fun x=>x.1<=args.length) (fun x=>args.length - x.1) ((0,none,0)) (Taj _) (fun x hx=>?_);clear F
 obtain ⟨i,p,cap⟩:=x;simp only at hx;by_cases hlt:i < args.length
 ·have hg:args[i]?=some args[i]:=Taa hlt;have hcon:=h args[i] (List.getElem_mem hlt);generalize args[i]=a at hg hcon;have q1:=lT i args.length;have q4:IntKind.i64.wrap ((i:Int)+1)=(i:Int)+1:=IntWalk.i64_in _ om;have q2:i+1<=maxApp:=by unfold maxApp;omega
  have q3:=Zoq hx;have q5:(args.take i).length=i:=by rw [Taw];omega
  refine fB (aj6 @hc @Zaj @Zbj @q1 @hg @tmz) ?_;refine fC (aj3 @tmz @Zbj @hg) (hcon) ?_;have F:=aj4 @tmz @q2 @q3 @q5;refine gP 3 ?_;clear F;refine gS 28 fun p2 cap2=>?_;refine fR (aj3 @tmz @q3 @q5) ?_;refine pE [28] [1000] (Zrv _) ?_;rw [<- ZgH args hg];have F:=ai @hc @q4;refine gG ?_;exact ⟨(i+1,p2,cap2),hlt,gw,gw,om⟩
 ·obtain rfl:i=args.length:=by omega
  have q1:=lF args.length args.length;rw [Tap];refine fG (aj3 @hc @Zaj @q1) ?_;refine pD 1000 [] [2] ?_ (hs:=by exact snv);exact fD (ai @hc @Zaj)
theorem Zv1 (n:Nat):(∀ t:Tm,Zcb (Zaa t) < n->Zal (Zaa t)<=1048576->Con e0 40 [.agg (Zaa t)] [.agg (Zaa t)]):=by
 induction n with
 | zero=>exact fun _ h=>om
 | succ n ih =>
  intro t hn hb;obtain ⟨op,nm,so,args⟩:=t;simp only [Zaa,Zcb,ZgL,Zal,Zc6] at hn hb;refine Zm3 _ (by unfold tmsB;simp only [Tm.args];have:=Zaj args;omega) fun a ha=>?_;simp only [Tm.args] at ha;obtain ⟨i,hi⟩:=Tbk ha;have hi':(Zab args)[i]?=some (Zaa a):=by rw [Zbj,hi];rfl
  have h1:=Zel hi';have h2:=ZdE hi';exact ih a om om
theorem ZeB (t:Tm) (hb:Zal (Zaa t)<=1048576):Con e0 40 [.agg (Zaa t)] [.agg (Zaa t)]:=Zv1 _ t (Tan _) hb
section
variable {e:Env} {σ:St} {o:Oper} {K:St->Prop}
end
def Zsh (pm:List Bk) (l d:D):Prop:=l=d∨(∃ us row E,l=.agg (ZbB us)∧d=.agg row∧.set E (fun w=>Zak w row E us)∈pm)∨(∃ v rows E,l=.one (.lit v)∧d=.one (.sl rows)∧.set E (fun w=>Own w (.sl rows) E v)∈pm)
def Znu (pm:List Bk):List D->List D->Prop
 | [],[]=>True
 | l::ls,d::ds=>Zsh pm l d∧Znu pm ls ds
 | _,_=>False
theorem Zsh.same {pm:List Bk} {d:D}:Zsh pm d d:=.inl rfl
theorem Znu.rel {pm:List Bk}:∀ {lits data:List D},Znu pm lits data->∀ (w:World) (S:Nat->Prop) (vs:List Value),(∀ x∈pm,Zdd w S x)->Zas w S lits vs->Zas w (fun b=>S b∨Za9 pm b) data vs
 | [],[],_,w,S,[],_,_=>trivial
 | [],[],_,w,S,_::_,_,h=>h.elim
 | l::ls,d::ds,hr,w,S,[],_,h=>h.elim
 | l::ls,d::ds,⟨h1,h2⟩,w,S,v::vs,hp,⟨hv,hvs⟩=>by
  refine ⟨?_,Znu.rel h2 w S vs hp hvs⟩;rcases h1 with rfl | ⟨us,row,E,rfl,rfl,hm⟩ | ⟨u,rows,E,rfl,rfl,hm⟩
  ·exact DRel.keep (Tai _) (fun _ _ _=>rfl) (fun b hb=>.inl hb) hv
  ·obtain ⟨vs',rfl,hr⟩:=hv;rw [ZjE hr];obtain ⟨_,h3,_⟩:=hp _ hm;exact ⟨us,rfl,Zak.rep row E _ us (fun b hb=>.inr ⟨_,hm,hb⟩) h3⟩
  ·have hv:v=u:=hv;subst hv;obtain ⟨_,h3,_⟩:=hp _ hm;exact (Own.rep _ E v h3).mono fun b hb=>.inr ⟨_,hm,hb⟩
 | [],_::_,h,_,_,_,_,_=>h.elim
 | _::_,[],h,_,_,_,_,_=>h.elim
theorem ZjG (us:List Value):(ZbB us).all litC=true:=by
 induction us with
 | nil=>rfl
 | cons u us ih=>simp only [ZbB,Tbu,List.all_cons,litC,Bool.true_and];exact ih
theorem Zns.lits {row:List C} {r:List D} {q:List Bk} (h:Zns row r q):r.all litD=true∧q.all Znt=true:=by
 obtain ⟨us,E,rfl,_,_,rfl⟩:=h;exact ⟨by simp only [List.all_cons,List.all_nil,litD,ZjG];rfl,rfl⟩
theorem ZvZ.lits {rows:List (List C)} {r:List D} {q:List Bk} (h:ZvZ rows r q):r.all litD=true∧q.all Znt=true:=by
 obtain ⟨v,E,rfl,_,rfl⟩:=h;exact ⟨rfl,rfl⟩
def Zv2 (row:List C) (b:Bool) (r:List D) (pm:List Bk):Prop:=∃ us E,r=[.agg (ZbB us),.one (.lit (.bool b))]∧us.length=row.length∧(ZbB us).all ZaB=true∧pm=[.set E (fun w=>Zak w row E us)]
theorem Zv2.lits {row:List C} {b:Bool} {r:List D} {q:List Bk} (h:Zv2 row b r q):r.all litD=true∧q.all Znt=true:=by
 obtain ⟨us,E,rfl,_,_,rfl⟩:=h;exact ⟨by simp only [List.all_cons,List.all_nil,litD,ZjG];rfl,rfl⟩
def Zrw (rows:List (List C)) (b:Bool) (r:List D) (pm:List Bk):Prop:=∃ v E,r=[.one (.lit v),.one (.lit (.bool b))]∧ZaB (.lit v)=true∧pm=[.set E (fun w=>Own w (.sl rows) E v)]
theorem Zrw.lits {rows:List (List C)} {b:Bool} {r:List D} {q:List Bk} (h:Zrw rows b r q):r.all litD=true∧q.all Znt=true:=by
 obtain ⟨v,E,rfl,_,rfl⟩:=h;exact ⟨rfl,rfl⟩
mutual
theorem Zmz:∀ t:Tm,sizeTm t<=Zal (Zaa t)+1
 | .mk _ _ _ args=>by
  have:=Zk5 args;simp only [sizeTm,Zaa,Zal,Zc6];omega
theorem Zk5:∀ ts:List Tm,sizeTms ts<=(Zab ts).length+Zat (Zab ts)
 | []=>by simp [sizeTms]
 | t::ts=>by
  have h1:=Zmz t;have h2:=Zk5 ts;simp only [sizeTms,Zab,Tag,Zat];omega
end
theorem Zc5 {t:Tm} (h:Zal (Zaa t)<=1048576):sizeTm t<=big:=by
 have:=Zmz t;unfold big;omega
theorem ZxK (a b:List C):Zal (a++b)=Zal a+Zal b:=by
 induction a with
 | nil=>simp [Zal]
 | cons x xs ih=>simp only [Taf,Zal,ih];omega
theorem Ziw {r:List C}:∀ {rows:List (List C)},r∈rows->Zal r<=Zat rows
 | x::rs,h=>by
  simp only [Zat];rcases Tbg.1 h with rfl | h
  ·omega
  ·have:=Ziw h;omega
theorem Zzx {P:Nat->Prop} (h:∃ n,P n):∃ n,P n∧∀ m,m < n->¬ P m:=by
 obtain ⟨n,hn⟩:=h
 induction n using Nat.strongRecOn with
 | _ n ih =>
  by_cases hx:∃ m,m < n∧P m
  ·obtain ⟨m,hm,hp⟩:=hx;exact ih m hm hp
  ·exact ⟨n,hn,fun m hm hp=>hx ⟨m,hm,hp⟩⟩
theorem Zm4 {ts:List Tm} {f:FuncId} {caps:List C} {P:Tm->Bool} (hl:ts.length<=big) (h:∀ a∈ts,Con e0 f (.agg (Zaa a)::caps.map .one) [.one (.lit (.bool (P a)))]) :
  ∃ r:Int,(0<=r ↔ ts.any P=true)∧Con e0 71 [.one (.sl (Zab ts)),.one (.fn f caps)] [.one (.lit (.int .i64 r))]:=by
 unfold big at hl;by_cases hA:ts.any P=true
 ·obtain ⟨k,hk,hbef⟩:∃ k:Nat,(∃ a,ts[k]?=some a∧P a=true)∧∀ (j:Nat) a,j < k->ts[j]?=some a->P a=false:=by
   have hex:∃ k:Nat,∃ a,ts[k]?=some a∧P a=true:=by
    obtain ⟨a,ha,hp⟩:=List.any_eq_true.1 hA;obtain ⟨k,hk⟩:=Tbk ha;exact ⟨k,a,hk,hp⟩
   obtain ⟨k,hk,hmin⟩:=Zzx hex;refine ⟨k,hk,fun j a hj ha=>?_⟩
   cases hp:P a with
   | false=>rfl
   | true=>exact absurd ⟨a,ha,hp⟩ (hmin j hj)
  obtain ⟨a0,ha0,hp0⟩:=hk;have hkl:=(Tad.1 ha0).1;refine ⟨(k:Int),⟨fun _=>hA,fun _=>om⟩,?_⟩;refine gI 66483 Tryz.func71 ?_;refine fG @tmz ?_;have F:=@e0P;refine gL (ι:=Nat) [4,5,8,9,16] [] (fun i=>[(8,A.d (.one (.lit (.int .i64 i))))]) (fun i=>[]) (fun i=>i<=k) (fun i=>k+1 - i) (0) om (fun i hi=>?_);clear F;have hl':(i:Int) < (ts.length:Int):=om;obtain ⟨a,ha⟩:∃ a,ts[i]?=some a:=⟨_,Taa om⟩;have hw1:=Zaq (k:=i) om
  refine fB (ai @tmz @hl') ?_;refine fC (ai @tmz @ha) (h a (Tac ha)) ?_;by_cases hik:i=k
  ·subst hik;rw [ha] at ha0;injection ha0 with ha0
   subst ha0;refine fR (ai @tmz @hp0) ?_;exact fT @tmz
  ·have hpf:=hbef i a om ha;refine fR (ai @tmz @hpf) ?_;have F:=ai @hw1 @tmz;refine gG ?_;exact ⟨i+1,om,gw,gw,om⟩
 ·have hbef:∀ (j:Nat) a,ts[j]?=some a->P a=false:=fun j a ha=>by
   cases hp:P a with
   | false=>rfl
   | true=>exact absurd (List.any_eq_true.2 ⟨a,Tac ha,hp⟩) hA
  refine ⟨-1,⟨fun h=>om,fun h=>absurd h hA⟩,?_⟩;refine gI 66483 Tryz.func71 ?_;refine fG @tmz ?_;have F:=@e0P;refine gL (ι:=Nat) [4,5,8,9,16] [] (fun i=>[(8,A.d (.one (.lit (.int .i64 i))))]) (fun i=>[]) (fun i=>i<=ts.length) (fun i=>ts.length - i) (0) om (fun i hi=>?_);clear F;by_cases hi':i < ts.length;rotate_left
  ·have hl':¬ ((i:Int) < (ts.length:Int)):=om;exact fT (ai @tmz @hl')
  have hl':(i:Int) < (ts.length:Int):=om;obtain ⟨a,ha⟩:∃ a,ts[i]?=some a:=⟨_,Taa om⟩;have hw1:=Zaq (k:=i) om;have hpf:=hbef i a ha;refine fB (ai @tmz @hl') ?_;refine fC (ai @tmz @ha) (h a (Tac ha)) ?_;refine fR (ai @tmz @hpf) ?_;have F:=ai @hw1 @tmz;refine gG ?_;exact ⟨i+1,om,gw,gw,om⟩
theorem Zj4 {ts:List Tm} {f:FuncId} {caps:List C} {P:Tm->Bool} (hl:ts.length<=big) (h:∀ a∈ts,Con e0 f (.agg (Zaa a)::caps.map .one) [.one (.lit (.bool (P a)))]) :
  Con e0 67 [.one (.sl (Zab ts)),.one (.fn f caps)] [.one (.lit (.bool (ts.any P)))]:=by
 obtain ⟨r,hr,c⟩:=Zm4 hl h;refine gI 19 Tryz.func67 ?_;refine fB @tmz ?_;refine fC @tmz (c) ?_;have e:decide (0<=r)=ts.any P:=by
  rw [Bool.eq_iff_iff,decide_eq_true_iff];exact hr
 refine fR @tmz ?_;exact fT @e
where wo_sub:∀ (l os:List Tm),((wo l os).1).Sublist l
 | l,[]=>by rw [ZAJ];exact List.Sublist.refl _
 | [],o::os=>by simp [wo]
 | a::l,o::os=>by
  simp only [wo];split
  ·exact (wo_sub l os).cons _
  ·exact (wo_sub l (o::os)).cons_cons _
theorem Zv3 (op so:Int) (nm:ByteArray) (args:List Tm):Zal (Zaa (.mk op nm so args))=nm.size+(args.length+Zat (Zab args)):=by
 simp only [Zaa,Zal,Zc6,Zaj];omega
theorem Zor:Zal (Zaa zTm)=0:=by rw [zTm,Zv3];rfl
theorem Zos:okTm zTm:=by simp only [zTm,okTm,Zax,and_true];exact ⟨⟨by decide,by decide⟩,by simp [maxLen],⟨by decide,by decide⟩⟩
theorem ZmA {n:Nat}:∀ {rows:List (List C)} (l:Nat),rowsLen n rows->(rows.take l).flatten=rows.flatten.take (l * n)
 | [],l,_=>by simp
 | r::rs,0,_=>by simp
 | r::rs,l+1,h=>by
  have h1:=(h r Tas).1;have h2:=ZmA (n:=n) l (fun x hx=>h x (Tal _ hx):rowsLen n rs);simp only [Tbc,List.flatten_cons,h2];rw [show (l+1) * n=r.length+l * n by rw [h1,Nat.succ_mul,Nat.add_comm],List.take_length_add_append]
theorem ZmB {n:Nat}:∀ {rows:List (List C)} (l:Nat),rowsLen n rows->(rows.drop l).flatten=rows.flatten.drop (l * n)
 | [],l,_=>by simp
 | r::rs,0,_=>by simp
 | r::rs,l+1,h=>by
  have h1:=(h r Tas).1;have h2:=ZmB (n:=n) l (fun x hx=>h x (Tal _ hx):rowsLen n rs);simp only [List.drop_succ_cons,List.flatten_cons,h2];rw [show (l+1) * n=r.length+l * n by rw [h1,Nat.succ_mul,Nat.add_comm],List.drop_length_add_append]
section
variable {e:Env} {U:Nat->Prop} {w0:World} {S0:Nat->Prop} {nt:Nat} {σ:St} {a:Act} {w:World} {S:Nat->Prop} {L:Lay}
theorem Sim.storeRows (h:Sim e U w0 S0 nt σ a w S L) (he:e.Ok) {o:Option (Option Addr × Nat)} {k l g ety sz:Nat} {rows news:List (List C)} {vs:List Value} (hm:gm σ.m k=some (.buf o ety sz rows)) (hg:vblk (L.v k)=some g) (hl:l+news.length<=rows.length) (hn:rowsLen sz news) (hu:Zad w S news.flatten vs) :
  ∃ w',(storeCells ⟨g,l * sz,none⟩ vs).run e.P w=.ok () w'∧SimE e U w0 S0 nt ⟨σ.s,(k,.buf o ety sz (rows.take l++news++rows.drop (l+news.length)))::remM k σ.m⟩ a w':=by
 obtain ⟨hb0,hs0,hrl,h3⟩:=h.cls.own k _ hm;have hvl:=hu.len;have h1:=ZlD hn;rw [ZbY hn] at hvl;rcases h3 with ⟨h3,p,h4⟩ | ⟨g',cap,cur,hv,hcp,hg1,hg2,hheap0,hlen,hcap,hcs,hrows⟩
 ·rw [h4] at hg;cases p <;> simp [vblk] at hg
 ·have hgg:g'=g:=by rw [hv] at hg;simp only [vblk] at hg;rw [if_neg om] at hg;injection hg
  subst hgg;have hfl:=ZbY hrl;have hin:l * sz+vs.length<=rows.length * sz:=by
   have:=Nat.mul_le_mul_right sz hl;rw [Nat.add_mul] at this;omega
  have hin2:rows.length * sz<=cap * sz:=Nat.mul_le_mul_right sz hlen;have hst:=run_storeCells_at e.P g' (l * sz) ety vs 0 cur w hheap0 (by rw [hcs];omega) (Zeu h1 hu);simp only [Nat.add_zero] at hst;have hput:=Zfo w g' (l * sz) ety vs cur hheap0 (by rw [hcs];omega);refine ⟨_,hst,?_⟩;have hheap:=setRow_heap w g' cur (cur.toList.take (l * sz)++vs++cur.toList.drop (l * sz+vs.length)).toArray ety _ hheap0
  have hdr:(w.setRow g' (cur.toList.take (l * sz)++vs++cur.toList.drop (l * sz+vs.length)).toArray).drawn=w.drawn:=Zev _ _ _;generalize hW:w.setRow g' (cur.toList.take (l * sz)++vs++cur.toList.drop (l * sz+vs.length)).toArray=W at hput hheap hdr ⊢;have hsz:W.heap.size=w.heap.size:=hput.size;have hkc:∀ b o,S b->W.cell? ⟨b,o,none⟩=w.cell? ⟨b,o,none⟩:=fun b o hs=>Zbi (hput.other b (fun e=>hg2 (e ▸ hs))) o
  have hbk:Zav L k (.buf o ety sz rows) g':=hg;have hln:(rows.take l++news++rows.drop (l+news.length)).length=rows.length:=by simp;omega
  have hown:Own1 W S L k (.buf o ety sz (rows.take l++news++rows.drop (l+news.length))):=by
   simp only [Own1];refine ⟨fun a ha=>by rw [hb0 a ha,hln],hs0,fun x hx=>?_,.inr ⟨g',cap,_,by rw [hv,hln],hcp,om,hg2,hheap,by rw [hln];exact hlen,hcap,by simp;omega,?_⟩⟩
   ·rcases Tbh.1 hx with hx | hx
    ·rcases Tbh.1 hx with hx | hx
     ·exact hrl x (List.mem_of_mem_take hx)
     ·exact hn x hx
    ·exact hrl x (List.mem_of_mem_drop hx)
   ·apply Zap.of_flat;rw [List.flatten_append,List.flatten_append,ZmA l hrl,ZmB _ hrl];have hz:w.heap.size<=W.heap.size:=om;have hf:=hrows.flat;have r1:=Zag.keepAt (S':=S) hz hkc (fun _ h=>h) g' 0 (rows.flatten.take (l * sz)) (fun i hi=>hput.old _ (.inl (by simp at hi;omega))) (hf.take (l * sz));have r3:Zag W S g' (l * sz) news.flatten:=Zag.of_vals _ vs _ (Zad.keep2 hz hkc (fun _ h=>h) hu) hput.new
    have r5:=Zag.keepAt (S':=S) hz hkc (fun _ h=>h) g' _ (rows.flatten.drop ((l+news.length) * sz)) (fun i hi=>hput.old _ (.inr (by rw [hvl];rw [Nat.add_mul];omega))) (hf.drop ((l+news.length) * sz));have l1:(rows.flatten.take (l * sz)).length=l * sz:=by rw [Taw,hfl];omega
    refine Zag.append _ _ 0 (Zag.append _ _ 0 r1 ?_) ?_
    ·rw [l1,Nat.zero_add];exact r3
    ·rw [Tae,l1,ZbY hn,<- Nat.add_mul];exact r5
  obtain ⟨t1,t2,t3⟩:=h.touch he (d:=k) (bk:=.buf o ety sz (rows.take l++news++rows.drop (l+news.length))) (m':=(k,.buf o ety sz (rows.take l++news++rows.drop (l+news.length)))::remM k σ.m) (w':=W) (L':=L) (τ:=some g') (fun _ h=>h) (fun _ h=>.inl h)
   (fun k' x hkd hx=>by simp only [gm,hkd,if_false,ZaA] at hx;exact hx) (by simp [gm]) (fun _ _=>⟨rfl,rfl⟩)
   (fun q hq=>by injection hq with hq;subst hq;exact ⟨hg2,h.cls.notE hm hbk,h.cls.mine k _ _ hm hbk⟩)
   (fun k' x q hkd hx hq hb=>by
    injection hq with hq;subst hq
    simp only [gm,hkd,if_false,ZaA] at hx;exact hkd (h.cls.inj k' k x _ _ hx hm hb hbk))
   ⟨hput.os,hput.tape,hput.output,fun _=>Nat.le_of_eq hdr.symm,om,fun b hb hE=>hput.other b (fun eq=>hE (by rw [eq]))⟩ hown (fun q hq=>.inl (by rw [<- hq];exact hg.symm))
  exact ⟨S,L,t1,fun t=>t3 _ _ (fun _=>⟨rfl,rfl⟩) (h.rel t),h.size,h.defers,t2⟩
end
section
variable {e:Env} {σ:St} {o:Oper} {K:St->Prop}
theorem Zv4 {U:Nat->Prop} {base:Nat} {S0:Nat->Prop} {t:TypeId} {x:Operand} {lo hi:Option Operand} (ho:o.op=.slice t x lo hi none) {k cap ety sz:Nat} {a:Option Addr} {rows:List (List C)} {l h:Int} (hx:nrm σ.m (evA σ.s x)=.buf k) (hm:gm σ.m k=some (.buf (some (a,cap)) ety sz rows)) (ht:Zbm e.P t=some sz)
  (hlo:loA (lo.map (evA σ.s))=some l) (hhi:hiA rows.length (hi.map (evA σ.s))=some h) (hb:0<=l∧l<=h∧h<=rows.length):ZaO e U base S0 σ.m o (evA σ.s) (.d (.one (.lit (sliced a l.toNat h.toNat cap sz)))):=by
 refine Zaz fun w S L ρv hC hr=>?_;have hx':=Zce hC (hr x (by simp [ho,Op.operands]));rw [hx] at hx';have hx':ρv x=L.v k:=hx';obtain ⟨hpl,_,_,hbuf⟩:=hC.own k _ hm;have hv:L.v k=.slice a rows.length cap:=hpl (a,cap) rfl;have hcap:rows.length<=cap:=by
  rcases hbuf with ⟨h4,_⟩ | ⟨g,cap',cur,h4,_,_,_,_,h5,_⟩
  ·rw [h4];exact Taj _
  ·rw [hv] at h4;injection h4 with _ _ h4;rw [h4];exact h5
 have hel:∃ ety i,e.P.underlying t=some (.slice ety)∧e.P.info? ety=some i∧i.size=sz:=by
  unfold Zbm at ht;split at ht
  ·rename_i ety hu;simp only [Tav] at ht;obtain ⟨i,hi,hs⟩:=ht;exact ⟨ety,i,hu,hi,hs⟩
  ·cases ht
 obtain ⟨el,i,hu,hi',hsz⟩:=hel;have hlo:=Zg8 (w:=w) (S:=S) (L:=L) (ρv:=ρv) hlo (fun y hy=>hr y (by simp [ho,Op.operands,hy]));have hhi:=Zg9 (w:=w) (S:=S) (L:=L) (ρv:=ρv) hhi (fun y hy=>hr y (by simp [ho,Op.operands,hy]));refine ⟨sliced a l.toNat h.toNat cap sz,?_,by simp [ARel,DRel,Rep]⟩;have hbnd:(Instr.sliceBounds true rows.length cap (lo.map ρv) (hi.map ρv) none).run e.P w=.ok (l.toNat,h.toNat,cap) w:=by
  have eh:(h.toNat:Int)=h:=Int.toNat_of_nonneg om;have b1:0<=h:=om;have b2:h<=(cap:Int):=om;have b3:0<=l:=hb.1;have b4:l<=h:=hb.2.1;rcases hlo with ⟨rfl,rfl⟩ | e1 <;> rcases hhi with ⟨rfl,e2⟩ | e2
  ·simp [Instr.sliceBounds,e2,Result.andThen]
  ·simp [Instr.sliceBounds,e2,Result.andThen,run_sliceBound,b1,b2]
  ·have b5:l<=(rows.length:Int):=om;simp [Instr.sliceBounds,e1,e2,Result.andThen,run_sliceBound,b3,b5]
  ·simp [Instr.sliceBounds,e1,e2,Result.andThen,run_sliceBound,b1,b2,b3,b4,eh]
 simp only [execOp,ho,Sem.run_bind,hx',hv,Instr.sliceAt,Instr.slice,underlying,run_program,Result.andThen_ok,hu,Sem.run_pure,Option.map_none,hbnd,sizeOf,typeInfo,hi',hsz,sliced]
theorem ZxL {t:TypeId} {x:Operand} {lo hi:Option Operand} (ho:o.op=.slice t x lo hi none) {k cap ety sz:Nat} {a:Option Addr} {rows:List (List C)} {l h:Int} (hx:nrm σ.m (evA σ.s x)=.buf k) (hm:gm σ.m k=some (.buf (some (a,cap)) ety sz rows)) (ht:Zbm e.P t=some sz)
  (hlo:loA (lo.map (evA σ.s))=some l) (hhi:hiA rows.length (hi.map (evA σ.s))=some h) (hb:0<=l∧l<=h∧h<=rows.length) (hK:K ⟨setA σ.s o.dst (.d (.one (.lit (sliced a l.toNat h.toNat cap sz)))),σ.m⟩):Zbw e o σ K:=by
 intro he U w0 S0 nt ac w Q hd ⟨S,L,h1⟩;exact Oper.wp_mono (fun a' w' hs=>⟨_,hK,hs⟩) (ZdS h1 hd (Zv4 ho hx hm ht hlo hhi hb))
theorem ZhZ {U:Nat->Prop} {base:Nat} {S0:Nat->Prop} {t:TypeId} {x i:Operand} (ho:o.op=.indexAddr t x i) {k cap ety sz l h:Nat} {a:Option Addr} {rows:List (List C)} {j:Int} (hx:evA σ.s x=.d (.one (.lit (sliced a l h cap sz)))) (hi:evA σ.s i=.d (.one (.lit (.int .i64 j)))) (hm:gm σ.m k=some (.buf (some (a,cap)) ety sz rows)) (ht:Zbm e.P t=some sz)
  (hb:0<=j∧l+j < h∧h<=rows.length):ZaO e U base S0 σ.m o (evA σ.s) (.row k (l+j.toNat) sz 0):=by
 refine Zaz fun w S L ρv hC hr=>?_;have hx':=hr x (by simp [ho,Op.operands]);have hi':=hr i (by simp [ho,Op.operands]);rw [hx] at hx';rw [hi] at hi';have hx':=Zbg hx';have hi':=Zbg hi';obtain ⟨hpl,_,_,hbuf⟩:=hC.own k _ hm;have hv:L.v k=.slice a rows.length cap:=hpl (a,cap) rfl;rcases hbuf with ⟨h4,_⟩ | ⟨g,cap',cur,h4,h6,_,_,_,h5,_⟩
 ·rw [h4] at hb;simp at hb;omega
 ·rw [hv] at h4;injection h4 with h7 _ h8
  subst h7 h8;have hlc:¬ cap=l:=om;have hval:sliced (some ⟨g,0,none⟩) l h cap sz=.slice (some ⟨g,l * sz,none⟩) (h - l) (cap - l):=by
   simp only [sliced,hlc,if_false,Option.map_some,Addr.add_at,Nat.zero_add]
  refine ⟨.pointer (some ⟨g,(l+j.toNat) * sz+0,none⟩),?_,g,?_,rfl⟩
  ·unfold Zbm at ht;split at ht
   ·rename_i el hu;simp only [Tav] at ht;obtain ⟨ii,hii,hn⟩:=ht;have hlt:j < ((h - l:Nat):Int):=om;have hj:=hb.1;have e2:l * sz+j.toNat * sz=(l+j.toNat) * sz+0:=by rw [Nat.add_mul];rfl
    simp [execOp,ho,hi',hx',hval,Instr.indexAt,asIntOf,underlying,hu,sizeOf,typeInfo,hii,hn,Addr.add_at,hj,hlt,Result.andThen,e2]
   ·cases ht
  ·rw [hv];simp only [vblk];rw [if_neg om]
theorem Zot {t:TypeId} {x i:Operand} (ho:o.op=.indexAddr t x i) {k cap ety sz l h:Nat} {a:Option Addr} {rows:List (List C)} {j:Int} (hx:evA σ.s x=.d (.one (.lit (sliced a l h cap sz)))) (hi:evA σ.s i=.d (.one (.lit (.int .i64 j)))) (hm:gm σ.m k=some (.buf (some (a,cap)) ety sz rows)) (ht:Zbm e.P t=some sz)
  (hb:0<=j∧l+j < h∧h<=rows.length) (hK:K ⟨setA σ.s o.dst (.row k (l+j.toNat) sz 0),σ.m⟩):Zbw e o σ K:=by
 intro he U w0 S0 nt ac w Q hd ⟨S,L,h1⟩;exact Oper.wp_mono (fun a' w' hs=>⟨_,hK,hs⟩) (ZdS h1 hd (ZhZ ho hx hi hm ht hb))
theorem Zm5 {t:TypeId} {x i:Operand} (ho:o.op=.indexAddr t x i) {k cap ety sz l h:Nat} {a:Option Addr} {rows:List (List C)} {j:Int} (hx:evA σ.s x=.d (.one (.lit (sliced a l h cap sz)))) (hi:evA σ.s i=.d (.one (.lit (.int .i64 j)))) (hm:gm σ.m k=some (.buf (some (a,cap)) ety sz rows)) (ht:Zbm e.P t=some sz)
  (hb:0<=j∧l+j < h∧h<=rows.length) (hK:K ⟨setA σ.s o.dst (.row k (l+j.toNat) sz 0),σ.m⟩):Zdw e o σ K:=fun he=>⟨_,hK,fun U base S0=>ZhZ ho hx hi hm ht hb⟩
theorem Zsi {x:Operand} {t:TypeId} (ho:o.op=.call ⟨.builtin .clear,#[x],#[t]⟩) {k cap ety sz by' l:Nat} {a:Option Addr} {rows:List (List C)} {z:List C} (hx:evA σ.s x=.d (.one (.lit (sliced a l rows.length cap sz)))) (hm:gm σ.m k=some (.buf (some (a,cap)) ety sz rows)) (ht:Zbf e.P t=some (ety,sz,by')) (hz:ZaQ e.P ety=some z) (hzok:z.all ZaB=true) (hl:l < rows.length)
  (hK:K ⟨setA σ.s o.dst (.tup []),(k,.buf (some (a,cap)) ety sz (rows.take l++List.replicate (rows.length - l) z))::remM k σ.m⟩):Zbw e o σ K:=by
 intro he U w0 S0 nt ac w Q hd ⟨S,L,h1⟩;have hx':=h1.eval x;rw [hx] at hx';have hx':=Zbg hx';obtain ⟨hpl,hs0,_,hbuf⟩:=h1.cls.own k _ hm;have hv:L.v k=.slice a rows.length cap:=hpl (a,cap) rfl;obtain ⟨i,zv,hu,hi,hzz,hsz,hby,hzs,hs0,hb4⟩:=ZcC ht;have hzc:z=zv.cells.toList.map toC:=by
  unfold ZaQ at hz;simp only [hi,Option.bind_some,hzz,Option.map_some,Taq] at hz;exact hz.symm
 rcases hbuf with ⟨h4,_⟩ | ⟨g,cap',cur,h4,h6,_,_,_,h5,_⟩
 ·rw [h4] at hl;simp at hl
 ·rw [hv] at h4;injection h4 with h7 _ h8
  subst h7 h8;have hlc:¬ cap=l:=om;have hval:sliced (some ⟨g,0,none⟩) l rows.length cap sz=.slice (some ⟨g,l * sz,none⟩) (rows.length - l) (cap - l):=by
   simp only [sliced,hlc,if_false,Option.map_some,Addr.add_at,Nat.zero_add]
  have hn:rowsLen sz (List.replicate (rows.length - l) z):=fun r hr=>by
   rw [List.eq_of_mem_replicate hr];exact ⟨by rw [hzc];simp [hzs],hzok⟩
  have hu':Zad w S (List.replicate (rows.length - l) z).flatten ((List.replicate (rows.length - l) zv).flatMap fun v=>v.cells.toList):=by rw [hzc];exact Zh6 _
  obtain ⟨w',hst,hsim⟩:=h1.storeRows he (l:=l) (g:=g) hm (by rw [hv];simp only [vblk];rw [if_neg om]) (by simp;omega) hn hu';rw [List.length_replicate,show l+(rows.length - l)=rows.length by omega,List.drop_length,List.append_nil] at hsim;obtain ⟨S',L',hsim⟩:=hsim;have hzc2:(Builtin.zeroCells zv.cells (rows.length - l)).toList=(List.replicate (rows.length - l) zv).flatMap fun v=>v.cells.toList:=by
   have:=Zkp zv sz hs0 hzs (rows.length - l);rw [<- this];simp [Builtin.zeroCells,madeCells,hzs]
  have hrun:(execOp ac.eval o).run e.P w=.ok (.value (.tuple #[])) w':=by
   have hne:¬ (rows.length - l=0):=om;obtain ⟨q,hq⟩:∃ q,rows.length - l=q+1:=⟨rows.length - l - 1,om⟩;rw [hq] at hst hzc2;simp [execOp,ho,resolve,invoke,builtin,Builtin.clear_,hx',hval,hq,underlying,hu,zeroValue,hi,hzz,typeInfo,Result.andThen,hzc2,hst]
  unfold Oper.wp;rw [hrun,Oper.upon_value];refine ⟨_,hK,S',L',hsim.put (α:=.tup []) (v:=.tuple #[]) ⟨[],rfl,trivial⟩ hd⟩
end
theorem Zv5 {a:Option Addr} {cap ety sz:Nat} {rows:List (List C)} (m:Nat) (hm:m<=rows.length):ZgT [.buf (some (a,cap)) ety sz rows] [.buf (some (a,cap)) ety sz (rows.take m)]:=fun w S h ha=>by
 have hl:(rows.take m).length=m:=by rw [Taw];omega
 obtain ⟨h0,hrl,hc⟩:ZaS w S ety sz rows (.slice a rows.length cap):=h (.buf (some (a,cap)) ety sz rows) (by simp);have hb:∀ b,vblk (.slice a m cap)=some b ↔ vblk (.slice a rows.length cap)=some b:=fun b=>by cases a <;> simp [vblk]
 refine ⟨fun x hx=>?_,Zz6 _,fun g ⟨x,hx,hg⟩=>?_⟩
 ·simp only [Tbg,List.not_mem_nil,or_false] at hx;subst hx;show ZaS w S ety sz (rows.take m) (.slice a (rows.take m).length cap);rw [hl];refine ⟨h0,fun r hr=>hrl r (List.mem_of_mem_take hr),?_⟩;rcases hc with ⟨h4,p,h5⟩ | ⟨g,cap',cur,h4,h5,h6,h7,h8,h9,h10,h11,h12⟩
  ·subst h4;simp only [Tak,Nat.le_zero_eq] at hm;subst hm;exact .inl ⟨by simp,p,by simpa using h5⟩
  ·injection h4 with e1 e2 e3
   subst e1 e3;refine .inr ⟨g,cap,cur,by rw [hl],h5,h6,h7,h8,by rw [hl];omega,h10,h11,?_⟩;have:=Zap.sub hrl h12 0 m;simpa using this
 ·simp only [Tbg,List.not_mem_nil,or_false] at hx;subst hx;refine ⟨.buf (some (a,cap)) ety sz rows,by simp,?_⟩;simp only [pblk,hl] at hg ⊢;exact (hb g).1 hg
theorem gSub {e:Env} {K:St->Prop} {ds:List (Option Nat)} {os:List Oper} {d t ty cap ety sz:Nat} {p:String} {ed:Array Edge} {x:Operand} {lo hi:Option Operand} {s:List (Nat × A)} {m:List (Nat × Bk)} {a:Option Addr} {rows:List (List C)} (k l h:Nat) (hb:l<=h∧h<=rows.length) (hK:Runs e ds 0 os ⟨(d,.d (.one (.lit (sliced a l h cap sz))))::s,m⟩ K)
  (hx:nrm m (evA s x)=.buf k:=by exact sfx) (hm:gm m k=some (.buf (some (a,cap)) ety sz rows):=by exact snv) (ht:Zbm e.P t=some sz:=by exact snx)
  (hlo:loA (lo.map (evA s))=some (l:Int):=by exact sfx) (hhi:hiA rows.length (hi.map (evA s))=some (h:Int):=by exact sfx):Runs e ds 0 (⟨some d,.slice t x lo hi none,ty,p,ed,none⟩::os) ⟨s,m⟩ K:=by
 simp only [Runs] at hK ⊢;exact Zcv rfl (ZxL (o:=⟨some d,.slice t x lo hi none,ty,p,ed,none⟩) rfl hx hm ht hlo hhi ⟨om,om,om⟩ (by simpa only [Tbw,setA] using hK))
theorem ZA6 {e:Env} {K:St->Prop} {ds:List (Option Nat)} {os:List Oper} {d t ty cap ety sz l h:Nat} {p:String} {ed:Array Edge} {x i:Operand} {s:List (Nat × A)} {m:List (Nat × Bk)} {a:Option Addr} {rows:List (List C)} (k j:Nat) (hb:l+j < h∧h<=rows.length) (hK:Runs e ds 0 os ⟨(d,.row k (l+j) sz 0)::s,m⟩ K)
  (hx:evA s x=.d (.one (.lit (sliced a l h cap sz))):=by exact snx) (hi:evA s i=.d (.one (.lit (.int .i64 (j:Int)))):=by exact sfx) (hm:gm m k=some (.buf (some (a,cap)) ety sz rows):=by exact snv) (ht:Zbm e.P t=some sz:=by exact snx):Runs e ds 0 (⟨some d,.indexAddr t x i,ty,p,ed,none⟩::os) ⟨s,m⟩ K:=by
 simp only [Runs] at hK ⊢;exact Zcv rfl (Zot (o:=⟨some d,.indexAddr t x i,ty,p,ed,none⟩) rfl hx hi hm ht ⟨om,om,om⟩ (by simpa only [Tbw,setA] using hK))
theorem Zsj {e:Env} {ds:List (Option Nat)} {K:St->Prop} {n:Nat} {os:List Oper} {o:Oper} {σ:St} (hg:o.guard=none) (hal:isAl o=false) (h:Zdw e o σ (fun σ'=>Runs e ds n os σ' K)):Runs e ds (n+1) (o::os) σ K:=by
 simp only [Runs,hg];rw [if_neg (by simp [hal])];exact h
theorem Zv6 {e:Env} {K:St->Prop} {ds:List (Option Nat)} {os:List Oper} {n d t ty cap ety sz l h:Nat} {p:String} {ed:Array Edge} {x i:Operand} {s:List (Nat × A)} {m:List (Nat × Bk)} {a:Option Addr} {rows:List (List C)} (k j:Nat) (hb:l+j < h∧h<=rows.length) (hK:Runs e ds n os ⟨(d,.row k (l+j) sz 0)::s,m⟩ K)
  (hx:evA s x=.d (.one (.lit (sliced a l h cap sz))):=by exact snx) (hi:evA s i=.d (.one (.lit (.int .i64 (j:Int)))):=by exact sfx) (hm:gm m k=some (.buf (some (a,cap)) ety sz rows):=by exact snv) (ht:Zbm e.P t=some sz:=by exact snx):Runs e ds (n+1) (⟨some d,.indexAddr t x i,ty,p,ed,none⟩::os) ⟨s,m⟩ K :=
 Zsj rfl rfl (Zm5 (o:=⟨some d,.indexAddr t x i,ty,p,ed,none⟩) rfl hx hi hm ht ⟨om,om,om⟩ (by simpa only [Tbw,setA] using hK))
theorem ZAK {e:Env} {K:St->Prop} {ds:List (Option Nat)} {os:List Oper} {t ty cap ety sz by' l:Nat} {dd:Option Nat} {p:String} {ed:Array Edge} {x:Operand} {s s':List (Nat × A)} {m m':List (Nat × Bk)} {a:Option Addr} {rows:List (List C)} {z:List C} (k:Nat) (hl:l < rows.length) (hK:Runs e ds 0 os ⟨s',(k,.buf (some (a,cap)) ety sz (rows.take l++List.replicate (rows.length - l) z))::m'⟩ K)
  (hx:evA s x=.d (.one (.lit (sliced a l rows.length cap sz))):=by exact snv) (hm:gm m k=some (.buf (some (a,cap)) ety sz rows):=by exact snv) (ht:Zbf e.P t=some (ety,sz,by'):=by exact snx) (hz:ZaQ e.P ety=some z:=by exact snx) (hzok:z.all ZaB=true:=by first | rfl | exact sny)
  (hs:setA s dd (.tup [])=s':=by simp only [setA];exact rfl) (hr:remM k m=m':=by exact snv):Runs e ds 0 (⟨dd,.call ⟨.builtin .clear,#[x],#[t]⟩,ty,p,ed,none⟩::os) ⟨s,m⟩ K:=by
 subst hs hr;simp only [Runs] at hK ⊢;exact Zcv rfl (Zsi (o:=⟨dd,.call ⟨.builtin .clear,#[x],#[t]⟩,ty,p,ed,none⟩) rfl hx hm ht hz hzok hl hK)
theorem ZjH (a:Option Addr) (k cap sz:Nat):sliced a 0 k cap sz=.slice a k cap:=by
 cases a with
 | none=>simp [sliced]
 | some p =>
  have:p.add 0=p:=by cases p;simp [Addr.add]
  simp [sliced,this]
section
variable {e:Env} {ops:Array Oper} {K:St->Prop}
def QN (e:Env) (U:Nat->Prop) (w0:World) (S0:Nat->Prop) (nt:Nat) (K:St->Prop):Exit->Act->World->Prop:=fun ex a w=>ex=.normal∧∃ σ',K σ'∧SimE e U w0 S0 nt σ' a w
def Zci (e:Env) (ops:Array Oper) (K:St->Prop) (f:Nat) (listed:Array Bool) (σ:St):Prop :=
 e.Ok->∀ (U:Nat->Prop) (w0:World) (S0:Nat->Prop) (nt:Nat) (a:Act) (w:World),(∀ o∈ops.toList,∀ d,o.dst=some d->d < nt)->SimE e U w0 S0 nt σ a w->wpAny e.P .any ops (QN e U w0 S0 nt K) f listed a w
theorem ZpG {ds:List (Option Nat)} {f:Nat} {listed:Array Bool} {σ:St} (hds:ops.toList.map (·.dst)=ds) (h:ZcP e ds ops K f listed σ):Zci e ops K f listed σ:=by
 subst hds;exact fun he U w0 S0 nt a w hd hs=>ZjU he (fun a w σ' hK hs'=>⟨rfl,σ',hK,hs'⟩) hd f listed σ a w hs h
def Zou (ops:Array Oper) (listed:Array Bool) (i:Nat):Bool:=(List.range ops.size).all fun j=>j==i || (listed.getD j true || match ops[i]?,ops[j]? with
 | some oi,some oj=>oj.after.any (fun e=>Region.binds .any e && e.on==i) || oi.apart ops oj
 | _,_=>true)
def Zk6 (ops:Array Oper):Bool:=ops.toList.all fun o=>match o.op with
 | .select _ _=>false
 | _=>true
theorem ZjI {f i d:Nat} {listed:Array Bool} {σ:St} {o:Oper} {α:A} (hi:ops[i]?=some o) (hdst:o.dst=some d) (hg:o.guard=none) (hsel:Zk6 ops=true) (hap:Zou ops listed i=true) (hr:(Region.ready .any ops listed).contains i=true)
  (hp:e.Ok->∀ (U:Nat->Prop) (w0:World) (S0:Nat->Prop) (nt:Nat) (a:Act) (w:World) (S:Nat->Prop) (L:Lay),Sim e U w0 S0 nt σ a w S L->∃ v,(∀ w',(execOp a.eval o).run e.P w'=.ok (.value v) w')∧ARel w S L α v)
  (hK:Zci e ops K f (listed.setIfInBounds i true) ⟨(d,α)::σ.s,σ.m⟩):Zci e ops K (f+1) listed σ:=by
 intro he U w0 S0 nt a w hd ⟨S,L,h⟩;obtain ⟨v,hv,hrel⟩:=hp he U w0 S0 nt a w S L h;have hmem:o∈ops.toList:=Tac (by simpa using hi);refine wpAny_first (oi:=o) (v:=v) hi (fun j oj cs b hj hs=>?_) (fun c a w hq=>?_) f listed a w (fun j oj hj hne hl hno=>?_) ?_ ?_ ?_
 ·have:=List.all_eq_true.1 hsel oj (Tac (by simpa using hj));rw [hs] at this
  cases this
 ·have:=hq.1
  cases this
 ·have hjs:=(Tbl.1 hj).1;have:=List.all_eq_true.1 hap j (List.mem_range.2 hjs);simp only [hi,hj,Bool.or_eq_true,beq_iff_eq,List.any_eq_true,Array.any_eq_true',Tar] at this;rcases this with h1 | h1 | h1 | h1
  ·exact absurd h1 hne
  ·rw [hl] at h1;cases h1
  ·obtain ⟨ed,h2,h3,h4⟩:=h1;exact absurd h4 (hno ed h2 h3)
  ·exact h1
 ·simpa using hr
 ·exact .inl ⟨by simp [Region.wanted,hg],hv⟩
 ·have h2:SimE e U w0 S0 nt ⟨(d,α)::σ.s,σ.m⟩ (a.put o.dst v) w:=⟨S,L,by
   have:=h.put (α:=α) hrel (hd o hmem)
   rwa [hdst,setA,<- hdst] at this⟩
  exact hK he U w0 S0 nt (a.put o.dst v) w hd h2
end
section
variable {e:Env} {K:St->Prop} {mask:Nat} {Q:PX->St->Prop} {s:List (Nat × A)} {m:List (Nat × Bk)}
theorem Zgn {id:Nat} {ops:Array Oper} {σ:St} (hK:Zci e ops (Zcq mask Q) ops.size (Array.replicate ops.size false) σ):pwp e mask (.region id ops true) σ Q:=fun he U w0 S0 nt a w hok hs=>by
 obtain ⟨S,L,h1⟩:=hs.drew he;refine Code.wp_mono (fun ex a' w' hq=>?_) (wp_region_any he.mixed (hK he U w0 S0 nt a { w with drawn:=w.drawn+1 } (ZkI hok) ⟨S,L,h1⟩));obtain ⟨rfl,σ',k1,k2⟩:=hq;exact ⟨_,k1,k2.weak (fun t=>Zhc mask t σ'.s) (fun _ _ h=>h)⟩
theorem gF0 {id:Nat} {l:List Oper} (hK:Zci e l.toArray (Zcq mask Q) l.length (Array.replicate l.length false) ⟨s,m⟩):pwp e mask (.region id l.toArray true) ⟨s,m⟩ Q:=Zgn (ops:=l.toArray) (by simpa using hK)
theorem gFT {ds:List (Option Nat)} {ops:Array Oper} {f:Nat} {listed:Array Bool} {σ:St} (h:ZcP e ds ops K f listed σ) (hds:ops.toList.map (·.dst)=ds:=by exact rfl):Zci e ops K f listed σ:=ZpG hds h
theorem gFm {ops:Array Oper} {f d ty:Nat} {p:String} {ed:Array Edge} {x:Operand} {α:A} {listed:Array Bool} (i:Nat) (hK:Zci e ops K f (listed.setIfInBounds i true) ⟨(d,α)::s,m⟩)
  (hi:ops[i]?=some ⟨some d,.move x,ty,p,ed,none⟩:=by simp only [List.getElem?_toArray,Tau,Tat];exact rfl) (hx:evA s x=α:=by exact snv) (hsel:Zk6 ops=true:=by decide +kernel) (hap:Zou ops listed i=true:=by decide +kernel) (hr:(Region.ready .any ops listed).contains i=true:=by decide +kernel):Zci e ops K (f+1) listed ⟨s,m⟩:=by
 subst hx;exact ZjI (o:=⟨some d,.move x,ty,p,ed,none⟩) hi rfl rfl hsel hap hr (fun _ U w0 S0 nt a w S L h=>⟨a.eval x,fun w2=>by simp [execOp],h.eval x⟩) hK
theorem gFs {ops:Array Oper} {f d t ty cap ety sz:Nat} {p:String} {ed:Array Edge} {x:Operand} {lo hi:Option Operand} {a:Option Addr} {rows:List (List C)} {listed:Array Bool} (i k l h:Nat) (hb:l<=h∧h<=rows.length) (hK:Zci e ops K f (listed.setIfInBounds i true) ⟨(d,.d (.one (.lit (sliced a l h cap sz))))::s,m⟩)
  (hi':ops[i]?=some ⟨some d,.slice t x lo hi none,ty,p,ed,none⟩:=by simp only [List.getElem?_toArray,Tau,Tat];exact rfl)
  (hx:nrm m (evA s x)=.buf k:=by exact sfx) (hm:gm m k=some (.buf (some (a,cap)) ety sz rows):=by exact snv) (ht:Zbm e.P t=some sz:=by exact snx)
  (hlo:loA (lo.map (evA s))=some (l:Int):=by exact sfx) (hhi:hiA rows.length (hi.map (evA s))=some (h:Int):=by exact sfx)
  (hsel:Zk6 ops=true:=by decide +kernel) (hap:Zou ops listed i=true:=by decide +kernel) (hr:(Region.ready .any ops listed).contains i=true:=by decide +kernel):Zci e ops K (f+1) listed ⟨s,m⟩:=by
 refine ZjI (o:=⟨some d,.slice t x lo hi none,ty,p,ed,none⟩) hi' rfl rfl hsel hap hr (fun _ U w0 S0 nt ac w S L hS=>⟨sliced a l h cap sz,fun w'=>?_,by simp [ARel,DRel,Rep]⟩) hK;have hx':=Zce hS.cls (hS.eval x);simp only at hx';rw [hx] at hx';have hx':ac.eval x=L.v k:=hx';obtain ⟨hpl,_,_,hbuf⟩:=hS.cls.own k _ hm;have hv:L.v k=.slice a rows.length cap:=hpl (a,cap) rfl;have hcap:rows.length<=cap:=by
  rcases hbuf with ⟨h4,_⟩ | ⟨g,cap',cur,h4,_,_,_,_,h5,_⟩
  ·rw [h4];exact Taj _
  ·rw [hv] at h4;injection h4 with _ _ h4;rw [h4];exact h5
 have hel:∃ ety i,e.P.underlying t=some (.slice ety)∧e.P.info? ety=some i∧i.size=sz:=by
  unfold Zbm at ht;split at ht
  ·rename_i ety hu;simp only [Tav] at ht;obtain ⟨i,hi,hs⟩:=ht;exact ⟨ety,i,hu,hi,hs⟩
  ·cases ht
 obtain ⟨el,inf,hu,hinf,hsz⟩:=hel;have hlo:=Zg8 (w:=w) (S:=S) (L:=L) (ρv:=ac.eval) hlo (fun y hy=>hS.eval y);have hhi:=Zg9 (w:=w) (S:=S) (L:=L) (ρv:=ac.eval) hhi (fun y hy=>hS.eval y);have hbnd:(Instr.sliceBounds true rows.length cap (lo.map ac.eval) (hi.map ac.eval) none).run e.P w'=.ok (l,h,cap) w':=by
  have b2:(h:Int)<=(cap:Int):=om;have b5:(l:Int)<=(rows.length:Int):=om;rcases hlo with ⟨rfl,e1⟩ | e1 <;> rcases hhi with ⟨rfl,e2⟩ | e2
  ·have e1:l=0:=om;have e2:h=rows.length:=om;subst e1 e2;simp [Instr.sliceBounds,Result.andThen]
  ·have e1:l=0:=om;subst e1;simp [Instr.sliceBounds,e2,Result.andThen,run_sliceBound,b2]
  ·have e2:h=rows.length:=om;subst e2;simp [Instr.sliceBounds,e1,Result.andThen,run_sliceBound,b5]
  ·have b4:(l:Int)<=(h:Int):=om;simp [Instr.sliceBounds,e1,e2,Result.andThen,run_sliceBound,b2,b4,hb.1]
 simp only [execOp,Sem.run_bind,hx',hv,Instr.sliceAt,Instr.slice,underlying,run_program,Result.andThen_ok,hu,Sem.run_pure,Option.map_none,hbnd,sizeOf,typeInfo,hinf,hsz,sliced]
end
section
variable {w:World} {S:Nat->Prop}
theorem Zsk {rows:List (List C)} {ety sz cap l h:Nat} {a:Option Addr} (hb:ZaS w S ety sz rows (.slice a rows.length cap)) (hl:l<=h∧h<=rows.length):∃ (b:Option Addr) (c:Nat) (news:List Value),sliced a l h cap sz=.slice b ((rows.take h).drop l).length c∧Zad w S ((rows.take h).drop l).flatten news∧∀ (P:Program) (w':World),(∀ p,w'.cell? p=w.cell? p)->(Builtin.firstCells sz ((rows.take h).drop l).length (sliced a l h cap sz)).run P w'=.ok news.toArray w':=by
 have hln:((rows.take h).drop l).length=h - l:=by rw [Tax,Taw];omega
 obtain ⟨h1,hrl,h3⟩:=hb;by_cases he:h=l
 ·have e0:((rows.take h).drop l).length=0:=om;have e1:(rows.take h).drop l=[]:=Tao e0;refine ⟨_,_,[],by rw [hln];exact rfl,by rw [e1];simp [Zad],fun P w' _=>?_⟩;rw [e0];simp only [sliced,he,Nat.sub_self];split
  ·cases a <;> simp [Builtin.firstCells,loadCells,loadCellsFrom]
  ·cases a <;> simp [Builtin.firstCells,loadCells,loadCellsFrom]
 ·rcases h3 with ⟨h4,p,h5⟩ | ⟨g,cap',cur,h4,h5,h6,h7,h8,h9,h10,h11,h12⟩
  ·rw [h4] at hl;simp only [Tak] at hl;omega
  ·injection h4 with e1 e2 e3
   subst e1 e3;have hlc:¬ cap=l:=om;have hval:sliced (some ⟨g,0,none⟩) l h cap sz=.slice (some ⟨g,l * sz,none⟩) (h - l) (cap - l):=by
    simp only [sliced,hlc,if_false,Option.map_some,Addr.add_at,Nat.zero_add]
   have hr:=Zap.sub hrl h12 l h;rw [Nat.zero_add] at hr;obtain ⟨news,q5,q6⟩:=hr.flat.vals;have hsl:rowsLen sz ((rows.take h).drop l):=fun r hr=>hrl r (List.mem_of_mem_take (List.mem_of_mem_drop hr));rw [hval];refine ⟨_,_,news,by rw [hln],q5,fun P w' hw=>?_⟩;exact run_firstCells_some w' sz _ _ _ _ news (by rw [q5.len,ZbY hsl]) (fun j u hj=>by rw [hw,Addr.add_at];exact q6 j u hj)
end
section
variable {e:Env} {K:St->Prop} {ds:List (Option Nat)} {os:List Oper} {s:List (Nat × A)} {m:List (Nat × Bk)}
theorem ZpH {σ:St} {o:Oper} {x y:Operand} {t ety ety' sz by' k j d l h cap:Nat} {a0:Option Addr} {rows rj:List (List C)} {oa:Option (Option Addr × Nat)} (ho:o.op=.call ⟨.builtin .append,#[x,y],#[t,t]⟩) (hdd:o.dst=some d) (hb:Zbf e.P t=some (ety,sz,by'))
  (hx:evA σ.s x=.buf k) (hm:gm σ.m k=some (.buf oa ety sz rows)) (hy:evA σ.s y=.d (.one (.lit (sliced a0 l h cap sz)))) (hj:gm σ.m j=some (.buf (some (a0,cap)) ety' sz rj)) (hlh:l<=h∧h<=rj.length) (hle:rows.length+rj.length<=maxApp)
  (hK:K ⟨(d,.buf d)::Zao d (Zao k σ.s),(d,.buf none ety sz (rows++(rj.take h).drop l))::remM d (remM k σ.m)⟩):Zbw e o σ K:=by
 intro he U w0 S0 nt a w Q hd ⟨S,L,h0⟩;have hx':a.eval x=L.v k:=by have:=h0.eval x;rw [hx] at this;exact this
 have hy':=h0.eval y;rw [hy] at hy';have hy':=Zbg hy';have ho':ZaS w S ety sz rows (L.v k):=(h0.cls.own k _ hm).2;obtain ⟨hpl,hbj⟩:=h0.cls.own j _ hj;have hvj:L.v j=.slice a0 rj.length cap:=hpl (a0,cap) rfl;rw [hvj] at hbj;obtain ⟨yb,yc,news,y1,y2,y3⟩:=Zsk hbj hlh;have hln:((rj.take h).drop l).length=h - l:=by rw [Tax,Taw];omega
 have hsl:rowsLen sz ((rj.take h).drop l):=fun r hr=>hbj.2.1 r (List.mem_of_mem_take (List.mem_of_mem_drop hr));obtain ⟨v',w',hrun,hbuf,τ,hk,hτ,hblk⟩:=Zfq (ty:=o.type) (ts:=#[t,t]) (v:=L.v k) (u:=sliced a0 l h cap sz) he h0.cls rfl rfl hb (.inl ho') ho'.2.1 hsl om ⟨yb,yc,news,y1,y2,y3⟩;unfold Oper.wp;have hr2:(execOp a.eval o).run e.P w=.ok (.value v') w':=by
  simp [execOp,ho,resolve,invoke,builtin,hx',hy',hrun,Result.andThen]
 rw [hr2,Oper.upon_value,hdd];refine ⟨_,hK,h0.born he (hd d hdd) (τ:=τ) (b':=0) (v':=v') (s1:=Zao k σ.s) (m1:=remM k σ.m) (fun _ h=>h) (fun _ h=>.inl h) (fun t=>?_) (fun k' x hx=>?_) (fun g hg=>?_) (fun k' x g hkd hx hg hb'=>?_) hk ?_ (fun g hg=>?_) (by simp [ARel])⟩
 ·rcases Zeg k t σ.s with ⟨h1,_⟩ | h1
  ·exact .inl h1
  ·exact .inr h1
 ·rw [ZaA] at hx;split at hx
  ·cases hx
  ·exact hx
 ·have hg':=(hτ g hg).1;exact ⟨(Own1.lt (k:=k) (L:=L) (bk:=.buf none ety sz rows) ⟨by simp,ho'⟩ hg').2,h0.cls.notE hm hg',h0.cls.mine k _ g hm hg'⟩
 ·have hg':=(hτ g hg).1;rw [ZaA] at hx;split at hx
  ·cases hx
  ·rename_i hne';exact hne' (h0.cls.inj k' k x _ g hx hm hb' hg')
 ·simp only [Own1,if_true];exact ⟨by simp,hbuf⟩
 ·simp only [Zav,if_true] at hg;exact hblk g hg
theorem gAps {d t ty ety ety' by' sz l h cap:Nat} {p:String} {ed:Array Edge} {x y:Operand} {rows rj:List (List C)} {oa:Option (Option Addr × Nat)} {a0:Option Addr} {s2:List (Nat × A)} {m2:List (Nat × Bk)} (k j:Nat) (hlh:l<=h∧h<=rj.length) (hle:rows.length+rj.length<=maxApp) (hK:Runs e ds 0 os ⟨(d,.buf d)::s2,(d,.buf none ety sz (rows++(rj.take h).drop l))::m2⟩ K)
  (hb:Zbf e.P t=some (ety,sz,by'):=by exact sfx) (hx:evA s x=.buf k:=by exact sfx) (hm:gm m k=some (.buf oa ety sz rows):=by exact snx) (hy:evA s y=.d (.one (.lit (sliced a0 l h cap sz))):=by exact snx) (hj:gm m j=some (.buf (some (a0,cap)) ety' sz rj):=by exact snx)
  (hs:Zao d (Zao k s)=s2:=by exact snv) (hr:remM d (remM k m)=m2:=by exact snv):Runs e ds 0 (⟨some d,.call ⟨.builtin .append,#[x,y],#[t,t]⟩,ty,p,ed,none⟩::os) ⟨s,m⟩ K:=by
 subst hs hr;simp only [Runs] at hK ⊢;exact Zcv rfl (ZpH rfl rfl hb hx hm hy hj hlh hle hK)
end
theorem Zk7 {ts:List Tm} {i:Nat} {t:Tm} (h:ts[i]?=some t):Zab (ts.take i)++[Zaa t]=Zab (ts.take (i+1)):=(ZgH ts h).symm
theorem Zix (ts:List Tm) (hB:tmsB ts):Con e0 91 [.one (.sl (Zab ts))] [.one (.sl (Zab ts))]:=by
 unfold tmsB at hB;refine gI (ts:=[.slot 2]) 541 Tryz.func91 ?_;refine fG @tmz ?_;have F:=@ZcB;refine gL (ι:=Nat) [3,4,9] [3] (fun i=>[(4,A.d (.one (.lit (.int .i64 i)))),(3,.buf 3)]) (fun i=>[(3,.buf none 34 4 (Zab (ts.take i)))]) (fun i=>i<=ts.length) (fun i=>ts.length - i) (0) (Taj _) (fun i hi=>?_);clear F;by_cases hlt:i < ts.length;rotate_left
 ·obtain rfl:i=ts.length:=by omega
  have q2:=lF ts.length ts.length;rw [Tap];refine fG (ai @q2 @tmz) ?_;have F:=@tmz;refine gG ?_;exact gTz [2]
 obtain ⟨t,ht⟩:∃ b,ts[i]?=some b:=⟨_,Taa hlt⟩;have q2:=lT i ts.length;have q4:=Zaq (k:=i) om;have hi':(Zab ts)[i]?=some (Zaa t):=by rw [Zbj,ht];rfl
 have hbt:=ZdE hi';have cc:=ZeB t om;have l1:ZaM 4 (Zab (ts.take i))=true:=ZcO _;have l2:((Zab (ts.take i)).length+1<=maxApp)=True:=eq_true (by rw [Zaj,Taw];unfold maxApp;omega);have l3:((ts.take i).length+1<=maxApp)=True:=eq_true (by rw [Taw];unfold maxApp;omega);have l4:min i ts.length+1<=maxApp:=by unfold maxApp;omega
 have e:=Zk7 ht;refine fB (ai @q2 @tmz) ?_;refine fC (aj3 @q2 @ht @tmz) (cc) ?_;refine fR (aj4 @l1 @l2 @l3 @tmz) ?_;have F:=ai @q4 @e;refine gG ?_;exact ⟨i+1,hlt,gw,gw,om⟩
theorem ZxM:Zab (ZbE [])=[]:=by simp [ZbE,Zab]
theorem Zsl {l:List Tm} (h:Zax l):Zax (ZbE l):=by
 have:∀ {ts:List Tm},Zax ts ↔ ∀ t∈ts,okTm t:=fun {ts}=>by
  induction ts with
  | nil=>simp [Zax]
  | cons t ts ih=>simp [Zax,ih]
 exact this.2 fun a ha=>this.1 h a ((ZbP l).mem_iff.1 ha)
theorem ZpI {l:List Tm} (h:Zax l) (k:Nat):Zax (l.take k):=by
 have:∀ {ts:List Tm},Zax ts ↔ ∀ t∈ts,okTm t:=fun {ts}=>by
  induction ts with
  | nil=>simp [Zax]
  | cons t ts ih=>simp [Zax,ih]
 exact this.2 fun a ha=>this.1 h a (List.mem_of_mem_take ha)
theorem Ziy (ts:List Tm) (hok:Zax ts) (hB:tmsB ts):Con e0 90 [.one (.sl (Zab ts))] [.one (.sl (Zab (ZbE ts)))]:=by
 have hB0:=hB;unfold tmsB at hB
 have hcc:=Zix (ZbE ts) (by
  have h1:=(ZbP ts).length_eq;have h2:Zat (Zab (ZbE ts))=Zat (Zab ts):=by
   have:∀ {l m:List Tm},l.Perm m->Zat (Zab l)=Zat (Zab m):=fun h=>by
    induction h with
    | nil=>rfl
    | cons x h ih=>simp only [Zab,Zat,ih]
    | swap x y l=>simp only [Zab,Zat];omega
    | trans h1 h2 a b=>rw [a,b]
   exact this (ZbP ts)
  unfold tmsB;omega)
 refine gI (ts:=[.slot 2]) 1073743997 Tryz.func90 ?_;refine fG @tmz ?_;have F:=ai @ZxM @tmz;refine gL (ι:=Nat) [3,4,5,6,11,30] [3] (fun i=>[(4,A.d (.one (.lit (.int .i64 i)))),(3,.buf 3)]) (fun i=>[(3,.buf none 34 4 (Zab (ZbE (ts.take i))))]) (fun i=>i<=ts.length) (fun i=>ts.length - i) (0) (Taj _) (fun i hi=>?_);clear F;by_cases hlt:i < ts.length;rotate_left
 ·obtain rfl:i=ts.length:=by omega
  have q2:=lF ts.length ts.length;rw [Tap];refine fN 10 (ai @q2 @tmz) ?_;refine pS 3 fun a cap=>?_;refine pD 3 [3] [] ?_;refine gB ?_;refine fC @tmz (hcc) ?_;refine fR @tmz ?_;exact fD @tmz
 obtain ⟨x,hx⟩:∃ b,ts[i]?=some b:=⟨_,Taa hlt⟩;have q2:=lT i ts.length;have q4:=Zaq (k:=i) om;have hxo:=hok.mem (Tac hx);obtain ⟨M,hM⟩:∃ M,M=ZbE (ts.take i):=⟨_,rfl⟩;have hMl:M.length=i:=by rw [hM,Zsc,Taw];omega
 have hMo:Zax M:=by rw [hM];exact Zsl (ZpI hok i)
 have hMr:ts.take (i+1)=ts.take i++[x]:=ZfW hx;rw [<- hM];refine fN 5 (aj3 @q2 @hMl @tmz) ?_;refine gB ?_;refine fR (ai @hMl @tmz) ?_;refine Zhf ?_;refine gM (ι:=Nat) [5] [] (fun k=>[(5,A.d (.one (.lit (.int .i64 k))))]) (fun k=>[]) (fun k=>k<=i∧(∀ y∈M.drop k,Zah x y<=0)∧(0 < k->∃ y,M[k - 1]?=some y∧Zah y x<=0)) ?_ (fun k hk=>Exists.intro _ (ai (Wk.refl _) ?_))
 ·refine fG @tmz ?_;have F:=@tmz;refine gL (ι:=Nat) [5,30] [] (fun k=>[(5,A.d (.one (.lit (.int .i64 k))))]) (fun k=>[]) (fun k=>k<=i∧∀ y∈M.drop k,Zah x y<=0) (fun k=>k) (i) (⟨Tai _,by rw [<- hMl,List.drop_length];intro y hy;cases hy⟩) (fun k hk=>?_);clear F;obtain ⟨hk,h2⟩:=hk;by_cases hk0:k=0
  ·have q0:=lF 0 k;have F:=ai @q0 @tmz;refine gG ?_;exact ⟨k,⟨hk,h2,fun h=>om⟩,gw,gw⟩
  obtain ⟨j,rfl⟩:∃ j,k=j+1:=⟨k - 1,om⟩;obtain ⟨y,hy⟩:∃ y,M[j]?=some y:=⟨_,Taa om⟩;have q5:=lT 0 (j+1:Nat);have wj:IntKind.i64.wrap (((j+1:Nat):Int) - 1)=(j:Int):=Za2 om om om;have lj:j < i:=om;have hdr:M.drop j=y::M.drop (j+1):=Zoi hy;generalize hk1:j+1=k1 at q5 wj h2 hk hdr ⊢;refine fB @tmz ?_;refine fC (aj8 @q5 @wj @hy @hx @hMl @lj @ZaW @tmz) (Zd2 (hMo.mem (Tac hy)) hxo) ?_;by_cases hc:0 < Zah y x
  ·have z:=eq_true hc;refine fR @z ?_;have h2':∀ u∈M.drop j,Zah x u<=0:=fun u hu=>by
    rw [hdr] at hu;rcases Tbg.1 hu with rfl | hu
    ·rw [Zcn u x];omega
    ·exact h2 u hu
   have F:=ai @z @wj;refine gG ?_;exact ⟨j,⟨om,h2'⟩,gw,gw,om⟩
  have z:=eq_false hc;refine fR @z ?_;have F:=ai @z @tmz;refine gG ?_;exact ⟨k1,⟨hk,h2,fun _=>⟨y,by rw [<- hk1,Nat.add_sub_cancel];exact hy,om⟩⟩,gw,gw⟩
 obtain ⟨hk,h2,h1⟩:=hk;have hMs:M.take k++x::M.drop k=ZbE (ts.take (i+1)):=by
  rw [hMr];refine ZxD (by rw [Tbm,hM]) h2 fun y hy=>?_;have hk0:0 < k:=by
   rcases Nat.eq_zero_or_pos k with h | h
   ·subst h;simp at hy
   ·exact h
  obtain ⟨z,hz,hc⟩:=h1 hk0;rw [List.getLast?_eq_getElem?,Taw,hMl,Nat.min_eq_left hk,List.getElem?_take,if_pos om,hz] at hy;injection hy with hy
  subst hy;exact hc
 have hdl:((Zab M).take (Zab M).length).drop k=Zab (M.drop k):=by rw [Tap,Zd7]
 refine fN 8 @tmz ?_;refine pS 3 fun a cap=>?_;refine gB ?_;have F:=@tmz;refine gP 3 ?_;clear F;have hkl:k<=(Zab M).length:=by rw [Zaj];omega
 refine (have F:=ai hMl tmz;gSub 3 k (Zab M).length ⟨hkl,Tai _⟩ ?_);refine gO 33 34 4 ?_;refine (have F:=tmz;gAps (rows:=[]) (rj:=Zab M) 33 3 ⟨hkl,Tai _⟩ (by rw [Zaj];simp only [Tak,maxApp];omega) ?_);rw [hdl,Tah];refine fR @tmz ?_;refine fN 9 @tmz ?_;have hcl:(Zab M).take k=Zab (M.take k):=ZdA _ _;have htl:(M.take k).length=k:=by rw [Taw];omega
 refine gF0 ?_;refine gFm 0 ?_;refine gFm 1 ?_;refine (have F:=ai hMl tmz;gFs 2 3 0 k ⟨Taj _,hkl⟩ ?_);rw [ZjH];refine gFm 3 ?_;refine gFm 4 ?_;refine gFm 9 ?_;refine gFT ?_;have l1:(k+1<=maxApp)=True:=eq_true (by unfold maxApp;omega);have l2:((M.take k).length+1+(M.drop k).length<=maxApp)=True:=eq_true (by rw [htl,Tax];unfold maxApp;omega);have e1:Zab (M.take k)++[Zaa x]=Zab (M.take k++[x]):=by rw [ZbH];rfl
 have e2:Zab (M.take k++[x])++Zab (M.drop k)=Zab (ZbE (ts.take (i+1))):=by rw [<- ZbH,<- hMs];simp
 refine gO1 5 ?_;refine (have F:=aj4 q2 hx ZaW tmz;gO3 ?_);refine gO1 6 ?_;refine (have F:=ai hx tmz;gO3 ?_);refine gO1 7 ?_;refine (have F:=tmz;gO3 ?_);refine gO1 8 ?_;refine gE [3] [3] (Zv5 k hkl) ?_;rw [hcl];refine (have F:=aj4 htl l1 e1 tmz;gO3 ?_);refine gO1 10 ?_;refine (have F:=aj3 l2 e2 tmz;gO3 ?_);refine gO1 11 ?_;refine (have F:=tmz;gO3 ?_);refine (have F:=tmz;gT0 ?_);refine Exists.intro _ (ai (Wk.refl _) ?_)
 have F:=@q4;refine gG ?_;exact ⟨i+1,hlt,gw,gw,om⟩
def Eqo (o:Opr) (L M:List Tm):Prop:=L.Perm M∧(o.comm=false->L=M)
section
variable {o:Opr} {op:Int} {L M N L' M':List Tm}
theorem Eqo.refl (L:List Tm):Eqo o L L:=⟨.refl _,fun _=>rfl⟩
theorem Eqo.symm (h:Eqo o L M):Eqo o M L:=⟨h.1.symm,fun c=>(h.2 c).symm⟩
theorem Eqo.trans (h:Eqo o L M) (h':Eqo o M N):Eqo o L N:=⟨h.1.trans h'.1,fun c=>(h.2 c).trans (h'.2 c)⟩
theorem Eqo.app (h:Eqo o L M) (h':Eqo o L' M'):Eqo o (L++L') (M++M'):=⟨h.1.append h'.1,fun c=>by rw [h.2 c,h'.2 c]⟩
theorem Eqo.map (f:Tm->Tm) (h:Eqo o L M):Eqo o (L.map f) (M.map f):=⟨h.1.map f,fun c=>by rw [h.2 c]⟩
theorem Eqo.fl (h:Eqo o L M):Eqo o (Zan o op L) (Zan o op M):=⟨h.1.flatMap_right _,fun c=>by rw [h.2 c]⟩
theorem Eqo.srt (h:Eqo o L M):srtO o L=srtO o M:=by
 unfold srtO
 cases hc:o.comm with
 | true=>rw [if_pos rfl,if_pos rfl];exact Zoh h.1
 | false=>rw [if_neg (by decide),if_neg (by decide)];exact h.2 hc
end
section
variable {g:Sgn} {o:Opr} {d:Dcl} {op:Int} {b:List Bd}
theorem Zv7 (hg:SgnOk g) {i:Nat} (ho:g.ops[i]?=some o) (hd:o.decls[0]?=some d) (hu:o.unit≠0) {t:Tm} (ht:TermOk g t) (hop:t.op=o.unit - 1):t=ZaI o:=by
 have hax:=hg.axs o (Tac ho);have hlo:=hax.lo;have hhi:=hax.hi;obtain ⟨k1,k2,hk,_⟩:=Opr.two hg ho hd (.inr (.inr hu));obtain ⟨p,u,hA⟩:=ht.form.node.app om;have hp:=hA.at';rw [hop] at hp;have e:(o.unit - 1).toNat=o.unit.toNat - 1:=om;rw [e] at hp;have h2:=((hax.two (.inr (.inr hu)) d hd).2 k1 k2 (by rw [hk];rfl) (by rw [hk];rfl)).2.2 hu p u hp hA.fst;have has:p.assoc=false:=by
  cases hpa:p.assoc with
  | false=>rfl
  | true=>have:=((hg.axs p (Tac hp)).two (.inl hpa) u hA.fst).1;omega
 have hl:=hA.nas has;have ha:t.args=[]:=Tao om;have h3:=hA.nm;have h4:=hA.so;obtain ⟨op,nm,so,args⟩:=t;simp only [Tm.name,Tm.sort,Tm.args,Tm.op] at *;subst h3 h4 ha hop;simp only [ZaI,if_neg hu]
noncomputable def apD (g:Sgn) (b:List Bd) (t:Tm):Tm:=(apT g b t).getD zTm
theorem ZmC:∀ {ts us:List Tm},apTs g b ts=some us->us=ts.map (apD g b)∧∀ t∈ts,∃ u,apT g b t=some u
 | [],us,h=>by simp only [apTs,Taq] at h;subst h;exact ⟨rfl,fun t ht=>(by cases ht)⟩
 | t::ts,us,h=>by
  simp only [apTs] at h
  cases h1:apT g b t with
  | none=>rw [h1] at h;cases h
  | some v =>
   rw [h1] at h
   cases h2:apTs g b ts with
   | none=>rw [h2] at h;cases h
   | some vs =>
    rw [h2] at h;simp only [Option.bind_some,Option.map_some,Taq] at h;subst h;obtain ⟨e,hall⟩:=ZmC h2;refine ⟨by rw [Tbu,<- e,apD,h1];rfl,fun x hx=>?_⟩;rcases Tbg.1 hx with rfl | hx
    ·exact ⟨v,h1⟩
    ·exact hall x hx
theorem Zv8 (hg:SgnOk g) (hb:∀ y∈b,TermOk g y.to) {ts us:List Tm} (ht:∀ t∈ts,TermOk g t) (h:apTs g b ts=some us):∀ u∈us,TermOk g u:=fun u hu=>by
 obtain ⟨x,hx,hxe⟩:=Zhx h u hu;exact ZfZ hg hb _ x (Tan _) (ht x hx) hxe
theorem Zov {xs:List Tm} {t:Tm} (h:mkO g o d op xs=some t):¬ ArB o d xs.length∧(∀ (i:Nat) a,xs[i]?=some a->KArg g o d i a)∧mkL o op (Zan o op xs)=some t:=by
 unfold mkO at h;split at h
 ·cases h
 ·rename_i h1;split at h
  ·rename_i h2;exact ⟨h1,h2,h⟩
  ·cases h
end
def tw2 (a:Alg) (i:Nat) (x y:Int):Int:=(a.tables.getD i []).getD (x * a.size+y).toNat 0
def Inz (a:Alg) (x:Int):Prop:=0<=x∧x < a.size
structure Tab2 (a:Alg) (i:Nat):Prop where
 lo:1<=a.size
 hi:a.size<=4
 tab:∃ l,a.tables[i]?=some l∧l.length=a.size.toNat * a.size.toNat∧∀ x∈l,Inz a x
theorem Tab2.get {a:Alg} {i:Nat} (h:Tab2 a i) {x y:Int} (hx:Inz a x) (hy:Inz a y):∃ l,a.tables[i]?=some l∧IntKind.i64.wrap (x * a.size)=x * a.size∧IntKind.i64.wrap (x * a.size+y)=x * a.size+y∧0<=x * a.size+y∧l[(x * a.size+y).toNat]?=some (tw2 a i x y)∧Inz a (tw2 a i x y):=by
 obtain ⟨l,h1,h2,h3⟩:=h.tab;have hlo:=h.lo;have hhi:=h.hi;obtain ⟨x0,x1⟩:=hx;obtain ⟨y0,y1⟩:=hy;have m0:0<=x * a.size:=Int.mul_nonneg x0 om;have m1:x * a.size+a.size<=a.size * a.size:=by
  have:(x+1) * a.size<=a.size * a.size:=Int.mul_le_mul_of_nonneg_right om om;rw [Int.add_mul] at this;omega
 have m2:a.size * a.size<=16:=by
  have:=Int.mul_le_mul hhi hhi om om;omega
 have hl:(x * a.size+y).toNat < l.length:=by
  rw [h2];have e:((a.size.toNat * a.size.toNat:Nat):Int)=a.size * a.size:=by rw [Int.natCast_mul,Int.toNat_of_nonneg om]
  omega
 have e1:tw2 a i x y=l[(x * a.size+y).toNat]:=by
  unfold tw2;simp [List.getD_eq_getElem?_getD,h1,Taa hl]
 refine ⟨l,h1,Za2 rfl om om,Za2 rfl om om,om,?_,?_⟩
 ·rw [e1];exact Taa hl
 ·rw [e1];exact h3 _ (List.getElem_mem hl)
def isAs (g:Sgn) (op:Int):Bool:=(g.ops[op.toNat]?.map (·.assoc)).getD false
structure TabN (z:Int) (n:Nat) (ac:Bool) (l:List Int):Prop where
 lo:1<=z
 hi:z<=4
 len:l.length=z.toNat ^ n
 all:∀ x∈l,0<=x∧x < z
 le3:n<=3
 as2:ac=true->n=2
def In0 (z x:Int):Prop:=0<=x∧x < z
theorem Zz7 {z:Int} (h:1<=z) (n:Nat):((z.toNat ^ n:Nat):Int)=z ^ n:=by
 rw [Int.natCast_pow,Int.toNat_of_nonneg om]
theorem TabN.get {z:Int} {n:Nat} {ac:Bool} {l:List Int} (h:TabN z n ac l) {k:Int} (h0:0<=k) (h1:k < z ^ n):l[k.toNat]?=some (l.getD k.toNat 0)∧In0 z (l.getD k.toNat 0):=by
 have hl:k.toNat < l.length:=by
  have:=Zz7 h.lo n;have e:=h.len;omega
 rw [List.getD_eq_getElem?_getD,Taa hl];exact ⟨rfl,h.all _ (List.getElem_mem hl)⟩
theorem ZeN {g:Sgn} {t:Tm} (h:Zcm g t):(ZcQ g t∧t.op < 0)∨(0<=t.op∧∃ o d,AppOk g t o d):=by
 rcases h with h | ⟨o,d,h⟩
 ·exact .inl ⟨h,by have:=h.1;omega⟩
 ·exact .inr ⟨h.lo,o,d,h⟩
structure Wt where
 const:Int
 coefs:List Int
def ZbI (x:Wt):List C:=[.lit (.int .i64 x.const),.sl (x.coefs.map ZaG)]
theorem Zar:∀ x,ZbI x=[.lit (.int .i64 x.const),.sl (x.coefs.map ZaG)]:=fun _=>rfl
def okWt (x:Wt):Prop:=I64 x.const∧∀ c∈x.coefs,I64 c
theorem Zk8 (l:List Wt):ZaM 2 (l.map ZbI)=true:=ZcD (e:=ZbI) (n:=2) (fun _=>rfl) l
structure WtOk (ws:List Wt) (o:Opr) (x:Wt):Prop where
 lo:0<=x.const
 hi:x.const<=100
 len:∀ d,o.decls[0]?=some d->x.coefs.length=d.args.length
 all:∀ c∈x.coefs,1<=c∧c<=100
 comm:o.comm=true->x.coefs[0]?=x.coefs[1]?
 one:(o.assoc=true∨o.unit≠0)->∀ c∈x.coefs,c=1
 unit:o.unit≠0->x.const=0∧∀ u,ws[o.unit.toNat - 1]?=some u->u.const=0
structure InOk (g:Sgn) (ws:List Wt):Prop where
 sgn:SgnOk g
 len:ws.length=g.ops.length
 all:∀ (i:Nat) (o:Opr) (x:Wt),g.ops[i]?=some o->ws[i]?=some x->WtOk ws o x
open Classical in
noncomputable def isIn (g:Sgn) (ws:List Wt):Bool:=decide (InOk g ws)
theorem Ziz {g:Sgn} {ws:List Wt} (h:InOk g ws):isIn g ws=true:=by simp [isIn,h]
theorem ZdZ {g:Sgn} {ws:List Wt} (h:¬ InOk g ws):isIn g ws=false:=by simp [isIn,h]
theorem Zhy {g:Sgn} {ws:List Wt}:isIn g ws=true ↔ InOk g ws:=by simp [isIn]
def sumW (cf:Nat->Int) (b:Int) (ks:List Int):Nat->Int
 | 0=>b
 | i+1=>sumW cf b ks i+cf i * ks.getD i 0
def cfW (g:Sgn) (ws:List Wt) (op:Int) (i:Nat):Int:=if isAs g op=true then 1 else ((ws[op.toNat]?.map (·.coefs)).getD []).getD i 0
def bsW (g:Sgn) (ws:List Wt) (op:Int) (n:Nat):Int:=((ws[op.toNat]?.map (·.const)).getD 0) * (if isAs g op=true then (n:Int) - 1 else 1)
mutual
def wN (g:Sgn) (ws:List Wt):Tm->Int
 | .mk op _ _ args=>if op < 0 then 0 else sumW (cfW g ws op) (bsW g ws op args.length) (wNs g ws args) args.length
def wNs (g:Sgn) (ws:List Wt):List Tm->List Int
 | []=>[]
 | t::ts=>wN g ws t::wNs g ws ts
end
mutual
def wF (g:Sgn) (ws:List Wt) (v:Tm):Tm->Int
 | .mk op nm so args=>if op < 0 then (if Zah v (.mk op nm so args)=0 then 1 else 0) else sumW (cfW g ws op) 0 (wFs g ws v args) args.length
def wFs (g:Sgn) (ws:List Wt) (v:Tm):List Tm->List Int
 | []=>[]
 | t::ts=>wF g ws v t::wFs g ws v ts
end
theorem Zv9 (g:Sgn) (ws:List Wt):∀ ts:List Tm,wNs g ws ts=ts.map (wN g ws)
 | []=>rfl
 | t::ts=>by rw [wNs,Zv9 g ws ts,Tbu]
theorem Zwa (g:Sgn) (ws:List Wt) (v:Tm):∀ ts:List Tm,wFs g ws v ts=ts.map (wF g ws v)
 | []=>rfl
 | t::ts=>by rw [wFs,Zwa g ws v ts,Tbu]
def pWn (g:Sgn) (ws:List Wt) (t:Tm) (i:Nat):Int:=sumW (cfW g ws t.op) (bsW g ws t.op t.args.length) (t.args.map (wN g ws)) i
def pWf (g:Sgn) (ws:List Wt) (v t:Tm) (i:Nat):Int:=sumW (cfW g ws t.op) 0 (t.args.map (wF g ws v)) i
theorem Zf0 {g:Sgn} {ws:List Wt} {t:Tm} (h:t.op < 0):wN g ws t=0:=by
 obtain ⟨op,nm,so,args⟩:=t;simp only [Tm.op] at h;rw [wN,if_pos h]
theorem Zfd {g:Sgn} {ws:List Wt} {v t:Tm} (h:t.op < 0):wF g ws v t=if Zah v t=0 then 1 else 0:=by
 obtain ⟨op,nm,so,args⟩:=t;simp only [Tm.op] at h;rw [wF,if_pos h]
theorem ZiA {g:Sgn} {ws:List Wt} {t:Tm} (h:¬ t.op < 0):wN g ws t=pWn g ws t t.args.length:=by
 obtain ⟨op,nm,so,args⟩:=t;simp only [Tm.op] at h;rw [wN,if_neg h,Zv9];rfl
theorem ZgX {g:Sgn} {ws:List Wt} {v t:Tm} (h:¬ t.op < 0):wF g ws v t=pWf g ws v t t.args.length:=by
 obtain ⟨op,nm,so,args⟩:=t;simp only [Tm.op] at h;rw [wF,if_neg h,Zwa];rfl
theorem Zgo {cf:Nat->Int} {b:Int} {ks:List Int} {n:Nat} (hc:∀ i,i < n->0<=cf i) (hk:∀ k∈ks,0<=k):∀ {i j:Nat},i<=j->j<=n->sumW cf b ks i<=sumW cf b ks j:=by
 intro i j hij hj
 induction j with
 | zero =>
  obtain rfl:i=0:=by omega
  exact Int.le_refl _
 | succ j ih =>
  by_cases h:i=j+1
  ·subst h;exact Int.le_refl _
  have h1:=ih om om;have h2:0<=ks.getD j 0:=by
   rw [List.getD_eq_getElem?_getD];rcases hq:ks[j]? with _ | k
   ·exact Int.le_refl _
   ·exact hk k (Tac hq)
  have h3:=Int.mul_nonneg (hc j om) h2;simp only [sumW];omega
theorem Zhz {g:Sgn} {ws:List Wt} {t u:Tm} {i:Nat} (h:t.args[i]?=some u):pWn g ws t (i+1)=pWn g ws t i+cfW g ws t.op i * wN g ws u:=by
 rw [pWn,sumW,List.getD_eq_getElem?_getD,Tba,h];rfl
theorem ZhA {g:Sgn} {ws:List Wt} {v t u:Tm} {i:Nat} (h:t.args[i]?=some u):pWf g ws v t (i+1)=pWf g ws v t i+cfW g ws t.op i * wF g ws v u:=by
 rw [pWf,sumW,List.getD_eq_getElem?_getD,Tba,h];rfl
structure CfOk (cf:Nat->Int) (n:Nat):Prop where
 all:∀ i,i < n->1<=cf i∧cf i<=100
theorem Zgp {g:Sgn} {ws:List Wt} {t:Tm} {o:Opr} {d:Dcl} (hI:InOk g ws) (h:AppOk g t o d):CfOk (cfW g ws t.op) t.args.length∧0<=bsW g ws t.op t.args.length∧bsW g ws t.op t.args.length<=700:=by
 have h0:=h.lo;have hat:=h.at';have has:isAs g t.op=o.assoc:=by simp [isAs,hat]
 obtain ⟨x,hx⟩:∃ x,ws[t.op.toNat]?=some x:=⟨_,Taa (by rw [hI.len];exact (Tad.1 hat).1)⟩;have hw:=hI.all _ o x hat hx;have hlo:=hw.lo;have hhi:=hw.hi;refine ⟨⟨fun i hi=>?_⟩,?_⟩
 ·rw [cfW,has]
  cases hac:o.assoc with
  | true=>simp
  | false =>
   have hl:=hw.len d h.fst;rw [<- h.nas hac] at hl;simp only [Tam,if_false,hx,Option.map_some,Option.getD_some];rw [List.getD_eq_getElem?_getD,Taa om];exact hw.all _ (List.getElem_mem _)
 ·rw [bsW,has,hx]
  cases hac:o.assoc with
  | true =>
   have:=h.asc hac;simp only [Option.map_some,Option.getD_some,if_pos];have hm:=Int.mul_nonneg hlo (show 0<=(t.args.length:Int) - 1 by omega);have hm2:=Int.mul_le_mul hhi (show (t.args.length:Int) - 1<=7 by omega) om om;omega
  | false=>simp;omega
theorem ZhB {g:Sgn} {ws:List Wt} (hI:InOk g ws):∀ (n:Nat) (t:Tm),sizeTm t < n->Zaw g t->0<=wN g ws t∧∀ v,0<=wF g ws v t:=by
 intro n
 induction n with
 | zero=>exact fun _ h=>om
 | succ n ih =>
  intro t hn hf;rcases ZeN hf.node with ⟨_,hop⟩ | ⟨hop,o,d,hap⟩
  ·refine ⟨by rw [Zf0 hop];exact Int.le_refl _,fun v=>?_⟩;rw [Zfd hop];split <;> decide
  ·obtain ⟨hc,hb,_⟩:=Zgp hI hap;have hsub:∀ u∈t.args,0<=wN g ws u∧∀ v,0<=wF g ws v u:=fun u hu=>by
    have h1:=ZaV hu;have h2:sizeTm t=1+sizeTms t.args:=by obtain ⟨op,nm,so,args⟩:=t;rfl
    exact ih u om ((ZaK.1 hf).2.1 u hu)
   refine ⟨?_,fun v=>?_⟩
   ·rw [ZiA om];have:=Zgo (cf:=cfW g ws t.op) (b:=bsW g ws t.op t.args.length) (ks:=t.args.map (wN g ws)) (n:=t.args.length) (fun i hi=>by have:=(hc.all i hi).1;omega) (fun k hk=>by obtain ⟨u,hu,rfl⟩:=Tbi.1 hk;exact (hsub u hu).1) (Taj _) (Tai _);simp only [sumW] at this;unfold pWn;omega
   ·rw [ZgX om];have:=Zgo (cf:=cfW g ws t.op) (b:=0) (ks:=t.args.map (wF g ws v)) (n:=t.args.length) (fun i hi=>by have:=(hc.all i hi).1;omega) (fun k hk=>by obtain ⟨u,hu,rfl⟩:=Tbi.1 hk;exact (hsub u hu).2 v) (Taj _) (Tai _);simp only [sumW] at this;unfold pWf;omega
def okW (g:Sgn) (ws:List Wt) (vs:List Tm) (t:Tm):Prop:=wN g ws t<=1000000000∧∀ v∈vs,wF g ws v t<=1000000000
def ZhC (g:Sgn) (ws:List Wt) (vs:List Tm) (t:Tm) (i:Nat):Prop:=pWn g ws t i<=1000000000∧∀ v∈vs,pWf g ws v t i<=1000000000
theorem ZlW {g:Sgn} {ws:List Wt} {vs:List Tm} {t:Tm} (h:¬ t.op < 0):okW g ws vs t ↔ ZhC g ws vs t t.args.length:=by
 unfold okW ZhC;rw [ZiA h];constructor
 ·exact fun ⟨a,b⟩=>⟨a,fun v hv=>by rw [<- ZgX h];exact b v hv⟩
 ·exact fun ⟨a,b⟩=>⟨a,fun v hv=>by rw [ZgX h];exact b v hv⟩
theorem Zrx {g:Sgn} {ws:List Wt} {vs:List Tm} {t:Tm} (h:t.op < 0):okW g ws vs t:=by
 refine ⟨by rw [Zf0 h];decide,fun v _=>?_⟩;rw [Zfd h];split <;> decide
section
variable {g:Sgn} {ws:List Wt} {vs:List Tm} {t:Tm} {o:Opr} {d:Dcl}
theorem Zow (hI:InOk g ws) (hap:AppOk g t o d) (hf:Zaw g t) {i j:Nat} (hij:i<=j) (hj:j<=t.args.length):pWn g ws t i<=pWn g ws t j∧∀ v,pWf g ws v t i<=pWf g ws v t j:=by
 obtain ⟨hc,_,_⟩:=Zgp hI hap;have hsub:∀ u∈t.args,0<=wN g ws u∧∀ v,0<=wF g ws v u:=fun u hu=>ZhB hI (sizeTm u+1) u (Tan _) ((ZaK.1 hf).2.1 u hu)
 exact ⟨Zgo (fun i hi=>by have:=(hc.all i hi).1;omega) (fun k hk=>by obtain ⟨u,hu,rfl⟩:=Tbi.1 hk;exact (hsub u hu).1) hij hj,
  fun v=>Zgo (fun i hi=>by have:=(hc.all i hi).1;omega) (fun k hk=>by obtain ⟨u,hu,rfl⟩:=Tbi.1 hk;exact (hsub u hu).2 v) hij hj⟩
theorem Zox (hI:InOk g ws) (hap:AppOk g t o d) (hf:Zaw g t) {i:Nat} (hi:i<=t.args.length) (h:okW g ws vs t):ZhC g ws vs t i:=by
 have h:=(ZlW (by have:=hap.lo;omega)).1 h;have hm:=Zow hI hap hf hi (Tai _);exact ⟨Int.le_trans hm.1 h.1,fun v hv=>Int.le_trans (hm.2 v) (h.2 v hv)⟩
theorem Zoy {c k:Int} (hc:1<=c) (hk:0<=k):k<=c * k:=by
 have:=Int.mul_le_mul_of_nonneg_right hc hk;omega
theorem Zry (hI:InOk g ws) (hap:AppOk g t o d) (hf:Zaw g t) {i:Nat} {u:Tm} (hu:t.args[i]?=some u) (h:okW g ws vs t):okW g ws vs u:=by
 have hil:=(Tad.1 hu).1;have hp:=Zox hI hap hf (i:=i+1) om h;obtain ⟨hc,hb,_⟩:=Zgp hI hap;have hn:=ZhB hI (sizeTm u+1) u (Tan _) ((ZaK.1 hf).2.1 u (Tac hu));have h0:=Zow hI hap hf (Taj i) om;have hci:=(hc.all i hil).1;refine ⟨?_,fun v hv=>?_⟩
 ·have h1:=hp.1;rw [Zhz hu] at h1;have h2:=Zoy hci hn.1;have h3:0<=pWn g ws t i:=Int.le_trans (by simpa [pWn,sumW] using hb) h0.1;omega
 ·have h1:=hp.2 v hv;rw [ZhA hu] at h1;have h2:=Zoy hci (hn.2 v);have h3:0<=pWf g ws v t i:=Int.le_trans (by simp [pWf,sumW]) (h0.2 v);omega
theorem ZhD (hI:InOk g ws) (hap:AppOk g t o d) (hf:Zaw g t) {i:Nat} {u:Tm} (hu:t.args[i]?=some u) (hb:okW g ws vs u) :
  0<=cfW g ws t.op i * wN g ws u∧cfW g ws t.op i * wN g ws u<=100000000000∧∀ v∈vs,0<=cfW g ws t.op i * wF g ws v u∧cfW g ws t.op i * wF g ws v u<=100000000000:=by
 have hil:=(Tad.1 hu).1;obtain ⟨hc,_,_⟩:=Zgp hI hap;have hn:=ZhB hI (sizeTm u+1) u (Tan _) ((ZaK.1 hf).2.1 u (Tac hu));have hci:=hc.all i hil;have hm:∀ k:Int,0<=k->k<=1000000000->0<=cfW g ws t.op i * k∧cfW g ws t.op i * k<=100000000000:=fun k h0 h1=>by
  have h2:=Int.mul_nonneg (show 0<=cfW g ws t.op i by omega) h0;have h3:=Int.mul_le_mul hci.2 h1 h0 om;exact ⟨h2,om⟩
 exact ⟨(hm _ hn.1 hb.1).1,(hm _ hn.1 hb.1).2,fun v hv=>hm _ (hn.2 v) (hb.2 v hv)⟩
def ZiB (g:Sgn) (ws:List Wt) (vs:List Tm) (t:Tm) (i:Nat):Prop:=(0<=pWn g ws t i∧pWn g ws t i<=700+100000000000 * (i:Int))∧∀ v∈vs,0<=pWf g ws v t i∧pWf g ws v t i<=100000000000 * (i:Int)
theorem Zz8 (hI:InOk g ws) (hap:AppOk g t o d):ZiB g ws vs t 0:=by
 obtain ⟨_,h1,h2⟩:=Zgp hI hap;refine ⟨⟨h1,?_⟩,fun v _=>by simp [pWf,sumW]⟩;simp only [pWn,sumW];omega
theorem Zsm (hI:InOk g ws) (hap:AppOk g t o d) (hf:Zaw g t) {i:Nat} {u:Tm} (hu:t.args[i]?=some u) (hb:okW g ws vs u) (h:ZiB g ws vs t i):ZiB g ws vs t (i+1):=by
 obtain ⟨h1,h2,h3⟩:=ZhD hI hap hf hu hb;obtain ⟨⟨a1,a2⟩,a3⟩:=h;refine ⟨?_,fun v hv=>?_⟩
 ·rw [Zhz hu];generalize pWn g ws t i=p at *;generalize cfW g ws t.op i * wN g ws u=q at *;omega
 ·have b1:=a3 v hv;have b2:=h3 v hv;rw [ZhA hu];generalize pWf g ws v t i=p at *;generalize cfW g ws t.op i * wF g ws v u=q at *;omega
end
theorem Zwb {l:List Tm} (h:l.length=2):∃ p q,l=[p,q]:=by
 match l,h with
 | [p,q],_=>exact ⟨p,q,rfl⟩
def dotW (cf:Nat->Int) (f:Tm->Int):Nat->List Tm->Int
 | _,[]=>0
 | i,t::ts=>cf i * f t+dotW cf f (i+1) ts
theorem Zoz (cf:Nat->Int) (b:Int) (f:Tm->Int):∀ (ts:List Tm),sumW cf b (ts.map f) ts.length=b+dotW cf f 0 ts:=by
 have key:∀ (ts:List Tm) (pre:List Tm),sumW cf b ((pre++ts).map f) (pre++ts).length=sumW cf b (pre.map f) pre.length+dotW cf f pre.length ts:=fun ts=>by
  induction ts with
  | nil=>intro pre;simp [dotW]
  | cons t ts ih =>
   intro pre;have h:=ih (pre++[t]);rw [Tbf,List.singleton_append] at h;rw [h];have e:sumW cf b ((pre++[t]).map f) (pre++[t]).length=sumW cf b (pre.map f) pre.length+cf pre.length * f t:=by
    rw [Tae,List.length_singleton,sumW];have e1:∀ i,i<=pre.length->sumW cf b ((pre++[t]).map f) i=sumW cf b (pre.map f) i:=fun i=>by
     induction i with
     | zero=>intro _;rfl
     | succ i ih =>
      intro hi;rw [sumW,sumW,ih om,Tbv,List.getD_eq_getElem?_getD,List.getD_eq_getElem?_getD,Tbp (by rw [Tay];omega)]
    rw [e1 _ (Tai _)];congr 2;rw [List.getD_eq_getElem?_getD,Tba,Tbq (Tai _),Nat.sub_self];rfl
   rw [e,dotW,Tae,List.length_singleton];omega
 intro ts;have:=key ts [];simpa [sumW] using this
theorem ZoA {cf:Nat->Int} {f:Tm->Int}:∀ {ts:List Tm} {i:Nat},(∀ j,i<=j->j < i+ts.length->cf j=1)->dotW cf f i ts=(ts.map f).sum
 | [],_,_=>rfl
 | t::ts,i,h=>by
  have h1:=h i (Tai _) (by simp);have h2:=ZoA (cf:=cf) (f:=f) (ts:=ts) (i:=i+1) fun j hj hl=>h j om (by simp only [Tag];omega);rw [dotW,h1,h2,Tbu,List.sum_cons,Int.one_mul]
theorem ZoB {f:Tm->Int} {l m:List Tm} (h:l.Perm m):(l.map f).sum=(m.map f).sum:=by
 induction h with
 | nil=>rfl
 | cons x h ih=>simp only [Tbu,List.sum_cons,ih]
 | swap x y l=>simp only [Tbu,List.sum_cons];omega
 | trans h1 h2 a b=>rw [a,b]
theorem Zz9 {f:Tm->Int} (l m:List Tm):((l++m).map f).sum=(l.map f).sum+(m.map f).sum:=by
 rw [Tbv,List.sum_append]
section
variable {g:Sgn} {ws:List Wt}
structure Wgh (g:Sgn) (ws:List Wt) (k:Int) (f:Tm->Int):Prop where
 app:∀ t:Tm,0<=t.op->f t=k * bsW g ws t.op t.args.length+dotW (cfW g ws t.op) f 0 t.args
theorem Zk9:Wgh g ws 1 (wN g ws):=⟨fun t h=>by
 rw [ZiA om,pWn,Zoz,Int.one_mul]⟩
theorem Zi7 (v:Tm):Wgh g ws 0 (wF g ws v):=⟨fun t h=>by
 rw [ZgX om,pWf,Zoz,Int.zero_mul]⟩
theorem ZlX {op:Int} {o:Opr} (ho:g.ops[op.toNat]?=some o):isAs g op=o.assoc:=by simp [isAs,ho]
theorem Zla (hI:InOk g ws) {k:Int} {f:Tm->Int} (hW:Wgh g ws k f) {op:Int} {o:Opr} {d:Dcl} (h0:0<=op) (ho:g.ops[op.toNat]?=some o) (hd:o.decls[0]?=some d) {us:List Tm} {x:Tm} (hus:∀ u∈us,TermOk g u) (hx:mkT g op us=some x):f x=k * bsW g ws op us.length+dotW (cfW g ws op) f 0 us:=by
 have hg:=hI.sgn;rw [Ziq ho hd] at hx;obtain ⟨hA,hK,hx⟩:=Zov hx;obtain ⟨w,hw⟩:∃ w,ws[op.toNat]?=some w:=⟨_,Taa (by rw [hI.len];exact (Tad.1 ho).1)⟩;have hwt:=hI.all _ o w ho hw;have has:=ZlX ho;have hbs:∀ n:Nat,bsW g ws op n=w.const * (if o.assoc=true then (n:Int) - 1 else 1):=fun n=>by rw [bsW,has,hw];rfl
 have happ:∀ l,f (appT op l)=k * bsW g ws op l.length+dotW (cfW g ws op) f 0 l:=fun l=>hW.app (appT op l) h0;by_cases hau:o.assoc=true∨o.unit≠0
 ·obtain ⟨k1,k2,hk2,_⟩:=Opr.two hg ho hd (hau.elim .inl fun q=>.inr (.inr q));have hd2:d.args.length=2:=by rw [hk2];rfl
  have hcf:∀ i,(o.assoc=true∨i < 2)->cfW g ws op i=1:=fun i hi=>by
   rw [cfW,has]
   cases hac:o.assoc with
   | true=>rfl
   | false =>
    rw [hac] at hi;have hi:i < 2:=hi.resolve_left (by decide);have hl:=hwt.len d hd;simp only [Tam,if_false,hw,Option.map_some,Option.getD_some];rw [List.getD_eq_getElem?_getD,Taa om];exact hwt.one hau _ (List.getElem_mem _)
  have hdot:∀ l:List Tm,(o.assoc=true∨l.length<=2)->dotW (cfW g ws op) f 0 l=(l.map f).sum:=fun l hl=>ZoA fun j _ hj=>hcf j (hl.imp id fun q=>om);obtain ⟨e,he⟩:∃ e:Int,e=if o.assoc=true then k * w.const else 0:=⟨_,rfl⟩
  have hbe:∀ n:Nat,k * bsW g ws op n=e * (n:Int) - e:=fun n=>by
   rw [hbs,he]
   cases hac:o.assoc with
   | true=>rw [if_pos rfl,if_pos rfl,<- Int.mul_assoc,Int.mul_sub,Int.mul_one]
   | false =>
    have hu:o.unit≠0:=hau.resolve_left (by rw [hac];decide);rw [(hwt.unit hu).1];simp
  have heu:o.unit≠0->e=0:=fun hu=>by rw [he,(hwt.unit hu).1];simp
  have hfu:o.unit≠0->f (ZaI o)=0:=fun hu=>by
   have hax:=hg.axs o (Tac ho);have hlo:=hax.lo;have e1:(ZaI o).op=o.unit - 1:=by simp only [ZaI,Tm.op,if_neg hu]
   rw [hW.app _ (by rw [e1];omega),e1];have hz:bsW g ws (o.unit - 1) (ZaI o).args.length=0:=by
    rw [bsW];have e2:(o.unit - 1).toNat=o.unit.toNat - 1:=om;rw [e2]
    cases hq:ws[o.unit.toNat - 1]? with
    | none=>simp
    | some y=>simp [(hwt.unit hu).2 y hq]
   rw [hz];show k * 0+0=0;simp
  have hone:∀ u,TermOk g u->f u+e=e * ((ZaY o op u).length:Int)+((ZaY o op u).map f).sum:=fun u hu=>by
   by_cases h1:o.assoc=true∧u.op=op
   ·have e1:ZaY o op u=u.args:=by unfold ZaY;rw [if_pos h1]
    rw [e1,hW.app u om,h1.2,hbe,hdot _ (.inl h1.1)];omega
   ·by_cases h2:o.unit≠0∧u.op=o.unit - 1
    ·have e1:ZaY o op u=[]:=by unfold ZaY;rw [if_neg h1,if_pos h2]
     rw [e1,Zv7 hg ho hd h2.1 hu h2.2,hfu h2.1,heu h2.1];simp
    ·have e1:ZaY o op u=[u]:=by unfold ZaY;rw [if_neg h1,if_neg h2]
     rw [e1];simp;omega
  have hsum:∀ us:List Tm,(∀ u∈us,TermOk g u)->(us.map f).sum+e * (us.length:Int)=e * ((Zan o op us).length:Int)+((Zan o op us).map f).sum:=fun us=>by
   induction us with
   | nil=>intro _;simp [Zan]
   | cons u us ih =>
    intro h;have h1:=ih fun a ha=>h a (Tal _ ha);have h2:=hone u (h u Tas);have e1:Zan o op (u::us)=ZaY o op u++Zan o op us:=by simp [Zan]
    rw [e1,Zz9,Tbu,List.sum_cons,Tae,Tag];have e2:e * (((ZaY o op u).length+(Zan o op us).length:Nat):Int)=e * ((ZaY o op u).length:Int)+e * ((Zan o op us).length:Int):=by rw [Int.natCast_add,Int.mul_add]
    have e3:e * ((us.length+1:Nat):Int)=e * (us.length:Int)+e:=by rw [Int.natCast_add,Int.mul_add];simp
    rw [e2,e3];omega
  have hs:=hsum us hus;have hul:o.assoc=true∨us.length<=2:=by
   cases hac:o.assoc with
   | true=>exact .inl rfl
   | false=>exact .inr (by have:¬ (us.length≠d.args.length):=fun q=>hA (.inr ⟨hac,q⟩);omega)
  rw [hbe,hdot us hul];unfold mkL at hx;split at hx
  ·rename_i hq;injection hx with hx
   have hez:=heu hq.1;rw [hez] at hs ⊢;have:f x=((Zan o op us).map f).sum:=by
    cases hf:Zan o op us with
    | nil =>
     rw [hf] at hx;have hx:ZaI o=x:=hx;rw [<- hx,hfu hq.1];rfl
    | cons m l =>
     rw [hf] at hx hq;have hx:m=x:=hx;have:l=[]:=Tao (by have:=hq.2;simp only [Tag] at this;omega);rw [this,<- hx];simp
   rw [this];omega
  ·split at hx
   ·cases hx
   ·injection hx with hx
    have hll:o.assoc=true∨(srtO o (Zan o op us)).length<=2:=hul.elim .inl fun q=>by
     cases hac:o.assoc with
     | true=>exact .inl rfl
     | false=>exact .inr (by rw [ZeM];have:=(ZfY (op:=op) hac us).1;omega)
    rw [<- hx,happ,hbe,hdot _ hll,ZeM,ZoB (ZdQ o _)];omega
 ·have hac:o.assoc=false:=by
   cases h:o.assoc with
   | true=>exact absurd (.inl h) hau
   | false=>rfl
  have hu:o.unit=0:=Decidable.byContradiction fun q=>hau (.inr q);rw [ZgG hac hu] at hx;unfold mkL at hx;split at hx
  ·rename_i hq;exact absurd hu hq.1
  split at hx
  ·cases hx
  injection hx with hx
  rw [<- hx,happ,ZeM]
  cases hcm:o.comm with
  | false =>
   have:srtO o us=us:=by unfold srtO;rw [hcm];rfl
   rw [this]
  | true =>
   obtain ⟨k1,k2,hk2,_⟩:=Opr.two hg ho hd (.inr (.inl hcm));have hl:us.length=2:=by
    have:¬ (us.length≠d.args.length):=fun q=>hA (.inr ⟨hac,q⟩);rw [hk2] at this;simpa using this
   have hp:=ZdQ o us;obtain ⟨p,q,rfl⟩:=Zwb hl;obtain ⟨p',q',hs⟩:=Zwb (show (srtO o [p,q]).length=2 by rw [ZeM];rfl);rw [hs] at hp ⊢;have hc:cfW g ws op 0=cfW g ws op 1:=by
    rw [cfW,cfW,has,hac];simp only [Tam,if_false,hw,Option.map_some,Option.getD_some,List.getD_eq_getElem?_getD];rw [hwt.comm hcm]
   simp only [dotW,Nat.zero_add];rw [hc];have hsm:=ZoB (f:=f) hp;simp only [Tbu,List.map_nil,List.sum_cons,List.sum_nil,Int.add_zero] at hsm;have e1:cfW g ws op 1 * f p'+(cfW g ws op 1 * f q'+0)=cfW g ws op 1 * (f p'+f q'):=by rw [Int.mul_add];omega
   have e2:cfW g ws op 1 * f p+(cfW g ws op 1 * f q+0)=cfW g ws op 1 * (f p+f q):=by rw [Int.mul_add];omega
   rw [e1,e2,hsm]
end
section
variable {g:Sgn} {ws:List Wt}
theorem Zrz {o:Opr} {x:Wt} {k:Nat} (ho:g.ops[k]?=some o) (hx:ws[k]?=some x) (h:¬ WtOk ws o x):isIn g ws=false:=ZdZ fun hI=>h (hI.all k o x ho hx)
theorem ZoC {o:Opr} {x:Wt} {k:Nat} (ho:g.ops[k]?=some o) (hx:ws[k]?=some x) (hall:∀ (i:Nat) (o:Opr) (x:Wt),i < k->g.ops[i]?=some o->ws[i]?=some x->WtOk ws o x) (h:WtOk ws o x) :
  ∀ (i:Nat) (o':Opr) (x':Wt),i < k+1->g.ops[i]?=some o'->ws[i]?=some x'->WtOk ws o' x':=fun i o' x' hi ho' hx'=>by
 by_cases hik:i=k
 ·subst hik;rw [ho] at ho';rw [hx] at hx';injection ho' with ho';injection hx' with hx';subst ho' hx';exact h
 ·exact hall i o' x' om ho' hx'
theorem Zlb {l:List Int} {p:Int->Prop} (h:∀ (i:Nat) (c:Int),i < l.length->l[i]?=some c->p c):∀ c∈l,p c:=fun c hc=>by
 obtain ⟨i,hi⟩:=List.mem_iff_getElem?.1 hc;exact h i c (Tad.1 hi).1 hi
theorem ZoD {l:List Int} {p:Int->Prop} {j:Nat} {c:Int} (hc:l[j]?=some c) (h:∀ (i:Nat) (c:Int),i < j->l[i]?=some c->p c) (hp:p c):∀ (i:Nat) (c:Int),i < j+1->l[i]?=some c->p c:=fun i c' hi hc'=>by
 by_cases hij:i=j
 ·subst hij;rw [hc] at hc';injection hc' with hc';subst hc';exact hp
 ·exact h i c' om hc'
theorem Zsn (hg:Zbv g) (hwl:ws.length<=1048576):Con e0 31 [.agg (Zaf g),.one (.sl (ws.map ZbI))] [.one (.lit (.bool (isIn g ws)))]:=by
 have cS:=ZgC hg;have hrw:=Zk8 ws;rw [Zaf] at cS ⊢;refine gI 5192296858837059358153730956460791 Tryz.func31 ?_;refine fB @tmz ?_;refine fC @tmz (cS) ?_
 cases hs:Zbq g with
 | false =>
  have hf:=ZdZ (ws:=ws) (fun h:InOk g ws=>by rw [Zb4 h.sgn] at hs;cases hs);refine fR @tmz ?_;exact fT @hf
 | true =>
 by_cases hl:ws.length=g.ops.length;rotate_left
 ·have hf:=ZdZ (ws:=ws) (fun h:InOk g ws=>hl h.len);have q1:((ws.length:Int)=(g.ops.length:Int))=False:=eq_false om;refine fR (ai @tmz @q1) ?_;exact fT @hf
 have q1:((ws.length:Int)=(g.ops.length:Int))=True:=eq_true om;refine fR (ai @tmz @q1) ?_;refine fG @tmz ?_;have hS:=Zdj.1 hs;have F:=@e0P;refine gL (ι:=Nat) [4,5,6,7,9,24,25,52,54,55,56,57,78,112] [] (fun k=>[(24,A.d (.one (.lit (.int .i64 k))))]) (fun k=>[]) (fun k=>k<=g.ops.length∧∀ (i:Nat) (o:Opr) (x:Wt),i < k->g.ops[i]?=some o->ws[i]?=some x->WtOk ws o x) (fun k=>g.ops.length - k) (0) (⟨Taj _,fun i o x h=>absurd h om⟩) (fun k hk=>?_);clear F
 obtain ⟨hk,hall⟩:=hk;by_cases hkn:k < g.ops.length;rotate_left
 ·have q2:¬ ((k:Int) < (g.ops.length:Int)):=om;have ht:=Ziz (g:=g) (ws:=ws) ⟨hS,hl,fun i o x ho hx=>hall i o x (by have:=(Tad.1 ho).1;omega) ho hx⟩;exact fT (aj3 @tmz @q2 @ht)
 have q2:(k:Int) < (g.ops.length:Int):=om;obtain ⟨o,ho⟩:∃ o,g.ops[k]?=some o:=⟨_,Taa hkn⟩;obtain ⟨x,hx⟩:∃ x,ws[k]?=some x:=⟨_,Taa om⟩;obtain ⟨d,hd,hd3⟩:=(hS.decls o (Tac ho)).first;have har:=(hS.decls o (Tac ho)).ar d hd;have hax:=hS.axs o (Tac ho);have hno:=Zrz (g:=g) ho hx;have hwk:=Zaq (k:=k) om;by_cases h1:x.const < 0
 ·have hf:=hno (fun h=>by have:=h.lo;omega);have z1:(x.const < 0)=True:=eq_true h1;exact fT (aj9 @tmz @q2 @ho @hx @Zae @Zar @hrw @z1 @hf)
 have z1:(x.const < 0)=False:=eq_false h1;by_cases h2:100 < x.const
 ·have hf:=hno (fun h=>by have:=h.hi;omega);have z2:(100 < x.const)=True:=eq_true h2;exact fT (aj10 @tmz @q2 @ho @hx @Zae @Zar @hrw @z1 @z2 @hf)
 have z2:(100 < x.const)=False:=eq_false h2;by_cases h3:x.coefs.length=d.args.length;rotate_left
 ·have hf:=hno (fun h=>h3 (h.len d hd));have z3:((x.coefs.length:Int)=(d.args.length:Int))=False:=eq_false om;exact fT (aj13 @tmz @q2 @ho @hx @Zae @Zar @ZaJ @hd @hrw @z1 @z2 @z3 @hf)
 have z3:((x.coefs.length:Int)=(d.args.length:Int))=True:=eq_true om;refine fG (aj12 @tmz @q2 @ho @hx @Zae @Zar @ZaJ @hd @hrw @z1 @z2 @z3) ?_;have F:=@Zar;refine gL (ι:=Nat) [4,9,56,57,78] [] (fun j=>[(56,A.d (.one (.lit (.int .i64 j))))]) (fun j=>[]) (fun j=>j<=x.coefs.length∧∀ (i:Nat) (c:Int),i < j->x.coefs[i]?=some c->1<=c∧c<=100∧((o.assoc=true∨o.unit≠0)->c=1)) (fun j=>x.coefs.length - j) (0) (⟨Taj _,fun i c h=>absurd h om⟩) (fun j hj=>?_);clear F
 obtain ⟨hj,hcs⟩:=hj;by_cases hjn:j < x.coefs.length
 ·have p1:(j:Int) < (x.coefs.length:Int):=om;obtain ⟨c,hc⟩:∃ c,x.coefs[j]?=some c:=⟨_,Taa hjn⟩;have hcm:=Tac hc;have hwj:=Zaq (k:=j) om;by_cases g1:c < 1
  ·have hf:=hno (fun h=>by have:=(h.all c hcm).1;omega);have y1:(c < 1)=True:=eq_true g1;exact fT (aj6 @tmz @p1 @hc @Zai @y1 @hf)
  have y1:(c < 1)=False:=eq_false g1;by_cases g2:100 < c
  ·have hf:=hno (fun h=>by have:=(h.all c hcm).2;omega);have y2:(100 < c)=True:=eq_true g2;exact fT (aj7 @tmz @p1 @hc @Zai @y1 @y2 @hf)
  have y2:(100 < c)=False:=eq_false g2;have hnx:=fun h=>ZoD hc hcs (⟨om,om,h⟩:1<=c∧c<=100∧((o.assoc=true∨o.unit≠0)->c=1));by_cases g3:c=1
  ·have y3:(c=1)=True:=eq_true g3;have hq:j+1<=x.coefs.length∧_:=⟨om,hnx fun _=>g3⟩;have F:=aj8 @tmz @p1 @hc @Zai @y1 @y2 @y3 @hwj;refine gG ?_;exact ⟨j+1,hq,gw,gw,om⟩
  have y3:(c=1)=False:=eq_false g3
  cases g4:o.assoc with
  | true =>
   have hf:=hno (fun h=>g3 (h.one (.inl g4) c hcm));exact fT (aj10 @tmz @p1 @hc @Zai @Zae @y1 @y2 @y3 @g4 @hf)
  | false =>
  by_cases g5:o.unit=0;rotate_left
  ·have hf:=hno (fun h=>g3 (h.one (.inr g5) c hcm));have y5:(o.unit=0)=False:=eq_false g5;exact fT (aj11 @tmz @p1 @hc @Zai @Zae @y1 @y2 @y3 @g4 @y5 @hf)
  have y5:(o.unit=0)=True:=eq_true g5;have hq:j+1<=x.coefs.length∧_:=⟨om,hnx fun h=>h.elim (fun h=>absurd h (by rw [g4];decide)) fun h=>absurd g5 h⟩;rw [g4] at hq;have F:=aj11 @tmz @p1 @hc @Zai @Zae @y1 @y2 @y3 @g4 @y5 @hwj;refine gG ?_;exact ⟨j+1,hq,gw,gw,om⟩
 have p1:¬ ((j:Int) < (x.coefs.length:Int)):=om;obtain rfl:j=x.coefs.length:=by omega
 have hra:=Zlb hcs;have hone:(o.assoc=true∨o.unit≠0)->∀ c∈x.coefs,c=1:=fun h c hc=>(hra c hc).2.2 h;have hrange:∀ c∈x.coefs,1<=c∧c<=100:=fun c hc=>⟨(hra c hc).1,(hra c hc).2.1⟩;have hlen:∀ d',o.decls[0]?=some d'->x.coefs.length=d'.args.length:=fun d' h=>by rw [hd] at h;injection h with h;subst h;omega
 have next:=ZoC ho hx hall
 have hunit:o.unit≠0->∃ (q:Nat) (u:Wt),o.unit=(q:Int)+1∧ws[q]?=some u∧q < ws.length:=fun hu=>by
  have h0:=hax.lo;have h4:=hax.hi;exact ⟨(o.unit - 1).toNat,ws[(o.unit - 1).toNat],om,Taa om,om⟩
 have hcc:o.comm=true->∃ a b,x.coefs[0]?=some a∧x.coefs[1]?=some b:=fun hc=>by
  have:=(hax.two (.inr (.inl hc)) d hd).1;exact ⟨x.coefs[0],x.coefs[1],Taa om,Taa om⟩
 have hkey:o.comm=false∨(∃ a,x.coefs[0]?=some a∧x.coefs[1]?=some a∧o.comm=true)∨(∃ a b,x.coefs[0]?=some a∧x.coefs[1]?=some b∧a≠b∧o.comm=true):=by
  cases hc:o.comm with
  | false=>exact .inl rfl
  | true =>
   obtain ⟨a,b,ha,hb⟩:=hcc hc;by_cases hab:a=b
   ·subst hab;exact .inr (.inl ⟨a,ha,hb,rfl⟩)
   ·exact .inr (.inr ⟨a,b,ha,hb,hab,rfl⟩)
 rcases hkey with hcf | ⟨a,ha,hb,hct⟩ | ⟨a,b,ha,hb,hab,hct⟩
 ·have hcx:o.comm=true->x.coefs[0]?=x.coefs[1]?:=fun h=>by rw [hcf] at h;cases h
  by_cases q3:o.unit=0
  ·have y3:(o.unit=0)=True:=eq_true q3;have hq:k+1<=g.ops.length∧_:=⟨om,next ⟨om,om,hlen,hrange,hcx,hone,fun h=>absurd q3 h⟩⟩;have F:=aj8 @tmz @p1 @Zae @Zar @Zai @hcf @y3 @hwk;refine gG ?_;exact ⟨k+1,hq,gw,gw,om⟩
  have y3:(o.unit=0)=False:=eq_false q3;obtain ⟨q,u,hq,hu,hql⟩:=hunit q3;have hsub:IntKind.i64.wrap (o.unit - 1)=(q:Int):=by rw [hq];exact Za2 om om om
  have hut:o.unit.toNat - 1=q:=om;by_cases q4:x.const=0;rotate_left
  ·have hf:=hno (fun h=>q4 (h.unit q3).1);have y4:(x.const=0)=False:=eq_false q4;exact fT (aj9 @tmz @p1 @Zae @Zar @Zai @hcf @y3 @y4 @hf)
  have y4:(x.const=0)=True:=eq_true q4;by_cases q5:u.const=0;rotate_left
  ·have hf:=hno (fun h=>q5 ((h.unit q3).2 u (by rw [hut];exact hu)));have y5:(u.const=0)=False:=eq_false q5;exact fT (aj13 @tmz @p1 @Zae @Zar @Zai @hrw @hcf @y3 @y4 @hsub @hu @y5 @hf)
  have y5:(u.const=0)=True:=eq_true q5;have hq':k+1<=g.ops.length∧_:=⟨om,next ⟨om,om,hlen,hrange,hcx,hone,fun _=>⟨q4,fun u' hu'=>by rw [hut,hu] at hu';injection hu' with hu';subst hu';exact q5⟩⟩⟩;have F:=aj13 @tmz @p1 @Zae @Zar @Zai @hrw @hcf @y3 @y4 @hsub @hu @y5 @hwk;refine gG ?_;exact ⟨k+1,hq',gw,gw,om⟩
 ·have hcx:o.comm=true->x.coefs[0]?=x.coefs[1]?:=fun _=>by rw [ha,hb]
  by_cases q3:o.unit=0
  ·have y3:(o.unit=0)=True:=eq_true q3;have hq:k+1<=g.ops.length∧_:=⟨om,next ⟨om,om,hlen,hrange,hcx,hone,fun h=>absurd q3 h⟩⟩;have F:=aj10 @tmz @p1 @Zae @Zar @Zai @hct @ha @hb @y3 @hwk;refine gG ?_;exact ⟨k+1,hq,gw,gw,om⟩
  have y3:(o.unit=0)=False:=eq_false q3;obtain ⟨q,u,hq,hu,hql⟩:=hunit q3;have hsub:IntKind.i64.wrap (o.unit - 1)=(q:Int):=by rw [hq];exact Za2 om om om
  have hut:o.unit.toNat - 1=q:=om;by_cases q4:x.const=0;rotate_left
  ·have hf:=hno (fun h=>q4 (h.unit q3).1);have y4:(x.const=0)=False:=eq_false q4;exact fT (aj11 @tmz @p1 @Zae @Zar @Zai @hct @ha @hb @y3 @y4 @hf)
  have y4:(x.const=0)=True:=eq_true q4;by_cases q5:u.const=0;rotate_left
  ·have hf:=hno (fun h=>q5 ((h.unit q3).2 u (by rw [hut];exact hu)));have y5:(u.const=0)=False:=eq_false q5;exact fT (aj15 @tmz @p1 @Zae @Zar @Zai @hrw @hct @ha @hb @y3 @y4 @hsub @hu @y5 @hf)
  have y5:(u.const=0)=True:=eq_true q5;have hq':k+1<=g.ops.length∧_:=⟨om,next ⟨om,om,hlen,hrange,hcx,hone,fun _=>⟨q4,fun u' hu'=>by rw [hut,hu] at hu';injection hu' with hu';subst hu';exact q5⟩⟩⟩;have F:=aj15 @tmz @p1 @Zae @Zar @Zai @hrw @hct @ha @hb @y3 @y4 @hsub @hu @y5 @hwk;refine gG ?_;exact ⟨k+1,hq',gw,gw,om⟩
 ·have hf:=hno (fun h=>hab (by have:=h.comm hct;rw [ha,hb] at this;injection this));have y1:(a=b)=False:=eq_false hab;exact fT (aj10 @tmz @p1 @Zae @Zar @Zai @hct @ha @hb @y1 @hf)
end
def numR (f:Tm->Int) (vs:List Tm):List (List C):=vs.map fun v=>ZaG (f v)
def mixR (f g:Tm->Int) (vs:List Tm) (j:Nat):List (List C):=numR f (vs.take j)++numR g (vs.drop j)
section
variable {f g:Tm->Int} {vs:List Tm}
theorem Zcs:(numR f vs).length=vs.length:=Tay ..
theorem ZcN {j:Nat} {v:Tm} (h:vs[j]?=some v):(numR f vs)[j]?=some [.lit (.int .i64 (f v))]:=by rw [numR,Tba,h];rfl
theorem Zdk:ZaM 1 (numR f vs)=true:=by
 rw [show numR f vs=(vs.map f).map ZaG by rw [numR,List.map_map];rfl];exact Zic _
theorem ZoE:mixR f g vs 0=numR g vs:=by simp [mixR,numR]
theorem ZoF:mixR f g vs vs.length=numR f vs:=by simp [mixR,numR]
theorem Zf1 (j:Nat):(mixR f g vs j).length=vs.length:=by
 rw [mixR,Tae,Zcs,Zcs,Taw,Tax];omega
theorem Zgq (j:Nat):ZaM 1 (mixR f g vs j)=true:=by
 rw [show mixR f g vs j=(((vs.take j).map f)++((vs.drop j).map g)).map ZaG by rw [mixR,numR,numR,Tbv,List.map_map,List.map_map];rfl];exact Zic _
theorem Zj5 {j:Nat} {v:Tm} (h:vs[j]?=some v):(mixR f g vs j)[j]?=some [.lit (.int .i64 (g v))]:=by
 have hl:(numR f (vs.take j)).length=j:=by rw [Zcs,Taw];have:=(Tad.1 h).1;omega
 rw [mixR,Tbq om,hl,Nat.sub_self,numR,Tba,Tbb,Nat.add_zero,h];rfl
theorem ZhE {j:Nat} {v:Tm} (h:vs[j]?=some v):(mixR f g vs j).set j [.lit (.int .i64 (f v))]=mixR f g vs (j+1):=by
 have hj:=(Tad.1 h).1;have hl:(numR f (vs.take j)).length=j:=by rw [Zcs,Taw];omega
 have hd:vs.drop j=v::vs.drop (j+1):=by rw [List.drop_eq_getElem_cons hj,(Tad.1 h).2]
 rw [mixR,mixR,List.take_add_one,h,List.set_append_right _ _ om,hl,Nat.sub_self,hd];simp [numR,ZaG]
theorem Zwc {j:Nat} {v:Tm} (h:vs[j]?=some v):(mixR f g vs (j+1))[j]?=some [.lit (.int .i64 (f v))]:=by
 rw [<- ZhE h,List.getElem?_set,if_pos rfl,if_pos (by rw [Zf1];exact (Tad.1 h).1)]
theorem Zwd {j:Nat} {v:Tm} (h:vs[j]?=some v) (he:f v=g v):mixR f g vs j=mixR f g vs (j+1):=by
 have hj:=(Tad.1 h).1;have hd:vs.drop j=v::vs.drop (j+1):=by rw [List.drop_eq_getElem_cons hj,(Tad.1 h).2]
 rw [mixR,mixR,List.take_add_one,h,hd];simp [numR,he]
theorem Zwe (z:List C) (hz:z=[.lit (.int .i64 0)]):List.replicate vs.length z=numR (fun _=>0) vs:=by
 subst hz;rw [numR,List.map_const'];rfl
theorem Zfx (h:∀ v∈vs,f v=g v):numR f vs=numR g vs:=List.map_congr_left fun v hv=>by rw [h v hv]
theorem ZxN {t:Tm} {k:Nat} {v:Tm} (hnd:vs.Nodup) (hk:vs[k]?=some v) (hv:Zah v t=0):(numR (fun _=>0) vs).set k [.lit (.int .i64 1)]=numR (fun v=>if Zah v t=0 then 1 else 0) vs:=by
 obtain rfl:=ZcZ.1 hv;have hkl:=(Tad.1 hk).1;refine List.ext_getElem? fun i=>?_;rw [List.getElem?_set];split
 ·rename_i h;subst h;rw [if_pos (by rw [Zcs];exact hkl),ZcN hk];simp [Zb6]
 ·rename_i hne;rcases hi:vs[i]? with _ | u
  ·rw [numR,numR,Tba,Tba,hi];rfl
  ·rw [ZcN hi,ZcN hi];have hu:¬ Zah u v=0:=fun h=>by
    obtain rfl:=ZcZ.1 h;have hil:=(Tad.1 hi).1;have e1:=(Tad.1 hi).2;have e2:=(Tad.1 hk).2;exact hne ((List.getElem_inj hnd).1 (e2.trans e1.symm))
   simp [hu]
end
open Classical in
noncomputable def wOut (g:Sgn) (ws:List Wt) (vs:List Tm) (t:Tm):List D:=if okW g ws vs t then [.one (.lit (.int .i64 (wN g ws t))),.one (.sl (numR (fun v=>wF g ws v t) vs)),.one (.lit (.bool true))] else [.one (.lit (.int .i64 0)),.one (.sl []),.one (.lit (.bool false))]
theorem ZcH {g:Sgn} {ws:List Wt} {vs:List Tm} {t:Tm} (h:okW g ws vs t):wOut g ws vs t=[.one (.lit (.int .i64 (wN g ws t))),.one (.sl (numR (fun v=>wF g ws v t) vs)),.one (.lit (.bool true))]:=if_pos h
theorem Zcr {g:Sgn} {ws:List Wt} {vs:List Tm} {t:Tm} (h:¬ okW g ws vs t):wOut g ws vs t=[.one (.lit (.int .i64 0)),.one (.sl []),.one (.lit (.bool false))]:=if_neg h
theorem ZpJ {ts:List Tm} {f:FuncId} {caps:List C} {P:Tm->Bool} (hl:ts.length<=big) (h:∀ a∈ts,Con e0 f (.agg (Zaa a)::caps.map .one) [.one (.lit (.bool (P a)))]) :
  ∃ r:Int,((∃ (k:Nat) (a:Tm),r=k∧ts[k]?=some a∧P a=true∧∀ (j:Nat) a,j < k->ts[j]?=some a->P a=false)∨(r=-1∧ts.any P=false))∧Con e0 71 [.one (.sl (Zab ts)),.one (.fn f caps)] [.one (.lit (.int .i64 r))]:=by
 unfold big at hl;by_cases hA:ts.any P=true
 ·obtain ⟨k,hk,hbef⟩:∃ k:Nat,(∃ a,ts[k]?=some a∧P a=true)∧∀ (j:Nat) a,j < k->ts[j]?=some a->P a=false:=by
   have hex:∃ k:Nat,∃ a,ts[k]?=some a∧P a=true:=by
    obtain ⟨a,ha,hp⟩:=List.any_eq_true.1 hA;obtain ⟨k,hk⟩:=Tbk ha;exact ⟨k,a,hk,hp⟩
   obtain ⟨k,hk,hmin⟩:=Zzx hex;refine ⟨k,hk,fun j a hj ha=>?_⟩
   cases hp:P a with
   | false=>rfl
   | true=>exact absurd ⟨a,ha,hp⟩ (hmin j hj)
  obtain ⟨a0,ha0,hp0⟩:=hk;have hkl:=(Tad.1 ha0).1;refine ⟨(k:Int),.inl ⟨k,a0,rfl,ha0,hp0,hbef⟩,?_⟩;refine gI 66483 Tryz.func71 ?_;refine fG @tmz ?_;have F:=@e0P;refine gL (ι:=Nat) [4,5,8,9,16] [] (fun i=>[(8,A.d (.one (.lit (.int .i64 i))))]) (fun i=>[]) (fun i=>i<=k) (fun i=>k+1 - i) (0) om (fun i hi=>?_);clear F;have hl':(i:Int) < (ts.length:Int):=om;obtain ⟨a,ha⟩:∃ a,ts[i]?=some a:=⟨_,Taa om⟩;have hw1:=Zaq (k:=i) om
  refine fB (ai @tmz @hl') ?_;refine fC (ai @tmz @ha) (h a (Tac ha)) ?_;by_cases hik:i=k
  ·subst hik;rw [ha] at ha0;injection ha0 with ha0
   subst ha0;refine fR (ai @tmz @hp0) ?_;exact fT @tmz
  ·have hpf:=hbef i a om ha;refine fR (ai @tmz @hpf) ?_;have F:=ai @hw1 @tmz;refine gG ?_;exact ⟨i+1,om,gw,gw,om⟩
 ·have hbef:∀ (j:Nat) a,ts[j]?=some a->P a=false:=fun j a ha=>by
   cases hp:P a with
   | false=>rfl
   | true=>exact absurd (List.any_eq_true.2 ⟨a,Tac ha,hp⟩) hA
  refine ⟨-1,.inr ⟨rfl,by simpa using hA⟩,?_⟩;refine gI 66483 Tryz.func71 ?_;refine fG @tmz ?_;have F:=@e0P;refine gL (ι:=Nat) [4,5,8,9,16] [] (fun i=>[(8,A.d (.one (.lit (.int .i64 i))))]) (fun i=>[]) (fun i=>i<=ts.length) (fun i=>ts.length - i) (0) om (fun i hi=>?_);clear F;by_cases hi':i < ts.length;rotate_left
  ·have hl':¬ ((i:Int) < (ts.length:Int)):=om;exact fT (ai @tmz @hl')
  have hl':(i:Int) < (ts.length:Int):=om;obtain ⟨a,ha⟩:∃ a,ts[i]?=some a:=⟨_,Taa om⟩;have hw1:=Zaq (k:=i) om;have hpf:=hbef i a ha;refine fB (ai @tmz @hl') ?_;refine fC (ai @tmz @ha) (h a (Tac ha)) ?_;refine fR (ai @tmz @hpf) ?_;have F:=ai @hw1 @tmz;refine gG ?_;exact ⟨i+1,om,gw,gw,om⟩
theorem Kept.all1 {D:Prop} {B:Nat} {w w':World} (h:Kept D e1.E B w w') (h1:e1.G w) (h2:e1.G w'):Kept D (fun _=>False) B w w':=h
section
variable {g:Sgn} {ws:List Wt}
theorem Zld (hg:Zbv g) (hwl:ws.length<=1048576):Con e0 33 [.agg (Zaf g),.one (.sl (ws.map ZbI))] [.one (.lit (.bool (isIn g ws)))]:=by
 have cS:=Zd4 hg;have hrw:=Zk8 ws;rw [Zaf] at cS ⊢;refine gI 170141183500083312989397094349247349239 Tryz.func33 ?_;refine fB @tmz ?_;refine fC @tmz (cS) ?_
 cases hs:Zbq g with
 | false =>
  have hf:=ZdZ (ws:=ws) (fun h:InOk g ws=>by rw [Zb4 h.sgn] at hs;cases hs);refine fR @tmz ?_;exact fT @hf
 | true =>
 by_cases hl:ws.length=g.ops.length;rotate_left
 ·have hf:=ZdZ (ws:=ws) (fun h:InOk g ws=>hl h.len);have q1:((ws.length:Int)=(g.ops.length:Int))=False:=eq_false om;refine fR (ai @tmz @q1) ?_;exact fT @hf
 have q1:((ws.length:Int)=(g.ops.length:Int))=True:=eq_true om;refine fR (ai @tmz @q1) ?_;refine fG @tmz ?_;have hS:=Zdj.1 hs;have F:=@e0P;refine gL (ι:=Nat) [4,5,6,7,8,23,45,50,59,95,127] [] (fun k=>[(5,A.d (.one (.lit (.int .i64 k))))]) (fun k=>[]) (fun k=>k<=ws.length∧∀ (i:Nat) (o:Opr) (x:Wt),i < k->g.ops[i]?=some o->ws[i]?=some x->WtOk ws o x) (fun k=>ws.length - k) (0) (⟨Taj _,fun i o x h=>absurd h om⟩) (fun k hk=>?_);clear F
 obtain ⟨hk,hall⟩:=hk;by_cases hkn:k < ws.length;rotate_left
 ·have q2:¬ ((k:Int) < (ws.length:Int)):=om;have ht:=Ziz (g:=g) (ws:=ws) ⟨hS,hl,fun i o x ho hx=>hall i o x (by have:=(Tad.1 ho).1;omega) ho hx⟩;exact fT (aj3 @tmz @q2 @ht)
 have q2:(k:Int) < (ws.length:Int):=om;obtain ⟨o,ho⟩:∃ o,g.ops[k]?=some o:=⟨_,Taa om⟩;obtain ⟨x,hx⟩:∃ x,ws[k]?=some x:=⟨_,Taa om⟩;obtain ⟨d,hd,hd3⟩:=(hS.decls o (Tac ho)).first;have har:=(hS.decls o (Tac ho)).ar d hd;have hax:=hS.axs o (Tac ho);have hno:=Zrz (g:=g) ho hx;have hwk:=Zaq (k:=k) om;have cAr:=ZcF hd;rw [ZaT] at cAr;refine fB (aj4 @tmz @q2 @hx @hrw) ?_;refine fC @Zar (Zcf x.const 0 100) ?_
 by_cases h1:0<=x.const∧x.const<=100;rotate_left
 ·have hf:=hno (fun h=>h1 ⟨h.lo,h.hi⟩);have z1:decide (0<=x.const∧x.const<=100)=false:=decide_eq_false h1;refine fR @z1 ?_;exact fT @hf
 have z1:decide (0<=x.const∧x.const<=100)=true:=decide_eq_true h1;refine fC (aj4 @z1 @ho @Zae @Zar) (cAr) ?_;by_cases h3:x.coefs.length=d.args.length;rotate_left
 ·have hf:=hno (fun h=>h3 (h.len d hd));have z3:((x.coefs.length:Int)=(d.args.length:Int))=False:=eq_false om;refine fR (ai @z1 @z3) ?_;exact fT @hf
 have z3:((x.coefs.length:Int)=(d.args.length:Int))=True:=eq_true om;refine fR (ai @z1 @z3) ?_;refine fG @tmz ?_;have F:=@Zar;refine gL (ι:=Nat) [4,7,50,59] [] (fun j=>[(7,A.d (.one (.lit (.int .i64 j))))]) (fun j=>[]) (fun j=>j<=x.coefs.length∧∀ (i:Nat) (c:Int),i < j->x.coefs[i]?=some c->1<=c∧c<=100) (fun j=>x.coefs.length - j) (0) (⟨Taj _,fun i c h=>absurd h om⟩) (fun j hj=>?_);clear F;obtain ⟨hj,hcs⟩:=hj
 by_cases hjn:j < x.coefs.length
 ·have p1:(j:Int) < (x.coefs.length:Int):=om;obtain ⟨c,hc⟩:∃ c,x.coefs[j]?=some c:=⟨_,Taa hjn⟩;have hcm:=Tac hc;have hwj:=Zaq (k:=j) om;refine fB (aj3 @tmz @p1 @Zar) ?_;refine fC (aj3 @Zar @Zai @hc) (Zcf c 1 100) ?_;by_cases g1:1<=c∧c<=100;rotate_left
  ·have hf:=hno (fun h=>g1 (h.all c hcm));have y1:decide (1<=c∧c<=100)=false:=decide_eq_false g1;refine fR @y1 ?_;exact fT @hf
  have y1:decide (1<=c∧c<=100)=true:=decide_eq_true g1;have hq:j+1<=x.coefs.length∧_:=⟨om,ZoD hc hcs g1⟩;refine fR @y1 ?_;have F:=aj3 @tmz @hwj @Zar;refine gG ?_;exact ⟨j+1,hq,gw,gw,om⟩
 have p1:¬ ((j:Int) < (x.coefs.length:Int)):=om;obtain rfl:j=x.coefs.length:=by omega
 have hrange:=Zlb hcs;have hlen:∀ d',o.decls[0]?=some d'->x.coefs.length=d'.args.length:=fun d' h=>by rw [hd] at h;injection h with h;subst h;omega
 have next:=ZoC ho hx hall
 have hunit:o.unit≠0->∃ (q:Nat) (u:Wt),o.unit=(q:Int)+1∧ws[q]?=some u∧q < ws.length:=fun hu=>by
  have h0:=hax.lo;have h4:=hax.hi;exact ⟨(o.unit - 1).toNat,ws[(o.unit - 1).toNat],om,Taa om,om⟩
 have htwo:(o.assoc=true∨o.comm=true∨o.unit≠0)->∃ a b,x.coefs[0]?=some a∧x.coefs[1]?=some b∧a∈x.coefs∧b∈x.coefs∧(a=1->b=1->∀ c∈x.coefs,c=1):=fun h=>by
  have:=(hax.two h d hd).1;obtain ⟨a,b,hab⟩:=ZkH (show x.coefs.length=2 by omega);rw [hab];exact ⟨a,b,rfl,rfl,by simp,by simp,fun h1 h2 c hc=>by simp at hc;rcases hc with rfl | rfl <;> assumption⟩
 clear hrw;have hrw:=Zk8 ws;have htwo:(o.comm=true∨o.assoc=true∨o.unit≠0)->_:=fun h=>htwo (h.elim (fun h=>.inr (.inl h)) (fun h=>h.elim .inl fun h=>.inr (.inr h)))
 cases j1:o.comm <;> cases j2:o.assoc <;> by_cases j3:o.unit=0
 ·have q1:o.comm=false:=by simpa using j1
  have q2:o.assoc=false:=by simpa using j2
  have q3:o.unit=0:=j3;have z3:=lF 0 o.unit;have hq:k+1<=ws.length∧_:=⟨om,next ⟨om,om,hlen,hrange,(fun h=>by rw [q1] at h;cases h),(fun h=>h.elim (fun h=>by rw [q2] at h;cases h) fun h=>absurd q3 h),(fun h=>absurd q3 h)⟩⟩;have F:=aj11 @tmz @p1 @ho @Zar @Zae @Zai @hrw @q1 @q2 @z3 @hwk;refine gG ?_;exact ⟨k+1,hq,gw,gw,om⟩
 ·have q1:o.comm=false:=by simpa using j1
  have q2:o.assoc=false:=by simpa using j2
  have q3:o.unit≠0:=j3;obtain ⟨q,u,hq,hu,hql⟩:=hunit q3;have z3:=lT 0 o.unit;have hsub:IntKind.i64.wrap (o.unit - 1)=(q:Int):=by rw [hq];exact Za2 om om om
  have hut:o.unit.toNat - 1=q:=om;obtain ⟨a,b,ha,hb,hma,hmb,hab1⟩:=htwo (.inr (.inr q3));by_cases c_c0:x.const=0;rotate_left
  ·have hf:=hno (fun h=>c_c0 ((h.unit q3).1));have y4:(x.const=0)=False:=eq_false c_c0;exact fT (aj16 @tmz @p1 @ho @Zar @Zae @Zai @hrw @q1 @q2 @z3 @hsub @hu @ha @hb @y4 @hf)
  have y4:(x.const=0)=True:=eq_true c_c0;by_cases c_a1:a=1;rotate_left
  ·have hf:=hno (fun h=>c_a1 (h.one (.inr q3) _ hma));have y1:(a=1)=False:=eq_false c_a1;exact fT (aj15 @tmz @p1 @ho @Zar @Zae @Zai @hrw @q1 @q2 @z3 @hsub @hu @ha @hb (aj3 @y4 @y1 @hf))
  have y1:(a=1)=True:=eq_true c_a1;by_cases c_b1:b=1;rotate_left
  ·have hf:=hno (fun h=>c_b1 (h.one (.inr q3) _ hmb));have y2:(b=1)=False:=eq_false c_b1;exact fT (aj16 @tmz @p1 @ho @Zar @Zae @Zai @hrw @q1 @q2 @z3 @hsub @hu @ha @hb @y4 (aj3 @y1 @y2 @hf))
  have y2:(b=1)=True:=eq_true c_b1;by_cases c_u0:u.const=0;rotate_left
  ·have hf:=hno (fun h=>c_u0 ((h.unit q3).2 u (by rw [hut];exact hu)));have y5:(u.const=0)=False:=eq_false c_u0;exact fT (aj16 @tmz @p1 @ho @Zar @Zae @Zai @hrw @q1 @q2 @z3 @hsub @hu @ha @hb @y4 (aj4 @y1 @y2 @y5 @hf))
  have y5:(u.const=0)=True:=eq_true c_u0;have hq:k+1<=ws.length∧_:=⟨om,next ⟨om,om,hlen,hrange,(fun h=>by rw [q1] at h;cases h),(fun _=>hab1 c_a1 c_b1),(fun _=>⟨c_c0,fun u' hu'=>by rw [hut,hu] at hu';injection hu' with hu';subst hu';exact c_u0⟩)⟩⟩;have F:=aj16 @tmz @p1 @ho @Zar @Zae @Zai @hrw @q1 @q2 @z3 @hsub @hu @ha @hb @y4 (aj4 @y1 @y2 @y5 @hwk);refine gG ?_;exact ⟨k+1,hq,gw,gw,om⟩
 ·have q1:o.comm=false:=by simpa using j1
  have q2:o.assoc=true:=by simpa using j2
  have q3:o.unit=0:=j3;have z3:=lF 0 o.unit;obtain ⟨a,b,ha,hb,hma,hmb,hab1⟩:=htwo (.inr (.inl q2));by_cases c_a1:a=1;rotate_left
  ·have hf:=hno (fun h=>c_a1 (h.one (.inl q2) _ hma));have y1:(a=1)=False:=eq_false c_a1;exact fT (aj14 @tmz @p1 @ho @Zar @Zae @Zai @hrw @q1 @q2 @z3 @ha @hb @y1 @hf)
  have y1:(a=1)=True:=eq_true c_a1;by_cases c_b1:b=1;rotate_left
  ·have hf:=hno (fun h=>c_b1 (h.one (.inl q2) _ hmb));have y2:(b=1)=False:=eq_false c_b1;exact fT (aj15 @tmz @p1 @ho @Zar @Zae @Zai @hrw @q1 @q2 @z3 @ha @hb @y1 @y2 @hf)
  have y2:(b=1)=True:=eq_true c_b1;have hq:k+1<=ws.length∧_:=⟨om,next ⟨om,om,hlen,hrange,(fun h=>by rw [q1] at h;cases h),(fun _=>hab1 c_a1 c_b1),(fun h=>absurd q3 h)⟩⟩;have F:=aj15 @tmz @p1 @ho @Zar @Zae @Zai @hrw @q1 @q2 @z3 @ha @hb @y1 @y2 @hwk;refine gG ?_;exact ⟨k+1,hq,gw,gw,om⟩
 ·have q1:o.comm=false:=by simpa using j1
  have q2:o.assoc=true:=by simpa using j2
  have q3:o.unit≠0:=j3;obtain ⟨q,u,hq,hu,hql⟩:=hunit q3;have z3:=lT 0 o.unit;have hsub:IntKind.i64.wrap (o.unit - 1)=(q:Int):=by rw [hq];exact Za2 om om om
  have hut:o.unit.toNat - 1=q:=om;obtain ⟨a,b,ha,hb,hma,hmb,hab1⟩:=htwo (.inr (.inl q2));by_cases c_a1:a=1;rotate_left
  ·have hf:=hno (fun h=>c_a1 (h.one (.inl q2) _ hma));have y1:(a=1)=False:=eq_false c_a1;exact fT (aj16 @tmz @p1 @ho @Zar @Zae @Zai @hrw @q1 @q2 @z3 @hsub @hu @ha @hb @y1 @hf)
  have y1:(a=1)=True:=eq_true c_a1;by_cases c_b1:b=1;rotate_left
  ·have hf:=hno (fun h=>c_b1 (h.one (.inl q2) _ hmb));have y2:(b=1)=False:=eq_false c_b1;exact fT (aj15 @tmz @p1 @ho @Zar @Zae @Zai @hrw @q1 @q2 @z3 @hsub @hu @ha @hb (aj3 @y1 @y2 @hf))
  have y2:(b=1)=True:=eq_true c_b1;by_cases c_c0:x.const=0;rotate_left
  ·have hf:=hno (fun h=>c_c0 ((h.unit q3).1));have y4:(x.const=0)=False:=eq_false c_c0;exact fT (aj16 @tmz @p1 @ho @Zar @Zae @Zai @hrw @q1 @q2 @z3 @hsub @hu @ha @hb @y1 (aj3 @y2 @y4 @hf))
  have y4:(x.const=0)=True:=eq_true c_c0;by_cases c_u0:u.const=0;rotate_left
  ·have hf:=hno (fun h=>c_u0 ((h.unit q3).2 u (by rw [hut];exact hu)));have y5:(u.const=0)=False:=eq_false c_u0;exact fT (aj16 @tmz @p1 @ho @Zar @Zae @Zai @hrw @q1 @q2 @z3 @hsub @hu @ha @hb @y1 (aj4 @y2 @y4 @y5 @hf))
  have y5:(u.const=0)=True:=eq_true c_u0;have hq:k+1<=ws.length∧_:=⟨om,next ⟨om,om,hlen,hrange,(fun h=>by rw [q1] at h;cases h),(fun _=>hab1 c_a1 c_b1),(fun _=>⟨c_c0,fun u' hu'=>by rw [hut,hu] at hu';injection hu' with hu';subst hu';exact c_u0⟩)⟩⟩;have F:=aj16 @tmz @p1 @ho @Zar @Zae @Zai @hrw @q1 @q2 @z3 @hsub @hu @ha @hb @y1 (aj4 @y2 @y4 @y5 @hwk);refine gG ?_;exact ⟨k+1,hq,gw,gw,om⟩
 ·have q1:o.comm=true:=by simpa using j1
  have q2:o.assoc=false:=by simpa using j2
  have q3:o.unit=0:=j3;have z3:=lF 0 o.unit;obtain ⟨a,b,ha,hb,hma,hmb,hab1⟩:=htwo (.inl q1);by_cases c_ab:a=b;rotate_left
  ·have hf:=hno (fun h=>c_ab (by have:=h.comm q1;rw [ha,hb] at this;injection this));have za:(a=b)=False:=eq_false c_ab;exact fT (aj14 @tmz @p1 @ho @Zar @Zae @Zai @hrw @q1 @q2 @z3 @ha @hb @za @hf)
  have za:(a=b)=True:=eq_true c_ab;have hq:k+1<=ws.length∧_:=⟨om,next ⟨om,om,hlen,hrange,(fun _=>by rw [ha,hb,c_ab]),(fun h=>h.elim (fun h=>by rw [q2] at h;cases h) fun h=>absurd q3 h),(fun h=>absurd q3 h)⟩⟩;have F:=aj14 @tmz @p1 @ho @Zar @Zae @Zai @hrw @q1 @q2 @z3 @ha @hb @za @hwk;refine gG ?_;exact ⟨k+1,hq,gw,gw,om⟩
 ·have q1:o.comm=true:=by simpa using j1
  have q2:o.assoc=false:=by simpa using j2
  have q3:o.unit≠0:=j3;obtain ⟨q,u,hq,hu,hql⟩:=hunit q3;have z3:=lT 0 o.unit;have hsub:IntKind.i64.wrap (o.unit - 1)=(q:Int):=by rw [hq];exact Za2 om om om
  have hut:o.unit.toNat - 1=q:=om;obtain ⟨a,b,ha,hb,hma,hmb,hab1⟩:=htwo (.inl q1);by_cases c_ab:a=b;rotate_left
  ·have hf:=hno (fun h=>c_ab (by have:=h.comm q1;rw [ha,hb] at this;injection this));have za:(a=b)=False:=eq_false c_ab;exact fT (aj16 @tmz @p1 @ho @Zar @Zae @Zai @hrw @q1 @q2 @z3 @hsub @hu @ha @hb @za @hf)
  have za:(a=b)=True:=eq_true c_ab;by_cases c_c0:x.const=0;rotate_left
  ·have hf:=hno (fun h=>c_c0 ((h.unit q3).1));have y4:(x.const=0)=False:=eq_false c_c0;exact fT (aj15 @tmz @p1 @ho @Zar @Zae @Zai @hrw @q1 @q2 @z3 @hsub @hu @ha @hb (aj3 @za @y4 @hf))
  have y4:(x.const=0)=True:=eq_true c_c0;by_cases c_a1:a=1;rotate_left
  ·have hf:=hno (fun h=>c_a1 (h.one (.inr q3) _ hma));have y1:(a=1)=False:=eq_false c_a1;exact fT (aj16 @tmz @p1 @ho @Zar @Zae @Zai @hrw @q1 @q2 @z3 @hsub @hu @ha @hb @za (aj3 @y4 @y1 @hf))
  have y1:(a=1)=True:=eq_true c_a1;by_cases c_b1:b=1;rotate_left
  ·have hf:=hno (fun h=>c_b1 (h.one (.inr q3) _ hmb));have y2:(b=1)=False:=eq_false c_b1;exact fT (aj16 @tmz @p1 @ho @Zar @Zae @Zai @hrw @q1 @q2 @z3 @hsub @hu @ha @hb @za (aj4 @y4 @y1 @y2 @hf))
  have y2:(b=1)=True:=eq_true c_b1;by_cases c_u0:u.const=0;rotate_left
  ·have hf:=hno (fun h=>c_u0 ((h.unit q3).2 u (by rw [hut];exact hu)));have y5:(u.const=0)=False:=eq_false c_u0;exact fT (aj16 @tmz @p1 @ho @Zar @Zae @Zai @hrw @q1 @q2 @z3 @hsub @hu @ha @hb @za (aj5 @y4 @y1 @y2 @y5 @hf))
  have y5:(u.const=0)=True:=eq_true c_u0;have hq:k+1<=ws.length∧_:=⟨om,next ⟨om,om,hlen,hrange,(fun _=>by rw [ha,hb,c_ab]),(fun _=>hab1 c_a1 c_b1),(fun _=>⟨c_c0,fun u' hu'=>by rw [hut,hu] at hu';injection hu' with hu';subst hu';exact c_u0⟩)⟩⟩;have F:=aj16 @tmz @p1 @ho @Zar @Zae @Zai @hrw @q1 @q2 @z3 @hsub @hu @ha @hb @za (aj5 @y4 @y1 @y2 @y5 @hwk);refine gG ?_;exact ⟨k+1,hq,gw,gw,om⟩
 ·have q1:o.comm=true:=by simpa using j1
  have q2:o.assoc=true:=by simpa using j2
  have q3:o.unit=0:=j3;have z3:=lF 0 o.unit;obtain ⟨a,b,ha,hb,hma,hmb,hab1⟩:=htwo (.inl q1);by_cases c_ab:a=b;rotate_left
  ·have hf:=hno (fun h=>c_ab (by have:=h.comm q1;rw [ha,hb] at this;injection this));have za:(a=b)=False:=eq_false c_ab;exact fT (aj14 @tmz @p1 @ho @Zar @Zae @Zai @hrw @q1 @q2 @z3 @ha @hb @za @hf)
  have za:(a=b)=True:=eq_true c_ab;by_cases c_a1:a=1;rotate_left
  ·have hf:=hno (fun h=>c_a1 (h.one (.inl q2) _ hma));have y1:(a=1)=False:=eq_false c_a1;exact fT (aj15 @tmz @p1 @ho @Zar @Zae @Zai @hrw @q1 @q2 @z3 @ha @hb @za @y1 @hf)
  have y1:(a=1)=True:=eq_true c_a1;by_cases c_b1:b=1;rotate_left
  ·have hf:=hno (fun h=>c_b1 (h.one (.inl q2) _ hmb));have y2:(b=1)=False:=eq_false c_b1;exact fT (aj16 @tmz @p1 @ho @Zar @Zae @Zai @hrw @q1 @q2 @z3 @ha @hb @za @y1 @y2 @hf)
  have y2:(b=1)=True:=eq_true c_b1;have hq:k+1<=ws.length∧_:=⟨om,next ⟨om,om,hlen,hrange,(fun _=>by rw [ha,hb,c_ab]),(fun _=>hab1 c_a1 c_b1),(fun h=>absurd q3 h)⟩⟩;have F:=aj16 @tmz @p1 @ho @Zar @Zae @Zai @hrw @q1 @q2 @z3 @ha @hb @za @y1 @y2 @hwk;refine gG ?_;exact ⟨k+1,hq,gw,gw,om⟩
 ·have q1:o.comm=true:=by simpa using j1
  have q2:o.assoc=true:=by simpa using j2
  have q3:o.unit≠0:=j3;obtain ⟨q,u,hq,hu,hql⟩:=hunit q3;have z3:=lT 0 o.unit;have hsub:IntKind.i64.wrap (o.unit - 1)=(q:Int):=by rw [hq];exact Za2 om om om
  have hut:o.unit.toNat - 1=q:=om;obtain ⟨a,b,ha,hb,hma,hmb,hab1⟩:=htwo (.inl q1);by_cases c_ab:a=b;rotate_left
  ·have hf:=hno (fun h=>c_ab (by have:=h.comm q1;rw [ha,hb] at this;injection this));have za:(a=b)=False:=eq_false c_ab;exact fT (aj16 @tmz @p1 @ho @Zar @Zae @Zai @hrw @q1 @q2 @z3 @hsub @hu @ha @hb @za @hf)
  have za:(a=b)=True:=eq_true c_ab;by_cases c_a1:a=1;rotate_left
  ·have hf:=hno (fun h=>c_a1 (h.one (.inl q2) _ hma));have y1:(a=1)=False:=eq_false c_a1;exact fT (aj15 @tmz @p1 @ho @Zar @Zae @Zai @hrw @q1 @q2 @z3 @hsub @hu @ha @hb (aj3 @za @y1 @hf))
  have y1:(a=1)=True:=eq_true c_a1;by_cases c_b1:b=1;rotate_left
  ·have hf:=hno (fun h=>c_b1 (h.one (.inl q2) _ hmb));have y2:(b=1)=False:=eq_false c_b1;exact fT (aj16 @tmz @p1 @ho @Zar @Zae @Zai @hrw @q1 @q2 @z3 @hsub @hu @ha @hb @za (aj3 @y1 @y2 @hf))
  have y2:(b=1)=True:=eq_true c_b1;by_cases c_c0:x.const=0;rotate_left
  ·have hf:=hno (fun h=>c_c0 ((h.unit q3).1));have y4:(x.const=0)=False:=eq_false c_c0;exact fT (aj16 @tmz @p1 @ho @Zar @Zae @Zai @hrw @q1 @q2 @z3 @hsub @hu @ha @hb @za (aj4 @y1 @y2 @y4 @hf))
  have y4:(x.const=0)=True:=eq_true c_c0;by_cases c_u0:u.const=0;rotate_left
  ·have hf:=hno (fun h=>c_u0 ((h.unit q3).2 u (by rw [hut];exact hu)));have y5:(u.const=0)=False:=eq_false c_u0;exact fT (aj16 @tmz @p1 @ho @Zar @Zae @Zai @hrw @q1 @q2 @z3 @hsub @hu @ha @hb @za (aj5 @y1 @y2 @y4 @y5 @hf))
  have y5:(u.const=0)=True:=eq_true c_u0;have hq:k+1<=ws.length∧_:=⟨om,next ⟨om,om,hlen,hrange,(fun _=>by rw [ha,hb,c_ab]),(fun _=>hab1 c_a1 c_b1),(fun _=>⟨c_c0,fun u' hu'=>by rw [hut,hu] at hu';injection hu' with hu';subst hu';exact c_u0⟩)⟩⟩;have F:=aj16 @tmz @p1 @ho @Zar @Zae @Zai @hrw @q1 @q2 @z3 @hsub @hu @ha @hb @za (aj5 @y1 @y2 @y4 @y5 @hwk);refine gG ?_;exact ⟨k+1,hq,gw,gw,om⟩
end
section
variable {g:Sgn} {a:Alg}
end
section
variable {e:Env} {K:St->Prop} {s:List (Nat × A)} {m:List (Nat × Bk)}
end
theorem toNat_one:Int.toNat 1=1:=rfl
section
variable {g:Sgn} {mc:C}
end
theorem ZmH {ts:List Tm}:Zax ts ↔ ∀ t∈ts,okTm t:=by
 induction ts with
 | nil=>simp [Zax]
 | cons t ts ih=>simp [Zax,ih]
theorem ZgZ (op so:Int) (nm:ByteArray) (args:List Tm):Zal (Zaa (.mk op nm so args))=nm.size+(args.length+Zat (Zab args)):=by
 simp only [Zaa,Zal,Zc6,Zaj];omega
section
variable {g:Sgn}
mutual
theorem Zer:∀ {t:Tm},Zaw g t->Zal (Zaa t)+1<=13 * sizeTm t
 | .mk op nm so args,h=>by
  have h1:=ZhJ (ZgD.2 (ZaK.1 h).2.1);simp only [Tm.args] at h1;rw [ZgZ];simp only [sizeTm];rcases h.node with hv | ⟨o,d,hA⟩
  ·have h2:Za6 nm=true:=hv.2.1;have h3:args=[]:=hv.2.2.2.2;subst h3;have h4:¬ 12 < nm.size:=fun h=>by rw [Zcx (.inr (.inl h))] at h2;cases h2
   simp only [Zab,Zat,sizeTms,Tak];omega
  ·have h2:nm=ByteArray.empty:=hA.nm;subst h2;have:ByteArray.empty.size=0:=rfl;omega
theorem ZhJ:∀ {ts:List Tm},Zdz g ts->Zat (Zab ts)+ts.length<=13 * sizeTms ts
 | [],_=>by simp [Zab,Zat]
 | t::ts,h=>by
  simp only [Zdz] at h;have h1:=Zer h.1;have h2:=ZhJ h.2;simp only [Zab,Zat,sizeTms,Tag];omega
end
end
def addL (i:Nat):Nat->List Oper->List Oper
 | _,[]=>[]
 | 0,o::l=>{ o with after:=o.after.push ⟨i,.data⟩ }::l
 | k+1,o::l=>o::addL i k l
theorem Zf6 (i:Nat):∀ (k:Nat) (l:List Oper) (j:Nat),(addL i k l)[j]?=if j=k then l[j]?.map fun o=>{ o with after:=o.after.push ⟨i,.data⟩ } else l[j]?
 | k,[],j=>by simp [addL]
 | 0,o::l,0=>by simp [addL]
 | 0,o::l,j+1=>by simp [addL]
 | k+1,o::l,0=>by simp [addL]
 | k+1,o::l,j+1=>by simp [addL,Zf6 i k l j]
theorem ZhK (i:Nat):∀ (k:Nat) (l:List Oper),(addL i k l).length=l.length
 | k,[]=>by simp [addL]
 | 0,o::l=>by simp [addL]
 | k+1,o::l=>by simp [addL,ZhK i k l]
theorem Zkb (i:Nat):∀ (k:Nat) (l:List Oper),(addL i k l).map (·.dst)=l.map (·.dst)
 | k,[]=>by simp [addL]
 | 0,o::l=>by simp [addL]
 | k+1,o::l=>by simp [addL,Zkb i k l]
section
variable {P:Program} {l:List Oper} {i k:Nat} {oi ok:Oper}
theorem Zgt {Q:Exit->Act->World->Prop} {j:Nat} {K:Act->World->Prop} {a:Act} {w:World}:wpOp P (addL i k l).toArray Q j K a w ↔ wpOp P l.toArray Q j K a w:=by
 have hb:∀ g:Nat,((addL i k l)[g]?).bind (fun x=>x.dst)=(l[g]?).bind fun x=>x.dst:=fun g=>by
  rw [Zf6];by_cases h:g=k
  ·rw [if_pos h];cases l[g]? <;> rfl
  ·rw [if_neg h]
 have hy:yielded (addL i k l).toArray a.tmps=yielded l.toArray a.tmps:=by
  funext g;unfold yielded;simp only [List.getElem?_toArray,hb]
 unfold wpOp;rw [hy];simp only [List.getElem?_toArray,Zf6];by_cases hjk:j=k
 ·rw [if_pos hjk]
  cases hj:l[j]? with
  | none=>exact Iff.rfl
  | some o=>exact Iff.rfl
 ·rw [if_neg hjk]
def Zwq (ops:Array Oper) (i:Nat):Bool:=(List.range ops.size).all fun j=>j==i || match ops[i]?,ops[j]? with
 | some oi,some oj=>oi.after.any (fun e=>Region.binds .any e && e.on==j) || (oj.after.any (fun e=>Region.binds .any e && e.on==i) || oi.apart ops oj)
 | _,_=>true
def Zlf (ops:Array Oper) (i k:Nat):Bool:=Zk6 ops && Zwq ops i && i != k && match ops[i]?,ops[k]? with
 | some oi,some ok=>(match oi with
  | ⟨some _,.extract _ _,_,_,_,none⟩=>true
  | _=>false) && oi.after.all fun e=>!Region.binds .any e || ok.after.any fun e'=>Region.binds .any e' && e'.on==e.on
 | _,_=>false
theorem Zsz {Q:Exit->Act->World->Prop} (hQ:∀ ex a w,Q ex a w->ex=.normal) (hB:Zlf l.toArray i k=true) :
  ∀ (f:Nat) (listed:Array Bool) (a:Act) (w:World),listed.size=l.length->wpAny P .any (addL i k l).toArray Q f listed a w->wpAny P .any l.toArray Q f listed a w:=by
 simp only [Zlf,Tar,bne_iff_ne,ne_eq] at hB;obtain ⟨⟨⟨hsel,hap⟩,hik⟩,h4⟩:=hB;split at h4;rotate_left
 ·cases h4
 rename_i oi ok hoi hok;simp only [Tar] at h4;obtain ⟨h5,h6⟩:=h4;have hpre:∀ e∈oi.after,Region.binds .any e=true->∃ e'∈ok.after,Region.binds .any e'=true∧e'.on=e.on:=fun e he hb=>by
  have:=Array.all_eq_true_iff_forall_mem.1 h6 e he;simp only [hb,Bool.not_true,Bool.false_or,Array.any_eq_true',Tar,beq_iff_eq] at this;obtain ⟨e',q1,q2,q3⟩:=this;exact ⟨e',q1,q2,q3⟩
 have hrdy:∀ (listed:Array Bool) (j:Nat),j∈Region.ready .any (addL i k l).toArray listed ↔ j∈Region.ready .any l.toArray listed∧(j=k->listed.getD i false=true):=fun listed j=>by
  rw [mem_ready,mem_ready];simp only [List.getElem?_toArray,Zf6];by_cases hj:j=k
  ·subst hj;simp only [if_true,true_implies];constructor
   ·rintro ⟨q1,o,q2,q3⟩
    cases hl:l[j]? with
    | none=>rw [hl] at q2;cases q2
    | some o' =>
     rw [hl] at q2;injection q2 with q2
     subst q2;exact ⟨⟨q1,o',rfl,fun e he hb=>q3 e (by simp [he]) hb⟩,q3 ⟨i,.data⟩ (by simp) rfl⟩
   ·rintro ⟨⟨q1,o,q2,q3⟩,q4⟩;refine ⟨q1,_,by rw [q2];rfl,fun e he hb=>?_⟩;rcases Array.mem_push.1 he with he | he
    ·exact q3 e he hb
    ·subst he;exact q4
  ·simp [hj]
 have hun:∀ (listed:Array Bool),listed.size=l.length->k∈Region.ready .any l.toArray listed->i∈Region.ready .any l.toArray listed∨listed.getD i false=true:=fun listed hs hk=>by
  by_cases h:listed.getD i false=true
  ·exact .inr h
  ·left;rw [mem_ready] at hk ⊢;obtain ⟨_,o,q2,q3⟩:=hk;have:o=ok:=by rw [hok] at q2;injection q2 with q2;exact q2.symm
   subst this;have hlt:i < l.length:=by have:=(Tbl.1 hoi).1;simpa using this
   refine ⟨?_,oi,hoi,fun e he hb=>?_⟩
   ·have hl:i < listed.size:=om;rw [Zbb hl];simpa using h
   ·obtain ⟨e',r1,r2,r3⟩:=hpre e he hb;rw [<- r3];exact q3 e' r1 r2
 have hap':=hap;intro f
 induction f with
 | zero =>
  intro listed a w hs h;refine ⟨?_,h.2⟩;by_cases hk:k∈Region.ready .any l.toArray listed
  ·rcases hun listed hs hk with h1 | h1
   ·have:=(hrdy listed i).2 ⟨h1,fun e=>absurd e hik⟩;rw [h.1] at this
    cases this
   ·have:=(hrdy listed k).2 ⟨hk,fun _=>h1⟩;rw [h.1] at this
    cases this
  ·refine List.eq_nil_iff_forall_not_mem.2 fun j hj=>?_;have:=(hrdy listed j).2 ⟨hj,fun e=>absurd (e ▸ hj) hk⟩;rw [h.1] at this
   cases this
 | succ f ih =>
  intro listed a w hs h;by_cases hi:i∈Region.ready .any l.toArray listed
  ·have h1:=h.2 i ((hrdy listed i).2 ⟨hi,fun e=>absurd e hik⟩);rw [Zgt] at h1;have h1':∃ v,Yields P l.toArray oi v a∧wpAny P .any (addL i k l).toArray Q f (listed.setIfInBounds i true) (a.put oi.dst v) w:=by
    unfold wpOp at h1;simp only [hoi] at h1;split at h5;rotate_left
    ·cases h5
    rename_i d x n ty pos af;have hw:Region.wanted ⟨some d,.extract x n,ty,pos,af,none⟩ (yielded l.toArray a.tmps)=true:=by simp [Region.wanted]
    rw [if_pos hw] at h1;rcases h1 with h1 | ⟨_,b,w',h1⟩
    rotate_left
    ·have:=hQ _ _ _ h1;cases this
    unfold Oper.wp at h1
    cases hx:a.eval x with
    | tuple vs =>
     cases hv:vs[n]? with
     | some v =>
      have hrun:∀ w',(execOp a.eval ⟨some d,.extract x n,ty,pos,af,none⟩).run P w'=.ok (.value v) w':=fun w'=>by
       simp [execOp,Instr.extract,hx,hv]
      rw [hrun,Oper.upon_value] at h1;exact ⟨v,.inl ⟨hw,hrun⟩,h1⟩
     | none =>
      simp [execOp,Instr.extract,hx,hv,stuck,Oper.upon] at h1
    | _=>simp [execOp,Instr.extract,hx,stuck,Oper.upon] at h1
   obtain ⟨v,hv,h2⟩:=h1';refine wpAny_first (oi:=oi) (v:=v) hoi (fun j oj cs b hj hsl=>?_) (fun c a w hq=>?_) f listed a w (fun j oj hj hne hl hno=>?_) hi hv (ih _ _ _ (by simpa using hs) h2)
   ·have:=List.all_eq_true.1 hsel oj (Tac (by simpa using hj));rw [hsl] at this
    cases this
   ·have:=hQ _ _ _ hq;cases this
   ·have hjs:=(Tbl.1 hj).1;have:=List.all_eq_true.1 hap j (List.mem_range.2 hjs);simp only [hoi,hj,Bool.or_eq_true,beq_iff_eq,List.any_eq_true,Array.any_eq_true',Tar] at this;rcases this with h1 | h1 | h1 | h1
    ·exact absurd h1 hne
    ·obtain ⟨ed,h2,h3,h4⟩:=h1;obtain ⟨_,o,q2,q3⟩:=mem_ready.1 hi;rw [hoi] at q2;injection q2 with q2
     subst q2;have q4:=q3 ed h2 h3;rw [h4,<- Zbb (by simpa [hs] using hjs)] at q4;rw [hl] at q4
     cases q4
    ·obtain ⟨ed,h2,h3,h4⟩:=h1;exact absurd h4 (hno ed h2 h3)
    ·exact h1
  ·refine ⟨fun h0=>h.1 ?_,fun j hj=>?_⟩
   ·refine List.eq_nil_iff_forall_not_mem.2 fun j hj=>?_;have:=((hrdy listed j).1 hj).1;rw [h0] at this
    cases this
   ·have hj':j∈Region.ready .any (addL i k l).toArray listed:=(hrdy listed j).2 ⟨hj,fun e=>by
     subst e;rcases hun listed hs hj with h1 | h1
     ·exact absurd h1 hi
     ·exact h1⟩
    have h1:=h.2 j hj';rw [Zgt] at h1;exact wpOp_mono (fun a w h=>ih _ a w (by simpa using hs) h) h1
end
section
variable {e:Env} {K:St->Prop} {mask:Nat} {Q:PX->St->Prop} {s:List (Nat × A)} {m:List (Nat × Bk)}
theorem Zlg {l:List Oper} {i k:Nat} {σ:St} (hB:Zlf l.toArray i k=true) (h:Zci e (addL i k l).toArray K l.length (Array.replicate l.length false) σ):Zci e l.toArray K l.length (Array.replicate l.length false) σ:=by
 intro he U w0 S0 nt a w hd hs;refine Zsz (fun ex a w hq=>hq.1) hB _ _ _ _ (by simp) (h he U w0 S0 nt a w (fun o ho d hdd=>?_) hs);have:some d∈(addL i k l).map (·.dst):=Tbi.2 ⟨o,by simpa using ho,hdd⟩;rw [Zkb] at this;obtain ⟨o',h1,h2⟩:=Tbi.1 this;exact hd o' (by simpa using h1) d h2
theorem ZpL {l:List Oper} {p:Nat} {σ:St} (hAl:Zef l.toArray p=true) (hB:regB l.toArray (p+1)=true) (hp:Runs e (l.map (·.dst)) (p+1) l σ K):Zci e l.toArray K l.length (Array.replicate l.length false) σ:=by
 intro he U w0 S0 nt a w hd hs;have:=ZfN (ops:=l.toArray) he hAl hB (K:=K) (Q:=QN e U w0 S0 nt K) (fun a w σ' hK hs'=>⟨rfl,σ',hK,hs'⟩) hd hs (by simpa using hp);simpa using this
theorem gLt {id:Nat} {l l':List Oper} {ds:List (Option Nat)} (p i k:Nat) (hK:Runs e ds (p+1) l' ⟨s,m⟩ (Zcq mask Q)) (hl:addL i k l=l':=by simp only [addL];exact rfl) (hds:l'.map (·.dst)=ds:=by simp only [Tbu,List.map_nil];exact rfl) (hc:Zlf l.toArray i k=true:=by decide +kernel) (hA:Zef l'.toArray p=true:=by decide +kernel) (hr:regB l'.toArray (p+1)=true:=by decide +kernel):pwp e mask (.region id l.toArray true) ⟨s,m⟩ Q:=by
 subst hl hds;have h1:=Zlg hc (by have:=ZpL hA hr hK;rwa [ZhK] at this);exact Zgn (ops:=l.toArray) (by simpa using h1)
end
end Go.Proofs.YtmdkimnlbaahbaaGreat
