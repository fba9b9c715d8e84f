/-
  Part of a proof.
-/
import Derived.Test.YtaenibhihgfehaaGreatDoorBUnifyCard0
import Derived.Test.YtaenibhihgfehaaGreatDoorBUnifyCard1
import Derived.Test.YtaenibhihgfehaaGreatDoorRows
import Derived.Lib.AppendStr
import Derived.Laws.BytesString
set_option linter.unusedSimpArgs false
set_option linter.unusedVariables false
set_option linter.defProp false
set_option maxHeartbeats 400000000
set_option maxRecDepth 100000
namespace Go.Proofs.YtaenibhihgfehaaGreatDoor
open Go.RowKit
noncomputable section
variable{G3 G4 G5:Prop}
variable{k n cap ety sz v N f t2 ty il h:Nat}{ts B m xs:AI}{x:Operand}{os:GL}{σ:St}{K:GR}{P:Dcl->Prop}{s:d3}{e:Env}{rows:sh}{sets T:GN}{subs:List (Int×Int)}
variable{p:String}{ds:By}{ed:Array Edge}{oa:Option (BY×Nat)}{E:GO}{hi:Option Operand}{aa:Array Bool}{ops:Array Oper}
def m214(h:G3:=by
 refine gG ?_;exact⟨false,⟨λh=>(by cases h),λ_ h=>h.2 hr⟩,gw,gw⟩):G3:=h
def m187(h:G3:=by
 refine gG ?_;exact⟨false,⟨λh=>(by cases h),λ_=>⟨hk,λh=>h.2 hr⟩⟩,gw,gw⟩):G3:=h
def m106(b:G5)(h:Bx G5->G4:=by
 intro B0
 obtain⟨a,ha⟩:∃k,d.Y[0]?=some k:=⟨_,Taa om⟩;obtain⟨b,hb⟩:∃k,d.Y[1]?=some k:=⟨_,Taa om⟩;have qS:=iX.Y a (Tac ha);have nn:=iX.Y b (Tac hb);have ga:=uv hs qS;have gb:=uv hs nn;have ia:=qS.1;have ib:=nn.1;exact B0.o a ha b hb qS nn ga gb ia ib):G4:=h ⟨b⟩
def m54(h:G3:=by
 cases q1:o.Θ with
 |true=>(have F:=@q1;refine gG ?_;exact⟨(),trivial,gw,gw⟩)
 |false =>
 cases q2:o.comm with
 |true=>(have F:=ai @q1 @q2;refine gG ?_;exact⟨(),trivial,gw,gw⟩)
 |false =>
  have q3:(o.Ω=0)=False:=eq_false λh=>hp ⟨q1,q2,h⟩;have F:=aj3 @q1 @q2 @q3;refine gG ?_;exact⟨(),trivial,gw,gw⟩):G3:=h
def ZgV{o:Opr}{d:Dcl}(hd:o.Z[0]?=some d):aI e0 150 [.agg (nH o)] [GT d.Y.length]:=by
 refine gI 7 Tryz.func150 ?_;exact fT (aj3 @cz @hd @jD)
section
variable{g:Sgn}{o:Opr}
def Zmr{d:Dcl}(hd:o.Z[0]?=some d)(h1:0<=o.Ω)(h2:o.Ω<=g.ops.length)(h3:d.Y.length=2){a b:Int}(ha:d.Y[0]?=some a)(hb:d.Y[1]?=some b)(hk:kd g.V a=kd g.V b)(hr:¬((o.Θ\/o.Ω≠0)/\kd g.V a≠kd g.V d.Β))
  (hu:o.Ω≠0->∀(p:Opr)(u:Dcl),g.ops[o.Ω.toNat-1]?=some p->p.Z[0]?=some u->u.Y.length=0/\kd g.V u.Β=kd g.V d.Β):AxOk g o :=
 ⟨h1,h2,λ_ d' dG=>by
  rw[hd]at dG;injection dG with dG;subst dG
  refine⟨h3,λa' b' eU cu=>?_⟩;rw[ha]at eU;injection eU with eU;subst eU
  rw[hb]at cu;injection cu with cu;subst cu
  exact⟨hk,λh=>Classical.byContradiction λhn=>hr ⟨h,hn⟩,hu⟩⟩
def Ztd(h:o.Θ=false/\o.comm=false/\o.Ω=0):AxOk g o:=⟨by rw[h.2.2];exact Int.le_refl _,by rw[h.2.2];omega,λh2=>by
 rcases h2 with h2|h2|h2
 ·rw[h.1]at h2;cases h2
 ·rw[h.2.1]at h2;cases h2
 ·exact absurd h.2.2 h2⟩
def Zxp(h:¬(o.Θ=false/\o.comm=false/\o.Ω=0)):o.Θ\/o.comm\/o.Ω≠0:=by
 by_cases h1:o.Θ=true
 ·exact .inl h1
 by_cases h2:o.comm=true
 ·exact .inr (.inl h2)
 exact .inr (.inr λh3=>h ⟨by simpa using h1,by simpa using h2,h3⟩)
def ZpU(hs:SortsOk g.V)(hall:∀p∈g.ops,DeclsOk g.V p)(ho:o∈g.ops)(pX:g.ops.length<=14):aI e0 107 [.agg (wR g.V),.agg (ck g),.agg (nH o)] [GW (jL g o)]:=by
 have bT:¬AxOk g o->jL g o=false:=ZoB;have rK:=iS (l:=kinds g.V);obtain⟨d,hd,iX⟩:=(hall o ho).first;have gr:=uv hs iX.Β;have ir:=iX.Β.1;rw[wR,ck,nH];refine gI 87042659588714057177760255 Tryz.func107 ?_;by_cases h1:0<=o.Ω;rotate_left
 ·have hf:=bT λh=>h1 h.lo;exact fT (ai (eq_true om:(o.Ω<0)=True) @hf)
 have z1:(o.Ω<0)=False:=eq_false om;by_cases h2:o.Ω<=g.ops.length;rotate_left
 ·have hf:=bT λh=>h2 h.hi;exact fT (aj3 @z1 (lT g.ops.length o.Ω) @hf)
 have z2:=lF g.ops.length o.Ω;by_cases hp:o.Θ=false/\o.comm=false/\o.Ω=0
 ·have ht:=Ct (Ztd (g:=g) hp);obtain⟨p1,p2,p3⟩:=hp;exact fT (aj6 @z1 @z2 @p1 @p2 (eq_true p3:(o.Ω=0)=True) @ht)
 have mS:=Zxp hp;refine fN 3 (ai @z1 @z2) ?_;refine gM (ι:=Unit) [32] [] (λv=>[(32,GX false)]) (λv=>[]) (λv=>True) ?_ (λv hv=>Exists.intro _ (ai (Wk.refl _) ?_))
 ·exact m54
 clear hv;by_cases h3:d.Y.length=2;rotate_left
 ·have hf:=bT λh=>h3 (h.two mS d hd).1;exact fT (aj4 @hd @jD (eq_false om:((d.Y.length:Int)=2)=False) @hf)
 have z3:((d.Y.length:Int)=2)=True:=eq_true om;refine m106 λa ha b hb qS nn ga gb ia ib=>?_;by_cases hk:kd g.V a=kd g.V b;rotate_left
 ·have hf:=bT λh=>hk ((h.two mS d hd).2 a b ha hb).1;exact fT (aj13 @hd @jD @z3 @ha @hb @iM @ga @gb @ia @ib @rK (eq_false om:((kd g.V a:Int)=(kd g.V b:Int))=False) @hf)
 refine fN 8 (aj12 @hd @jD @z3 @ha @hb @iM @ga @gb @ia @ib @rK (eq_true om:((kd g.V a:Int)=(kd g.V b:Int))=True)) ?_;refine gM (ι:=Bool) [83] [] (λv=>[(83,GX v)]) (λv=>[]) (λv=>(v->((o.Θ\/o.Ω≠0)/\kd g.V a≠kd g.V d.Β))/\(v=false->¬((o.Θ\/o.Ω≠0)/\kd g.V a≠kd g.V d.Β))) ?_ (λv hv=>Exists.intro _ (ai (Wk.refl _) ?_))
 ·cases q1:o.Θ with
  |true =>
   by_cases hr:kd g.V a=kd g.V d.Β
   ·have F:=aj9 @q1 @ha @iM @ga @gr @ia @ir @rK (eq_true om:((kd g.V a:Int)=(kd g.V d.Β:Int))=True);exact m214
   ·have F:=aj9 @q1 @ha @iM @ga @gr @ia @ir @rK (eq_false om:((kd g.V a:Int)=(kd g.V d.Β:Int))=False);refine gG ?_;exact⟨true,⟨λ_=>⟨.inl rfl,hr⟩,λh=>(by cases h)⟩,gw,gw⟩
  |false =>
  by_cases q3:o.Ω=0
  ·have F:=ai @q1 (eq_true q3:(o.Ω=0)=True);refine gG ?_;exact⟨false,⟨λh=>(by cases h),λ_ h=>h.1.elim (λh=>(by cases h)) λh=>h q3⟩,gw,gw⟩
  ·have z6:(o.Ω=0)=False:=eq_false q3;by_cases hr:kd g.V a=kd g.V d.Β
   ·have F:=aj10 @q1 @z6 @ha @iM @ga @gr @ia @ir @rK (eq_true om:((kd g.V a:Int)=(kd g.V d.Β:Int))=True);exact m214
   ·have F:=aj10 @q1 @z6 @ha @iM @ga @gr @ia @ir @rK (eq_false om:((kd g.V a:Int)=(kd g.V d.Β:Int))=False);refine gG ?_;exact⟨true,⟨λ_=>⟨.inr q3,hr⟩,λh=>(by cases h)⟩,gw,gw⟩
 obtain⟨Ax,rc⟩:=hv
 cases v with
 |true =>
  have hf:=bT λh=>(Ax rfl).2 (((h.two mS d hd).2 a b ha hb).2.1 (Ax rfl).1);exact fT @hf
 |false =>
 have hr:=rc rfl;by_cases q3:o.Ω=0
 ·have ht:=Ct (Zmr hd h1 h2 h3 ha hb hk hr λh=>absurd q3 h);exact fT (ai (eq_true q3:(o.Ω=0)=True) @ht)
 have z6:(o.Ω=0)=False:=eq_false q3;have d6:IntKind.i64.wrap (o.Ω-1)=((o.Ω.toNat-1:Nat):Int):=kJ om om om;obtain⟨p,hp⟩:∃p,g.ops[o.Ω.toNat-1]?=some p:=⟨_,Taa om⟩;obtain⟨u,hu,huu⟩:=(hall p (Tac hp)).first;have gu':=uv hs huu.Β;have iu:=huu.Β.1;have key:(u.Y.length=0/\kd g.V u.Β=kd g.V d.Β)->jL g o:=λh=>Ct (Zmr hd h1 h2 h3 ha hb hk hr λ_ p' u' et pY=>by
  rw[hp]at et;injection et with et;subst et
  rw[hu]at pY;injection pY with pY;subst pY
  exact h)
 have xN:¬(u.Y.length=0/\kd g.V u.Β=kd g.V d.Β)->jL g o=false:=λh=>bT λhA=>h (((hA.two mS d hd).2 a b ha hb).2.2 q3 p u hp hu);by_cases Ag:u.Y.length=0;rotate_left
 ·have hf:=xN λh=>Ag h.1;exact fT (aj9 @z6 @d6 @hp @cz @hu @jD @bw (eq_false om:((u.Y.length:Int)=0)=False) @hf)
 have z7:((u.Y.length:Int)=0)=True:=eq_true om;by_cases hku:kd g.V u.Β=kd g.V d.Β
 ·exact fT (aj15 @z6 @d6 @hp @cz @hu @jD @bw @z7 @gu' @gr @iu @ir @rK (eq_true om:((kd g.V u.Β:Int)=(kd g.V d.Β:Int))=True) (key ⟨Ag,hku⟩))
 ·have hf:=xN λh=>hku h.2;exact fT (aj15 @z6 @d6 @hp @cz @hu @jD @bw @z7 @gu' @gr @iu @ir @rK (eq_false om:((kd g.V u.Β:Int)=(kd g.V d.Β:Int))=False) @hf)
def Zte(hs:SortsOk g.V)(hall:∀p∈g.ops,DeclsOk g.V p)(iY:g.ops[k]?=some o)(pX:g.ops.length<=14):aI e0 92 [.agg (ck g),GT k] [GW (jL g o)]:=by
 have bT:¬AxOk g o->jL g o=false:=ZoB;have ho:=Tac iY;have jF:=(Tad.1 iY).1;have cK:=ZfB hs;rw[show(mr (kinds g.V)).map ij=nR (kinds g.V)from rfl]at cK;have rK:=iS (l:=kinds g.V);obtain⟨d,hd,iX⟩:=(hall o ho).first;have cA:=ZgV hd;have gr:=uv hs iX.Β;have ir:=iX.Β.1;rw[gt]at cK;rw[nH]at cA;rw[ck];refine gI 174085318024508800717819895 Tryz.func92 ?_;by_cases hp:o.Θ=false/\o.comm=false/\o.Ω=0
 ·have ht:=Ct (Ztd (g:=g) hp);obtain⟨p1,p2,p3⟩:=hp;exact fT (aj6 @iY @cz @p1 @p2 (eq_true p3:(o.Ω=0)=True) @ht)
 have mS:=Zxp hp;refine fN 2 (ai @iY @cz) ?_;refine gM (ι:=Unit) [29] [] (λv=>[(29,GX false)]) (λv=>[]) (λv=>True) ?_ (λv hv=>Exists.intro _ (ai (Wk.refl _) ?_))
 ·exact m54
 clear hv;refine eH @aJ @aJ (cA) ?_;by_cases h3:d.Y.length=2;rotate_left
 ·have hf:=bT λh=>h3 (h.two mS d hd).1;exact dM (eq_false om:((d.Y.length:Int)=2)=False) @hf
 have z3:((d.Y.length:Int)=2)=True:=eq_true om;refine fC @z3 (zr o.Ω 0 (g.ops.length:Int)) ?_;by_cases kR:0<=o.Ω/\o.Ω<=(g.ops.length:Int);rotate_left
 ·have hf:=bT λh=>kR ⟨h.lo,h.hi⟩;have z1:decide (0<=o.Ω/\o.Ω<=(g.ops.length:Int))=false:=decide_eq_false kR;exact dM (ai @z3 @z1) @hf
 have z1:decide (0<=o.Ω/\o.Ω<=(g.ops.length:Int)):=decide_eq_true kR;obtain⟨h1,h2⟩:=kR;refine m106 λa ha b hb qS nn ga gb ia ib=>?_;refine fR (ai @z3 @z1) ?_;refine ce @aJ @aJ (cK) @aJ ?_
 refine fN 8 (ai @hd @jD) ?_;refine dJ 22 (by decide +kernel) ?_;intro ds bJ;simp only[List.map]at bJ;subst bJ;refine(have F:=aj10 ha hb iM ga gb gr ia ib ir rK;gP 19 ?_);refine(have F:=ia;De ?_);refine(have F:=ia;De ?_);refine(have F:=ia;De ?_);refine fR @aJ ?_;refine fN 9 @aJ ?_;refine gM (ι:=Bool) [84] [] (λv=>[(84,GX v)]) (λv=>[]) (λv=>(v->kd g.V a≠kd g.V b\/((o.Θ\/o.Ω≠0)/\kd g.V a≠kd g.V d.Β))/\(v=false->kd g.V a=kd g.V b/\¬((o.Θ\/o.Ω≠0)/\kd g.V a≠kd g.V d.Β))) ?_ (λv hv=>Exists.intro _ (ai (Wk.refl _) ?_))
 ·by_cases hk:kd g.V a=kd g.V b;rotate_left
  ·have F:=(eq_false om:((kd g.V a:Int)=(kd g.V b:Int))=False);refine gG ?_;exact⟨true,⟨λ_=>.inl hk,λh=>(by cases h)⟩,gw,gw⟩
  have z4:((kd g.V a:Int)=(kd g.V b:Int))=True:=eq_true om
  cases q1:o.Θ with
  |true =>
   by_cases hr:kd g.V a=kd g.V d.Β
   ·have F:=aj4 @q1 @cz @z4 (eq_true om:((kd g.V a:Int)=(kd g.V d.Β:Int))=True);exact m187
   ·have F:=aj4 @q1 @cz @z4 (eq_false om:((kd g.V a:Int)=(kd g.V d.Β:Int))=False);refine gG ?_;exact⟨true,⟨λ_=>.inr ⟨.inl rfl,hr⟩,λh=>(by cases h)⟩,gw,gw⟩
  |false =>
  by_cases q3:o.Ω=0
  ·have F:=aj4 @q1 @cz @z4 (lF 0 o.Ω);refine gG ?_;exact⟨false,⟨λh=>(by cases h),λ_=>⟨hk,λh=>h.1.elim (λh=>(by cases h)) λh=>h q3⟩⟩,gw,gw⟩
  ·have z6:=lT 0 o.Ω;by_cases hr:kd g.V a=kd g.V d.Β
   ·have F:=aj5 @q1 @cz @z4 @z6 (eq_true om:((kd g.V a:Int)=(kd g.V d.Β:Int))=True);exact m187
   ·have F:=aj5 @q1 @cz @z4 @z6 (eq_false om:((kd g.V a:Int)=(kd g.V d.Β:Int))=False);refine gG ?_;exact⟨true,⟨λ_=>.inr ⟨.inr q3,hr⟩,λh=>(by cases h)⟩,gw,gw⟩
 obtain⟨Ax,rc⟩:=hv
 cases v with
 |true =>
  have hf:=bT λh=>(Ax rfl).elim (λh'=>h' ((h.two mS d hd).2 a b ha hb).1) λh'=>h'.2 (((h.two mS d hd).2 a b ha hb).2.1 h'.1);exact fT @hf
 |false =>
 obtain⟨hk,hr⟩:=rc rfl;by_cases q3:o.Ω=0
 ·have ht:=Ct (Zmr hd h1 h2 h3 ha hb hk hr λh=>absurd q3 h);exact fT (aj3 @cz (eq_true q3:(o.Ω=0)=True) @ht)
 have z6:(o.Ω=0)=False:=eq_false q3;have d6:IntKind.i64.wrap (o.Ω-1)=((o.Ω.toNat-1:Nat):Int):=kJ om om om;obtain⟨p,hp⟩:∃p,g.ops[o.Ω.toNat-1]?=some p:=⟨_,Taa om⟩;obtain⟨u,hu,huu⟩:=(hall p (Tac hp)).first;have cP:=ZgV hu;rw[nH]at cP;have gu':=uv hs huu.Β;have iu:=huu.Β.1;have key:(u.Y.length=0/\kd g.V u.Β=kd g.V d.Β)->jL g o:=λh=>Ct (Zmr hd h1 h2 h3 ha hb hk hr λ_ p' u' et pY=>by
  rw[hp]at et;injection et with et;subst et
  rw[hu]at pY;injection pY with pY;subst pY
  exact h)
 have xN:¬(u.Y.length=0/\kd g.V u.Β=kd g.V d.Β)->jL g o=false:=λh=>bT λhA=>h (((hA.two mS d hd).2 a b ha hb).2.2 q3 p u hp hu);refine eH (aj5 @z6 @d6 @hp @cz @bw) @aJ (cP) ?_;by_cases Ag:u.Y.length=0;rotate_left
 ·have hf:=xN λh=>Ag h.1;exact dM (eq_false om:((u.Y.length:Int)=0)=False) @hf
 have z7:((u.Y.length:Int)=0)=True:=eq_true om;by_cases hku:kd g.V u.Β=kd g.V d.Β
 ·exact dM (aj7 @z7 @hu @jD @gu' @iu @rK (eq_true om:((kd g.V u.Β:Int)=(kd g.V d.Β:Int))=True)) (key ⟨Ag,hku⟩)
 ·have hf:=xN λh=>hku h.2;exact dM (aj7 @z7 @hu @jD @gu' @iu @rK (eq_false om:((kd g.V u.Β:Int)=(kd g.V d.Β:Int))=False)) @hf
end
def m259(b:G5)(h:Bx G5->G4:=by
 intro B0
 have e:args.take i=args:=List.take_of_length_le om;have hw:IntKind.i64.wrap ((aB args:Int)+1)=((1+aB args:Nat):Int):=kJ om om om;exact B0.o e hw):G4:=h ⟨b⟩
def Ej(b:G5)(h:Bx G5->G4:=by
 intro B0
 have ki:(i:Int)<args.length:=om;obtain⟨a,ha⟩:∃a,args[i]?=some a:=⟨_,Taa hl⟩;exact B0.o ki a ha):G4:=h ⟨b⟩
def m115(h:G3:=by
 refine ce (aj3 @ki @ae @ha) @ae (ih a om (by unfold iD;omega)) @hw ?_;have F:=aj3 (bW (k:=i) om) @hw @ae;refine gG ?_;exact⟨i+1,om,gw,gw,om⟩):G3:=h
def Zjd(a b:AI):au (a++b)=au a+au b:=by
 induction a with
 |nil=>simp[au]
 |cons x xs ih=>simp only[Taf,au,ih];omega
def kv{t:Tm}(h:t∈ts):ah t<=au ts:=by
 induction ts with
 |nil=>cases h
 |cons x xs ih =>
  simp only[au];rcases Tbh.1 h with rfl|h
  ·omega
  ·have:=ih h;omega
def Ztf{i:Nat}{t:Tm}(h:ts[i]?=some t):au (ts.take (i+1))=au (ts.take i)+ah t:=by
 rw[vF h,Zjd];simp[au]
def Ztg(ts:AI)(i:Nat):au (ts.take i)<=au ts:=by
 have:=Zjd (ts.take i) (ts.drop i);rw[Tbn]at this;omega
def AZ(ts:AI):ts.length<=au ts:=by
 induction ts with
 |nil=>simp[au]
 |cons x xs ih=>cases x;simp only[Tag,au,ah];omega
mutual
def aH:Tm->Nat
 |.mk _ _ _ a=>1+aB a
def aB:AI->Nat
 |[]=>0
 |t::ts=>max (aH t) (aB ts)
end
mutual
theorem ZoH:∀t:Tm,aH t<=ah t
 |.mk _ _ _ a=>by
  have:=ZgW a;simp only[aH,ah];omega
theorem ZgW:∀ts:AI,aB ts<=au ts
 |[]=>by simp[aB]
 |t::ts=>by
  have:=ZoH t;have:=ZgW ts;simp only[aB,au];omega
end
def Zlr(a b:AI):aB (a++b)=max (aB a) (aB b):=by
 induction a with
 |nil=>simp[aB]
 |cons x xs ih=>simp only[Taf,aB,ih];omega
def ZkR{i:Nat}{t:Tm}(h:ts[i]?=some t):aB (ts.take (i+1))=max (aB (ts.take i)) (aH t):=by
 rw[vF h,Zlr];simp[aB]
def Zig{t:Tm}(h:t∈ts):aH t<=aB ts:=by
 induction ts with
 |nil=>cases h
 |cons x xs ih =>
  simp only[aB];rcases Tbh.1 h with rfl|h
  ·omega
  ·have:=ih h;omega
def ZpV:∀op nm so args,ax (.mk op nm so args)=[GS op,.A (.string nm),GS so,.sl (az args)]:=λ_ _ _ _=>by rw[ax]
def ZEJ:∀op nm so args,ah (.mk op nm so args)=1+au args:=λ_ _ _ _=>by rw[ah]
def ZqJ:∀op nm so args,aH (.mk op nm so args)=1+aB args:=λ_ _ _ _=>by rw[aH]
def ZqK:au []=0:=by rw[au]
def ZoI:aB []=0:=by rw[aB]
def iD:Nat:=4611686018427387904
def Znz:∀(n:Nat)(t:Tm),ah t<n->ah t<=iD->aI e0 61 [.agg (ax t)] [GT (ah t)]:=by
 intro n
 induction n with
 |zero=>intro t h;omega
 |succ n ih =>
  intro t hn hb;obtain⟨op,nm,so,args⟩:=t;simp only[ah,iD]at hn hb;have di:=AZ args;refine gI 1967 Tryz.func61 ?_;refine fG (ai @ZpV @ae) ?_;have F:=@ZqK;refine gL (ι:=Nat) [3,5,9,10] [] (λi=>[(9,GU i),(3,GU ((1+au (args.take i):Nat):Int))]) (λi=>[]) (λi=>i<=args.length) (λi=>args.length-i) (0) om (λi hi=>?_)
  by_cases hl:i<args.length;rotate_left
  ·have e:args.take i=args:=List.take_of_length_le om;exact fT (aj3 (om:¬((i:Int)<args.length)) @e @ZEJ)
  refine Ej λki a ha=>?_;have hs:=Ztf ha;have ht:=Ztg args (i+1);have hm:=kv (Tac ha);have hw:IntKind.i64.wrap (((1+au (args.take i):Nat):Int)+(ah a:Int))=((1+au (args.take (i+1)):Nat):Int):=kJ om om om;exact m115
def Zls{t:Tm}(h:ah t<=iD):aI e0 61 [.agg (ax t)] [GT (ah t)]:=Znz _ t (Tan _) h
def ZmI:∀(n:Nat)(t:Tm),ah t<n->ah t<=iD->aI e0 62 [.agg (ax t)] [GT (aH t)]:=by
 intro n
 induction n with
 |zero=>intro t h;omega
 | succ n ih =>
  intro t hn hb;obtain⟨op,nm,so,args⟩:=t;simp only[ah,iD]at hn hb;have di:=AZ args;have bJ:=ZgW args;refine gI 1967 Tryz.func62 ?_;refine fG (ai @ZpV @ae) ?_;have F:=@ZoI;refine gL (ι:=Nat) [3,5,9,10] [] (λi=>[(9,GU i),(3,GU ((aB (args.take i):Nat):Int))]) (λi=>[]) (λi=>i<=args.length) (λi=>args.length-i) (0) om (λi hi=>?_)
  by_cases hl:i<args.length;rotate_left
  ·refine m259 λe hw=>?_;exact fT (aj4 (om:¬((i:Int)<args.length)) @e @hw @ZqJ)
  refine Ej λki a ha=>?_;have hs:=ZkR ha;have hm:=kv (Tac ha);have hw:(if(aH a:Int)>(aB (args.take i):Int)then(aH a:Int)else(aB (args.take i):Int))=((aB (args.take (i+1)):Nat):Int):=by
   split<;>omega
  exact m115
def ZkS{t:Tm}(h:ah t<=iD):aI e0 62 [.agg (ax t)] [GT (aH t)]:=ZmI _ t (Tan _) h
def ZCk(a b:Int):aI e0 151 [GT a,GT b] [GT (max a b)]:=by
 refine gI 147 Tryz.func151 ?_;by_cases h:b<a
 ·exact fT (ai @h (om:max a b=a))
 ·exact fT (ai @h (om:max a b=b))
def ZmJ:∀(n:Nat)(t:Tm),ah t<n->ah t<=iD->aI e0 94 [.agg (ax t)] [GT (aH t)]:=by
 intro n
 induction n with
 |zero=>intro t h;omega
 |succ n ih =>
  intro t hn hb;obtain⟨op,nm,so,args⟩:=t;simp only[ah,iD]at hn hb;have di:=AZ args;have bJ:=ZgW args;refine gI 543 Tryz.func94 ?_;refine fG (ai @ZpV @ae) ?_;have F:=@ZoI;refine gL (ι:=Nat) [3,4,9] [] (λi=>[(4,GU i),(3,GU ((aB (args.take i):Nat):Int))]) (λi=>[]) (λi=>i<=args.length) (λi=>args.length-i) (0) om (λi hi=>?_)
  by_cases hl:i<args.length;rotate_left
  ·refine m259 λe hw=>?_;exact fT (aj5 (om:¬((i:Int)<args.length)) @e @hw @ZqJ @ae)
  refine Ej λki a ha=>?_;have hs:=ZkR ha;have hm:=kv (Tac ha);have hw:max (aB (args.take i):Int) (aH a:Int)=((aB (args.take (i+1)):Nat):Int):=om;refine eH (aj3 @ki @ae @ha) (ai @ae @ha) (ih a om (by unfold iD;omega)) ?_;refine oZ @ae (ZCk _ _) @hw ?_;have F:=aj3 (bW (k:=i) om) @hw @ae;refine gG ?_;exact⟨i+1,om,gw,gw,om⟩
def ZrG{t:Tm}(h:ah t<=iD):aI e0 94 [.agg (ax t)] [GT (aH t)]:=ZmJ _ t (Tan _) h
def m215(h:G3:=by
 simp only[Tat,Taq]at ho;subst ho;exact h.1):G3:=h
def Ec(b:G5)(h:Bx G5->G4:=by
 intro B0
 have h0:(ni l.length 0).getD j false=false:=by
  by_cases lJ:j<l.length
  ·simp[ni,lJ]
  ·simp[ni,lJ]
 rw[h0]at hj;exact B0.o hj):G4:=h ⟨b⟩
def m47(h:G3:=by
 have h1:=List.all_eq_true.1 hb i (List.mem_range.2 (Tad.1 ho).1);rw[ho]at h1;simp only[Tar,Option.isNone_iff_eq_none,List.all_eq_true,Bool.or_eq_true,Bool.not_eq_true',decide_eq_true_eq]at h1;refine⟨h1.1,λe he mP=>?_⟩;rcases h1.2 e (Array.mem_toList_iff.2 he)with h2|h2
 ·rw[mP]at h2;cases h2
 ·exact h2):G3:=h
def m39(h:G3:=by
 induction i using Nat.strongRecOn with
 |_ i ih =>
  intro hi;rw[<- nG (by omega:i<aa.size)]
  cases iZ:aa.getD i true with
  |true=>rfl
  |false =>
  obtain⟨o,ho⟩:∃o,l[i]?=some o:=⟨_,Taa hi⟩;have:=(mem_ready (ops:=l.toArray) (md:=.any)).2 ⟨iZ,o,by simpa using ho,λe he mP=>ih e.on ((jp i o ho).2 e he mP) (by have:=(jp i o ho).2 e he mP;omega)⟩;rw[h0]at this
  cases this):G3:=h
def dy(sb:d3)(mb:it)(σ:St):Prop:=(∀p∈sb,gs σ.s p.1=p.2)/\∀p∈mb,gm σ.m p.1=some p.2
def mX(k:Nat):A->Bool
 |.ref k' _=>k'==k
 |.Υ k'=>k'==k
 |.row k' _ _ _=>k'==k
 |_=>false
def vZ(d:Nat)(sb:d3)(mb:it):Bool:=sb.all (λp=>p.1 != d && !mX d p.2)&&mb.all (λp=>p.1 != d)
def ZfN(k t:Nat):∀(s:d3),mX k (gs s t)=false->gs (bX k s) t=gs s t
 |[],_=>rfl
 | (t',x)::r,h=>by
  have ih:=ZfN k t r;by_cases ht:t=t'
  ·cases x<;>simp_all [bX,gs,mX]
  ·have h3:=ih (by simpa[gs,ht]using h:mX k (gs r t)=false);clear h ih
   cases x<;>simp[bX,gs,ht,h3]
def ZCl{d:Nat}{a:BY}{x:A}(h:mX d x=false):jv d a n cap x=x:=by
 cases x<;>simp_all [jv,mX]
section
variable{sb sb':d3}{mb mb':it}{s:d3}{m:it}{d:Nat}{α:A}{bk:Bk}{σ:St}
def dy.app(h:dy sb mb σ)(h':dy sb' mb' σ):dy (sb++sb') (mb++mb') σ :=
 ⟨λp hp=>(Tbi.1 hp).elim (h.1 p) (h'.1 p),λp hp=>(Tbi.1 hp).elim (h.2 p) (h'.2 p)⟩
def dy.born(h:dy sb mb ⟨s,m⟩)(hf:vZ d sb mb):dy sb mb ⟨(d,α)::bX d s,(d,bk)::aA d m⟩:=by
 simp only[vZ,Tar,List.all_eq_true,bne_iff_ne,ne_eq,Bool.not_eq_true']at hf;refine⟨λp hp=>?_,λp hp=>?_⟩
 ·have h1:=hf.1 p hp;have h2:=h.1 p hp;simp only[gs,h1.1,if_false];rw[ZfN _ _ _ (by rw[h2];exact h1.2)];exact h2
 ·simp only[gm,(hf.2 p hp),if_false,gq];exact h.2 p hp
def dy.pin(h:dy sb mb ⟨s,m⟩)(hf:vZ d sb mb){a:BY}:dy sb mb ⟨(d,α)::jx (jv d a n cap) (bX d s),(d,bk)::aA d (aA d m)⟩:=by
 simp only[vZ,Tar,List.all_eq_true,bne_iff_ne,ne_eq,Bool.not_eq_true']at hf;refine⟨λp hp=>?_,λp hp=>?_⟩
 ·have h1:=hf.1 p hp;have h2:=h.1 p hp;simp only[gs,h1.1,if_false];rw[Zmi rfl,ZfN _ _ _ (by rw[h2];exact h1.2),h2];exact ZCl h1.2
 ·simp only[gm,(hf.2 p hp),if_false,gq];exact h.2 p hp
def dy.slot(h:dy sb mb ⟨s,m⟩)(hf:sb.all (λp=>p.1 != d)):dy sb mb ⟨(d,α)::s,m⟩:=by
 simp only[List.all_eq_true,bne_iff_ne,ne_eq]at hf;refine⟨λp hp=>?_,h.2⟩;simp only[gs,hf p hp,if_false];exact h.1 p hp
def dy.own(h:dy sb mb ⟨s,m⟩)(hf:mb.all (λp=>p.1 != d)):dy sb mb ⟨s,(d,bk)::aA d m⟩:=by
 simp only[List.all_eq_true,bne_iff_ne,ne_eq]at hf;refine⟨h.1,λp hp=>?_⟩;simp only[gm,hf p hp,if_false,gq];exact h.2 p hp
def ZoJ:∀{sb:d3}(t:Nat),(∀p∈sb,gs σ.s p.1=p.2)->gs sb t=gs σ.s t\/gs sb t=.undef
 |[],t,_=>.inr rfl
 |(t',x)::r,t,h=>by
  simp only[gs];by_cases ht:t=t'
  ·have:=h (t',x) (by simp);rw[if_pos ht,ht];exact .inl this.symm
  ·rw[if_neg ht];exact ZoJ t λp hp=>h p (by simp[hp])
def ZoK:∀{mb:it}(t:Nat)(bk:Bk),(∀p∈mb,gm σ.m p.1=some p.2)->gm mb t=some bk->gm σ.m t=some bk
 |[],t,bk,_,h=>by simp[gm]at h
 | (t',x)::r,t,bk,h,hg=>by
  simp only[gm]at hg;by_cases ht:t=t'
  ·rw[if_pos ht]at hg;injection hg with hg
   have:=h (t',x) (by simp);rw[ht,this,hg]
  ·rw[if_neg ht]at hg;exact ZoK t bk (λp hp=>h p (by simp[hp])) hg
end
section
variable{e:Env}{ay:Nat}{Q:PX->St->Prop}{ds:By}
def ZoL{K':GR}(h:an e ds 0 os σ K)(hk:∀y',K y'->K' y'):an e ds 0 os σ K':=by
 simp only[an]at h⊢;exactλhe U w0 S0 nt a w ops Q bJ hd hQ hs=>h he U w0 S0 nt a w ops Q bJ hd (λa w y' k1 k2=>hQ a w y' (hk y' k1) k2) hs
def FR(l:GL):Bool:=(List.range l.length).all λi=>match l[i]? with
 |none=>true
 |some o=>o.guard.isNone&&o.after.toList.all λe=>!Region.binds .any e||decide (e.on<i)
def yz(o:Oper):GN:=(o.after.toList.filter λe=>Region.binds .any e).map (·.on)
def mF(L:GL)(j:Nat):GN:=match L[j]? with
 |some o=>yz o
 |none=>[]
def CV(e:Env)(ds:By)(L:GL)(B:GR)(P:Nat->St->Prop):Nat->GL->Prop
 |_,[]=>True
 |i,o::os=>(∀s m,B ⟨s,m⟩->(∀j∈yz o,P j ⟨s,m⟩)->an e ds 0 [o] ⟨s,m⟩ (λy'=>B y'/\P i y'/\∀j,j≠i->i∉mF L j->P j ⟨s,m⟩->P j y'))/\CV e ds L B P (i+1) os
def CV.get{L:GL}{B:GR}{P:Nat->St->Prop}:∀{l:GL}{k i:Nat}{o:Oper},CV e ds L B P k l->l[i]?=some o->∀s m,B ⟨s,m⟩->(∀j∈yz o,P j ⟨s,m⟩)->an e ds 0 [o] ⟨s,m⟩ (λy'=>B y'/\P (k+i) y'/\∀j,j≠k+i->k+i∉mF L j->P j ⟨s,m⟩->P j y')
 |[],k,i,o,_,h=>by simp at h
 |x::l,k,0,o,h,ho=>by
  exact m215
 |x::l,k,i+1,o,h,ho=>by
  have:=CV.get (l:=l) (k:=k+1) (i:=i) (o:=o) h.2 (by simpa using ho);rw[show k+1+i=k+(i+1) by omega]at this;exact this
def Zym {l:GL} {B:GR} {P:Nat->St->Prop} (hb:FR l) (rZ:CV e ds l B P 0 l) (hK:∀s m,B ⟨s,m⟩->(∀i,i<l.length->P i ⟨s,m⟩)->K ⟨s,m⟩) :
  ∀(f:Nat)(aa:Array Bool)(σ:St),aa.size=l.length->(List.range l.length).countP (λi=>!aa.getD i true)=f->B σ->(∀j,aa.getD j false->P j σ/\∀q∈mF l j,aa.getD q false)->oV e ds l.toArray K f aa σ:=by
 have jp:∀i o,l[i]?=some o->o.guard=none/\∀e∈o.after,Region.binds .any e->e.on<i:=λi o ho=>by
  exact m47
 have tz:∀(aa:Array Bool),aa.size=l.length->Region.ready .any l.toArray aa=[]->∀i,i<l.length->aa.getD i false:=λaa bP h0 i=>by
  exact m39
 intro f
 induction f with
 | zero =>
  intro aa σ bP hc hB hP;have hall:∀i,i<l.length->aa.getD i true:=λi hi=>by
   have:=List.countP_eq_zero.1 hc i (List.mem_range.2 hi);simpa using this
  refine⟨?_,hK σ.s σ.m hB λi hi=>(hP i (by rw[<- nG om];exact hall i hi)).1⟩
  cases hr:Region.ready .any l.toArray aa with
  |nil=>rfl
  | cons i r =>
   have hi:i∈Region.ready .any l.toArray aa:=by rw[hr];simp
   obtain⟨iZ,oi,fU,_⟩:=mem_ready.1 hi;have e7:i<l.length:=by
    have:=(Tbm.1 fU).1;simpa using this
   rw[hall i e7]at iZ
   cases iZ
 | succ f ih =>
  intro aa σ bP hc hB hP;refine⟨λh0=>hK σ.s σ.m hB λi hi=>(hP i (tz aa bP h0 i hi)).1,λi hi=>?_⟩;obtain⟨iZ,o,fU,hall⟩:=mem_ready.1 hi;have ho:l[i]?=some o:=by simpa using fU
  have e7:i<l.length:=(Tad.1 ho).1;have iJ:i<aa.size:=om;refine⟨o,fU,(jp i o ho).1,Zeh (jp i o ho).1 ?_⟩;have h1:=CV.get rZ ho σ.s σ.m hB λj hj=>by
   simp only[yz,Tbj,List.mem_filter]at hj;obtain⟨e,⟨he,mP⟩,rfl⟩:=hj;exact(hP e.on (hall e (Array.mem_toList_iff.1 he) mP)).1
  rw[Nat.zero_add]at h1;refine ZoL h1 λy'⟨k1,k2,k3⟩=>ih _ y' (by simpa using bP) ?_ k1 λj hj=>?_
  ·have h1:(List.range l.length).countP (λj=>!(aa.setIfInBounds i true).getD j true)+1=(List.range l.length).countP (λj=>!aa.getD j true):=by
    have d5:=List.perm_cons_erase (List.mem_range.2 e7);rw[d5.countP_eq,d5.countP_eq,List.countP_cons,List.countP_cons];have jq:((List.range l.length).erase i).countP (λj=>!(aa.setIfInBounds i true).getD j true)=((List.range l.length).erase i).countP (λj=>!aa.getD j true):=by
     refine List.countP_congr λj hj=>?_;have aP:j≠i:=λe=>by
      subst e;exact List.Nodup.not_mem_erase (List.nodup_range) hj
     rw[getD_set_ne true (Ne.symm aP)]
    rw[jq,iZ];simp[iJ]
   omega
  ·by_cases fu:j=i
   ·subst fu;refine⟨k2,λq hq=>?_⟩;have ji:mF l j=yz o:=by unfold mF;rw[ho]
    rw[ji]at hq;simp only[yz,Tbj,List.mem_filter]at hq;obtain⟨e,⟨he,mP⟩,rfl⟩:=hq;have am:=(jp j o ho).2 e (Array.mem_toList_iff.1 he) mP;rw[getD_set_ne false om];exact hall e (Array.mem_toList_iff.1 he) mP
   ·rw[getD_set_ne false (Ne.symm fu)]at hj;obtain⟨p1,p2⟩:=hP j hj;have Gn:i∉mF l j:=λhm=>by
     have h2:=p2 i hm;rw[<- nG iJ,iZ]at h2
     cases h2
    refine⟨k3 j fu Gn p1,λq hq=>?_⟩;by_cases hqi:q=i
    ·subst hqi;exact absurd hq Gn
    ·rw[getD_set_ne false (Ne.symm hqi)];exact p2 q hq
def gGd{id:Nat}{l:GL}{m:it}(B:GR)(P:Nat->St->Prop)(hB:B ⟨s,m⟩)(hS:CV e (l.map (·.dst)) l B P 0 l)(hK:∀s' m',B ⟨s',m'⟩->(∀i,i<l.length->P i ⟨s',m'⟩)->∃sf mf,dy sf mf ⟨s',m'⟩/\Q .normal ⟨sf,mf⟩)
  (hb:FR l:=by decide +kernel) (hT:sd l.toArray 0:=by decide +kernel):de e ay (.region id l.toArray true) ⟨s,m⟩ Q:=λhe U w0 S0 nt a w aq hs=>by
 refine Zj1 he hT (K:=λy'=>∃sf mf,dy sf mf y'/\Q .normal ⟨sf,mf⟩) (λa w y'⟨sf,mf,h1,h2⟩h3=>⟨⟨sf,mf⟩,h2,h3.weak (λt=>ZoJ t h1.1) (λt bk=>ZoK t bk h1.2)⟩) (FQ aq) hs ?_;simp only[List.take_zero,an]
 have:=Zym (K:=λy'=>∃sf mf,dy sf mf y'/\Q .normal ⟨sf,mf⟩) hb hS hK l.length (ni l.length 0) ⟨s,m⟩ (by simp[ni]) (by
  rw[List.countP_eq_length.2]
  ·simp
  ·intro i hi;have dR:=List.mem_range.1 hi;simp[ni,dR]) hB (λj hj=>by
   refine Ec λhj=>?_
   cases hj)
 simpa using this
def PG{X:Type}(S:X->Nat->d3)(M:X->Nat->it)(i:Nat)(σ:St):Prop:=∃x,dy (S x i) (M x i) σ
section
variable{X:Type}{S:X->Nat->d3}{M:X->Nat->it}{d i:Nat}{L:GL}{s:d3}{m:it}{α:A}{bk:Bk}
def PG.slot(hf:∀j,j≠i->i∉mF L j->∀x,(S x j).all (λp=>p.1 != d)):∀j,j≠i->i∉mF L j->PG S M j ⟨s,m⟩->PG S M j ⟨(d,α)::s,m⟩:=λj h1 h2⟨x,h⟩=>⟨x,h.slot (hf j h1 h2 x)⟩
def PG.born(hf:∀j,j≠i->i∉mF L j->∀x,vZ d (S x j) (M x j)):∀j,j≠i->i∉mF L j->PG S M j ⟨s,m⟩->PG S M j ⟨(d,α)::bX d s,(d,bk)::aA d m⟩:=λj h1 h2⟨x,h⟩=>⟨x,h.born (hf j h1 h2 x)⟩
def PG.pin(hf:∀j,j≠i->i∉mF L j->∀x,vZ d (S x j) (M x j)){a:BY}:∀j,j≠i->i∉mF L j->PG S M j ⟨s,m⟩->PG S M j ⟨(d,α)::jx (jv d a n cap) (bX d s),(d,bk)::aA d (aA d m)⟩:=λj h1 h2⟨x,h⟩=>⟨x,h.pin (hf j h1 h2 x)⟩
end
end
def Zyn{k' tp lq bF:Nat}{ad ad':BY}{rows':sh}(aP:k≠k')(h:gm σ.m k=some (.Υ (some (ad,cap)) ety sz rows))(h':gm σ.m k'=some (.Υ (some (ad',bF)) tp lq rows'))(hr:0<rows.length)(rT:0<rows'.length):kI e σ (λy'=>y'=σ/\ad≠ad'):=λhe U w0 S0 nt act w hs=>by
 refine⟨σ,⟨rfl,λe=>?_⟩,hs⟩;obtain⟨S,L,h1⟩:=hs;have key:∀{k ety sz cap:Nat}{ad:BY}{rows:sh},gm σ.m k=some (.Υ (some (ad,cap)) ety sz rows)->0<rows.length->∃g,aO (L.v k)=some g/\ad=some ⟨g,0,none⟩:=λ{k ety sz cap ad rows}h hr=>by
  obtain⟨o1,o2⟩:=h1.Ξ.own k _ h;have o1:=o1 _ rfl;rcases o2.2.2 with⟨h3,_⟩|⟨g,du,bf,hv,hc,_⟩
  ·rw[h3]at hr;simp at hr
  ·refine⟨g,by rw[hv];simp[aO];omega,?_⟩;rw[o1]at hv;injection hv with hv _ _
 obtain⟨g,v1,e1⟩:=key h hr;obtain⟨g',v2,e2⟩:=key h' rT;rw[e1,e2]at e;injection e with e
 injection e with e _ _
 rw[<- e]at v2;exact aP (h1.Ξ.inj k k' _ _ g h h' v1 v2)
def pA{ay:Nat}{Q:PX->St->Prop}{c:Code}{m:it}{tp lq bF:Nat}{ad ad':BY}{rows':sh}(k k':Nat)(hK:ad≠ad'->de e ay c ⟨s,m⟩ Q)(hr:0<rows.length)(rT:0<rows'.length)(aP:k≠k':=by decide)(h:gm m k=some (.Υ (some (ad,cap)) ety sz rows):=by exact dE)(h':gm m k'=some (.Υ (some (ad',bF)) tp lq rows'):=by exact dE):de e ay c ⟨s,m⟩ Q :=
 rp (Zyn aP h h' hr rT) λy'⟨G6,ha⟩=>by subst G6;exact hK ha
def m203(h:G3:=by
 have hf:=bT λh=>by rw[Ct (h.axs o nz)]at ha;cases ha
 exact dM @aJ @hf):G3:=h
def m112(b:G5)(h:Bx G5->G4:=by
 intro B0
 have dv:¬(jc o.name/\jJ (nh (g.ops.take i)) o.name=false)->oS g=false:=λh=>bT λhs=>h (hs.O i o ho);have rJ:sV g.V o=false->oS g=false:=λh=>bT λhs=>by rw[Zgj (hs.Z o nz)]at h;cases h
 exact B0.o dv rJ):G4:=h ⟨b⟩
def m109(h:G3:=by
 obtain rfl:k=g.ops.length:=by omega
 rw[Tap]at lG;exact fT (ai (om:¬((g.ops.length:Int)<g.ops.length)) (Zgk ⟨hs,Bz,xy,BG,lG⟩))):G3:=h
def m63(h:G3:=by
 refine sm ?_;exact⟨hB.pin rfl,⟨(λ_=>(a,cap),.sl [],.sl [],.sl []),by simp[jy,gs],by simp[lc,gm,nR_0]⟩,PG.pin (by intro j h1 h2 x;rcases j with _|_|_|_|_|_|_|_|_|j<;>first|rfl|exact absurd rfl h1|exact absurd (by decide) h2)⟩):G3:=h
def yV(h:G3:=by
 refine gG ?_;exact⟨i+1,am,gw,gw,om⟩):G3:=h
def m46(b:G5)(h:Bx G5->G4:=by
 intro B0
 have q1:(i:Int)<g.ops.length:=om;obtain⟨o,ho⟩:∃o,g.ops[i]?=some o:=⟨_,Taa am⟩;have nz:=Tac ho;have hw:=bW (k:=i) om;exact B0.o q1 o ho nz hw):G4:=h ⟨b⟩
def m33(h:G3:=by
 exact⟨hB.slot rfl,⟨(λ_=>(none,0),.sl [],.sl [],.sl []),by simp[jy,gs],by simp[lc]⟩,PG.slot (by intro j h1 h2 x;rcases j with _|_|_|_|_|_|_|_|_|j<;>first|rfl|exact absurd rfl h1|exact absurd (by decide) h2)⟩):G3:=h
def jy(s:Srt)(f:(Nat->BY×Nat)×C×C×C):Nat->d3
 |0=>[(20,.d (.agg (gt s)))]
 |1=>[(21,GY (.sl (nR (up s))))]
 |2=>[(22,GU s.O.length)]
 |3=>[(23,GY (.A (.slice (f.1 23).1 s.O.length (f.1 23).2)))]
 |4=>[(24,GU s.O.length)]
 |5=>[(25,GY (.A (.slice (f.1 25).1 s.O.length (f.1 25).2)))]
 |6=>[(26,.d (.agg [.sl (nR (up s)),.A (.slice (f.1 23).1 s.O.length (f.1 23).2),.A (.slice (f.1 25).1 s.O.length (f.1 25).2)]))]
 |7=>[(5,.ref 5 0)]
 |8=>[(5,.ref 5 0)]
 |_=>[]
def lc(s:Srt)(f:(Nat->BY×Nat)×C×C×C):Nat->it
 |3=>[(23,.Υ (some (f.1 23)) 3 1 (nR (List.replicate s.O.length 0)))]
 |5=>[(25,.Υ (some (f.1 25)) 3 1 (nR (List.replicate s.O.length 0)))]
 |6=>[(23,.Υ (some (f.1 23)) 3 1 (nR (List.replicate s.O.length 0))),(25,.Υ (some (f.1 25)) 3 1 (nR (List.replicate s.O.length 0)))]
 |7=>[(5,.var none [f.2.1,f.2.2.1,f.2.2.2])]
 |8=>[(5,.var none [.sl (nR (up s)),.A (.slice (f.1 23).1 s.O.length (f.1 23).2),.A (.slice (f.1 25).1 s.O.length (f.1 25).2)]),(23,.Υ (some (f.1 23)) 3 1 (nR (List.replicate s.O.length 0))),(25,.Υ (some (f.1 25)) 3 1 (nR (List.replicate s.O.length 0)))]
 |_=>[]
def ZI7:(∀(u l:GN),downs u 0 l=l)/\∀n,ue n 0=List.replicate n 0:=⟨λ_ _=>rfl,λn=>by simp[ue]⟩
def ZIx(i:Nat)(l:GN):downIn i l []=l:=rfl
def ZCm{ks:GN}{j:Nat}(h:ks[j]?=some k)(i:Nat)(l:GN):downIn i l (ks.take (j+1))=(downIn i l (ks.take j)).set k ((downIn i l (ks.take j)).getD k 0 ||| 2 ^ i):=ZjZ h l
def ZoM(s:Srt):d3:=[(1,.ref 1 0),(2,.ref 2 0),(3,GX false),(4,GU s.O.length)]
def Zsg(s:Srt):it:=[(1,.var none (gt s)),(2,.var none [.sl [],.sl [],.sl []])]
def ordB(s:Srt)(σ:St):Prop:=dy (ZoM s) (Zsg s) σ
section
variable{s:Srt}
def ZnA(aq:Zou s)(hs:¬SortsOk s):aI e0 60 [.agg (gt s)] [.agg [.sl [],.sl [],.sl []],GW false]:=by
 have cI:=ZkQ aq;rw[Zhi hs,gt]at cI;rw[gt];refine gI (ts:=[.cell 2 116,.slot 3]) 569543224310601128703 Tryz.func60 ?_;refine eH @aJ @aJ (cI) ?_;exact iF @aJ @aJ
def Zlt(aq:Zou s)(hs:SortsOk s):aI e0 60 [.agg (gt s)] [.agg (wR s),GW true]:=by
 have cI:=ZkQ aq;have uV:=SortsOk.subsIn hs.Ψ;have cA:=ZkP hs.n1 hs.n8 hs.m16 uV;rw[E7 hs]at cI;rw[gt]at cI⊢;refine gI (ts:=[.cell 2 116,.slot 3]) 569543224310601128703 Tryz.func60 ?_;refine ce @aJ @aJ (cI) @aJ ?_;refine fN 4 @aJ ?_;have c8:((s.O.length:Int)<=al)=True:=eq_true (by have:=hs.n8;unfold al;omega);refine gGd (ordB s) (PG (jy s) (lc s)) ⟨by simp[ZoM,gs],by simp[Zsg,gm,gt]⟩ ⟨?_,?_,?_,?_,?_,?_,?_,?_,?_,trivial⟩ ?_
 rotate_right
 all_goals (intro s' m' hB)
 all_goals (have g1:gs s' 1=.ref 1 0:=hB.1 (1,.ref 1 0) (by simp[ZoM]))
 all_goals (have g4:gs s' 4=GU s.O.length:=hB.1 (4,_) (by simp[ZoM]))
 all_goals (have k1:gm m' 1=some (.var none [.sl (s.O.map vR),.sl (s.Ψ.map wN)]):=hB.2 (1,_) (by simp[Zsg,gt]))
 ·intro hP;clear g1 g4 k1;obtain⟨f,h⟩:=hP 8 (by decide);refine⟨_,_,h.app hB,?_⟩;generalize hp:f.1 23=p;generalize hq:f.1 25=q;obtain⟨a3,c3⟩:=p;obtain⟨a5,c5⟩:=q;simp only[jy,lc,ZoM,Zsg,Taf,Tah,gt,hp,hq];clear hp hq h hB hP s' m' f;refine⟨_,Wk.refl _,?_⟩;have hU:=rA uV;have lU:=gH (l:=up s);rw[hU.1]at lU;have h8:=hs.n8;have rU:=iS (l:=up s);refine fN 5 @aJ ?_;have fI:=hs.n1;have l00:0<(nR (List.replicate s.O.length 0)).length:=by rw[gH,List.length_replicate];omega
  refine pA 23 25 (λaP=>?_) l00 l00;have hn5:∀p,(a5=a3/\p)=False:=λp=>eq_false λe=>aP e.1.symm;refine fG @lU ?_;have F:=@ZI7;refine gL (ι:=Nat) [6,7,9,30,31,36,37,38,39] [23,25] (λi=>[(30,GU i)]) (λi=>[(23,.Υ (some (a3,c3)) 3 1 (nR (downs (up s) i (List.replicate s.O.length 0)))),(25,.Υ (some (a5,c5)) 3 1 (nR (ue s.O.length i)))]) (λi=>i<=s.O.length) (λi=>s.O.length-i) (0) (Taj _) (λi hi=>?_)
  have hDi:=bq.downs hU i (l:=List.replicate s.O.length 0) hi (bq.zeros _);have lK:=gH (l:=ue s.O.length i);rw[ZqD hi]at lK;by_cases am:i<s.O.length
  ·have q1:(i:Int)<s.O.length:=om;have hw:=bW (k:=i) om;obtain⟨gi,bi⟩:=hU.get am;have p256:2 ^ s.O.length<=256:=Tbe (Tbt om h8) (by decide);have ep:downs (up s) (i+1) (List.replicate s.O.length 0)=downIn i (downs (up s) i (List.replicate s.O.length 0)) (cj ((up s).getD i 0)):=rfl;have uo:=Zlm bi;have lks:=gH (l:=cj ((up s).getD i 0))
   have rks:=iS (l:=cj ((up s).getD i 0));have hks16:(cj ((up s).getD i 0)).length<=64:=Tbe (A6 _ _) (by decide);have wu:=vY (k:=i) om;refine ce (aj4 @q1 @lU (gN gi) @rU) @aJ ((Zhu (a:=(up s).getD i 0) om)) @lks ?_;generalize cj ((up s).getD i 0)=ks at ep uo lks rks hks16⊢;generalize downs (up s) i (List.replicate s.O.length 0)=l at ep hDi⊢;refine fG @lks ?_;have F:=@ZIx;refine gL (ι:=Nat) [9,38,39] [23] (λj=>[(38,GU j)]) (λj=>[(23,.Υ (some (a3,c3)) 3 1 (nR (downIn i l (ks.take j))))]) (λj=>j<=ks.length) (λj=>ks.length-j) (0) (Taj _) (λj hj=>?_)
   by_cases pj:j<ks.length
   ·have q2:(j:Int)<ks.length:=om;have qE:=bW (k:=j) om;obtain⟨k,hk⟩:∃k,ks[j]?=some k:=⟨_,Taa pj⟩;have qX:=uo k (Tac hk);have r2:=gN hk;have aZ:=ZCm hk i l;have hV:=bq.downIn am hDi (ks:=ks.take j) λq hq=>uo q (List.mem_of_mem_take hq);generalize downIn i l (ks.take j)=v at aZ hV⊢;obtain⟨gk,bk⟩:=hV.get qX;have r3:=gN gk;have l3:=gH (l:=v);rw[hV.1]at l3;have p2:2 ^ i<4611686018427387904:=Zia om;have F:=aj14 @q2 @r2 @rks @lks @r3 @l3 (iS (l:=v)) (Bi (l:=v) k (v.getD k 0 ||| 2 ^ i)) @wu (zp (a:=v.getD k 0) (b:=2 ^ i) om p2) @qX @bw @qE @aZ;refine gG ?_;exact⟨j+1,pj,gw,gw,om⟩
   obtain rfl:j=ks.length:=by omega
   have q2:¬((ks.length:Int)<ks.length):=om;rw[Tap,<- ep];have l6:=iS (l:=ue s.O.length i);have l7:=Bi (l:=ue s.O.length i) i i;rw[ZCb am]at l7;obtain⟨y,gy⟩:∃y,(ue s.O.length i)[i]?=some y:=⟨_,Taa (by rw[ZqD hi];exact am)⟩;have F:=aj9 @q2 @hn5 @lK @l6 @l7 (gN gy) @am @hw @bw;exact yV
  obtain rfl:i=s.O.length:=by omega
  have q1:¬((s.O.length:Int)<s.O.length):=om;rw[ZCc,show downs (up s) s.O.length (List.replicate s.O.length 0)=down s from rfl];clear hDi lK;have hK:=i9.start s.O.length;refine fG @q1 ?_;have F:=@oz.eq_1;refine gL (ι:=Nat) [11,12,62,63,65,66,67,68] [25] (λj=>[(62,GU j)]) (λj=>[(25,.Υ (some (a5,c5)) 3 1 (nR (oz s.Ψ j (List.range s.O.length))))]) (λj=>j<=s.O.length) (λj=>s.O.length-j) (0) (Taj _) (λj hj=>?_)
  have hKj:=i9.iter uV j hK;have l0:=gH (l:=oz s.Ψ j (List.range s.O.length));rw[hKj.1]at l0;by_cases pj:j<s.O.length;rotate_left
  ·obtain rfl:j=s.O.length:=by omega
   rw[show oz s.Ψ s.O.length (List.range s.O.length)=kinds s from rfl];refine fN 25 (om:¬((s.O.length:Int)<s.O.length)) ?_;have lD:=gH (l:=down s);rw[(Zjy uV).1]at lD;have lK:=gH (l:=kinds s);rw[(Zj0 uV).1]at lK;refine pD 23 [] [5] ?_ (hr:=by simp only[pz,↓reduceIte,Nat.reduceEqDiff,Nat.reduceAdd,Nat.reduceSub,Nat.reduceMul,Nat.reduceLeDiff,Nat.reduceBEq,Tam,decide_true,decide_false,Int.reduceLE,Int.reduceToNat,Int.reduceLT,Int.reduceEq,eq_self,Nat.reduceShiftRight,Nat.reduceAnd,Nat.reduceBneDiff,lD,hn5,if_false];exact rfl)
   refine pD 25 [] [5] ?_ (hr:=by simp only[pz,↓reduceIte,Nat.reduceEqDiff,Nat.reduceAdd,Nat.reduceSub,Nat.reduceMul,Nat.reduceLeDiff,Nat.reduceBEq,Tam,decide_true,decide_false,Int.reduceLE,Int.reduceToNat,Int.reduceLT,Int.reduceEq,eq_self,Nat.reduceShiftRight,Nat.reduceAnd,Nat.reduceBneDiff,lK,hn5,if_false];exact rfl);exact fD @Zj3
  refine AG λq2 qE=>?_;have jk:oz s.Ψ (j+1) (List.range s.O.length)=s.Ψ.foldl fd (oz s.Ψ j (List.range s.O.length)):=rfl;generalize oz s.Ψ j (List.range s.O.length)=u at hKj jk l0⊢;refine fG (ai @l0 @q2) ?_;have hm16:=hs.m16;have F:=@ZCg;refine gL (ι:=Nat) [11,12,67,68] [25] (λi=>[(67,GU i)]) (λi=>[(25,.Υ (some (a5,c5)) 3 1 (nR ((s.Ψ.take i).foldl fd u)))]) (λi=>i<=s.Ψ.length) (λi=>s.Ψ.length-i) (0) (Taj _) (λi hi=>?_)
  by_cases BM:i<s.Ψ.length;rotate_left
  ·exact m104
  have q3:(i:Int)<s.Ψ.length:=om;have fV:=bW (k:=i) om;obtain⟨p,hp⟩:∃p,s.Ψ[i]?=some p:=⟨_,Taa BM⟩;have yT:=uV p (Tac hp);have aZ:=ZqG hp u;have qR:=i9.foldl hKj (uV.take i);generalize (s.Ψ.take i).foldl fd u=v at qR aZ⊢;obtain⟨g1,b1⟩:=qR.get (i:=p.1.toNat) om;obtain⟨g2,b2⟩:=qR.get (i:=p.2.toNat) om;have l1:=gN g1;have l2:=gN g2;have l3:=gH (l:=v);rw[qR.1]at l3
  have l4:=iS (l:=v);have Am:(if(v.getD p.2.toNat 0:Int)<(v.getD p.1.toNat 0:Int)then(v.getD p.2.toNat 0:Int)else(v.getD p.1.toNat 0:Int))=((min (v.getD p.1.toNat 0) (v.getD p.2.toNat 0):Nat):Int):=by
   split<;>omega
  generalize hmn:min (v.getD p.1.toNat 0) (v.getD p.2.toNat 0)=mn at Am aZ;have l5:=Bi (l:=v) p.1.toNat mn;have l6:=Bi (l:=v.set p.1.toNat mn) p.2.toNat mn;have l7:=gH (l:=v.set p.1.toNat mn);rw[Taz,qR.1]at l7;have l8:=iS (l:=v.set p.1.toNat mn);obtain⟨x9,g9⟩:∃x,(v.set p.1.toNat mn)[p.2.toNat]?=some x:=⟨_,Taa (by rw[Taz,qR.1];omega)⟩;have i1:0<=p.1:=yT.1;have i2:0<=p.2:=yT.2.2.1
  have aZ:(s.Ψ.take (i+1)).foldl fd u=(v.set p.1.toNat mn).set p.2.toNat mn:=by rw[aZ];unfold fd;rw[hmn]
  have F:=aj16 @q3 @hp @uG @hn5 @l1 @l2 @l3 @l4 @l5 @l6 @l7 @l8 (gN g9) @i1 @i2 (aj5 (om:p.1.toNat<s.O.length) (om:p.2.toNat<s.O.length) @Am @fV @aZ);refine gG ?_;exact⟨i+1,BM,gw,gw,om⟩
 ·intro _;refine(have F:=ai g1 k1;ip ?_);exact⟨hB.slot rfl,⟨(λ_=>(none,0),.sl [],.sl [],.sl []),by simp[jy,gs,gt],by simp[lc]⟩,PG.slot (by intro j h1 h2 x;rcases j with _|_|_|_|_|_|_|_|_|j<;>first|rfl|exact absurd rfl h1|exact absurd (by decide) h2)⟩
 ·intro hP;obtain⟨f,h0,_⟩:=hP 0 (by decide);have g20:gs s' 20=.d (.agg (gt s)):=h0 (_,_) (by simp[jy]);refine(have F:=g20;gC cA ?_);refine sm ?_;exact m33
 ·intro _;refine(have F:=g4;ip ?_);exact m33
 ·intro hP;obtain⟨f,h0,_⟩:=hP 2 (by decide);have g22:gs s' 22=GU s.O.length:=h0 (_,_) (by simp[jy]);refine(have F:=aj4 g22 c8 @Tbz @ZpT;gP 1 ?_);refine gS 23 λa cap=>?_;exact m63
 ·intro _;refine(have F:=g4;ip ?_);exact m33
 ·intro hP;obtain⟨f,h0,_⟩:=hP 4 (by decide);have g24:gs s' 24=GU s.O.length:=h0 (_,_) (by simp[jy]);refine(have F:=aj4 g24 c8 @Tbz @ZpT;gP 1 ?_);refine gS 25 λa cap=>?_;exact m63
 ·intro hP;obtain⟨f1,h1,_⟩:=hP 1 (by decide);obtain⟨f3,h3,tt⟩:=hP 3 (by decide);obtain⟨f5,h5,h5'⟩:=hP 5 (by decide);have g21:gs s' 21=GY (.sl (nR (up s))):=h1 (_,_) (by simp[jy]);have g23:gs s' 23=GY (.A (.slice (f3.1 23).1 s.O.length (f3.1 23).2)):=h3 (_,_) (by simp[jy]);have g25:gs s' 25=GY (.A (.slice (f5.1 25).1 s.O.length (f5.1 25).2)):=h5 (_,_) (by simp[jy])
  have k23:=tt (23,_) (by simp[lc];rfl);have k25:=h5' (25,_) (by simp[lc];rfl);refine(have F:=aj3 g21 g23 g25;ip ?_);exact⟨hB.slot rfl,⟨(λk=>if k=23 then f3.1 23 else f5.1 25,.sl [],.sl [],.sl []),by simp[jy,gs],by simp[lc];exact⟨k23,k25⟩⟩,PG.slot (by intro j h1 h2 x;rcases j with _|_|_|_|_|_|_|_|_|j<;>first|rfl|exact absurd rfl h1|exact absurd (by decide) h2)⟩
 ·intro _;refine(have F:=g4;ip ?_);exact⟨hB.born rfl,⟨(λ_=>(none,0),.sl [],.sl [],.sl []),by simp[jy,gs],by simp[lc,gm]⟩,PG.born (by intro j h1 h2 x;rcases j with _|_|_|_|_|_|_|_|_|j<;>first|rfl|exact absurd rfl h1|exact absurd (by decide) h2)⟩
 ·intro hP;obtain⟨f6,h6,h6'⟩:=hP 6 (by decide);obtain⟨f7,h7,h7'⟩:=hP 7 (by decide);have g26:gs s' 26=.d (.agg [.sl (nR (up s)),.A (.slice (f6.1 23).1 s.O.length (f6.1 23).2),.A (.slice (f6.1 25).1 s.O.length (f6.1 25).2)]):=h6 (_,_) (by simp[jy]);have g5:gs s' 5=.ref 5 0:=h7 (_,_) (by simp[jy]);have k5:gm m' 5=some (.var none [f7.2.1,f7.2.2.1,f7.2.2.2]):=h7' (_,_) (by simp[lc])
  have k23:=h6' (23,_) (by simp[lc];rfl);have k25:=h6' (25,_) (by simp[lc];rfl);refine(have F:=aj3 g26 g5 k5;ip ?_);refine⟨hB.own rfl,⟨f6,by simp[jy,g5],by simp[lc,gm,gq];exact⟨k23,k25⟩⟩,?_⟩;intro j q1 q2 ⟨x,q⟩;rcases j with _|_|_|_|_|_|_|_|_|j
  all_goals first
   |exact⟨x,q.own rfl⟩
   |exact absurd rfl q1
   |exact⟨(λ_=>(none,0),.sl (nR (up s)),.A (.slice (f6.1 23).1 s.O.length (f6.1 23).2),.A (.slice (f6.1 25).1 s.O.length (f6.1 25).2)),by simp[jy,g5],by simp[lc,gm]⟩
end
section
variable{g:Sgn}
def Zvd{o:Opr}(h:g.ops[k]?=some o):sB (nh (g.ops.take k))++[(o.name,.bool true)]=sB (nh (g.ops.take (k+1))):=by
 rw[Zlp h,sB,sB,Tbw];rfl
def Zve{l:List Opr}{i m:Nat}(h:i=k+m){s:ByteArray}(hs:jJ (nh (l.take k)) s):jJ (nh (l.take i)) s:=by
 subst h;rw[List.take_add,nh,Tbw];unfold jJ at hs⊢;rw[List.any_append];rw[nh]at hs;rw[hs,Bool.true_or]
def ZEK(l:List Opr):sB (nh (l.take 0))=[]/\sB (nh [])=[]:=⟨rfl,rfl⟩
def Zje (hg:kL g):aI e0 59 [.agg (ck g)] [GW (oS g)]:=by
 have bT:¬SgnOk g->oS g=false:=Zjc;rw[ck];refine gI 9358620764179268287 Tryz.func59 ?_;by_cases hs:SortsOk g.V;rotate_left
 ·have cO:=ZnA hg.1 hs;have hf:=bT λh=>hs h.V;rw[gt]at cO;refine eH @aJ @aJ (cO) ?_;exact dM @aJ @hf
 have cO:=Zlt hg.1 hs;rw[gt]at cO;refine ce @aJ @aJ (cO) @Zj3 ?_;by_cases Bz:g.ops.length<=14;rotate_left
 ·have hf:=bT λh=>Bz h.len;exact fT (ai (lT 14 g.ops.length) @hf)
 refine kQ 4 (lF 14 g.ops.length) ?_;refine gMk λb=>?_;refine ec @aJ @aJ ?_;have F:=((ZEK g.ops));refine gL (ι:=Nat) [2,7,28,29,47] [24] (λi=>[(28,GU i)]) (λi=>[(24,ff b (sB (nh (g.ops.take i))))]) (λi=>i<=g.ops.length/\(∀(j:Nat)(o:Opr),j<i->g.ops[j]?=some o->jc o.name/\jJ (nh (g.ops.take j)) o.name=false)/\(∀o∈g.ops.take i,DeclsOk g.V o)) (λi=>g.ops.length-i) (0) (⟨Taj _,λj o h=>absurd h om,λo h=>by simp at h⟩) (λi hi=>?_)
 obtain⟨e7,nQ,BG⟩:=hi;by_cases am:i<g.ops.length
 ·refine m46 λq1 o ho nz hw=>?_;have jM:=ZoE (nh (g.ops.take i)) o.name;refine m112 λdv rJ=>?_
  have cN:=Zid (hg.2 o nz).1;have cD:=ZrF hs o;rw[nH,wR]at cD;refine dC 8 (aj3 @q1 @ho @cz) 3 @aJ ?_
  cases hh:jJ (nh (g.ops.take i)) o.name with
  |true =>
   rw[hh]at jM dv;have hf:=dv λh=>by cases h.2
   refine(have F:=aJ;gLk 24 Fs yy Zmq (v:=.bool true) (by rw[jM];rfl) ?_);exact dM @aJ @hf
  |false =>
  rw[hh]at jM dv;refine(have F:=aJ;gLk 24 Fs yy Zmq (v:=.bool false) (by rw[jM];rfl) ?_);refine fC @aJ (cN) ?_
  cases hn:jc o.name with
  |false =>
   have hf:=dv λh=>by rw[hn]at h;cases h.1
   exact dM @aJ @hf
  |true =>
  refine fC @Zj3 (cD) ?_
  cases hd:sV g.V o with
  |false =>
   exact dM @aJ (rJ hd)
  |true =>
  have hq:i+1<=g.ops.length/\(∀(j:Nat)(o:Opr),j<i+1->g.ops[j]?=some o->jc o.name/\jJ (nh (g.ops.take j)) o.name=false)/\(∀o∈g.ops.take (i+1),DeclsOk g.V o):=⟨am,λj o' hj cr=>by
   by_cases e:j=i
   ·subst e;rw[ho]at cr;injection cr with cr
    subst cr;exact⟨hn,hh⟩
   ·exact nQ j o' om cr,λo' cr=>by
   rw[vF ho]at cr;rcases Tbi.1 cr with h|h
   ·exact BG o' h
   ·rw[Tbk.1 h];exact ZmW.1 hd⟩
  have qZ:=Zvd ho;refine fR @aJ ?_;refine dC 10 @aJ 3 @aJ ?_;refine(have F:=aJ;gUp 24 Fs yy (by rw[jM];rfl) ?_);rw[qZ];refine fR @aJ ?_;have F:=@hw;refine gG ?_;exact⟨i+1,hq,gw,gw,om⟩
 obtain rfl:i=g.ops.length:=by omega
 have q1:¬((g.ops.length:Int)<g.ops.length):=om;rw[Tap]at BG;have xy:∀(i:Nat)(o:Opr),g.ops[i]?=some o->jc o.name/\jJ (nh (g.ops.take i)) o.name=false:=λi o ho=>nQ i o (Tad.1 ho).1 ho;refine fG @q1 ?_;have F:=@aJ;refine gL (ι:=Nat) [2,9,55,56,63] [] (λk=>[(55,GU k)]) (λk=>[]) (λk=>k<=g.ops.length/\∀o∈g.ops.take k,AxOk g o) (λk=>g.ops.length-k) (0) (⟨Taj _,λo h=>by simp at h⟩) (λk hk=>?_)
 obtain⟨jF,lG⟩:=hk;by_cases mR:k<g.ops.length;rotate_left
 ·exact m109
 have q2:(k:Int)<g.ops.length:=om;obtain⟨o,ho⟩:∃o,g.ops[k]?=some o:=⟨_,Taa mR⟩;have nz:=Tac ho;have hw:=bW (k:=k) om;have cA:=ZpU hs BG nz Bz;rw[nH,wR,ck]at cA;refine eH (aj3 @q2 @ho @cz) @Zj3 (cA) ?_
 cases ha:jL g o with
 |false =>
  exact m203
 |true =>
 have hq:k+1<=g.ops.length/\∀o∈g.ops.take (k+1),AxOk g o:=⟨mR,λo' cr=>by
  rw[vF ho]at cr;rcases Tbi.1 cr with h|h
  ·exact lG o' h
  ·rw[Tbk.1 h];exact Zs7.1 ha⟩
 refine fR @aJ ?_;have F:=@hw;refine gG ?_;exact⟨k+1,hq,gw,gw,om⟩
def ZmY (hg:kL g):aI e0 49 [.agg (ck g)] [GW (oS g)]:=by
 have bT:¬SgnOk g->oS g=false:=Zjc;have cS:=Zhj hg.1;rw[gt]at cS;rw[ck];refine gI 599807422667317870655 Tryz.func49 ?_;refine eH @aJ @aJ (cS) ?_
 cases kZ:qj g.V with
 |false =>
  have hf:=bT λh=>by rw[E7 h.V]at kZ;cases kZ
  exact dM @aJ @hf
 |true =>
 have hs:=Zu7.1 kZ;by_cases Bz:g.ops.length<=14;rotate_left
 ·have hf:=bT λh=>Bz h.len;exact dM (lT 14 g.ops.length) @hf
 refine ec (lF 14 g.ops.length) @aJ ?_;have F:=@aJ;refine gL (ι:=Nat) [2,3,4,20,40,43,58] [] (λi=>[(3,GU i)]) (λi=>[]) (λi=>i<=g.ops.length/\(∀(j:Nat)(o:Opr),j<i->g.ops[j]?=some o->jc o.name/\jJ (nh (g.ops.take j)) o.name=false)/\(∀o∈g.ops.take i,DeclsOk g.V o)) (λi=>g.ops.length-i) (0) (⟨Taj _,λj o h=>absurd h om,λo h=>by simp at h⟩) (λi hi=>?_)
 obtain⟨e7,nQ,BG⟩:=hi;by_cases am:i<g.ops.length
 ·refine m46 λq1 o ho nz hw=>?_;refine m112 λdv rJ=>?_
  have cN:=Zie (hg.2 o nz).1;have cD:=Zvc (g:=g) hs o;rw[nH,ck]at cD;refine eH @q1 (ai @ho @cz) (cN) ?_
  cases hn:jc o.name with
  |false =>
   have hf:=dv λh=>by rw[hn]at h;cases h.1
   exact dM @aJ @hf
  |true =>
  refine fC (ai @ho @cz) (cD) ?_
  cases hd:sV g.V o with
  |false =>
   exact dM @aJ (rJ hd)
  |true =>
  refine ec @aJ @aJ ?_;have F:=@aJ;refine gL (ι:=Nat) [2,4,43,58] [] (λk=>[(4,GU k)]) (λk=>[]) (λk=>k<=i/\jJ (nh (g.ops.take k)) o.name=false) (λk=>i-k) (0) (⟨Taj _,rfl⟩) (λk hk=>?_);obtain⟨jF,BS⟩:=hk;by_cases mR:k<i
  ·have q2:(k:Int)<i:=om;obtain⟨p,hp⟩:∃o,g.ops[k]?=some o:=⟨_,Taa om⟩;have Ay:=bW (k:=k) om;have qZ:=Zu9 (nh (g.ops.take k)) p.name o.name;rw[BS,Bool.false_or,Zxj,<- Zlp hp]at qZ
   cases hb:(p.name.toList==o.name.toList)with
   | true =>
    rw[hb]at qZ;have hbp:(p.name.toList==o.name.toList):=hb;have hf:=dv λh=>by
     obtain⟨m,hm⟩:∃m,i=k+1+m:=⟨i-(k+1),om⟩;have h2:=h.2;rw[Zve hm qZ]at h2
     cases h2
    exact fT (aj6 @q2 @ho @hp @cz @hb @hf)
   |false =>
    rw[hb]at qZ;have F:=aj6 @q2 @ho @hp @cz @hb @Ay;refine gG ?_;exact⟨k+1,⟨mR,qZ⟩,gw,gw,om⟩
  obtain rfl:k=i:=by omega
  have hq:k+1<=g.ops.length/\(∀(j:Nat)(o:Opr),j<k+1->g.ops[j]?=some o->jc o.name/\jJ (nh (g.ops.take j)) o.name=false)/\(∀o∈g.ops.take (k+1),DeclsOk g.V o):=⟨am,λj o' hj cr=>by
   by_cases e:j=k
   ·subst e;rw[ho]at cr;injection cr with cr
    subst cr;exact⟨hn,BS⟩
   ·exact nQ j o' om cr,λo' cr=>by
   rw[vF ho]at cr;rcases Tbi.1 cr with h|h
   ·exact BG o' h
   ·rw[Tbk.1 h];exact ZmW.1 hd⟩
  have F:=ai (lF k k) @hw;refine gG ?_;exact⟨k+1,hq,gw,gw,om⟩
 obtain rfl:i=g.ops.length:=by omega
 have q1:¬((g.ops.length:Int)<g.ops.length):=om;rw[Tap]at BG;have xy:∀(i:Nat)(o:Opr),g.ops[i]?=some o->jc o.name/\jJ (nh (g.ops.take i)) o.name=false:=λi o ho=>nQ i o (Tad.1 ho).1 ho;refine fG @q1 ?_;have F:=@aJ;refine gL (ι:=Nat) [2,5,63,69] [] (λk=>[(5,GU k)]) (λk=>[]) (λk=>k<=g.ops.length/\∀o∈g.ops.take k,AxOk g o) (λk=>g.ops.length-k) (0) (⟨Taj _,λo h=>by simp at h⟩) (λk hk=>?_)
 obtain⟨jF,lG⟩:=hk;by_cases mR:k<g.ops.length;rotate_left
 ·exact m109
 have q2:(k:Int)<g.ops.length:=om;obtain⟨o,ho⟩:∃o,g.ops[k]?=some o:=⟨_,Taa mR⟩;have nz:=Tac ho;have hw:=bW (k:=k) om;have cA:=Zte hs BG ho Bz;rw[ck]at cA;refine eH @q2 @aJ (cA) ?_
 cases ha:jL g o with
 |false =>
  exact m203
 |true =>
 have hq:k+1<=g.ops.length/\∀o∈g.ops.take (k+1),AxOk g o:=⟨mR,λo' cr=>by
  rw[vF ho]at cr;rcases Tbi.1 cr with h|h
  ·exact lG o' h
  ·rw[Tbk.1 h];exact Zs7.1 ha⟩
 refine fR @aJ ?_;have F:=@hw;refine gG ?_;exact⟨k+1,hq,gw,gw,om⟩
end
def m209(h:G3:=by
 exact fT (aj11 @lu @h0 @ho @cz @ha @hd @jD @hk @k0 @cl @iM)):G3:=h
def xR(b:G5)(h:Bx G5->G4:=by
 intro B0
 have lG:=hg.axs o (Tac ho);have d4:=lG.lo;have lm:=lG.hi;exact B0.o lG d4 lm):G4:=h ⟨b⟩
def zw(s:ByteArray):(s.toList==ByteArray.toList { data:=#[] })=decide (s=ByteArray.empty):=by
 rw[Bool.eq_iff_iff,beq_iff_eq,decide_eq_true_iff,ByteArray.toList_eq,ByteArray.toList_eq];constructor
 ·intro h
  cases s with
  |mk d =>
   have:d=#[]:=by apply Array.toList_inj.1;exact h
   rw[this];rfl
 ·rintro rfl;rfl
def bx(g:Sgn)(mc:C):we:=[.sl ((mr (up g.V)).map ij),.sl ((mr (down g.V)).map ij),.sl ((mr (kinds g.V)).map ij),.sl (g.V.O.map vR),.sl (g.V.Ψ.map wN),.sl (g.ops.map nH),mc]
def lu:∀(g:Sgn)(mc:C),bx g mc=[.sl ((mr (up g.V)).map ij),.sl ((mr (down g.V)).map ij),.sl ((mr (kinds g.V)).map ij),.sl (g.V.O.map vR),.sl (g.V.Ψ.map wN),.sl (g.ops.map nH),mc]:=λ_ _=>rfl
def Zth{s:Srt}(h:SortsOk s):(up s).length=s.O.length:=(rA (SortsOk.subsIn h.Ψ)).1
def CW{s:Srt}(h:SortsOk s){k:Int}(h0:0<=k)(h1:k<s.O.length):(mr (kinds s))[k.toNat]?=some ((kd s k:Nat):Int):=by
 have hk:=Zj0 (SortsOk.subsIn h.Ψ);have hl:k.toNat<(kinds s).length:=by rw[hk.1];omega
 unfold mr kd;rw[Tba,Taa hl];simp[List.getD,Taa hl]
def dp(g:Sgn)(t:Tm):Prop:=t.op=-1/\jc t.name/\0<=t.sort/\t.sort<g.V.O.length/\t.Y=[]
open Classical in
def CX(g:Sgn)(t:Tm):Bool:=decide (dp g t)
structure AppOk(g:Sgn)(t:Tm)(o:Opr)(d:Dcl):Prop where
 lo:0<=t.op
 at':g.ops[t.op.toNat]?=some o
 fst:o.Z[0]?=some d
 nm:t.name=ByteArray.empty
 so:t.sort=0
 asc:o.Θ->2<=t.Y.length/\t.Y.length<=7
 nas:o.Θ=false->t.Y.length=d.Y.length
def sy(g:Sgn)(t:Tm):Prop:=dp g t\/∃o d,AppOk g t o d
def Zyo(g:Sgn)(op:Int):Int:=((g.ops[op.toNat]?.bind (·.Z[0]?)).map (·.Β)).getD 0
def dS(g:Sgn)(t:Tm):Int:=if t.op=-1 then kd g.V t.sort else kd g.V (Zyo g t.op)
def eG(o:Opr)(i:Nat):Nat:=if o.Θ=true then 0 else i
def Zxq:∀(o:Opr)(i:Nat),eG o i=if o.Θ=true then 0 else i:=λ_ _=>rfl
structure ArgOk(g:Sgn)(op:Int)(o:Opr)(d:Dcl)(args:AI)(i:Nat)(a:Tm):Prop where
 kind:∀k,d.Y[eG o i]?=some k->dS g a=kd g.V k
 nest:o.Θ->a.op≠op
 Ω:o.Ω≠0->a.op≠o.Ω-1
 ord:o.comm->∀(j:Nat)p,i=j+1->args[j]?=some p->aU p a<=0
def Zjz(g:Sgn)(op:Int)(args:AI):Prop:=∀o d,g.ops[op.toNat]?=some o->o.Z[0]?=some d->∀(i:Nat)a,args[i]?=some a->ArgOk g op o d args i a
mutual
def e6(g:Sgn):Tm->Prop
 |.mk op nm so args=>sy g (.mk op nm so args)/\vK g args/\(op=-1\/Zjz g op args)
def vK(g:Sgn):AI->Prop
 |[]=>True
 |t::ts=>e6 g t/\vK g ts
end
def Zjf{g:Sgn}:vK g ts↔∀a∈ts,e6 g a:=by
 induction ts with
 |nil=>simp[vK]
 |cons t ts ih=>simp[vK,ih]
def mH{g:Sgn}{t:Tm}:e6 g t↔sy g t/\(∀a∈t.Y,e6 g a)/\(t.op=-1\/Zjz g t.op t.Y):=by
 cases t
 simp only[e6,Zjf,Tm.Y,Tm.op]
def e6.node{g:Sgn}{t:Tm}(h:e6 g t):sy g t:=(mH.1 h).1
open Classical in
def oy(g:Sgn)(t:Tm):Bool:=decide (e6 g t)
def ZgX{g:Sgn}{t:Tm}(h:e6 g t):oy g t:=by simp[oy,h]
def Zlu{g:Sgn}{t:Tm}(h:¬e6 g t):oy g t=false:=by simp[oy,h]
def ZoN{g:Sgn}{t:Tm}:oy g t=true↔e6 g t:=by simp[oy]
def SgnOk.first{g:Sgn}(h:SgnOk g){i:Nat}{o:Opr}(ho:g.ops[i]?=some o):∃d,o.Z[0]?=some d/\(0:Int)<=d.Β/\d.Β<(g.V.O.length:Int)/\∀k:Int,k∈d.Y->0<=k/\k<(g.V.O.length:Int):=by
 have hm:=Tac ho;obtain⟨d,hd,hD⟩:=(h.Z o hm).first;exact⟨d,hd,hD.Β.1,hD.Β.2,hD.Y⟩
def Zj5{g:Sgn}{op:Int}{o:Opr}{d:Dcl}(ho:g.ops[op.toNat]?=some o)(hd:o.Z[0]?=some d):Zyo g op=d.Β:=by simp[Zyo,ho,hd]
def AppOk.op{g:Sgn}{t:Tm}{o:Opr}{d:Dcl}(h:AppOk g t o d):t.op≠-1:=by have:=h.lo;omega
section
variable{g:Sgn}{mc:C}
def ZHt(hg:SgnOk g)(k:Int):aI e0 162 [.agg [.sl ((mr (up g.V)).map ij),.sl ((mr (down g.V)).map ij),.sl ((mr (kinds g.V)).map ij)],GT k] [GW (decide (0<=k/\k<g.V.O.length))]:=by
 have hl:=Zth hg.V;refine gI 23 Tryz.func162 ?_;by_cases h0:0<=k
 ·rw[(by simp[h0]:decide (0<=k/\k<(g.V.O.length:Int))=decide (k<(g.V.O.length:Int)))];exact fT (aj3 @h0 @ZqA @hl)
 ·rw[(by simp[h0]:decide (0<=k/\k<(g.V.O.length:Int))=false)];exact fT @h0
def Zhv(hg:SgnOk g){t:Tm}(ht:sy g t):aI e0 112 [.I (.ptr (bx g mc)),.agg (ax t)] [GT (dS g t)]:=by
 refine gI 155 Tryz.func112 ?_;rcases ht with⟨h1,h2,h3,h4,h5⟩|⟨o,d,h⟩
 ·exact fT (aj8 @ae @h1 (om:(-1:Int)<0) @lu @h3 (CW hg.V h3 h4) @iM (by simp[dS,h1]:dS g t=kd g.V t.sort))
 ·have hn:¬(t.op<0):=by have:=h.lo;omega
  obtain⟨d',dG,rV,tK,_⟩:=hg.first h.at';rw[h.fst]at dG;injection dG with dG
  subst dG;have d4:=h.lo;have lE:=h.at';have xu:=h.fst;exact fT (aj12 @ae @hn @lu @d4 @lE @cz @xu @jD @rV (CW hg.V rV tK) @iM (by simp[dS,h.op,Zj5 h.at' h.fst]:dS g t=kd g.V d.Β))
def ZmZ(hg:SgnOk g){op:Int}{i:Nat}{o:Opr}{d:Dcl}{k:Int}(h0:0<=op)(ho:g.ops[op.toNat]?=some o)(hd:o.Z[0]?=some d)(hk:d.Y[eG o i]?=some k):aI e0 113 [.I (.ptr (bx g mc)),GT op,GT i] [GT (kd g.V k)]:=by
 obtain⟨d',dG,_,_,iY⟩:=hg.first ho;rw[hd]at dG;injection dG with dG
 subst dG;obtain⟨k0,k1⟩:=iY k (Tac hk);have cl:=CW hg.V k0 k1;refine gI 131271 Tryz.func113 ?_;unfold eG at hk
 cases ha:o.Θ with
 |true =>
  rw[ha]at hk;simp only[↓reduceIte]at hk;exact m209
 |false =>
  rw[ha]at hk;simp only[Tam,↓reduceIte]at hk;exact m209
def ZoO(hg:SgnOk g){op:Int}{o:Opr}(h0:0<=op)(ho:g.ops[op.toNat]?=some o)(t:Tm):aI e0 114 [.I (.ptr (bx g mc)),GT op,.agg (ax t)] [GW (decide (o.Ω≠0/\t.op=o.Ω-1))]:=by
 refine xR λlG d4 lm=>?_;have kj:=hg.len;have hw:IntKind.i64.wrap (o.Ω-1)=o.Ω-1:=kJ rfl om om;refine gI 103 Tryz.func114 ?_;by_cases hu:o.Ω=0
 ·rw[(by simp[hu]:decide (o.Ω≠0/\t.op=o.Ω-1)=false)];exact fT (aj6 @lu @ae @h0 @ho @cz @hu)
 ·rw[(by simp[hu]:decide (o.Ω≠0/\t.op=o.Ω-1)=decide (t.op=o.Ω-1))];exact fT (aj7 @lu @ae @h0 @ho @cz @hu @hw)
def ZpW(hg:SgnOk g){t:Tm}(hs:t.name.size<=maxLen):aI e0 111 [.I (.ptr (bx g mc)),.agg (ax t)] [GW (CX g t)]:=by
 have bT:¬dp g t->CX g t=false:=λh=>by simp[CX,h]
 refine gI 27 Tryz.func111 ?_;refine fG @ae ?_;by_cases h1:t.op=-1;rotate_left
 ·have hf:=bT λh=>h1 h.1;exact fT (aj3 @ae @h1 @hf)
 refine gB ?_;refine fC (ai @ae @h1) (Zid hs) ?_;by_cases h2:jc t.name=true;rotate_left
 ·have hf:=bT λh=>h2 h.2.1;exact dM (ai @ae (by simpa using h2:jc t.name=false)) (ai @ae @hf)
 refine fC (aj3 @ae @h2 @lu) (ZHt hg t.sort) ?_;by_cases h3:0<=t.sort/\t.sort<g.V.O.length;rotate_left
 ·have hf:=bT λh=>h3 ⟨h.2.2.1,h.2.2.2.1⟩;exact dM (ai @ae (by simp only[decide_eq_false_iff_not];exact h3:decide (0<=t.sort/\t.sort<(g.V.O.length:Int))=false)) (ai @ae @hf)
 have tt:decide (0<=t.sort/\t.sort<(g.V.O.length:Int)):=by simp only[decide_eq_true_eq];exact h3
 by_cases h4:t.Y=[]
 ·exact dM (aj3 @ae @tt @h4) (ai @ae (by simp only[CX,decide_eq_true_eq];exact⟨h1,h2,h3.1,h3.2,h4⟩:CX g t))
 ·have hf:=bT λh=>h4 h.2.2.2.2;have h4':¬((t.Y.length:Int)=0):=by
   intro h;apply h4;apply Tao;omega
  exact dM (aj3 @ae @tt @h4') (ai @ae @hf)
end
def ZoP(P Q:GO)(n:Nat):db P n ||| db Q n=db (λb=>P b\/Q b) n :=
 FE (Nat.or_lt_two_pow (sx P n) (sx Q n)) λi hi=>by
  rw[Nat.testBit_or,Bool.or_eq_true,zu,zu];simp only[hi,true_and]
def ZnB{P:GO}(h:∀i,i<n->¬P i):db P n=0 :=
 (FE (Nat.pos_of_ne_zero (by have:=Nat.one_le_two_pow (n:=n);omega)) λi hi=>by
  rw[Nat.zero_testBit];exact⟨λe=>(by cases e),λe=>absurd e (h i hi)⟩).symm
def Zj6(h:v<2 ^ n):db (λb=>v.testBit b=true) n=v:=(FE h λi _=>Iff.rfl).symm
def dw(g:Sgn)(k:Int):Nat:=(up g.V).getD k.toNat 0
def yr{g:Sgn}(hs:SortsOk g.V){k:Int}(h0:0<=k)(h1:k<g.V.O.length):(up g.V)[k.toNat]?=some (dw g k)/\dw g k<2 ^ g.V.O.length :=
 (rA (SortsOk.subsIn hs.Ψ)).get om
def tc(g:Sgn)(o:Opr)(sets:GN)(b:Nat):Prop:=∃d∈o.Z,(∀(i:Nat)k s,d.Y[i]?=some k->sets[i]?=some s->s.testBit k.toNat)/\(dw g d.Β).testBit b=true
def uz(g:Sgn)(o:Opr)(a c b:Nat):Prop:=∃d∈o.Z,d.Y.map Int.toNat=[a,c]/\(dw g d.Β).testBit b=true
def sM(g:Sgn)(o:Opr)(sets:GN)(b:Nat):Prop:=tc g o sets b\/(o.comm/\tc g o sets.reverse b)
def Ca(g:Sgn)(o:Opr)(sets:GN)(b:Nat):Prop:=if o.Θ=true then(if o.comm=true then BagB (uz g o) sets (2 ^ sets.length-1) b else ChB (uz g o) sets 0 sets.length b)else sM g o sets b
def qr(g:Sgn)(o:Opr)(sets:GN):Nat:=db (Ca g o sets) g.V.O.length
mutual
def av(g:Sgn):Tm->Nat
 |.mk op _ so args=>if op=-1 then dw g so else match g.ops[op.toNat]? with
  |none=>0
  |some o=>qr g o (Zj7 g args)
def Zj7(g:Sgn):AI->GN
 |[]=>[]
 |t::ts=>av g t::Zj7 g ts
end
def Zlv(g:Sgn):∀(l:AI),Zj7 g l=l.map (av g)
 |[]=>rfl
 |t::ts=>by simp only[Zj7,Tbv,Zlv g ts]
def EY{g:Sgn}{t:Tm}(h:t.op=-1):av g t=dw g t.sort:=by
 obtain⟨op,nm,so,args⟩:=t;simp only[Tm.op]at h;simp only[av,if_pos h,Tm.sort]
def Zjg{g:Sgn}{t:Tm}{o:Opr}(h:t.op≠-1)(ho:g.ops[t.op.toNat]?=some o):av g t=qr g o (t.Y.map (av g)):=by
 obtain⟨op,nm,so,args⟩:=t;simp only[Tm.op]at h ho;simp only[av,if_neg h,ho,Tm.Y,Zlv]
def Zgn{g:Sgn}(hg:SgnOk g){t:Tm}(ht:sy g t):av g t<2 ^ g.V.O.length:=by
 rcases ht with hv|⟨o,d,hA⟩
 ·rw[EY hv.1];exact(yr hg.V hv.2.2.1 hv.2.2.2.1).2
 ·rw[Zjg hA.op hA.at'];exact sx _ _
def uz.lt{g:Sgn}(hg:SgnOk g){o:Opr}(ho:o∈g.ops){a c b:Nat}(h:uz g o a c b):b<g.V.O.length:=by
 obtain⟨d,hd,_,hb⟩:=h;have hD:=hg.Z o ho;obtain⟨f,hf,_⟩:=hD.first;have dG:=hD.all f hf d hd;exact Zlj (yr hg.V dG.Β.1 dG.Β.2).2 hb
def Zti{g:Sgn}{o:Opr}(h2:∀d∈o.Z,d.Y.length=2){s t b:Nat}:tc g o [s,t] b↔Two (uz g o) s t b:=by
 constructor
 ·rintro⟨d,hd,h1,hb⟩;obtain⟨x,y,Ea⟩:=Zln (h2 d hd);rw[Ea]at h1;exact⟨x.toNat,y.toNat,h1 0 x s rfl rfl,h1 1 y t rfl rfl,d,hd,by rw[Ea];rfl,hb⟩
 ·rintro⟨a,c,ha,hc,d,hd,he,hb⟩;obtain⟨x,y,Ea⟩:=Zln (h2 d hd);rw[Ea]at he;simp only[Tbv,List.map_nil,List.cons.injEq,and_true]at he;obtain⟨rfl,rfl⟩:=he;refine⟨d,hd,λi k u hk hu=>?_,hb⟩;rw[Ea]at hk
  match i,hk,hu with
  |0,hk,hu =>
   simp only[Tat,Taq]at hk hu;subst hk;subst hu;exact ha
  |1,hk,hu =>
   simp only[Tau,Tat,Taq]at hk hu;subst hk;subst hu;exact hc
  |i+2,hk,hu=>simp at hk
def Opr.deg2{g:Sgn}(hg:SgnOk g){i:Nat}{o:Opr}(ho:g.ops[i]?=some o)(h:o.Θ\/o.comm\/o.Ω≠0):∀d∈o.Z,d.Y.length=2:=by
 intro d hd;have hm:=Tac ho;have hD:=hg.Z o hm;obtain⟨f,hf,_⟩:=hD.first;rw[(hD.all f hf d hd).len];exact((hg.axs o hm).two h f hf).1
def ZHu{g:Sgn}(hg:SgnOk g){i:Nat}{o:Opr}(ho:g.ops[i]?=some o)(h:o.Θ->sets.length=2):db (sM g o sets) g.V.O.length=qr g o sets:=by
 unfold qr;refine yj λb _=>?_;unfold Ca
 cases ha:o.Θ with
 |false=>rw[if_neg (by simp)]
 | true =>
  rw[if_pos rfl];have h2:=Opr.deg2 hg ho (.inl ha);obtain⟨s,t,aZ⟩:∃s t,sets=[s,t]:=by
   match sets,h ha with
   |[s,t],_=>exact⟨s,t,rfl⟩
  subst aZ;unfold sM;simp only[List.reverse_cons,List.reverse_nil,Tah,List.singleton_append];rw[Zti h2,Zti h2]
  cases hc:o.comm with
  |false =>
   rw[if_neg (by simp)];simp only[Tag,Tak];rw[ZIu];simp
  |true =>
   rw[if_pos rfl];simp only[Tag,Tak];rw[show 2 ^ (0+1+1)-1=3 from rfl,ZHo];simp
def BagB.lt{R:Nat->Nat->Nat->Prop}(hs:∀s∈sets,s<2 ^ N)(hR:∀a c b,R a c b->b<N){m b:Nat}(h:BagB R sets m b):b<N:=by
 cases h with
 |leaf h1 h2=>exact Zlj (hs _ (Tac h1)) h2
 |node _ _ _ _ _ h=>exact hR _ _ _ h
def ChB.lt{R:Nat->Nat->Nat->Prop}(hs:∀s∈sets,s<2 ^ N)(hR:∀a c b,R a c b->b<N){i j b:Nat}(h:ChB R sets i j b):b<N:=by
 cases h with
 |leaf h1 h2=>exact Zlj (hs _ (Tac h1)) h2
 |node _ _ _ _ h=>exact hR _ _ _ h
def ZIy{R:Nat->Nat->Nat->Prop}{i s:Nat}(hs:sets[i]?=some s)(h:s<2 ^ N):db (ChB R sets i (i+1)) N=s:=by
 rw[show db (ChB R sets i (i+1)) N=db (λb=>s.testBit b=true) N from yj λb _=>Zjw hs,Zj6 h]
def m250(h:G3:=by
 have:c n<=n:=Tbe (List.length_filter_le _ _) (by simp);omega):G3:=h
def m246(b:G5)(h:Bx G5->G4:=by
 intro B0
 have hp:=wt p Tas;refine ih (hk.sub hp) (λq hq=>wt q (Tal _ hq)) (λq hq=>hi q (Tal _ hq)) λi j hb=>?_;exact B0.o hp i j hb):G4:=h ⟨b⟩
def m225(h:G3:=by
 show(List.filter _ _).length<=_;rw[d6 r];exact List.length_filter_le _ _):G3:=h
def m145(h:G3:=by
 rw[List.filter_filter];congr 1;funext x;by_cases h:R r x
 ·have:R (r+1) x:=h.imp λq h=>⟨om,h.2⟩;simp[h,this]
 ·simp[h]):G3:=h
def m122(h:G3:=by
 rcases ih with ih|⟨r',h1,h2⟩
 ·by_cases e:c (r+1)=c r
  ·exact .inr ⟨r,om,aZ r e⟩
  ·have:=cw r;exact .inl om
 ·exact .inr ⟨r',om,h2⟩):G3:=h
def m45(h:G3:=by
 have h1:(((List.range n).filter λx=>decide (R (r+1) x)).filter λx=>decide (R r x)).length=((List.range n).filter λx=>decide (R (r+1) x)).length:=by
  rw[<- d6 r];exact e.symm
 have h2:=List.length_filter_eq_length_iff.1 h1 x (by
  have aW:=hx;obtain⟨q,_,hq⟩:=aW;simp only[List.mem_filter,List.mem_range,decide_eq_true_eq];exact⟨am q x hq,hx⟩)
 simpa using h2):G3:=h
def m37(h:G3:=by
 induction k with
 | zero =>
  intro i j h;by_cases dD:i<s.O.length
  ·have e:(iL s.O.length).getD i 0=2 ^ i:=by simp[iL,List.getD,dD]
   simp only[pF]at h;rw[e,Nat.testBit_two_pow]at h;have:i=j:=by simpa using h
   subst this;exact⟨0,.start⟩
  ·have e:(iL s.O.length).getD i 0=0:=by simp[iL,List.getD,dD]
   simp only[pF]at h;rw[e]at h;simp at h
 |succ k ih=>exact BI (bq.iter hs k (bq.start _)) hs (λ_ h=>h) ih):G3:=h
def Adj(subs:List (Int×Int))(a b:Nat):Prop:=∃p∈subs,(a=p.1.toNat/\b=p.2.toNat)\/(a=p.2.toNat/\b=p.1.toNat)
inductive Walk(subs:List (Int×Int))(i:Nat):Nat->Nat->Prop
 |start:Walk subs i 0 i
 |next {r j k:Nat}:Walk subs i r j->Adj subs j k->Walk subs i (r+1) k
def Adj.symm{a b:Nat}:Adj subs a b->Adj subs b a:=λ⟨p,hp,h⟩=>⟨p,hp,h.elim (λh=>.inr ⟨h.2,h.1⟩) λh=>.inl ⟨h.2,h.1⟩⟩
def qg(subs:List (Int×Int))(i j:Nat):Prop:=∃r,Walk subs i r j
def Walk.cons{i r j:Nat}(ha:Adj subs i k)(h:Walk subs k r j):Walk subs i (r+1) j:=by
 induction h with
 |start=>exact .next .start ha
 |next _ hb ih=>exact .next ih hb
def qg.cons{i j:Nat}(ha:Adj subs i k)(h:qg subs k j):qg subs i j:=h.imp' (·+1) λr h=>h.cons ha
def qg.symm{i j:Nat}:qg subs i j->qg subs j i:=by
 rintro⟨r,h⟩
 induction h with
 |start=>exact⟨0,.start⟩
 |next _ hb ih=>exact qg.cons hb.symm ih
def qg.trans{i j:Nat}(h:qg subs i j)(h2:qg subs j k):qg subs i k:=by
 obtain⟨r,h2⟩:=h2
 induction h2 with
 |start=>exact h
 |next _ hb ih=>exact ih.imp' (·+1) λr h=>.next h hb
def Zij{l:GN}{i j:Nat}(h:i<l.length):(l.set i v).getD j 0=if j=i then v else l.getD j 0:=by
 simp only[List.getD];by_cases e:j=i
 ·subst e;rw[Tbo h,if_pos rfl];rfl
 ·rw[Tbp (Ne.symm e),if_neg e]
section
variable{n:Nat}{subs:List (Int×Int)}
def ZnC{l:GN}(h:i9 n l){p:Int×Int}(hp:0<=p.1/\p.1<n/\0<=p.2/\p.2<n)(i:Nat):(fd l p).getD i 0=if i=p.2.toNat\/i=p.1.toNat then min (l.getD p.1.toNat 0) (l.getD p.2.toNat 0)else l.getD i 0:=by
 unfold fd;rw[Zij (by rw[Taz,h.1];omega),Zij (by rw[h.1];omega)];by_cases e:i=p.2.toNat
 ·simp[e]
 ·by_cases e2:i=p.1.toNat
  ·simp[e2]
  ·simp[e,e2]
def Zxr{l:GN}(h:i9 n l){p:Int×Int}(hp:0<=p.1/\p.1<n/\0<=p.2/\p.2<n)(i:Nat):(fd l p).getD i 0<=l.getD i 0:=by
 rw[ZnC h hp];split
 ·rename_i e;rcases e with rfl|rfl<;>omega
 ·exact Tai _
def ZnD:∀{subs:List (Int×Int)}{l:GN},i9 n l->jf n subs->∀i,(subs.foldl fd l).getD i 0<=l.getD i 0
 |[],l,_,_,_=>Tai _
 |p::ps,l,h,hs,i=>by
  have hp:=hs p Tas;exact Tbe (ZnD (subs:=ps) (h.sub hp) (λq hq=>hs q (Tal _ hq)) i) (Zxr h hp i)
def ZqL:∀{subs:List (Int×Int)}{l:GN},i9 n l->jf n subs->∀{i j},Adj subs i j->(subs.foldl fd l).getD i 0<=l.getD j 0
 |[],l,_,_,i,j,⟨p,hp,_⟩=>by cases hp
 | p::ps,l,h,hs,i,j,⟨q,hq,e⟩=>by
  have hp:=hs p Tas;have mz:jf n ps:=λq hq=>hs q (Tal _ hq);rcases Tbh.1 hq with rfl|hq
  ·refine Tbe (ZnD (subs:=ps) (h.sub hp) mz i) ?_;rw[ZnC h hp];rcases e with⟨rfl,rfl⟩|⟨rfl,rfl⟩
   ·rw[if_pos (.inr rfl)];omega
   ·rw[if_pos (.inl rfl)];omega
  ·exact Tbe (ZqL (subs:=ps) (h.sub hp) mz ⟨q,hq,e⟩) (Zxr h hp j)
def ZoQ(subs:List (Int×Int)):∀(k:Nat)(l:GN),oz subs (k+1) l=oz subs k (subs.foldl fd l)
 |0,l=>rfl
 |k+1,l=>by rw[oz,ZoQ subs k l];rfl
def Ztj(hs:jf n subs):∀(k:Nat){l:GN},i9 n l->∀i,(oz subs k l).getD i 0<=l.getD i 0
 |0,l,_,_=>Tai _
 |k+1,l,h,i=>Tbe (ZnD (i9.iter hs k h) hs i) (Ztj hs k h i)
def ZoR(hs:jf n subs){i:Nat}:∀{r j:Nat},Walk subs i r j->∀{k:Nat}{l:GN},i9 n l->r<=k->(oz subs k l).getD i 0<=l.getD j 0
 |_,_,.start,k,l,h,_=>Ztj hs k h i
 |_,_,.next (r:=r) (j:=j') (k:=k') hw ha,k,l,h,hk=>by
  obtain⟨m,rfl⟩:∃m,k=m+1:=⟨k-1,om⟩;rw[ZoQ];exact Tbe (ZoR hs hw (h.foldl hs) om) (ZqL h hs ha)
def yZ(n:Nat)(subs:List (Int×Int))(l:GN):Prop:=∀i,i<n->l.getD i 0<n/\qg subs i (l.getD i 0)
def yZ.foldl {yf:List (Int×Int)}:∀{subs:List (Int×Int)}{l:GN},i9 n l->jf n subs->(∀p∈subs,p∈yf)->yZ n yf l->yZ n yf (subs.foldl fd l)
 |[],l,_,_,_,h=>h
 | p::ps,l,hk,hs,hi,h=>by
  have hp:=hs p Tas;refine yZ.foldl (subs:=ps) (hk.sub hp) (λq hq=>hs q (Tal _ hq)) (λq hq=>hi q (Tal _ hq)) λi dD=>?_;have h1:=h p.1.toNat om;have h2:=h p.2.toNat om;have hm:=hi p Tas;rw[ZnC hk hp];split
  ·rename_i e;rcases Nat.le_total (l.getD p.1.toNat 0) (l.getD p.2.toNat 0)with cw|cw
   ·rw[Nat.min_eq_left cw];refine⟨h1.1,?_⟩;rcases e with rfl|rfl
    ·exact h1.2.cons ⟨p,hm,.inr ⟨rfl,rfl⟩⟩
    ·exact h1.2
   ·rw[Nat.min_eq_right cw];refine⟨h2.1,?_⟩;rcases e with rfl|rfl
    ·exact h2.2
    ·exact h2.2.cons ⟨p,hm,.inl ⟨rfl,rfl⟩⟩
  ·exact h i dD
def yZ.iter(hs:jf n subs):∀(k:Nat){l:GN},i9 n l->yZ n subs l->yZ n subs (oz subs k l)
 |0,l,_,h=>h
 |k+1,l,hk,h=>(yZ.iter hs k hk h).foldl (i9.iter hs k hk) hs λ_ h=>h
def ZoS{n i:Nat}(h:i<n):(List.range n).getD i 0=i:=by simp[List.getD,h]
def Adj.lt(hs:jf n subs){i j:Nat}(h:Adj subs i j):j<n:=by
 obtain⟨p,hp,⟨_,rfl⟩|⟨_,rfl⟩⟩:=h
 ·have:=hs p hp;omega
 ·have:=hs p hp;omega
def Zyp (hs:jf n subs) {i:Nat} (hi:i<n) {j:Nat} (h:qg subs i j):∃r,r<=n/\Walk subs i r j:=by
 classical
 let R:Nat->Nat->Prop:=λr x=>∃q,q<=r/\Walk subs i q x
 let c:Nat->Nat:=λr=>((List.range n).filter λx=>decide (R r x)).length
 have d6:∀r,((List.range n).filter λx=>decide (R r x))=(((List.range n).filter λx=>decide (R (r+1) x)).filter λx=>decide (R r x)):=λr=>by
  exact m145
 have cw:∀r,c r<=c (r+1):=λr=>by
  exact m225
 have am:∀r x,Walk subs i r x->x<n:=λr x h=>by
  cases h with
  |start=>exact hi
  |next _ ha=>exact ha.lt hs
 have aZ:∀r,c (r+1)=c r->∀x,R (r+1) x->R r x:=λr e x hx=>by
  exact m45
 have hall:∀r,(∀x,R (r+1) x->R r x)->∀q x,Walk subs i q x->R r x:=λr hs q x hw=>by
  induction hw with
  |start=>exact⟨0,Taj _,.start⟩
  |next _ ha ih =>
   obtain⟨q,hq,hw⟩:=ih;exact hs _ ⟨q+1,om,.next hw ha⟩
 have pR:∀r,r+1<=c r\/∃r',r' < r/\∀x,R (r'+1) x->R r' x:=λr=>by
  induction r with
  | zero =>
   left;have:i∈(List.range n).filter λx=>decide (R 0 x):=by
    simp only[List.mem_filter,List.mem_range,decide_eq_true_eq];exact⟨hi,0,Tai _,.start⟩
   exact List.length_pos_of_mem this
  |succ r ih =>
   exact m122
 obtain⟨q,hq⟩:=h;rcases pR n with h|⟨r',h1,h2⟩
 ·exact m250
 ·obtain⟨q',hq',hw⟩:=hall r' h2 q j hq;exact⟨q',om,hw⟩
def Zyq{s:Srt}(hs:jf s.O.length s.Ψ){i j:Nat}(hi:i<s.O.length)(hj:j<s.O.length)(h:qg s.Ψ i j):(kinds s).getD i 0=(kinds s).getD j 0:=by
 have key:∀{i j:Nat},i<s.O.length->j<s.O.length->qg s.Ψ i j->(kinds s).getD j 0<=(kinds s).getD i 0:=λ{i j}hi hj h=>by
  have h1:=yZ.iter hs s.O.length (i9.start _) (λi hi=>by rw[ZoS hi];exact⟨hi,0,.start⟩) i hi;obtain⟨r,hr,hw⟩:=Zyp hs hj (h.symm.trans h1.2);have:=ZoR hs hw (i9.start _) hr;rw[ZoS h1.1]at this;exact this
 exact Nat.le_antisymm (key hj hi h.symm) (key hi hj h)
def ZHv {s:Srt} (hs:jf s.O.length s.Ψ) {i j:Nat} (hi:i<s.O.length) (h:((up s).getD i 0).testBit j):qg s.Ψ i j:=by
 have BI:∀{subs:List (Int×Int)}{l:GN},bq s.O.length l->jf s.O.length subs->(∀p∈subs,p∈s.Ψ)->(∀i j,(l.getD i 0).testBit j->qg s.Ψ i j)->∀i j,((subs.foldl ox l).getD i 0).testBit j->qg s.Ψ i j:=λ{subs}=>by
  induction subs with
  |nil=>exactλ_ _ _ h=>h
  | cons p ps ih =>
   intro l hk wt hi h;refine m246 λhp i j hb=>?_;unfold ox at hb;rw[Zij (by rw[hk.1];omega)]at hb;split at hb
   ·rename_i e;subst e;rw[Nat.testBit_or,Bool.or_eq_true]at hb;rcases hb with hb|hb
    ·exact h _ _ hb
    ·exact(h _ _ hb).cons ⟨p,hi p Tas,.inl ⟨rfl,rfl⟩⟩
   ·exact h i j hb
 have xv:∀k,∀i j,((pF s.Ψ k (iL s.O.length)).getD i 0).testBit j->qg s.Ψ i j:=λk=>by
  exact m37
 exact xv _ i j h
end
def ZGT{g:Sgn}(hs:SortsOk g.V){k j:Int}(h0:0<=k)(h1:k<g.V.O.length)(h2:0<=j)(h3:j<g.V.O.length)(h:(dw g k).testBit j.toNat):kd g.V k=kd g.V j :=
 Zyq (SortsOk.subsIn hs.Ψ) om om (ZHv (SortsOk.subsIn hs.Ψ) om h)
def ZoT {n i:Nat}:∀{ks l:GN},l.length=n->(∀k∈ks,k<n)->∀k j,((downIn i l ks).getD k 0).testBit j=true↔(l.getD k 0).testBit j=true\/(k∈ks/\j=i)
 |[],l,_,_,k,j=>by simp[downIn]
 | q::ks,l,h,hk,k,j=>by
  have:=ZoT (i:=i) (n:=n) (ks:=ks) (l:=l.set q (l.getD q 0 ||| 2 ^ i)) (by rw[Taz];exact h) (λk dZ=>hk k (Tal _ dZ)) k j;rw[show downIn i l (q::ks)=downIn i (l.set q (l.getD q 0 ||| 2 ^ i)) ks from rfl,this,Zij (by rw[h];exact hk q Tas)];by_cases e:k=q
  ·subst e;rw[if_pos rfl,Nat.testBit_or,Bool.or_eq_true,ZpO];simp only[Tbh,true_or,true_and];constructor
   ·rintro((h|h)|h)
    ·exact .inl h
    ·exact .inr h.symm
    ·exact .inr h.2
   ·rintro(h|h)
    ·exact .inl (.inl h)
    ·exact .inl (.inr h.symm)
  ·rw[if_neg e];simp only[Tbh,e,false_or]
def Zj8{a:Nat}(ha:a<2 ^ n)(hn:n<=16):k∈cj a↔a.testBit k=true:=by
 simp only[cj,mo,List.mem_filter,List.mem_range];refine⟨λh=>h.2,λh=>⟨?_,h⟩⟩;have:=Zlj ha h;omega
def ZqM{n:Nat}{u:GN}(hu:bq n u)(hn:n<=16):∀(m:Nat),m<=n->∀k j,((downs u m (List.replicate n 0)).getD k 0).testBit j=true↔j<m/\(u.getD j 0).testBit k=true
 | 0,_,k,j=>by
  have e:(List.replicate n 0).getD k 0=0:=by
   simp only[List.getD,Tbs];split<;>rfl
  simp only[downs];rw[e];simp
 | m+1,hm,k,j=>by
  have hl:(downs u m (List.replicate n 0)).length=n:=(bq.downs hu m om (bq.zeros n)).1;rw[show downs u (m+1) (List.replicate n 0)=downIn m (downs u m (List.replicate n 0)) (cj (u.getD m 0))from rfl,ZoT hl (Zlm (hu.get om).2),ZqM hu hn m om,Zj8 (hu.get (i:=m) om).2 hn];constructor
  ·rintro(h|⟨h,rfl⟩)
   ·exact⟨om,h.2⟩
   ·exact⟨om,h⟩
  ·rintro⟨h1,h2⟩;by_cases e:j=m
   ·subst e;exact .inr ⟨h2,rfl⟩
   ·exact .inl ⟨om,h2⟩
def fy(g:Sgn)(k:Int):Nat:=(down g.V).getD k.toNat 0
def Be{g:Sgn}(hs:SortsOk g.V){k:Int}(h0:0<=k)(h1:k<g.V.O.length):(down g.V)[k.toNat]?=some (fy g k)/\fy g k<2 ^ g.V.O.length :=
 (Zjy (SortsOk.subsIn hs.Ψ)).get om
def ZjA{g:Sgn}(hs:SortsOk g.V)(k:Int)(j:Nat):(fy g k).testBit j=true↔j<g.V.O.length/\(dw g j).testBit k.toNat:=by
 have:=hs.n8;exact ZqM (rA (SortsOk.subsIn hs.Ψ)) om _ (Tai _) k.toNat j
def m277(h:G3:=by
 have F:=aj8 @q2 @lu @ru @iM @rV @nS @gp @ae;exact m83):G3:=h
def ED(h:G3:=by
 refine gG ?_;exact⟨false,e,gw,gw⟩):G3:=h
def m186(h:G3:=by
 refine gG ?_;exact⟨(i+1,db (vD g v (i+1)) g.V.O.length),⟨am,rfl⟩,gw,gw,om⟩):G3:=h
def m170(h:G3:=by
 refine gG ?_;exact⟨(i+1,db (wF P (o.Z.take (i+1))) g.V.O.length),⟨am,rfl⟩,gw,gw,om⟩):G3:=h
def m97(h:G3:=by
 have e:false=decide (cx d sets (j+1)):=(decide_eq_false λh=>by
  have:=wn.1 h;rw[decide_eq_true this.1]at f8
  cases f8).symm
 have F:=@ae;refine gG ?_;exact⟨false,e,gw,gw⟩):G3:=h
def m83(h:G3:=by
 refine gG ?_;exact⟨(i+1,db (wB g P (o.Z.take (i+1))) g.V.O.length),⟨am,rfl⟩,gw,gw,om⟩):G3:=h
def m79(h:G3:=by
 obtain rfl:i=g.V.O.length:=by omega
 exact fD (aj3 (lF g.V.O.length g.V.O.length) @nK @ae)):G3:=h
def m68(h:G3:=by
 refine yj λb _=>?_;constructor
 ·rintro⟨x,hx,h1,h2⟩;rcases Tbi.1 hx with hx|hx
  ·exact⟨x,hx,h1,h2⟩
  ·rw[Tbk.1 hx]at h1;exact absurd h1 h
 ·rintro⟨x,hx,h1,h2⟩;exact⟨x,List.mem_append_left _ hx,h1,h2⟩):G3:=h
def m55(h:G3:=by
 constructor
 ·rintro⟨x,hx,h1,h2⟩;rcases Tbi.1 hx with hx|hx
  ·exact .inl ⟨x,hx,h1,h2⟩
  ·rw[Tbk.1 hx]at h2;exact .inr h2
 ·rintro(⟨x,hx,h1,h2⟩|h2)
  ·exact⟨x,List.mem_append_left _ hx,h1,h2⟩
  ·exact⟨d,List.mem_append_right _ (Tbk.2 rfl),h,h2⟩):G3:=h
def ZCn{f:FuncId}{a b:D}{r:AS}(h:aI e f [a,b,.I (.sl rows)] r):aI e f [a,b,.Ζ rows] r :=
 ⟨h.1,λw S vs hS hE hG hv=>h.2 w S vs hS hE hG (by
  match vs,hv with
  |[x,y,z],hv=>exact⟨hv.1,hv.2.1,hv.2.2.1.1,trivial⟩)⟩
def cx(d:Dcl)(sets:GN)(n:Nat):Prop:=∀(i:Nat)k s,i<n->d.Y[i]?=some k->sets[i]?=some s->s.testBit k.toNat=true
def cx.zero{d:Dcl}:cx d sets 0:=λi k s h=>absurd h (Nat.not_lt_zero i)
def cx.succ{d:Dcl}{k:Int}{s:Nat}(hk:d.Y[n]?=some k)(hs:sets[n]?=some s):cx d sets (n+1)↔cx d sets n/\s.testBit k.toNat:=by
 constructor
 ·exactλh=>⟨λi k s hi=>h i k s om,h n k s om hk hs⟩
 ·rintro⟨h1,h2⟩ i k' s' hi dZ mz;by_cases e:i=n
  ·subst e;rw[hk]at dZ;rw[hs]at mz;injection dZ with dZ
   injection mz with mz
   subst dZ mz;exact h2
  ·exact h1 i k' s' om dZ mz
def cx.full{d:Dcl}:cx d sets d.Y.length↔∀(i:Nat)k s,d.Y[i]?=some k->sets[i]?=some s->s.testBit k.toNat=true :=
 ⟨λh i k s hk hs=>h i k s (Tad.1 hk).1 hk hs,λh i k s _ hk hs=>h i k s hk hs⟩
def wB(g:Sgn)(P:Dcl->Prop)(ds:List Dcl)(b:Nat):Prop:=∃d∈ds,P d/\(dw g d.Β).testBit b=true
def ZHw{g:Sgn}:db (wB g P []) N=0:=ZnB λb _ h=>by
 obtain⟨d,hd,_⟩:=h
 cases hd
def ZIz{g:Sgn}{ds:List Dcl}{d:Dcl}(h:P d)(hu:dw g d.Β<2 ^ N):db (wB g P (ds++[d])) N=db (wB g P ds) N ||| dw g d.Β:=by
 rw[<- Zj6 hu,ZoP];refine yj λb _=>?_;exact m55
def ZI8{g:Sgn}{ds:List Dcl}{d:Dcl}(h:¬P d):db (wB g P (ds++[d])) N=db (wB g P ds) N:=by
 exact m68
def ZIA{g:Sgn}{o:Opr}:db (wB g (λd=>cx d sets d.Y.length\/(o.comm/\cx d sets.reverse d.Y.length)) o.Z) N=db (sM g o sets) N:=by
 refine yj λb _=>?_;unfold sM tc;constructor
 ·rintro⟨d,hd,h1,h2⟩;rcases h1 with h1|⟨h0,h1⟩
  ·exact .inl ⟨d,hd,cx.full.1 h1,h2⟩
  ·exact .inr ⟨h0,d,hd,cx.full.1 h1,h2⟩
 ·rintro(⟨d,hd,h1,h2⟩|⟨h0,d,hd,h1,h2⟩)
  ·exact⟨d,hd,.inl (cx.full.2 h1),h2⟩
  ·exact⟨d,hd,.inr ⟨h0,cx.full.2 h1⟩,h2⟩
def iU(h:v<2 ^ N)(hN:N<=8):v<4611686018427387904:=by
 have:2 ^ N<=2 ^ 8:=Tbt om hN;omega
section
variable{g:Sgn}{mc:C}
open Classical in
def Zvf (hg:SgnOk g) {op:Int} {o:Opr} (h0:0<=op) (ho:g.ops[op.toNat]?=some o) (sets:GN) (bh:∀d∈o.Z,d.Y.length=sets.length) (lS:sets.length<=3) (hs:∀s∈sets,s<2 ^ g.V.O.length):aI e0 208 [.I (.ptr (bx g mc)),GT op,.I (.sl (nR sets))] [GT ((db (sM g o sets) g.V.O.length:Nat):Int)]:=by
 have hN:=hg.V.n8;have hD:=hg.Z o (Tac ho);have jX:o.Z.length<=4:=hD.len4;rw[<- ZIA];generalize hPd:(λd=>cx d sets d.Y.length\/(o.comm/\cx d sets.reverse d.Y.length))=P;have z0:db (wB g P []) g.V.O.length=0:=ZHw;have z1:((db (wB g P []) g.V.O.length:Nat):Int)=0:=by rw[z0];rfl
 have nK:(nR (up g.V)).length=g.V.O.length:=by rw[gH,Zth hg.V]
 refine gI (ts:=[.slot 6]) 1180591620846512012743 Tryz.func208 ?_;refine fG (aj5 @lu @h0 @ho @cz @ae) ?_;have F:=@ae;refine gL (ι:=Nat×Nat) [8,10,11,12,13,14,26,27,33,34,35,36,70] [] (λx=>[(26,GU x.1),(8,GU x.2)]) (λx=>[]) (λx=>x.1<=o.Z.length/\x.2=db (wB g P (o.Z.take x.1)) g.V.O.length) (λx=>o.Z.length-x.1) ((0,0)) (⟨Taj _,z0.symm⟩) (λx hx=>?_)
 obtain⟨i,out⟩:=x;obtain⟨hi,mT⟩:=hx;simp only at hi mT;subst mT;dsimp only;have hob:db (wB g P (o.Z.take i)) g.V.O.length<2 ^ g.V.O.length:=sx _ _;have hob62:=iU hob hN;by_cases am:i<o.Z.length;rotate_left
 ·obtain rfl:i=o.Z.length:=by omega
  rw[Tap];exact fD (ai (lF o.Z.length o.Z.length) @ae)
 obtain⟨d,wm⟩:∃d,o.Z[i]?=some d:=⟨_,Taa am⟩;have pP:=Tac wm;have xp:=bh d pP;obtain⟨f,hf,_⟩:=hg.first ho;have rO:=hD.all f hf d pP;have gp:=bW (k:=i) om;have rW:o.Z.take (i+1)=o.Z.take i++[d]:=by simp[List.take_add_one,wm]
 refine fN 6 (aj3 (lT i o.Z.length) @wm @ae) ?_;refine dJ 4 (by decide +kernel) ?_;intro ds bJ;simp only[List.map]at bJ;subst bJ;have F:=ai @cz @ae;refine gP 2 ?_;refine(have F:=ae;De ?_);refine(have F:=ae;De ?_);refine ec @ae (ai @jD @ae) ?_;have F:=@ae;refine gL (ι:=Nat×Bool×Bool) [11,12,13,14,35,36] [] (λy=>[(35,GU y.1),(11,GX y.2.1),(12,GX y.2.2)]) (λy=>[]) (λy=>y.1<=d.Y.length/\y.2.1=decide (cx d sets y.1)/\y.2.2=decide (o.comm/\cx d sets.reverse y.1)) (λy=>d.Y.length-y.1) ((0,true,o.comm)) (⟨Taj _,(decide_eq_true cx.zero).symm,by cases o.comm<;>simp[cx.zero]⟩) (λy hy=>?_)
 obtain⟨j,b1,b2⟩:=y;obtain⟨hj,f8,iG⟩:=hy;simp only at hj f8 iG;dsimp only;by_cases lJ:j<d.Y.length
 ·obtain⟨k,hk⟩:∃k,d.Y[j]?=some k:=⟨_,Taa lJ⟩;have ny:=rO.Y k (Tac hk);obtain⟨kn,rfl⟩:∃kn:Nat,k=kn:=⟨k.toNat,om⟩;obtain⟨s,D1⟩:∃s,sets[j]?=some s:=⟨_,Taa om⟩;obtain⟨s',D2⟩:∃s,sets[sets.length-1-j]?=some s:=⟨_,Taa om⟩;have q2:=lT j d.Y.length;have qE:=bW (k:=j) om;have r1:=gN D1;have r2:=gN D2;have rl:=gH (l:=sets);have rr:=iS (l:=sets);have h1:=vY (k:=kn) om;have h2:=ZoD (x:=s) (k:=kn) (iU (hs s (Tac D1)) hN) om;have h3:=ZoD (x:=s') (k:=kn) (iU (hs s' (Tac D2)) hN) om;have w1:IntKind.i64.wrap ((sets.length:Int)-1)=((sets.length-1:Nat):Int):=kJ om om om;have w2:IntKind.i64.wrap (((sets.length-1:Nat):Int)-(j:Int))=((sets.length-1-j:Nat):Int):=kJ om om om
  have i1:(j<sets.length)=True:=eq_true om;have i2:(sets.length-1-j<sets.length)=True:=eq_true om;have wn:=cx.succ (n:=j) hk D1;have BH:=cx.succ (sets:=sets.reverse) (n:=j) hk (by rw[List.getElem?_reverse om];exact D2:sets.reverse[j]?=some s');rw[show(kn:Int).toNat=kn from rfl]at wn BH;refine fN 10 (aj4 @q2 @hk @iM @ae) ?_;refine gM (ι:=Bool) [11] [] (λb=>[(11,GX b)]) (λb=>[]) (λb=>b=decide (cx d sets (j+1))) ?_ (λb hb=>Exists.intro _ (ai (Wk.refl _) ?_))
  ·cases b1 with
   |false =>
    exact m97
   | true =>
    have Dz:=of_decide_eq_true f8.symm
    cases ht:bG s kn with
    | false =>
     rw[ht]at h2;have e:false=decide (cx d sets (j+1)):=(decide_eq_false λh=>by
      have:=(wn.1 h).2;rw[show s.testBit kn=false from ht]at this
      cases this).symm
     have F:=aj8 @r1 @rl @rr @h1 @h2 @i1 @bw @ae;exact ED
    |true =>
     rw[ht]at h2;have e:true=decide (cx d sets (j+1)):=(decide_eq_true (wn.2 ⟨Dz,ht⟩)).symm;have F:=aj8 @r1 @rl @rr @h1 @h2 @i1 @bw @ae;refine gG ?_;exact⟨true,e,gw,gw⟩
  clear f8;refine fN 11 @ae ?_;refine gM (ι:=Bool) [12] [] (λc=>[(12,GX c)]) (λc=>[]) (λc=>c=decide (o.comm/\cx d sets.reverse (j+1))) ?_ (λc hc=>Exists.intro _ (ai (Wk.refl _) ?_))
  ·cases b2 with
   | false =>
    have e:false=decide (o.comm/\cx d sets.reverse (j+1)):=(decide_eq_false λh=>by
     have:=BH.1 h.2;rw[decide_eq_true ⟨h.1,this.1⟩]at iG
     cases iG).symm
    have F:=@ae;exact ED
   | true =>
    have hb2':=of_decide_eq_true iG.symm
    cases ht:bG s' kn with
    | false =>
     rw[ht]at h3;have e:false=decide (o.comm/\cx d sets.reverse (j+1)):=(decide_eq_false λh=>by
      have:=(BH.1 h.2).2;rw[show s'.testBit kn=false from ht]at this
      cases this).symm
     have F:=aj10 @r2 @rl @rr @w1 @w2 @h1 @h3 @i2 @bw @ae;exact ED
    |true =>
     rw[ht]at h3;have e:true=decide (o.comm/\cx d sets.reverse (j+1)):=(decide_eq_true ⟨hb2'.1,BH.2 ⟨hb2'.2,ht⟩⟩).symm;have F:=aj10 @r2 @rl @rr @w1 @w2 @h1 @h3 @i2 @bw @ae;refine gG ?_;exact⟨true,e,gw,gw⟩
  have F:=ai @qE @ae;refine gG ?_;exact⟨(j+1,b,c),⟨lJ,hb,hc⟩,gw,gw,om⟩
 ·obtain rfl:j=d.Y.length:=by omega
  have q2:=lF d.Y.length d.Y.length;have Gf:P d↔cx d sets d.Y.length\/(o.comm/\cx d sets.reverse d.Y.length):=by rw[<- hPd]
  have fK:=yr hg.V rO.Β.1 rO.Β.2;have ru:=ZqB fK.1;have rr:=iS (l:=up g.V);have nS:=zp hob62 (iU fK.2 hN);have rV:=rO.Β.1;have tK:=rO.Β.2;have c9:(d.Β.toNat<g.V.O.length)=True:=eq_true om;by_cases hp:P d
  ·have pn:(b1||b2):=by
    rcases Gf.1 hp with h|h
    ·rw[f8,decide_eq_true h];rfl
    ·rw[iG,decide_eq_true h,Bool.or_true]
   have e:=ZIz (N:=g.V.O.length) (ds:=o.Z.take i) hp fK.2;rw[<- rW]at e;rw[<- e]at nS
   cases b1 with
   |true => 
    exact m277
   |false =>
    rw[Bool.false_or]at pn;subst pn;exact m277
  ·have h1:b1=false:=by rw[f8];exact decide_eq_false λh=>hp (Gf.2 (.inl h))
   have h2:b2=false:=by rw[iG];exact decide_eq_false λh=>hp (Gf.2 (.inr h))
   subst h1 h2;have e:=ZI8 (g:=g) (N:=g.V.O.length) (ds:=o.Z.take i) hp;rw[<- rW]at e;rw[<- e];have F:=aj3 @q2 @gp @ae;exact m83
def vD(g:Sgn)(v n b:Nat):Prop:=∃k,k<n/\v.testBit k/\((up g.V).getD k 0).testBit b=true
def ZHx(h:bG v n)(hu:(up g.V).getD n 0<2 ^ N):db (vD g v (n+1)) N=db (vD g v n) N ||| (up g.V).getD n 0:=by
 rw[<- Zj6 hu,ZoP];refine yj λb _=>?_;constructor
 ·rintro⟨k,h1,h2,h3⟩;by_cases e:k=n
  ·subst e;exact .inr h3
  ·exact .inl ⟨k,om,h2,h3⟩
 ·rintro(⟨k,h1,h2,h3⟩|h3)
  ·exact⟨k,om,h2,h3⟩
  ·exact⟨n,om,h,h3⟩
def ZHy(h:bG v n=false):db (vD g v (n+1)) N=db (vD g v n) N:=by
 refine yj λb _=>?_;constructor
 ·rintro⟨k,h1,h2,h3⟩;by_cases e:k=n
  ·subst e;rw[show v.testBit k=false from h]at h2
   cases h2
  ·exact⟨k,om,h2,h3⟩
 ·rintro⟨k,h1,h2,h3⟩;exact⟨k,om,h2,h3⟩
def ZHz:db (vD g v 0) N=0:=ZnB λb _ h=>by
 obtain⟨k,h1,_⟩:=h;omega
def Zvg(hg:SgnOk g)(hv:v<2 ^ g.V.O.length):aI e0 239 [.I (.sl (nR (up g.V))),GT (v:Int)] [GT ((db (vD g v g.V.O.length) g.V.O.length:Nat):Int)]:=by
 have hN:=hg.V.n8;have hv62:=iU hv hN;have nK:(nR (up g.V)).length=g.V.O.length:=by rw[gH,Zth hg.V]
 have z0:db (vD g v 0) g.V.O.length=0:=ZHz;have rr:=iS (l:=up g.V);refine gI (ts:=[.slot 4]) 33907 Tryz.func239 ?_;refine fG @ae ?_;have F:=@ae;refine gL (ι:=Nat×Nat) [5,6,10,15] [] (λx=>[(6,GU x.1),(5,GU x.2)]) (λx=>[]) (λx=>x.1<=g.V.O.length/\x.2=db (vD g v x.1) g.V.O.length) (λx=>g.V.O.length-x.1) ((0,0)) (⟨Taj _,z0.symm⟩) (λx hx=>?_)
 obtain⟨i,out⟩:=x;obtain⟨hi,mT⟩:=hx;simp only at hi mT;subst mT;dsimp only;by_cases am:i<g.V.O.length;rotate_left
 ·exact m79
 have gp:=bW (k:=i) om;have hu:=(rA (SortsOk.subsIn hg.V.Ψ)).get am;have ru:=gN hu.1;have nS:=zp (iU (sx (vD g v i) g.V.O.length) hN) (iU hu.2 hN);refine cg 5 (aj3 (lT i g.V.O.length) @nK @ae) @ae (uE (a:=v) (k:=i) hv62 om) ?_
 cases ht:bG v i with
 |false =>
  rw[<- (ZHy (g:=g) (N:=g.V.O.length) ht)];refine fR @ae ?_;have F:=ai @gp @ae;exact m186
 |true =>
  have e:=ZHx ht hu.2;rw[<- e]at nS;refine fR @ae ?_;have F:=aj8 @ru @rr @nK @am @nS @gp @bw @ae;exact m186
def wF(P:Dcl->Prop)(ds:List Dcl)(b:Nat):Prop:=∃d∈ds,P d/\d.Β.toNat=b
def ZHA:db (wF P []) N=0:=ZnB λb _ h=>by
 obtain⟨d,hd,_⟩:=h
 cases hd
def ZIB{ds:List Dcl}{d:Dcl}(h:P d)(hu:d.Β.toNat<N):db (wF P (ds++[d])) N=db (wF P ds) N ||| 2 ^ d.Β.toNat:=by
 have h2:2 ^ d.Β.toNat<2 ^ N:=Nat.pow_lt_pow_right om hu;rw[<- Zj6 h2,ZoP];refine yj λb _=>?_;rw[ZpO];exact m55
def ZI9{ds:List Dcl}{d:Dcl}(h:¬P d):db (wF P (ds++[d])) N=db (wF P ds) N:=by
 exact m68
def ZHB(hg:SgnOk g){o:Opr}(hD:∀d∈o.Z,0<=d.Β/\d.Β<g.V.O.length)(sets:GN):db (vD g (db (wF (λd=>cx d sets d.Y.length) o.Z) g.V.O.length) g.V.O.length) g.V.O.length=db (tc g o sets) g.V.O.length:=by
 refine yj λb _=>?_;unfold vD tc;constructor
 ·rintro⟨k,h1,h2,h3⟩;obtain⟨h4,d,hd,h5,h6⟩:=(zu _ _ _).1 h2;refine⟨d,hd,cx.full.1 h5,?_⟩;unfold dw;rw[h6];exact h3
 ·rintro⟨d,hd,h1,h2⟩;have hr:=hD d hd;exact⟨d.Β.toNat,om,(zu _ _ _).2 ⟨om,d,hd,cx.full.2 h1,rfl⟩,h2⟩
open Classical in
def Zyr (hg:SgnOk g) {o:Opr} (hm:o∈g.ops) (sets:GN) (bh:∀d∈o.Z,d.Y.length=sets.length) (lS:sets.length<=3) (hs:∀s∈sets,s<2 ^ g.V.O.length):aI e0 231 [.I (.sl (nR (up g.V))),.I (.sl (o.Z.map yx)),.I (.sl (nR sets))] [GT ((db (tc g o sets) g.V.O.length:Nat):Int)]:=by
 have hN:=hg.V.n8;have hD:=hg.Z o hm;have jX:o.Z.length<=4:=hD.len4;obtain⟨f,hf⟩:∃f,o.Z[0]?=some f:=⟨_,Taa (by have:=hD.len1;omega)⟩;have fK:=λd hd=>(hD.all f hf d hd).Β;rw[<- ZHB hg fK sets];generalize hPd:(λd=>cx d sets d.Y.length)=P;have z0:db (wF P []) g.V.O.length=0:=ZHA;have cC:=Zvg hg (sx (wF P o.Z) g.V.O.length);refine gI (ts:=[.slot 6]) 549756880839 Tryz.func231 ?_
 refine fG @ae ?_;have F:=@ae;refine gL (ι:=Nat×Nat) [7,8,9,10,14,20,39] [] (λx=>[(8,GU x.1),(7,GU x.2)]) (λx=>[]) (λx=>x.1<=o.Z.length/\x.2=db (wF P (o.Z.take x.1)) g.V.O.length) (λx=>o.Z.length-x.1) ((0,0)) (⟨Taj _,z0.symm⟩) (λx hx=>?_);obtain⟨i,out⟩:=x;obtain⟨hi,mT⟩:=hx;simp only at hi mT
 subst mT;dsimp only;by_cases am:i<o.Z.length;rotate_left
 ·obtain rfl:i=o.Z.length:=by omega
  rw[Tap];refine cg 12 (ai (lF o.Z.length o.Z.length) @ae) @ae (cC) ?_;exact iF @ae @ae
 obtain⟨d,wm⟩:∃d,o.Z[i]?=some d:=⟨_,Taa am⟩;have pP:=Tac wm;have xp:=bh d pP;have rO:=hD.all f hf d pP;have gp:=bW (k:=i) om;have rW:o.Z.take (i+1)=o.Z.take i++[d]:=by simp[List.take_add_one,wm]
 have rl:=gH (l:=sets);have rr:=iS (l:=sets);refine fG (ai (lT i o.Z.length) @ae) ?_;have F:=@ae;refine gL (ι:=Nat×Bool) [9,10,20] [] (λy=>[(10,GU y.1),(9,GX y.2)]) (λy=>[]) (λy=>y.1<=sets.length/\y.2=decide (cx d sets y.1)) (λy=>sets.length-y.1) ((0,true)) (⟨Taj _,(decide_eq_true cx.zero).symm⟩) (λy hy=>?_);obtain⟨j,b1⟩:=y;obtain⟨hj,f8⟩:=hy
 simp only at hj f8;dsimp only;by_cases lJ:j<sets.length
 ·obtain⟨k,hk⟩:∃k,d.Y[j]?=some k:=⟨_,Taa om⟩;have ny:=rO.Y k (Tac hk);obtain⟨kn,rfl⟩:∃kn:Nat,k=kn:=⟨k.toNat,om⟩;obtain⟨s,D1⟩:∃s,sets[j]?=some s:=⟨_,Taa om⟩;have b62:=iU (hs s (Tac D1)) hN;have q2:=lT j sets.length;have qE:=bW (k:=j) om;have r1:=gN D1;have i1:(j<sets.length)=True:=eq_true om;have i3:(j<d.Y.length)=True:=eq_true om;have wn:=cx.succ (n:=j) hk D1;rw[show(kn:Int).toNat=kn from rfl]at wn
  refine fN 9 (aj3 @q2 @rl @ae) ?_;refine gM (ι:=Bool) [9] [] (λb=>[(9,GX b)]) (λb=>[]) (λb=>b=decide (cx d sets (j+1))) ?_ (λb hb=>Exists.intro _ (ai (Wk.refl _) ?_))
  ·cases b1 with
   |false =>
    exact m97
   | true =>
    have Dz:=of_decide_eq_true f8.symm;have e:bG s kn=decide (cx d sets (j+1)):=by
     cases ht:bG s kn with
     | false=>exact(decide_eq_false λh=>by
       have:=(wn.1 h).2;rw[show s.testBit kn=false from ht]at this
       cases this).symm
     |true=>exact(decide_eq_true (wn.2 ⟨Dz,ht⟩)).symm
    refine gB ?_;refine oZ (aj11 @r1 @rl @rr @i1 @i3 @wm @hk @jD @iM @bw @ae) (uE (a:=s) (k:=kn) b62 om) @ae ?_;have F:=@ae;refine gG ?_;exact⟨bG s kn,e,gw,gw⟩
  have F:=ai @qE @ae;refine gG ?_;exact⟨(j+1,b),⟨lJ,hb⟩,gw,gw,om⟩
 ·obtain rfl:j=sets.length:=by omega
  have q2:=lF sets.length sets.length;have Gf:P d↔cx d sets sets.length:=by rw[<- hPd,<- xp]
  have rV:=rO.Β.1;have tK:=rO.Β.2;obtain⟨rn,D0⟩:∃rn:Nat,d.Β=rn:=⟨d.Β.toNat,om⟩;have cB:=Zg7 (k:=rn) om;rw[<- D0]at cB;have nS:=zp (iU (sx (wF P (o.Z.take i)) g.V.O.length) hN) (iU (v:=2 ^ rn) (N:=g.V.O.length) (Nat.pow_lt_pow_right om om) hN)
  cases b1 with
  |true =>
   have hp:P d:=Gf.2 (of_decide_eq_true f8.symm);have e:=ZIB (N:=g.V.O.length) (ds:=o.Z.take i) hp om;rw[<- rW,show d.Β.toNat=rn by omega]at e;rw[<- e]at nS;refine cq 11 (aj3 @q2 @rl @ae) (aj3 @wm @jD @ae) (cB) (ai @nS @ae) ?_;have F:=ai @gp @ae;exact m170
  |false =>
   have hp:¬P d:=λh=>by rw[decide_eq_true (Gf.1 h)]at f8;cases f8
   have e:=ZI9 (N:=g.V.O.length) (ds:=o.Z.take i) hp;rw[<- rW]at e;rw[<- e];have F:=aj4 @q2 @rl @gp @ae;exact m170
def Zm0(hg:SgnOk g){op:Int}{o:Opr}(h0:0<=op)(ho:g.ops[op.toNat]?=some o)(sets:GN)(bh:∀d∈o.Z,d.Y.length=sets.length)(lS:sets.length<=3)(hs:∀s∈sets,s<2 ^ g.V.O.length):aI e0 221 [.agg (ck g),GT op,.I (.sl (nR sets))] [GT ((db (tc g o sets) g.V.O.length:Nat):Int)]:=by
 have cU:=CD hg.V.n8 hg.V.m16 (SortsOk.subsIn hg.V.Ψ);have cG:=Zyr hg (Tac ho) sets bh lS hs;rw[gt]at cU;rw[ck];refine gI (ts:=[.slot 6]) 79 Tryz.func221 ?_;refine cg 1 @ae @ae (cU) ?_;refine fC (aj4 @h0 @ho @cz @ae) (cG) ?_;exact iF @ae @ae
end
def EC(h:G3:=by
 ·rw[Tbp (Ne.symm e)]):G3:=h
def bvN(g:Sgn)(R:Nat->Nat->Nat->Prop)(sets:GN)(m:Nat):Nat:=db (BagB R sets m) g.V.O.length
def sN(g:Sgn)(R:Nat->Nat->Nat->Prop)(sets:GN)(M:Nat)(T:GN):Prop:=T.length=2 ^ sets.length/\∀m,1<=m->m<2 ^ sets.length->(m<M->T[m]?=some (bvN g R sets m))/\(M<=m->T[m]?=some 0)
section
variable{g:Sgn}{R:Nat->Nat->Nat->Prop}{sets:GN}
def sN.start:sN g R sets 1 (List.replicate (2 ^ sets.length) 0):=⟨by simp,λm h1 h2=>⟨λh=>om,λ_=>by rw[Tbs,if_pos h2]⟩⟩
def sN.next{M:Nat}(h:sN g R sets M T)(hM:M<2 ^ sets.length):sN g R sets (M+1) (T.set M (bvN g R sets M)):=by
 refine⟨by rw[Taz,h.1],λm h1 h2=>?_⟩;by_cases e:m=M
 ·subst e;exact⟨λ_=>Tbo (by rw[h.1];exact h2),λq=>om⟩
 ·rw[Tbp (Ne.symm e)];exact⟨λq=>(h.2 m h1 h2).1 om,λq=>(h.2 m h1 h2).2 om⟩
def sN.zero{M:Nat}(h:sN g R sets M T)(h1:1<=M)(hM:M<2 ^ sets.length):T.set M 0=T:=by
 have h2:=(h.2 M h1 hM).2 (Tai _);refine List.ext_getElem? λq=>?_;by_cases e:q=M
 ·subst e;rw[Tbo (by rw[h.1];exact hM),h2]
 exact EC
end
section
variable{w:World}{S:GO}{a:BY}{n cap:Nat}{rows:sh}
end
section
variable{e:Env}{σ:St}{ay:Nat}{Q:PX->St->Prop}
end
section
variable{g:Sgn}{mc:C}
def FW(g:Sgn)(o:Opr)(sets:GN)(i j:Nat):Nat:=db (ChB (uz g o) sets i j) g.V.O.length
def chL(g:Sgn)(o:Opr)(sets:GN)(r:Nat):GN:=(List.range sets.length).map λk=>if k<r then 0 else FW g o sets r (k+1)
def ZHC{o:Opr}{r:Nat}:(chL g o sets r).length=sets.length:=by simp[chL]
def qc(g:Sgn)(o:Opr)(sets:GN)(p k:Nat)(L:GN):Prop:=L.length=sets.length/\∀j,j<sets.length->L[j]?=some (if j<p then 0 else if j<k then FW g o sets p (j+1)else 0)
def qc.all{o:Opr}{p:Nat}{L:GN}(h:qc g o sets p sets.length L):L=chL g o sets p:=by
 refine List.ext_getElem? λj=>?_;by_cases hj:j<sets.length
 ·rw[h.2 j hj];unfold chL;rw[Tba,List.getElem?_range hj,Option.map_some];by_cases h1:j<p
  ·rw[if_pos h1,if_pos h1]
  ·rw[if_neg h1,if_neg h1,if_pos hj]
 ·rw[List.getElem?_eq_none (by rw[h.1];omega),List.getElem?_eq_none (by rw[ZHC];omega)]
def qc.next{o:Opr}{p:Nat}{L:GN}(h:qc g o sets p k L)(hp:p<=k)(hk:k<sets.length):qc g o sets p (k+1) (L.set k (FW g o sets p (k+1))):=by
 refine⟨by rw[Taz,h.1],λj hj=>?_⟩;by_cases e:j=k
 ·subst e;rw[Tbo (by rw[h.1];exact hj),if_neg om,if_pos om]
 ·rw[Tbp (Ne.symm e),h.2 j hj];by_cases h1:j<p
  ·rw[if_pos h1,if_pos h1]
  ·rw[if_neg h1,if_neg h1];by_cases h2:j<k
   ·rw[if_pos h2,if_pos om]
   ·rw[if_neg h2,if_neg om]
def qc.zero{o:Opr}{p:Nat}{L:GN}(h:qc g o sets p k L)(hp:p<=k)(hk:k<sets.length):L.set k 0=L:=by
 have h1:=h.2 k hk;rw[if_neg om,if_neg om]at h1;refine List.ext_getElem? λj=>?_;by_cases e:j=k
 ·subst e;rw[Tbo (by rw[h.1];exact hk),h1]
 exact EC
def qc.start{o:Opr}{p s:Nat}(hs:sets[p]?=some s)(h:s<2 ^ g.V.O.length):qc g o sets p (p+1) ((List.replicate sets.length 0).set p s):=by
 have hp:=(Tad.1 hs).1;refine⟨by simp,λj hj=>?_⟩;by_cases e:j=p
 ·subst e;rw[Tbo (by simpa using hj),if_neg om,if_pos om];unfold FW;rw[ZIy hs h]
 ·rw[Tbp (Ne.symm e),Tbs,if_pos hj];by_cases h1:j<p
  ·rw[if_pos h1]
  ·rw[if_neg h1,if_neg om]
end
def ZHD{i j i' j':Nat}(hj:j<n)(mQ:j' < n)(h:i*n+j=i' * n+j'):i=i'/\j=j':=by
 have h1:(i*n+j) / n=i:=by rw[Nat.mul_comm,Nat.mul_add_div om,Nat.div_eq_of_lt hj,Nat.add_zero]
 have h2:(i' * n+j') / n=i':=by rw[Nat.mul_comm,Nat.mul_add_div om,Nat.div_eq_of_lt mQ,Nat.add_zero]
 rw[h]at h1;have e:i=i':=by rw[<- h1,h2]
 subst e;exact⟨rfl,om⟩
def Ztk{i j:Nat}(hi:i<n)(hj:j<n):i*n+j<n*n:=by
 have:(i+1)*n<=n*n:=Nat.mul_le_mul_right n hi;rw[Nat.succ_mul]at this;omega
section
variable{g:Sgn}
def oM(g:Sgn)(o:Opr)(sets:GN)(P:Nat->Nat->Prop)(T:GN):Prop:=T.length=sets.length*sets.length/\∀i j,i<=j->j<sets.length->(P i j->T[i*sets.length+j]?=some (FW g o sets i (j+1)))/\(¬P i j->T[i*sets.length+j]?=some 0)
def oM.start{o:Opr}{P:Nat->Nat->Prop}(h:∀i j,i<=j->¬P i j):oM g o sets P (List.replicate (sets.length*sets.length) 0):=⟨by simp,λi j h1 h2=>⟨λhp=>absurd hp (h i j h1),λ_=>by
 rw[Tbs,if_pos (Ztk om h2)]⟩⟩
def oM.next{o:Opr}{P P':Nat->Nat->Prop}(h:oM g o sets P T){i j:Nat}(qW:i<=j)(hj:j<sets.length)(h1:∀i' j',i'<=j'->j' < sets.length->(P' i' j'↔P i' j'\/(i'=i/\j'=j))):oM g o sets P' (T.set (i*sets.length+j) (FW g o sets i (j+1))):=by
 refine⟨by rw[Taz,h.1],λi' j' q1 q2=>?_⟩;have hl:=Ztk (n:=sets.length) (i:=i) (j:=j) om hj;by_cases e:i'=i/\j'=j
 ·obtain⟨rfl,rfl⟩:=e;exact⟨λ_=>Tbo (by rw[h.1];exact hl),λhn=>absurd ((h1 _ _ q1 q2).2 (.inr ⟨rfl,rfl⟩)) hn⟩
 ·have aP:i*sets.length+j≠i' * sets.length+j':=λq=>e (by have:=ZHD hj q2 q;exact⟨this.1.symm,this.2.symm⟩);rw[Tbp aP];have h2:=h.2 i' j' q1 q2;exact⟨λhp=>h2.1 (((h1 _ _ q1 q2).1 hp).resolve_right e),λhn=>h2.2 λhp=>hn ((h1 _ _ q1 q2).2 (.inl hp))⟩
def oM.mono{o:Opr}{P P':Nat->Nat->Prop}(h:oM g o sets P T)(h1:∀i j,i<=j->j<sets.length->(P' i j↔P i j)):oM g o sets P' T:=⟨h.1,λi j q1 q2=>by
 rw[h1 i j q1 q2];exact(h.2 i j q1 q2)⟩
def oM.zero{o:Opr}{P:Nat->Nat->Prop}(h:oM g o sets P T){i j:Nat}(qW:i<=j)(hj:j<sets.length)(hn:¬P i j):T.set (i*sets.length+j) 0=T:=by
 have h1:=(h.2 i j qW hj).2 hn;have hl:=Ztk (n:=sets.length) (i:=i) (j:=j) om hj;refine List.ext_getElem? λq=>?_;by_cases e:q=i*sets.length+j
 ·subst e;rw[Tbo (by rw[h.1];exact hl),h1]
 exact EC
end
def AF(b:G5)(h:Bx G5->G4:=by
 intro B0
 obtain⟨k1,k2,k3,k4⟩:=ZgA.1 aq;have bP:=iB t;have di:=AZ t.Y;exact B0.o k1 k2 k3 k4 bP di):G4:=h ⟨b⟩
def m147(h:G3:=by
 have e1:=h.at';rw[ho]at e1;injection e1 with e1;subst e1;have e2:=h.fst;rw[hd]at e2;injection e2 with e2;subst e2;exact h):G3:=h
def m144(h:G3:=by
 have hf:=bT λh=>yQ (ZgX ((mH.1 h).2.1 a hm));exact dM (ai @ae (by simpa using yQ:oy g a=false)) @hf):G3:=h
def m99(b:G5)(h:Bx G5->G4:=by
 intro B0
 have ki:(i:Int)<t.Y.length:=om;obtain⟨a,ha⟩:∃a,t.Y[i]?=some a:=⟨_,Taa hl⟩;have hm:=Tac ha;exact B0.o ki a ha hm):G4:=h ⟨b⟩
def GF(h:G3:=by
 refine gG ?_;exact⟨(),trivial,gw,gw⟩):G3:=h
def ZgA{t:Tm}:bc t↔iT t.op/\t.name.size<=maxLen/\iT t.sort/\dI t.Y:=by cases t;simp only[bc,Tm.op,Tm.name,Tm.sort,Tm.Y]
def iB(t:Tm):ah t=1+au t.Y:=by cases t;simp only[ah,Tm.Y]
def zh(t:Tm):aH t=1+aB t.Y:=by cases t;simp only[aH,Tm.Y]
def Zys{g:Sgn}{t:Tm}(h:t.op=-1):oy g t=CX g t:=by
 unfold oy CX;congr 1;rw[mH];apply propext;constructor
 ·rintro⟨h1|⟨o,d,h1⟩,_⟩
  ·exact h1
  ·have:=h1.lo;omega
 ·intro h1;exact⟨.inl h1,λa ha=>(by rw[h1.2.2.2.2]at ha;cases ha),.inl h⟩
def sy.app{g:Sgn}{t:Tm}(h:sy g t)(bE:t.op≠-1):∃o d,AppOk g t o d:=by
 rcases h with h|h
 ·exact absurd h.1 bE
 ·exact h
def ZiS{g:Sgn}(hg:SgnOk g){i:Nat}{o:Opr}{d:Dcl}{j:Nat}(ho:g.ops[i]?=some o)(hd:o.Z[0]?=some d)(nas:o.Θ=false->n=d.Y.length)(hj:j<n):∃k,d.Y[eG o j]?=some k:=by
 unfold eG
 cases ha:o.Θ with
 |true =>
  have h2:=((hg.axs o (Tac ho)).two (.inl ha) d hd).1;exact⟨_,Taa (by simp only[↓reduceIte];omega)⟩
 |false=>exact⟨_,Taa (by simp only[Tam,↓reduceIte];have:=nas ha;omega)⟩
section
variable{g:Sgn}{mc:C}
def ZnE (hg:SgnOk g):∀(n:Nat)(t:Tm),ah t<n->bc t->ah t<=iD->aI e0 63 [.I (.ptr (bx g mc)),.agg (ax t)] [GW (oy g t)]:=by
 intro n
 induction n with
 |zero=>intro t h;omega
 | succ n ih =>
  intro t hn aq hb;have bT:¬e6 g t->oy g t=false:=Zlu;refine AF λk1 k2 k3 k4 bP di=>?_;unfold iD at hb;refine gI 43556142965880125627826793391928073259515 Tryz.func63 ?_;by_cases h1:t.op=-1
  ·rw[(Zys (g:=g) h1)];refine eH (ai @ae @h1) (ai @ae @h1) (ZpW hg k2) ?_;exact dM @ae @ae
  by_cases h2:t.op<0
  ·have hf:=bT λh=>by
    obtain⟨o,d,h⟩:=h.node.app h1;have:=h.lo;omega
   exact fT (aj4 @ae @h1 @h2 @hf)
  by_cases h3:(g.ops.length:Int)<=t.op
  ·have hf:=bT λh=>by
    obtain⟨o,d,h⟩:=h.node.app h1;have:=(Tad.1 h.at').1;omega
   exact fT (aj6 @ae @h1 @h2 @h3 @lu @hf)
  by_cases h4:t.name=ByteArray.empty;rotate_left
  ·have hf:=bT λh=>by
    obtain⟨o,d,h⟩:=h.node.app h1;exact h4 h.nm
   exact fT (aj8 @ae @h1 @h2 @h3 @lu @zw @h4 @hf)
  by_cases h5:t.sort=0;rotate_left
  ·have hf:=bT λh=>by
    obtain⟨o,d,h⟩:=h.node.app h1;exact h5 h.so
   exact fT (aj9 @ae @h1 @h2 @h3 @lu @zw @h4 @h5 @hf)
  have h0:0<=t.op:=om;obtain⟨o,ho⟩:∃o,g.ops[t.op.toNat]?=some o:=⟨_,Taa om⟩;obtain⟨d,hd,rV,tK,bS⟩:=hg.first ho;have BJ:e6 g t->AppOk g t o d:=λh=>by
   obtain⟨o',d',h⟩:=h.node.app h1;exact m147
  by_cases hW:(o.Θ->2<=t.Y.length/\t.Y.length<=7)/\(o.Θ=false->t.Y.length=d.Y.length);rotate_left
  ·have hf:=bT λh=>hW ⟨(BJ h).asc,(BJ h).nas⟩
   cases ha:o.Θ with
   | true =>
    by_cases c1:t.Y.length<2
    ·exact fT (aj14 @ae @h1 @h2 @h3 @lu @zw @h4 @h5 @h0 @ho @cz @ha (om:(t.Y.length:Int)<2) @hf)
    ·have c2:(7:Int)<t.Y.length:=by
      by_cases c2:t.Y.length<=7
      ·exact absurd ⟨λ_=>⟨om,c2⟩,λh=>by rw[ha]at h;cases h⟩ hW
      ·omega
     exact fT (aj15 @ae @h1 @h2 @h3 @lu @zw @h4 @h5 @h0 @ho @cz @ha (om:¬((t.Y.length:Int)<2)) @c2 @hf)
   |false =>
    have c3:¬((t.Y.length:Int)=d.Y.length):=λc=>hW ⟨λh=>(by rw[ha]at h;cases h),λ_=>om⟩;exact fT (aj16 @ae @h1 @h2 @h3 @lu @zw @h4 @h5 @h0 @ho @cz @ha @hd @jD @c3 @hf)
  have hA:AppOk g t o d:=⟨h0,ho,hd,h4,h5,hW.1,hW.2⟩;refine fG (aj11 @ae @h1 @h2 @h3 @lu @zw @h4 @h5 @h0 @ho @cz) ?_;refine gM (ι:=Unit) [75] [] (λu=>[(75,GX false)]) (λu=>[]) (λu=>True) ?_ (λu hu=>Exists.intro _ (ai (Wk.refl _) ?_))
  ·cases ha:o.Θ with
   |true =>
    have c:=hW.1 ha;have F:=aj5 @ae @cz @ha (om:¬((t.Y.length:Int)<2)) (om:¬((7:Int)<t.Y.length));exact GF
   |false =>
    have c3:((t.Y.length:Int)=d.Y.length):=by have:=hW.2 ha;omega
    have F:=aj6 @ae @cz @ha @hd @jD @c3;exact GF
  refine fG @ae ?_;have F:=@aJ;refine gL (ι:=Nat) [4,7,8,79,80,135] [] (λi=>[(79,GU i)]) (λi=>[]) (λi=>i<=t.Y.length/\∀(j:Nat)a,j<i->t.Y[j]?=some a->e6 g a/\ArgOk g t.op o d t.Y j a) (λi=>t.Y.length-i) (0) (⟨om,λj a h=>absurd h om⟩) (λi hi=>?_);obtain⟨e7,hall⟩:=hi;by_cases hl:i<t.Y.length;rotate_left
  ·have hT:=ZgX (mH.2 ⟨.inr ⟨o,d,hA⟩,λa ha=>by
     obtain⟨j,hj⟩:=Tbl ha;exact(hall j a (by have:=(Tad.1 hj).1;omega) hj).1,.inr λo' d' cr dG j a hj=>by
     rw[ho]at cr;injection cr with cr
     subst cr;rw[hd]at dG;injection dG with dG
     subst dG;exact(hall j a (by have:=(Tad.1 hj).1;omega) hj).2⟩)
   exact fT (ai (om:¬((i:Int)<t.Y.length)) @hT)
  refine m99 λki a ha hm=>?_;have hsa:=kv hm;have gp:=bW (k:=i) om;have qC:¬ArgOk g t.op o d t.Y i a->oy g t=false:=λh=>bT λhF=>by
   obtain⟨_,_,h3⟩:=mH.1 hF;rcases h3 with h3|h3
   ·exact h1 h3
   ·exact h (h3 o d ho hd i a ha)
  obtain⟨k,hk⟩:=ZiS hg ho hd hA.nas hl;refine eH (aj3 @ki @ae @ha) @ae (ih a om (k4.mem hm) (by unfold iD;omega)) ?_;by_cases yQ:oy g a=true;rotate_left
  ·exact m144
  have hFa:=ZoN.1 yQ;refine fC (ai @ae @yQ) (Zhv hg hFa.node) ?_;refine fC @ae (ZmZ hg h0 ho hd hk) ?_;by_cases cl:dS g a=((kd g.V k:Nat):Int);rotate_left
  ·have hf:=qC λh=>cl (h.kind k hk);exact dM (ai @ae @cl) @hf
  by_cases hN:o.Θ/\a.op=t.op
  ·have hf:=qC λh=>h.nest hN.1 hN.2;obtain⟨Dr,hN2⟩:=hN;exact dM (aj5 @ae @cl @cz @Dr @hN2) @hf
  have aP:o.Θ->¬a.op=t.op:=λh1 h2=>hN ⟨h1,h2⟩;have cU:=ZoO (mc:=mc) hg h0 ho a;generalize hU:decide (o.Ω≠0/\a.op=o.Ω-1)=U at cU;have fJ:(U=false)->(o.comm->∀(j:Nat)p,i=j+1->t.Y[j]?=some p->aU p a<=0)->i+1<=t.Y.length/\∀(j:Nat)a,j<i+1->t.Y[j]?=some a->e6 g a/\ArgOk g t.op o d t.Y j a:=λuW hc=>⟨om,λj a' hj eU=>by
   by_cases e:j=i
   ·subst e;rw[ha]at eU;injection eU with eU
    subst eU;refine⟨hFa,λk' dZ=>?_,λh1 h2=>hN ⟨h1,h2⟩,λh1 h2=>?_,hc⟩
    ·rw[hk]at dZ;injection dZ with dZ
     subst dZ;exact cl
    ·rw[uW]at hU;simp only[decide_eq_false_iff_not]at hU;exact hU ⟨h1,h2⟩
   ·exact hall j a' om eU⟩
  rcases Bool.eq_false_or_eq_true o.Θ with nk|nk
  all_goals (
   refine fC (aj5 @ae @cl @cz @nk @aP) (cU) ?_;rcases Bool.eq_false_or_eq_true U with hu|hu
   ·have hf:=qC λh=>by
     rw[hu]at hU;simp only[decide_eq_true_eq]at hU;exact h.Ω hU.1 hU.2
    refine fR (ai @ae @hu) ?_;exact fT @hf
   rcases Bool.eq_false_or_eq_true o.comm with iv|iv
   rotate_left
   ·have hq:=fJ hu (λh=>by rw[iv]at h;cases h);refine fR (aj4 @ae @hu @cz @iv) ?_;have F:=aj5 @gp @ae @cz @iv @nk;refine gG ?_;exact⟨i+1,hq,gw,gw,om⟩
   rcases Nat.eq_zero_or_pos i with sH|sH
   ·have hq:=fJ hu (λ_ j p h=>om);have hi0':¬((0:Int)<i):=om;refine fR (aj5 @ae @hu @cz @iv @hi0') ?_;have F:=aj5 @gp @ae @cz @iv @nk;refine gG ?_;exact⟨i+1,hq,gw,gw,om⟩
   obtain⟨j,rfl⟩:∃j,i=j+1:=⟨i-1,om⟩;obtain⟨p,hp⟩:∃p,t.Y[j]?=some p:=⟨_,Taa om⟩;have cC:=Zu5 (k4.mem (Tac hp)) (k4.mem hm);have hgt0:(0:Int)<((j+1:Nat):Int):=om;have d6:IntKind.i64.wrap (((j+1:Nat):Int)-1)=(j:Int):=kJ om om om;refine fC (aj7 @ae @hu @cz @iv @hgt0 @d6 @hp) (cC) ?_;by_cases hc:0<aU p a
   ·have hf:=qC λh=>by have:=h.ord iv j p rfl hp;omega
    refine fR (ai @ae @hc) ?_;exact fT @hf
   ·have hq:=fJ hu (λ_ j' p' h et=>by
     have:j'=j:=om;subst this;rw[hp]at et;injection et with et
     subst et;omega)
    refine fR (ai @ae @hc) ?_
    (have F:=aj5 @gp @ae @cz @iv @nk;refine gG ?_;exact⟨j+1+1,hq,gw,gw,om⟩))
def Ztl(hg:SgnOk g){t:Tm}(aq:bc t)(hb:ah t<=iD):aI e0 63 [.I (.ptr (bx g mc)),.agg (ax t)] [GW (oy g t)]:=ZnE hg _ t (Tan _) aq hb
structure TermOk(g:Sgn)(t:Tm):Prop where
 size:ah t<=60
 depth:aH t<=20
 Η:e6 g t
open Classical in
def yA(g:Sgn)(t:Tm):Bool:=decide (TermOk g t)
def ZgY{g:Sgn}{t:Tm}(h:TermOk g t):yA g t:=by simp[yA,h]
def E8{g:Sgn}{t:Tm}(h:¬TermOk g t):yA g t=false:=by simp[yA,h]
def Zm1{g:Sgn}{t:Tm}(h1:ah t<=60)(h2:aH t<=20):oy g t=yA g t:=by
 unfold oy yA;congr 1;exact propext ⟨λh=>⟨h1,h2,h⟩,λh=>h.Η⟩
def Zm2(hg:SgnOk g){t:Tm}(aq:bc t)(hb:ah t<=iD):aI e0 30 [.I (.ptr (bx g mc)),.agg (ax t)] [GW (yA g t)]:=by
 have bT:¬TermOk g t->yA g t=false:=E8;refine gI 27 Tryz.func30 ?_;refine eH @ae @ae (Zls hb) ?_;by_cases h1:ah t<=60;rotate_left
 ·have hf:=bT λh=>h1 h.size;exact dM (ai @ae (om:¬((ah t:Int)<=60))) @hf
 refine fC (ai @ae (om:((ah t:Int)<=60))) (ZkS hb) ?_;by_cases h2:aH t<=20;rotate_left
 ·have hf:=bT λh=>h2 h.depth;exact dM (ai @ae (om:¬((aH t:Int)<=20))) @hf
 refine fC (ai @ae (om:((aH t:Int)<=20))) (Ztl hg aq hb) ?_;exact dM @ae (Zm1 (g:=g) h1 h2)
end
mutual
theorem A0:∀{a b:Tm},aU a b=0->a=b
 | .mk o n s x,.mk o' n' s' x',h=>by
  simp only[aU,fP]at h;split at h
  ·rename_i h1;split at h
   ·rename_i h2;split at h
    ·rename_i h3;split at h
     ·rename_i h4;rw[A4.1 h1,ZgS.1 h2,A4.1 h3,Zm3 h4]
     ·contradiction
    ·contradiction
   ·contradiction
  ·contradiction
theorem Zm3:∀{a b:AI},fg a b=0->a=b
 |[],[],_=>rfl
 |[],_::_,h=>by simp[fg]at h
 |_::_,[],h=>by simp[fg]at h
 | x::xs,y::ys,h=>by
  simp only[fg,fP]at h;split at h
  ·rename_i h1;split at h
   ·rename_i h2;rw[A0 h1,Zm3 h2]
   ·contradiction
  ·contradiction
end
mutual
theorem Cp:∀(a:Tm),aU a a=0
 |.mk o n s x=>by simp only[aU,fP,A4.2 (rfl:o=o),A4.2 (rfl:s=s),ZgS.2 (rfl:n=n),Zm4 x,if_true]
theorem Zm4:∀(a:AI),fg a a=0
 |[]=>rfl
 |x::xs=>by simp only[fg,fP,Cp x,Zm4 xs,if_true]
end
def ro{a b:Tm}:aU a b=0↔a=b:=⟨A0,λh=>h▸Cp a⟩
def Fh{a b:Tm}(ha:bc a)(hb:bc b):aI e0 99 [.agg (ax a),.agg (ax b)] [GW (decide (aU a b=0))]:=by
 refine gI 31 Tryz.func99 ?_;refine eH @ae @ae (Cn ha hb) ?_;exact dM @ae @ae
section
variable{g:Sgn}
def ZpX(aq:kL g)(hg:¬SgnOk g):aI e0 28 [.agg (ck g)] [.I (.A (.pointer none)),GW false]:=by
 have hs:oS g=false:=Zjc hg;have c:=Zje aq;rw[hs,ck]at c;refine gI 287 Tryz.func28 ?_;refine eH @sT @sT (c) ?_;exact dM @sT @sT
def Zj9(aq:kL g)(hg:SgnOk g){t:Tm}(ht:sy g t):aI e0 153 [.agg (ck g),.agg (ax t)] [GT (dS g t)]:=by
 have c2:=ZfB hg.V;rw[gt]at c2;refine gI 2111 Tryz.func153 ?_;refine ce (ai @ae @sT) @sT (c2) @sT ?_;rcases ht with⟨h1,h2,h3,h4,h5⟩|⟨o,d,h⟩
 ·exact fT (aj6 @ae @h1 @h3 (CW hg.V h3 h4) @iM (by simp[dS,h1]:dS g t=kd g.V t.sort))
 ·have hn:=h.op;obtain⟨d',dG,rV,tK,_⟩:=hg.first h.at';rw[h.fst]at dG;injection dG with dG
  subst dG;have d4:=h.lo;have lE:=h.at';have xu:=h.fst;exact fT (aj11 @ae @hn @d4 @lE @cz @xu @jD @rV (CW hg.V rV tK) @iM (by simp[dS,h.op,Zj5 h.at' h.fst]:dS g t=kd g.V d.Β))
def j4(o:Opr):Tm:=.mk (if o.Ω=0 then 0 else o.Ω-1) .empty 0 []
def ZoW(hg:SgnOk g){op:Int}{o:Opr}(h0:0<=op)(ho:g.ops[op.toNat]?=some o):aI e0 152 [.agg (ck g),GT op] [.agg (ax (j4 o)),GW (!decide (o.Ω=0))]:=by
 refine xR λlG d4 lm=>?_;have kj:=hg.len;have hw:IntKind.i64.wrap (o.Ω-1)=o.Ω-1:=kJ rfl om om;refine gI 4151 Tryz.func152 ?_;by_cases hu:o.Ω=0
 ·refine fG (aj5 @sT @h0 @ho @cz @hu) ?_;refine CO (Zon ?_);simp[oQ,na,mG,gs,hu,j4,ax,az,gm,jz,vC,aJ,pz,EQ,ER]
 ·refine fG (aj6 @sT @h0 @ho @cz @hu @hw) ?_;refine CO (Zon ?_);simp[oQ,na,mG,gs,hu,j4,ax,az,gm,jz,vC,aJ,pz]
end
def m237(h:G3:=by
 have h2:Lib.compareBytes [] (z::zs)=-1:=rfl;rw[this,h2];unfold jI;omega):G3:=h
def Ey(h:G3:=by
 simp only[h1,h2,h3,if_true,if_false];omega):G3:=h
def m219(h:G3:=by
 constructor
 ·rintro(h|h|h)<;>simp[h]
 ·rintro(h|h|h)<;>simp[h]):G3:=h
def m211(h:G3:=by
 cases l' with
 |nil=>rfl
 |cons y ys=>exact absurd ((hm y).2 (by simp)) (by simp)):G3:=h
def m166(h:G3:=by
 simp only[Tbh];constructor
 ·exactλh=>.inr h
 ·rintro(h|h)
  ·exact .inl (by rw[h,e])
  ·exact h):G3:=h
def jI(a b c:Int):Prop:=((a<=0->b<=0->c<=0)/\(a<0->b<=0->c<0)/\(a<=0->b<0->c<0))/\((0<=a->0<=b->0<=c)/\(0<a->0<=b->0<c)/\(0<=a->0<b->0<c))
def Fy(p q:Int):fP [p,q]=if p=0 then q else p:=by
 simp only[fP];split
 ·split<;>simp_all
 ·rfl
def ZCo(p q r s:Int):fP [p,q,r,s]=fP [p,fP [q,fP [r,s]]]:=by
 simp only[Fy,fP];by_cases h1:p=0<;>by_cases h2:q=0<;>by_cases h3:r=0<;>by_cases h4:s=0<;>simp[h1,h2,h3,h4]
def jI.lex{a b c a' b' c':Int}(h:jI a b c)(h':jI a' b' c'):jI (fP [a,a']) (fP [b,b']) (fP [c,c']):=by
 simp only[Fy];unfold jI at *;by_cases h1:a=0
 ·by_cases h2:b=0
  ·by_cases h3:c=0
   ·simp only[h1,h2,h3,if_true];exact h'
   ·omega
  ·by_cases h3:c=0
   ·omega
   ·exact Ey
 ·by_cases h2:b=0
  ·by_cases h3:c=0
   ·omega
   ·exact Ey
  ·by_cases h3:c=0
   ·exact Ey
   ·simp only[h1,h2,h3,if_false];omega
def Cs(p q:Int):fP [-p,-q]=-fP [p,q]:=by
 simp only[Fy];by_cases h:p=0
 ·simp[h]
 ·have:¬-p=0:=om;simp[h,this]
def Zka(a b c:Int):jI (gg a b) (gg b c) (gg a c):=by
 unfold jI gg;by_cases h1:a<b<;>by_cases h2:b<c<;>by_cases h3:a<c<;>by_cases h4:b<a<;>by_cases h5:c<b<;>by_cases h6:c<a<;>simp only[h1,h2,h3,h4,h5,h6,if_true,if_false]<;>omega
def Zkb(a b:Int):gg b a=-gg a b:=by
 unfold gg;by_cases h1:a<b<;>by_cases h2:b<a<;>simp only[h1,h2,if_true,if_false]<;>omega
def Zjh(x y:UInt8)(xs ys:List UInt8):Lib.compareBytes (x::xs) (y::ys)=fP [gg x.toNat y.toNat,Lib.compareBytes xs ys]:=by
 rw[Fy];simp only[Lib.compareBytes,gg,UInt8.lt_iff_toNat_lt];by_cases h1:x.toNat<y.toNat
 ·have:((x.toNat:Int)<y.toNat):=om;simp[h1,this]
 ·have pL:¬((x.toNat:Int)<y.toNat):=om;by_cases h2:y.toNat<x.toNat
  ·have:((y.toNat:Int)<x.toNat):=om;simp[h1,h2,pL,this]
  ·have:¬((y.toNat:Int)<x.toNat):=om;simp[h1,h2,pL,this]
def ZqO:∀(a b c:List UInt8),jI (Lib.compareBytes a b) (Lib.compareBytes b c) (Lib.compareBytes a c)
 |[],[],[]=>by simp[Lib.compareBytes,jI]
 |[],[],_::_=>by simp[Lib.compareBytes,jI]
 |[],_::_,[]=>by simp[Lib.compareBytes,jI]
 |[],y::ys,z::zs=>by
  have:Lib.compareBytes [] (y::ys)=-1:=rfl;exact m237
 |_::_,[],[]=>by simp[Lib.compareBytes,jI]
 |x::xs,[],z::zs=>by
  have:Lib.compareBytes (x::xs) []=1:=rfl;exact m237
 |x::xs,y::ys,[]=>by
  have:Lib.compareBytes (x::xs) []=1:=rfl;have h2:Lib.compareBytes (y::ys) []=1:=rfl;rw[this,h2];unfold jI;omega
 |x::xs,y::ys,z::zs=>by
  simp only[Zjh];exact(Zka _ _ _).lex (ZqO xs ys zs)
def ZqP:∀(a b:List UInt8),Lib.compareBytes b a=-Lib.compareBytes a b
 |[],[]=>rfl
 |[],_::_=>rfl
 |_::_,[]=>rfl
 |x::xs,y::ys=>by rw[Zjh,Zjh,Zkb,ZqP xs ys,Cs]
mutual
theorem sj:∀(a b:Tm),aU b a=-aU a b
 |.mk o n s a,.mk o' n' s' a'=>by
  simp only[aU,ZCo];rw[Zkb o o',Zkb s s',ZoX a a',show oU n' n=-oU n n' from ZqP _ _,Cs,Cs,Cs]
theorem ZoX:∀(a b:AI),fg b a=-fg a b
 |[],[]=>by simp[fg]
 |[],_::_=>by simp[fg]
 |_::_,[]=>by simp[fg]
 |x::xs,y::ys=>by
  simp only[fg];rw[sj x y,ZoX xs ys,Cs]
end
mutual
theorem Zg8:∀(a b c:Tm),jI (aU a b) (aU b c) (aU a c)
 |.mk o n s a,.mk o' n' s' a',.mk o'' n'' s'' a''=>by
  simp only[aU,ZCo];exact(Zka _ _ _).lex ((ZqO _ _ _).lex ((Zka _ _ _).lex (ZoY a a' a'')))
theorem ZoY:∀(a b c:AI),jI (fg a b) (fg b c) (fg a c)
 |[],[],[]=>by simp[fg,jI]
 |[],[],_::_=>by simp[fg,jI]
 |[],_::_,[]=>by simp[fg,jI]
 |[],_::_,_::_=>by simp only[fg];unfold jI;omega
 |_::_,[],[]=>by simp[fg,jI]
 |_::_,[],_::_=>by simp only[fg];unfold jI;omega
 |_::_,_::_,[]=>by simp only[fg];unfold jI;omega
 |x::xs,y::ys,z::zs=>by
  simp only[fg];exact(Zg8 x y z).lex (ZoY xs ys zs)
end
def Zej{a b c:Tm}(h1:aU a b<0)(h2:aU b c<0):aU a c<0:=(Zg8 a b c).1.2.1 h1 om
def EX{a b c:Tm}(h1:aU a b<=0)(h2:aU b c<=0):aU a c<=0:=(Zg8 a b c).1.1 h1 h2
def qK(l:AI):Prop:=l.Pairwise λa b=>aU a b<0
def qK.ext {l l':AI} (h:qK l) (h':qK l') (hm:∀t,t∈l↔t∈l'):l=l':=by
 induction l generalizing l' with
 |nil =>
  exact m211
 | cons x xs ih =>
  cases l' with
  |nil=>exact absurd ((hm x).1 (by simp)) (by simp)
  | cons y ys =>
   have h1:=List.pairwise_cons.1 h;have h2:=List.pairwise_cons.1 h';have e:x=y:=by
    rcases Tbh.1 ((hm x).1 (by simp))with e|hx
    ·exact e
    ·rcases Tbh.1 ((hm y).2 (by simp))with e|hy
     ·exact e.symm
     ·have a1:=h1.1 y hy;have a2:=h2.1 x hx;rw[sj x y]at a2;omega
   subst e;refine congrArg (x::·) (ih h1.2 h2.2 λt=>⟨λht=>?_,λht=>?_⟩)
   ·rcases Tbh.1 ((hm t).1 (Tal _ ht))with e|h3
    ·subst e;have:=h1.1 t ht;rw[Cp]at this;omega
    ·exact h3
   ·rcases Tbh.1 ((hm t).2 (Tal _ ht))with e|h3
    ·subst e;have:=h2.1 t ht;rw[Cp]at this;omega
    ·exact h3
def fm(t:Tm):AI->AI
 |[]=>[t]
 |x::xs=>if aU x t<0 then x::fm t xs else if aU x t=0 then x::xs else t::x::xs
def Zlw{t u:Tm}:∀{l:AI},u∈fm t l↔u=t\/u∈l
 |[]=>by simp[fm]
 | x::xs=>by
  simp only[fm];split
  ·simp only[Tbh,Zlw (l:=xs)];exact m219
  ·split
   ·rename_i h0;have e:=A0 h0;exact m166
   ·simp only[Tbh]
def qK.ins {t:Tm}:∀{l:AI},qK l->qK (fm t l)
 |[],_=>by simp[fm,qK]
 | x::xs,h=>by
  have h1:=List.pairwise_cons.1 h;simp only[fm];split
  ·rename_i hx;refine List.pairwise_cons.2 ⟨λu hu=>?_,qK.ins h1.2⟩;rcases Zlw.1 hu with e|hu
   ·rw[e];exact hx
   ·exact h1.1 u hu
  ·split
   ·exact h
   ·rename_i h2 h3;have h4:aU t x<0:=by rw[sj x t];omega
    refine List.pairwise_cons.2 ⟨λu hu=>?_,h⟩;rcases Tbh.1 hu with e|hu
    ·rw[e];exact h4
    ·exact Zej h4 (h1.1 u hu)
def pB(l:AI):AI:=l.foldl (λr t=>fm t r) []
def Zlx{l r:AI}(h:qK r):qK (l.foldl (λr t=>fm t r) r)/\∀u,u∈l.foldl (λr t=>fm t r) r↔u∈l\/u∈r:=by
 induction l generalizing r with
 |nil=>exact⟨h,λu=>by simp⟩
 | cons x xs ih =>
  have:=ih (r:=fm x r) h.ins;refine⟨this.1,λu=>?_⟩;rw[List.foldl_cons,this.2,Zlw,Tbh];constructor
  ·rintro(h|h|h)
   ·exact .inl (.inr h)
   ·exact .inl (.inl h)
   ·exact .inr h
  ·rintro((h|h)|h)
   ·exact .inr (.inl h)
   ·exact .inl h
   ·exact .inr (.inr h)
def Cq(l:AI):qK (pB l):=(Zlx List.Pairwise.nil).1
def Fi{l:AI}{u:Tm}:u∈pB l↔u∈l:=by
 have:=(Zlx (l:=l) (r:=[]) List.Pairwise.nil).2 u;simpa[pB]using this
def ZqQ{l l':AI}(h:qK l')(hm:∀t,t∈l'↔t∈l):pB l=l':=(Cq l).ext h λt=>Fi.trans (hm t).symm
mutual
def gf:Tm->AI
 |.mk op nm so args=>if op=-1 then[.mk (-1) nm so []]else iA args
def iA:AI->AI
 |[]=>[]
 |t::ts=>gf t++iA ts
end
def dq(t:Tm):AI:=pB (gf t)
def zTm0:Tm:=.mk 0 ByteArray.empty 0 []
def ke:Option Tm->AI->AI
 |_,[]=>[]
 |none,x::xs=>x::ke (some x) xs
 |some y,x::xs=>if aU x y=0 then ke (some x) xs else x::ke (some x) xs
def Bt:Option Tm->AI->Option Tm
 |p,[]=>p
 |_,x::xs=>Bt (some x) xs
def ZnG:∀(p:Option Tm)(l:AI)(x:Tm),ke p (l++[x])=match Bt p l with
  |none=>ke p l++[x]
  |some y=>if aU x y=0 then ke p l else ke p l++[x]
 |none,[],x=>rfl
 |some y,[],x=>by simp only[Tah,ke,Bt]
 |none,a::l,x=>by
  simp only[Taf,ke,Bt,ZnG (some a) l x];split
  ·rfl
  ·split<;>rfl
 | some y,a::l,x=>by
  simp only[Taf,ke,Bt,ZnG (some a) l x];split
  ·rfl
  ·split
   ·rfl
   ·split<;>rfl
def ZoZ:∀(p:Option Tm)(l:AI)(i:Nat)(y:Tm),l[i]?=some y->Bt p (l.take (i+1))=some y
 |p,[],i,y,h=>by simp at h
 |p,x::xs,0,y,h=>by simp at h;subst h;simp[Bt]
 |p,x::xs,i+1,y,h=>by
  simp only[Tbc,Bt];exact ZoZ (some x) xs i y (by simpa using h)
def Ztn{l:AI}{i:Nat}{x y:Tm}(hx:l[i+1]?=some x)(hy:l[i]?=some y):ke none (l.take (i+2))=if aU x y=0 then ke none (l.take (i+1))else ke none (l.take (i+1))++[x]:=by
 rw[(by simp[List.take_add_one,hx]:l.take (i+2)=l.take (i+1)++[x]),ZnG,ZoZ none l i y hy]
def ZHF{l:AI}{x:Tm}(hx:l[0]?=some x):ke none (l.take 1)=[x]:=by
 cases l with
 |nil=>simp at hx
 |cons a l=>simp at hx;subst hx;simp[ke]
def Up(l:AI):Prop:=l.Pairwise λa b=>aU a b<=0
def ZCp:∀(l:AI)(y:Tm),Up l->(∀x∈l,aU y x<=0)->qK (ke (some y) l)/\(∀z∈ke (some y) l,aU y z<0)/\∀z,(z=y\/z∈ke (some y) l)↔(z=y\/z∈l)
 |[],y,_,_=>⟨List.Pairwise.nil,λz h=>by simp[ke]at h,λz=>by simp[ke]⟩
 | x::xs,y,hu,hy=>by
  have h1:=List.pairwise_cons.1 hu;have hyx:=hy x Tas;obtain⟨k1,k2,k3⟩:=ZCp xs x h1.2 h1.1;simp only[ke];by_cases h0:aU x y=0
  ·rw[if_pos h0];have e:=A0 h0;subst e;exact⟨k1,k2,λz=>by rw[k3 z];simp⟩
  ·rw[if_neg h0];have am:aU y x<0:=by rw[sj x y]at hyx⊢;omega
   refine⟨List.pairwise_cons.2 ⟨k2,k1⟩,λz hz=>?_,λz=>?_⟩
   ·rcases Tbh.1 hz with rfl|hz
    ·exact am
    ·exact Zej am (k2 z hz)
   ·have:=k3 z;simp only[Tbh];rw[this]
def ZEL{l:AI}(h:Up l):ke none l=pB l:=by
 cases l with
 |nil=>rfl
 |cons x xs =>
  have h1:=List.pairwise_cons.1 h;obtain⟨k1,k2,k3⟩:=ZCp xs x h1.2 h1.1;simp only[ke];refine(ZqQ (List.pairwise_cons.2 ⟨k2,k1⟩) λt=>?_).symm;simp only[Tbh];exact k3 t
def fM(l:AI):AI:=l.mergeSort λa b=>decide (aU a b<=0)
def vI(l:AI):(fM l).Perm l:=List.mergeSort_perm l _
def CE(l:AI):Up (fM l):=by
 have h:=List.pairwise_mergeSort (le:=λa b=>decide (aU a b<=0)) (λa b c h1 h2=>by simp only[decide_eq_true_eq]at *;exact EX h1 h2) (λa b=>by
  simp only[Bool.or_eq_true,decide_eq_true_eq];have:=sj a b;omega) l
 exact h.imp λh=>by simpa using h
def Zmt:∀{l l':AI},Up l->Up l'->l.Perm l'->l=l'
 |[],l',_,_,h=>by have:=h.length_eq;cases l' with|nil=>rfl|cons _ _=>simp at this
 |x::xs,[],_,_,h=>by have:=h.length_eq;simp at this
 | x::xs,y::ys,h1,h2,h=>by
  have p1:=List.pairwise_cons.1 h1;have p2:=List.pairwise_cons.1 h2;have hx:x∈y::ys:=h.mem_iff.1 Tas;have hy:y∈x::xs:=h.mem_iff.2 Tas;have e:x=y:=by
   rcases Tbh.1 hx with e|hx
   ·exact e
   ·rcases Tbh.1 hy with e|hy
    ·exact e.symm
    ·have a1:=p2.1 x hx;have a2:=p1.1 y hy;refine A0 ?_;rw[sj x y]at a1;omega
  subst e;rw[Zmt p1.2 p2.2 h.cons_inv]
def Zvh{l l':AI}(h:l.Perm l'):pB l=pB l':=(Cq l).ext (Cq l') λt=>by rw[Fi,Fi,h.mem_iff]
mutual
theorem ZqR:∀{a b:Tm},ax a=ax b->a=b
 |.mk o n s a,.mk o' n' s' a',h=>by
  simp only[ax,List.cons.injEq,C.A.injEq,C.sl.injEq,Value.int.injEq,Value.string.injEq,true_and,and_true]at h;obtain⟨rfl,rfl,rfl,h⟩:=h;rw[Zo0 h]
theorem Zo0:∀{a b:AI},az a=az b->a=b
 |[],[],_=>rfl
 |[],_::_,h=>by simp[az]at h
 |_::_,[],h=>by simp[az]at h
 |x::xs,y::ys,h=>by
  simp only[az,List.cons.injEq]at h;rw[ZqR h.1,Zo0 h.2]
end
open Classical in
def ne(r:we):Tm:=if h:∃t,r=ax t then h.choose else zTm0
def Zmu(t:Tm):ne (ax t)=t:=by
 have h:∃t',ax t=ax t':=⟨t,rfl⟩;unfold ne;rw[dif_pos h];exact(ZqR h.choose_spec).symm
def ZHG(l:AI):(az l).map ne=l:=by
 rw[oq,List.map_map]
 conv=>rhs;rw[<- List.map_id l]
 exact List.map_congr_left λt _=>Zmu t
def ZeS(l:AI)(k:Nat):(az l).take k=az (l.take k):=by rw[oq,oq,List.map_take]
def ZfF(l:AI)(k:Nat):(az l).drop k=az (l.drop k):=by rw[oq,oq,List.map_drop]
def zj(a b:AI):az (a++b)=az a++az b:=by rw[oq,oq,oq,Tbw]
def Zhw(t:Tm):az [t]=[ax t]:=by simp[az]
def Zgo(a b:Tm):aI e0 67 [.agg (ax a),.agg (ax b)] [GW (decide (aU a b=0))]:=by
 refine gI (ts:=[.slot 4]) 31 Tryz.func67 ?_;refine eH @ae @ae (Zsd (Fo a b)) ?_;exact iF @ae @ae
def m201(h:G3:=by
 obtain⟨h1,rfl⟩:=Tad.1 h;exact List.drop_eq_getElem_cons h1):G3:=h
def ZqS{l:AI}(hp:m.Perm l)(hu:Up m):m=fM l:=Zmt hu (CE l) (hp.trans (vI l).symm)
def Zm5{l:AI}(hu:Up l):fM l=l:=(ZqS (List.Perm.refl _) hu).symm
def Zo1(l:AI):(fM l).length=l.length:=(vI l).length_eq
def Zto{l:AI}(h:l.Perm m):fM l=fM m:=Zmt (CE l) (CE m) ((vI l).trans (h.trans (vI m).symm))
def Up.get{l:AI}(h:Up l){i j:Nat}{x y:Tm}(qW:i<=j)(hx:l[i]?=some x)(hy:l[j]?=some y):aU x y<=0:=by
 rcases Nat.lt_or_ge i j with hl|hl
 ·obtain⟨h1,rfl⟩:=Tad.1 hx;obtain⟨h2,rfl⟩:=Tad.1 hy;exact List.pairwise_iff_getElem.1 h i j h1 h2 hl
 ·obtain rfl:i=j:=by omega
  rw[hx]at hy;injection hy with hy
  subst hy;rw[Cp];omega
def Zly{l:AI}{x:Tm}(h:x∈l.take k):∃i,i<k/\l[i]?=some x:=by
 obtain⟨i,hi⟩:=Tbl h;rw[List.getElem?_take]at hi;split at hi
 ·exact⟨i,by assumption,hi⟩
 ·cases hi
def Zlz{l:AI}{x:Tm}(h:x∈l.drop k):∃i,k<=i/\l[i]?=some x:=by
 obtain⟨i,hi⟩:=Tbl h;rw[Tbb]at hi;exact⟨k+i,om,hi⟩
def ZJa{x y:Tm}(h:¬aU x y<0):aU y x<=0:=by rw[sj x y];omega
def Up.append{l:AI}(hl:Up l)(hm:Up m)(h:∀x∈l,∀y∈m,aU x y<=0):Up (l++m):=List.pairwise_append.2 ⟨hl,hm,h⟩
def Up.left{l:AI}(h:Up (l++m)):Up l:=(List.pairwise_append.1 h).1
def Up.right{l:AI}(h:Up (l++m)):Up m:=(List.pairwise_append.1 h).2.1
def Up.take{l:AI}(h:Up l)(k:Nat):Up (l.take k):=List.Pairwise.sublist (List.take_sublist k l) h
def Up.drop{l:AI}(h:Up l)(k:Nat):Up (l.drop k):=List.Pairwise.sublist (List.drop_sublist k l) h
def Up.put{x:Tm}(hB:Up B){s:Nat}(h1:0<s->∃y,B[s-1]?=some y/\aU y x<=0)(h2:s<B.length->∃y,B[s]?=some y/\aU x y<=0):Up (B.take s++x::B.drop s):=by
 have k2:∀z∈B.drop s,aU x z<=0:=λz hz=>by
  obtain⟨i,hi,hz⟩:=Zlz hz;have hl:=(Tad.1 hz).1;obtain⟨y,hy,hc⟩:=h2 om;exact EX hc (hB.get hi hy hz)
 have k1:∀z∈B.take s,aU z x<=0:=λz hz=>by
  obtain⟨i,hi,hz⟩:=Zly hz;obtain⟨y,hy,hc⟩:=h1 om;exact EX (hB.get om hz hy) hc
 refine(hB.take s).append (List.pairwise_cons.2 ⟨k2,hB.drop s⟩) λz hz u hu=>?_;rcases Tbh.1 hu with rfl|hu
 ·exact k1 z hz
 ·obtain⟨i,hi,hz⟩:=Zly hz;obtain⟨j,hj,hu⟩:=Zlz hu;exact hB.get om hz hu
inductive Blks(k:Nat):AI->Prop where
 |last {l:AI} (hl:l.length<=k) (hu:Up l):Blks k l
 |cons {X r:AI} (hl:X.length=k) (hu:Up X) (hr:Blks k r):Blks k (X++r)
inductive Full(k:Nat):AI->Prop where
 |nil:Full k []
 |cons {X r:AI} (hl:X.length=k) (hu:Up X) (hr:Full k r):Full k (X++r)
def Full.snoc{X Z:AI}(h:Full k X)(hl:Z.length=k)(hu:Up Z):Full k (X++Z):=by
 induction h with
 |nil=>have:=Full.cons hl hu Full.nil;rwa [List.append_nil]at this
 |cons h1 h2 _ ih=>rw[Tbg];exact .cons h1 h2 ih
def Blks.up{l:AI}(h:Blks k l)(hl:l.length<=k):Up l:=by
 cases h with
 |last h1 h2=>exact h2
 |@cons X r h1 h2 h3 =>
  rw[Tae]at hl;have:r=[]:=Tao om;subst this
  rwa [List.append_nil]
def Blks.split{l:AI}(h:Blks k l)(hl:k<l.length):∃X r,l=X++r/\X.length=k/\Up X/\Blks k r:=by
 cases h with
 |last h1 h2=>omega
 |cons h1 h2 h3=>exact⟨_,_,rfl,h1,h2,h3⟩
def Blks.two{l:AI}(h:Blks k l)(hk:0<k)(hl:2*k<=l.length):∃A B r,l=A++B++r/\A.length=k/\B.length=k/\Up A/\Up B/\Blks k r:=by
 obtain⟨A,r,rfl,h1,h2,h3⟩:=h.split om;rw[Tae]at hl;rcases Nat.lt_or_ge k r.length with h4|h4
 ·obtain⟨B,r',rfl,h5,h6,h7⟩:=h3.split h4;exact⟨A,B,r',by rw[Tbg],h1,h5,h2,h6,h7⟩
 ·exact⟨A,r,[],by rw[List.append_nil],h1,om,h2,h3.up h4,.last (by simp) List.Pairwise.nil⟩
def ZCq{A:AI}{x y:Tm}(h:A.length=k):(A++x::B).set k y=A++y::B:=by
 subst h;rw[List.set_append_right _ _ (Tai _),Nat.sub_self,List.set_cons_zero]
def ZCr{A:AI}{x:Tm}(h:A.length=k):(A++x::B)[k]?=some x:=by
 subst h;rw[Tbr (Tai _),Nat.sub_self,Tat]
def ZHH{A:AI}{x y:Tm}(h:A.length=k):((A++y::x::B).set (k+1) y).set k x=A++x::y::B:=by
 have e1:(A++y::x::B).set (k+1) y=A++y::y::B:=by
  have:=ZCq (A:=A++[y]) (B:=B) (x:=x) (y:=y) (k:=k+1) (by simp[h]);simpa using this
 rw[e1,ZCq h]
def ZHI{A:AI}{x y:Tm}(h:A.length=k):(A++y::x::B)[k+1]?=some x:=by
 have:=ZCr (A:=A++[y]) (B:=B) (x:=x) (k:=k+1) (by simp[h]);simpa using this
def ZlA{l:AI}{i:Nat}{x:Tm}(h:l[i]?=some x):l.drop i=x::l.drop (i+1):=by
 exact m201
def Zgp{l:AI}{i:Nat}{x:Tm}(h:l[i]?=some x):l.take (i+1)=l.take i++[x]:=by
 rw[List.take_add_one,h];rfl
def ZEM{M1 M2:AI}{x:Tm}(h:Up (M1++M2))(h2:∀y∈M2,aU x y<=0)(h1:∀y,M1.getLast?=some y->aU y x<=0):Up (M1++x::M2):=by
 obtain⟨u1,u2,u3⟩:=List.pairwise_append.1 h;refine Up.append u1 (List.pairwise_cons.2 ⟨h2,u2⟩) λz hz u hu=>?_;rcases Tbh.1 hu with rfl|hu
 ·obtain⟨M0,y,rfl⟩:∃M0 y,M1=M0++[y]:=⟨M1.dropLast,M1.getLast (List.ne_nil_of_mem hz),(List.dropLast_concat_getLast _).symm⟩;have hy:=h1 y (by simp);rcases Tbi.1 hz with hz|hz
  ·exact EX ((List.pairwise_append.1 u1).2.2 z hz y (by simp)) hy
  ·simp only[Tbk]at hz;subst hz;exact hy
 ·exact u3 z hz u hu
def Ztp{M1 M2 L:AI}{x:Tm}(e:M1++M2=fM L)(h2:∀y∈M2,aU x y<=0)(h1:∀y,M1.getLast?=some y->aU y x<=0):M1++x::M2=fM (L++[x]):=by
 refine ZqS ?_ (ZEM (by rw[e];exact CE _:Up (M1++M2)) h2 h1);refine Tbx.trans ?_;rw[e];exact((vI L).cons x).trans (List.perm_append_comm (l₁:=[x]) (l₂:=L))
mutual
def t7:Tm->Int->Int
 |.mk _ _ _ args,l=>mq args (l-1)
def mq:AI->Int->Int
 |[],l=>l
 |t::ts,l=>if 0<=l then mq ts (t7 t l)else l
end
def ZCs:∀l,mq [] l=l:=λ_=>by rw[mq]
mutual
theorem Zm6:∀(t:Tm)(l:Int),0<=l->(-1<=t7 t l/\t7 t l<=l/\((ah t:Int)<=l->t7 t l=l-ah t)/\(l<ah t->t7 t l<0))
 | .mk _ _ _ args,l,hl=>by
  have:=Zik args (l-1) om;simp only[t7,ah];refine⟨this.1,om,λh=>?_,λh=>?_⟩
  ·have:=this.2.2.1 om;omega
  ·by_cases h1:0<=l-1
   ·exact this.2.2.2 om
   ·have h2:=this.2.1;omega
theorem Zik:∀(ts:AI)(l:Int),-1<=l->(-1<=mq ts l/\mq ts l<=l/\((au ts:Int)<=l->mq ts l=l-au ts)/\(l<au ts->mq ts l<0))
 |[],l,hl=>by simp only[mq,au];omega
 | t::ts,l,hl=>by
  simp only[mq,au];by_cases h0:0<=l
  ·rw[if_pos h0];have h1:=Zm6 t l h0;have h2:=Zik ts (t7 t l) h1.1;refine⟨h2.1,om,λh=>?_,λh=>?_⟩
   ·have e1:=h1.2.2.1 om;have e2:=h2.2.2.1 om;omega
   ·by_cases h3:(ah t:Int)<=l
    ·have e1:=h1.2.2.1 h3;exact h2.2.2.2 om
    ·have e1:=h1.2.2.2 om;omega
  ·rw[if_neg h0];have:=AZ ts;refine⟨hl,Int.le_refl _,λh=>om,λh=>om⟩
end
def Zm7{l:Int}(h:¬0<=l):mq ts l=l:=by
 cases ts with
 |nil=>rfl
 |cons t ts=>simp only[mq,if_neg h]
def Zji:∀(a b:AI)(l:Int),mq (a++b) l=mq b (mq a l)
 |[],b,l=>rfl
 |t::ts,b,l=>by
  simp only[Taf,mq];by_cases h:0<=l
  ·rw[if_pos h,if_pos h,Zji]
  ·rw[if_neg h,if_neg h,Zm7 h]
def Ztq{i:Nat}{t:Tm}{l:Int}(h:ts[i]?=some t)(h0:0<=mq (ts.take i) l):mq (ts.take (i+1)) l=t7 t (mq (ts.take i) l):=by
 rw[vF h,Zji];simp only[mq,if_pos h0]
def Ztr{i:Nat}{l:Int}(h0:¬0<=mq (ts.take i) l):mq ts l=mq (ts.take i) l:=by
 conv=>lhs;rw[<- Tbn i ts]
 rw[Zji,Zm7 h0]
def ZCt(t:Tm)(l:Int):t7 t l=mq t.Y (l-1):=by cases t;simp only[t7,Tm.Y]
def ZpY:∀(n:Nat)(t:Tm)(l:Int),ah t<n->ah t<=iD->0<=l->l<=60->aI e0 93 [.agg (ax t),GT l] [GT (t7 t l)]:=by
 intro n
 induction n with
 |zero=>intro t l h;omega
 |succ n ih =>
  intro t l hn hb Ag wq;have bP:=iB t;have di:=AZ t.Y;unfold iD at hb;have hw:IntKind.i64.wrap (l-1)=l-1:=kJ rfl om om;rw[ZCt];refine gI 65591 Tryz.func93 ?_;refine fG (ai @ae @hw) ?_;have F:=@ZCs;refine gL (ι:=Nat) [1,5,16] [] (λi=>[(5,GU i),(1,GU (mq (t.Y.take i) (l-1)))]) (λi=>[]) (λi=>i<=t.Y.length) (λi=>t.Y.length-i) (0) om (λi hi=>?_)
  have hsp:=Zik (t.Y.take i) (l-1) om;by_cases hl:i<t.Y.length;rotate_left
  ·have e:t.Y.take i=t.Y:=List.take_of_length_le om;exact fT (aj3 (om:¬((i:Int)<t.Y.length)) @e @ae)
  have ki:(i:Int)<t.Y.length:=om;by_cases h0:0<=mq (t.Y.take i) (l-1);rotate_left
  ·exact fT (aj4 @ki @h0 (Ztr h0) @ae)
  obtain⟨a,ha⟩:∃a,t.Y[i]?=some a:=⟨_,Taa hl⟩;have hm:=kv (Tac ha);refine ce (aj4 @ki @h0 @ae @ha) (ai @ae @ha) (ih a _ om (by unfold iD;omega) h0 om) @ae ?_;have F:=aj3 (bW (k:=i) om) (Ztq ha h0) @ae;refine gG ?_;exact⟨i+1,om,gw,gw,om⟩
def ZqT{t:Tm}:0<=t7 t 60↔ah t<=60:=by
 have:=Zm6 t 60 om;by_cases h:ah t<=60
 ·have:=this.2.2.1 om;omega
 ·have:=this.2.2.2 om;omega
def Zm8{t:Tm}(hb:ah t<=iD):aI e0 50 [.agg (ax t)] [GW (decide (ah t<=60/\aH t<=20))]:=by
 refine gI 7 Tryz.func50 ?_;refine eH @ae @ae (ZpY _ t 60 (Tan _) hb om om) ?_;by_cases h1:ah t<=60;rotate_left
 ·have pL:¬(0<=t7 t 60):=λh=>h1 (ZqT.1 h);exact dM (ai @ae @pL) @h1
 have pL:(0<=t7 t 60):=ZqT.2 h1;refine fC (ai @ae @pL) (ZrG hb) ?_;by_cases h2:aH t<=20
 ·exact dM (ai @ae (om:((aH t:Int)<=20))) (ai @h1 @h2)
 ·exact dM (ai @ae (om:¬((aH t:Int)<=20))) (ai @h1 @h2)
section
variable{g:Sgn}
open Classical in
def yB(g:Sgn)(t:Tm):Bool:=decide (sy g t)
def ZgZ{t:Tm}(h:sy g t):yB g t:=by simp[yB,h]
def Zts{t:Tm}(h:¬sy g t):yB g t=false:=by simp[yB,h]
def Zyu{t:Tm}:yB g t=true↔sy g t:=by simp[yB]
def Zyv (hg:SgnOk g) {t:Tm} (aq:bc t) (hb:ah t<=iD):aI e0 95 [.agg (ck g),.agg (ax t)] [GW (yB g t)]:=by
 have bT:¬sy g t->yB g t=false:=Zts;refine AF λk1 k2 k3 k4 bP di=>?_;have hn8:=hg.V.n8;have fI:=hg.V.n1;have kj:=hg.len;unfold iD at hb;have hwn:IntKind.i64.wrap ((g.V.O.length:Int)-1)=(g.V.O.length:Int)-1:=kJ rfl om om;have hwo:IntKind.i64.wrap ((g.ops.length:Int)-1)=(g.ops.length:Int)-1:=kJ rfl om om;refine gI 9444733036108034605695 Tryz.func95 ?_
 by_cases h1:t.op=-1
 ·have hV:sy g t->dp g t:=λh=>by
   rcases h with h|⟨o,d,h⟩
   ·exact h
   ·exact absurd h1 h.op
  refine eH (aj3 @ae @sT @h1) @ae (Zie k2) ?_;by_cases h2:jc t.name=true;rotate_left
  ·have hf:=bT λh=>h2 (hV h).2.1;exact dM (ai @ae (by simpa using h2:jc t.name=false)) @hf
  refine fC (aj3 @ae @h2 @hwn) (zr _ _ _) ?_;by_cases h3:0<=t.sort/\t.sort<g.V.O.length;rotate_left
  ·have hf:=bT λh=>h3 ⟨(hV h).2.2.1,(hV h).2.2.2.1⟩;exact dM (ai @ae (by simp only[decide_eq_false_iff_not];omega:decide (0<=t.sort/\t.sort<=(g.V.O.length:Int)-1)=false)) @hf
  have tt:decide (0<=t.sort/\t.sort<=(g.V.O.length:Int)-1):=by simp only[decide_eq_true_eq];omega
  by_cases h4:t.Y=[]
  ·exact dM (aj3 @ae @tt @h4) (ZgZ (g:=g) (.inl ⟨h1,h2,h3.1,h3.2,h4⟩))
  ·have hf:=bT λh=>h4 (hV h).2.2.2.2;have h4':¬((t.Y.length:Int)=0):=by
    intro h;apply h4;apply Tao;omega
   exact dM (aj3 @ae @tt @h4') @hf
 refine eH (aj3 @ae @sT @h1) (ai @ae @hwo) (zr _ _ _) ?_;by_cases h2:0<=t.op/\t.op<g.ops.length;rotate_left
 ·have hf:=bT λh=>by
   obtain⟨o,d,h⟩:=h.app h1;have:=(Tad.1 h.at').1;have:=h.lo;omega
  exact dM (ai @ae (by simp only[decide_eq_false_iff_not];omega:decide (0<=t.op/\t.op<=(g.ops.length:Int)-1)=false)) @hf
 have oC:decide (0<=t.op/\t.op<=(g.ops.length:Int)-1):=by simp only[decide_eq_true_eq];omega
 by_cases h4:t.name=ByteArray.empty;rotate_left
 ·have hf:=bT λh=>by
   obtain⟨o,d,h⟩:=h.app h1;exact h4 h.nm
  exact dM (aj4 @ae @oC @zw @h4) @hf
 by_cases h5:t.sort=0;rotate_left
 ·have hf:=bT λh=>by
   obtain⟨o,d,h⟩:=h.app h1;exact h5 h.so
  exact dM (aj5 @ae @oC @zw @h4 @h5) @hf
 have h0:=h2.1;obtain⟨o,ho⟩:∃o,g.ops[t.op.toNat]?=some o:=⟨_,Taa om⟩;obtain⟨d,hd,rV,tK,bS⟩:=hg.first ho;have BJ:sy g t->AppOk g t o d:=λh=>by
  obtain⟨o',d',h⟩:=h.app h1;exact m147
 have cA:=ZgV hd;rw[nH]at cA;refine ec (aj5 @ae @oC @zw @h4 @h5) (aj4 @ae @h0 @ho @cz) ?_
 cases ha:o.Θ with
 |false =>
  rw[ha]at cA;refine gB ?_;refine fC (ai @ae @ha) (cA) ?_;by_cases c:t.Y.length=d.Y.length
  ·have hT:=ZgZ (g:=g) (.inr ⟨o,d,h0,ho,hd,h4,h5,λh=>(by rw[ha]at h;cases h),λ_=>c⟩);exact dM (aj3 @ae (om:((t.Y.length:Int)=d.Y.length)) @ha) @hT
  ·have hf:=bT λh=>c ((BJ h).nas ha);exact dM (aj3 @ae (om:¬((t.Y.length:Int)=d.Y.length)) @ha) @hf
 |true =>
  refine gB ?_;refine fC (ai @ae @ha) (zr _ _ _) ?_;by_cases c:2<=t.Y.length/\t.Y.length<=7
  ·have hT:=ZgZ (g:=g) (.inr ⟨o,d,h0,ho,hd,h4,h5,λ_=>c,λh=>(by rw[ha]at h;cases h)⟩);exact dM (aj3 @ae (by simp only[decide_eq_true_eq];omega:decide ((2:Int)<=t.Y.length/\(t.Y.length:Int)<=7)) @ha) @hT
  ·have hf:=bT λh=>c ((BJ h).asc ha);exact dM (aj3 @ae (by simp only[decide_eq_false_iff_not];omega:decide ((2:Int)<=t.Y.length/\(t.Y.length:Int)<=7)=false) @ha) @hf
end
def m252(h:G3:=by
 refine gG ?_;exact⟨true,⟨λ_=>hf,λh=>by cases h⟩,gw,gw⟩):G3:=h
def m251(h:G3:=by
 exact hall j a (by have:=(Tad.1 hj).1;omega) hj):G3:=h
section
variable{g:Sgn}
open Classical in
def zx(g:Sgn)(op:Int)(args:AI):Bool:=decide (Zjz g op args)
def ZCu(hg:SgnOk g){op:Int}{o:Opr}(ho:g.ops[op.toNat]?=some o)(hu:o.Ω≠0){a:Tm}(ha:e6 g a)(bE:a.op=o.Ω-1):a=j4 o:=by
 have lG:=hg.axs o (Tac ho);have d4:=lG.lo;obtain⟨p,u,h⟩:=ha.node.app om;obtain⟨d,hd,_⟩:=hg.first ho;have e:a.op.toNat=o.Ω.toNat-1:=om;have hz:u.Y.length=0:=by
  have h2:=lG.two (.inr (.inr hu)) d hd;obtain⟨d0,sF⟩:∃x,d.Y[0]?=some x:=⟨_,Taa om⟩;obtain⟨d1,qV⟩:∃x,d.Y[1]?=some x:=⟨_,Taa om⟩;exact((h2.2 d0 d1 sF qV).2.2 hu p u (by rw[<- e];exact h.at') h.fst).1
 have iQ:p.Θ=false:=by
  cases hp:p.Θ with
  |false=>rfl
  |true =>
   have:=((hg.axs p (Tac h.at')).two (.inl hp) u h.fst).1;omega
 have hl:=h.nas iQ;have Ap:a.Y=[]:=Tao om;have nQ:=h.nm;have hso:=h.so
 cases a with
 |mk x n s l =>
  simp only[Tm.Y,Tm.name,Tm.sort,Tm.op]at *;subst Ap nQ hso bE;simp only[j4,if_neg hu]
def ZCv{o:Opr}(h0:0<=o.Ω)(h1:o.Ω<=14):bc (j4 o):=by
 rw[ZgA];simp only[j4,Tm.op,Tm.name,Tm.sort,Tm.Y,dI,and_true];refine⟨?_,by simp[maxLen],?_⟩
 ·unfold iT;split<;>omega
 ·unfold iT;omega
def Zvi (cZ:kL g) (hg:SgnOk g) {t:Tm} {o:Opr} {d:Dcl} (hA:AppOk g t o d) (hF:∀a∈t.Y,e6 g a) (aq:bc t) (hb:ah t<=iD):aI e0 96 [.agg (ck g),.agg (ax t)] [GW (zx g t.op t.Y)]:=by
 have bT:¬Zjz g t.op t.Y->zx g t.op t.Y=false:=λh=>by simp[zx,h]
 refine AF λk1 k2 k3 k4 bP di=>?_;unfold iD at hb;have h0:=hA.lo;have ho:=hA.at';have hd:=hA.fst;obtain⟨d',dG,rV,tK,bS⟩:=hg.first ho;rw[hd]at dG;injection dG with dG
 subst dG;refine xR λlG d4 lm=>?_;have kj:=hg.len;have cK:=ZfB hg.V;rw[gt]at cK;have cUn:=ZoW hg h0 ho;rw[ck]at cUn;have qC:∀(i:Nat)a,t.Y[i]?=some a->¬ArgOk g t.op o d t.Y i a->zx g t.op t.Y=false:=λi a ha h=>bT λhR=>h (hR o d ho hd i a ha);refine gI 9903595872146772515857895423 Tryz.func96 ?_;refine ce (aj5 @ae @sT @h0 @ho @cz) @ae (cK) @ae ?_;refine eH @ae @ae (cUn) ?_;refine ec @ae @ae ?_;have F:=@aJ;refine gL (ι:=Nat) [4,9,10,11,32,42,76,93] [] (λi=>[(9,GU i)]) (λi=>[]) (λi=>i<=t.Y.length/\∀(j:Nat)a,j<i->t.Y[j]?=some a->ArgOk g t.op o d t.Y j a) (λi=>t.Y.length-i) (0) (⟨om,λj a h=>absurd h om⟩) (λi hi=>?_)
 obtain⟨e7,hall⟩:=hi;by_cases hl:i<t.Y.length;rotate_left
 ·have hT:zx g t.op t.Y:=by
   simp only[zx,decide_eq_true_eq];intro o' d' cr dG j a hj;rw[ho]at cr;injection cr with cr
   subst cr;rw[hd]at dG;injection dG with dG
   subst dG;exact m251
  exact fT (aj3 @ae (om:¬((i:Int)<t.Y.length)) @hT)
 refine m99 λki a ha hm=>?_;have hFa:=hF a hm;have gp:=bW (k:=i) om;obtain⟨k,hk⟩:=ZiS hg ho hd hA.nas hl;obtain⟨iY,gU⟩:=bS k (Tac hk);have cl:=CW hg.V iY gU;have cKa:=Zj9 cZ hg hFa.node;rw[ck]at cKa;have cU:=Fh (k4.mem hm) (ZCv (o:=o) d4 om);have BD:o.Ω≠0->(aU a (j4 o)=0↔a.op=o.Ω-1):=λhu=>by
  rw[ro];constructor
  ·rintro h;rw[h];simp[j4,Tm.op,hu]
  ·exact ZCu hg ho hu hFa
 generalize hU:decide (aU a (j4 o)=0)=U at cU;have fJ:dS g a=((kd g.V k:Nat):Int)->(o.Θ->¬a.op=t.op)->(o.Ω≠0->U=false)->(o.comm->∀(j:Nat)p,i=j+1->t.Y[j]?=some p->aU p a<=0)->i+1<=t.Y.length/\∀(j:Nat)a,j<i+1->t.Y[j]?=some a->ArgOk g t.op o d t.Y j a:=λfv aP uW hc=>⟨om,λj a' hj eU=>by
  by_cases e:j=i
  ·subst e;rw[ha]at eU;injection eU with eU
   subst eU;refine⟨λk' dZ=>?_,aP,λh1 h2=>?_,hc⟩
   ·rw[hk]at dZ;injection dZ with dZ
    subst dZ;exact fv
   ·have:=uW h1;rw[this]at hU;simp only[decide_eq_false_iff_not]at hU;exact hU ((BD h1).2 h2)
  ·exact hall j a' om eU⟩
 have xw:d.Y[(eG o i:Nat)]?=some k:=hk;refine fG (aj3 @ae @ki @ha) ?_;refine gM (ι:=Unit) [11] [] (λu=>[(11,GU (eG o i:Nat))]) (λu=>[]) (λu=>True) ?_ (λu hu=>Exists.intro _ (ai (Wk.refl _) ?_))
 ·rcases Bool.eq_false_or_eq_true o.Θ with nk|nk
  ·have F:=aj3 @cz @nk @Zxq;exact GF
  ·have F:=aj4 @cz @nk @Zxq @if_false.{1};exact GF
 refine fG @ae ?_;refine gM (ι:=Bool) [76] [] (λx=>[(76,GX x)]) (λx=>[]) (λx=>(x->zx g t.op t.Y=false)/\(x=false->dS g a=((kd g.V k:Nat):Int)/\(o.Θ->¬a.op=t.op)/\(o.Ω≠0->U=false))) ?_ (λx hx=>Exists.intro _ (ai (Wk.refl _) ?_))
 ·refine gB ?_;refine fC @ae (cKa) ?_;by_cases fv:dS g a=((kd g.V k:Nat):Int);rotate_left
  ·have hf:=qC i a ha λh=>fv (h.kind k hk);refine fR (aj9 @ae @cz @hd @jD @xw @iY @cl @iM @fv) ?_;have F:=@ae;exact m252
  by_cases hN:o.Θ/\a.op=t.op
  ·have hf:=qC i a ha λh=>h.nest hN.1 hN.2;obtain⟨Dr,hN2⟩:=hN;refine fR (aj11 @ae @cz @hd @jD @xw @iY @cl @iM @fv @Dr @hN2) ?_;have F:=ai @ae @Dr;exact m252
  have aP:o.Θ->¬a.op=t.op:=λh1 h2=>hN ⟨h1,h2⟩;rcases Bool.eq_false_or_eq_true o.Θ with nk|nk
  all_goals (
   by_cases hu:o.Ω=0
   ·refine fR (aj12 @ae @cz @hd @jD @xw @iY @cl @iM @fv @nk @aP @hu) ?_;have F:=aj3 @ae @nk @hu;refine gG ?_;exact⟨false,⟨λh=>(by cases h),λ_=>⟨fv,aP,λh=>absurd hu h⟩⟩,gw,gw⟩
   refine fC (aj12 @ae @cz @hd @jD @xw @iY @cl @iM @fv @nk @aP @hu) (cU) ?_;rcases Bool.eq_false_or_eq_true U with Au|Au
   ·have hf:=qC i a ha λh=>by
     rw[Au]at hU;simp only[decide_eq_true_eq]at hU;exact h.Ω hu ((BD hu).1 hU)
    refine fR (ai @ae @Au) ?_;have F:=aj3 @ae @nk @hu;refine gG ?_;exact⟨true,⟨λ_=>hf,λh=>by cases h⟩,gw,gw⟩
   ·refine fR (ai @ae @Au) ?_
    (have F:=aj3 @ae @nk @hu;refine gG ?_;exact⟨false,⟨λh=>(by cases h),λ_=>⟨fv,aP,λ_=>Au⟩⟩,gw,gw⟩))
 cases x with
 |true =>
  exact fT (hx.1 rfl)
 | false =>
  obtain⟨fv,aP,Au⟩:=hx.2 rfl;refine fG @ae ?_;rcases Bool.eq_false_or_eq_true o.comm with iv|iv
  rotate_left
  ·have hq:=fJ fv aP Au (λh=>by rw[iv]at h;cases h);have F:=aj4 @gp @ae @cz @iv;exact AK
  rcases Nat.eq_zero_or_pos i with sH|sH
  ·have hq:=fJ fv aP Au (λ_ j p h=>om);have F:=aj5 @gp @ae @cz @iv (om:¬((0:Int)<i));exact AK
  obtain⟨j,hj⟩:∃j,i=j+1:=⟨i-1,om⟩;obtain⟨p,hp⟩:∃p,t.Y[j]?=some p:=⟨_,Taa om⟩;have d6:IntKind.i64.wrap ((i:Int)-1)=(j:Int):=kJ om om om;refine gB ?_;refine fC (aj6 @ae @cz @iv (om:(0:Int)<i) @d6 @hp) ((Cn (k4.mem (Tac hp)) (k4.mem hm))) ?_;by_cases hc:0<aU p a
  ·have hf:=qC i a ha λh=>by have:=h.ord iv j p hj hp;omega
   exact dM (ai @ae @hc) @hf
  ·have hq:=fJ fv aP Au (λ_ j' p' h et=>by
    have:j'=j:=om;subst this;rw[hp]at et;injection et with et
    subst et;omega)
   refine fR (ai @ae @hc) ?_;have F:=aj4 @gp @ae @cz @iv;exact AK
def ZpZ (cZ:kL g) (hg:SgnOk g):∀(n:Nat)(t:Tm),ah t<n->bc t->ah t<=iD->aI e0 51 [.agg (ck g),.agg (ax t)] [GW (oy g t)]:=by
 intro n
 induction n with
 |zero=>intro t h;omega
 | succ n ih =>
  intro t hn aq hb;have bT:¬e6 g t->oy g t=false:=Zlu;refine AF λk1 k2 k3 k4 bP di=>?_;have cN:=Zyv hg aq hb;have cu:=hb;unfold iD at cu;rw[ck]at cN;have ih':=λa h1 h2 h3=>ih a h1 h2 h3;simp only[ck]at ih';refine gI 16794175 Tryz.func51 ?_;refine eH (ai @ae @sT) @ae (cN) ?_;by_cases hN:yB g t=true;rotate_left
  ·have hf:=bT λh=>hN (ZgZ h.node);exact dM (ai @ae (by simpa using hN:yB g t=false)) @hf
  have hNd:=Zyu.1 hN;refine ec (ai @ae @hN) @ae ?_;have F:=@aJ;refine gL (ι:=Nat) [4,5,14,24] [] (λi=>[(5,GU i)]) (λi=>[]) (λi=>i<=t.Y.length/\∀(j:Nat)a,j<i->t.Y[j]?=some a->e6 g a) (λi=>t.Y.length-i) (0) (⟨om,λj a h=>absurd h om⟩) (λi hi=>?_);obtain⟨e7,hall⟩:=hi;by_cases hl:i<t.Y.length;rotate_left
  ·have ki:¬((i:Int)<t.Y.length):=om;have hF:∀a∈t.Y,e6 g a:=λa ha=>by
    obtain⟨j,hj⟩:=Tbl ha;exact m251
   by_cases h1:t.op=-1
   ·exact fT (aj4 @ae @ki @h1 (ZgX (g:=g) (t:=t) (mH.2 ⟨hNd,hF,.inl h1⟩)))
   obtain⟨o,d,hA⟩:=hNd.app h1;have cR:=Zvi cZ hg hA hF aq hb;rw[ck]at cR;have e:zx g t.op t.Y=oy g t:=by
    unfold zx oy;congr 1;rw[mH];exact propext ⟨λh=>⟨hNd,hF,.inr h⟩,λh=>h.2.2.resolve_left h1⟩
   refine eH (aj3 @ae @ki @h1) (ai @ae @h1) (cR) ?_;exact dM @ae @e
  refine m99 λki a ha hm=>?_;have hsa:=kv hm;have gp:=bW (k:=i) om;refine eH (aj3 @ae @ki @ha) (ai @ae @ha) (ih' a om (k4.mem hm) (by unfold iD;omega)) ?_;by_cases yQ:oy g a=true;rotate_left
  ·exact m144
  have hq:i+1<=t.Y.length/\∀(j:Nat)a,j<i+1->t.Y[j]?=some a->e6 g a:=⟨om,λj a' hj eU=>by
   by_cases e:j=i
   ·subst e;rw[ha]at eU;injection eU with eU
    subst eU;exact ZoN.1 yQ
   ·exact hall j a' om eU⟩
  refine fR (ai @ae @yQ) ?_;have F:=ai @gp @ae;exact AK
def Zyw(cZ:kL g)(hg:SgnOk g){t:Tm}(aq:bc t)(hb:ah t<=iD):aI e0 51 [.agg (ck g),.agg (ax t)] [GW (oy g t)]:=ZpZ cZ hg _ t (Tan _) aq hb
def ZjC(cZ:kL g){t:Tm}(aq:bc t)(hb:ah t<=iD):aI e0 21 [.agg (ck g),.agg (ax t)] [GW (oS g&&yA g t)]:=by
 have cS:=ZmY cZ;rw[ck]at cS;refine gI 31 Tryz.func21 ?_;refine eH (ai @ae @sT) @ae (cS) ?_;by_cases hs:oS g=true;rotate_left
 ·have mz:oS g=false:=by simpa using hs
  exact dM (ai @ae @mz) @mz
 have cF:=Zyw cZ (Zlo.1 hs) aq hb;rw[ck]at cF;refine fC (ai @ae @hs) (Zm8 hb) ?_;by_cases h1:ah t<=60/\aH t<=20;rotate_left
 ·have hf:yA g t=false:=E8 λh=>h1 ⟨h.size,h.depth⟩;exact dM (aj3 @ae (by simp only[decide_eq_false_iff_not];exact h1:decide (ah t<=60/\aH t<=20)=false) @hs) (ai @hs @hf)
 have pL:decide (ah t<=60/\aH t<=20):=by simp only[decide_eq_true_eq];exact h1
 refine fC (aj3 @ae @pL @hs) (cF) ?_;exact dM (aj3 @ae @pL @hs) (ai @hs (Zm1 (g:=g) h1.1 h1.2))
end
def fo(o:Opr)(op:Int)(a:Tm):AI:=if o.Θ=true/\a.op=op then a.Y else if o.Ω≠0/\a.op=o.Ω-1 then[]else[a]
def cd(o:Opr)(op:Int)(xs:AI):AI:=xs.flatMap (fo o op)
def kD(g:Sgn)(o:Opr)(d:Dcl)(i:Nat)(a:Tm):Prop:=∃k,d.Y[eG o i]?=some k/\dS g a=kd g.V k
def bC(o:Opr)(l:AI):AI:=if o.comm=true then fM l else l
def b7(op:Int)(l:AI):Tm:=.mk op ByteArray.empty 0 l
def mD(o:Opr)(op:Int)(l:AI):Prop:=(o.Θ/\7<l.length)\/60<ah (b7 op l)\/20<aH (b7 op l)
def Cb(o:Opr)(d:Dcl)(n:Nat):Prop:=(o.Θ/\n<2)\/(o.Θ=false/\n≠d.Y.length)
open Classical in
def qI(o:Opr)(op:Int)(l:AI):Option Tm:=if o.Ω≠0/\l.length<2 then some (l.headD (j4 o))else if mD o op (bC o l)then none else some (b7 op (bC o l))
open Classical in
def lX(g:Sgn)(o:Opr)(d:Dcl)(op:Int)(xs:AI):Option Tm:=if Cb o d xs.length then none else if∀(i:Nat)a,xs[i]?=some a->kD g o d i a then qI o op (cd o op xs)else none
def ww(g:Sgn)(op:Int)(xs:AI):Option Tm:=match g.ops[op.toNat]? with
 |none=>none
 |some o=>match o.Z[0]? with
  |none=>none
  |some d=>lX g o d op xs
def vS{g:Sgn}{op:Int}{o:Opr}{d:Dcl}(ho:g.ops[op.toNat]?=some o)(hd:o.Z[0]?=some d)(xs:AI):ww g op xs=lX g o d op xs:=by simp only[ww,ho,hd]
def uF(o:Opr)(l:AI):(bC o l).Perm l:=by
 unfold bC;split
 ·exact vI l
 ·exact List.Perm.refl _
def Zil(o:Opr)(l:AI):(bC o l).length=l.length:=(uF o l).length_eq
def Zfd{l:AI}(h:l.Perm m):au l=au m:=by
 induction h with
 |nil=>rfl
 |cons x h ih=>simp only[au,ih]
 |swap x y l=>simp only[au];omega
 |trans h1 h2 a b=>rw[a,b]
def ZfO{l:AI}(h:l.Perm m):aB l=aB m:=by
 induction h with
 |nil=>rfl
 |cons x h ih=>simp only[aB,ih]
 |swap x y l=>simp only[aB];omega
 |trans h1 h2 a b=>rw[a,b]
def Opr.two{g:Sgn}(hg:SgnOk g){i:Nat}{o:Opr}{d:Dcl}(ho:g.ops[i]?=some o)(hd:o.Z[0]?=some d)(h:o.Θ\/o.comm\/o.Ω≠0):∃k1 k2,d.Y=[k1,k2]/\kd g.V k1=kd g.V k2/\((o.Θ\/o.Ω≠0)->kd g.V k1=kd g.V d.Β):=by
 have h2:=(hg.axs o (Tac ho)).two h d hd;obtain⟨a,b,mO⟩:=Zln h2.1;have h3:=h2.2 a b (by rw[mO];rfl) (by rw[mO];rfl);exact⟨a,b,mO,h3.1,h3.2.1⟩
def ZlB{g:Sgn}(hg:SgnOk g){i:Nat}{o:Opr}{d:Dcl}(ho:g.ops[i]?=some o)(hd:o.Z[0]?=some d)(hu:o.Ω≠0):TermOk g (j4 o)/\dS g (j4 o)=kd g.V d.Β:=by
 refine xR λlG d4 lm=>?_;obtain⟨k1,k2,hk,_⟩:=Opr.two hg ho hd (.inr (.inr hu));obtain⟨p,hp⟩:∃p,g.ops[o.Ω.toNat-1]?=some p:=⟨_,Taa om⟩;obtain⟨u,hfu,_⟩:=hg.first hp;have h2:=((lG.two (.inr (.inr hu)) d hd).2 k1 k2 (by rw[hk];rfl) (by rw[hk];rfl)).2.2 hu p u hp hfu;have e:j4 o=.mk (o.Ω-1) ByteArray.empty 0 []:=by simp only[j4,if_neg hu]
 have bE:((o.Ω-1:Int)).toNat=o.Ω.toNat-1:=om;have iQ:p.Θ=false:=by
  cases hpa:p.Θ with
  |false=>rfl
  |true=>have:=((hg.axs p (Tac hp)).two (.inl hpa) u hfu).1;omega
 have hA:AppOk g (j4 o) p u:=by
  rw[e];exact⟨by simp only[Tm.op];omega,by simp only[Tm.op];rw[bE];exact hp,hfu,rfl,rfl,λh=>(by rw[iQ]at h;cases h),λ_=>by simp only[Tm.Y,Tak];omega⟩
 refine⟨⟨?_,?_,mH.2 ⟨.inr ⟨p,u,hA⟩,?_,.inr ?_⟩⟩,?_⟩
 ·rw[e];simp only[ah,au];omega
 ·rw[e];simp only[aH,aB];omega
 ·rw[e];intro a ha;simp[Tm.Y]at ha
 ·rw[e];intro o' d' _ _ j a ha;simp[Tm.Y]at ha
 ·have DQ:¬((j4 o).op=-1):=hA.op;rw[dS,if_neg DQ,e];simp only[Tm.op];rw[Zj5 (by rw[bE];exact hp) hfu,h2.2]
structure FlOk(g:Sgn)(o:Opr)(op:Int)(b:Tm):Prop where
 Η:e6 g b
 size:ah b<=60
 depth:aH b<=20
 nest:o.Θ->b.op≠op
 Ω:o.Ω≠0->b.op≠o.Ω-1
def ZJb{g:Sgn}(hg:SgnOk g){op:Int}{o:Opr}{d:Dcl}(h0:0<=op)(ho:g.ops[op.toNat]?=some o)(hd:o.Z[0]?=some d){a:Tm}(ha:TermOk g a):∀b∈fo o op a,FlOk g o op b:=by
 intro b hb;unfold fo at hb;split at hb
 ·rename_i h;obtain⟨h1,h2⟩:=h;obtain⟨_,f2,f3⟩:=mH.1 ha.Η;have hR:=f3.resolve_left om;rw[h2]at hR;obtain⟨j,hj⟩:=Tbl hb;have hA:=hR o d ho hd j b hj;have s1:=kv hb;have s2:=Zig hb;have s3:=ha.size;have s4:=ha.depth;rw[iB]at s3;rw[zh]at s4;exact⟨f2 b hb,om,om,hA.nest,hA.Ω⟩
 ·rename_i h;split at hb
  ·simp at hb
  ·rename_i h';simp only[Tbk]at hb;subst hb;exact⟨ha.Η,ha.size,ha.depth,λh1 h2=>h ⟨h1,h2⟩,λh1 h2=>h' ⟨h1,h2⟩⟩
def ZlC{g:Sgn}(hg:SgnOk g){op:Int}{o:Opr}{d:Dcl}(h0:0<=op)(ho:g.ops[op.toNat]?=some o)(hd:o.Z[0]?=some d)(ha:∀a∈xs,TermOk g a):∀b∈cd o op xs,FlOk g o op b:=by
 intro b hb;obtain⟨a,h1,h2⟩:=List.mem_flatMap.1 hb;exact ZJb hg h0 ho hd (ha a h1) b h2
def ZHJ{g:Sgn}(hg:SgnOk g){op:Int}{o:Opr}{d:Dcl}{k1 k2:Int}(h0:0<=op)(ho:g.ops[op.toNat]?=some o)(hd:o.Z[0]?=some d)(hk:d.Y=[k1,k2])(fv:kd g.V k1=kd g.V k2){a:Tm}(ha:TermOk g a){i:Nat}(hK:kD g o d i a):∀b∈fo o op a,dS g b=kd g.V k1:=by
 have lE:∀(j:Nat)k,d.Y[j]?=some k->kd g.V k=kd g.V k1:=λj k h=>by
  rw[hk]at h
  match j,h with
  |0,h=>simp only[Tat,Taq]at h;rw[h]
  |1,h=>simp only[Tau,Tat,Taq]at h;rw[<- h,fv]
  |j+2,h=>simp at h
 intro b hb;unfold fo at hb;split at hb
 ·rename_i h;obtain⟨h1,h2⟩:=h;obtain⟨_,f2,f3⟩:=mH.1 ha.Η;have hR:=f3.resolve_left om;rw[h2]at hR;obtain⟨j,hj⟩:=Tbl hb;exact(hR o d ho hd j b hj).kind k1 (by rw[eG,if_pos h1,hk];rfl)
 ·split at hb
  ·simp at hb
  ·simp only[Tbk]at hb;subst hb;obtain⟨k,h1,h2⟩:=hK;rw[h2,lE _ _ h1]
def Zm9{g:Sgn}(hg:SgnOk g){op:Int}{o:Opr}{d:Dcl}{k1 k2:Int}(h0:0<=op)(ho:g.ops[op.toNat]?=some o)(hd:o.Z[0]?=some d)(hk:d.Y=[k1,k2])(fv:kd g.V k1=kd g.V k2)(ha:∀a∈xs,TermOk g a)(hK:∀(i:Nat)a,xs[i]?=some a->kD g o d i a):∀b∈cd o op xs,dS g b=kd g.V k1:=by
 intro b hb;obtain⟨a,h1,h2⟩:=List.mem_flatMap.1 hb;obtain⟨i,hi⟩:=Tbl h1;exact ZHJ hg h0 ho hd hk fv (ha a h1) (hK i a hi) b h2
def ZCw{o:Opr}{op:Int}(iQ:o.Θ=false)(a:Tm):(fo o op a).length<=1/\((fo o op a).length=1->fo o op a=[a]):=by
 unfold fo;rw[if_neg λh=>by rw[iQ]at h;cases h.1];split<;>simp
def ZlD{o:Opr}{op:Int}(iQ:o.Θ=false):∀(xs:AI),(cd o op xs).length<=xs.length/\((cd o op xs).length=xs.length->cd o op xs=xs)
 |[]=>⟨Tai _,λ_=>rfl⟩
 |a::xs=>by
  obtain⟨i1,i2⟩:=ZlD (op:=op) iQ xs;obtain⟨j1,j2⟩:=ZCw (op:=op) iQ a;have e:cd o op (a::xs)=fo o op a++cd o op xs:=rfl;rw[e,Tae,Tag];refine⟨om,λh=>?_⟩;rw[j2 om,i2 om];rfl
def Zg0{o:Opr}{op:Int}(iQ:o.Θ=false)(hu:o.Ω=0)(xs:AI):cd o op xs=xs:=by
 induction xs with
 |nil=>rfl
 |cons a xs ih =>
  have e:cd o op (a::xs)=fo o op a++cd o op xs:=rfl;rw[e,ih];unfold fo;rw[if_neg (λh=>by rw[iQ]at h;cases h.1),if_neg λh=>h.1 hu];rfl
def Zo2 {o:Opr} {op:Int} {g:Sgn} (hg:SgnOk g) (h0:0<=op) (ho:g.ops[op.toNat]?=some o) (nk:o.Θ) (hu:o.Ω=0):∀{xs:AI},(∀a∈xs,TermOk g a)->xs.length<=(cd o op xs).length
 |[],_=>Tai _
 | a::xs,ha=>by
  have ih:=Zo2 hg h0 ho nk hu (xs:=xs) λx hx=>ha x (Tal _ hx);have e:cd o op (a::xs)=fo o op a++cd o op xs:=rfl;rw[e,Tae,Tag];have:1<=(fo o op a).length:=by
   unfold fo;split
   ·rename_i h;obtain⟨o',d',hA⟩:=(ha a Tas).Η.node.app om;have:o'=o:=by have:=hA.at';rw[h.2,ho]at this;exact EN
    subst this;have:=(hA.asc nk).1;omega
   ·rw[if_neg λh=>h.1 hu];simp
  omega
def ZIC {g:Sgn} (hg:SgnOk g) {op:Int} {o:Opr} {d:Dcl} (h0:0<=op) (ho:g.ops[op.toNat]?=some o) (hd:o.Z[0]?=some d) (ha:∀a∈xs,TermOk g a) {t:Tm} (h:lX g o d op xs=some t):TermOk g t/\dS g t=kd g.V d.Β:=by
 unfold lX at h;split at h
 ·cases h
 rename_i wg;split at h;rotate_left
 ·cases h
 rename_i hK;have nN:=ZlC hg h0 ho hd ha;unfold qI at h;split at h
 ·rename_i hu;obtain⟨hu,hl⟩:=hu;injection h with h
  have hU:=ZlB hg ho hd hu;obtain⟨k1,k2,hk,fv,ny⟩:=Opr.two hg ho hd (.inr (.inr hu));have hfk:=Zm9 hg h0 ho hd hk fv ha hK
  cases hf:cd o op xs with
  |nil=>rw[hf]at h;simp only[List.headD]at h;subst h;exact hU
  |cons b bs =>
   rw[hf]at h nN hfk;simp only[List.headD]at h;subst h;have hb:=nN b Tas;exact⟨⟨hb.size,hb.depth,hb.Η⟩,by rw[hfk b Tas,ny (.inr hu)]⟩
 ·rename_i hu;split at h
  ·cases h
  rename_i hB;injection h with h
  subst h;have BA:¬(o.Θ/\7<(bC o (cd o op xs)).length):=λq=>hB (.inl q);have Gd:¬60<ah (b7 op (bC o (cd o op xs))):=λq=>hB (.inr (.inl q));have hB3:¬20<aH (b7 op (bC o (cd o op xs))):=λq=>hB (.inr (.inr q));have hp:=uF o (cd o op xs);have lS:=hp.length_eq;have iR:∀b,b∈bC o (cd o op xs)↔b∈cd o op xs:=λb=>hp.mem_iff;have DQ:¬((b7 op (bC o (cd o op xs))).op=-1):=by simp only[b7,Tm.op];omega
  refine⟨⟨om,om,mH.2 ⟨.inr ⟨o,d,h0,ho,hd,rfl,rfl,λnk=>?_,λiQ=>?_⟩,λa hm=>(nN a ((iR a).1 hm)).Η,.inr ?_⟩⟩,?_⟩
  ·simp only[b7,Tm.Y];have:¬(xs.length<2):=λq=>wg (.inl ⟨nk,q⟩);by_cases jt:o.Ω=0
   ·have:=Zo2 hg h0 ho nk jt ha;exact⟨om,by have:¬(7<(bC o (cd o op xs)).length):=λq=>BA ⟨nk,q⟩;omega⟩
   ·exact⟨by have:¬((cd o op xs).length<2):=λq=>hu ⟨jt,q⟩;omega,by have:¬(7<(bC o (cd o op xs)).length):=λq=>BA ⟨nk,q⟩;omega⟩
  ·simp only[b7,Tm.Y];have bh:xs.length=d.Y.length:=Classical.byContradiction λq=>wg (.inr ⟨iQ,q⟩);rw[lS];by_cases jt:o.Ω=0
   ·rw[Zg0 iQ jt,bh]
   ·obtain⟨k1,k2,hk,_⟩:=Opr.two hg ho hd (.inr (.inr jt));have h1:=(ZlD (op:=op) iQ xs).1;have:¬((cd o op xs).length<2):=λq=>hu ⟨jt,q⟩;rw[bh,hk]at h1;rw[hk];simp only[Tag,Tak]at h1⊢;omega
  ·intro o' d' cr dG i a hi;simp only[b7,Tm.op]at cr;rw[ho]at cr;injection cr with cr
   subst cr;rw[hd]at dG;injection dG with dG
   subst dG;simp only[b7,Tm.Y]at hi⊢;have hm:=Tac hi;have hf:=nN a ((iR a).1 hm);refine⟨λk hk=>?_,hf.nest,hf.Ω,λhc j p qW hj=>?_⟩
   ·by_cases lG:o.Θ\/o.comm\/o.Ω≠0
    ·obtain⟨k1,k2,tF,fv,_⟩:=Opr.two hg ho hd lG;rw[(Zm9 hg h0 ho hd tF fv ha hK a ((iR a).1 hm))];have:kd g.V k=kd g.V k1:=by
      generalize eG o i=n at hk;rw[tF]at hk
      match n,hk with
      |0,hk=>simp only[Tat,Taq]at hk;rw[hk]
      |1,hk=>simp only[Tau,Tat,Taq]at hk;rw[<- hk,fv]
      |n+2,hk=>simp at hk
     rw[this]
    ·have iQ:o.Θ=false:=by cases h:o.Θ with|false=>rfl|true=>exact absurd (.inl h) lG
     have hc:o.comm=false:=by cases h:o.comm with|false=>rfl|true=>exact absurd (.inr (.inl h)) lG
     have jt:o.Ω=0:=Classical.byContradiction λq=>lG (.inr (.inr q));rw[bC,if_neg (by rw[hc];simp),Zg0 iQ jt]at hi;obtain⟨k',h1,h2⟩:=hK i a hi;rw[hk]at h1;injection h1 with h1
     rw[h2,h1]
   ·rw[bC,if_pos hc]at hi hj;exact(CE _).get om hj hi
  ·rw[dS,if_neg DQ];simp only[b7,Tm.op];rw[Zj5 ho hd]
def e6.ok {g:Sgn} (hg:SgnOk g):∀(n:Nat)(t:Tm),ah t<n->e6 g t->bc t:=by
 intro n
 induction n with
 |zero=>intro t h;omega
 | succ n ih =>
  intro t hn hf;obtain⟨h1,h2,_⟩:=mH.1 hf;have bS:dI t.Y:=by
   have:∀l:AI,(∀a∈l,bc a)->dI l:=λl=>by
    induction l with
    |nil=>intro _;trivial
    |cons x xs ih=>intro h;exact⟨h x Tas,ih λa ha=>h a (Tal _ ha)⟩
   refine this _ λa ha=>ih a ?_ (h2 a ha);have:=kv ha;rw[iB]at hn;omega
  rw[ZgA];have qZ:g.V.O.length<=8:=hg.V.n8;rcases h1 with hv|⟨o,d,hA⟩
  ·obtain⟨v1,v2,v3,v4,v5⟩:=hv;have:t.name.size<=12:=by unfold jc at v2;simp only[Tar,decide_eq_true_eq]at v2;exact v2.1.1.1.2
   exact⟨by unfold iT;omega,by unfold maxLen;omega,by unfold iT;omega,bS⟩
  ·have h3:=hA.lo;have h4:=(Tad.1 hA.at').1;have h5:=hg.len;rw[hA.nm,hA.so];exact⟨by unfold iT;omega,by simp[maxLen],by unfold iT;omega,bS⟩
def TermOk.ok{g:Sgn}(hg:SgnOk g){t:Tm}(h:TermOk g t):bc t:=e6.ok hg _ t (Tan _) h.Η
def TermOk.arg{g:Sgn}{t a:Tm}(h:TermOk g t)(ha:a∈t.Y):TermOk g a:=by
 have s1:=kv ha;have s2:=Zig ha;have s3:=h.size;have s4:=h.depth;rw[iB]at s3;rw[zh]at s4;exact⟨om,om,(mH.1 h.Η).2.1 a ha⟩
def TermOk.app{g:Sgn}{t a:Tm}(h:TermOk g t)(ha:a∈t.Y):∃o d,AppOk g t o d:=by
 rcases h.Η.node with hv|h
 ·rw[hv.2.2.2.2]at ha;cases ha
 ·exact h
def ZID{g:Sgn}(hg:SgnOk g){op:Int}(h0:0<=op)(ha:∀a∈xs,TermOk g a){t:Tm}(h:ww g op xs=some t):TermOk g t:=by
 unfold ww at h
 cases ho:g.ops[op.toNat]? with
 |none=>rw[ho]at h;cases h
 | some o =>
  rw[ho]at h;simp only at h
  cases hd:o.Z[0]? with
  |none=>rw[hd]at h;cases h
  |some d =>
   rw[hd]at h;exact(ZIC hg h0 ho hd ha h).1
def Ztt{g:Sgn}{t:Tm}(h:TermOk g t):t.Y.length<=60:=by
 have h1:=h.size;rw[iB]at h1;have:=AZ t.Y;omega
def Zhk{r:we}(h:bd (Zaf .binding) r):∃(i0:Int)(t1:ByteArray)(i2:Int)(r3:sh)(i4:Int)(t5:ByteArray)(i6:Int)(r7:sh),r=[GS i0,.A (.string t1),GS i2,.sl r3,GS i4,.A (.string t5),GS i6,.sl r7]/\iT i0/\t1.size<=maxLen/\iT i2/\bu (Zaf .term) r3/\iT i4/\t5.size<=maxLen/\iT i6/\bu (Zaf .term) r7:=by
 obtain⟨c0,c1,c2,c3,c4,c5,c6,c7,rfl⟩:=len8 h.len;refine EH λh=>?_;obtain⟨h0,h1,h2,h3,h4,h5,h6,h7⟩:=h;obtain⟨i0,rfl,g0⟩:=vJ h0;obtain⟨t1,rfl,g1⟩:=Zjq h1;obtain⟨i2,rfl,g2⟩:=vJ h2;obtain⟨r3,rfl,g3⟩:=wL h3;obtain⟨i4,rfl,g4⟩:=vJ h4;obtain⟨t5,rfl,g5⟩:=Zjq h5;obtain⟨i6,rfl,g6⟩:=vJ h6;obtain⟨r7,rfl,g7⟩:=wL h7;exact⟨i0,t1,i2,r3,i4,t5,i6,r7,rfl,g0,g1,g2,g3,g4,g5,g6,g7⟩
def ZrH{i0:Int}{t1:ByteArray}{i2:Int}{r3:sh}{i4:Int}{t5:ByteArray}{i6:Int}{r7:sh}(g0:iT i0)(g1:t1.size<=maxLen)(g2:iT i2)(g3:bu (Zaf .term) r3)(g4:iT i4)(g5:t5.size<=maxLen)(g6:iT i6)(g7:bu (Zaf .term) r7):bd (Zaf .binding) [GS i0,.A (.string t1),GS i2,.sl r3,GS i4,.A (.string t5),GS i6,.sl r7]:=by
 refine Ed ?_;exact⟨CR g0,Zn7 g1,CR g2,Br g3,CR g4,Zn7 g5,CR g6,Br g7⟩
structure Bd where
 var:Tm
 to:Tm
abbrev GP:=List Bd
def dQ(b:Bd):we:=ax b.var++ax b.to
def xV(b:Bd):Prop:=bc b.var/\bc b.to
def uN(l:GP):Prop:=∀b∈l,xV b
def aK(l:GP):sh:=l.map dQ
def s6(a b:Bd):Int:=fP [aU a.var b.var,aU a.to b.to]
def Zvj{b:Bd}(h:xV b):bd (Zaf .binding) (dQ b):=by
 obtain⟨⟨o,n,s,a⟩,⟨o',n',s',a'⟩⟩:=b;simp only[xV,bc]at h;simp only[dQ,ax,Taf,Tah];exact ZrH h.1.1 h.1.2.1 h.1.2.2.1 (Zht a h.1.2.2.2) h.2.1 h.2.2.1 h.2.2.2.1 (Zht a' h.2.2.2.2)
def ZkT:∀{l:GP},uN l->bu (Zaf .binding) (aK l)
 |[],_=>by simp[aK,bu]
 |b::l,h=>by
  simp only[aK,Tbv,bu];exact⟨Zvj (h b (by simp)),ZkT (λm hm=>h m (by simp[hm]))⟩
def fE(l:GP):(aK l).length=l.length:=by simp[aK]
def rv(l:GP)(i:Nat):(aK l)[i]?=l[i]?.map dQ:=by simp[aK]
def zN:∀(b:Bd),(dQ b).length=8:=λb=>by simp[dQ,ae]
def ZGU:∀(b:Bd),(dQ b).take 8=dQ b:=λb=>List.take_of_length_le (by rw[zN];omega)
def ZGV:∀(b:Bd),(dQ b).drop 8=[]:=λb=>List.drop_eq_nil_of_le (by rw[zN];omega)
def Zyx:∀(b:Bd),(dQ b).take 4=ax b.var:=λ⟨v,t⟩=>by cases v;simp[dQ,ax]
def Zyy:∀(b:Bd),(dQ b).drop 4=ax b.to:=λ⟨v,t⟩=>by cases v;simp[dQ,ax]
def ZGW:∀(b:Bd),(dQ b).drop 2=GS b.var.sort::.sl (az b.var.Y)::ax b.to:=λ⟨v,t⟩=>by cases v;simp[dQ,ax,Tm.sort,Tm.Y]
def bd_o:∀(b:Bd),jA TK.I (dQ b)=some (A.d (D.I (C.A (Value.int IntKind.i64 b.var.op)))):=λ⟨v,t⟩=>by cases v;simp[dQ,ax,Tm.op,jA]
def bd_k:∀(b:Bd),(dQ b).all bQ:=λb=>by simp[dQ,List.all_append,ae]
def dz:=aj8 zN ZGU ZGV Zyx Zyy ZGW bd_o bd_k
def Zyz:∀(b:Bd),(dQ b).drop 1=.A (.string b.var.name)::GS b.var.sort::.sl (az b.var.Y)::ax b.to:=λ⟨v,t⟩=>by cases v;simp[dQ,ax,Tm.sort,Tm.Y,Tm.name]
def eI(l:GP):ZaD 8 (aK l):=by
 refine List.all_eq_true.2 λr hr=>?_;obtain⟨y,hy,rfl⟩:=Tbj.1 hr;simp[dQ,List.all_append,ae]
def AC(b:G5)(h:Bx G5->G4:=by
 intro B0
 rw[h2]at h;simp only[Option.bind_some,Option.map_some,Taq]at h;exact B0.o h):G4:=h ⟨b⟩
def fx:GP->Tm->Option Tm
 |[],_=>none
 |b::l,v=>if aU b.var v=0 then some b.to else fx l v
mutual
def co(g:Sgn)(l:GP):Tm->Option Tm
 |.mk op nm so args=>if op=-1 then some ((fx l (.mk op nm so args)).getD (.mk op nm so args))else(bU g l args).bind (ww g op)
def bU(g:Sgn)(l:GP):AI->Option (AI)
 |[]=>some []
 |t::ts=>(co g l t).bind λu=>(bU g l ts).map (u::·)
end
def yt{g:Sgn}{l:GP}{t:Tm}(h:t.op=-1):co g l t=some ((fx l t).getD t):=by
 obtain⟨op,nm,so,args⟩:=t;simp only[Tm.op]at h;simp only[co,if_pos h]
def sS{g:Sgn}{l:GP}{t:Tm}(h:t.op≠-1):co g l t=(bU g l t.Y).bind (ww g t.op):=by
 obtain⟨op,nm,so,args⟩:=t;simp only[Tm.op]at h;simp only[co,if_neg h,Tm.op,Tm.Y]
def ZlE {g:Sgn} {l:GP} {t:Tm}:∀(ts:AI),bU g l (ts++[t])=(bU g l ts).bind λus=>(co g l t).map λu=>us++[u]
 |[]=>by
  simp only[Tah,bU,Option.bind_some]
  cases co g l t<;>rfl
 | x::ts=>by
  simp only[Taf,bU,ZlE ts]
  cases co g l x with
  |none=>rfl
  | some u =>
   simp only[Option.bind_some]
   cases bU g l ts with
   |none=>rfl
   |some us =>
    simp only[Option.bind_some,Option.map_some]
    cases co g l t<;>rfl
def Zkc {g:Sgn} {l:GP}:∀{ts us:AI},bU g l ts=some us->us.length=ts.length
 |[],us,h=>by simp only[bU,Taq]at h;subst h;rfl
 | t::ts,us,h=>by
  simp only[bU]at h
  cases h1:co g l t with
  |none=>rw[h1]at h;cases h
  | some u =>
   rw[h1]at h
   cases h2:bU g l ts with
   |none=>rw[h2]at h;cases h
   |some vs =>
    refine AC λh=>?_;subst h;simp only[Tag,Zkc h2]
def ZlF{g:Sgn}{l:GP}{t:Tm}:∀{ts:AI},t∈ts->co g l t=none->bU g l ts=none
 | x::ts,hm,h=>by
  simp only[bU];rcases Tbh.1 hm with rfl|hm
  ·rw[h];rfl
  ·rw[ZlF hm h]
   cases co g l x<;>rfl
def Fe {g:Sgn} {l:GP}:∀{ts us:AI},bU g l ts=some us->∀u∈us,∃t∈ts,co g l t=some u
 |[],us,h,u,hu=>by simp only[bU,Taq]at h;subst h;cases hu
 | t::ts,us,h,u,hu=>by
  simp only[bU]at h
  cases h1:co g l t with
  |none=>rw[h1]at h;cases h
  | some v =>
   rw[h1]at h
   cases h2:bU g l ts with
   |none=>rw[h2]at h;cases h
   |some vs =>
    refine AC λh=>?_;subst h;rcases Tbh.1 hu with rfl|hu
    ·exact⟨t,Tas,h1⟩
    ·obtain⟨x,hx,D8⟩:=Fe h2 u hu;exact⟨x,Tal _ hx,D8⟩
structure SbsAt(g:Sgn)(l:GP)(i:Nat)(y:Bd):Prop where
 var:dp g y.var
 ord:∀(j:Nat)p,i=j+1->l[j]?=some p->aU p.var y.var<0
 to':TermOk g y.to
 srt:(av g y.to).testBit y.var.sort.toNat=true
structure SbsOk(g:Sgn)(l:GP):Prop where
 len:l.length<=8
 at':∀(i:Nat)y,l[i]?=some y->SbsAt g l i y
def Zxs{g:Sgn}{v u:Tm}:∀{l:GP},(∀y∈l,TermOk g y.to)->fx l v=some u->TermOk g u
 |b::l,h,hu=>by
  simp only[fx]at hu;split at hu
  ·injection hu with hu;subst hu;exact h b Tas
  ·exact Zxs (λy hy=>h y (Tal _ hy)) hu
def SbsOk.to'{g:Sgn}{l:GP}(h:SbsOk g l):∀y∈l,TermOk g y.to:=λy hy=>by
 obtain⟨i,hi⟩:=Tbl hy;exact(h.at' i y hi).to'
def SbsOk.var{g:Sgn}{l:GP}(h:SbsOk g l):∀y∈l,dp g y.var:=λy hy=>by
 obtain⟨i,hi⟩:=Tbl hy;exact(h.at' i y hi).var
def yE {g:Sgn} (hg:SgnOk g) {l:GP} (hl:∀y∈l,TermOk g y.to):∀(n:Nat)(t:Tm),ah t<n->TermOk g t->∀{u:Tm},co g l t=some u->TermOk g u
 |0,t,hn,_,_,_=>om
 | n+1,t,hn,ht,u,h=>by
  by_cases ho:t.op=-1
  ·rw[yt ho]at h;simp only[Taq]at h;subst h
   cases hk:fx l t with
   |none=>exact ht
   |some v=>exact Zxs hl hk
  ·rw[sS ho]at h
   cases h2:bU g l t.Y with
   |none=>rw[h2]at h;cases h
   | some us =>
    rw[h2]at h;simp only[Option.bind_some]at h;have h0:0<=t.op:=by
     rcases ht.Η.node with hv|⟨o,d,hA⟩
     ·exact absurd hv.1 ho
     ·exact hA.lo
    refine ZID hg h0 (λa ha=>?_) h;obtain⟨x,hx,D8⟩:=Fe h2 a ha;have:=kv hx;rw[iB]at hn;exact yE hg hl n x om (ht.arg hx) D8
def iz:GP->Bd->GP
 |[],y=>[y]
 |x::l,y=>if aU x.var y.var<0 then x::iz l y else y::x::l
def qf(l:GP):Prop:=l.Pairwise λx y=>aU x.var y.var<0
def Zxt{y:Bd}:∀{l:GP}{i:Nat},i<=l.length->(∀(j:Nat)x,j<i->l[j]?=some x->aU x.var y.var<0)->(∀x,l[i]?=some x->¬aU x.var y.var<0)->iz l y=l.take i++y::l.drop i
 |[],i,hi,_,_=>by simp at hi;subst hi;rfl
 |x::l,0,_,_,h2=>by simp[iz,h2 x rfl]
 |x::l,i+1,hi,h1,h2=>by
  simp only[iz,if_pos (h1 0 x om rfl),Tbc,List.drop_succ_cons,Taf];rw[Zxt (by simpa using hi) (λj z hj hz=>h1 (j+1) z om (by simpa using hz)) (λz hz=>h2 z (by simpa using hz))]
def t6(y:Bd):∀l,(iz l y).Perm (y::l)
 |[]=>.refl _
 |x::l=>by
  simp only[iz];split
  ·exact((t6 y l).cons x).trans (.swap y x l)
  ·exact .refl _
def Zp0{y:Bd}:∀{l:GP},qf l->(∀x∈l,aU x.var y.var≠0)->qf (iz l y)
 |[],_,_=>by simp[iz,qf]
 | x::l,h,hn=>by
  obtain⟨h1,h2⟩:=List.pairwise_cons.1 h;simp only[iz];split
  ·next am =>
   refine List.pairwise_cons.2 ⟨λz hz=>?_,Zp0 h2 λz hz=>hn z (Tal _ hz)⟩;rcases Tbh.1 ((t6 y l).mem_iff.1 hz)with rfl|hz
   ·exact am
   ·exact h1 z hz
  ·next Gk =>
   have hx:=hn x Tas;have hyx:aU y.var x.var<0:=by rw[sj];omega
   refine List.pairwise_cons.2 ⟨λz hz=>?_,h⟩;rcases Tbh.1 hz with rfl|hz
   ·exact hyx
   ·exact Zej hyx (h1 z hz)
def Zsh(l:GP):Prop:=l.Pairwise λx y=>aU x.var y.var≠0
def Ztu:∀{l m:GP},qf l->qf m->l.Perm m->l=m
 |[],m,_,_,h=>h.nil_eq
 |x::l,[],_,_,h=>by simpa using h.length_eq
 | x::l,y::m,h1,h2,h=>by
  obtain⟨a1,a2⟩:=List.pairwise_cons.1 h1;obtain⟨b1,b2⟩:=List.pairwise_cons.1 h2;have e:x=y:=by
   rcases Tbh.1 (h.mem_iff.1 (Tas (a:=x)))with e|hx
   ·exact e
   ·rcases Tbh.1 (h.mem_iff.2 (Tas (a:=y)))with e|hy
    ·exact e.symm
    ·have q1:=b1 x hx;have q2:=a1 y hy;rw[sj]at q1;omega
  subst e;rw[Ztu a2 b2 ((List.perm_cons x).1 h)]
section
variable{g:Sgn}
def mapA(g:Sgn)(b:GP):GP->Option (GP)
 |[]=>some []
 |y::l=>(co g b y.to).bind λt=>(mapA g b l).map (⟨y.var,t⟩::·)
def ZqU {b:GP} {y:Bd}:∀(l:GP),mapA g b (l++[y])=(mapA g b l).bind λm=>(co g b y.to).map λt=>m++[⟨y.var,t⟩]
 |[]=>by
  simp only[Tah,mapA,Option.bind_some]
  cases co g b y.to<;>rfl
 | x::l=>by
  simp only[Taf,mapA,ZqU l]
  cases co g b x.to with
  |none=>rfl
  | some u =>
   simp only[Option.bind_some]
   cases mapA g b l with
   |none=>rfl
   |some us =>
    simp only[Option.bind_some,Option.map_some]
    cases co g b y.to<;>rfl
def ZlG {b:GP}:∀{l m:GP},mapA g b l=some m->m.map Bd.var=l.map Bd.var/\∀z∈m,∃y∈l,z.var=y.var/\co g b y.to=some z.to
 |[],m,h=>by simp only[mapA,Taq]at h;subst h;exact⟨rfl,λz hz=>by cases hz⟩
 | y::l,m,h=>by
  simp only[mapA]at h
  cases h1:co g b y.to with
  |none=>rw[h1]at h;cases h
  | some t =>
   rw[h1,Option.bind_some]at h
   cases h2:mapA g b l with
   |none=>rw[h2]at h;cases h
   |some k =>
    rw[h2,Option.map_some,Taq]at h;subst h;obtain⟨e1,e2⟩:=ZlG h2;refine⟨by simp[e1],λz hz=>?_⟩;rcases Tbh.1 hz with rfl|hz
    ·exact⟨y,Tas,rfl,h1⟩
    ·obtain⟨x,hx,D8⟩:=e2 z hz;exact⟨x,Tal _ hx,D8⟩
def SbsOk.up{l:GP}(h:SbsOk g l):qf l:=by
 refine List.pairwise_iff_getElem.2 λi j hi hj qW=>?_;have key:∀(n:Nat)(i:Nat)(hi:i+(n+1)<l.length),aU (l[i]'om).var (l[i+(n+1)]).var<0:=λn=>by
  induction n with
  |zero=>exactλi hi=>(h.at' (i+1) _ (Taa hi)).ord i _ rfl (Taa om)
  |succ n ih=>exactλi hi=>Zej (ih i om) ((h.at' (i+(n+1+1)) _ (Taa hi)).ord (i+(n+1)) _ rfl (Taa om))
 have:=key (j-i-1) i om;simpa only[(om:i+(j-i-1+1)=j)]using this
def qf.dist{l:GP}(h:qf l):Zsh l:=h.imp λh=>om
end
inductive BagL(R:Nat->Nat->Nat->Prop):GN->Nat->Prop
 |leaf {s b:Nat}:s.testBit b->BagL R [s] b
 |node {L A B:GN} {a c b:Nat}:L.Perm (A++B)->BagL R A a->BagL R B c->R a c b->BagL R L b
def pick:GN->Nat->GN
 |[],_=>[]
 |s::l,m=>if m % 2=1 then s::pick l (m / 2)else pick l (m / 2)
def zn(s:Nat)(l:GN)(m:Nat)(a:Bool):pick (s::l) (2*m+a.toNat)=if a=true then s::pick l m else pick l m:=by
 cases a
 ·rw[pick,if_neg (by simp)];simp
 ·rw[pick,if_pos (by simp),if_pos rfl];congr 2;simp;omega
def ZlH:∀(l:GN),pick l 0=[]
 |[]=>rfl
 |s::l=>by rw[pick,if_neg (by decide)];exact ZlH l
def Ztv(m p:Nat)(a b:Bool):(2*m+a.toNat) ||| (2*p+b.toNat)=2*(m ||| p)+(a||b).toNat:=by
 apply Nat.eq_of_testBit_eq;intro i;rw[Nat.testBit_or]
 cases i with
 |zero=>cases a<;>cases b<;>simp[Nat.testBit_zero]<;>omega
 |succ i =>
  rw[Nat.testBit_succ,Nat.testBit_succ,Nat.testBit_succ];have e:∀(x:Nat)(c:Bool),(2*x+c.toNat) / 2=x:=λx c=>by cases c<;>simp<;> omega
  rw[e,e,e,Nat.testBit_or]
def Ztw:∀{l:GN}{m:Nat},m<2 ^ l.length->pick l m=[]->m=0
 |[],m,h,_=>by simpa using h
 |s::l,m,h,hp=>by
  obtain⟨m,a,rfl⟩:=Zli m;rw[zn]at hp;rw[Tag,Nat.pow_succ]at h
  cases a
  ·have:=Ztw (l:=l) (m:=m) (by simp at h;omega) (by simpa using hp);subst this;rfl
  ·simp at hp
def Ztx:∀{l:GN}{m s:Nat},m<2 ^ l.length->pick l m=[s]->∃i,l[i]?=some s/\m=2 ^ i
 |[],m,s,_,h=>by simp[pick]at h
 |x::l,m,s,h,hp=>by
  obtain⟨m,a,rfl⟩:=Zli m;rw[zn]at hp;rw[Tag,Nat.pow_succ]at h
  cases a
  ·obtain⟨i,h1,h2⟩:=Ztx (l:=l) (m:=m) (s:=s) (by simp at h;omega) (by simpa using hp);exact⟨i+1,by simpa using h1,by rw[h2,Nat.pow_succ];simp;omega⟩
  ·simp only[if_true,List.cons.injEq]at hp;have:=Ztw (l:=l) (m:=m) (by simp at h;omega) hp.2;subst this;exact⟨0,by simp[hp.1],rfl⟩
def Zhx:∀{l:GN}{m:Nat}{A B:GN},m<2 ^ l.length->(pick l m).Perm (A++B)->∃p q,p&&&q=0/\p ||| q=m/\p<2 ^ l.length/\q<2 ^ l.length/\(pick l p).Perm A/\(pick l q).Perm B
 |[],m,A,B,h,hp=>by
  have e:m=0:=by simpa using h
  subst e;have:=hp.length_eq;simp only[pick,Tak,Tae]at this;have hA:A=[]:=Tao om;have hB:B=[]:=Tao om;subst hA hB;exact⟨0,0,rfl,rfl,by simp,by simp,.nil,.nil⟩
 | s::l,m,A,B,h,hp=>by
  obtain⟨m,a,rfl⟩:=Zli m;rw[zn]at hp;rw[Tag,Nat.pow_succ]at h⊢;have hm:m<2 ^ l.length:=by cases a<;>simp at h<;>omega
  cases a
  ·obtain⟨p,q,h1,h2,h3,h4,h5,h6⟩:=Zhx (l:=l) hm (by simpa using hp);refine⟨2*p+false.toNat,2*q+false.toNat,by rw[Znu,h1];rfl,by rw[Ztv,h2];rfl,by simp;omega,by simp;omega,?_,?_⟩
   ·rw[zn];simpa using h5
   ·rw[zn];simpa using h6
  ·simp only[if_true]at hp;have hs:s∈A++B:=hp.mem_iff.1 Tas;rcases Tbi.1 hs with hs|hs
   ·obtain⟨A1,A2,rfl⟩:=List.append_of_mem hs;have nA:(pick l m).Perm ((A1++A2)++B):=by
     have h7:(s::pick l m).Perm (s::((A1++A2)++B)):=hp.trans ((Tbx (a:=s) (l₁:=A1) (l₂:=A2)).append_right B);exact h7.cons_inv
    obtain⟨p,q,h1,h2,h3,h4,h5,h6⟩:=Zhx (l:=l) hm nA;refine⟨2*p+true.toNat,2*q+false.toNat,by rw[Znu,h1];rfl,by rw[Ztv,h2];rfl,by simp;omega,by simp;omega,?_,?_⟩
    ·rw[zn,if_pos rfl];exact(h5.cons s).trans Tbx.symm
    ·rw[zn];simpa using h6
   ·obtain⟨B1,B2,rfl⟩:=List.append_of_mem hs;have nA:(pick l m).Perm (A++(B1++B2)):=by
     have h7:(s::pick l m).Perm (s::(A++(B1++B2))):=hp.trans (((Tbx (a:=s) (l₁:=B1) (l₂:=B2)).append_left A).trans Tbx);exact h7.cons_inv
    obtain⟨p,q,h1,h2,h3,h4,h5,h6⟩:=Zhx (l:=l) hm nA;refine⟨2*p+false.toNat,2*q+true.toNat,by rw[Znu,h1];rfl,by rw[Ztv,h2];rfl,by simp;omega,by simp;omega,?_,?_⟩
    ·rw[zn];simpa using h5
    ·rw[zn,if_pos rfl];exact(h6.cons s).trans Tbx.symm
section
variable{R:Nat->Nat->Nat->Prop}
def BagL.ne{X:GN}{b:Nat}(h:BagL R X b):X≠[]:=by
 induction h with
 |leaf h=>simp
 |node hp _ _ _ i1 _ =>
  intro e;subst e;have:=hp.length_eq;simp only[Tak,Tae]at this;exact i1 (Tao om)
def BagL.to{X:GN}{b:Nat}(h:BagL R X b):∀{L:GN}{m:Nat},X.Perm (pick L m)->m<2 ^ L.length->BagB R L m b:=by
 induction h with
 |leaf h =>
  intro L m hp hm;obtain⟨i,h1,rfl⟩:=Ztx hm (List.perm_singleton.1 hp.symm);exact .leaf h1 h
 |node hp ha hb hr i1 i2 =>
  intro L m hq hm;obtain⟨p,q,h1,rfl,h3,h4,h5,h6⟩:=Zhx hm (hq.symm.trans hp);refine .node (λe=>?_) (λe=>?_) h1 (i1 h5.symm h3) (i2 h6.symm h4) hr
  ·subst e;rw[ZlH]at h5;exact ha.ne (List.nil_perm.1 h5)
  ·subst e;rw[ZlH]at h6;exact hb.ne (List.nil_perm.1 h6)
end
def m220(b:G5)(h:Bx G5->G4:=by
 intro B0
 have:=Zty ⟨(op+1).toNat,om⟩;rw[show(((op+1).toNat:Nat):Int)-1=op by omega]at this;simp only[je,qP,Tah,Tbg]at h;exact B0.o this h):G4:=h ⟨b⟩
def zQ(n:Nat):List UInt8:=if n<10 then[UInt8.ofNat (48+n)]else[UInt8.ofNat (48+n / 10),UInt8.ofNat (48+n % 10)]
def dU(i:Int):List UInt8:=if i<0 then 45::zQ (-i).toNat else zQ i.toNat
mutual
def qP:Tm->List UInt8
 |.mk op nm so args=>dU op++((if op<0 then 58::(nm.toList++58::dU so)else[])++40::(je args++[41]))
def je:AI->List UInt8
 |[]=>[]
 |t::ts=>qP t++je ts
end
def ZyA(a b:AI):je (a++b)=je a++je b:=by
 induction a with
 |nil=>rfl
 |cons t ts ih=>simp only[Taf,je,ih,Tbg]
def CJ{P:UInt8->Prop}:∀{l m:List UInt8}{c d:UInt8}{x y:List UInt8},(∀b∈l,P b)->(∀b∈m,P b)->¬P c->¬P d->l++c::x=m++d::y->l=m/\c=d/\x=y
 |[],[],c,d,x,y,_,_,_,_,h=>by simpa using h
 |[],b::m,c,d,x,y,_,hm,hc,_,h=>by
  simp only[Tah,Taf,List.cons.injEq]at h;exact absurd (hm b Tas) (h.1▸hc)
 |a::l,[],c,d,x,y,hl,_,_,hd,h=>by
  simp only[Tah,Taf,List.cons.injEq]at h;exact absurd (hl a Tas) (h.1▸hd)
 |a::l,b::m,c,d,x,y,hl,hm,hc,hd,h=>by
  simp only[Taf,List.cons.injEq]at h;obtain⟨h1,h2⟩:=CJ (λb hb=>hl b (Tal _ hb)) (λb hb=>hm b (Tal _ hb)) hc hd h.2;exact⟨by rw[h.1,h1],h2⟩
def uy(b:UInt8):Prop:=b=45\/(48<=b.toNat/\b.toNat<=57)
instance(b:UInt8):Decidable (uy b):=by unfold uy;infer_instance
def ZHK:∀i:Fin 15,∀b∈dU ((i.val:Int)-1),uy b:=by decide
def ZHL:∀i j:Fin 15,dU ((i.val:Int)-1)=dU ((j.val:Int)-1)->i=j:=by decide
def Zmv{i:Int}(h0:-1<=i)(h1:i<14):∀b∈dU i,uy b:=by
 have:=ZHK ⟨(i+1).toNat,om⟩
 rwa [show(((i+1).toNat:Nat):Int)-1=i by omega]at this
def Zp1{i j:Int}(h0:-1<=i)(h1:i<14)(h2:-1<=j)(h3:j<14)(h:dU i=dU j):i=j:=by
 have:=ZHL ⟨(i+1).toNat,om⟩ ⟨(j+1).toNat,om⟩ (by
  simp only;rw[show(((i+1).toNat:Nat):Int)-1=i by omega,show(((j+1).toNat:Nat):Int)-1=j by omega];exact h)
 have:=congrArg Fin.val this;simp only at this;omega
def Zty:∀i:Fin 15,(dU ((i.val:Int)-1)).head?≠some 41/\dU ((i.val:Int)-1)≠[]:=by decide
def NamB(s:ByteArray):Prop:=∀b∈s.toList,ow (b.toNat:Int)=true
mutual
def uO:Tm->Prop
 |.mk op nm so args=>-1<=op/\op<14/\(op=-1->NamB nm/\0<=so/\so<8)/\(op≠-1->nm=ByteArray.empty/\so=0)/\yC args
def yC:AI->Prop
 |[]=>True
 |t::ts=>uO t/\yC ts
end
def toList_inj{a b:ByteArray}(h:a.toList=b.toList):a=b:=by
 rw[ByteArray.toList_eq,ByteArray.toList_eq]at h;obtain⟨x⟩:=a;obtain⟨y⟩:=b;simp only at h;rw[Array.toList_inj.1 h]
def Fd:¬uy 40:=by decide
def ZiU:¬uy 58:=by decide
mutual
theorem Zxu:∀(a b:Tm)(x y:List UInt8),uO a->uO b->qP a++x=qP b++y->a=b/\x=y
 | .mk op nm so args,.mk GI nm' so' args',x,y,ha,hb,h=>by
  simp only[uO]at ha hb;obtain⟨a1,a2,a3,a4,a5⟩:=ha;obtain⟨b1,b2,b3,b4,b5⟩:=hb;simp only[qP,Tbg,Taf]at h;have n1:=Zmv a1 a2;have n2:=Zmv b1 b2;have xu:op=GI/\nm=nm'/\so=so'/\je args++([41]++x)=je args'++([41]++y):=by
   by_cases h1:op<0
   ·rw[if_pos h1]at h;by_cases h2:GI<0
    ·rw[if_pos h2]at h;simp only[Taf,Tbg]at h;obtain⟨e1,_,e2⟩:=CJ n1 n2 ZiU ZiU h;have e1:=Zp1 a1 a2 b1 b2 e1;have o1:op=-1:=om;have o2:GI=-1:=om;obtain⟨p1,p2,p3⟩:=a3 o1;obtain⟨q1,q2,q3⟩:=b3 o2;obtain⟨f1,_,f2⟩:=CJ (P:=λb=>ow (b.toNat:Int)=true) p1 q1 (by decide) (by decide) e2;obtain⟨g1,_,g2⟩:=CJ (Zmv om om) (Zmv om om) Fd Fd f2;exact⟨e1,toList_inj f1,Zp1 om om om om g1,g2⟩
    ·rw[if_neg h2]at h;simp only[Taf,Tah]at h;obtain⟨_,e,_⟩:=CJ n1 n2 ZiU Fd h;exact absurd e (by decide)
   ·rw[if_neg h1]at h;by_cases h2:GI<0
    ·rw[if_pos h2]at h;simp only[Taf,Tah]at h;obtain⟨_,e,_⟩:=CJ n1 n2 Fd ZiU h;exact absurd e (by decide)
    ·rw[if_neg h2]at h;simp only[Tah]at h;obtain⟨e1,_,e2⟩:=CJ n1 n2 Fd Fd h;have e1:=Zp1 a1 a2 b1 b2 e1;obtain⟨p1,p2⟩:=a4 om;obtain⟨q1,q2⟩:=b4 om;exact⟨e1,by rw[p1,q1],by rw[p2,q2],e2⟩
  obtain⟨rfl,rfl,rfl,he⟩:=xu;obtain⟨i1,i2⟩:=Ztz args args' x y a5 b5 he;exact⟨by rw[i1],i2⟩
theorem Ztz:∀(xs bs:AI)(x y:List UInt8),yC xs->yC bs->je xs++([41]++x)=je bs++([41]++y)->xs=bs/\x=y
 |[],[],x,y,_,_,h=>by simpa[je]using h
 | [],.mk op nm so args::bs,x,y,_,hb,h=>by
  exfalso;simp only[yC,uO]at hb;refine m220 λthis h=>?_
  cases hd:dU op with
  |nil=>exact this.2 hd
  |cons c l =>
   rw[hd]at h this;simp only[Taf,List.cons.injEq]at h;exact this.1 (by rw[<- h.1];rfl)
 | .mk op nm so args::xs,[],x,y,ha,_,h=>by
  exfalso;simp only[yC,uO]at ha;refine m220 λthis h=>?_
  cases hd:dU op with
  |nil=>exact this.2 hd
  |cons c l =>
   rw[hd]at h this;simp only[Taf,List.cons.injEq]at h;exact this.1 (by rw[h.1];rfl)
 |a::xs,b::bs,x,y,ha,hb,h=>by
  simp only[yC]at ha hb;simp only[je,Tbg]at h;obtain⟨e1,e2⟩:=Zxu a b _ _ ha.1 hb.1 h;obtain⟨f1,f2⟩:=Ztz xs bs x y ha.2 hb.2 e2;exact⟨by rw[e1,f1],f2⟩
end
def ZEN{s:ByteArray}(h:jc s):NamB s:=by
 unfold jc at h;simp only[Tar]at h;have hn:=h.2;unfold j5 at hn;rw[List.all_eq_true]at hn;intro b hb;rw[ByteArray.toList_eq]at hb;obtain⟨i,hi,rfl⟩:=List.getElem_of_mem hb;have dR:i<s.size:=by simpa using hi
 have:=hn i (List.mem_range'_1.2 ⟨Taj _,om⟩);simp only[Tar,CU,dif_pos dR]at this;exact this.1
mutual
theorem Zim{g:Sgn}(hg:SgnOk g):∀(t:Tm),e6 g t->uO t
 | .mk op nm so args,h=>by
  have h1:sy g (.mk op nm so args):=by simp only[e6]at h;exact h.1
  have hl:=hg.len;have hn:=hg.V.n8;refine⟨?_,?_,?_,?_,ZqV hg args (by simp only[e6]at h;exact h.2.1:vK g args)⟩
  ·rcases h1 with h|⟨o,d,h⟩
   ·have:op=-1:=h.1;omega
   ·have:0<=op:=h.lo;omega
  ·rcases h1 with h|⟨o,d,h⟩
   ·have:op=-1:=h.1;omega
   ·have h0:0<=op:=h.lo;have:g.ops[op.toNat]?=some o:=h.at';have:=(Tad.1 this).1;omega
  ·intro ho;rcases h1 with h|⟨o,d,h⟩
   ·have h4:0<=so:=h.2.2.1;have h5:so<g.V.O.length:=h.2.2.2.1;exact⟨ZEN h.2.1,h4,om⟩
   ·have:0<=op:=h.lo;omega
  ·intro ho;rcases h1 with h|⟨o,d,h⟩
   ·have:op=-1:=h.1;omega
   ·exact⟨h.nm,h.so⟩
theorem ZqV{g:Sgn}(hg:SgnOk g):∀(ts:AI),vK g ts->yC ts
 |[],_=>trivial
 |t::ts,h=>by
  simp only[vK]at h;exact⟨Zim hg t h.1,ZqV hg ts h.2⟩
end
def ko(t:Tm):ByteArray:=⟨(qP t).toArray⟩
def ZtA{g:Sgn}(hg:SgnOk g){a b:Tm}(ha:e6 g a)(hb:e6 g b)(h:(ko a).toList=(ko b).toList):a=b:=by
 rw[ByteArray.toList_eq,ByteArray.toList_eq]at h;simp only[ko]at h;exact(Zxu a b [] [] (Zim hg a ha) (Zim hg b hb) (by rw[List.append_nil,List.append_nil];exact h)).1
def CK(P:Program)(s d:TypeId):Bool:=match P.underlying s,P.underlying d with
 |some (.slice e),some .string=>match P.underlying e with
  |some (.int .u8)=>true
  |_=>false
 |_,_=>false
def ZjD(b:Int):ByteArray:=ByteArray.empty.push (UInt8.ofNat b.toNat)
section
variable{e:Env}{σ:St}{o:Oper}{K:GR}
def ZCx{s d:TypeId}{b:Int}(ho:o.op=.convert s d x)(hx:aL σ.s x=.d (.Ζ [[.A (.int .u8 b)]]))(ht:CK e.P s d)(hK:K ⟨aD σ.s o.dst (GY (.A (.string (ZjD b)))),σ.m⟩):jW e o σ K:=by
 intro he U w0 S0 nt a w Q hd ⟨S,L,h⟩;refine Oper.wp_mono (λa' w' hs=>⟨_,hK,hs⟩) (Cu h hd (oN λw S L C' hC hr=>?_));have aW:=hr x (by simp[ho,Op.operands]);rw[hx]at aW;obtain⟨⟨A,n,cap,hv,hn,_,_,hb⟩,_⟩:=aW;simp only[Tag,Tak,Nat.zero_add]at hn;subst hn;obtain⟨g,off,rfl,_,_,fw⟩:=hb (by decide);simp only[ct,a8,aR,and_true]at fw;obtain⟨u,hc,rfl⟩:=fw;have hl:=run_loadCells_list (P:=e.P) w ⟨g,off,none⟩ [.int .u8 b] (λj u hj=>by
  cases j with
  |zero=>simp at hj;subst hj;rw[Addr.add_at];exact hc
  |succ j=>simp at hj)
 unfold CK at ht;split at ht
 ·rename_i e1 h1 h2;split at ht
  ·rename_i h3;refine⟨.string (ZjD b),?_,by simp[aw,aX,aR]⟩;simp only[Tag,Tak,Nat.zero_add]at hl;simp[execOp,ho,hv,convert,underlying,h1,h2,h3,Conv.bytesToString,hl,ZjD,Result.andThen]
  ·cases ht
 ·cases ht
end
def gY{d t1:Nat}{m:it}{b:Int}(hK:an e ds 0 os ⟨(d,GY (.A (.string (ZjD b))))::s,m⟩ K)
  (hx:aL s x=.d (.Ζ [[.A (.int .u8 b)]]):=by exact oJ) (ht:CK e.P t1 t2:=by kernel_rfl):an e ds 0 (⟨some d,.convert t1 t2 x,ty,p,ed,none⟩::os) ⟨s,m⟩ K:=by
 simp only[an]at hK⊢;exact vG rfl (ZCx (o:=⟨some d,.convert t1 t2 x,ty,p,ed,none⟩) rfl hx ht hK)
def m260(h:G3:=by
 simp[execOp,ho,resolve,invoke,builtin,aW,km,aF,Result.andThen]):G3:=h
section
variable{P:Program}{w:World}
def ZCy(ts:Array TypeId)(t ty e:TypeId)(i:TypeInfo)(z:Value)(h0:ts[0]?=some t){t2:TypeId}(h1:ts[1]?=some t2)(vd:P.underlying t2=some .string)(ht:P.underlying t=some (.slice e))(hi:P.info? e=some i)(hz:i.zero=some z)(b:BY)(bV eu:Nat)(cp:GK)(x:Value)(n:Nat)(aG:GK)
  (kj:(Builtin.lenOf x).run P w=.ok n w) (mv:(Builtin.firstCells i.size bV (.slice b bV eu)).run P w.drew=.ok cp.toArray w.drew) (hf:(Builtin.firstCells i.size n x).run P w.drew=.ok aG.toArray w.drew) (hg:eu<bV+n) (h63:((bV+n:Nat):Int)<=9223372036854775807) (lI:Builtin.nextslicecap (bV+n) eu*i.bytes<=281474976710656) :
  (Builtin.append_ ts ty #[.slice b bV eu,x]).run P w=.ok (.slice (some ⟨w.heap.size,0,none⟩) (bV+n) (grownCap w (bV+n) eu e)) (w.drew.alloc (.cells (cp.toArray++aG.toArray++Builtin.zeroCells z.cells (grownCap w (bV+n) eu e-(bV+n))) e)):=by
 have hn:¬(bV+n<=eu):=om;have Do:¬(9223372036854775807<((bV:Int)+n)):=om;have Dn:¬(281474976710656<Builtin.nextslicecap (bV+n) eu*i.bytes):=om;have e1:cp.toArray++(aG.toArray++Builtin.zeroCells z.cells (grownCap w (bV+n) eu e-(bV+n)))=(cp++aG).toArray++Builtin.zeroCells z.cells (grownCap w (bV+n) eu e-(bV+n)):=by
  apply Array.toList_inj.1;simp
 unfold grownCap at e1;simp[Builtin.append_,h0,h1,run_underlying ht,run_underlying vd,sizeOf,typeInfo,zeroValue,hi,hz,kj,hn,Do,Dn,Question.forced,hf,mv,newRow,grownCap,e1]
def ZCz(ts:Array TypeId)(t ty e:TypeId)(i:TypeInfo)(h0:ts[0]?=some t){t2:TypeId}(h1:ts[1]?=some t2)(vd:P.underlying t2=some .string)(ht:P.underlying t=some (.slice e))(hi:P.info? e=some i)(g bV eu:Nat)(bf:Array Value)(hg:w.heap[g]?=some (.cells bf e (0,0)))(x:Value)(n:Nat)(aG:GK)
  (kj:(Builtin.lenOf x).run P w=.ok n w) (hf:(Builtin.firstCells i.size n x).run P w=.ok aG.toArray w) (kX:∀u∈aG,u.oneCell') (js:bV+n<=eu) (lI:bV*i.size+aG.length<=bf.size) :
  (Builtin.append_ ts ty #[.slice (some ⟨g,0,none⟩) bV eu,x]).run P w=.ok (.slice (some ⟨g,0,none⟩) (bV+n) eu) (w.setRow g (bf.toList.take (bV*i.size)++aG++bf.toList.drop (bV*i.size+aG.length)).toArray):=by
 have aZ:=run_storeCells_at P g (bV*i.size) e aG 0 bf w hg (by simpa using lI) kX;simp only[Nat.add_zero]at aZ;simp[Builtin.append_,h0,h1,run_underlying ht,run_underlying vd,sizeOf,typeInfo,hi,kj,js,hf,Addr.add_lit,aZ]
def ZCA(ts:Array TypeId)(t ty e:TypeId)(i:TypeInfo)(h0:ts[0]?=some t){t2:TypeId}(h1:ts[1]?=some t2)(vd:P.underlying t2=some .string)(ht:P.underlying t=some (.slice e))(hi:P.info? e=some i)(b:BY)(x:Value)
  (kj:(Builtin.lenOf x).run P w=.ok 0 w) (hf:(Builtin.firstCells i.size 0 x).run P w=.ok #[] w) :
  (Builtin.append_ ts ty #[.slice b 0 0,x]).run P w=.ok (.slice b 0 0) w:=by
 cases b<;>simp[Builtin.append_,h0,h1,run_underlying ht,run_underlying vd,sizeOf,typeInfo,hi,kj,hf,storeCells]
end
section
variable{e:Env}{U:GO}{w0:World}{S0:GO}{nt:Nat}{σ:St}{a:Act}{w:World}{S:GO}{L:Lay}{o:Oper}
def Zvk (he:e.Ok) (hC:Cls e U w0.heap.size S0 σ.m w S L) {ts:Array TypeId} {t ty:TypeId} (h0:ts[0]?=some t) {t2:TypeId} (h1:ts[1]?=some t2) (vd:e.P.underlying t2=some .string) (hb:jT e.P t=some (ety,sz,il)) {ys:sh} {v u:Value}
  (hv:eO w S ety sz rows v\/(aX w S (.Ζ rows) v/\(rows=[]\/ys≠[]))) (c9:rowsLen sz rows) (oH:rowsLen sz ys) (cw:rows.length+ys.length<=al)
  (hy:∃(aG:GK),(∀w',(Builtin.lenOf u).run e.P w'=.ok ys.length w')/\aC w S ys.flatten aG/\∀(P:Program)(w':World),(∀p,w'.cell? p=w.cell? p)->(Builtin.firstCells sz ys.length u).run P w'=.ok aG.toArray w') :
  ∃v' w',(Builtin.append_ ts ty #[v,u]).run e.P w=.ok v' w'/\eO w' S ety sz (rows++ys) v'/\∃τ:GM,Kept e.D (λb=>τ=some b) w.heap.size w w'/\(∀g,τ=some g->aO v=some g/\eO w S ety sz rows v)/\(∀g,aO v'=some g->τ=some g\/w.heap.size<=g):=by
 obtain⟨i,z,hu,hi,hz,bP,tw,sK,gv,tu⟩:=A3 hb;obtain⟨aG,kj,kU,hf⟩:=hy;have Aq:aG.length=ys.length*sz:=by rw[kU.len,qL oH]
 have kX:=Ff (Zmh oH) kU;have hm30:rows.length+ys.length<=1073741824:=cw;have nL:(rows.length+ys.length)*i.bytes<=140737488355328:=by
  exact m192
 have xD:rowsLen sz (rows++ys):=c9.append oH
 have grow:∀(b:BY)(cap:Nat)(cp:GK),v=.slice b rows.length cap->cap<rows.length+ys.length->aC w S rows.flatten cp->(∀(P:Program)(w':World),(∀p,w'.cell? p=w.cell? p)->(Builtin.firstCells sz rows.length v).run P w'=.ok cp.toArray w') ->
   ∃v' w',(Builtin.append_ ts ty #[v,u]).run e.P w=.ok v' w'/\eO w' S ety sz (rows++ys) v'/\∃τ:GM,Kept e.D (λb=>τ=some b) w.heap.size w w'/\(∀g,τ=some g->aO v=some g/\eO w S ety sz rows v)/\(∀g,aO v'=some g->τ=some g\/w.heap.size<=g):=by
  intro b cap cp hv am pX mv;have h63:rows.length+ys.length<=maxLen:=by unfold maxLen;omega
  have aF:=ZCy ts t ty ety i z h0 h1 vd hu hi hz b rows.length cap cp u ys.length aG (kj w) (by rw[bP,<- hv];exact mv _ _ (ZiL w)) (by rw[bP];exact hf _ _ (ZiL w)) am om (growslice_fits om nL);rw[<- hv]at aF;have Gk:=grownCap_ge w (rows.length+ys.length) cap ety;have iv:=grownCap_le_maxLen w (rows.length+ys.length) cap ety h63;generalize tx:grownCap w (rows.length+ys.length) cap ety=nc at aF Gk iv
  have iH:cp.length=rows.length*sz:=by rw[pX.len,qL c9]
  have hk:Kept e.D (λb=>(none:GM)=some b) w.heap.size w (w.drew.alloc (.cells (cp.toArray++aG.toArray++Builtin.zeroCells z.cells (nc-(rows.length+ys.length))) ety)) :=
   ⟨rfl,rfl,rfl,λ_=>Nat.le_succ _,by simp,λk hk _=>heap_alloc_old w.drew _ hk⟩
  have dl:=heap_alloc_new w.drew (.cells (cp.toArray++aG.toArray++Builtin.zeroCells z.cells (nc-(rows.length+ys.length))) ety);have BR:(w.drew.alloc (.cells (cp.toArray++aG.toArray++Builtin.zeroCells z.cells (nc-(rows.length+ys.length))) ety)).heap.size=w.heap.size+1:=by simp
  have e1:cp.toArray++aG.toArray++Builtin.zeroCells z.cells (nc-(rows.length+ys.length))=((cp++aG)++(Builtin.zeroCells z.cells (nc-(rows.length+ys.length))).toList).toArray:=by
   apply Array.toList_inj.1;simp
  rw[e1]at aF hk dl BR;generalize w.drew.alloc (.cells ((cp++aG)++(Builtin.zeroCells z.cells (nc-(rows.length+ys.length))).toList).toArray ety)=W at aF hk dl BR;refine⟨_,_,aF,?_,none,hk,by simp,λg hg=>?_⟩
  ·have bh:rows.length+ys.length=(rows++ys).length:=by simp
   rw[bh];refine Zk9 (w:=w) (cells:=cp++aG) (rest:=(Builtin.zeroCells z.cells (nc-(rows.length+ys.length))).toList) (n:=0) gv xD hk.size (λb o hs=>rq (hk.block b (hC.sin b hs).1 (by simp)) o) ?_ (by simp;omega) iv om (g:=w.heap.size) om (λhs=>by have:=(hC.sin _ hs).1;omega) ?_ ?_
   ·rw[List.flatten_append];exact aC.app pX kU
   ·exact dl
   ·simp only[Tae,Array.length_toList,size_zeroCells,sK,iH,Aq,<- Nat.add_mul];congr 1;omega
  ·simp only[aO]at hg;split at hg
   ·cases hg
   ·injection hg with hg;exact .inr om
 have ye:∀(b:BY),rows=[]->ys=[]->v=.slice b 0 0->∃v' w',(Builtin.append_ ts ty #[v,u]).run e.P w=.ok v' w'/\eO w' S ety sz (rows++ys) v'/\∃τ:GM,Kept e.D (λb=>τ=some b) w.heap.size w w'/\(∀g,τ=some g->aO v=some g/\eO w S ety sz rows v)/\(∀g,aO v'=some g->τ=some g\/w.heap.size<=g):=by
  intro b hr hy gW;subst hr hy;have qA:aG=[]:=Tao (by simpa using Aq);have aF:=ZCA (P:=e.P) (w:=w) ts t ty ety i h0 h1 vd hu hi b u (kj w) (by rw[bP];have:=hf e.P w (λ_=>rfl);rw[qA]at this;simpa using this);exact m110
 rcases hv with hv|⟨hv,aP⟩
 ·have vf:=hv;obtain⟨_,_,h3⟩:=hv;rcases h3 with⟨hr,b,gW⟩|⟨g,cap,bf,gW,hc,hg,hs,hh,u6,hm,gc,hr⟩
  ·by_cases vh:ys=[]
   ·exact ye b hr vh gW
   ·have xL:0<ys.length:=List.length_pos_iff.2 vh;subst hr;refine grow b 0 [] gW (by simpa using xL) (by simp[aC]) (λP w' _=>?_);rw[gW]
    cases b<;>simp[Builtin.firstCells,loadCells,loadCellsFrom]
  ·by_cases js:rows.length+ys.length<=cap
   ·have lI:rows.length*i.size+aG.length<=bf.size:=by rw[Aq,bP,gc,<- Nat.add_mul];exact Nat.mul_le_mul_right _ js
    have aF:=ZCz (P:=e.P) (w:=w) ts t ty ety i h0 h1 vd hu hi g rows.length cap bf hh u ys.length aG (kj w) (by rw[bP];exact hf _ _ (λ_=>rfl)) kX js lI;rw[<- gW]at aF;rw[bP]at aF lI;have bn:=Zgc w g (rows.length*sz) ety aG bf hh lI;have dl:=setRow_heap w g bf (bf.toList.take (rows.length*sz)++aG++bf.toList.drop (rows.length*sz+aG.length)).toArray ety _ hh
    have ev:(w.setRow g (bf.toList.take (rows.length*sz)++aG++bf.toList.drop (rows.length*sz+aG.length)).toArray).drawn=w.drawn:=Ze7 _ _ _;generalize hW:w.setRow g (bf.toList.take (rows.length*sz)++aG++bf.toList.drop (rows.length*sz+aG.length)).toArray=W at aF bn dl ev;have hszW:W.heap.size=w.heap.size:=bn.size;have lM:∀b o,S b->W.cell? ⟨b,o,none⟩=w.cell? ⟨b,o,none⟩:=λb o wt=>rq (bn.other b (λe=>hs (e▸wt))) o
    refine⟨_,_,aF,⟨gv,xD,.inr ⟨g,cap,_,by simp,hc,om,hs,dl,by simpa using js,hm,by simp;omega,?_⟩⟩,some g,⟨bn.os,bn.tape,bn.output,λ_=>Nat.le_of_eq ev.symm,om,λb hb hE=>bn.other b (λeq=>hE (by rw[eq]))⟩,λq hq=>?_,λq hq=>?_⟩
    ·apply ct.of_flat;rw[List.flatten_append];have r1:=a8.keepAt (S':=S) om lM (λ_ h=>h) g 0 rows.flatten (λj hj=>bn.old _ (.inl (by rw[qL c9]at hj;omega))) hr.flat;refine a8.append _ _ 0 r1 ?_;rw[qL c9,Nat.zero_add];exact a8.of_vals _ aG _ (aC.keep2 om lM (λ_ h=>h) kU) bn.new
    ·injection hq with hq;subst hq
     exact⟨by rw[gW];simp only[aO];rw[if_neg om],vf⟩
    ·simp only[aO]at hq;rw[if_neg om]at hq;exact .inl hq
   ·obtain⟨b',bF,cp,q1,_,_,q2,q3⟩:=Zk7 vf;rw[gW]at q1;injection q1 with e1 e2 e3
    exact grow _ _ cp gW om q2 q3
 ·obtain⟨kY,b,n,gW⟩:=hv;obtain⟨b',bF,cp,q1,q2,q3,q4,q5⟩:=ZiK c9 kY;rw[gW]at q1;injection q1 with e1 e2 e3
  by_cases vh:ys=[]
  ·have hr:rows=[]:=by
    rcases aP with h|h
    ·exact h
    ·exact absurd vh h
   refine ye b hr vh ?_;rw[gW];have:n=0:=by rw[e2,hr];rfl
   rw[this]
  ·have xL:0<ys.length:=List.length_pos_iff.2 vh;exact grow b n cp (by rw[gW,e2]) om q4 q5
end
def eP(s:ByteArray):sh:=s.data.toList.map λb=>[.A (.int .u8 b.toNat)]
def yu(s:ByteArray):(eP s).length=s.size:=by rw[eP,Tay,Array.length_toList];rfl
def ZtB(s:ByteArray):rowsLen 1 (eP s):=λr hr=>by
 obtain⟨b,_,rfl⟩:=Tbj.1 hr;exact⟨rfl,rfl⟩
def Zmw(s t:ByteArray):eP s++eP t=eP (s++t):=by
 rw[eP,eP,eP,<- Tbw];congr 1
def ZEO(s:ByteArray):(eP s).flatten=(Lib.strCells s).map C.A:=by
 rw[eP,Lib.strCells,List.map_map]
 induction s.data.toList with
 |nil=>rfl
 |cons b l ih=>simp only[Tbv,List.flatten_cons,ih,Taf,Tah];rfl
def ZlI{w:World}{S:GO}:∀vs:GK,aC w S (vs.map C.A) vs
 |[]=>by simp[aC]
 |v::vs=>by simp only[Tbv,aC,aR];exact⟨trivial,ZlI vs⟩
section
variable{e:Env}{K:GR}{ds:By}{os:GL}{s:d3}{m:it}
def ZCB{o:Oper}{y:Operand}{t d:Nat}{str:ByteArray}(ho:o.op=.call ⟨.builtin .append,#[x,y],#[t,t2]⟩)(iX:o.dst=some d)(hb:jT e.P t=some (ety,1,il))(vd:e.P.underlying t2=some .string)
  (hx:aL σ.s x=.Υ k) (hm:gm σ.m k=some (.Υ oa ety 1 rows)) (hy:aL σ.s y=GY (.A (.string str))) (cw:rows.length+(eP str).length<=al) (hK:K ⟨(d,.Υ d)::bX d (bX k σ.s),(d,.Υ none ety 1 (rows++eP str))::aA d (aA k σ.m)⟩):jW e o σ K:=by
 intro he U w0 S0 nt a w Q hd ⟨S,L,h⟩;have aW:a.eval x=L.v k:=by have:=h.eval x;rw[hx]at this;exact this
 have km:a.eval y=.string str:=by have:=h.eval y;rw[hy]at this;simpa[aw,aX,aR]using this
 have cr:eO w S ety 1 rows (L.v k):=(h.Ξ.own k _ hm).2
 obtain⟨v',w',aF,f9,τ,hk,G9,eX⟩:=Zvk (ty:=o.type) (ts:=#[t,t2]) (v:=L.v k) (u:=.string str) he h.Ξ rfl rfl vd hb (.inl cr) cr.2.1 (ZtB str) cw
  ⟨Lib.strCells str,λw'=>by simp[Builtin.lenOf,yu],by rw[ZEO];exact ZlI _,λP w' _=>by rw[yu];exact Lib.run_firstCells_string w' 1 str⟩
 unfold Oper.wp;have oF:(execOp a.eval o).run e.P w=.ok (.value v') w':=by
  exact m260
 rw[oF,Oper.upon_value,iX];refine⟨_,hK,h.born he (hd d iX) (τ:=τ) (b':=0) (v':=v') (s1:=bX k σ.s) (m1:=aA k σ.m) (λ_ h=>h) (λ_ h=>.inl h) (λt=>?_) (λk' x hx=>?_) (λg hg=>?_) (λk' x g cl hx hg cu=>?_) hk ?_ (λg hg=>?_) (by simp[aw])⟩
 ·rcases Bb k t σ.s with⟨h1,_⟩|h1
  ·exact .inl h1
  ·exact .inr h1
 ·rw[gq]at hx;split at hx
  ·cases hx
  ·exact hx
 ·have gh:=(G9 g hg).1;exact⟨(b6.lt (k:=k) (L:=L) (bk:=.Υ none ety 1 rows) ⟨by simp,cr⟩ gh).2,h.Ξ.notE hm gh,h.Ξ.mine k _ g hm gh⟩
 ·have gh:=(G9 g hg).1;rw[gq]at hx;split at hx
  ·cases hx
  ·rename_i xz;exact xz (h.Ξ.inj k' k x _ g hx hm cu gh)
 ·simp only[b6,if_true];exact⟨by simp,f9⟩
 ·simp only[dh,if_true]at hg;exact eX g hg
def ZqW:∀(l:List UInt8)(qp:ByteArray),(l.map λb=>(b.toNat:Int)).foldl (λr n=>r.push (UInt8.ofNat n.toNat)) qp=⟨qp.data++l.toArray⟩
 |[],qp=>by simp
 |b::l,qp=>by
  rw[Tbv,List.foldl_cons,ZqW l];rw[(by simp:UInt8.ofNat ((b.toNat:Int)).toNat=b)];simp[ByteArray.push]
def ZEP(s:ByteArray):(s.data.toList.map λb=>(b.toNat:Int)).foldl (λr n=>r.push (UInt8.ofNat n.toNat)) ByteArray.empty=s:=by
 rw[ZqW];show(⟨#[]++s.data.toList.toArray⟩:ByteArray)=s;simp
def Zvl {o:Oper} {t d:TypeId} {str:ByteArray} (ho:o.op=.convert t d x) (hx:aL σ.s x=.Υ k) (hm:gm σ.m k=some (.Υ oa ety 1 (eP str))) (ht:CK e.P t d) (hK:K ⟨aD σ.s o.dst (GY (.A (.string str))),σ.m⟩):jW e o σ K:=by
 intro he U w0 S0 nt a w Q hd ⟨S,L,h⟩;have aW:a.eval x=L.v k:=by have:=h.eval x;rw[hx]at this;exact this
 have cr:eO w S ety 1 (eP str) (L.v k):=(h.Ξ.own k _ hm).2;have aF:(convert t d (L.v k)).run e.P w=.ok (.string str) w:=by
  unfold CK at ht;split at ht
  ·rename_i e1 h1 h2;split at ht
   ·rename_i h3;have key:∀(b:BY)(cap:Nat),L.v k=.slice b str.size cap->(∀ad,b=some ad->(loadCells ad str.size).run e.P w=.ok ((str.data.toList.map λb=>(b.toNat:Int)).map (Value.int .u8)).toArray w)->(b=none->str.size=0)->(convert t d (L.v k)).run e.P w=.ok (.string str) w:=λb cap hv hl hn=>by
     rw[hv,run_convert_bytes_string w t d e1 b _ cap h1 h3 h2]
     cases b with
     | none =>
      have h0:=hn rfl;have:str=ByteArray.empty:=by
       cases str with
       |mk data=>simp only[ByteArray.size]at h0;rw[Array.eq_empty_of_size_eq_zero h0];rfl
      rw[this];simp[Conv.bytesToString]
     |some ad =>
      rw[run_bytesToString w ad _ cap _ (hl ad rfl),ZEP]
    rcases cr.2.2 with⟨hr,b,hv⟩|⟨g,cap,bf,hv,hc,hg,hs,hh,u6,c8,gc,hr⟩
    ·have h0:str.size=0:=by rw[<- yu,hr];rfl
     have sF:str.data.toList=[]:=Tao (by rw[Array.length_toList];exact h0);refine key b 0 (by rw[hv,h0]) (λad _=>?_) (λ_=>h0);rw[h0,sF];simp[loadCells,loadCellsFrom]
    ·rw[yu]at hv;refine key _ cap hv (λad had=>?_) (λhb=>by cases hb);injection had with had
     subst had;have hl:=run_loadCells_list (P:=e.P) w ⟨g,0,none⟩ ((str.data.toList.map λb=>(b.toNat:Int)).map (Value.int .u8)) (λj u hj=>by
      rw[Tba,Tba]at hj;obtain⟨b,hb,rfl⟩:∃b,str.data.toList[j]?=some b/\u=.int .u8 b.toNat:=by
       cases hq:str.data.toList[j]? with
       |none=>rw[hq]at hj;cases hj
       |some b=>rw[hq]at hj;injection hj with hj;exact⟨b,rfl,hj.symm⟩
      have h1:=ct.get (eP str) 0 j [.A (.int .u8 b.toNat)] (k:=1) (λz hz=>(ZtB str z hz).1) hr (by rw[eP,Tba,hb];rfl);rw[Addr.add_at];simpa[a8,aR]using h1)
     rw[Tay,Tay,Array.length_toList]at hl;exact hl
   ·cases ht
  ·cases ht
 unfold Oper.wp;have oF:(execOp a.eval o).run e.P w=.ok (.value (.string str)) w:=by
  simp[execOp,ho,aW,aF,Result.andThen]
 rw[oF,Oper.upon_value];exact⟨_,hK,S,L,h.put (α:=GY (.A (.string str))) (by simp[aw,aX,aR]) hd⟩
def gSt{d t:Nat}{y:Operand}{str:ByteArray}{s2:d3}{m2:it}(cw:rows.length+(eP str).length<=al)(vd:e.P.underlying t2=some .string)(hK:an e ds 0 os ⟨(d,.Υ d)::s2,(d,.Υ none ety 1 (rows++eP str))::m2⟩ K)
  (hb:jT e.P t=some (ety,1,il):=by exact iK) (hx:aL s x=.Υ k:=by exact iK) (hm:gm m k=some (.Υ oa ety 1 rows):=by exact oJ) (hy:aL s y=GY (.A (.string str)):=by exact iK)
  (hs:bX d (bX k s)=s2:=by exact dE) (hr:aA d (aA k m)=m2:=by exact dE):an e ds 0 (⟨some d,.call ⟨.builtin .append,#[x,y],#[t,t2]⟩,ty,p,ed,none⟩::os) ⟨s,m⟩ K:=by
 subst hs hr;simp only[an]at hK⊢;exact vG rfl (ZCB rfl rfl hb vd hx hm hy cw hK)
def gTx{d t1:Nat}(str:ByteArray)(ht:CK e.P t1 t2)(hK:an e ds 0 os ⟨(d,GY (.A (.string str)))::s,m⟩ K)(hx:aL s x=.Υ k:=by exact iK)(hm:gm m k=some (.Υ oa ety 1 (eP str)):=by exact oJ):an e ds 0 (⟨some d,.convert t1 t2 x,ty,p,ed,none⟩::os) ⟨s,m⟩ K:=by
 simp only[an]at hK⊢;exact vG rfl (Zvl (o:=⟨some d,.convert t1 t2 x,ty,p,ed,none⟩) rfl hx hm ht hK)
end
def bH(w:World):sh->(GO)->AT->Prop
 |[],_,[]=>True
 |r::rs,S,us::uss=>∃S1 S2:GO,(∀x,S1 x->S x)/\(∀x,S2 x->S x)/\(∀x,S1 x->S2 x->False)/\aV w r S1 us/\bH w rs S2 uss
 |_,_,_=>False
def aY(us:GK):we:=us.map .A
section
variable{w w':World}
def bH.Ε(hz:w.heap.size<=w'.heap.size):∀(rows:sh)(S S':GO)(uss:AT),(∀b,S b->w'.heap[b]?=w.heap[b]?)->(∀b,S b->S' b)->bH w rows S uss->bH w' rows S' uss
 |[],_,_,[],_,_,_=>trivial
 |r::rs,S,S',us::uss,hk,hS,h=>by
  obtain⟨S1,S2,h1,h2,hd,hr,nB⟩:=h;exact⟨S1,S2,λx hx=>hS x (h1 x hx),λx hx=>hS x (h2 x hx),hd,aV.Ε hz r S1 S1 us (λx hx=>hk x (h1 x hx)) (λ_ h=>h) hr,bH.Ε hz rs S2 S2 uss (λx hx=>hk x (h2 x hx)) (λ_ h=>h) nB⟩
 |[],_,_,_::_,_,_,h=>h.elim
 |_::_,_,_,[],_,_,h=>h.elim
def bH.len:∀{rows:sh}{S:GO}{uss:AT},bH w rows S uss->uss.length=rows.length
 |[],_,[],_=>rfl
 |r::rs,S,us::uss,⟨S1,S2,_,_,_,_,h⟩=>by simp[bH.len h]
def bH.snoc:∀{rows:sh}{r:we}{S S1 S2:GO}{uss:AT}{us:GK},bH w rows S1 uss->aV w r S2 us->(∀x,S1 x->S x)->(∀x,S2 x->S x)->(∀x,S1 x->S2 x->False)->bH w (rows++[r]) S (uss++[us])
 |[],r,S,S1,S2,[],us,_,h2,i1,i2,hd=>⟨S2,λ_=>False,i2,λ_ h=>h.elim,λ_ _ h=>h,h2,trivial⟩
 | q::qs,r,S,S1,S2,vs::vss,us,⟨T1,T2,a1,a2,a3,a4,a5⟩,h2,i1,i2,hd =>
  ⟨T1,λx=>T2 x\/S2 x,λx hx=>i1 x (a1 x hx),λx hx=>hx.elim (λh=>i1 x (a2 x h)) (i2 x),λx hx hy=>hy.elim (a3 x hx) (hd x (a1 x hx)),a4,
   bH.snoc a5 h2 (λ_ h=>.inl h) (λ_ h=>.inr h) (λx hx hy=>hd x (a2 x hx) hy)⟩
 |[],_,_,_,_,_::_,_,h,_,_,_,_=>h.elim
 |_::_,_,_,_,_,[],_,h,_,_,_,_=>h.elim
def bH.get:∀{rows:sh}{S:GO}{uss:AT}{i:Nat}{r:we}{us:GK},bH w rows S uss->rows[i]?=some r->uss[i]?=some us->aV w r S us
 |r::rs,S,us::uss,0,r',us',⟨S1,S2,h1,_,_,h,_⟩,hr,hu=>by
  simp at hr hu;subst hr hu;exact aV.Ε (Tai _) r S1 S us (λ_ _=>rfl) h1 h
 |r::rs,S,us::uss,i+1,r',us',⟨S1,S2,_,h2,_,_,h⟩,hr,hu =>
  aV.Ε (Tai _) r' S2 S us' (λ_ _=>rfl) h2 (bH.get h (by simpa using hr) (by simpa using hu))
 |[],_,_,_,_,_,_,hr,_=>by simp at hr
 |_::_,_,[],_,_,_,h,_,_=>h.elim
def bH.Κ(rows:sh)(E:GO)(uss:AT):vO E (λw=>bH w rows E uss):=λw w' hz hk h=>bH.Ε hz rows E E uss hk (λ_ h=>h) h
def aV.Κ(r:we)(E:GO)(us:GK):vO E (λw=>aV w r E us):=λw w' hz hk h=>aV.Ε hz r E E us hk (λ_ h=>h) h
def bp.Κ(c:C)(E:GO)(v:Value):vO E (λw=>bp w c E v):=λw w' hz hk h=>bp.Ε hz c E E v hk (λ_ h=>h) h
def Zjj{S:GO}:∀{us vs:GK},aC w S (aY us) vs->vs=us
 |[],[],_=>rfl
 |u::us,v::vs,h=>by
  simp only[aY,Tbv,aC,aR]at h;rw[h.1,Zjj h.2]
 |[],_::_,h=>by simp[aY,aC]at h
 |_::_,[],h=>by simp[aY,aC]at h
def jm.close{b:Nat}{T:GO}:∀{rows:sh}{uss:AT}{S:GO}{off:Nat},ct w T b off (uss.map aY)->bH w rows S uss->jm w b rows S off
 |[],[],_,_,_,_=>by simp[jm]
 |r::rs,us::uss,S,off,hr,⟨S1,S2,h1,h2,hd,hv,d8⟩=>by
  simp only[Tbv,ct]at hr;simp only[jm];obtain⟨vs,q1,q2⟩:=hr.1.vals;have e:=Zjj q1;subst e;refine⟨S1,S2,h1,h2,hd,lv.of_vals r S1 vs off hv q2,?_⟩;rw[<- (by simp[aY,aV.len hv]:(aY vs).length=r.length)];exact jm.close hr.2 d8
 |[],_::_,_,_,_,h=>h.elim
 |_::_,[],_,_,_,h=>h.elim
def bp.close{T:GO}{uss:AT}{a:BY}(hb:eO w T ety sz (uss.map aY) (.slice a uss.length cap))(hv:bH w rows E uss)(hd:∀b,aO (.slice a uss.length cap)=some b->¬E b) :
  bp w (.sl rows) (λb=>aO (.slice a uss.length cap)=some b\/E b) (.slice a uss.length cap):=by
 have bh:=hv.len;obtain⟨h1,h2,h3⟩:=hb;simp only[bp];rcases h3 with⟨h4,a',h5⟩|⟨g,bF,bf,h5,hc,hg,hs,hh,hl,hm,gc,hr⟩
 ·injection h5 with e1 e2 e3
  subst e1 e3;have jt:uss=[]:=by simpa using h4
  exact⟨a,uss.length,0,rfl,bh.symm,by rw[jt];exact Tai _,by decide,λh=>absurd h (by decide)⟩
 ·injection h5 with e1 e2 e3
  subst e1 e3;have gW:aO (.slice (some ⟨g,0,none⟩) uss.length cap)=some g:=by simp only[aO];rw[if_neg om]
  simp only[Tay]at hl;refine⟨_,uss.length,cap,rfl,bh.symm,hl,hm,λh0=>⟨g,0,E,rfl,.inl gW,hg,⟨λo=>frozen_of_row w g o bf ety hh,rfl,bf,ety,sz,hh,gc,h1,λr rV=>?_⟩,λx hx=>⟨.inr hx,λe=>hd g gW (e▸hx)⟩,jm.close hr hv⟩⟩;obtain⟨i,hi⟩:=Tbl rV;have e7:=(Tad.1 hi).1;obtain⟨us,hu⟩:∃us,uss[i]?=some us:=⟨_,Taa om⟩;have hq:=(h2 (aY us) (Tbj.2 ⟨us,Tac hu,rfl⟩)).1;have hq2:=aV.len (hv.get hi hu)
  simp only[aY,Tay]at hq;omega
def lv.open{b:Nat}:∀{cs:we}{S:GO}{off:Nat},lv w b cs S off->∃us,aV w cs S us/\∀j u,us[j]?=some u->w.cell? ⟨b,off+j,none⟩=some u
 |[],S,off,_=>⟨[],aV.nil,λj u h=>by simp at h⟩
 |c::cs,S,off,h=>by
  simp only[lv]at h;obtain⟨S1,S2,u,h1,h2,hd,hu,hc,gc⟩:=h;obtain⟨us,k1,k2⟩:=lv.open gc;refine⟨u::us,aV.cons S1 S2 hc k1 h1 h2 hd,λj v hj=>?_⟩
  cases j with
  |zero=>simp at hj;subst hj;exact hu
  |succ j=>have:=k2 j v (by simpa using hj);rw[<- this];congr 2;omega
def jm.open{b:Nat}:∀{rows:sh}{S:GO}{off:Nat},jm w b rows S off->∃uss,bH w rows S uss/\∀T:GO,ct w T b off (uss.map aY)
 |[],S,off,_=>⟨[],trivial,λT=>by simp[ct]⟩
 |r::rs,S,off,h=>by
  simp only[jm]at h;obtain⟨S1,S2,h1,h2,hd,hr,nB⟩:=h;obtain⟨us,k1,k2⟩:=lv.open hr;obtain⟨uss,k3,k4⟩:=jm.open nB;refine⟨us::uss,⟨S1,S2,h1,h2,hd,k1,k3⟩,λT=>?_⟩;simp only[Tbv,ct];refine⟨a8.of_vals _ us off (Zh3 us) k2,?_⟩;rw[show(aY us).length=r.length by simp[aY,k1.len]];exact k4 T
def aV.cells:∀{cs:we}{S:GO}{us:GK},aV w cs S us->cs.all bQ->(aY us).all bQ=true
 |[],_,[],_,_=>rfl
 |c::cs,S,u::us,h,hc=>by
  simp only[aV]at h;obtain⟨S1,S2,_,_,_,h1,h2⟩:=h;simp only[List.all_cons,Tar]at hc;simp only[aY,Tbv,List.all_cons,Tar];exact⟨Zhs (c:=c) hc.1 (bp.rep c S1 u h1),aV.cells h2 hc.2⟩
 |[],_,_::_,h,_=>by simp[aV]at h
 |_::_,_,[],h,_=>by simp[aV]at h
def bp.open{T:GO}{a:BY}(hT:∀b,E b->¬T b)(aP:rows≠[])(c9:rowsLen sz rows)(h:bp w (.sl rows) E (.slice a n cap)) :
  ∃uss ety E',n=uss.length/\eO w T ety sz (uss.map aY) (.slice a uss.length cap)/\bH w rows E' uss/\(∀b,E' b->E b/\aO (.slice a uss.length cap)≠some b)/\∀b,aO (.slice a uss.length cap)=some b->E b:=by
 simp only[bp]at h;obtain⟨A,n',bF,hv,hn,cw,c8,hb⟩:=h;injection hv with e1 e2 e3
 subst e1 e2 e3;have h0:0<rows.length:=List.length_pos_iff.2 aP;obtain⟨b,off,S',rfl,hEb,qT,⟨nO,rfl,bf,ety,lq,hh,gc,hz,nB⟩,ky,cn⟩:=hb om;obtain⟨uss,k1,k2⟩:=jm.open cn;have hl:=k1.len;have bP:lq=sz:=by
  obtain⟨r,hr⟩:=List.exists_mem_of_ne_nil _ aP;rw[<- nB r hr,(c9 r hr).1]
 subst bP;have gW:aO (.slice (some ⟨b,0,none⟩) uss.length cap)=some b:=by simp only[aO];rw[if_neg om]
 have fw:rowsLen lq (uss.map aY):=λx hx=>by
  obtain⟨us,d7,rfl⟩:=Tbj.1 hx;obtain⟨i,hi⟩:=Tbl d7;have e7:=(Tad.1 hi).1;obtain⟨r,hr⟩:∃r,rows[i]?=some r:=⟨_,Taa om⟩;have hov:=k1.get hr hi;have Gq:=c9 r (Tac hr);exact⟨by simp only[aY,Tay];rw[hov.len];exact Gq.1,hov.cells Gq.2⟩
 refine⟨uss,ety,S',om,⟨hz,fw,.inr ⟨b,cap,bf,by simp,om,qT,hT b hEb,hh,by simp only[Tay];omega,c8,gc,k2 T⟩⟩,k1,λx hx=>⟨(ky x hx).1,λe=>?_⟩,λx hx=>?_⟩
 ·rw[gW]at e;injection e with e;exact(ky x hx).2 e.symm
 ·rw[gW]at hx;injection hx with hx;rw[<- hx];exact hEb
end
def zy(x:Bk):oO [x]:=⟨by simp,trivial⟩
def vE:jn [] [.set (λ_=>False) (λw=>bH w [] (λ_=>False) [])]:=λw S _ _ =>
 ⟨λx hx=>by simp at hx;subst hx;exact⟨λb h=>h.elim,trivial,bH.Κ _ _ _⟩,zy _,λg⟨x,hx,hg⟩=>by simp at hx;subst hx;exact hg.elim⟩
def CI{E2:GO}{G G2 G':World->Prop}(hG:∀w,G w->G2 w->(∀b,E b->E2 b->False)->G' w)(aZ:vO (λb=>E b\/E2 b) G'):jn [.set E G,.set E2 G2] [.set (λb=>E b\/E2 b) G']:=λw S h ha=>by
 have h1:=h (.set E G) (by simp);have h2:=h (.set E2 G2) (by simp);refine⟨λx hx=>?_,zy _,λg⟨x,hx,hg⟩=>?_⟩
 ·simp at hx;subst hx;exact⟨λb hb=>hb.elim (h1.1 b) (h2.1 b),hG w h1.2.1 h2.2.1 (λb q1 q2=>ha.1 (.set E2 G2) (by simp) b q1 q2),aZ⟩
 ·simp at hx;subst hx;rcases hg with hg|hg
  ·exact⟨.set E G,by simp,hg⟩
  ·exact⟨.set E2 G2,by simp,hg⟩
def ZCC{G G':World->Prop}(hG:∀w,G w->G' w)(aZ:vO E G'):jn [.set E G] [.set E G']:=λw S h ha=>by
 have h1:=h (.set E G) (by simp);refine⟨λx hx=>?_,zy _,λg⟨x,hx,hg⟩=>?_⟩
 ·simp at hx;subst hx;exact⟨h1.1,hG w h1.2.1,aZ⟩
 ·simp at hx;subst hx;exact⟨.set E G,by simp,hg⟩
def Cl{a:BY}{uss:AT}{G':World->Prop}(hG:∀w,bp w (.sl rows) (λb=>aO (.slice a uss.length cap)=some b\/E b) (.slice a uss.length cap)->G' w)(aZ:vO (λb=>aO (.slice a uss.length cap)=some b\/E b) G') :
  jn [.Υ (some (a,cap)) ety sz (uss.map aY),.set E (λw=>bH w rows E uss)] [.set (λb=>aO (.slice a uss.length cap)=some b\/E b) G']:=λw S h ha=>by
 have h1:eO w S ety sz (uss.map aY) (.slice a (uss.map aY).length cap):=h (.Υ (some (a,cap)) ety sz (uss.map aY)) (by simp);have h2:=h (.set E (λw=>bH w rows E uss)) (by simp);have hd:=ha.1 (.set E (λw=>bH w rows E uss)) (by simp);rw[Tay]at h1;simp only[eE,Tay]at hd;refine⟨λx hx=>?_,zy _,λg⟨x,hx,hg⟩=>?_⟩
 ·simp at hx;subst hx;refine⟨λb hb=>?_,hG w (bp.close h1 h2.2.1 hd),aZ⟩;rcases hb with hb|hb
  ·exact b6.lt (L:=⟨λ_=>0,λ_=>.slice a uss.length cap⟩) (k:=0) (bk:=.Υ none ety sz (uss.map aY)) ⟨by simp,h1⟩ hb
  ·exact h2.1 b hb
 ·simp at hx;subst hx;rcases hg with hg|hg
  ·exact⟨.Υ (some (a,cap)) ety sz (uss.map aY),by simp,by simp only[eE,Tay];exact hg⟩
  ·exact⟨.set E (λw=>bH w rows E uss),by simp,hg⟩
def kw(row:we)(r:AS)(pm:GQ):Prop:=∃us E,r=[.agg (aY us)]/\us.length=row.length/\(aY us).all bQ/\pm=[.set E (λw=>aV w row E us)]
def ZlJ(ety sz:Nat)(rows:sh)(r:AS)(pm:GQ):Prop:=∃a cap uss E,r=[.I (.A (.slice a uss.length cap))]/\uss.length=rows.length/\pm=[.Υ (some (a,cap)) ety sz (uss.map aY),.set E (λw=>bH w rows E uss)]
def kw.mk{row:we}{us:GK}(h:us.length=row.length)(aq:(aY us).all bQ):kw row [.agg (aY us)] [.set E (λw=>aV w row E us)]:=⟨us,E,rfl,h,aq,rfl⟩
def ZlJ.mk{a:BY}{uss:AT}(h:uss.length=rows.length):ZlJ ety sz rows [.I (.A (.slice a uss.length cap))] [.Υ (some (a,cap)) ety sz (uss.map aY),.set E (λw=>bH w rows E uss)]:=⟨a,cap,uss,E,rfl,h,rfl⟩
def m119(h:G3:=by
 rcases f9 with⟨h4,_⟩|⟨g,bF,bf,h4,_,_,_,_,h5,_⟩
 ·rw[h4];exact Taj _
 ·rw[hv]at h4;injection h4 with _ _ h4;rw[h4];exact h5):G3:=h
def m118(h:G3:=by
 unfold kK at ht;split at ht
 ·rename_i ety hu;simp only[Tav]at ht;obtain⟨i,hi,hs⟩:=ht;exact⟨ety,i,hu,hi,hs⟩
 ·cases ht):G3:=h
def AM(b:G5)(h:Bx G5->G4:=by
 intro B0
 simp only[Tbh,List.not_mem_nil,or_false]at hx;exact B0.o hx):G4:=h ⟨b⟩
def ZqX{n:Nat}:∀{rows:sh}(l:Nat),rowsLen n rows->(rows.take l).flatten=rows.flatten.take (l*n)
 |[],l,_=>by simp
 |r::rs,0,_=>by simp
 |r::rs,l+1,h=>by
  have h1:=(h r Tas).1;have h2:=ZqX (n:=n) l (λx hx=>h x (Tal _ hx):rowsLen n rs);simp only[Tbc,List.flatten_cons,h2];rw[show(l+1)*n=r.length+l*n by rw[h1,Nat.succ_mul,Nat.add_comm],List.take_length_add_append]
def ZqY{n:Nat}:∀{rows:sh}(l:Nat),rowsLen n rows->(rows.drop l).flatten=rows.flatten.drop (l*n)
 |[],l,_=>by simp
 |r::rs,0,_=>by simp
 |r::rs,l+1,h=>by
  have h1:=(h r Tas).1;have h2:=ZqY (n:=n) l (λx hx=>h x (Tal _ hx):rowsLen n rs);simp only[List.drop_succ_cons,List.flatten_cons,h2];rw[show(l+1)*n=r.length+l*n by rw[h1,Nat.succ_mul,Nat.add_comm],List.drop_length_add_append]
section
variable{e:Env}{U:GO}{w0:World}{S0:GO}{nt:Nat}{σ:St}{a:Act}{w:World}{S:GO}{L:Lay}
def Sim.storeRows (h:Sim e U w0 S0 nt σ a w S L) (he:e.Ok) {o:Option (BY×Nat)} {l g:Nat} {aG:sh} {vs:GK} (hm:gm σ.m k=some (.Υ o ety sz rows)) (hg:aO (L.v k)=some g) (hl:l+aG.length<=rows.length) (hn:rowsLen sz aG) (hu:aC w S aG.flatten vs) :
  ∃w',(storeCells ⟨g,l*sz,none⟩ vs).run e.P w=.ok () w'/\aS e U w0 S0 nt ⟨σ.s,(k,.Υ o ety sz (rows.take l++aG++rows.drop (l+aG.length)))::aA k σ.m⟩ a w':=by
 obtain⟨pO,gv,c9,h3⟩:=h.Ξ.own k _ hm;have jN:=hu.len;have h1:=Zmh hn;rw[qL hn]at jN;rcases h3 with⟨h3,p,h4⟩|⟨g',cap,bf,hv,Gi,hg1,sG,kh,bh,tx,gc,cn⟩
 ·rw[h4]at hg;cases p<;>simp[aO]at hg
 ·have hgg:g'=g:=by rw[hv]at hg;simp only[aO]at hg;rw[if_neg om]at hg;injection hg
  subst hgg;have nN:=qL c9;have dD:l*sz+vs.length<=rows.length*sz:=by
   have:=Nat.mul_le_mul_right sz hl;rw[Nat.add_mul]at this;omega
  have hin2:rows.length*sz<=cap*sz:=Nat.mul_le_mul_right sz bh;have aZ:=run_storeCells_at e.P g' (l*sz) ety vs 0 bf w kh (by rw[gc];omega) (Ff h1 hu);simp only[Nat.add_zero]at aZ;have bn:=Zgc w g' (l*sz) ety vs bf kh (by rw[gc];omega);refine⟨_,aZ,?_⟩;have dl:=setRow_heap w g' bf (bf.toList.take (l*sz)++vs++bf.toList.drop (l*sz+vs.length)).toArray ety _ kh
  have ev:(w.setRow g' (bf.toList.take (l*sz)++vs++bf.toList.drop (l*sz+vs.length)).toArray).drawn=w.drawn:=Ze7 _ _ _;generalize hW:w.setRow g' (bf.toList.take (l*sz)++vs++bf.toList.drop (l*sz+vs.length)).toArray=W at bn dl ev⊢;have bP:W.heap.size=w.heap.size:=bn.size;have lM:∀b o,S b->W.cell? ⟨b,o,none⟩=w.cell? ⟨b,o,none⟩:=λb o hs=>rq (bn.other b (λe=>sG (e▸hs))) o
  have tv:dh L k (.Υ o ety sz rows) g':=hg;have kj:(rows.take l++aG++rows.drop (l+aG.length)).length=rows.length:=by simp;omega
  have fc:b6 W S L k (.Υ o ety sz (rows.take l++aG++rows.drop (l+aG.length))):=by
   simp only[b6];refine⟨λa ha=>by rw[pO a ha,kj],gv,λx hx=>?_,.inr ⟨g',cap,_,by rw[hv,kj],Gi,om,sG,dl,by rw[kj];exact bh,tx,by simp;omega,?_⟩⟩
   ·rcases Tbi.1 hx with hx|hx
    ·rcases Tbi.1 hx with hx|hx
     ·exact c9 x (List.mem_of_mem_take hx)
     ·exact hn x hx
    ·exact c9 x (List.mem_of_mem_drop hx)
   ·apply ct.of_flat;rw[List.flatten_append,List.flatten_append,ZqX l c9,ZqY _ c9];have hz:w.heap.size<=W.heap.size:=om;have hf:=cn.flat;have r1:=a8.keepAt (S':=S) hz lM (λ_ h=>h) g' 0 (rows.flatten.take (l*sz)) (λi hi=>bn.old _ (.inl (by simp at hi;omega))) (hf.take (l*sz));have r3:a8 W S g' (l*sz) aG.flatten:=a8.of_vals _ vs _ (aC.keep2 hz lM (λ_ h=>h) hu) bn.new
    have r5:=a8.keepAt (S':=S) hz lM (λ_ h=>h) g' _ (rows.flatten.drop ((l+aG.length)*sz)) (λi hi=>bn.old _ (.inr (by rw[jN];rw[Nat.add_mul];omega))) (hf.drop ((l+aG.length)*sz));have l1:(rows.flatten.take (l*sz)).length=l*sz:=by rw[Taw,nN];omega
    refine a8.append _ _ 0 (a8.append _ _ 0 r1 ?_) ?_
    ·rw[l1,Nat.zero_add];exact r3
    ·rw[Tae,l1,qL hn,<- Nat.add_mul];exact r5
  obtain⟨t1,t2,t3⟩:=h.touch he (d:=k) (bk:=.Υ o ety sz (rows.take l++aG++rows.drop (l+aG.length))) (m':=(k,.Υ o ety sz (rows.take l++aG++rows.drop (l+aG.length)))::aA k σ.m) (w':=W) (L':=L) (τ:=some g') (λ_ h=>h) (λ_ h=>.inl h)
   (λk' x cl hx=>by simp only[gm,cl,if_false,gq]at hx;exact hx) (by simp[gm]) (λ_ _=>⟨rfl,rfl⟩)
   (λq hq=>by injection hq with hq;subst hq;exact⟨sG,h.Ξ.notE hm tv,h.Ξ.mine k _ _ hm tv⟩)
   (λk' x q cl hx hq hb=>by
    injection hq with hq;subst hq
    simp only[gm,cl,if_false,gq]at hx;exact cl (h.Ξ.inj k' k x _ _ hx hm hb tv))
   ⟨bn.os,bn.tape,bn.output,λ_=>Nat.le_of_eq ev.symm,om,λb hb hE=>bn.other b (λeq=>hE (by rw[eq]))⟩ fc (λq hq=>.inl (by rw[<- hq];exact hg.symm))
  exact⟨S,L,t1,λt=>t3 _ _ (λ_=>⟨rfl,rfl⟩) (h.rel t),h.size,h.defers,t2⟩
end
section
variable{e:Env}{σ:St}{o:Oper}{K:GR}
def ZCD{U:GO}{base:Nat}{S0:GO}{t:TypeId}{lo:Option Operand}(ho:o.op=.slice t x lo hi none){a:BY}{l h:Int}(hx:fz σ.m (aL σ.s x)=.Υ k)(hm:gm σ.m k=some (.Υ (some (a,cap)) ety sz rows))(ht:kK e.P t=some sz)
  (d4:sa (lo.map (aL σ.s))=some l) (lm:rQ rows.length (hi.map (aL σ.s))=some h) (hb:0<=l/\l<=h/\h<=rows.length):iC e U base S0 σ.m o (aL σ.s) (GY (.A (sliced a l.toNat h.toNat cap sz))):=by
 refine oN λw S L C' hC hr=>?_;have aW:=sv hC (hr x (by simp[ho,Op.operands]));rw[hx]at aW;have aW:C' x=L.v k:=aW;obtain⟨kA,_,_,f9⟩:=hC.own k _ hm;have hv:L.v k=.slice a rows.length cap:=kA (a,cap) rfl;have tx:rows.length<=cap:=by
  exact m119
 have yP:∃ety i,e.P.underlying t=some (.slice ety)/\e.P.info? ety=some i/\i.size=sz:=by
  exact m118
 obtain⟨el,i,hu,dR,bP⟩:=yP;have d4:=ZjQ (w:=w) (S:=S) (L:=L) (C':=C') d4 (λy hy=>hr y (by simp[ho,Op.operands,hy]));have lm:=ZjR (w:=w) (S:=S) (L:=L) (C':=C') lm (λy hy=>hr y (by simp[ho,Op.operands,hy]));refine⟨sliced a l.toNat h.toNat cap sz,?_,by simp[aw,aX,aR]⟩;have qw:(Instr.sliceBounds true rows.length cap (lo.map C') (hi.map C') none).run e.P w=.ok (l.toNat,h.toNat,cap) w:=by
  have eh:(h.toNat:Int)=h:=Int.toNat_of_nonneg om;have b1:0<=h:=om;have b2:h<=(cap:Int):=om;have b3:0<=l:=hb.1;have b4:l<=h:=hb.2.1;rcases d4 with⟨rfl,rfl⟩|e1<;>rcases lm with⟨rfl,e2⟩|e2
  ·simp[Instr.sliceBounds,e2,Result.andThen]
  ·exact Ek
  ·simp[Instr.sliceBounds,e1,e2,Result.andThen,run_sliceBound,b3,(om:l<=(rows.length:Int))]
  ·exact Ee
 simp only[execOp,ho,Sem.run_bind,aW,hv,Instr.sliceAt,Instr.slice,underlying,run_program,Result.andThen_ok,hu,Sem.run_pure,Option.map_none,qw,sizeOf,typeInfo,dR,bP,sliced]
def ZEQ{t:TypeId}{lo:Option Operand}(ho:o.op=.slice t x lo hi none){a:BY}{l h:Int}(hx:fz σ.m (aL σ.s x)=.Υ k)(hm:gm σ.m k=some (.Υ (some (a,cap)) ety sz rows))(ht:kK e.P t=some sz)
  (d4:sa (lo.map (aL σ.s))=some l) (lm:rQ rows.length (hi.map (aL σ.s))=some h) (hb:0<=l/\l<=h/\h<=rows.length) (hK:K ⟨aD σ.s o.dst (GY (.A (sliced a l.toNat h.toNat cap sz))),σ.m⟩):jW e o σ K:=by
 intro he U w0 S0 nt ac w Q hd ⟨S,L,h1⟩;exact Oper.wp_mono (λa' w' hs=>⟨_,hK,hs⟩) (Cu h1 hd (ZCD ho hx hm ht d4 lm hb))
def ZkU {U:GO} {base:Nat} {S0:GO} {t:TypeId} {i:Operand} (ho:o.op=.indexAddr t x i) {l:Nat} {a:BY} {j:Int} (hx:aL σ.s x=GY (.A (sliced a l h cap sz))) (hi:aL σ.s i=GU j) (hm:gm σ.m k=some (.Υ (some (a,cap)) ety sz rows)) (ht:kK e.P t=some sz)
  (hb:0<=j/\l+j<h/\h<=rows.length):iC e U base S0 σ.m o (aL σ.s) (.row k (l+j.toNat) sz 0):=by
 refine oN λw S L C' hC hr=>?_;have aW:=hr x (by simp[ho,Op.operands]);have dR:=hr i (by simp[ho,Op.operands]);rw[hx]at aW;rw[hi]at dR;have aW:=lf aW;have dR:=lf dR;obtain⟨kA,_,_,f9⟩:=hC.own k _ hm;have hv:L.v k=.slice a rows.length cap:=kA (a,cap) rfl;rcases f9 with⟨h4,_⟩|⟨g,bF,bf,h4,h6,_,_,_,h5,_⟩
 ·rw[h4]at hb;simp at hb;omega
 ·rw[hv]at h4;injection h4 with h7 _ h8
  subst h7 h8;have u6:¬cap=l:=om;have mW:sliced (some ⟨g,0,none⟩) l h cap sz=.slice (some ⟨g,l*sz,none⟩) (h-l) (cap-l):=by
   simp only[sliced,u6,if_false,Option.map_some,Addr.add_at,Nat.zero_add]
  refine⟨.pointer (some ⟨g,(l+j.toNat)*sz+0,none⟩),?_,g,?_,rfl⟩
  ·unfold kK at ht;split at ht
   ·rename_i el hu;simp only[Tav]at ht;obtain⟨ii,hii,hn⟩:=ht;have am:j<((h-l:Nat):Int):=om;have hj:=hb.1;have e2:l*sz+j.toNat*sz=(l+j.toNat)*sz+0:=by rw[Nat.add_mul];rfl
    simp[execOp,ho,dR,aW,mW,Instr.indexAt,asIntOf,underlying,hu,sizeOf,typeInfo,hii,hn,Addr.add_at,hj,am,Result.andThen,e2]
   ·cases ht
  ·rw[hv];simp only[aO];rw[if_neg om]
def ZtC{t:TypeId}{i:Operand}(ho:o.op=.indexAddr t x i){l:Nat}{a:BY}{j:Int}(hx:aL σ.s x=GY (.A (sliced a l h cap sz)))(hi:aL σ.s i=GU j)(hm:gm σ.m k=some (.Υ (some (a,cap)) ety sz rows))(ht:kK e.P t=some sz)
  (hb:0<=j/\l+j<h/\h<=rows.length) (hK:K ⟨aD σ.s o.dst (.row k (l+j.toNat) sz 0),σ.m⟩):jW e o σ K:=by
 intro he U w0 S0 nt ac w Q hd ⟨S,L,h1⟩;exact Oper.wp_mono (λa' w' hs=>⟨_,hK,hs⟩) (Cu h1 hd (ZkU ho hx hi hm ht hb))
def ZrI{t:TypeId}{i:Operand}(ho:o.op=.indexAddr t x i){l:Nat}{a:BY}{j:Int}(hx:aL σ.s x=GY (.A (sliced a l h cap sz)))(hi:aL σ.s i=GU j)(hm:gm σ.m k=some (.Υ (some (a,cap)) ety sz rows))(ht:kK e.P t=some sz)
  (hb:0<=j/\l+j<h/\h<=rows.length) (hK:K ⟨aD σ.s o.dst (.row k (l+j.toNat) sz 0),σ.m⟩):yq e o σ K:=λhe=>⟨_,hK,λU base S0=>ZkU ho hx hi hm ht hb⟩
def ZyB{t:TypeId}(ho:o.op=.call ⟨.builtin .clear,#[x],#[t]⟩){l:Nat}{a:BY}{z:we}(hx:aL σ.s x=GY (.A (sliced a l rows.length cap sz)))(hm:gm σ.m k=some (.Υ (some (a,cap)) ety sz rows))(ht:jT e.P t=some (ety,sz,il))(hz:jU e.P ety=some z)(xM:z.all bQ)(hl:l<rows.length)
  (hK:K ⟨aD σ.s o.dst (.tup []),(k,.Υ (some (a,cap)) ety sz (rows.take l++List.replicate (rows.length-l) z))::aA k σ.m⟩):jW e o σ K:=by
 intro he U w0 S0 nt ac w Q hd ⟨S,L,h1⟩;have aW:=h1.eval x;rw[hx]at aW;have aW:=lf aW;obtain⟨kA,gv,_,f9⟩:=h1.Ξ.own k _ hm;have hv:L.v k=.slice a rows.length cap:=kA (a,cap) rfl;obtain⟨i,zv,hu,hi,sL,bP,tw,sK,gv,tu⟩:=A3 ht;have hzc:z=zv.cells.toList.map ux:=by
  exact m168
 rcases f9 with⟨h4,_⟩|⟨g,bF,bf,h4,h6,_,_,_,h5,_⟩
 ·rw[h4]at hl;simp at hl
 ·rw[hv]at h4;injection h4 with h7 _ h8
  subst h7 h8;have u6:¬cap=l:=om;have mW:sliced (some ⟨g,0,none⟩) l rows.length cap sz=.slice (some ⟨g,l*sz,none⟩) (rows.length-l) (cap-l):=by
   simp only[sliced,u6,if_false,Option.map_some,Addr.add_at,Nat.zero_add]
  have hn:rowsLen sz (List.replicate (rows.length-l) z):=λr hr=>by
   rw[List.eq_of_mem_replicate hr];exact⟨by rw[hzc];simp[sK],xM⟩
  have pY:aC w S (List.replicate (rows.length-l) z).flatten ((List.replicate (rows.length-l) zv).flatMap λv=>v.cells.toList):=by rw[hzc];exact Zla _
  obtain⟨w',aZ,eD⟩:=h1.storeRows he (l:=l) (g:=g) hm (by rw[hv];simp only[aO];rw[if_neg om]) (by simp;omega) hn pY;rw[List.length_replicate,show l+(rows.length-l)=rows.length by omega,List.drop_length,List.append_nil]at eD;obtain⟨S',L',eD⟩:=eD;have hzc2:(Builtin.zeroCells zv.cells (rows.length-l)).toList=(List.replicate (rows.length-l) zv).flatMap λv=>v.cells.toList:=by
   have:=Zoj zv sz gv sK (rows.length-l);rw[<- this];simp[Builtin.zeroCells,madeCells,sK]
  have aF:(execOp ac.eval o).run e.P w=.ok (.value (.tuple #[])) w':=by
   have aP:¬(rows.length-l=0):=om;obtain⟨q,hq⟩:∃q,rows.length-l=q+1:=⟨rows.length-l-1,om⟩;rw[hq]at aZ hzc2;simp[execOp,ho,resolve,invoke,builtin,Builtin.clear_,aW,mW,hq,underlying,hu,zeroValue,hi,sL,typeInfo,Result.andThen,hzc2,aZ]
  unfold Oper.wp;rw[aF,Oper.upon_value];refine⟨_,hK,S',L',eD.put (α:=.tup []) (v:=.tuple #[]) ⟨[],rfl,trivial⟩ hd⟩
end
def ZCE{a:BY}(m:Nat)(hm:m<=rows.length):jn [.Υ (some (a,cap)) ety sz rows] [.Υ (some (a,cap)) ety sz (rows.take m)]:=λw S h ha=>by
 have hl:(rows.take m).length=m:=by rw[Taw];omega
 obtain⟨h0,c9,hc⟩:eO w S ety sz rows (.slice a rows.length cap):=h (.Υ (some (a,cap)) ety sz rows) (by simp);have hb:∀b,aO (.slice a m cap)=some b↔aO (.slice a rows.length cap)=some b:=λb=>by cases a<;>simp[aO]
 refine⟨λx hx=>?_,zy _,λg⟨x,hx,hg⟩=>?_⟩
 ·refine AM λhx=>?_;subst hx;show eO w S ety sz (rows.take m) (.slice a (rows.take m).length cap);rw[hl];refine⟨h0,λr hr=>c9 r (List.mem_of_mem_take hr),?_⟩;rcases hc with⟨h4,p,h5⟩|⟨g,bF,bf,h4,h5,h6,h7,h8,h9,h10,zV,kR⟩
  ·subst h4;simp only[Tak,Nat.le_zero_eq]at hm;subst hm;exact .inl ⟨by simp,p,by simpa using h5⟩
  ·injection h4 with e1 e2 e3
   subst e1 e3;refine .inr ⟨g,cap,bf,by rw[hl],h5,h6,h7,h8,by rw[hl];omega,h10,zV,?_⟩;have:=ct.sub c9 kR 0 m;simpa using this
 ·refine AM λhx=>?_;subst hx;refine⟨.Υ (some (a,cap)) ety sz rows,by simp,?_⟩;simp only[eE,hl]at hg⊢;exact(hb g).1 hg
def zS{d t:Nat}{lo:Option Operand}{m:it}{a:BY}(k l h:Nat)(hb:l<=h/\h<=rows.length)(hK:an e ds 0 os ⟨(d,GY (.A (sliced a l h cap sz)))::s,m⟩ K)
  (hx:fz m (aL s x)=.Υ k:=by exact iK) (hm:gm m k=some (.Υ (some (a,cap)) ety sz rows):=by exact dE) (ht:kK e.P t=some sz:=by exact oJ)
  (d4:sa (lo.map (aL s))=some (l:Int):=by exact iK) (lm:rQ rows.length (hi.map (aL s))=some (h:Int):=by exact iK):an e ds 0 (⟨some d,.slice t x lo hi none,ty,p,ed,none⟩::os) ⟨s,m⟩ K:=by
 simp only[an]at hK⊢;exact vG rfl (ZEQ (o:=⟨some d,.slice t x lo hi none,ty,p,ed,none⟩) rfl hx hm ht d4 lm ⟨om,om,om⟩ (by simpa only[Tbz,aD]using hK))
def ZJc{d t l:Nat}{i:Operand}{m:it}{a:BY}(k j:Nat)(hb:l+j<h/\h<=rows.length)(hK:an e ds 0 os ⟨(d,.row k (l+j) sz 0)::s,m⟩ K)
  (hx:aL s x=GY (.A (sliced a l h cap sz)):=by exact oJ) (hi:aL s i=GU (j:Int):=by exact iK) (hm:gm m k=some (.Υ (some (a,cap)) ety sz rows):=by exact dE) (ht:kK e.P t=some sz:=by exact oJ):an e ds 0 (⟨some d,.indexAddr t x i,ty,p,ed,none⟩::os) ⟨s,m⟩ K:=by
 simp only[an]at hK⊢;exact vG rfl (ZtC (o:=⟨some d,.indexAddr t x i,ty,p,ed,none⟩) rfl hx hi hm ht ⟨om,om,om⟩ (by simpa only[Tbz,aD]using hK))
def ZyC{o:Oper}(hg:o.guard=none)(di:jO o=false)(h:yq e o σ (λy'=>an e ds n os y' K)):an e ds (n+1) (o::os) σ K:=by
 simp only[an,hg];rw[if_neg (by simp[di])];exact h
def ZCF{d t l:Nat}{i:Operand}{m:it}{a:BY}(k j:Nat)(hb:l+j<h/\h<=rows.length)(hK:an e ds n os ⟨(d,.row k (l+j) sz 0)::s,m⟩ K)
  (hx:aL s x=GY (.A (sliced a l h cap sz)):=by exact oJ) (hi:aL s i=GU (j:Int):=by exact iK) (hm:gm m k=some (.Υ (some (a,cap)) ety sz rows):=by exact dE) (ht:kK e.P t=some sz:=by exact oJ):an e ds (n+1) (⟨some d,.indexAddr t x i,ty,p,ed,none⟩::os) ⟨s,m⟩ K :=
 ZyC rfl rfl (ZrI (o:=⟨some d,.indexAddr t x i,ty,p,ed,none⟩) rfl hx hi hm ht ⟨om,om,om⟩ (by simpa only[Tbz,aD]using hK))
def ZIE{t l:Nat}{dd:GM}{s':d3}{m m':it}{a:BY}{z:we}(k:Nat)(hl:l<rows.length)(hK:an e ds 0 os ⟨s',(k,.Υ (some (a,cap)) ety sz (rows.take l++List.replicate (rows.length-l) z))::m'⟩ K)
  (hx:aL s x=GY (.A (sliced a l rows.length cap sz)):=by exact dE) (hm:gm m k=some (.Υ (some (a,cap)) ety sz rows):=by exact dE) (ht:jT e.P t=some (ety,sz,il):=by exact oJ) (hz:jU e.P ety=some z:=by exact oJ) (xM:z.all bQ:=by first|rfl|exact j0)
  (hs:aD s dd (.tup [])=s':=by simp only[aD];exact rfl) (hr:aA k m=m':=by exact dE):an e ds 0 (⟨dd,.call ⟨.builtin .clear,#[x],#[t]⟩,ty,p,ed,none⟩::os) ⟨s,m⟩ K:=by
 subst hs hr;simp only[an]at hK⊢;exact vG rfl (ZyB (o:=⟨dd,.call ⟨.builtin .clear,#[x],#[t]⟩,ty,p,ed,none⟩) rfl hx hm ht hz xM hl hK)
def Zna(a:BY)(k cap sz:Nat):sliced a 0 k cap sz=.slice a k cap:=by
 cases a with
 |none=>simp[sliced]
 |some p =>
  have:p.add 0=p:=by cases p;simp[Addr.add]
  simp[sliced,this]
section
variable{e:Env}{ops:Array Oper}{K:GR}
def QN(e:Env)(U:GO)(w0:World)(S0:GO)(nt:Nat)(K:GR):Exit->Act->World->Prop:=λex a w=>ex=.normal/\∃y',K y'/\aS e U w0 S0 nt y' a w
def lg(e:Env)(ops:Array Oper)(K:GR)(f:Nat)(aa:Array Bool)(σ:St):Prop :=
 e.Ok->∀(U:GO)(w0:World)(S0:GO)(nt:Nat)(a:Act)(w:World),(∀o∈ops.toList,∀d,o.dst=some d->d<nt)->aS e U w0 S0 nt σ a w->wpAny e.P .any ops (QN e U w0 S0 nt K) f aa a w
def Zvm(bJ:ops.toList.map (·.dst)=ds)(h:oV e ds ops K f aa σ):lg e ops K f aa σ:=by
 subst bJ;exactλhe U w0 S0 nt a w hd hs=>Znx he (λa w y' hK mz=>⟨rfl,y',hK,mz⟩) hd f aa σ a w hs h
def ZlK(ops:Array Oper)(aa:Array Bool)(i:Nat):Bool:=(List.range ops.size).all λj=>j==i||(aa.getD j true||match ops[i]?,ops[j]? with
 |some oi,some oj=>oj.after.any (λe=>Region.binds .any e&&e.on==i)||oi.apart ops oj
 |_,_=>true)
def C2(ops:Array Oper):Bool:=ops.toList.all λo=>match o.op with
 |.select _ _=>false
 |_=>true
def Zg1{i d:Nat}{o:Oper}{α:A}(hi:ops[i]?=some o)(xr:o.dst=some d)(hg:o.guard=none)(lR:C2 ops)(li:ZlK ops aa i)(hr:(Region.ready .any ops aa).contains i)
  (hp:e.Ok->∀(U:GO)(w0:World)(S0:GO)(nt:Nat)(a:Act)(w:World)(S:GO)(L:Lay),Sim e U w0 S0 nt σ a w S L->∃v,(∀w',(execOp a.eval o).run e.P w'=.ok (.value v) w')/\aw w S L α v)
  (hK:lg e ops K f (aa.setIfInBounds i true) ⟨(d,α)::σ.s,σ.m⟩):lg e ops K (f+1) aa σ:=by
 intro he U w0 S0 nt a w hd ⟨S,L,h⟩;obtain⟨v,hv,cv⟩:=hp he U w0 S0 nt a w S L h;have iR:o∈ops.toList:=Tac (by simpa using hi);refine wpAny_first (oi:=o) (v:=v) hi (λj oj cs b hj hs=>?_) (λc a w hq=>?_) f aa a w (λj oj hj aP hl bT=>?_) ?_ ?_ ?_
 ·have:=List.all_eq_true.1 lR oj (Tac (by simpa using hj));rw[hs]at this
  cases this
 ·have:=hq.1
  cases this
 ·have DL:=(Tbm.1 hj).1;have:=List.all_eq_true.1 li j (List.mem_range.2 DL);simp only[hi,hj,Bool.or_eq_true,beq_iff_eq,List.any_eq_true,Array.any_eq_true',Tar]at this;rcases this with h1|h1|h1|h1
  ·exact absurd h1 aP
  ·rw[hl]at h1;cases h1
  ·obtain⟨ed,h2,h3,h4⟩:=h1;exact absurd h4 (bT ed h2 h3)
  ·exact h1
 ·simpa using hr
 ·exact .inl ⟨by simp[Region.wanted,hg],hv⟩
 ·have h2:aS e U w0 S0 nt ⟨(d,α)::σ.s,σ.m⟩ (a.put o.dst v) w:=⟨S,L,by
   have:=h.put (α:=α) cv (hd o iR)
   rwa [xr,aD,<- xr]at this⟩
  exact hK he U w0 S0 nt (a.put o.dst v) w hd h2
end
section
variable{e:Env}{K:GR}{ay:Nat}{Q:PX->St->Prop}{s:d3}{m:it}
def ZiV{id:Nat}(hK:lg e ops (oP ay Q) ops.size (Array.replicate ops.size false) σ):de e ay (.region id ops true) σ Q:=λhe U w0 S0 nt a w aq hs=>by
 obtain⟨S,L,h1⟩:=hs.drew he;refine Code.wp_mono (λex a' w' hq=>?_) (wp_region_any he.mixed (hK he U w0 S0 nt a { w with drawn:=w.drawn+1 } (FQ aq) ⟨S,L,h1⟩));obtain⟨rfl,y',k1,k2⟩:=hq;exact⟨_,k1,k2.weak (λt=>ZjT ay t y'.s) (λ_ _ h=>h)⟩
def rE{id:Nat}{l:GL}(hK:lg e l.toArray (oP ay Q) l.length (Array.replicate l.length false) ⟨s,m⟩):de e ay (.region id l.toArray true) ⟨s,m⟩ Q:=ZiV (ops:=l.toArray) (by simpa using hK)
def gFT(h:oV e ds ops K f aa σ)(bJ:ops.toList.map (·.dst)=ds:=by exact rfl):lg e ops K f aa σ:=Zvm bJ h
def pb{d:Nat}{α:A}(i:Nat)(hK:lg e ops K f (aa.setIfInBounds i true) ⟨(d,α)::s,m⟩)
  (hi:ops[i]?=some ⟨some d,.move x,ty,p,ed,none⟩:=by simp only[List.getElem?_toArray,Tau,Tat];exact rfl) (hx:aL s x=α:=by exact dE) (lR:C2 ops:=by decide +kernel) (li:ZlK ops aa i:=by decide +kernel) (hr:(Region.ready .any ops aa).contains i:=by decide +kernel):lg e ops K (f+1) aa ⟨s,m⟩:=by
 subst hx;exact Zg1 (o:=⟨some d,.move x,ty,p,ed,none⟩) hi rfl rfl lR li hr (λ_ U w0 S0 nt a w S L h=>⟨a.eval x,λw2=>by simp[execOp],h.eval x⟩) hK
def gFs{d t:Nat}{lo:Option Operand}{a:BY}(i k l h:Nat)(hb:l<=h/\h<=rows.length)(hK:lg e ops K f (aa.setIfInBounds i true) ⟨(d,GY (.A (sliced a l h cap sz)))::s,m⟩)
  (dR:ops[i]?=some ⟨some d,.slice t x lo hi none,ty,p,ed,none⟩:=by simp only[List.getElem?_toArray,Tau,Tat];exact rfl)
  (hx:fz m (aL s x)=.Υ k:=by exact iK) (hm:gm m k=some (.Υ (some (a,cap)) ety sz rows):=by exact dE) (ht:kK e.P t=some sz:=by exact oJ)
  (d4:sa (lo.map (aL s))=some (l:Int):=by exact iK) (lm:rQ rows.length (hi.map (aL s))=some (h:Int):=by exact iK)
  (lR:C2 ops:=by decide +kernel) (li:ZlK ops aa i:=by decide +kernel) (hr:(Region.ready .any ops aa).contains i:=by decide +kernel):lg e ops K (f+1) aa ⟨s,m⟩:=by
 refine Zg1 (o:=⟨some d,.slice t x lo hi none,ty,p,ed,none⟩) dR rfl rfl lR li hr (λ_ U w0 S0 nt ac w S L hS=>⟨sliced a l h cap sz,λw'=>?_,by simp[aw,aX,aR]⟩) hK;have aW:=sv hS.Ξ (hS.eval x);simp only at aW;rw[hx]at aW;have aW:ac.eval x=L.v k:=aW;obtain⟨kA,_,_,f9⟩:=hS.Ξ.own k _ hm;have hv:L.v k=.slice a rows.length cap:=kA (a,cap) rfl;have tx:rows.length<=cap:=by
  exact m119
 have yP:∃ety i,e.P.underlying t=some (.slice ety)/\e.P.info? ety=some i/\i.size=sz:=by
  exact m118
 obtain⟨el,inf,hu,hinf,bP⟩:=yP;have d4:=ZjQ (w:=w) (S:=S) (L:=L) (C':=ac.eval) d4 (λy hy=>hS.eval y);have lm:=ZjR (w:=w) (S:=S) (L:=L) (C':=ac.eval) lm (λy hy=>hS.eval y);have qw:(Instr.sliceBounds true rows.length cap (lo.map ac.eval) (hi.map ac.eval) none).run e.P w'=.ok (l,h,cap) w':=by
  have b2:(h:Int)<=cap:=om;have b5:(l:Int)<=rows.length:=om;rcases d4 with⟨rfl,e1⟩|e1<;>rcases lm with⟨rfl,e2⟩|e2
  ·have e1:l=0:=om;have e2:h=rows.length:=om;subst e1 e2;simp[Instr.sliceBounds,Result.andThen]
  ·have e1:l=0:=om;subst e1;simp[Instr.sliceBounds,e2,Result.andThen,run_sliceBound,b2]
  ·have e2:h=rows.length:=om;subst e2;simp[Instr.sliceBounds,e1,Result.andThen,run_sliceBound,b5]
  ·simp[Instr.sliceBounds,e1,e2,Result.andThen,run_sliceBound,b2,(om:(l:Int)<=h),hb.1]
 simp only[execOp,Sem.run_bind,aW,hv,Instr.sliceAt,Instr.slice,underlying,run_program,Result.andThen_ok,hu,Sem.run_pure,Option.map_none,qw,sizeOf,typeInfo,hinf,bP,sliced]
end
section
variable{e:Env}{K:GR}{s:d3}{m:it}
def gFb{d t t':Nat}{op:BinOp}{y:Operand}{a b v:Value}(i:Nat)(hK:lg e ops K f (aa.setIfInBounds i true) ⟨(d,GY (.A v))::s,m⟩)
  (hi:ops[i]?=some ⟨some d,.binOp op t x y t',ty,p,ed,none⟩:=by simp only[List.getElem?_toArray,Tau,Tat];exact rfl) (hx:aL s x=GY (.A a):=by exact dE) (hy:aL s y=GY (.A b):=by exact dE) (hv:dB e.P op t a b=some v:=by exact jZ) (lR:C2 ops:=by decide +kernel) (li:ZlK ops aa i:=by decide +kernel) (hr:(Region.ready .any ops aa).contains i:=by decide +kernel):lg e ops K (f+1) aa ⟨s,m⟩:=by
 refine Zg1 (o:=⟨some d,.binOp op t x y t',ty,p,ed,none⟩) hi rfl rfl lR li hr (λ_ U w0 S0 nt ac w S L h=>⟨v,λw2=>?_,by simp[aw,aX,aR]⟩) hK;have h1:=h.eval x;have h2:=h.eval y;rw[hx]at h1;rw[hy]at h2;have h1:=lf h1;have h2:=lf h2;have:=Zsw (x:=x) (y:=y) hv w2;simp only[execOp,h1,h2];rw[Sem.run_bind,this];rfl
def gFi{d t:Nat}{y:Operand}{o:Option (BY×Nat)}{kk:IntKind}(i j:Nat)(am:j<rows.length)(hK:lg e ops K f (aa.setIfInBounds i true) ⟨(d,.row k j sz 0)::s,m⟩)
  (hi:ops[i]?=some ⟨some d,.indexAddr t x y,ty,p,ed,none⟩:=by simp only[List.getElem?_toArray,Tau,Tat];exact rfl) (hx:fz m (aL s x)=.Υ k:=by exact iK) (hy:aL s y=GY (.A (.int kk (j:Int))):=by exact dE) (hm:gm m k=some (.Υ o ety sz rows):=by exact dE) (ht:kK e.P t=some sz:=by exact oJ) (lR:C2 ops:=by decide +kernel) (li:ZlK ops aa i:=by decide +kernel) (hr:(Region.ready .any ops aa).contains i:=by decide +kernel):lg e ops K (f+1) aa ⟨s,m⟩:=by
 refine Zg1 (o:=⟨some d,.indexAddr t x y,ty,p,ed,none⟩) hi rfl rfl lR li hr (λ_ U w0 S0 nt ac w S L h=>?_) hK;have aW:=sv h.Ξ (h.eval x);simp only at aW;rw[hx]at aW;have aW:ac.eval x=L.v k:=aW;have km:=h.eval y;rw[hy]at km;have km:=lf km;obtain⟨_,_,_,h4⟩:=h.Ξ.own k _ hm;rcases h4 with⟨h4,_⟩|⟨g,cap,bf,hv,Gi,_⟩
 ·rw[h4]at am;simp at am
 ·refine⟨.pointer (some ⟨g,j*sz,none⟩),λw2=>?_,g,?_,rfl⟩
  ·have:=Zk4 (P:=e.P) (j:=(j:Int)) ht (Tca _) (by rw[Tbz];exact am) (g:=g) (cap:=cap) (k:=kk) (w:=w2);rw[Tbz]at this;simp[execOp,km,aW,hv,this]
  ·rw[hv];simp only[aO];rw[if_neg om]
end
def nF(a:BY)(cap:Nat)(us:AI)(r:AS)(pm:GQ):Prop:=r=[]/\pm=[.Υ (some (a,cap)) 46 4 (az us)]
def px(l:AI)(i:Nat)(t:Tm):(az l).set i (ax t)=az (l.set i t):=by
 rw[oq,oq,List.map_set]
def zT{X:Prop}{P:Program}{ts:List RS}{R:AS->GQ->Prop}{r:AS}{pm:GQ}(ks:GN)(hR:R r pm)(hx:FO P ts R .normal σ->X:=by first|exactλh=>h|exactλh=>⟨_,Wk.refl _,h⟩)(hr:lY P σ ts=some r:=by exact sfy)(hg:ei σ.m ks=some pm:=by exact j0)(hn:ks.Nodup:=by decide)(hp:pm.all pinned:=by exact j0):X :=
 hx ⟨r,ks,pm,hg,hn,hp,hR,CC hr⟩
def ZHM(j:Int):FT j (some (.int .u64)) (some .i64)=some (GU (IntKind.i64.wrap j)):=rfl
def toNat_one:Int.toNat 1=1:=rfl
def m182(h:G3:=by
 refine ec @ae @ae ?_;exact(have F:=ae;ee (R:=EV (s++kP i)) [1001] ⟨a3,fZ,rfl,rfl⟩)):G3:=h
def m7(b:G5)(h:Bx G5->G4:=by
 intro B0
 simp only[aD,aQ,aM,Taf,Tah];exact B0.o):G4:=h ⟨b⟩
def kP(i:Int):ByteArray:=⟨(dU i).toArray⟩
def ZCG{i:Int}(h0:0<=i)(h1:i<14):aI e0 240 [GT i] [.I (.A (.string (kP i)))]:=by
 have h:i=0\/i=1\/i=2\/i=3\/i=4\/i=5\/i=6\/i=7\/i=8\/i=9\/i=10\/i=11\/i=12\/i=13:=om;rcases h with rfl|rfl|rfl|rfl|rfl|rfl|rfl|rfl|rfl|rfl|rfl|rfl|rfl|rfl
 all_goals (
  have w1:IntKind.i64.wrap (0+1)=1:=by decide
  have w2:IntKind.i64.wrap (1+1)=2:=by decide
  have w3:IntKind.i64.wrap (2+1)=3:=by decide
  have w4:IntKind.i64.wrap (3+1)=4:=by decide
  have w5:IntKind.i64.wrap (4+1)=5:=by decide
  have w6:IntKind.i64.wrap (5+1)=6:=by decide
  have w7:IntKind.i64.wrap (6+1)=7:=by decide
  have w8:IntKind.i64.wrap (7+1)=8:=by decide
  have w9:IntKind.i64.wrap (8+1)=9:=by decide
  have wa:IntKind.i64.wrap (9+1)=10:=by decide
  have u0:IntKind.i64.wrap (10*2)=20:=by decide
  have u1:IntKind.i64.wrap (11*2)=22:=by decide
  have u2:IntKind.i64.wrap (12*2)=24:=by decide
  have u3:IntKind.i64.wrap (13*2)=26:=by decide
  have v0:IntKind.i64.wrap (20+2)=22:=by decide
  have v1:IntKind.i64.wrap (22+2)=24:=by decide
  have v2:IntKind.i64.wrap (24+2)=26:=by decide
  have v3:IntKind.i64.wrap (26+2)=28:=by decide
  refine gI (ts:=[.slot 2]) 21 Tryz.func240 ?_
  (exact fD (aj16 @w1 @w2 @w3 @w4 @w5 @w6 @w7 @w8 @w9 @wa @u0 @u1 @u2 @u3 @v0 (aj3 @v1 @v2 @v3))))
def ZGX(s:ByteArray):ZaD 1 (eP s):=by
 unfold eP
 induction s.data.toList with
 |nil=>rfl
 |cons b l ih=>simp only[Tbv,ZjW,ih,Bool.and_true];rfl
def EV(s:ByteArray)(r:AS)(pm:GQ):Prop:=∃a cap,r=[.I (.A (.slice a (eP s).length cap))]/\pm=[.Υ (some (a,cap)) 5 1 (eP s)]
def ZIF{P:Program}{t:TypeId}{a b:Int}:dB P .lss t (.int .u64 a) (.int .u64 b)=some (.bool (decide (a<b))):=rfl
def Zp2:zm (Tryz.prog.underlying 192)=some .u64:=by kernel_rfl
def ZIG:Tryz.prog.underlying 192=some (.int .u64):=by kernel_rfl
def Zxv:zm (Tryz.prog.underlying 2)=some .i64:=by kernel_rfl
def Zxw:e0.P.underlying 9=some .string:=by kernel_rfl
def ZqZ{i:Int}(h0:0<=i)(h1:i<14)(s:ByteArray)(hl:s.size<=1000000)(a:BY)(cap:Nat):aT e0 244 [.I (.A (.slice a (eP s).length cap)),.I (.A (.int .u64 i)),GT 10] [.Υ (some (a,cap)) 5 1 (eP s)] (EV (s++kP i)):=by
 have w1:IntKind.i64.wrap i=i:=IntWalk.i64_in _ om;have l1:(eP s).length+(eP (kP i)).length<=al:=by
  rw[yu,yu];have:(kP i).size<=3:=by unfold kP dU zQ;show(List.toArray _).size<=3;rw[List.size_toArray];split<;>split<;>simp
  unfold al;omega
 refine dX (ts:=[.slot 6]) [1000] 5575 Tryz.func244 ?_;refine cg 3 (aj3 (eq_true om:(i<100)=True) @ZIF @ae) (aj6 @w1 @Zp2 @ZIG @Zta @ZHM @ae) (ZCG h0 h1) ?_;refine gK 13 ?_;refine(have F:=ae;gSt l1 Zxw ?_);rw[Zmw];refine gS 17 λa2 du=>?_;refine ec @ae @ae ?_;exact(have F:=ae;ee (R:=EV (s++kP i)) [17] ⟨a2,du,rfl,rfl⟩)
def ZCH{i:Int}(h0:-1<=i)(h1:i<14)(s:ByteArray)(hl:s.size<=100000)(a:BY)(cap:Nat):aT e0 235 [.I (.A (.slice a (eP s).length cap)),GT i,GT 10] [.Υ (some (a,cap)) 5 1 (eP s)] (EV (s++kP i)):=by
 refine dX (ts:=[.slot 6]) [1000] 2247 Tryz.func235 ?_;by_cases hn:i<0
 ·obtain rfl:i=-1:=by omega
  have q1:=lT (-1) 0;have w1:IntKind.u64.wrap (-1)=18446744073709551615:=by decide
  have w2:IntKind.u64.wrap (0-18446744073709551615)=1:=by decide
  have l1:(eP s).length+1<=al:=by rw[yu];unfold al;omega
  have l2:ZaD 1 (eP s):=ZGX s;have e1:eP s++[[.A (.int .u8 45)]]=eP (s++⟨#[45]⟩):=by rw[<- Zmw];rfl
  have e2:s++⟨#[45]⟩++kP 1=s++kP (-1):=by rw[ByteArray.append_assoc];rfl
  have cU:=λa cap=>ZqZ (i:=1) om om (s++⟨#[45]⟩) (by rw[ByteArray.size_append];show s.size+1<=_;omega) a cap;rw[e2]at cU;refine eQ 3 (aj6 @q1 @w1 @Zp2 @Zxv @Zmp @ae) (aj4 @l1 @l2 @e1 @ae) ?_;refine fN 5 (aj3 @w2 @B8.eq_3 @ae) ?_;refine pS 0 λa2 du=>?_;refine gB ?_;have F:=@ae;refine cQ [0] [1001] (cU a2 du) ?_;rintro r pm ⟨a3,fZ,rfl,rfl⟩;refine m7 ?_
  refine ec @ae @ae ?_;exact(have F:=ae;ee (R:=EV (s++kP (-1))) [1001] ⟨a3,fZ,rfl,rfl⟩)
 ·have w1:IntKind.u64.wrap i=i:=by
   have h:=@Int.emod_eq_of_lt;unfold IntKind.wrap;simp only[IntKind.signed,IntKind.bits];exact Int.emod_eq_of_lt om om
  refine kQ 5 (aj6 (eq_false hn:(i<0)=False) @w1 @Zp2 @Zxv @Zmp @ae) ?_;have F:=@ae;refine cQ [1000] [1001] ((ZqZ om h1 s om a cap)) ?_;rintro r pm ⟨a3,fZ,rfl,rfl⟩;refine m7 ?_;exact m182
def Znb{i:Int}(h0:-1<=i)(h1:i<14)(s:ByteArray)(hl:s.size<=100000)(a:BY)(cap:Nat):aT e0 227 [.I (.A (.slice a (eP s).length cap)),GT i,GT 10] [.Υ (some (a,cap)) 5 1 (eP s)] (EV (s++kP i)):=by
 refine dX (ts:=[.slot 6]) [1000] 71 Tryz.func227 ?_;refine kQ 1 @ae ?_;have F:=@ae;refine cQ [1000] [1001] (ZCH h0 h1 s hl a cap) ?_;rintro r pm ⟨a3,fZ,rfl,rfl⟩;refine m7 ?_;exact m182
def bs(l:List UInt8):ByteArray:=⟨l.toArray⟩
def Zo3(l m:List UInt8):bs l++bs m=bs (l++m):=by
 apply ByteArray.ext;rw[ByteArray.data_append];simp[bs]
def Zmx(l:List UInt8):(bs l).size=l.length:=by show(List.toArray l).size=_;simp
def Zq0(s:ByteArray):bs s.toList=s:=by
 rw[ByteArray.toList_eq];unfold bs;simp
def Zxx{i:Int}(h1:i<100):(dU i).length<=3:=by
 unfold dU zQ;split<;>split<;>simp
mutual
theorem ZtD{g:Sgn}(hg:SgnOk g):∀(t:Tm),e6 g t->(qP t).length<=22*ah t
 | .mk op nm so args,h=>by
  have h1:=Zq1 hg args (by simp only[e6]at h;exact h.2.1);have hk:=Zim hg _ h;simp only[uO]at hk;obtain⟨k0,k1,k2,k3,_⟩:=hk;have d1:=Zxx (i:=op) om;simp only[qP,ah,Tae,Tag,Tak];split
  ·have d2:=Zxx (i:=so) (by have:=(k2 om).2.2;omega);have hn:jc nm:=by
    rcases h.node with hv|⟨o,d,hA⟩
    ·exact hv.2.1
    ·have:=hA.lo;have:(Tm.mk op nm so args).op=op:=rfl;omega
   have h4:¬12<nm.size:=λh=>by rw[yo (.inr (.inl h))]at hn;cases hn
   have h5:nm.toList.length=nm.size:=by rw[ByteArray.toList_eq];exact Array.length_toList
   simp only[Tag,Tae];omega
  ·simp only[Tak];omega
theorem Zq1{g:Sgn}(hg:SgnOk g):∀(ts:AI),vK g ts->(je ts).length<=22*au ts
 |[],_=>by simp[je,au]
 |t::ts,h=>by
  simp only[vK]at h;have h1:=ZtD hg t h.1;have h2:=Zq1 hg ts h.2;simp only[je,au,Tae];omega
end
def Zvn{l:AI}{i:Nat}{t:Tm}(h:l[i]?=some t):je (l.take (i+1))=je (l.take i)++qP t:=by
 rw[show l.take (i+1)=l.take i++[t] by simp[List.take_add_one,h],ZyA];simp[je]
def Zq2:∀(l:AI)(i:Nat),(je (l.take i)).length<=(je l).length
 |[],i=>by simp[je]
 |x::xs,0=>by simp[je]
 |x::xs,i+1=>by have:=Zq2 xs i;simp only[Tbc,je,Tae];omega
def Zo4:∀{ts:AI},yC ts->∀t∈ts,uO t
 |_::_,h,t,ht=>by
  simp only[yC]at h;rcases Tbh.1 ht with rfl|ht
  ·exact h.1
  ·exact Zo4 h.2 t ht
def k9(op:Int)(nm:ByteArray)(so:Int):List UInt8:=dU op++(if op<0 then 58::(nm.toList++58::dU so)else[])
def ZHN(op:Int)(nm:ByteArray)(so:Int)(args:AI):qP (.mk op nm so args)=k9 op nm so++[40]++je args++[41]:=by
 simp[qP,k9,Tbg]
def ZyD:rm Tryz.prog 126=some .I:=by kernel_rfl
def ZGY:sR Tryz.prog 126=some 1:=by kernel_rfl
def ZJd:jU Tryz.prog 126=some [.A .nilFunc]:=by kernel_rfl
def ZIH:bQ (.A .nilFunc):=rfl
def i8(b:Nat):Value:=.pointer (some ⟨b,0,none⟩)
def za(bo bv:Nat)(f:FuncId)(s:ByteArray)(r:AS)(pm:GQ):Prop:=∃a cap,r=[]/\pm=[.var (some bo) [.A (.slice a (eP s).length cap)],.Υ (some (a,cap)) 5 1 (eP s),.var (some bv) [.fn f [.A (i8 bo),.A (i8 bv)]]]
def gTPk{X:Prop}{P:Program}{ts:List RS}{R:AS->GQ->Prop}{r:AS}{pm:GQ}(ks:GN)(hR:R r pm)(hx:FO P ts R .normal σ->X:=by first|exactλh=>h|exactλh=>⟨_,Wk.refl _,h⟩)(hr:lY P σ ts=some r:=by exact sfy)(hg:ei σ.m ks=some pm:=by exact j0)(hn:ks.Nodup:=by decide)(hp:pm.all pinned:=by exact j0):X :=
 hx ⟨r,ks,pm,hg,hn,hp,hR,CC hr⟩
def Zvo (t:Tm) (hk:uO t) (bP:ah t<=60) (l:List UInt8) (a:BY) (cap bo bv:Nat) (aP:bo≠bv) (hl:l.length+(qP t).length<=90000)
  (h:∀x∈t.Y,∀(l:List UInt8)(a:BY)(cap:Nat),l.length+(qP x).length<=90000->aT e0 226 [.agg (ax x),.I (.A (i8 bo)),.I (.A (i8 bv))] [.var (some bo) [.A (.slice a (eP (bs l)).length cap)],.Υ (some (a,cap)) 5 1 (eP (bs l)),.var (some bv) [.fn 226 [.A (i8 bo),.A (i8 bv)]]] (za bo bv 226 (bs (l++qP x)))) :
  aT e0 226 [.agg (ax t),.I (.A (i8 bo)),.I (.A (i8 bv))] [.var (some bo) [.A (.slice a (eP (bs l)).length cap)],.Υ (some (a,cap)) 5 1 (eP (bs l)),.var (some bv) [.fn 226 [.A (i8 bo),.A (i8 bv)]]] (za bo bv 226 (bs (l++qP t))):=by
 obtain⟨op,nm,so,args⟩:=t;have hc:ax (.mk op nm so args)=[GS op,.A (.string nm),GS so,.sl (az args)]:=by simp only[ax]
 have fI:(bo=bv)=False:=eq_false aP;have fh:(bv=bo)=False:=eq_false (λe=>aP e.symm);simp only[Tm.Y]at h;have lS:=AZ args;simp only[ah]at bP;simp only[i8]at h⊢;simp only[uO]at hk;obtain⟨k0,k1,k2,k3,k4⟩:=hk;rw[ZHN]at hl⊢;simp only[Tae,Tag,Tak]at hl;have rb:=λl=>ZGX (bs l);have e0':bs l++kP op=bs (l++dU op):=Zo3 _ _;have c1:=Znb k0 k1 (bs l) (by rw[Zmx];omega) a cap
 rw[e0']at c1;have hP:k9 op nm so=dU op++(if op<0 then 58::(nm.toList++58::dU so)else[]):=rfl;have ap:=λ(l:List UInt8)(b:UInt8)(b':Int)(hb:b'=b.toNat)=>show eP (bs l)++[[.A (.int .u8 b')]]=eP (bs (l++[b])) by rw[<- Zo3,<- Zmw,hb];rfl
 have ml:=λ(l:List UInt8)(hl:l.length<=90000)=>show((eP (bs l)).length+1<=al)=True from eq_true (by rw[yu,Zmx];unfold al;omega)
 refine dX (ts:=[]) [1001,1000,1002] 32212258863 Tryz.func226 ?_;refine fN 1 @ae ?_;refine gB ?_;have F:=aj4 @hc @fI @fh @ae;refine cQ [1000] [1000] (c1) ?_;clear F;rintro r pm ⟨a1,ea,rfl,rfl⟩;simp only[aD,aQ,aM,Taf,Tah];refine fR (aj4 @hc @fI @fh @ae) ?_;refine fG (ai @hc @ae) ?_;refine gM (ι:=BY×Nat) [] [1000,1001] (λx=>[]) (λx=>[(1001,.var (some bo) [.A (.slice x.1 (eP (bs (l++k9 op nm so))).length x.2)]),(1000,.Υ (some (x.1,x.2)) 5 1 (eP (bs (l++k9 op nm so))))]) (λx=>True) ?_ (λx hx=>Exists.intro _ (ai (Wk.refl _) ?_))
 ·by_cases ho:op<0
  ·have q1:(op<0)=True:=eq_true ho;rw[if_pos ho]at hP;obtain⟨_,s0,s8⟩:=k2 om;have nQ:(bs (l++dU op++[58]))++nm=bs (l++dU op++[58]++nm.toList):=by rw[<- Zq0 nm,Zo3,Zq0]
   have e2:bs (l++dU op++[58]++nm.toList++[58])++kP so=bs (l++k9 op nm so):=by
    rw[hP];refine(Zo3 _ _).trans ?_;simp[Tbg]
   have kA:=congrArg List.length hP;simp only[Tae,Tag]at kA;have c2:=λa cap=>Znb (i:=so) om om (bs (l++dU op++[58]++nm.toList++[58])) (by rw[Zmx];simp only[Tae,Tag,Tak];omega) a cap;rw[e2]at c2;have m1:=ml (l++dU op) (by simp only[Tae];omega);have m2:=ml (l++dU op++[58]++nm.toList) (by simp only[Tae,Tag,Tak];omega);have m3:(eP (bs (l++dU op++[58]))).length+(eP nm).length<=al:=by
    rw[yu,yu,Zmx];have:nm.size=nm.toList.length:=by rw[ByteArray.toList_eq];exact Array.length_toList.symm
    simp only[Tae,Tag,Tak];unfold al;omega
   have b1:=rb (l++dU op);have b2:=rb (l++dU op++[58]++nm.toList);have p1:=ap (l++dU op) 58 58 rfl;have p2:=ap (l++dU op++[58]++nm.toList) 58 58 rfl;clear hP kA ap ml rb;rw[decide_eq_true ho];refine fN 3 (ai @hc @ae) ?_;refine gB ?_;have F:=aj6 @m1 @b1 @p1 @fI @fh @ae;refine gP 3 ?_;clear F;refine gS 15 λa2 du=>?_;refine fR (aj3 @fI @fh @ae) ?_;refine fN 4 @ae ?_;refine gB ?_
   have F:=aj4 @hc @fI @fh @ae;refine gP 3 ?_;clear F;refine gK 16 ?_;refine(have F:=ae;gSt m3 Zxw ?_);rw[Zmw,nQ];refine gS 19 λa3 fZ=>?_;refine fR (aj3 @fI @fh @ae) ?_;refine fN 5 @ae ?_;refine gB ?_;have F:=aj6 @m2 @b2 @p2 @fI @fh @ae;refine gP 3 ?_;clear F;refine gS 22 λa4 uQ=>?_;refine fR (aj3 @fI @fh @ae) ?_;refine fN 6 @ae ?_;refine gB ?_;have F:=aj4 @hc @fI @fh @ae;refine cQ [22] [1000] (c2 a4 uQ) ?_;clear F
   rintro r pm ⟨a5,tf,rfl,rfl⟩;simp only[aD,aQ,aM,Taf,Tah];refine fR (aj3 @fI @fh @ae) ?_;exact(have F:=ae;⟨(a5,tf),trivial,gw,gw⟩)
  ·have q1:(op<0)=False:=eq_false ho;rw[if_neg ho,List.append_nil]at hP;rw[hP,decide_eq_false ho];have F:=ai @hc @ae;refine gG ?_;exact⟨(a1,ea),trivial,gw,gw⟩
 obtain⟨a2,du⟩:=x;dsimp only;have m1:=ml (l++k9 op nm so) (by simp only[Tae];omega);have b1:=rb (l++k9 op nm so);have p1:=ap (l++k9 op nm so) 40 40 rfl;have e3:l++(k9 op nm so++[40]++je args++[41])=l++k9 op nm so++[40]++je args++[41]:=by simp[Tbg]
 rw[e3];have hP2:(l++k9 op nm so++[40]).length=l.length+(k9 op nm so).length+1:=by simp only[Tae,Tag,Tak]
 have di:=Zq2 args;refine fN 7 @ae ?_;refine gB ?_;have F:=aj6 @m1 @b1 @p1 @fI @fh @ae;refine gP 3 ?_;clear F;refine gS 29 λa3 fZ=>?_;refine fR (aj3 @fI @fh @ae) ?_;clear m1 b1 p1 e3 hP c1 e0';generalize l++k9 op nm so++[40]=q at hP2⊢;have hq0:q++je []=q:=by simp[je]
 refine fG (ai @hc @ae) ?_;have F:=@hq0;refine gL (ι:=Nat×BY×Nat) [5,33,34] [29,1001,1002] (λx=>[(33,GU (x.1:Int))]) (λx=>[(1001,.var (some bo) [.A (.slice x.2.1 (eP (bs (q++je (args.take x.1)))).length x.2.2)]),(29,.Υ (some (x.2.1,x.2.2)) 5 1 (eP (bs (q++je (args.take x.1))))),(1002,.var (some bv) [.fn 226 [.A (.pointer (some ⟨bo,0,none⟩)),.A (.pointer (some ⟨bv,0,none⟩))]])]) (λx=>x.1<=args.length) (λx=>args.length-x.1) ((0,a3,fZ)) (Taj _) (λx hx=>?_);clear F
 obtain⟨i,a4,uQ⟩:=x;simp only at hx;dsimp only;by_cases am:i<args.length
 ·obtain⟨b,hg⟩:∃b,args[i]?=some b:=⟨_,Taa am⟩;have q2:=lT i args.length;have q4:IntKind.i64.wrap ((i:Int)+1)=(i:Int)+1:=IntWalk.i64_in _ om;have wv:=Zvn hg;have cw:=di (i+1);rw[wv,Tae]at cw;have ca:=h b (Tac hg) (q++je (args.take i)) a4 uQ (by rw[Tae];omega);rw[Tbg,<- wv]at ca;refine fB (aj6 @q2 @hc @cc @rt @hg @ae) ?_;have F:=aj4 @ZyD @fI @fh @ae;refine cQ [1001,29,1002] [1001,29,1002] (ca) ?_;clear F
  rintro r pm ⟨a5,tf,rfl,rfl⟩;simp only[i8,aD,aQ,aM,Taf,Tah];refine fR @ae ?_;have F:=@q4;refine gG ?_;exact⟨(i+1,a5,tf),am,gw,gw,om⟩
 ·obtain rfl:i=args.length:=by omega
  have q2:=lF args.length args.length;rw[Tap];have m1:=ml (q++je args) (by rw[Tae];omega);have b1:=rb (q++je args);have p1:=ap (q++je args) 41 41 rfl;refine fN 13 @q2 ?_;refine gB ?_;have F:=aj6 @m1 @b1 @p1 @fI @fh @ae;refine gP 3 ?_;clear F;refine gS 43 λa5 tf=>?_;refine fR (aj3 @fI @fh @ae) ?_;exact(have F:=ae;gTPk (R:=za bo bv 226 (bs (q++je args++[41]))) [1001,43,1002] ⟨a5,tf,rfl,rfl⟩)
def ZyE(bo bv:Nat)(aP:bo≠bv)(n:Nat):∀(t:Tm),ah t<n->uO t->ah t<=60->∀(l:List UInt8)(a:BY)(cap:Nat),l.length+(qP t).length<=90000->aT e0 226 [.agg (ax t),.I (.A (i8 bo)),.I (.A (i8 bv))] [.var (some bo) [.A (.slice a (eP (bs l)).length cap)],.Υ (some (a,cap)) 5 1 (eP (bs l)),.var (some bv) [.fn 226 [.A (i8 bo),.A (i8 bv)]]] (za bo bv 226 (bs (l++qP t))):=by
 induction n with
 |zero=>exactλ_ h=>om
 |succ n ih =>
  intro t hn hk bP l a cap hl;refine Zvo t hk bP l a cap bo bv aP hl λx hx l a cap tG=>ih x ?_ ?_ ?_ l a cap tG
  ·have:=kv hx;rw[iB]at hn;omega
  ·obtain⟨op,nm,so,args⟩:=t;simp only[uO]at hk;exact Zo4 hk.2.2.2.2 x hx
  ·have:=kv hx;rw[iB]at bP;omega
def ZER:CK e0.P 195 9:=by kernel_rfl
def ZCI{g:Sgn}(hg:SgnOk g){t:Tm}(hf:e6 g t)(bP:ah t<=60):aI e0 207 [.agg (ax t)] [.I (.A (.string (ko t)))]:=by
 have uo:=ZtD hg t hf;have hby0:eP (bs [])=[]:=rfl;refine gI (ts:=[.slot 2]) 31 Tryz.func207 ?_;refine dC 1 @ae 1 @ae ?_;refine gO 5 5 1 ?_;refine gS 5 λa cap=>?_;refine fR @ae ?_;refine fN 3 (aj3 @ZJd @ZGY @ae) ?_;refine pV 3 λb3 uX=>?_;refine pV 4 λb4 tu=>?_;have aP:b3≠b4:=λe=>tu 3 b3 _ (by decide) rfl e.symm;clear uX tu;have fI:(b3=b4)=False:=eq_false aP
 have fh:(b4=b3)=False:=eq_false (λe=>aP e.symm);refine kQ 4 (aj7 @ZyD @ZGY @ZIH @bQ.eq_4 @fI @fh @ae) ?_;have ca:=ZyE b3 b4 aP _ t (Tan _) (Zim hg t hf) bP [] a cap (by simp only[Tak];omega);simp only[i8,hby0,Tak,Tah]at ca;have F:=aj4 @ZyD @fI @fh @ae;refine cQ [3,5,4] [3,5,4] (ca) ?_;rintro r pm ⟨a2,du,rfl,rfl⟩;simp only[i8,aD,aQ,aM,Taf,Tah];refine fR @ae ?_
 refine Zh7 ?_;refine gB ?_;have F:=aj3 @fI @fh @ae;refine gP 1 ?_;refine gK 10 ?_;refine(have F:=ae;gTx (k:=5) (bs (qP t)) ZER ?_);exact iF @ae @ae
section
open Go.MapKept Go.ChangeMaps
def Zo5{l:List (ByteArray×Value)}{k s:ByteArray}{v:Value}:jV (l++[(k,v)]) s=(jV l s).or (if s.toList=k.toList then some v else none):=by
 unfold jV;rw[List.find?_append]
 cases h:l.find? λp=>s.toList==p.1.toList with
 |some p=>simp
 |none =>
  by_cases e:s.toList=k.toList
  ·simp[List.find?,e]
  ·have e2:(s.toList==k.toList)=false:=beq_eq_false_iff_ne.2 e;simp only[List.find?,e2,Option.or,if_neg e,Option.map_none]
def mE(g:Sgn)(l:List (ByteArray×Value)):Prop:=∀u,e6 g u->∀v,jV l (ko u)=some v->v=.int .i64 (av g u:Nat)
def jl(g:Sgn)(n:Nat)(l l':List (ByteArray×Value)):Prop:=∀u,e6 g u->n<ah u->jV l (ko u)=none->jV l' (ko u)=none
def jl.refl{g:Sgn}{l:List (ByteArray×Value)}:jl g n l l:=λ_ _ _ h=>h
def jl.trans{g:Sgn}{l l' l'':List (ByteArray×Value)}(h:jl g n l l')(h':jl g n l' l''):jl g n l l'':=λu hu hs h0=>h' u hu hs (h u hu hs h0)
def jl.mono{g:Sgn}{m:Nat}{l l':List (ByteArray×Value)}(h:jl g n l l')(hn:n<=m):jl g m l l':=λu hu hs h0=>h u hu om h0
def mE.nil{g:Sgn}:mE g []:=λu _ v h=>by simp[jV]at h
def mE.snoc{g:Sgn}(hg:SgnOk g){l:List (ByteArray×Value)}(h:mE g l){t:Tm}(ht:e6 g t):mE g (l++[(ko t,.int .i64 (av g t:Nat))]):=by
 intro u hu v hv;rw[Zo5]at hv
 cases hl:jV l (ko u)with
 |some x =>
  rw[hl]at hv;simp only[Option.some_or,Taq]at hv;subst hv;exact h u hu _ hl
 |none =>
  rw[hl,Option.none_or]at hv;by_cases e:(ko u).toList=(ko t).toList
  ·rw[if_pos e]at hv;obtain rfl:=ZtA hg hu ht e;simpa using hv.symm
  ·rw[if_neg e]at hv;cases hv
def jl.snoc{g:Sgn}(hg:SgnOk g){l:List (ByteArray×Value)}{t:Tm}(ht:e6 g t){v:Value}:jl g (ah t) l (l++[(ko t,v)]):=by
 intro u hu hs h0;rw[Zo5,h0,Option.none_or,if_neg];intro e;obtain rfl:=ZtA hg hu ht e;omega
section
variable{e:Env}{K:GR}{ds:By}{os:GL}{s:d3}{m:it}
def gLo{d t:Nat}{y:Operand}{b:Nat}{l:List (ByteArray×Value)}{k:ByteArray}{kt el:TypeId}{z v:Value}{f:Bool}(κ:Nat)(ht:e.P.underlying t=some (.map kt el))(hk:e.P.underlying kt=some .string)(hz:∀w,(zeroValue el).run e.P w=.ok z w)(hv:(jV l k).getD z=v)(hf:(jV l k).isSome=f)
  (hK:an e ds 0 os ⟨(d,.tup [.I (.A v),GW f])::s,m⟩ K) (hx:aL s x=GY (.A (.map (some b))):=by exact iK) (hy:aL s y=GY (.A (.string k)):=by exact iK) (hm:gm m κ=some (ff b l):=by exact oJ):an e ds 0 (⟨some d,.lookup t x y true,ty,p,ed,none⟩::os) ⟨s,m⟩ K :=
 Zgm rfl (ZqH rfl ht hk hz hx hy hm (α:=.tup [.I (.A v),GW f]) (λw S L=>by
  rw[hv,hf];exact⟨[v,.bool f],rfl,by simp[dt,aX,aR]⟩) hK)
def Zmy:e0.P.underlying 119=some (.map 9 3):=by kernel_rfl
def ZCJ:∀w,(zeroValue 3).run e0.P w=.ok (.int .i64 0) w:=λw=>by kernel_rfl
end
end
structure OrdR{α:Type}(c:α->α->Int):Prop where
 neg:∀a b,c b a=-c a b
 tri:∀x y z,jI (c x y) (c y z) (c x z)
 zero:∀a b,c a b=0->a=b
section
variable{α:Type}{c:α->α->Int}
def OrdR.self(h:OrdR c)(a:α):c a a=0:=by have:=h.neg a a;omega
def OrdR.lt(h:OrdR c){x y z:α}(h1:c x y<0)(h2:c y z<0):c x z<0:=(h.tri x y z).1.2.1 h1 om
def OrdR.ge(h:OrdR c){x y z:α}(h1:¬c x y<0)(h2:¬c y z<0):¬c x z<0:=by
 have:=(h.tri x y z).2.1 om om;omega
def mC(c:α->α->Int)(l:List α):Prop:=l.Pairwise λa b=>c a b<0
def mC.ext (hc:OrdR c) {l l':List α} (h:mC c l) (h':mC c l') (hm:∀t,t∈l↔t∈l'):l=l':=by
 induction l generalizing l' with
 |nil =>
  exact m211
 | cons x xs ih =>
  cases l' with
  |nil=>exact absurd ((hm x).1 (by simp)) (by simp)
  | cons y ys =>
   have h1:=List.pairwise_cons.1 h;have h2:=List.pairwise_cons.1 h';have e:x=y:=by
    rcases Tbh.1 ((hm x).1 (by simp))with e|hx
    ·exact e
    ·rcases Tbh.1 ((hm y).2 (by simp))with e|hy
     ·exact e.symm
     ·have a1:=h1.1 y hy;have a2:=h2.1 x hx;rw[hc.neg x y]at a2;omega
   subst e;refine congrArg (x::·) (ih h1.2 h2.2 λt=>⟨λht=>?_,λht=>?_⟩)
   ·rcases Tbh.1 ((hm t).1 (Tal _ ht))with e|h3
    ·subst e;have:=h1.1 t ht;rw[hc.self]at this;omega
    ·exact h3
   ·rcases Tbh.1 ((hm t).2 (Tal _ ht))with e|h3
    ·subst e;have:=h2.1 t ht;rw[hc.self]at this;omega
    ·exact h3
def cb(c:α->α->Int)(t:α):List α->List α
 |[]=>[t]
 |x::xs=>if c x t<0 then x::cb c t xs else if c x t=0 then x::xs else t::x::xs
def Zio(hc:OrdR c){t u:α}:∀{l:List α},u∈cb c t l↔u=t\/u∈l
 |[]=>by simp[cb]
 | x::xs=>by
  simp only[cb];split
  ·simp only[Tbh,Zio hc (l:=xs)];exact m219
  ·split
   ·rename_i h0;have e:=hc.zero _ _ h0;exact m166
   ·simp only[Tbh]
def mC.ins (hc:OrdR c) {t:α}:∀{l:List α},mC c l->mC c (cb c t l)
 |[],_=>by simp[cb,mC]
 | x::xs,h=>by
  have h1:=List.pairwise_cons.1 h;simp only[cb];split
  ·rename_i am;refine List.pairwise_cons.2 ⟨λy hy=>?_,mC.ins hc h1.2⟩;rcases(Zio hc).1 hy with e|hy
   ·subst e;exact am
   ·exact h1.1 y hy
  ·split
   ·exact h
   ·rename_i hn h0;have am:c t x<0:=by rw[hc.neg x t];omega
    refine List.pairwise_cons.2 ⟨λy hy=>?_,h⟩;rcases Tbh.1 hy with e|hy
    ·subst e;exact am
    ·exact hc.lt am (h1.1 y hy)
def eC(c:α->α->Int)(l out:List α):List α:=l.foldl (λo t=>cb c t o) out
def ZET(l m out:List α):eC c (l++m) out=eC c m (eC c l out):=by simp[eC,List.foldl_append]
def Zip(hc:OrdR c){u:α}:∀{l out:List α},u∈eC c l out↔u∈l\/u∈out
 |[],out=>by simp[eC]
 |t::l,out=>by
  have e:eC c (t::l) out=eC c l (cb c t out):=rfl;rw[e,Zip hc,Zio hc,Tbh];constructor
  ·rintro(h|h|h)<;>simp[h]
  ·rintro((h|h)|h)<;>simp[h]
def Zkf(hc:OrdR c):∀{l out:List α},mC c out->mC c (eC c l out)
 |[],_,h=>h
 |t::l,out,h=>Zkf hc (l:=l) (h.ins hc)
def ZEU(hc:OrdR c){l m:List α}(h:∀t,t∈l↔t∈m):eC c l []=eC c m [] :=
 mC.ext hc (Zkf hc List.Pairwise.nil) (Zkf hc List.Pairwise.nil) λt=>by rw[Zip hc,Zip hc,h]
def ZyG(hc:OrdR c){l m:List α}(hp:l.Perm m)(hn:m.Pairwise (·≠·))(hs:l.Pairwise λa b=>¬c b a<0):l=eC c m []:=by
 refine mC.ext hc ?_ (Zkf hc List.Pairwise.nil) λt=>by rw[Zip hc];simp[hp.mem_iff]
 have Aq:l.Pairwise (·≠·):=hp.symm.pairwise hn λh e=>h e.symm;refine(hs.and Aq).imp λ{a b}h=>?_;have h1:=hc.neg a b;have h2:c a b≠0:=λe=>h.2 (hc.zero _ _ e);have:=h.1;omega
end
def aN:GP->GP->Int
 |[],[]=>0
 |[],_::_=>-1
 |_::_,[]=>1
 |x::xs,y::ys=>fP [s6 x y,aN xs ys]
def ZCK(a b c:Bd):jI (s6 a b) (s6 b c) (s6 a c):=(Zg8 _ _ _).lex (Zg8 _ _ _)
def ZCL(a b:Bd):s6 b a=-s6 a b:=by simp only[s6];rw[sj a.var b.var,sj a.to b.to,Cs]
def Zo7{p q:Int}(h:fP [p,q]=0):p=0/\q=0:=by
 rw[Fy]at h;split at h
 ·exact⟨by assumption,h⟩
 ·exact absurd h (by assumption)
def ZyH{a b:Bd}(h:s6 a b=0):a=b:=by
 obtain⟨h1,h2⟩:=Zo7 h;obtain⟨v,t⟩:=a;obtain⟨v',t'⟩:=b;have e1:=A0 h1;have e2:=A0 h2;simp only at e1 e2;rw[e1,e2]
def ZtJ:∀(a b:GP),aN b a=-aN a b
 |[],[]=>rfl
 |[],_::_=>rfl
 |_::_,[]=>rfl
 |x::xs,y::ys=>by simp only[aN];rw[ZCL x y,ZtJ xs ys,Cs]
def ZtK:∀(a b c:GP),jI (aN a b) (aN b c) (aN a c)
 |[],[],[]=>by simp[aN,jI]
 |[],[],_::_=>by simp[aN,jI]
 |[],_::_,[]=>by simp[aN,jI]
 |[],_::_,_::_=>by simp only[aN];unfold jI;omega
 |_::_,[],[]=>by simp[aN,jI]
 |_::_,[],_::_=>by simp only[aN];unfold jI;omega
 |_::_,_::_,[]=>by simp only[aN];unfold jI;omega
 |x::xs,y::ys,z::zs=>by
  simp only[aN];exact(ZCK x y z).lex (ZtK xs ys zs)
def ZiX:∀(a b:GP),aN a b=0->a=b
 |[],[],_=>rfl
 |[],_::_,h=>by simp[aN]at h
 |_::_,[],h=>by simp[aN]at h
 |x::xs,y::ys,h=>by
  obtain⟨h1,h2⟩:=Zo7 h;rw[ZyH h1,ZiX xs ys h2]
def zL:OrdR aN:=⟨ZtJ,ZtK,ZiX⟩
def Zq3{ps qs:GP}{x y:Bd}(h1:ps[k]?=some x)(h2:qs[k]?=some y):aN (ps.drop k) (qs.drop k)=fP [s6 x y,aN (ps.drop (k+1)) (qs.drop (k+1))]:=by
 obtain⟨l1,e1⟩:=Tad.1 h1;obtain⟨l2,e2⟩:=Tad.1 h2;rw[List.drop_eq_getElem_cons l1,List.drop_eq_getElem_cons l2,e1,e2];rfl
open Classical in
def cntT(x:Tm):AI->Nat
 |[]=>0
 |y::l=>(if y=x then 1 else 0)+cntT x l
def Ziq{x:Tm}:∀{l:AI},0<cntT x l↔x∈l
 |[]=>by simp[cntT]
 |y::l=>by
  simp only[cntT,Tbh];by_cases h:y=x
  ·subst h;simp only[if_true];exact⟨λ_=>.inl trivial,λ_=>om⟩
  ·simp only[if_neg h,Nat.zero_add,Ziq (l:=l)];exact⟨.inr,λh'=>h'.resolve_left λe=>h e.symm⟩
section
variable(rk:Int->Int)(cm:Int->Bool)
inductive Gr:Tm->Tm->Prop
 |same {a t:Tm} (h:t∈a.Y):Gr a t
 |sub {a b t:Tm} (h:t∈a.Y) (hg:Gr t b):Gr a b
 |rank {a b:Tm} (ha:a.op≠-1) (hb:b.op≠-1) (hall:∀u,u∈b.Y->Gr a u) (hr:rk b.op<rk a.op):Gr a b
 |bag {a b:Tm} (ha:a.op≠-1) (he:a.op=b.op) (hc:cm a.op) (hall:∀u,u∈b.Y->Gr a u) (f:Tm->Tm) (hf:∀y,cntT y a.Y<cntT y b.Y->cntT (f y) b.Y<cntT (f y) a.Y) (hg:∀y,cntT y a.Y<cntT y b.Y->Gr (f y) y) (x:Tm) (hx:cntT x b.Y<cntT x a.Y):Gr a b
 |lex {a b:Tm} (ha:a.op≠-1) (he:a.op=b.op) (hc:cm a.op=false) (hall:∀u,u∈b.Y->Gr a u) (i:Nat) (x y:Tm) (hx:a.Y[i]?=some x) (hy:b.Y[i]?=some y) (hj:∀j,j<i->a.Y[j]?=b.Y[j]?) (hg:Gr x y):Gr a b
variable{rk:Int->Int}{cm:Int->Bool}
def yY(rk:Int->Int)(cm:Int->Bool)(l m:AI):Prop:=(∀y,cntT y l<cntT y m->∃x,cntT x m<cntT x l/\Gr rk cm x y)/\∃x,cntT x m<cntT x l
def y7(rk:Int->Int)(cm:Int->Bool)(l m:AI):Prop:=∃(i:Nat)(x y:Tm),l[i]?=some x/\m[i]?=some y/\(∀j,j<i->l[j]?=m[j]?)/\Gr rk cm x y
def ZJe(rk:Int->Int)(cm:Int->Bool)(a b:Tm):Prop:=a.op≠-1/\b.op≠-1/\(∀u,u∈b.Y->Gr rk cm a u)/\(rk b.op<rk a.op\/(a.op=b.op/\cm a.op/\yY rk cm a.Y b.Y)\/(a.op=b.op/\cm a.op=false/\y7 rk cm a.Y b.Y))
def Zo8{a b:Tm}:Gr rk cm a b↔(∃t,t∈a.Y/\(t=b\/Gr rk cm t b))\/ZJe rk cm a b:=by
 constructor
 ·intro h
  cases h with
  |same h=>exact .inl ⟨_,h,.inl rfl⟩
  |sub h hg=>exact .inl ⟨_,h,.inr hg⟩
  |rank ha hb hall hr=>exact .inr ⟨ha,hb,hall,.inl hr⟩
  |bag ha he hc hall f hf hg x hx=>exact .inr ⟨ha,he▸ha,hall,.inr (.inl ⟨he,hc,λy hy=>⟨f y,hf y hy,hg y hy⟩,x,hx⟩)⟩
  |lex ha he hc hall i x y hx hy hj hg=>exact .inr ⟨ha,he▸ha,hall,.inr (.inr ⟨he,hc,i,x,y,hx,hy,hj,hg⟩)⟩
 ·rintro(⟨t,ht,rfl|hg⟩|⟨ha,hb,hall,hr|⟨he,hc,hf,x,hx⟩|⟨he,hc,i,x,y,hx,hy,hj,hg⟩⟩)
  ·exact .same ht
  ·exact .sub ht hg
  ·exact .rank ha hb hall hr
  ·refine .bag ha he hc hall (λy=>if h:cntT y a.Y<cntT y b.Y then Classical.choose (hf y h)else y) (λy h=>?_) (λy h=>?_) x hx
   ·simp only[h,dite_true];exact(Classical.choose_spec (hf y h)).1
   ·simp only[h,dite_true];exact(Classical.choose_spec (hf y h)).2
  ·exact .lex ha he hc hall i x y hx hy hj hg
def zo{t a:Tm}(h:t∈a.Y):ah t<ah a:=by
 have:=kv h;rw[iB a];omega
def Zo9{p q:Tm->Bool}:∀{E:AI},(∀x,x∈E->p x->q x)->(∃z,z∈E/\q z/\p z=false)->E.countP p<E.countP q
 |[],_,⟨z,hz,_⟩=>by cases hz
 | e::E,h1,⟨z,hz,hq,hp⟩=>by
  have cw:E.countP p<=E.countP q:=List.countP_mono_left λx hx=>h1 x (Tal _ hx);rw[List.countP_cons,List.countP_cons];rcases Tbh.1 hz with rfl|hz
  ·rw[hq,hp];simp;omega
  ·have ih:=Zo9 (p:=p) (q:=q) (E:=E) (λx hx=>h1 x (Tal _ hx)) ⟨z,hz,hq,hp⟩;have:=h1 e Tas
   cases h3:p e
   ·cases h4:q e<;>simp<;> omega
   ·rw[this h3];simp;omega
open Classical in
def ZCM {R:Tm->Tm->Prop} {Q:Tm->Prop} {E:AI} (hE:∀x,Q x->x∈E) (DJ:∀x,Q x->¬R x x) (BU:∀x y z,Q x->Q y->Q z->R x y->R y z->R x z):∀(n:Nat)(x0:Tm),Q x0->E.countP (λz=>decide (Q z/\R z x0))<n->∃x,Q x/\(x=x0\/R x x0)/\∀z,Q z->¬R z x
 |0,x0,_,h=>om
 | n+1,x0,hq,h=>by
  by_cases hz:∃z,Q z/\R z x0
  ·obtain⟨z,tP,Gw⟩:=hz;have am:E.countP (λy=>decide (Q y/\R y z))<E.countP (λy=>decide (Q y/\R y x0)):=by
    refine Zo9 (λx _ hx=>?_) ⟨z,hE z tP,by simp[tP,Gw],by simp[DJ z tP]⟩;simp only[decide_eq_true_eq]at hx⊢;exact⟨hx.1,BU x z x0 hx.1 tP hq hx.2 Gw⟩
   obtain⟨x,h1,h2,h3⟩:=ZCM hE DJ BU n z tP om;refine⟨x,h1,.inr ?_,h3⟩;rcases h2 with rfl|h2
   ·exact Gw
   ·exact BU x z x0 h1 tP hq h2 Gw
  ·exact⟨x0,hq,.inl rfl,λz h1 h2=>hz ⟨z,h1,h2⟩⟩
def ZCN {l p:AI} (DJ:∀x,(x∈l\/x∈m\/x∈p)->¬Gr rk cm x x) (BU:∀x y z,(x∈l\/x∈m\/x∈p)->(y∈l\/y∈m\/y∈p)->(z∈l\/z∈m\/z∈p)->Gr rk cm x y->Gr rk cm y z->Gr rk cm x z) (h1:yY rk cm l m) (h2:yY rk cm m p):yY rk cm l p:=by
 have dD:∀x,(cntT x m<cntT x l\/cntT x p<cntT x m)->x∈l\/x∈m\/x∈p:=λx hx=>by
  rcases hx with h|h
  ·exact .inl (Ziq.1 om)
  ·exact .inr (.inl (Ziq.1 om))
 have key:∀x0,(cntT x0 m<cntT x0 l\/cntT x0 p<cntT x0 m)->∃x,(cntT x p<cntT x l)/\(x=x0\/Gr rk cm x x0):=λx0 iw=>by
  obtain⟨x,q1,q2,q3⟩:=ZCM (R:=Gr rk cm) (Q:=λx=>cntT x m<cntT x l\/cntT x p<cntT x m) (E:=l++(m++p)) (λx hx=>by simpa using dD x hx) (λx hx=>DJ x (dD x hx)) (λx y z hx hy hz=>BU x y z (dD x hx) (dD y hy) (dD z hz)) _ x0 iw (Tan _)
  ·refine⟨x,?_,q2⟩;rcases q1 with q1|q1
   ·by_cases h:cntT x m<cntT x p
    ·obtain⟨z,h3,h4⟩:=h2.1 x h;exact absurd h4 (q3 z (.inr h3))
    ·omega
   ·by_cases h:cntT x l<cntT x m
    ·obtain⟨z,h3,h4⟩:=h1.1 x h;exact absurd h4 (q3 z (.inl h3))
    ·omega
 refine⟨λy hy=>?_,?_⟩
 ·have step:∃x0,(cntT x0 m<cntT x0 l\/cntT x0 p<cntT x0 m)/\Gr rk cm x0 y:=by
   by_cases h:cntT y m<cntT y p
   ·obtain⟨x0,h3,h4⟩:=h2.1 y h;exact⟨x0,.inr h3,h4⟩
   ·obtain⟨x0,h3,h4⟩:=h1.1 y om;exact⟨x0,.inl h3,h4⟩
  obtain⟨x0,iw,hg⟩:=step;obtain⟨x,hx,hxx⟩:=key x0 iw;refine⟨x,hx,?_⟩;rcases hxx with rfl|hxx
  ·exact hg
  ·exact BU x x0 y (.inl (Ziq.1 om)) (dD x0 iw) (.inr (.inr (Ziq.1 om))) hxx hg
 ·obtain⟨x0,iw⟩:=h1.2;obtain⟨x,hx,_⟩:=key x0 (.inl iw);exact⟨x,hx⟩
def ZCO{l p:AI}(BU:∀x y z,x∈l->y∈m->z∈p->Gr rk cm x y->Gr rk cm y z->Gr rk cm x z)(h1:y7 rk cm l m)(h2:y7 rk cm m p):y7 rk cm l p:=by
 obtain⟨i,x,y,hx,hy,hj,hg⟩:=h1;obtain⟨k,u,v,hu,hv,hk,hh⟩:=h2;rcases Nat.lt_trichotomy i k with h|h|h
 ·exact⟨i,x,y,hx,by rw[<- hk i h];exact hy,λj fu=>(hj j fu).trans (hk j om),hg⟩
 ·subst h;obtain rfl:y=u:=by rw[hy]at hu;injection hu
  exact⟨i,x,v,hx,hv,λj fu=>(hj j fu).trans (hk j fu),BU x y v (Tac hx) (Tac hy) (Tac hv) hg hh⟩
 ·exact⟨k,u,v,by rw[hj k h];exact hu,hv,λj fu=>(hj j om).trans (hk j fu),hh⟩
def Ci(rk:Int->Int)(cm:Int->Bool)(k:Nat):Prop:=∀a b c,ah a<=k->ah b<=k->ah c<=k->Gr rk cm a b->Gr rk cm b c->Gr rk cm a c
def IrOn(rk:Int->Int)(cm:Int->Bool)(k:Nat):Prop:=∀a,ah a<=k->¬Gr rk cm a a
def Zxy {k:Nat} (hI:IrOn rk cm k) (hT:Ci rk cm k):∀(n:Nat)(a b c:Tm),ah a+ah b+ah c<n->ah a<=k+1->ah b<=k+1->ah c<=k+1->Gr rk cm a b->Gr rk cm b c->Gr rk cm a c
 |0,_,_,_,h,_,_,_,_,_=>om
 | n+1,a,b,c,hn,ka,kb,kc,mO,hbc=>by
  have ih:=Zxy hI hT n;rcases Zo8.1 mO with⟨t,ht,rfl|hg⟩|⟨ha,hb,hall,hr⟩
  ·exact .sub ht hbc
  ·have:=zo ht;exact .sub ht (ih t b c om om kb kc hg hbc)
  ·rcases Zo8.1 hbc with⟨u,hu,rfl|hg⟩|⟨_,hc,hall2,oF⟩
   ·exact hall u hu
   ·have:=zo hu;exact ih a u c om ka om kc (hall u hu) hg
   ·refine Zo8.2 (.inr ⟨ha,hc,λv hv=>by
     have:=zo hv;exact ih a b v om ka kb om mO (hall2 v hv),?_⟩)
    have el:∀x,(x∈a.Y\/x∈b.Y\/x∈c.Y)->ah x<=k:=λx hx=>by
     rcases hx with h|h|h<;>(have:=zo h;omega)
    rcases hr with hr|⟨e1,c1,hr⟩|⟨e1,c1,hr⟩
    ·rcases oF with oF|⟨e2,_⟩|⟨e2,_⟩
     ·exact .inl om
     ·exact .inl (by rw[<- e2];exact hr)
     ·exact .inl (by rw[<- e2];exact hr)
    ·rcases oF with oF|⟨e2,c2,oF⟩|⟨e2,c2,oF⟩
     ·exact .inl (by rw[e1];exact oF)
     ·refine .inr (.inl ⟨e1.trans e2,c1,ZCN (λx hx=>hI x (el x hx)) (λx y z hx hy hz=>hT x y z (el x hx) (el y hy) (el z hz)) hr oF⟩)
     ·rw[e1,c2]at c1;cases c1
    ·rcases oF with oF|⟨e2,c2,oF⟩|⟨e2,c2,oF⟩
     ·exact .inl (by rw[e1];exact oF)
     ·rw[e1,c2]at c1;cases c1
     ·refine .inr (.inr ⟨e1.trans e2,c1,ZCO (λx y z hx hy hz=>?_) hr oF⟩);exact hT x y z (el x (.inl hx)) (el y (.inr (.inl hy))) (el z (.inr (.inr hz)))
def ZCP:∀(k:Nat),IrOn rk cm k/\Ci rk cm k
 |0=>⟨λa h=>by rw[iB]at h;omega,λa _ _ h=>by rw[iB]at h;omega⟩
 | k+1=>by
  obtain⟨hI,hT⟩:=ZCP k;have hT1:Ci rk cm (k+1):=λa b c ha hb hc=>Zxy hI hT _ a b c (Tan _) ha hb hc;refine⟨λa ha h=>?_,hT1⟩;rcases Zo8.1 h with⟨t,ht,rfl|hg⟩|⟨_,_,hall,hr⟩
  ·have:=zo ht;omega
  ·have:=zo ht;exact hI t om (hT1 t a t om ha om hg (.same ht))
  ·rcases hr with hr|⟨_,_,_,x,hx⟩|⟨_,_,i,x,y,hx,hy,_,hg⟩
   ·omega
   ·omega
   ·obtain rfl:x=y:=by rw[hx]at hy;injection hy
    have:=zo (Tac hx);exact hI x om hg
def Gr.trans{a b c:Tm}(h:Gr rk cm a b)(h':Gr rk cm b c):Gr rk cm a c:=(ZCP (ah a+ah b+ah c)).2 a b c om om om h h'
end
mutual
def bR(x:Tm):Tm->Bool
 |.mk op nm so args=>decide (aU x (.mk op nm so args)=0)||Zsi x args
def Zsi(x:Tm):AI->Bool
 |[]=>false
 |t::ts=>bR x t||Zsi x ts
end
def Zq4(x:Tm):∀(l:AI),Zsi x l=l.any (bR x)
 |[]=>rfl
 |t::ts=>by simp only[Zsi,List.any_cons,Zq4 x ts]
def Zp3(x t:Tm):bR x t=(decide (aU x t=0)||t.Y.any (bR x)):=by
 obtain⟨op,nm,so,args⟩:=t;simp only[bR,Zq4,Tm.Y]
def uA{x t:Tm}:bR x t=true↔x=t\/∃a∈t.Y,bR x a:=by
 rw[Zp3,Bool.or_eq_true,decide_eq_true_eq,ro,List.any_eq_true]
section
variable{rk:Int->Int}{cm:Int->Bool}
end
def Kept.all1{D:Prop}{B:Nat}{w w':World}(h:Kept D e1.E B w w')(h1:e1.G w)(h2:e1.G w'):Kept D (λ_=>False) B w w':=⟨h.os,h.tape,h.output,h.drawn,h.size,λk hk _=>by
 by_cases e:k=2
 ·have k1:qo w:=h1;have k2:qo w':=h2;subst e;unfold qo at k1 k2;exact k2.trans k1.symm
 ·exact h.block k hk e⟩
mutual
theorem Zra:∀t:Tm,ah t<=ag (ax t)+1
 |.mk _ _ _ args=>by
  have:=Zpc args;simp only[ah,ax,ag,jE];omega
theorem Zpc:∀ts:AI,au ts<=(az ts).length+ak (az ts)
 |[]=>by simp[au]
 |t::ts=>by
  have h1:=Zra t;have h2:=Zpc ts;simp only[au,az,Tag,ak];omega
end
def Zg2{t:Tm}(h:ag (ax t)<=1048576):ah t<=iD:=by
 have:=Zra t;unfold iD;omega
def ZEZ(a b:we):ag (a++b)=ag a+ag b:=by
 induction a with
 |nil=>simp[ag]
 |cons x xs ih=>simp only[Taf,ag,ih];omega
def ZJg{P:GO}(h:∃n,P n):∃n,P n/\∀m,m<n->¬P m:=by
 obtain⟨n,hn⟩:=h
 induction n using Nat.strongRecOn with
 |_ n ih =>
  by_cases hx:∃m,m<n/\P m
  ·obtain⟨m,hm,hp⟩:=hx;exact ih m hm hp
  ·exact⟨n,hn,λm hm hp=>hx ⟨m,hm,hp⟩⟩
end
end Go.Proofs.YtaenibhihgfehaaGreatDoor
