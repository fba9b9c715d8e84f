/-
  Part of a proof.
-/
import Derived.Test.YtaenibhihgfehaaGreatDoorBUnifyCard0
import Derived.Test.YtaenibhihgfehaaGreatDoorBUnifyCard1
import Derived.Test.YtaenibhihgfehaaGreatDoorBUnifyCard2
import Derived.Test.YtaenibhihgfehaaGreatDoorBUnifyCard3
import Derived.Test.YtaenibhihgfehaaGreatDoorBUnifyCard4
import Derived.Test.YtaenibhihgfehaaGreatDoorBUnifyCard5
import Derived.Shelf.SlSortCmp.Whole1
import Derived.Shelf.SlLaysF
import Derived.Test.YtaenibhihgfehaaGreatDoorChecked
set_option linter.unusedSimpArgs false
set_option linter.unusedVariables false
set_option linter.defProp false
set_option maxHeartbeats 400000000
set_option maxRecDepth 100000
namespace Go.Proofs.YtaenibhihgfehaaGreatDoor
open Go.RowKit
variable{G3 G4 G5:Prop}
section
variable{g:Sgn}
noncomputable def jK(g:Sgn)(c0:Nat)(M:GP):we:=[.sl (aK M),.sl (aK (e8 g M)),GS ((c0+M.length:Nat):Int)]
def FA(c0:Nat)(M:GP):(jK g c0 M).length=3:=rfl
def FL(c0:Nat)(M:GP):(jK g c0 M).all bQ:=rfl
def FM(c0:Nat)(M:GP):(jK g c0 M).take 3=jK g c0 M:=rfl
def Bh(c0:Nat)(l:List (GP)):(l.map (jK g c0)).length=l.length:=Tay ..
def Bq(c0:Nat)(l:List (GP)):ZaD 3 (l.map (jK g c0)):=uD (λa=>rfl) l
def EP{α:Type}(f:Bool)(x:Option α):Option α:=if f=true then none else x
def PW(g:Sgn)(c0:Nat)(M:GP):Prop:=qk g M/\c0+M.length<=70
def kG(g:Sgn)(bm b:Nat)(aj:AI)(s:Nat)(oc:Value)(c0 N:Nat)(x:Option (List (GP)))(r:AS)(pm:GQ):Prop:=∃(l:List (GP))(f':Bool),r=[.I (.sl (l.map (jK g c0)))]/\pm=[.var (some b) (uC g bm aj s oc f')]/\(∀m,x=some m->l=m/\f'=false)/\(x=none->f')/\l.length<=N/\∀M'∈l,PW g c0 M'
def WayC(g:Sgn)(bm n:Nat):Prop:=∀(b:Nat)(aj:AI)(s:Nat)(oc:Value),bQ (.A oc)->∀(f:Bool){t:Tm}{k:Int}{M:GP}{L:AI}{c0:Nat},ah t<n->TermOk g t->Live L (dF g M t)->DeadM g c0 M L->pw g k ->
 aT (eM g bm) 123 [.I (.A (.pointer (some ⟨b,0,none⟩))),.agg (ax t),GT k,.agg (jK g c0 M)] [.var (some b) (uC g bm aj s oc f)] (kG g bm b aj s oc c0 600000 (EP f (df g c0 n t k M)))
def ZFn(hg:SgnOk g){c0 n:Nat}{t:Tm}{k:Int}{M:GP}{L:AI}(hn:ah t<n)(ht:TermOk g t)(hL:Live L (dF g M t))(hD:DeadM g c0 M L)(hk:pw g k){l:List (GP)}(h:df g c0 n t k M=some l):∀M'∈l,∃L',DeadM g c0 M' L'/\∀y,TermOk g y->Live L (dF g M y)->Live L' (dF g M' y):=by
 rw[ZmC hg c0 n t k M L hn ht hL hD hk]at h;obtain⟨lw,h1,rfl⟩:=Tav.1 h;intro M' hM;obtain⟨ms,oE,rfl⟩:=Tbj.1 hM;obtain⟨t1,t2,_,_⟩:=vU hg hD.ren ht;have hw:=yv hg n _ k _ L lw (by rw[t2];exact hn) t1 hL hD.live hk h1 ms oE;refine⟨_,hD.app hw,λy hy hLy=>?_⟩;rw[ZjF];exact Live.ms hg hw.ren (vU hg hD.ren hy).1 hLy
def ZIT {c0:Nat} {t:Tm} {k:Int} {M:GP}:∀{n:Nat}{l:List (GP)},df g c0 n t k M=some l->l.length<=64
 |0,l,h=>by cases h
 | n+1,l,h=>by
  have h:C6 g c0 (df g c0 n) t k M=some l:=h;unfold C6 at h;split at h
  ·injection h with h;subst h;simp
  ·split at h
   ·rw[ZhC h];unfold fQ at h;split at h
    ·assumption
    ·cases h
   ·split at h
    ·cases h
    ·obtain⟨m,_,h2⟩:=Option.bind_eq_some_iff.1 h;rw[ZhC h2];unfold fQ at h2;split at h2
     ·assumption
     ·cases h2
def ZiC(bm b:Nat)(aj:AI)(s:Nat)(oc:Value)(ho:bQ (.A oc))(f:Bool)(rows:sh):aT (eM g bm) 179 [.I (.A (.pointer (some ⟨b,0,none⟩))),.I (.sl rows)] [.var (some b) (uC g bm aj s oc f)] (sQ g bm b aj s oc [.I (.sl rows)] (f||decide (64<rows.length))):=by
 have xt:=v8 (g:=g) (b:=bm);unfold uC;refine dX (ts:=[.slot 4]) [1000] 147 Tryz.func179 ?_;by_cases h:64<rows.length
 ·have hR:sQ g bm b aj s oc [.I (.sl rows)] (f||decide (64<rows.length)) [.I (.sl rows)] [.var (some b) [.ptr (bx g (.A (.map (some bm)))),.sl (az aj),GS s,.A oc,GV (true)]]:=⟨rfl,by rw[decide_eq_true h,Bool.or_true];rfl⟩;refine fG (aj3 (lT 64 rows.length) @ho @ao) ?_;exact GD
 ·have hR:sQ g bm b aj s oc [.I (.sl rows)] (f||decide (64<rows.length)) [.I (.sl rows)] [.var (some b) [.ptr (bx g (.A (.map (some bm)))),.sl (az aj),GS s,.A oc,GV (f)]]:=⟨rfl,by rw[decide_eq_false h,Bool.or_false];rfl⟩;refine fG (aj3 (lF 64 rows.length) @ho @ao) ?_;exact GD
noncomputable def mJ(g:Sgn)(c0 n:Nat)(ks:List Int)(xs:AI)(out:List (GP))(M':GP):Option (List (GP)):=((dK g (df g c0 n) ks xs M').bind fQ).map (out++·)
def ZDB{c0 n:Nat}{k:Int}{ks:List Int}{x:Tm}{xs:AI}{M:GP}:dK g (df g c0 n) (k::ks) (x::xs) M=(df g c0 n x k M).bind λl=>bI (mJ g c0 n ks xs) [] l:=by
 rw[dK];rfl
def Zl2 (hg:SgnOk g) {bm n:Nat} (hW:WayC g bm n) (b:Nat) (aj:AI) (s:Nat) (oc:Value) (ho:bQ (.A oc)) {c0:Nat}:∀(q:Nat)(f:Bool){ks:List Int}{xs:AI}{M:GP}{L:AI},ks.length=q->xs.length=q->q<=100->(∀x∈xs,ah x<n/\TermOk g x/\Live L (dF g M x))->DeadM g c0 M L->(∀k∈ks,pw g k) ->
  aT (eM g bm) 180 [.I (.A (.pointer (some ⟨b,0,none⟩))),.I (.sl (az xs)),.I (.sl (ks.map ij)),.agg (jK g c0 M)] [.var (some b) (uC g bm aj s oc f)] (kG g bm b aj s oc c0 (1+5000*q) (EP f (dK g (df g c0 n) ks xs M))):=by
 have xt:=v8 (g:=g) (b:=bm);have yi:type_of% (aj3 (@FA g) (@FL g) (@FM g)):=aj3 (@FA g) (@FL g) (@FM g);intro q
 induction q with
 | zero =>
  intro f ks xs M L hk hx _ _ hD _;have hbgM:=hD.live.bg;have hPM:PW g c0 M:=⟨hD.ren,om⟩;obtain rfl:ks=[]:=List.length_eq_zero_iff.1 hk;obtain rfl:xs=[]:=List.length_eq_zero_iff.1 hx;have l0:(((0:Nat):Int)=0)=True:=eq_true rfl;have hR:kG g bm b aj s oc c0 (1+5000*0) (EP f (dK g (df g c0 n) [] [] M)) [.I (.sl [jK g c0 M])] [.var (some b) [.ptr (bx g (.A (.map (some bm)))),.sl (az aj),GS s,.A oc,GV (f)]]:=by
   refine⟨[M],f,rfl,rfl,λm h=>?_,λh=>?_,by simp,λM' h=>by rw[Tbk.1 h];exact hPM⟩
   ·cases f with
    |true=>cases h
    |false =>
     have h:some [M]=some m:=h;injection h with h
     exact⟨h,rfl⟩
   ·cases f with
    |true=>rfl
    |false =>
     have h:some [M]=none:=h
     cases h
  unfold uC;refine dX (ts:=[.slot 8]) [1000] 35366390671 Tryz.func180 ?_;refine fN 2 (aj3 @l0 @yi @ao) ?_;refine gB ?_;have F:=ai @yi @ao;refine gP 1 ?_;clear F;have F:=ai yi ao;refine Df ?_;clear F;refine fR (ai @yi @ao) ?_;refine rp (vH [8] (by have F:=@ao;exact iK)) λy' G6=>?_
  subst G6;exact(have F:=ao;ee (R:=kG _ _ _ _ _ _ _ _ _) [1000] hR)
 |succ q ih =>
 intro f ks xs M L jF uu hq hx hD hk;obtain⟨k,ks,rfl⟩:∃k l,ks=k::l:=by
  cases ks with
  |nil=>simp at jF
  |cons k l=>exact⟨k,l,rfl⟩
 obtain⟨x,xs,rfl⟩:∃k l,xs=k::l:=by
  cases xs with
  |nil=>simp at uu
  |cons k l=>exact⟨k,l,rfl⟩
 simp only[Tag,Nat.add_right_cancel_iff]at jF uu;obtain⟨x1,x2,x3⟩:=hx x Tas;have iY:=hk k Tas;have cW:=hW b aj s oc ho f x1 x2 x3 hD iY;have jk:=λl(h:df g c0 n x k M=some l)=>ZFn hg x1 x2 x3 hD iY h;have rF:=λl(h:df g c0 n x k M=some l)=>ZIT h;rw[ZDB];have l2:(az (x::xs))[0]?=some (ax x):=by rw[rt];rfl
 have l4:(az (x::xs)).drop 1=az xs:=by simp[az]
 have l0:(az (x::xs)).length=xs.length+1:=by rw[cc,Tag]
 have l3:ZaD 4 (az (x::xs)):=uL _;have l5:(az (x::xs)).take (az (x::xs)).length=az (x::xs):=Tap;generalize az (x::xs)=rows at l0 l2 l3 l4 l5⊢;have k2:((k::ks).map ij)[0]?=some (ij k):=rfl;have k4:((k::ks).map ij).drop 1=ks.map ij:=rfl;have k0:((k::ks).map ij).length=ks.length+1:=by simp
 have k3:ZaD 1 ((k::ks).map ij):=Zow _;have k5:((k::ks).map ij).take ((k::ks).map ij).length=(k::ks).map ij:=Tap;generalize (k::ks).map ij=AB at k0 k2 k3 k4 k5⊢;have l1:((rows.length:Int)=0)=False:=eq_false (by rw[l0];omega);have l6:((1:Int)<=rows.length)=True:=eq_true (by rw[l0];omega);have l7:((rows.length:Int)<=rows.length)=True:=eq_true (Int.le_refl _);have l8:(0<rows.length)=True:=eq_true om
 have k6:((1:Int)<=AB.length)=True:=eq_true (by rw[k0];omega);have k7:((AB.length:Int)<=AB.length)=True:=eq_true (Int.le_refl _);have k8:(0<AB.length)=True:=eq_true om;have t0:Int.toNat 0=0:=rfl;have t1:Int.toNat 1=1:=rfl;clear l0 k0;unfold uC at *;refine dX (ts:=[.slot 8]) [1000] 35366390671 Tryz.func180 ?_;refine fN 4 (ai @l1 @ao) ?_;refine rE ?_;have F:=ao;refine xh 11 [1000] [0,1,2,3,4,5,6,7,10] [8,9] ?_;clear F
 have F:=aj10 l2 l3 l8 k2 k3 k8 t0 yi @iM ao;refine uk ?_;clear F;have F:=ai @iM ao;refine tq [1000] [1000] cW ?_;clear F;rintro _ _ ⟨l,f1,rfl,rfl,hs,hn,Ah,-⟩;simp only[aD,aQ,aM,uC,Taf,Tah];have ll:=Bh (g:=g) c0 l;have lB:=Bq (g:=g) c0 l;have F:=ai ll ao;refine tr ?_;clear F;refine fR @ao ?_;clear cW;generalize hX:df g c0 n x k M=X at hs hn jk rF⊢;generalize hT:EP f (X.bind λl=>bI (mJ g c0 n ks xs) [] l)=T
 have aZ:0<=l.length/\(f1=false->f=false/\X=some l/\bI (mJ g c0 n ks xs) [] (l.take 0)=some []/\([]:List (GP)).length<=64*0)/\(f1->T=none)/\([]:List (GP)).length<=4096+(1+5000*q)/\∀M'∈([]:List (GP)),PW g c0 M':=by
  refine⟨Taj _,λh=>?_,λh=>?_,by simp,λM' h=>by cases h⟩
  ·cases hf:f with
   |true =>
    have:=hn (by rw[hf];rfl);rw[h]at this;cases this
   | false =>
    cases hXX:X with
    |none =>
     have:=hn (by rw[hf,hXX];rfl);rw[h]at this;cases this
    |some m =>
     have:=hs m (by rw[hf,hXX];rfl);rw[this.1];exact⟨rfl,rfl,rfl,Tai _⟩
  ·cases hf:f with
   |true=>rw[<- hT,hf];rfl
   | false =>
    cases hXX:X with
    |none=>rw[<- hT,hf,hXX];rfl
    |some m =>
     have:=hs m (by rw[hf,hXX];rfl);rw[h]at this;cases this.2
 refine fG @ao ?_;have F:=aj3 @ho (@List.map_nil.{0,0}) @ao;refine gL (ι:=Nat×List (GP)×Bool) [8,9,11,28,29,35] [9,1000] (λw=>[(28,GU w.1),(9,.Υ 9)]) (λw=>[(9,.Υ none 175 3 (w.2.1.map (jK g c0))),(1000,.var (some b) [.ptr (bx g (.A (.map (some bm)))),.sl (az aj),GS s,.A oc,GV (w.2.2)])]) (λw=>w.1<=l.length/\(w.2.2=false->f=false/\X=some l/\bI (mJ g c0 n ks xs) [] (l.take w.1)=some w.2.1/\w.2.1.length<=64*w.1)/\(w.2.2->T=none)/\w.2.1.length<=4096+(1+5000*q)/\∀M'∈w.2.1,PW g c0 M') (λw=>l.length-w.1) ((0,[],f1)) (aZ) (λw hw=>?_);clear F
 obtain⟨i,out,f2⟩:=w;obtain⟨hi,hy,sI,pX,rS⟩:=hw;simp only at hi hy sI pX rS;dsimp only;have bO:=Bh (g:=g) c0 out;have bB:=Bq (g:=g) c0 out;by_cases am:i<l.length;rotate_left
 ·obtain rfl:i=l.length:=by omega
  have q2:=lF l.length l.length;have hR:kG g bm b aj s oc c0 (1+5000*(q+1)) T [.I (.sl (out.map (jK g c0)))] [.var (some b) [.ptr (bx g (.A (.map (some bm)))),.sl (az aj),GS s,.A oc,GV (f2)]]:=by
   refine⟨out,f2,rfl,rfl,λm h=>?_,λh=>?_,om,rS⟩
   ·cases f2 with
    |true=>rw[sI rfl]at h;cases h
    |false =>
     obtain⟨h1,h2,h3,_⟩:=hy rfl;rw[Tap]at h3;rw[<- hT,h1,h2]at h;have h:bI (mJ g c0 n ks xs) [] l=some m:=h;rw[h3]at h;injection h with h
     exact⟨h,rfl⟩
   ·cases f2 with
    |true=>rfl
    |false =>
     obtain⟨h1,h2,h3,_⟩:=hy rfl;rw[Tap]at h3;rw[<- hT,h1,h2]at h;have h:bI (mJ g c0 n ks xs) [] l=none:=h;rw[h3]at h
     cases h
  refine fG (aj3 @q2 @ll @ao) ?_;refine rp (vH [8] (by have F:=@ao;exact iK)) λy' G6=>?_;subst G6;exact(have F:=ao;ee (R:=kG _ _ _ _ _ _ _ _ _) [1000] hR)
 have q2:=lT i l.length;obtain⟨M',hM'⟩:∃s,l[i]?=some s:=⟨_,Taa am⟩;have gi:(l.map (jK g c0))[i]?=some (jK g c0 M'):=by rw[Tba,hM'];rfl
 cases f2 with
 |true =>
  have hR:kG g bm b aj s oc c0 (1+5000*(q+1)) T [.I (.sl [])] [.var (some b) [.ptr (bx g (.A (.map (some bm)))),.sl (az aj),GS s,.A oc,GV (true)]]:=⟨[],true,rfl,rfl,λm h=>(by rw[sI rfl]at h;cases h),λ_=>rfl,by simp,λM' h=>by cases h⟩;refine fG (aj8 @q2 @ll @gi @lB @am @bw @yi @ao) ?_;refine rp (vH [8] (by have F:=@ao;exact iK)) λy' G6=>?_
  subst G6;exact(have F:=ao;ee (R:=kG _ _ _ _ _ _ _ _ _) [1000] hR)
 |false =>
 obtain⟨hf,Dw,mv,ho64⟩:=hy rfl;have hl64:=rF l Dw;obtain⟨L',Ge,hLv⟩:=jk l Dw M' (Tac hM');have cA:=ih false (ks:=ks) (xs:=xs) jF uu om (λy hy=>by
  obtain⟨z1,z2,z3⟩:=hx y (Tal _ hy);exact⟨z1,z2,hLv y z2 z3⟩) Ge λk dZ=>hk k (Tal _ dZ)
 have cL:=λf rows=>ZiC (g:=g) bm b aj s oc ho f rows;unfold uC at cL;have wi:=bW (k:=i) om;have da:=zi (f:=mJ g c0 n ks xs) (b:=[]) hM';rw[mv,Option.bind_some]at da;refine fN 9 (aj8 @q2 @ll @gi @lB @am @bw @yi @ao) ?_;refine rE ?_;have F:=ao;refine xh 10 [1000] [0,1,2,3,4,5,6,7] [8,9] ?_;clear F;have F:=aj14 l3 k3 l4 l5 l6 l7 k4 k5 k6 k7 t1 t0 yi ao;refine uk ?_;clear F;have F:=ao;refine tq [1000] [1000] cA ?_;clear F
 rintro _ _ ⟨l2,f3,rfl,rfl,po,fh,hl2N,Ar⟩;simp only[aD,aQ,aM,uC,Taf,Tah];have F:=ao;refine tq [1000] [1000] (cL f3 (l2.map (jK g c0))) ?_;clear F;rintro _ _ ⟨rfl,rfl⟩;simp only[aD,aQ,aM,uC,Taf,Tah];have yK:=Bh (g:=g) c0 l2;have bB2:=Bq (g:=g) c0 l2;have c8:out.length+l2.length<=al:=by unfold al;omega
 have F:=ao;refine tr ?_;clear F;refine fR (aj6 @bO @bB @yK @bB2 @c8 @ao) ?_;rw[<- Tbw];have pk:(i+1)<=l.length/\((f3||decide (64<l2.length))=false->f=false/\X=some l/\bI (mJ g c0 n ks xs) [] (l.take (i+1))=some (out++l2)/\(out++l2).length<=64*(i+1))/\((f3||decide (64<l2.length))->T=none)/\(out++l2).length<=4096+(1+5000*q)/\∀M'∈out++l2,PW g c0 M':=by
  refine⟨am,λh=>?_,λh=>?_,by rw[Tae];omega,λM' h=>(Tbi.1 h).elim (rS M') (Ar M')⟩
  ·simp only[Bool.or_eq_false_iff,decide_eq_false_iff_not]at h;obtain⟨h3,h4⟩:=h
   cases hA:dK g (df g c0 n) ks xs M' with
   |none =>
    have:=fh (by rw[hA];rfl);rw[h3]at this;cases this
   |some m =>
    obtain⟨rfl,_⟩:=po m (by rw[hA];rfl);refine⟨hf,Dw,?_,by rw[Tae];omega⟩;rw[da,mJ,hA,Option.bind_some,tZ om];rfl
  ·have hz:mJ g c0 n ks xs out M'=none:=by
    cases hA:dK g (df g c0 n) ks xs M' with
    |none=>rw[mJ,hA];rfl
    |some m =>
     obtain⟨rfl,h5⟩:=po m (by rw[hA];rfl);rw[h5,Bool.false_or,decide_eq_true_eq]at h;rw[mJ,hA,Option.bind_some,uB om];rfl
   rw[hz]at da;rw[<- hT,hf,Dw];exact yp da
 have F:=ai @wi @ao;refine gG ?_;exact⟨(i+1,out++l2,(f3||decide (64<l2.length))),pk,gw,gw,om⟩
end
def m272(h:G3:=by
 have F:=@ao;refine cQ [1000] [1000] (cM) ?_;rintro _ _ ⟨rfl,rfl⟩;refine EJ ?_;refine ec @ao @ao ?_;exact m163):G3:=h
def m231(h:G3:=by
 have F:=ai @wi @ao;refine gG ?_;exact⟨(i+1,out++l2,f3),dV,gw,gw,om⟩):G3:=h
def m163(h:G3:=by
 exact(have F:=ao;ee (R:=kG _ _ _ _ _ _ _ _ _) [1000] hR)):G3:=h
def m161(h:G3:=by
 rw[da,hy h1,Option.bind_some];unfold kf;rw[if_pos xn,h2,Option.bind_some,if_pos ⟨hc,aP⟩,BQ,pd];rfl):G3:=h
def m67(b:G5)(h:Bx G5->G4:=by
 intro B0
 refine rp (vH [8] (by have F:=@ao;exact iK)) λy' G6=>?_;exact B0.o y' G6):G4:=h ⟨b⟩
section
variable{g:Sgn}
def ZDC{e:Env}{U:GO}{base:Nat}{S0:GO}{m:it}{o:Oper}{ρ:Operand->A}{x:Operand}(ho:o.op=.assign x):iC e U base S0 m o ρ (ρ x) :=
 oN λw S L C' hC hr=>⟨C' x,by simp[execOp,ho],hr x (by simp[ho,Op.operands])⟩
def gAsg{e:Env}{K:GR}{ds:By}{os:GL}{d ty:Nat}{p:String}{ed:Array Edge}{x:Operand}{s:d3}{m:it}(hK:an e ds 0 os ⟨(d,aL s x)::s,m⟩ K):an e ds 0 (⟨some d,.assign x,ty,p,ed,none⟩::os) ⟨s,m⟩ K:=by
 simp only[an]at hK⊢;exact vG rfl λhe U w0 S0 nt a w Q hd⟨S,L,h⟩=>Oper.wp_mono (λa' w' hs=>⟨_,hK,hs⟩) (Cu h hd (ZDC (e:=e) rfl))
def Zy7(rows:sh)(hb:ZaD 8 rows):aI e0 178 [.I (.sl rows)] [.Ζ rows]:=by
 have h2:rows.take rows.length=rows:=Tap;have t0:Int.toNat 0=0:=rfl;refine gI 5 Tryz.func178 ?_;refine dC 1 @ae 6 (aj7 @hb (eq_true om:((0:Int)<=rows.length)=True) (eq_true (Int.le_refl _):((rows.length:Int)<=rows.length)=True) @h2 @t0 @Tbz @ae) ?_;refine gAsg ?_;exact dM @ae @ae
def ZnY(M:GP):(e8 g M).length=M.length:=by
 refine ZnS (P:=λM=>(e8 g M).length=M.length) rfl ?_ M;intro l a ih;rw[Zi3,Tae,Tay,Tae,ih]
def ZxW(hg:SgnOk g){M:GP}(h:qk g M)(hl:M.length<=1000):SbsW g (e8 g M):=by
 have h1:=(CM hg M h).1;exact⟨by rw[ZnY];exact hl,λy hy=>(h1 y hy).var,λy hy=>(h1 y hy).to'.term⟩
def ZH7(hg:SgnOk g){M:GP}(h:qk g M){y:Bd}(hy:RenAt g y):iO g y.var y.to (e8 g M)=false/\eY g y.var y.to (e8 g M)++[y]=e8 g (M++[y]):=by
 have h1:=(CM hg M h).1;have e:∀z∈e8 g M,co g [⟨y.var,y.to⟩] z.to=some (rn g y z.to):=λz hz=>(uH hg hy (h1 z hz).to'.term).1;constructor
 ·unfold iO;rw[List.any_eq_false];intro z hz;unfold oA;rw[e z hz];simp
 ·rw[Zi3];congr 1;unfold eY;refine List.map_congr_left λz hz=>?_;unfold nI;rw[e z hz];rfl
def ZIU(hg:SgnOk g){M:GP}{L:AI}{c0:Nat}(hD:DeadM g c0 M L){x:Tm}(hx:TermOk g x)(bE:x.op=-1)(mA:Live L x){k:Int}(uq:¬(av g x).testBit k.toNat){i:Nat}(hi:i∈cj (dY g x.sort k)):RenAt g ⟨x,wV (c0+M.length+1) i⟩:=by
 obtain⟨i1,i2,i3⟩:=Cx hg hi;have hw:=WayOk.I hg hD.live (mA x bE ((vP (hx.varOk bE).2.2.2.2).2 rfl)) i1 i2 λe=>uq (by rw[EY bE,<- e];exact i3);exact hw.ren _ (Tbk.2 rfl)
def ZIV(hg:SgnOk g){M:GP}{L:AI}{c0 n:Nat}(hD:DeadM g c0 M L){x:Tm}(hx:TermOk g x)(hn:ah x<n+1)(mA:Live L x):∀y∈x.Y,ah y<n/\TermOk g y/\Live L (dF g M y):=λy hy=>by
 have hs:=iB x;have BT:=kv hy;refine⟨om,hx.arg hy,?_⟩;rw[Zpn hg hD.ren (hx.arg hy) (mA.arg hy) hD.dead];exact mA.arg hy
def ZFo(hg:SgnOk g){i:Nat}{o:Opr}(ho:g.ops[i]?=some o){d d0:Dcl}(h0:o.Z[0]?=some d0)(hd:d∈o.Z):d.Y.length=d0.Y.length:=by
 have hm:=Tac ho;obtain⟨f,hf,_⟩:=hg.first ho;rw[h0]at hf;injection hf with hf
 subst hf;exact((hg.Z o hm).all d0 h0 d hd).len
def ZJp (hg:SgnOk g) (hF:jb g) (bm:Nat):∀n:Nat,WayC g bm n:=by
 intro n
 induction n with
 |zero=>exactλb aj s oc ho f{t k M L c0}h=>absurd h om
 |succ n ih =>
 intro b aj s oc ho f t k M L c0 hn ht hL hD hk;have xt:=v8 (g:=g) (b:=bm);have yi:type_of% (aj3 (@FA g) (@FL g) (@FM g)):=aj3 (@FA g) (@FL g) (@FM g);have DB:=hD.live.bg;have BB:M.length<=64:=om;obtain⟨t1,t2,_,_⟩:=vU hg hD.ren ht;have cA:=(Zko (mc:=.A (.map (some bm))) hg hF (ZxW hg hD.ren om) _ (Tan _) ht).m (g:=g) (b:=bm);rw[(CM hg M hD.ren).2 t ht]at cA;have ew:df g c0 (n+1) t k M=C6 g c0 (df g c0 n) t k M:=rfl
 rw[ew];unfold C6;have jk:ah (dF g M t)<n+1:=by rw[t2];exact hn
 generalize dF g M t=x at *;have z1:(some x).isSome:=rfl;have z2:(some x).getD jS=x:=rfl;have ewM:jK g c0 M=[.sl (aK M),.sl (aK (e8 g M)),GS ((c0+M.length:Nat):Int)]:=rfl;have cS:=Zvq (b:=bm) hg hF t1.size t1.Η;obtain⟨kn,rfl⟩:∃kn:Nat,k=kn:=⟨k.toNat,by have:=hk.1;omega⟩;have hk8:kn<8:=by have:=hk.2;have:=hg.V.n8;omega
 have hkt:((kn:Int)).toNat=kn:=Tbz kn;have hso:=iU (Zgn hg t1.Η.node) hg.V.n8;have Gg:=wK hso (show 2 ^ kn<4611686018427387904 from Tbd (Nat.pow_lt_pow_right om hk8) (by decide));have hbp:=Zmz (av g x) kn;have wu:=vY (k:=kn) om;rw[hkt];rw[ewM];unfold uC at *;refine dX (ts:=[.slot 8]) [1000] 3138551615987530874187836182038647350030520220933006159791 Tryz.func123 ?_;refine fN 1 @ao ?_
 refine Dh 11 10 12 ?_;refine oZ (ai @ho @ao) (cA) (aj3 @z1 @z2 @ao) ?_;clear cA
 cases f with
 |true =>
  have hR:∀X,kG g bm b aj s oc c0 600000 (EP true X) [.I (.sl [])] [.var (some b) [.ptr (bx g (.A (.map (some bm)))),.sl (az aj),GS s,.A oc,GV (true)]]:=λX=>⟨[],true,rfl,rfl,λm h=>(by cases h),λ_=>rfl,by simp,λM' h=>by cases h⟩;refine fG (ai @z1 @ao) ?_;refine m67 λy' G6=>?_
  subst G6;exact(have F:=ao;ee (R:=kG _ _ _ _ _ _ _ _ _) [1000] (hR _))
 |false =>
 have hof:∀X:Option (List (GP)),EP false X=X:=λ_=>rfl;rw[hof];refine cg 6 (ai @z1 @ao) @ao (cS) ?_
 cases qU:(av g x).testBit kn with
 |true =>
  have q6:(((av g x&&&2 ^ kn:Nat):Int)=0)=False:=eq_false (λh=>by rw[hbp.1 om]at qU;cases qU);rw[if_pos rfl];have hR:kG g bm b aj s oc c0 600000 (some [M]) [.I (.sl [jK g c0 M])] [.var (some b) [.ptr (bx g (.A (.map (some bm)))),.sl (az aj),GS s,.A oc,GV (false)]]:=⟨[M],false,rfl,rfl,λm h=>by injection h with h;exact⟨h,rfl⟩,λh=>(by cases h),by simp,λM' h=>by rw[Tbk.1 h];exact⟨hD.ren,om⟩⟩
  generalize 2 ^ kn=K at *;refine fR (aj4 @wu @Gg @q6 @ao) ?_;refine dC 7 @ao 1 @ao ?_;have F:=ao;refine Df ?_;refine fR @ao ?_;refine m67 λy' G6=>?_
  subst G6;exact m163
 |false =>
 rw[if_neg (by simp)];have q6:(((av g x&&&2 ^ kn:Nat):Int)=0)=True:=eq_true (by rw[hbp.2 qU];rfl);have uq:¬(av g x).testBit ((kn:Int)).toNat:=by rw[hkt,qU];simp
 generalize hK:2 ^ kn=K at *;refine fR (aj4 @wu @Gg @q6 @ao) ?_;clear cS Gg hbp q6;by_cases bE:x.op=-1
 ·have q1:=lT x.op 0;rw[if_pos bE];have hV:=t1.varOk bE;obtain⟨a,ha⟩:∃a:Nat,x.sort=a:=⟨x.sort.toNat,by have:=hV.2.2.1;omega⟩;have hs:=hg.V;have hN:=hs.n8;have han:a<g.V.O.length:=by have:=hV.2.2.2.1;omega
  have qX:kn<g.V.O.length:=by have:=hk.2;omega
  have ji:=Be hs (k:=(a:Int)) om om;have rN:=Be hs (k:=(kn:Int)) om om;rw[Tbz]at ji rN;have iG:=wK (iU ji.2 hN) (iU rN.2 hN);have gda:=gN ji.1;have zU:=gN rN.1;have jX:(nR (down g.V)).length=g.V.O.length:=by rw[gH,(Zjy (SortsOk.subsIn hs.Ψ)).1]
  have ev:=iS (l:=down g.V);have cE:=(Zng hs (D:=fy g a&&&fy g kn) (Tbf Nat.and_le_left ji.2) (nR (up g.V)) (nR (down g.V)) (nR (kinds g.V))).m (g:=g) (b:=bm);have ecm:db (fj g (fy g a&&&fy g kn)) g.V.O.length=dY g a kn:=rfl;rw[ecm]at cE;have iH:dY g a kn<65536:=Tbd (sx _ _) (Tbe (Tbt om hN) (by decide));have cL:=(Zhu iH).m (g:=g) (b:=bm);have d4:∀i∈cj (dY g a kn),RenAt g ⟨x,wV (c0+M.length+1) i⟩:=λi hi=>ZIU hg hD t1 bE hL uq (by rw[ha];exact hi)
  have hl16:(cj (dY g a kn)).length<=16:=A6 _ 16;rw[ha];generalize cj (dY g a kn)=LS at *;have lsl:=gH (l:=LS);have lsr:=iS (l:=LS);unfold nR at gda zU jX ev cE;refine cg 10 (ai @q1 @ao) (aj10 @ha @iG @gda @zU @jX @ev @han @qX @bw @ao) (cE) ?_;refine fC @ao (cL) ?_;refine ec (ai @lsl @ao) @ao ?_;have F:=aj3 @ho (@List.map_nil.{0,0}) @ao;refine gL (ι:=Nat) [11,13,14,15,97,98] [11] (λj=>[(97,GU j),(11,.Υ 11)]) (λj=>[(11,.Υ none 175 3 ((LS.take j).map λi:Nat=>jK g c0 (M++[⟨x,wV (c0+M.length+1) i⟩])))]) (λj=>j<=LS.length) (λj=>LS.length-j) (0) (Taj _) (λj hj=>?_)
  by_cases am:j<LS.length
  ·have q2:=lT j LS.length;obtain⟨i,hi⟩:∃i,LS[j]?=some i:=⟨_,Taa am⟩;have hR:=d4 i (Tac hi);have gi:=gN hi;have wj:=bW (k:=j) om;have wc:=bW (k:=c0+M.length) om;have cV:=(Zpp (n:=c0+M.length+1) om om (i:Int)).m (g:=g) (b:=bm);obtain⟨n1,n2⟩:=ZH7 hg hD.ren hR;simp only at n1 n2;generalize hw:wV (c0+M.length+1) i=w at *;have cI:=Zug hg hF bm b aj s oc ho false (l:=e8 g M) (λy hy=>((CM hg M hD.ren).1 y hy).to'.term) (by rw[ZnY];omega) hV hR.to'.term
   rw[n1,Bool.or_false]at cI;refine cq 13 (aj7 @q2 @gi @lsl @lsr @am @bw @ao) (ai @wc @ao) (cV) @ao ?_;refine eQ 14 @ao (aj3 (sC x w) @dz @ao) ?_;refine fN 15 @ao ?_;have cC:=(Zy7 (aK M) (eI M)).m (g:=g) (b:=bm);have e1:aK M++[dQ ⟨x,w⟩]=aK (M++[⟨x,w⟩]):=by rw[sq];rfl
   have e2:aK (eY g x w (e8 g M))++[dQ ⟨x,w⟩]=aK (e8 g (M++[⟨x,w⟩])):=by rw[<- n2,sq];rfl
   have m1:=fE M;have m2:=fE (eY g x w (e8 g M));have m3:=ZiA (g:=g) x w (e8 g M);have m4:=ZnY (g:=g) M;have b8:=λl=>eI l;have mw:M.length+1<=al:=by unfold al;omega
   have eL:((LS.take j).map λi:Nat=>jK g c0 (M++[⟨x,wV (c0+M.length+1) i⟩]))++[[.sl (aK (M++[⟨x,w⟩])),.sl (aK (e8 g (M++[⟨x,w⟩]))),GS ((c0+M.length+1:Nat):Int)]]=(LS.take (j+1)).map λi:Nat=>jK g c0 (M++[⟨x,wV (c0+M.length+1) i⟩]):=by
    rw[List.take_add_one,hi,Tbw];congr 1;simp only[Option.toList_some,Tbv,List.map_nil,jK,hw,Tae,Tag,Tak];rfl
   have bO:((LS.take j).map λi:Nat=>jK g c0 (M++[⟨x,wV (c0+M.length+1) i⟩])).length=j:=by rw[Tay,Taw];omega
   have bB:ZaD 3 ((LS.take j).map λi:Nat=>jK g c0 (M++[⟨x,wV (c0+M.length+1) i⟩])):=uD (λa=>rfl) _;have va:j+1<=al:=by unfold al;omega
   unfold uC at cI;refine rE ?_;refine zR 0 19 ?_;have F:=ao;refine xh 19 [1000,1001] [0,1,2,4,5,7,8,9,10,11,13,14,16,17,18] [3,6,12,15] ?_;have F:=aj3 wc dz ao;refine uk ?_;have F:=ai dz ao;refine Di (Zy5 cC) ?_;rintro _ rfl;simp only[aD,aQ];have F:=aj5 m1 b8 mw dz ao;refine gNac ?_;have F:=ai dz ao;refine tq [1000] [1000,1001] cI ?_;rintro _ _ ⟨a2,du,rfl,rfl⟩
   refine EJ ?_;have F:=aj7 m2 m3 m4 b8 mw dz ao;refine Dj 1001 ?_;have F:=ai dz ao;refine tr ?_;rw[e1,e2];refine Fc (vH [115,124] (by have F:=@ao;exact iK)) λy' G6=>?_
   subst G6;refine fR (aj6 @bO @bB @eL @va @yi @ao) ?_;have F:=ai @wj @ao;exact Ez
  obtain rfl:j=LS.length:=by omega
  have q2:=lF LS.length LS.length;rw[Tap];have er:(LS.map λi:Nat=>jK g c0 (M++[⟨x,wV (c0+M.length+1) i⟩]))=(LS.map λi:Nat=>M++[⟨x,wV (c0+M.length+1) i⟩]).map (jK g c0):=by rw[List.map_map];rfl
  rw[er,tZ (by rw[Tay];omega)];have hQp:∀M'∈LS.map (λi:Nat=>M++[(⟨x,wV (c0+M.length+1) i⟩:Bd)]),PW g c0 M':=λM' h=>by
   obtain⟨i,hi,rfl⟩:=Tbj.1 h;refine⟨λz hz=>?_,by rw[Tae,List.length_singleton];omega⟩;rcases Tbi.1 hz with q|q
   ·exact hD.ren z q
   ·rw[Tbk.1 q];exact d4 i hi
  generalize hQ:(LS.map λi:Nat=>M++[(⟨x,wV (c0+M.length+1) i⟩:Bd)])=Q at *;have hQl:Q.length<=16:=by rw[<- hQ,Tay];exact hl16
  have cM:=ZiC (g:=g) bm b aj s oc ho false (Q.map (jK g c0));rw[decide_eq_false (by rw[Tay];omega),Bool.or_false]at cM;unfold uC at cM;have hR:kG g bm b aj s oc c0 600000 (some Q) [.I (.sl (Q.map (jK g c0)))] [.var (some b) [.ptr (bx g (.A (.map (some bm)))),.sl (az aj),GS s,.A oc,GV (false)]]:=⟨Q,false,rfl,rfl,λm h=>(by injection h with h;exact⟨h,rfl⟩),λh=>(by cases h),om,hQp⟩
  refine kQ 17 (ai @q2 @ao) ?_;exact m272
 have q1:((x.op:Int)<0)=False:=eq_false (by have:=t1.Η.node;rcases this with h|⟨o,d,h⟩;exact absurd h.1 bE;have:=h.lo;omega);rw[if_neg bE];obtain⟨o,d0,hA⟩:=t1.Η.node.app bE;have lE:=hA.at';have h0:=hA.lo;have di:x.op.toNat<g.ops.length:=(Tad.1 lE).1;rw[lE];have hl7:=hA.len7 hg;have nz:=Tac lE;have rR:=hA.nas (hF o nz).1;have hd4:=(hg.Z o nz).len4;have mB:=ZIV hg hD t1 jk hL
 have hs:=hg.V;have hN:=hs.n8;have qX:kn<g.V.O.length:=by have:=hk.2;omega
 have rN:=Be hs (k:=(kn:Int)) om om;rw[Tbz]at rN;have zU:=gN rN.1;have jX:(nR (down g.V)).length=g.V.O.length:=by rw[gH,(Zjy (SortsOk.subsIn hs.Ψ)).1]
 have ev:=iS (l:=down g.V);unfold nR at zU jX ev;have hdB:ZaD 2 (o.Z.map yx):=uD (λa=>rfl) _;have hdL:(o.Z.map yx).length=o.Z.length:=Tay ..;simp only;refine eQ 18 (ai @q1 @ao) (aj6 @h0 @lE @di @cz @bw @ao) ?_;refine eQ 19 @ao (ai @hdL @ao) ?_;generalize hT:bI (kf g (df g c0 n) o x.Y ((kn:Nat):Int) M) [] o.Z=T
 have aZ:0<=o.Z.length/\(false=false->bI (kf g (df g c0 n) o x.Y ((kn:Nat):Int) M) [] (o.Z.take 0)=some [])/\(false->T=none)/\([]:List (GP)).length<=80000*0/\∀M'∈([]:List (GP)),PW g c0 M':=⟨Taj _,λ_=>rfl,λh=>(by cases h),Tai _,λM' h=>by cases h⟩;refine fG @ao ?_;have F:=aj3 @ho (@List.map_nil.{0,0}) @ao;refine gL (ι:=Nat×List (GP)×Bool) [11,18,150,151,169,191] [11,1000] (λw=>[(150,GU w.1),(11,.Υ 11)]) (λw=>[(11,.Υ none 175 3 (w.2.1.map (jK g c0))),(1000,.var (some b) [.ptr (bx g (.A (.map (some bm)))),.sl (az aj),GS s,.A oc,GV (w.2.2)])]) (λw=>w.1<=o.Z.length/\(w.2.2=false->bI (kf g (df g c0 n) o x.Y ((kn:Nat):Int) M) [] (o.Z.take w.1)=some w.2.1)/\(w.2.2->T=none)/\w.2.1.length<=80000*w.1/\∀M'∈w.2.1,PW g c0 M') (λw=>o.Z.length-w.1) ((0,[],false)) (aZ) (λw hw=>?_)
 obtain⟨i,out,f2⟩:=w;obtain⟨hi,hy,sI,pX,rS⟩:=hw;simp only at hi hy sI pX rS;dsimp only;have bO:=Bh (g:=g) c0 out;have bB:=Bq (g:=g) c0 out;by_cases am:i<o.Z.length;rotate_left
 ·obtain rfl:i=o.Z.length:=by omega
  have q2:=lF o.Z.length o.Z.length;rw[Tap,hT]at hy;have cM:=ZiC (g:=g) bm b aj s oc ho f2 (out.map (jK g c0));rw[Tay]at cM;unfold uC at cM;have hR:kG g bm b aj s oc c0 600000 (T.bind fQ) [.I (.sl (out.map (jK g c0)))] [.var (some b) [.ptr (bx g (.A (.map (some bm)))),.sl (az aj),GS s,.A oc,GV ((f2||decide (64<out.length)))]]:=by
   refine⟨out,_,rfl,rfl,λm h=>?_,λh=>?_,om,rS⟩
   ·cases f2 with
    |true=>rw[sI rfl]at h;cases h
    |false =>
     rw[hy rfl,Option.bind_some]at h;obtain⟨rfl,rF⟩:=Zl1 h;exact⟨rfl,by rw[Bool.false_or];exact decide_eq_false om⟩
   ·cases f2 with
    |true=>rfl
    |false =>
     rw[hy rfl,Option.bind_some]at h;rw[Bool.false_or];refine decide_eq_true ?_;rcases Nat.lt_or_ge 64 out.length with q|q
     ·exact q
     ·rw[tZ q]at h;cases h
  refine kQ 27 (ai @q2 @ao) ?_;exact m272
 have q2:=lT i o.Z.length;obtain⟨d,hd⟩:∃d,o.Z[i]?=some d:=⟨_,Taa am⟩;have pP:=Tac hd;have ji:=Zhf hg lE pP;have ep:=ZFo hg lE hA.fst pP;have gi:(o.Z.map yx)[i]?=some [.sl (d.Y.map ij),GS d.Β]:=by rw[Tba,hd];rfl
 obtain⟨rn,D0⟩:∃rn:Nat,d.Β=rn:=⟨d.Β.toNat,by have:=ji.1.1;omega⟩;have hr8:rn<8:=by have:=ji.1.2;omega
 have hrnn:rn<g.V.O.length:=by have:=ji.1.2;omega
 have At:=vY (k:=rn) om;have nn:=wK (iU rN.2 hN) (show 2 ^ rn<4611686018427387904 from Tbd (Nat.pow_lt_pow_right om hr8) (by decide));have hbq:=Zmz (fy g kn) rn;have hdb:=ZjA (g:=g) hs (kn:Int) rn;have wi:=bW (k:=i) om;have da:=zi (f:=kf g (df g c0 n) o x.Y ((kn:Nat):Int) M) (b:=[]) hd;have hbt2:(dw g d.Β).testBit ((kn:Int)).toNat=(fy g kn).testBit rn:=by
  rw[D0]
  cases h:(fy g kn).testBit rn with
  |true=>exact(hdb.1 h).2
  |false =>
   cases h2:(dw g (rn:Int)).testBit ((kn:Int)).toNat with
   |false=>rfl
   |true=>rw[hdb.2 ⟨hrnn,h2⟩]at h;cases h
 cases xm:(fy g kn).testBit rn with
 |false =>
  have q3:(((fy g kn&&&2 ^ rn:Nat):Int)=0)=True:=eq_true (by rw[hbq.2 xm];rfl);have hdI:∀o',kf g (df g c0 n) o x.Y ((kn:Nat):Int) M o' d=some o':=λo'=>by unfold kf;rw[if_neg (by rw[hbt2,xm];simp)]
  have dV:i+1<=o.Z.length/\(f2=false->bI (kf g (df g c0 n) o x.Y ((kn:Nat):Int) M) [] (o.Z.take (i+1))=some out)/\(f2->T=none)/\out.length<=80000*(i+1)/\∀M'∈out,PW g c0 M':=⟨am,λh=>by rw[da,hy h,Option.bind_some,hdI],sI,om,rS⟩;generalize 2 ^ rn=K2 at *;refine eQ 22 (aj7 @q2 @hdL @hdB @gi @am @bw @ao) (aj10 @D0 @At @nn @q3 @zU @jX @ev @qX @bw @ao) ?_
  have F:=ai @wi @ao;refine gG ?_;exact⟨(i+1,out,f2),dV,gw,gw,om⟩
 |true =>
 have q3:(((fy g kn&&&2 ^ rn:Nat):Int)=0)=False:=eq_false (λh=>by rw[hbq.1 om]at xm;cases xm);have cA:=Zl2 hg ih b aj s oc ho d.Y.length f2 (ks:=d.Y) (xs:=x.Y) rfl (by rw[ep];exact rR) om mB hD ji.2;unfold uC at cA;generalize 2 ^ rn=K2 at *;refine kQ 23 (aj15 @q2 @q3 @hdL @hdB @gi @am @D0 @At @nn @zU @jX @ev @qX @bw @ao) ?_;have F:=@ao;refine cQ [1000] [1000] (cA) ?_
 rintro _ _ ⟨l2,f3,rfl,rfl,po,fh,hl2N,Ar⟩;simp only[aD,aQ,aM,uC,Taf,Tah];have hq7:d.Y.length<=7:=by rw[ep,<- rR];exact hl7
 refine fR (aj6 @bO @bB (Bh (g:=g) c0 l2) (Bq (g:=g) c0 l2) (by unfold al;omega:out.length+l2.length<=al) @ao) ?_;rw[<- Tbw];have xn:(dw g d.Β).testBit ((kn:Int)).toNat:=by rw[hbt2,xm]
 -- what the first gives
 have hA2:f3=false->f2=false/\dK g (df g c0 n) d.Y x.Y M=some l2:=λh=>by
  cases f2 with
  |true=>have:=fh rfl;rw[h]at this;cases this
  |false =>
   cases pd:dK g (df g c0 n) d.Y x.Y M with
   |none=>have:=fh (by rw[pd];rfl);rw[h]at this;cases this
   |some m=>exact⟨rfl,by rw[(po m (by rw[pd];rfl)).1]⟩
 have hA3:f3->f2\/dK g (df g c0 n) d.Y x.Y M=none:=λh=>by
  cases f2 with
  |true=>exact .inl rfl
  |false =>
   right
   cases pd:dK g (df g c0 n) d.Y x.Y M with
   |none=>rfl
   |some m=>have:=(po m (by rw[pd];rfl)).2;rw[h]at this;cases this
 have hTn:f3->T=none:=λh=>by
  rcases hA3 h with h|h
  ·exact sI h
  ·cases f2 with
   |true=>exact sI rfl
   |false =>
    rw[<- hT];refine yp (i:=i+1) ?_;rw[da,hy rfl,Option.bind_some];unfold kf;rw[if_pos xn,h];rfl
 by_cases iv:o.comm/\d.Y[0]?≠d.Y[1]?;rotate_left
 ·have dV:i+1<=o.Z.length/\(f3=false->bI (kf g (df g c0 n) o x.Y ((kn:Nat):Int) M) [] (o.Z.take (i+1))=some (out++l2))/\(f3->T=none)/\(out++l2).length<=80000*(i+1)/\∀M'∈out++l2,PW g c0 M':=⟨am,λh=>by
   obtain⟨h1,h2⟩:=hA2 h;rw[da,hy h1,Option.bind_some];unfold kf;rw[if_pos xn,h2,Option.bind_some,if_neg iv],hTn,by rw[Tae];omega,λM' h=>(Tbi.1 h).elim (rS M') (Ar M')⟩
  cases hc:o.comm with
  |false =>
   refine fG (ai @hc @ao) ?_;exact m231
  | true =>
   obtain⟨a0,a1,mO⟩:=Zln ((Opr.deg2 hg lE (.inr (.inl hc))) d pP);have h01:a0=a1:=by
    by_cases q:a0=a1
    ·exact q
    ·exact absurd ⟨hc,by rw[mO];simpa using q⟩ iv
   simp only[mO,Tbv,List.map_nil];refine fG (aj4 @hc (eq_true h01:(a0=a1)=True) @iM @ao) ?_;exact m231
 obtain⟨hc,aP⟩:=iv;obtain⟨a0,a1,mO⟩:=Zln ((Opr.deg2 hg lE (.inr (.inl hc))) d pP);have h01:a0≠a1:=λq=>aP (by rw[mO,q];rfl);have q4:(a0=a1)=False:=eq_false h01;have BQ:d.Y.reverse=[a1,a0]:=by rw[mO];rfl
 have hxl2:x.Y.length=2:=by rw[rR,<- ep,mO];rfl
 have cB:=ZkF (Zl2 hg ih b aj s oc ho 2 f3 (ks:=[a1,a0]) (xs:=x.Y) rfl hxl2 om mB hD (λk dZ=>ji.2 k (by rw[<- List.mem_reverse,BQ];exact dZ))) (args':=[.I (.A (.pointer (some ⟨b,0,none⟩))),.I (.sl (az x.Y)),.Ζ [ij a1,ij a0],.agg (jK g c0 M)]) (λw S us h=>by
  match us,h with
  |[u0,u1,u2,u3],h =>
   obtain⟨h0,h1,h2,h3⟩:=h;exact⟨h0,h1,h2.1,h3⟩)
 unfold uC at cB;rw[ewM]at cB;have bO3:=Bh (g:=g) c0 (out++l2);have bB3:=Bq (g:=g) c0 (out++l2);simp only[mO,Tbv,List.map_nil];refine fN 25 (aj4 @hc @q4 @iM @ao) ?_;refine rE ?_;have F:=ao;refine xh 15 [1000] [0,1,2,3,4,5,6,7,8,9,10,11,12,13] [14] ?_;have F:=ai @iM ao;refine uk ?_;have F:=ai @iM ao;refine tq [1000] [1000] cB ?_;rintro _ _ ⟨l3,f4,rfl,rfl,hs3,hn3,hl3N,hpw3⟩
 simp only[aD,aQ,aM,uC,Taf,Tah];have yL:=Bh (g:=g) c0 l3;have bB4:=Bq (g:=g) c0 l3;have hmx2:out.length+l2.length+l3.length<=al:=by unfold al;omega
 have F:=ao;refine tr ?_;refine fR (aj6 @bO3 @bB3 @yL @bB4 @hmx2 @ao) ?_;rw[<- Tbw];have dV:i+1<=o.Z.length/\(f4=false->bI (kf g (df g c0 n) o x.Y ((kn:Nat):Int) M) [] (o.Z.take (i+1))=some (out++l2++l3))/\(f4->T=none)/\(out++l2++l3).length<=80000*(i+1)/\∀M'∈out++l2++l3,PW g c0 M':=by
  refine⟨am,λh=>?_,λh=>?_,by rw[Tae,Tae];omega,λM' h=>(Tbi.1 h).elim (λh=>(Tbi.1 h).elim (rS M') (Ar M')) (hpw3 M')⟩
  ·cases f3 with
   |true=>have:=hn3 rfl;rw[h]at this;cases this
   | false =>
    obtain⟨h1,h2⟩:=hA2 rfl
    cases pd:dK g (df g c0 n) [a1,a0] x.Y M with
    |none=>have:=hn3 (by rw[pd];rfl);rw[h]at this;cases this
    |some m =>
     obtain⟨rfl,_⟩:=hs3 m (by rw[pd];rfl);exact m161
  ·cases f3 with
   |true=>exact hTn rfl
   | false =>
    obtain⟨h1,h2⟩:=hA2 rfl
    cases pd:dK g (df g c0 n) [a1,a0] x.Y M with
    |none =>
     rw[<- hT];refine yp (i:=i+1) ?_;exact m161
    |some m=>have:=(hs3 m (by rw[pd];rfl)).2;rw[h]at this;cases this
 have F:=aj3 @wi @hc @ao;refine gG ?_;exact⟨(i+1,out++l2++l3,f4),dV,gw,gw,om⟩
end
def Zl3 {α β γ:Type} {F:α->Option β} {G:γ->β->Option γ}:∀{l:List α}{z:γ},(ba F l).bind (bI G z)=bI (λz a=>(F a).bind (G z)) z l
 |[],z=>rfl
 | a::l,z=>by
  rw[ba,bI]
  cases F a with
  |none=>rfl
  | some b =>
   simp only[Option.bind_some]
   cases hG:G z b with
   |none =>
    cases ba F l with
    |none=>rfl
    |some m=>simp only[Option.map_some,Option.bind_some,bI,hG,Option.bind_none]
   |some z' =>
    rw[Option.bind_some,<- Zl3 (l:=l) (z:=z')]
    cases ba F l with
    |none=>rfl
    |some m=>simp only[Option.map_some,Option.bind_some,bI,hG]
def F2.at{α β:Type}{R:α->β->Prop}:∀{l:List α}{m:List β}{i:Nat}{b:β},F2 R l m->m[i]?=some b->∃a,l[i]?=some a/\R a b
 |[],[],i,b,_,h=>by simp at h
 | a::l,c::m,i,b,h,hi=>by
  cases i with
  |zero=>simp only[Tat,Taq]at hi;subst hi;exact⟨a,rfl,h.1⟩
  |succ i =>
   simp only[Tau]at hi⊢;exact F2.at h.2 hi
section
variable{g:Sgn}
def ZnZ{v t u x:Tm}(h:co g [⟨v,t⟩] x=some u):nI g v t x=u/\oA g v t x=false:=by
 unfold nI oA;rw[h];exact⟨rfl,rfl⟩
def Zn0{v t x:Tm}(h:co g [⟨v,t⟩] x=none):oA g v t x:=by
 unfold oA;rw[h];rfl
def ZDD{v t:Tm}:∀{l:GP},mapA g [⟨v,t⟩] l=if iO g v t l=true then none else some (eY g v t l)
 |[]=>rfl
 | y::l=>by
  simp only[mapA];rw[ZDD (l:=l)];have e1:iO g v t (y::l)=(oA g v t y.to||iO g v t l):=rfl;have e2:eY g v t (y::l)=⟨y.var,nI g v t y.to⟩::eY g v t l:=rfl;rw[e1,e2]
  cases h:co g [⟨v,t⟩] y.to with
  |none=>rw[Zn0 h];rfl
  |some u =>
   obtain⟨h1,h2⟩:=ZnZ h;rw[h1,h2,Bool.false_or]
   cases iO g v t l<;>rfl
def ZDE {v t:Tm}:∀{l:GP},ba (qq g [⟨v,t⟩]) l=if iV g v t l=true then none else some (jP g v t l)
 |[]=>rfl
 | y::l=>by
  rw[ba,ZDE (l:=l)];have e1:iV g v t (y::l)=(oA g v t y.var||oA g v t y.to||iV g v t l):=rfl;have e2:jP g v t (y::l)=⟨nI g v t y.var,nI g v t y.to⟩::jP g v t l:=rfl;rw[e1,e2,qq]
  cases h:co g [⟨v,t⟩] y.var with
  |none=>rw[Zn0 h];rfl
  | some u =>
   obtain⟨h1,h2⟩:=ZnZ h
   cases h':co g [⟨v,t⟩] y.to with
   |none=>rw[Zn0 h',h2];rfl
   |some u' =>
    obtain⟨h3,h4⟩:=ZnZ h';rw[h1,h2,h3,h4,Bool.false_or,Bool.false_or]
    cases iV g v t l<;>rfl
def uc{st:USt}{v t:Tm}:dT g st v t=if j7 g st v t=true then none else some (dL g st v t):=by
 unfold dT j7 dL;rw[ZDD,ZDE]
 cases iO g v t st.b<;>cases iV g v t st.Γ<;>rfl
def ZDF{st u:USt}{v t:Tm}(h:dT g st v t=some u):j7 g st v t=false/\dL g st v t=u:=by
 rw[uc]at h
 cases hb:j7 g st v t with
 |true=>rw[hb,if_pos rfl]at h;cases h
 |false=>rw[hb,if_neg (by simp)]at h;injection h with h;exact⟨rfl,h⟩
def UTm.relU{s t:USt}(h:kH s t)(hU:UTm g s):UTm g t:=⟨λe he=>hU.b e (h.1.mem_iff.2 he),λe he=>hU.Γ e (by rw[h.2.1];exact he)⟩
def UP(g:Sgn)(L:AI)(t:USt):Prop:=∃s,kH s t/\UInv g L s
def UP.tm{L:AI}{t:USt}(h:UP g L t):UTm g t:=by
 obtain⟨s,h1,h2⟩:=h;exact h2.tm.relU h1
def UP.len{L:AI}{t:USt}(h:UP g L t):oB g L+t.b.length<=64/\t.Δ<=t.b.length:=by
 obtain⟨s,h1,h2⟩:=h;have:=h2.bg;have:=h2.fr;have:=h1.1.length_eq;have:=h1.2.2;omega
def ZiD(hg:SgnOk g){y:Bd}(hy:RenAt g y){t:USt}(hU:UTm g t):j7 g t y.var y.to=false/\UTm g (dL g t y.var y.to):=by
 have h1:=zz (g:=g) (s:=t) (t:=t) ⟨.refl _,rfl,rfl⟩ y.var y.to;rw[Zt2 hg hy hU]at h1
 cases h2:dT g t y.var y.to with
 |none=>rw[h2]at h1;exact h1.elim
 |some u =>
  rw[h2]at h1;obtain⟨h3,h4⟩:=ZDF h2;rw[h4];exact⟨h3,(UTm.rn hg hy hU).relU h1⟩
def nE(o:List (GP)):Prop:=o.length<=64/\∀x∈o,x.length<=8
def ZjL {aj:AI} (h8:aj.length<=8):∀(n:Nat){o:List (GP)}{s:Nat}{t:USt}{p:List (GP)×Nat},nE o->s<=3000->bK g aj n (o,s) t=some p->nE p.1/\s<=p.2/\p.2<=3000
 |0,_,_,_,_,_,_,h=>by cases h
 | n+1,o,s,⟨b,r,c⟩,p,hO,hs,h=>by
  unfold bK at h
  cases r with
  | nil =>
   simp only at h;obtain⟨q,h1,rfl⟩:=Tav.1 h;unfold wb at h1;split at h1
   ·injection h1 with h1;subst h1;exact⟨hO,Tai _,hs⟩
   ·obtain⟨rfl,h2⟩:=Zl1 h1;refine⟨⟨h2,λx hx=>?_⟩,Tai _,hs⟩;rcases Tbi.1 hx with hx|hx
    ·exact hO.2 x hx
    ·rw[Tbk.1 hx];exact Tbe (List.length_filterMap_le _ _) h8
  | cons e r =>
   simp only at h;split at h
   ·cases h
   obtain⟨l,h1,h2⟩:=Option.bind_eq_some_iff.1 h;have:=CG (I:=λq:List (GP)×Nat=>nE q.1/\s+1<=q.2/\q.2<=3000) h2 ⟨hO,Tai _,by simp only;omega⟩ λt' ht q q' hq hi=>by
    obtain⟨i1,i2,i3⟩:=hi;obtain⟨j1,j2,j3⟩:=ZjL h8 n i1 i3 hq;exact⟨j1,om,j3⟩
   exact⟨this.1,om,this.2.2⟩
end
def m130(h:G3:=by
 have q2:=lT xs.length bs.length;rw[if_neg (by intro e;have:=congrArg List.length e;simp at this;omega)];exact fD (aj4 @q1 @q2 @oY @ae)):G3:=h
def m124(h:G3:=by
 have F:=aj12 @r1 @r2 (eq_true om:((x:Int)<=out.length)=True) @n3 @n4 @n5 @pT @tkA @Zuq @Zur @re @ae;refine gG ?_;exact xi [4]):G3:=h
def oY:=aj4 fE eI rv dz
def ZDG(a b:Bd):aI e1 76 [.agg (dQ a),.agg (dQ b)] [GT (s6 a b)]:=by
 have pn:=Zox [aU a.var b.var,aU a.to b.to] (by simp);simp only[Tbv,List.map_nil]at pn;rw[show s6 a b=fP [aU a.var b.var,aU a.to b.to]from rfl];refine gI (ts:=[.slot 4]) 31 Tryz.func76 ?_;refine eH (ai @dz @ae) (ai @dz @ae) (Fo a.var b.var) ?_;refine fC (ai @dz @ae) (Fo a.to b.to) ?_;refine fC (ai @dz @ae) (pn) ?_;exact iF (ai @dz @ae) @ae
def Zrr{b:GP}{k:Nat}{xs:GP}(h:xs.length<=k):aN (xs.drop k) b=if b=[]then 0 else -1:=by
 rw[List.drop_eq_nil_of_le h]
 cases b<;>simp[aN]
def Zrs{a:Bd}{k:Nat}{xs bs:GP}(ha:xs[k]?=some a)(h:bs.length<=k):aN (xs.drop k) (bs.drop k)=1:=by
 obtain⟨hl,hx⟩:=Tad.1 ha;rw[List.drop_eq_nil_of_le h,List.drop_eq_getElem_cons hl];simp[aN]
def Zps(xs bs:GP)(hla:xs.length<=maxLen)(Gm:bs.length<=maxLen):aI e1 75 [.I (.sl (aK xs)),.I (.sl (aK bs)),.I (.fn 76 [])] [GT (aN xs bs)]:=by
 unfold maxLen at hla Gm;refine gI (ts:=[.slot 6]) 277027520455 Tryz.func75 ?_;refine fG (ai @oY @ae) ?_;have F:=ai @oY @ae;refine gL (ι:=Nat) [6,7,8,9,10,13,14,21,31] [] (λx=>[(13,GU (x:Int))]) (λx=>[]) (λx=>x<=xs.length/\x<=bs.length/\aN xs bs=aN (xs.drop x) (bs.drop x)) (λx=>xs.length-x) (0) (⟨Taj _,Taj _,rfl⟩) (λx hx=>?_);obtain⟨hi,hj,hf⟩:=hx
 rw[hf];clear hf;by_cases am:x<xs.length
 ·refine Ev λa ha q1=>?_;by_cases kT:x<bs.length
  ·obtain⟨b,hb⟩:∃n,bs[x]?=some n:=⟨_,Taa kT⟩;refine vl λq4=>?_;rw[Zq3 ha hb];simp only[fP];refine ce (aj6 @q1 (eq_false om:((x:Int)≥bs.length)=False) @oY @ae @ha @hb) (ai @oY @ae) (ZDG a b) (ai @oY @ae) ?_;by_cases h0:s6 a b=0
   ·rw[if_pos h0,show(if aN (xs.drop (x+1)) (bs.drop (x+1))=0 then(0:Int)else aN (xs.drop (x+1)) (bs.drop (x+1)))=aN (xs.drop (x+1)) (bs.drop (x+1)) by split<;>simp_all];refine fG (aj3 @oY @ae (eq_true h0:(s6 a b=0)=True)) ?_;have F:=@q4;exact Ep
   ·rw[if_neg h0];exact fD (aj3 @oY @ae (eq_false h0:(s6 a b=0)=False))
  ·rw[Zrs ha om];exact fD (aj5 @q1 (eq_true om:((x:Int)≥bs.length)=True) @oY @ae @ha)
 ·have q1:=lF x xs.length;rw[Zrr om];by_cases h2:xs.length<bs.length
  ·exact m130
  ·rw[if_pos (by apply List.drop_eq_nil_of_le;omega)];exact fD (aj4 @q1 (lF xs.length bs.length) @oY @ae)
def Zup(xs bs:GP):aI e1 75 [.I (.sl (aK xs)),.I (.sl (aK bs)),.I (.fn 76 [])] [GT (aN xs bs)]:=by
 refine Zs5 (φ:=xs.length<=maxLen/\bs.length<=maxLen) (by kernel_rfl) (λw S vs hv=>?_) λH6=>Zps xs bs H6.1 H6.2
 match vs,hv with
 |[x,y,z],hv =>
  have h1:=Zmn hv.1;have h2:=Zmn hv.2.1;rw[fE]at h1 h2;exact⟨h1,h2⟩
def Zpt(xs bs:GP):aI e1 35 [.I (.sl (aK xs)),.I (.sl (aK bs))] [GT (aN xs bs)]:=by
 refine gI (ts:=[.slot 4]) 19 Tryz.func35 ?_;refine eH (ai @oY @ae) (ai @oY @ae) (Zup xs bs) ?_;exact iF (ai @oY @ae) (ai @oY @ae)
def ZrP {xs bs:GP} (hx:uN xs) (hb:uN bs) (hlx:xs.length<=1000) (Gm:bs.length<=1000):aI e0 155 [.I (.sl (aK xs)),.I (.sl (aK bs))] [GT (aN xs bs)]:=by
 refine gI (ts:=[.slot 4]) 37172291259400307 Tryz.func155 ?_;refine fG (ai @oY @ae) ?_;have F:=ai @oY @ae;refine gL (ι:=Nat) [4,5,6,16,31,44] [] (λx=>[(5,GU (x:Int))]) (λx=>[]) (λx=>x<=xs.length/\x<=bs.length/\aN xs bs=aN (xs.drop x) (bs.drop x)) (λx=>xs.length-x) (0) (⟨Taj _,Taj _,rfl⟩) (λx hx=>?_);obtain⟨hi,hj,hf⟩:=hx;rw[hf];clear hf;by_cases am:x<xs.length
 ·refine Ev λa ha q1=>?_;by_cases kT:x<bs.length
  ·obtain⟨b,cu⟩:∃n,bs[x]?=some n:=⟨_,Taa kT⟩;refine vl λq4=>?_;have oa:=hx a (Tac ha);have ob:=hb b (Tac cu);have c2:=Cn oa.2 ob.2;have e:aN (xs.drop x) (bs.drop x)=if aU a.var b.var=0 then(if aU a.to b.to=0 then aN (xs.drop (x+1)) (bs.drop (x+1))else aU a.to b.to)else aU a.var b.var:=by
    rw[Zq3 ha cu];simp only[s6,Fy];split<;>simp_all
   rw[e];refine cg 4 (aj4 @q1 (lT x bs.length) @oY @ae) (aj4 @ha @cu @oY @ae) ((Cn oa.1 ob.1)) ?_;by_cases h0:aU a.var b.var=0
   ·have q3:(aU a.var b.var=0)=True:=eq_true h0;rw[if_pos h0];refine fR (ai @q3 @ae) ?_;refine cg 6 (ai @q3 @ae) (aj4 @ha @cu @oY @ae) (c2) ?_;by_cases h1:aU a.to b.to=0
    ·have q5:(aU a.to b.to=0)=True:=eq_true h1;rw[if_pos h1];refine fR (ai @q5 @ae) ?_;have F:=aj3 @q5 @q4 @ae;exact Ep
    ·have q5:(aU a.to b.to=0)=False:=eq_false h1;rw[if_neg h1];exact iF (ai @q5 @ae) (ai @q5 @ae)
   ·have q3:(aU a.var b.var=0)=False:=eq_false h0;rw[if_neg h0];exact iF (ai @q3 @ae) (ai @q3 @ae)
  ·rw[Zrs ha om];exact fD (aj7 @q1 (lF x bs.length) (lF xs.length bs.length) (lT bs.length xs.length) @oY @ae @ha)
 ·have q1:=lF x xs.length;rw[Zrr om];by_cases h2:xs.length<bs.length
  ·exact m130
  ·rw[if_pos (by apply List.drop_eq_nil_of_le;omega)];exact fD (aj5 @q1 (lF xs.length bs.length) (lF bs.length xs.length) @oY @ae)
def bD(l:List (GP)):sh:=l.map λb=>[.sl (aK b)]
def vL(l:List (GP)):(bD l).length=l.length:=by simp[bD]
def Zqa(l:List (GP))(i:Nat):(bD l)[i]?=l[i]?.map λb=>[.sl (aK b)]:=by simp[bD]
def ZkG(l:List (GP)):ZaD 1 (bD l):=uD (e:=λb:GP=>[C.sl (aK b)]) (n:=1) (λ_=>rfl) l
def ZjM(l m:List (GP)):bD (l++m)=bD l++bD m:=by simp[bD]
def Zuq(l:List (GP))(k:Nat):(bD l).take k=bD (l.take k):=by simp[bD]
def Zur(l:List (GP))(k:Nat):(bD l).drop k=bD (l.drop k):=by simp[bD]
def re:=aj3 vL Zqa ZkG
def ZDH{b x:GP}{l:List (GP)}{i:Nat}(hx:l[i]?=some x)(h:cb aN b l=l.take i++cb aN b (l.drop i))(hc:aN x b<0):cb aN b l=l.take (i+1)++cb aN b (l.drop (i+1)):=by
 refine vq λhl e=>?_;rw[h,List.drop_eq_getElem_cons hl,e,cb,if_pos hc];simp[List.take_add_one,hx]
def ZDI{b x:GP}{l:List (GP)}{i:Nat}(hx:l[i]?=some x)(h:cb aN b l=l.take i++cb aN b (l.drop i))(h0:aN x b=0):cb aN b l=l:=by
 refine vq λhl e=>?_;rw[h,List.drop_eq_getElem_cons hl,e,cb,if_neg om,if_pos h0,<- e,<- List.drop_eq_getElem_cons hl,Tbn]
def ZDJ{b x:GP}{l:List (GP)}{i:Nat}(hx:l[i]?=some x)(h:cb aN b l=l.take i++cb aN b (l.drop i))(hc:¬aN x b<0)(h0:¬aN x b=0):cb aN b l=l.take i++[b]++l.drop i:=by
 refine vq λhl e=>?_;rw[h,List.drop_eq_getElem_cons hl,e,cb,if_neg hc,if_neg h0];simp
def ZFp{b:GP}{l:List (GP)}{i:Nat}(hl:l.length<=i)(h:cb aN b l=l.take i++cb aN b (l.drop i)):cb aN b l=l.take i++[b]++l.drop i:=by
 rw[h,List.drop_eq_nil_of_le hl];simp[cb]
def Zus(b:GP):∀l:List (GP),(cb aN b l).length<=l.length+1
 |[]=>by simp[cb]
 |x::l=>by
  simp only[cb];have:=Zus b l;exact m191
def Zut{out:List (GP)}{b:GP}(ho:∀x∈out,uN x/\x.length<=1000)(hb:uN b)(qT:b.length<=1000)(hl:out.length<=8000000):aI e0 101 [.I (.sl (bD out)),.I (.sl (aK b))] [.I (.sl (bD (cb aN b out)))]:=by
 have tail:∀x:Nat,x<=out.length->cb aN b out=out.take x++[b]++out.drop x->((out.take x).length<=al)=True/\((out.take x).length+1<=al)=True/\((out.take x).length+1+(out.drop x).length<=al)=True/\bD (out.take x)++[[.sl (aK b)]]=bD (out.take x++[b])/\bD (out.take x++[b])++bD (out.drop x)=bD (cb aN b out):=λx _ h=>⟨eq_true (by rw[Taw];unfold al;omega),eq_true (by rw[Taw];unfold al;omega),eq_true (by rw[Taw,Tax];unfold al;omega),by rw[ZjM];rfl,by rw[h];exact(ZjM _ _).symm⟩
 refine gI (ts:=[.slot 4]) 17180393587 Tryz.func101 ?_;refine fG (ai @re @ae) ?_;have F:=ai @re @ae;refine gL (ι:=Nat) [5,19] [] (λx=>[(5,GU (x:Int))]) (λx=>[]) (λx=>x<=out.length/\cb aN b out=out.take x++cb aN b (out.drop x)) (λx=>out.length-x) (0) (⟨Taj _,rfl⟩) (λx hx=>?_);obtain⟨hi,hf⟩:=hx;have tkA:(bD out).take out.length=bD out:=by rw[<- vL out,Tap]
 have pT:((out.length:Int)<=out.length)=True:=eq_true (Int.le_refl _);by_cases am:x<out.length
 ·obtain⟨a,ha⟩:∃n,out[x]?=some n:=⟨_,Taa am⟩;have q1:=lT x out.length;refine vl λq4=>?_;obtain⟨oa,la⟩:=ho a (Tac ha);have uY:=ZrP oa hb la qT;refine eH (aj3 @q1 @re @ae) (aj4 @q1 @re @ae @ha) (uY) ?_;by_cases hc:aN a b<0
  ·have q2:(aN a b<0)=True:=eq_true hc;refine fR (aj3 @q1 @q2 @ae) ?_;have F:=ai @q4 @q2;refine gG ?_;exact⟨x+1,⟨am,(ZDH ha hf hc)⟩,gw,gw,om⟩
  ·have q2:(aN a b<0)=False:=eq_false hc;refine fR (aj3 @q1 @q2 @ae) ?_;refine eH (aj3 @q1 @q2 @ae) (aj4 @q1 @re @ae @ha) (uY) ?_;by_cases h0:aN a b=0
   ·have q3:(aN a b=0)=True:=eq_true h0;refine fR (aj3 @q1 @q3 @ae) ?_;rw[ZDI ha hf h0];exact fD (ai @q3 @ae)
   ·have q3:(aN a b=0)=False:=eq_false h0;refine fR (aj3 @q1 @q3 @ae) ?_;have uZ:=ZDJ ha hf hc h0;obtain⟨r1,r2,n3,n4,n5⟩:=tail x hi uZ;refine fN 6 (ai @q3 @ae) ?_;exact m124
 ·have q1:=lF x out.length;have uZ:=ZFp om hf;obtain⟨r1,r2,n3,n4,n5⟩:=tail x hi uZ;refine fN 6 (aj3 @q1 @re @ae) ?_;exact m124
def m135(b:G5)(h:Bx G5->G4:=by
 intro B0
 refine fG (aj3 @br @q0 @ao) ?_;have F:=ai @ho @ao;refine gL (ι:=Unit) [4,5,9,13,25,43,47,61,70,79] [] (λi=>[]) (λi=>[]) (λi=>True) (λi=>0) (()) (trivial) (λi hi=>?_);refine fG (aj3 @br @q0 @ao) ?_;exact B0.o F i hi):G4:=h ⟨b⟩
section
variable{g:Sgn}
def dc(g:Sgn)(bm b:Nat)(aj:AI)(x:Option (List (GP)×Nat))(r:AS)(pm:GQ):Prop:=∃(o:List (GP))(s:Nat)(a:BY)(cap:Nat)(f:Bool),r=[]/\pm=[.var (some b) (uC g bm aj s (.slice a o.length cap) f),.Υ (some (a,cap)) 61 1 (bD o)]/\(∀p,x=some p->p=(o,s)/\f=false)/\(x=none->f)
def qe(g:Sgn)(bm:Nat)(aj:AI)(n:Nat):Prop:=∀(b s:Nat)(o:List (GP))(a:BY)(cap:Nat){t:USt}{L:AI},UP g L t->3000<n+s->s<=3000->nE o->t.Γ.length+7*(3000-s)<=30000 ->
 aT (eM g bm) 33 [.I (.A (.pointer (some ⟨b,0,none⟩))),.agg (lz t)] [.var (some b) (uC g bm aj s (.slice a o.length cap) false),.Υ (some (a,cap)) 61 1 (bD o)] (dc g bm b aj (bK g aj n (o,s) t))
def Zl4(bm b:Nat)(aj:AI)(s:Nat)(oc:Value)(ho:bQ (.A oc))(t:USt):aT (eM g bm) 33 [.I (.A (.pointer (some ⟨b,0,none⟩))),.agg (lz t)] [.var (some b) (uC g bm aj s oc true)] (sQ g bm b aj s oc [] true):=by
 have xt:=v8 (g:=g) (b:=bm);obtain⟨B,r,n⟩:=t;simp only[lz];have br:=fE r;have z0:((0:Nat):Int)=0:=rfl;have hR:sQ g bm b aj s oc [] true [] [.var (some b) [.ptr (bx g (.A (.map (some bm)))),.sl (az aj),GS s,.A oc,GV (true)]]:=⟨rfl,rfl⟩;unfold uC;refine dX (ts:=[]) [1000] 19807646274373504973213278779 Tryz.func33 ?_
 cases r with
 |nil =>
  have q0:=lF 0 (0:Nat);refine m135 λF i hi=>?_;exact(have F:=ao;mM (R:=sQ _ _ _ _ _ _ _ _) [1000] hR)
 |cons e r =>
  have q0:((0:Int)<(((e::r).length:Nat):Int))=True:=eq_true (by rw[Tag];omega);generalize e::r=R at *;refine m135 λF i hi=>?_;exact GD
def ZDK{aj:AI}{n:Nat}{t:USt}{x y:Tm}{z:List (GP)×Nat}(h1:¬(dw g y.sort).testBit x.sort.toNat)(h2:¬(dw g x.sort).testBit y.sort.toNat):(wW g t x y).bind (bI (bK g aj n) z)=bI (λz i=>((dT g ⟨t.b,t.Γ,t.Δ+1⟩ x (wV (t.Δ+1) (i:Nat))).bind λs=>dT g s y (wV (t.Δ+1) i)).bind (bK g aj n z)) z (cj (dY g x.sort y.sort)):=by
 unfold wW;rw[if_neg h1,if_neg h2];exact Zl3
def ZDL(hg:SgnOk g)(hF:jb g){L:AI}{t:USt}(hU:UP g L t){x y:Tm}(hx:dp g x)(hy:dp g y)(lV:TermOk g x)(lW:TermOk g y)(mA:x∈L)(pq:y∈L)(aP:x≠y)(h1:¬(dw g y.sort).testBit x.sort.toNat)(h2:¬(dw g x.sort).testBit y.sort.toNat){i:Nat}(hi:i∈cj (dY g x.sort y.sort)) :
  RenAt g ⟨x,wV (t.Δ+1) i⟩/\j7 g ⟨t.b,t.Γ,t.Δ+1⟩ x (wV (t.Δ+1) i)=false/\UTm g (dL g ⟨t.b,t.Γ,t.Δ+1⟩ x (wV (t.Δ+1) i)) /\
  j7 g (dL g ⟨t.b,t.Γ,t.Δ+1⟩ x (wV (t.Δ+1) i)) y (wV (t.Δ+1) i)=false/\∃L',UP g L' (dL g (dL g ⟨t.b,t.Γ,t.Δ+1⟩ x (wV (t.Δ+1) i)) y (wV (t.Δ+1) i)):=by
 obtain⟨s,hR,hI⟩:=hU;have hT:UTm g t:=hI.tm.relU hR;have hall:∀i∈cj (dY g x.sort y.sort),RenAt g ⟨x,wV (t.Δ+1) i⟩/\RenAt g ⟨y,wV (t.Δ+1) i⟩:=λi hi=>by
  obtain⟨i1,i2,i3⟩:=Cx hg hi;have hl:=hI.liv;rw[hR.2.2]at hl;exact⟨(WayOk.I hg hl mA i1 i2 λe=>h2 (by rw[<- e];exact i3)).ren _ (Tbk.2 rfl),(WayOk.I hg hl pq i1 i3 λe=>h1 (by rw[<- e];exact i2)).ren _ (Tbk.2 rfl)⟩
 have yN:UTm g ⟨t.b,t.Γ,t.Δ+1⟩:=⟨hT.b,hT.Γ⟩;have key:∀i∈cj (dY g x.sort y.sort),((dT g ⟨t.b,t.Γ,t.Δ+1⟩ x (wV (t.Δ+1) (i:Nat))).bind λs=>dT g s y (wV (t.Δ+1) i))=some (dL g (dL g ⟨t.b,t.Γ,t.Δ+1⟩ x (wV (t.Δ+1) i)) y (wV (t.Δ+1) i)):=λi hi=>by
  obtain⟨r1,r2⟩:=hall i hi;obtain⟨a1,a2⟩:=ZiD hg r1 yN;obtain⟨a3,a4⟩:=ZiD hg r2 a2;rw[uc,if_neg (by simp only at a1;rw[a1];simp),Option.bind_some,uc,if_neg (by simp only at a3;rw[a3];simp)]
 obtain⟨r1,r2⟩:=hall i hi;obtain⟨a1,a2⟩:=ZiD hg r1 yN;obtain⟨a3,a4⟩:=ZiD hg r2 a2;refine⟨r1,a1,a2,a3,?_⟩;have hv:wW g t x y=some ((cj (dY g x.sort y.sort)).map λi:Nat=>dL g (dL g ⟨t.b,t.Γ,t.Δ+1⟩ x (wV (t.Δ+1) i)) y (wV (t.Δ+1) i)):=by
  unfold wW;rw[if_neg h1,if_neg h2];exact ZnR key
 have cv:=Zt9 (g:=g) hR x y;rw[hv]at cv
 cases hS:v7 g s x y with
 |none=>rw[hS]at cv;exact cv.elim
 |some l =>
  rw[hS]at cv;have cv:F2 kH l _:=cv;obtain⟨j,hj⟩:=Tbl hi;obtain⟨u,hu,hru⟩:=cv.at (i:=j) (by rw[Tba,hj];rfl);obtain⟨L',nJ⟩:=Zul hg hF hI hx hy lV lW mA pq aP hS u (Tac hu);exact⟨L',u,hru,nJ⟩
def Zuu(hg:SgnOk g)(hF:jb g){L:AI}{t:USt}(hU:UP g L t){x y:Tm}(hx:dp g x)(hy:dp g y)(lW:TermOk g y)(mA:x∈L)(pq:y∈L)(aP:x≠y)(hb:j7 g t x y=false):∃L',UP g L' (dL g t x y):=by
 obtain⟨s,hR,hI⟩:=hU;have h:=zz (g:=g) hR x y;rw[uc,if_neg (by rw[hb];simp)]at h
 cases hS:cJ g s x y with
 |none=>rw[hS]at h;exact h.elim
 |some u =>
  rw[hS]at h;exact⟨_,u,h,hI.bnd hg hF mA lW (Zhh hy pq) (ZhI hy aP) hS⟩
end
def m200(h:G3:=by
 simp only[Option.map_some,Option.bind_some,bI];cases bK g aj n (o,s) u<;>rfl):G3:=h
section
variable{g:Sgn}
def Zqb{L:AI}{t:USt}(h:UP g L t):t.b.length<=64/\t.Δ<=64:=by have:=h.len;omega
def CH(t:USt)(v u:Tm):(dL g t v u).Γ.length=t.Γ.length:=ZnW v u t.Γ
def Zqc (hg:SgnOk g) (hF:jb g) (bm:Nat) {aj:AI} (h8:aj.length<=8) {n:Nat} (hC:qe g bm aj n) (b s:Nat) (o:List (GP)) (a:BY) (cap:Nat) {t:USt} {L:AI} (hU:UP g L t) (hn:3000<n+s) (hs:s<=3000) (hO:nE o) (hr:t.Γ.length+7*(3000-s)<=30000) {x y:Tm} (hx:dp g x) (hy:dp g y) (lV:TermOk g x) (lW:TermOk g y) (mA:x∈L) (pq:y∈L) (aP:x≠y) :
  aT (eM g bm) 69 [.I (.A (.pointer (some ⟨b,0,none⟩))),.agg (lz t),.agg (ax x),.agg (ax y)] [.var (some b) (uC g bm aj s (.slice a o.length cap) false),.Υ (some (a,cap)) 61 1 (bD o)] (dc g bm b aj ((wW g t x y).bind (bI (bK g aj n) (o,s)))):=by
 have xt:=v8 (g:=g) (b:=bm);have Gq:=Zqb hU;have BC:=hU.tm;obtain⟨p,hp⟩:∃p:Nat,x.sort=p:=⟨x.sort.toNat,by have:=hx.2.2.1;omega⟩;obtain⟨q,hq⟩:∃q:Nat,y.sort=q:=⟨y.sort.toNat,by have:=hy.2.2.1;omega⟩;have kZ:=hg.V;have hN:=kZ.n8;have hpn:p<g.V.O.length:=by have:=hx.2.2.2.1;omega
 have DU:q<g.V.O.length:=by have:=hy.2.2.2.1;omega
 have Av:=yr kZ (k:=(p:Int)) om om;have huq:=yr kZ (k:=(q:Int)) om om;rw[Tbz]at Av huq;have FZ:=gN Av.1;have Ga:=gN huq.1;have qD:(nR (up g.V)).length=g.V.O.length:=by rw[gH,(rA (SortsOk.subsIn kZ.Ψ)).1]
 have Gu:=iS (l:=up g.V);unfold nR at FZ Ga qD Gu;have two:∀k:Nat,k<g.V.O.length->2 ^ k<4611686018427387904:=λk h=>Tbd (Nat.pow_lt_pow_right om (by omega:k<8)) (by decide);have f8:=wK (iU huq.2 hN) (two p hpn);have iG:=wK (iU Av.2 hN) (two q DU);have mV:=vY (k:=p) om;have po:=vY (k:=q) om;have gU:=Zmz (dw g q) p;have eK:=Zmz (dw g p) q;have cB:=λ(s:Nat)(o:List (GP))(a:BY)(cap:Nat)(f:Bool)(v u:Tm)(hv:dp g v)(hu:TermOk g u)(t:USt)(hT:UTm g t)(h1:t.b.length<=50000)(h2:t.Γ.length<=60000)=>Zrq hg hF bm b aj s (.slice a o.length cap) rfl f (st:=t) hT h1 h2 hv hu
 have cF:=λ(s:Nat)(o:List (GP))(a:BY)(cap:Nat)(t:USt)=>Zl4 (g:=g) bm b aj s (.slice a o.length cap) rfl t;have eT:lz t=[.sl (aK t.Γ),.sl (aK t.b),GS t.Δ]:=rfl;generalize hX:(wW g t x y).bind (bI (bK g aj n) (o,s))=X;unfold qe uC at *;unfold sQ uC at cF;by_cases c1:(dw g q).testBit p=true
 ·have q1:(((dw g q&&&2 ^ p:Nat):Int)=0)=False:=eq_false (λh=>by rw[gU.1 om]at c1;cases c1);have Ab:X=(dT g t x y).bind λu=>bK g aj n (o,s) u:=by
   rw[<- hX];unfold wW;rw[if_pos (by rw[hp,hq,Tbz];exact c1)]
   cases dT g t x y with
   |none=>rfl
   |some u =>
    exact m200
  have Da:=cB s o a cap false x y hx lW t BC om om;rw[Bool.false_or]at Da;rw[eT]at Da⊢;generalize 2 ^ p=P1 at *;refine dX (ts:=[]) [1000,1001] 40564820416229295570512498396911 Tryz.func69 ?_;refine fN 9 @ao ?_;refine gB ?_;refine fR (aj13 @hp @hq @FZ @Ga @qD @Gu @hpn @DU @f8 @mV @q1 @bw @ao) ?_;refine fN 10 @ao ?_;refine gB ?_;have F:=@ao;refine cQ [1000] [1000] (Da) ?_;clear F
  rintro _ _ ⟨rfl,rfl⟩;simp only[aD,aQ,aM,uC,Taf,Tah]
  cases hb:j7 g t x y with
  |true =>
   have hR:dc g bm b aj X [] [.var (some b) [.ptr (bx g (.A (.map (some bm)))),.sl (az aj),GS (s),.A (.slice a o.length cap),GV (true)],.Υ (some (a,cap)) 61 1 (bD o)]:=⟨o,s,a,cap,true,rfl,rfl,λp h=>(by rw[Ab,uc,hb,if_pos rfl]at h;cases h),λ_=>rfl⟩;have F:=@ao;refine cQ [1000] [1000] (cF s o a cap (dL g t x y)) ?_;clear F;rintro _ _ ⟨rfl,rfl⟩;simp only[aD,aQ,aM,uC,Taf,Tah]
   refine fR @ao ?_;exact(have F:=ao;mM (R:=dc _ _ _ _ _) [1000,1001] hR)
  |false =>
   obtain⟨L',nJ⟩:=Zuu hg hF hU hx hy lW mA pq aP hb;rw[uc,hb,if_neg (by simp),Option.bind_some]at Ab;have cR:=hC b s o a cap nJ hn hs hO (by rw[CH];exact hr);have F:=@ao;refine cQ [1000,1001] [1000,1001] (cR) ?_;clear F;rintro _ _ ⟨o',s',a',bF,f',rfl,rfl,h1,h2⟩;simp only[aD,aQ,aM,uC,Taf,Tah];have hR:dc g bm b aj X [] [.var (some b) [.ptr (bx g (.A (.map (some bm)))),.sl (az aj),GS (s'),.A (.slice a' o'.length bF),GV (f')],.Υ (some (a',bF)) 61 1 (bD o')]:=⟨o',s',a',bF,f',rfl,rfl,λp h=>h1 p (by rw[<- Ab];exact h),λh=>h2 (by rw[<- Ab];exact h)⟩
   refine fR @ao ?_;exact(have F:=ao;mM (R:=dc _ _ _ _ _) [1000,1001] hR)
 have q1:(((dw g q&&&2 ^ p:Nat):Int)=0)=True:=eq_true (by rw[gU.2 (by simpa using c1)];rfl);have c1':¬(dw g y.sort).testBit x.sort.toNat:=by rw[hp,hq,Tbz];exact c1
 by_cases c2:(dw g p).testBit q=true
 ·have q2:(((dw g p&&&2 ^ q:Nat):Int)=0)=False:=eq_false (λh=>by rw[eK.1 om]at c2;cases c2);have Ab:X=(dT g t y x).bind λu=>bK g aj n (o,s) u:=by
   rw[<- hX];unfold wW;rw[if_neg c1',if_pos (by rw[hp,hq,Tbz];exact c2)]
   cases dT g t y x with
   |none=>rfl
   |some u =>
    exact m200
  have Da:=cB s o a cap false y x hy lV t BC om om;rw[Bool.false_or]at Da;rw[eT]at Da⊢;generalize 2 ^ p=P1 at *;generalize 2 ^ q=P2 at *;refine dX (ts:=[]) [1000,1001] 40564820416229295570512498396911 Tryz.func69 ?_;refine fN 9 @ao ?_;refine gB ?_;refine fR (aj13 @hp @hq @FZ @Ga @qD @Gu @hpn @DU @f8 @mV @q1 @bw @ao) ?_;refine fN 11 @ao ?_;refine gB ?_;refine fR (aj13 @hp @hq @FZ @Ga @qD @Gu @hpn @DU @iG @po @q2 @bw @ao) ?_
  refine fN 12 @ao ?_;refine gB ?_;have F:=@ao;refine cQ [1000] [1000] (Da) ?_;clear F;rintro _ _ ⟨rfl,rfl⟩;simp only[aD,aQ,aM,uC,Taf,Tah]
  cases hb:j7 g t y x with
  |true =>
   have hR:dc g bm b aj X [] [.var (some b) [.ptr (bx g (.A (.map (some bm)))),.sl (az aj),GS (s),.A (.slice a o.length cap),GV (true)],.Υ (some (a,cap)) 61 1 (bD o)]:=⟨o,s,a,cap,true,rfl,rfl,λp h=>(by rw[Ab,uc,hb,if_pos rfl]at h;cases h),λ_=>rfl⟩;have F:=@ao;refine cQ [1000] [1000] (cF s o a cap (dL g t y x)) ?_;clear F;rintro _ _ ⟨rfl,rfl⟩;simp only[aD,aQ,aM,uC,Taf,Tah]
   refine fR @ao ?_;exact(have F:=ao;mM (R:=dc _ _ _ _ _) [1000,1001] hR)
  |false =>
   obtain⟨L',nJ⟩:=Zuu hg hF hU hy hx lV pq mA (Ne.symm aP) hb;rw[uc,hb,if_neg (by simp),Option.bind_some]at Ab;have cR:=hC b s o a cap nJ hn hs hO (by rw[CH];exact hr);have F:=@ao;refine cQ [1000,1001] [1000,1001] (cR) ?_;clear F;rintro _ _ ⟨o',s',a',bF,f',rfl,rfl,h1,h2⟩;simp only[aD,aQ,aM,uC,Taf,Tah];have hR:dc g bm b aj X [] [.var (some b) [.ptr (bx g (.A (.map (some bm)))),.sl (az aj),GS (s'),.A (.slice a' o'.length bF),GV (f')],.Υ (some (a',bF)) 61 1 (bD o')]:=⟨o',s',a',bF,f',rfl,rfl,λp h=>h1 p (by rw[<- Ab];exact h),λh=>h2 (by rw[<- Ab];exact h)⟩
   refine fR @ao ?_;exact(have F:=ao;mM (R:=dc _ _ _ _ _) [1000,1001] hR)
 have q2:(((dw g p&&&2 ^ q:Nat):Int)=0)=True:=eq_true (by rw[eK.2 (by simpa using c2)];rfl);have c2':¬(dw g x.sort).testBit y.sort.toNat:=by rw[hp,hq,Tbz];exact c2
 have Gj:=λi(hi:i∈cj (dY g x.sort y.sort))=>ZDL hg hF hU hx hy lV lW mA pq aP c1' c2' hi;rw[ZDK c1' c2']at hX;have ji:=Be kZ (k:=(p:Int)) om om;have rN:=Be kZ (k:=(q:Int)) om om;rw[Tbz]at ji rN;have uX:=wK (iU ji.2 hN) (iU rN.2 hN);have gda:=gN ji.1;have zU:=gN rN.1;have jX:(nR (down g.V)).length=g.V.O.length:=by rw[gH,(Zjy (SortsOk.subsIn kZ.Ψ)).1]
 have ev:=iS (l:=down g.V);have cE:=(Zng kZ (D:=fy g p&&&fy g q) (Tbf Nat.and_le_left ji.2) (nR (up g.V)) (nR (down g.V)) (nR (kinds g.V))).m (g:=g) (b:=bm);have ecm:db (fj g (fy g p&&&fy g q)) g.V.O.length=dY g p q:=rfl;rw[ecm]at cE;have iH:dY g p q<65536:=Tbd (sx _ _) (Tbe (Tbt om hN) (by decide));have cL:=(Zhu iH).m (g:=g) (b:=bm);have hl16:(cj (dY g p q)).length<=16:=A6 _ 16
 rw[hp,hq]at hX Gj;generalize cj (dY g p q)=LS at *;have lsl:=gH (l:=LS);have lsr:=iS (l:=LS);unfold nR at gda zU jX ev cE;generalize rZ:(λ(z:List (GP)×Nat)(i:Nat)=>((dT g ⟨t.b,t.Γ,t.Δ+1⟩ x (wV (t.Δ+1) (i:Nat))).bind λs=>dT g s y (wV (t.Δ+1) i)).bind (bK g aj n z))=step at hX;have hst1:∀(z:List (GP)×Nat)(i:Nat),i∈LS->step z i=bK g aj n z (dL g (dL g ⟨t.b,t.Γ,t.Δ+1⟩ x (wV (t.Δ+1) i)) y (wV (t.Δ+1) i)):=λz i hi=>by
  obtain⟨_,e1,_,e2,_⟩:=Gj i hi;rw[<- rZ];show((dT g ⟨t.b,t.Γ,t.Δ+1⟩ x (wV (t.Δ+1) (i:Nat))).bind λs=>dT g s y (wV (t.Δ+1) i)).bind (bK g aj n z)=_;rw[uc,if_neg (by rw[e1];simp),Option.bind_some,uc,if_neg (by rw[e2];simp),Option.bind_some]
 have aZ:0<=LS.length/\(false=false->bI step (o,s) (LS.take 0)=some (o,s))/\(false->X=none):=⟨Taj _,λ_=>rfl,λh=>(by cases h)⟩;rw[eT];generalize 2 ^ p=P1 at *;generalize 2 ^ q=P2 at *;refine dX (ts:=[]) [1000,1001] 40564820416229295570512498396911 Tryz.func69 ?_;refine fN 9 @ao ?_;refine gB ?_;refine fR (aj13 @hp @hq @FZ @Ga @qD @Gu @hpn @DU @f8 @mV @q1 @bw @ao) ?_;refine fN 11 @ao ?_
 refine gB ?_;refine fR (aj13 @hp @hq @FZ @Ga @qD @Gu @hpn @DU @iG @po @q2 @bw @ao) ?_;refine fN 1 @ao ?_;refine gB ?_;refine fC (aj11 @hp @hq @uX @gda @zU @jX @ev @hpn @DU @bw @ao) (cE) ?_;refine fC @ao (cL) ?_;refine fR (ai @lsl @ao) ?_;refine fG @ao ?_;have F:=@ao;refine gL (ι:=Nat×(List (GP)×Nat)×BY×Nat×Bool) [9,10,11,55,56] [1000,1001] (λw=>[(55,GU w.1)]) (λw=>[(1000,.var (some b) [.ptr (bx g (.A (.map (some bm)))),.sl (az aj),GS w.2.1.2,.A (.slice w.2.2.1 w.2.1.1.length w.2.2.2.1),GV w.2.2.2.2]),(1001,.Υ (some (w.2.2.1,w.2.2.2.1)) 61 1 (bD w.2.1.1))]) (λw=>w.1<=LS.length/\(w.2.2.2.2=false->bI step (o,s) (LS.take w.1)=some w.2.1)/\(w.2.2.2.2->X=none)) (λw=>LS.length-w.1) ((0,(o,s),a,cap,false)) (aZ) (λw hw=>?_);clear F
 obtain⟨j,⟨o1,s1⟩,a1,ea,f1⟩:=w;obtain⟨hj,kC,fI⟩:=hw;simp only at hj kC fI;dsimp only;by_cases am:j<LS.length;rotate_left
 ·obtain rfl:j=LS.length:=by omega
  have q3:=lF LS.length LS.length;rw[Tap,hX]at kC
  have hR:dc g bm b aj X [] [.var (some b) [.ptr (bx g (.A (.map (some bm)))),.sl (az aj),GS (s1),.A (.slice a1 o1.length ea),GV (f1)],.Υ (some (a1,ea)) 61 1 (bD o1)]:=⟨o1,s1,a1,ea,f1,rfl,rfl,λp h=>(by
   cases f1 with
   |true=>rw[fI rfl]at h;cases h
   |false=>rw[kC rfl]at h;injection h with h;exact⟨h.symm,rfl⟩),λh=>(by
   cases f1 with
   |true=>rfl
   |false=>rw[kC rfl]at h;cases h)⟩
  refine fG (ai @q3 @ao) ?_;exact(have F:=ao;mM (R:=dc _ _ _ _ _) [1000,1001] hR)
 have q3:=lT j LS.length;obtain⟨i,hi⟩:∃i,LS[j]?=some i:=⟨_,Taa am⟩;have him:=Tac hi;obtain⟨r1,e1,e3,e2,L',nJ⟩:=Gj i him;have hs1':=λz=>hst1 z i him;have gi:=gN hi;have wj:=bW (k:=j) om;have wc:=bW (k:=t.Δ) om;have cV:=(Zpp (n:=t.Δ+1) om om (i:Int)).m (g:=g) (b:=bm);have da:=zi (f:=step) (b:=(o,s)) hi;have qF:=r1.to'.term;simp only at qF;have c1:=cB s1 o1 a1 ea f1 x (wV (t.Δ+1) i) hx qF ⟨t.b,t.Γ,t.Δ+1⟩ ⟨BC.b,BC.Γ⟩ (by dsimp only;omega) (by dsimp only;omega)
 have c2:=cB s1 o1 a1 ea f1 y (wV (t.Δ+1) i) hy qF (dL g ⟨t.b,t.Γ,t.Δ+1⟩ x (wV (t.Δ+1) i)) e3 (by simp only[dL,Tae,ZiA,List.length_singleton];omega) (by rw[CH];dsimp only;omega);rw[e1,Bool.or_false]at c1;rw[e2,Bool.or_false]at c2;have c9:(dL g (dL g ⟨t.b,t.Γ,t.Δ+1⟩ x (wV (t.Δ+1) i)) y (wV (t.Δ+1) i)).Γ.length=t.Γ.length:=by rw[CH,CH]
 rw[show lz ⟨t.b,t.Γ,t.Δ+1⟩=[.sl (aK t.Γ),.sl (aK t.b),GS ((t.Δ+1:Nat):Int)]from rfl]at c1;generalize dL g ⟨t.b,t.Γ,t.Δ+1⟩ x (wV (t.Δ+1) i)=t1 at *;generalize dL g t1 y (wV (t.Δ+1) i)=t2 at *;generalize wV (t.Δ+1) (i:Int)=w at *;refine fN 6 (aj8 @q3 @gi @lsl @lsr @am @wc @bw @ao) ?_;refine gB ?_;refine fC (ai @wc @ao) (cV) ?_;refine fR @ao ?_
 refine fN 7 @ao ?_;refine rE ?_;have F:=ao;refine xh 11 [1000,1001] [0,1,2,3,4,5,7,8] [6,9,10] ?_;clear F;have F:=ao;refine uk ?_;clear F;have F:=ao;refine tq [1000] [1000] c1 ?_;clear F;rintro _ _ ⟨rfl,rfl⟩;simp only[aD,aQ,aM,uC,Taf,Tah];have F:=ao;refine tq [1000] [1000] c2 ?_;clear F;rintro _ _ ⟨rfl,rfl⟩;simp only[aD,aQ,aM,uC,Taf,Tah]
 cases f1 with
 |true =>
  have F:=ao;refine tq [1000] [1000] (cF s1 o1 a1 ea t2) ?_;clear F;rintro _ _ ⟨rfl,rfl⟩;simp only[aD,aQ,aM,uC,Taf,Tah];have F:=ao;refine tr ?_;clear F;refine fR @ao ?_;have F:=ai @wj @ao;refine gG ?_;exact⟨(j+1,(o1,s1),a1,ea,true),⟨am,λh=>(by cases h),fI⟩,gw,gw,om⟩
 | false =>
  rw[kC rfl,Option.bind_some,hs1']at da;obtain⟨j1,j2,j3⟩:=CG (I:=λq:List (GP)×Nat=>nE q.1/\s<=q.2/\q.2<=3000) (kC rfl) ⟨hO,Tai _,hs⟩ λi' dR z z' hz hI=>by
   obtain⟨i1,i2,i3⟩:=hI;rw[hst1 z i' (List.mem_of_mem_take dR)]at hz;obtain⟨j1,j2,j3⟩:=ZjL h8 n (o:=z.1) (s:=z.2) i1 i3 hz;exact⟨j1,om,j3⟩
  simp only at j1 j2 j3;have cR:=hC b s1 o1 a1 ea nJ om j3 j1 om;have F:=ao;refine tq [1000,1001] [1000,1001] cR ?_;clear F;rintro _ _ ⟨o',s',a',bF,f',rfl,rfl,h1,h2⟩;simp only[aD,aQ,aM,uC,Taf,Tah];have F:=ao;refine tr ?_;clear F;refine fR @ao ?_;have jk:j+1<=LS.length/\(f'=false->bI step (o,s) (LS.take (j+1))=some (o',s'))/\(f'->X=none):=by
   refine⟨am,λh=>?_,λh=>?_⟩
   ·cases hz:bK g aj n (o1,s1) t2 with
    |none=>rw[h2 hz]at h;cases h
    |some p=>rw[da,hz,(h1 p hz).1]
   ·cases hz:bK g aj n (o1,s1) t2 with
    |none=>rw[<- hX];exact yp (by rw[da,hz])
    |some p=>rw[(h1 p hz).2]at h;cases h
  have F:=ai @wj @ao;refine gG ?_;exact⟨(j+1,(o',s'),a',bF,f'),jk,gw,gw,om⟩
end
section
variable{g:Sgn}
def rB(ys:AI)(k:Nat):AI:=if k % 2=0 then ys else ys.reverse
def ZxX(ys:AI)(k:Nat):(rB ys k).length=ys.length:=by unfold rB;split<;>simp
def ZH8(ys:AI)(k:Nat):(rB ys k).reverse=rB ys (k+1):=by
 unfold rB;by_cases h:k % 2=0
 ·rw[if_pos h,if_neg om]
 ·rw[if_neg h,if_pos om,List.reverse_reverse]
def ug(xs ys:AI):GP:=(xs.zip ys).map λp=>⟨p.1,p.2⟩
def oW(t:USt)(xs ys:AI)(cm:Bool):List USt:=⟨t.b,ug xs ys++t.Γ,t.Δ⟩::if cm=true then[⟨t.b,ug xs ys.reverse++t.Γ,t.Δ⟩]else[]
def ZFq(t:USt)(xs ys:AI)(cm:Bool):(oW t xs ys cm).length=if cm=true then 2 else 1:=by unfold oW;cases cm<;>rfl
def ZFr(t:USt)(xs ys:AI)(cm:Bool){k:Nat}(h:k<(oW t xs ys cm).length):(oW t xs ys cm)[k]?=some ⟨t.b,ug xs (rB ys k)++t.Γ,t.Δ⟩:=by
 unfold oW at h⊢
 cases cm with
 |true =>
  match k,h with
  |0,_=>rfl
  |1,_=>rfl
  |k+2,h=>simp only[if_true,Tag,Tak]at h;omega
 |false =>
  match k,h with
  |0,_=>rfl
  |k+1,h=>simp only[Tam,if_false,Tag,Tak]at h;omega
def pv(xs ys:AI)(i:Nat):sh:=aK ((ug xs ys).take i)
def Zl5{xs ys:AI}(h:ys.length=xs.length):(ug xs ys).length=xs.length:=by
 unfold ug;rw[Tay,List.length_zip,h,Nat.min_self]
def ZIW{xs ys:AI}{i:Nat}{a b:Tm}(h:xs[i]?=some a)(h':ys[i]?=some b):pv xs ys i++[dQ ⟨a,b⟩]=pv xs ys (i+1):=by
 have e:(ug xs ys)[i]?=some ⟨a,b⟩:=by
  unfold ug;exact m218
 unfold pv;rw[List.take_add_one,e,sq];rfl
def Zuw{xs ys:AI}{i:Nat}(h:ys.length=xs.length)(hi:i<=xs.length):(pv xs ys i).length=i:=by
 unfold pv;rw[fE,Taw,Zl5 h,Nat.min_eq_left hi]
def ZFs{xs ys:AI}(h:ys.length=xs.length):pv xs ys xs.length=aK (ug xs ys):=by
 unfold pv;rw[<- Zl5 h,Tap]
def ZmK (bm:Nat) {aj:AI} (h8:aj.length<=8) {n:Nat} (hC:qe g bm aj n) (b s:Nat) (o:List (GP)) (a:BY) (cap:Nat) {t:USt} (hn:3000<n+s) (hs:s<=3000) (hO:nE o) (hr:t.Γ.length+7+7*(3000-s)<=30000) {x y:Tm} {op:Opr} (h0:0<=x.op) (bE:g.ops[x.op.toNat]?=some op) (hl7:x.Y.length<=7) (oH:y.Y.length=x.Y.length) (Gj:∀u∈oW t x.Y y.Y op.comm,∃L',UP g L' u) :
  aT (eM g bm) 71 [.I (.A (.pointer (some ⟨b,0,none⟩))),.agg (lz t),.agg (ax x),.agg (ax y)] [.var (some b) (uC g bm aj s (.slice a o.length cap) false),.Υ (some (a,cap)) 61 1 (bD o)] (dc g bm b aj (bI (bK g aj n) (o,s) (oW t x.Y y.Y op.comm))):=by
 have xt:=v8 (g:=g) (b:=bm);have cF:=λ(s:Nat)(o:List (GP))(a:BY)(cap:Nat)(t:USt)=>Zl4 (g:=g) bm b aj s (.slice a o.length cap) rfl t;have cC:=λ(ys:AI)(h:ys.length<=1048576)=>(Zy9 ys h).m (g:=g) (b:=bm);have cR:=λ(ys:AI)(h:ys.length<=1000000)a cap=>(Zuv ys h a cap).m (g:=g) (b:=bm);have di:x.op.toNat<g.ops.length:=(Tad.1 bE).1;have BJ:=λk=>ZFr t x.Y y.Y op.comm (k:=k)
 have hal2:=ZFq t x.Y y.Y op.comm;have u9:=fE t.Γ;have b8:=λl=>eI l;have eT:lz t=[.sl (aK t.Γ),.sl (aK t.b),GS t.Δ]:=rfl;generalize hA:oW t x.Y y.Y op.comm=AL at *;generalize hX:bI (bK g aj n) (o,s) AL=X;have tl:∃tn:Nat,tn=AL.length/\tn<=2:=⟨_,rfl,by rw[hal2];split<;>omega⟩;obtain⟨tn,htn,htn2⟩:=tl;have c0:=cC y.Y om;have aK0:y.Y=rB y.Y 0:=rfl
 have aZ:0<=AL.length/\(false=false->bI (bK g aj n) (o,s) (AL.take 0)=some (o,s))/\(false->X=none):=⟨Taj _,λ_=>rfl,λh=>(by cases h)⟩;unfold sQ at cF;unfold qe uC at *;rw[eT];refine dX (ts:=[]) [1000,1001] 4127195144175 Tryz.func71 ?_;refine fN 1 @ao ?_;refine gB ?_;have F:=@ao;refine cQ [] [1002] (c0) ?_;clear F;rintro _ _ ⟨a2,du,rfl,rfl⟩;simp only[aD,aQ,aM,Taf,Tah]
 refine fR @ao ?_;refine pD 1002 [8] [] ?_;refine fN 3 @ao ?_;refine gB ?_;refine fR (aj6 @h0 @bE @di @cz @bw @ao) ?_;refine gM (ι:=Nat) [9] [] (λv=>[(9,GU v)]) (λv=>[]) (λv=>v=tn) ?_ (λv hv=>Exists.intro _ (ai (Wk.refl _) ?_))
 ·rw[hal2]at htn
  cases hc:op.comm with
  |true =>
   rw[hc,if_pos rfl]at htn;have F:=ai @hc @ao;refine gG ?_;exact⟨2,htn.symm,gw,gw⟩
  |false =>
   rw[hc,if_neg (by simp)]at htn;have F:=ai @hc @ao;refine gG ?_;exact⟨1,htn.symm,gw,gw⟩
 subst hv;refine fG @ao ?_;have hwz:∀k:Nat,az (rB y.Y k)=az (rB y.Y k):=λ_=>rfl;rw[aK0];have F:=@ao;refine gL (ι:=Nat×(List (GP)×Nat)×BY×Nat×Bool) [8,10,11,12,30,31,38,39,40,41] [1000,1001] (λw=>[(30,GU w.1),(8,GY (.sl (az (rB y.Y w.1))))]) (λw=>[(1000,.var (some b) [.ptr (bx g (.A (.map (some bm)))),.sl (az aj),GS w.2.1.2,.A (.slice w.2.2.1 w.2.1.1.length w.2.2.2.1),GV w.2.2.2.2]),(1001,.Υ (some (w.2.2.1,w.2.2.2.1)) 61 1 (bD w.2.1.1))]) (λw=>w.1<=AL.length/\(w.2.2.2.2=false->bI (bK g aj n) (o,s) (AL.take w.1)=some w.2.1)/\(w.2.2.2.2->X=none)) (λw=>AL.length-w.1) ((0,(o,s),a,cap,false)) (aZ) (λw hw=>?_);clear F
 obtain⟨k,⟨o1,s1⟩,a1,ea,f1⟩:=w;obtain⟨hk,kC,fI⟩:=hw;simp only at hk kC fI;dsimp only;by_cases am:k<AL.length;rotate_left
 ·obtain rfl:k=AL.length:=by omega
  have q3:=lF AL.length v;rw[Tap,hX]at kC
  have hR:dc g bm b aj X [] [.var (some b) [.ptr (bx g (.A (.map (some bm)))),.sl (az aj),GS (s1),.A (.slice a1 o1.length ea),GV (f1)],.Υ (some (a1,ea)) 61 1 (bD o1)]:=⟨o1,s1,a1,ea,f1,rfl,rfl,λp h=>(by
   cases f1 with
   |true=>rw[fI rfl]at h;cases h
   |false=>rw[kC rfl]at h;injection h with h;exact⟨h.symm,rfl⟩),λh=>(by
   cases f1 with
   |true=>rfl
   |false=>rw[kC rfl]at h;cases h)⟩
  refine fG (ai @q3 @ao) ?_;exact(have F:=ao;mM (R:=dc _ _ _ _ _) [1000,1001] hR)
 have q3:=lT k v;have tC:=BJ k am;obtain⟨L',nJ⟩:=Gj _ (Tac tC);have da:=zi (f:=bK g aj n) (b:=(o,s)) tC;have wk:=bW (k:=k) om;have BQ:=ZH8 y.Y k;have hal3:=ZxX y.Y k;have hal4:=ZxX y.Y (k+1);have ek:lz ⟨t.b,ug x.Y (rB y.Y k)++t.Γ,t.Δ⟩=[.sl (aK (ug x.Y (rB y.Y k))++aK t.Γ),.sl (aK t.b),GS t.Δ]:=by rw[<- sq];rfl
 have cC1:=cC (rB y.Y k) om;have cR1:=λa c=>cR (rB y.Y k) om a c;rw[BQ]at cR1;have AA:(rB y.Y k).length=x.Y.length:=om;clear aK0 c0 BJ hwz;generalize rB y.Y k=ya at *;generalize hyb:rB y.Y (k+1)=yb at *;have zz0:pv x.Y ya 0=[]:=rfl;refine fN 7 (ai @q3 @ao) ?_;refine gB ?_;have F:=@ao;refine gP 4 ?_;clear F;refine(have F:=ao;gXm ?_);refine fR @ao ?_;refine pN 1003 76 8 ?_
 refine fG @ao ?_;have F:=ai @zz0 @ao;refine gL (ι:=Nat×BY×Nat) [11,12,40,41] [10,1003] (λv=>[(40,GU v.1)]) (λv=>[(10,.var none [.A (.slice v.2.1 v.1 v.2.2),.sl (aK t.b),GS t.Δ]),(1003,.Υ (some (v.2.1,v.2.2)) 76 8 (pv x.Y ya v.1))]) (λv=>v.1<=x.Y.length) (λv=>x.Y.length-v.1) ((0,none,0)) (Taj _) (λv hv=>?_);clear F
 obtain⟨i,a3,fZ⟩:=v;simp only at hv;have hi:=hv;dsimp only;have zl:=Zuw AA hi;have zb:ZaD 8 (pv x.Y ya i):=eI _;by_cases kT:i<x.Y.length
 ·have q4:=lT i x.Y.length;obtain⟨e1,he1⟩:∃e,x.Y[i]?=some e:=⟨_,Taa kT⟩;have hlt3:i<ya.length:=om;obtain⟨e2,he2⟩:∃e,ya[i]?=some e:=⟨_,Taa hlt3⟩;have zs:=ZIW he1 he2;have h8':=sC e1 e2;have wi:=bW (k:=i) om;have c8:i+1<=al:=by unfold al;omega
  have zl2:=Zuw AA (i:=i+1) kT;refine fN 11 (aj5 @q4 @he1 @kT @bw @ao) ?_;refine gB ?_;have F:=aj10 @he2 @hlt3 @h8' @zl @zb @c8 @zs @bw @dz @ao;refine gP 10 ?_;clear F;refine gS 54 λa4 uQ=>?_;refine fR (aj4 @zl @zl2 @dz @ao) ?_;refine pE [54] [1003] (CL _) ?_;have F:=aj3 @wi @zl2 @ao;refine gG ?_;exact⟨(i+1,a4,uQ),kT,gw,gw,om⟩
 obtain rfl:i=x.Y.length:=by omega
 have q4:=lF x.Y.length x.Y.length;rw[ZFs AA]at zl zb⊢;have c8:x.Y.length+t.Γ.length<=al:=by unfold al;omega
 refine fN 13 (ai @q4 @ao) ?_;refine gB ?_;have F:=aj6 @zl @zb @u9 @b8 @c8 @ao;refine gP 5 ?_;clear F;refine gS 61 λa4 uQ=>?_;refine fR (aj3 @zl @u9 @ao) ?_;refine vA 61 10 0 ?_ (hc:=by rw[Tae,zl,u9];rfl);simp only[List.set_cons_zero];have hrk:(⟨t.b,ug x.Y ya++t.Γ,t.Δ⟩:USt).Γ.length=x.Y.length+t.Γ.length:=by simp only[Tae,Zl5 AA]
 have cFk:=λ(s:Nat)(o:List (GP))(a:BY)(cap:Nat)=>cF s o a cap ⟨t.b,ug x.Y ya++t.Γ,t.Δ⟩;have cRk:=λ(b s:Nat)(o:List (GP))(a:BY)(cap:Nat)=>hC b s o a cap nJ;rw[ek]at cFk cRk;rw[hrk]at cRk;clear hC cF cC cR Gj;generalize (⟨t.b,ug x.Y ya++t.Γ,t.Δ⟩:USt)=tk at *;refine fN 14 @ao ?_;refine gM (ι:=(List (GP)×Nat)×BY×Nat×Bool) [] [1000,1001] (λz=>[]) (λz=>[(1000,.var (some b) [.ptr (bx g (.A (.map (some bm)))),.sl (az aj),GS z.1.2,.A (.slice z.2.1 z.1.1.length z.2.2.1),GV z.2.2.2]),(1001,.Υ (some (z.2.1,z.2.2.1)) 61 1 (bD z.1.1))]) (λz=>(z.2.2.2=false->bI (bK g aj n) (o,s) (AL.take (k+1))=some z.1)/\(z.2.2.2->X=none)) ?_ (λz hz=>Exists.intro _ (ai (Wk.refl _) ?_))
 ·refine gB ?_
  cases f1 with
  |true =>
   have F:=@ao;refine cQ [1000] [1000] (cFk s1 o1 a1 ea) ?_;clear F;rintro _ _ ⟨rfl,rfl⟩;simp only[aD,aQ,aM,uC,Taf,Tah];refine fR @ao ?_;exact⟨((o1,s1),a1,ea,true),⟨λh=>(by cases h),fI⟩,(have F:=ao;gw),(have F:=ao;gw)⟩
  | false =>
   rw[kC rfl,Option.bind_some]at da;obtain⟨j1,j2,j3⟩:=CG (I:=λq:List (GP)×Nat=>nE q.1/\s<=q.2/\q.2<=3000) (kC rfl) ⟨hO,Tai _,hs⟩ λi' dR z z' hz hI=>by
    obtain⟨i1,i2,i3⟩:=hI;obtain⟨j1,j2,j3⟩:=ZjL h8 n (o:=z.1) (s:=z.2) i1 i3 hz;exact⟨j1,om,j3⟩
   simp only at j1 j2 j3;have cR:=cRk b s1 o1 a1 ea om j3 j1 om;have F:=@ao;refine cQ [1000,1001] [1000,1001] (cR) ?_;clear F;rintro _ _ ⟨o',s',a',bF,f',rfl,rfl,h1,h2⟩;simp only[aD,aQ,aM,uC,Taf,Tah];refine fR @ao ?_;refine⟨((o',s'),a',bF,f'),⟨λh=>?_,λh=>?_⟩,(have F:=ao;gw),(have F:=ao;gw)⟩
   ·cases hz:bK g aj n (o1,s1) tk with
    |none=>rw[h2 hz]at h;cases h
    |some p=>rw[da,hz,(h1 p hz).1]
   ·cases hz:bK g aj n (o1,s1) tk with
    |none=>rw[<- hX];exact yp (by rw[da,hz])
    |some p=>rw[(h1 p hz).2]at h;cases h
 obtain⟨⟨o2,s2⟩,a6,cap6,f6⟩:=z;simp only at hz;dsimp only;refine fN 15 @ao ?_;refine gB ?_;have F:=@ao;refine cQ [] [1004] (cC1) ?_;clear F;rintro _ _ ⟨a5,tf,rfl,rfl⟩;simp only[aD,aQ,aM,Taf,Tah];refine fR @ao ?_;refine fN 16 @ao ?_;refine gB ?_;have F:=@ao;refine cQ [1004] [1004] (cR1 a5 tf) ?_;clear F;rintro _ _ ⟨rfl,rfl⟩;simp only[aD,aQ,aM,Taf,Tah];refine fR @ao ?_;refine pD 1004 [8] [] ?_
 have mO:ya.length=yb.length:=om;have F:=aj4 @wk @mO @hyb @ao;refine gG ?_;exact⟨(k+1,(o2,s2),a6,cap6,f6),⟨am,hz⟩,gw,gw,om⟩
end
section
variable{g:Sgn}
noncomputable def qJ(g:Sgn)(t:USt)(v u:Tm)(ms:GP):Option USt:=(zF g ms t).bind λs=>(co g (e8 g ms) u).bind λx=>dT g ⟨s.b,s.Γ,t.Δ+ms.length⟩ v x
def ZxY{t:USt}{v u:Tm}(h:bR v u\/dS g v≠dS g u):pt g t v u=some []:=by unfold pt;rw[if_pos h]
def ZFt{t:USt}{v u:Tm}(h:¬(bR v u\/dS g v≠dS g u)){aj:AI}{n:Nat}{z:List (GP)×Nat}:(pt g t v u).bind (bI (bK g aj n) z)=(df g t.Δ (ah u+1) u v.sort []).bind λws=>bI (λz ms=>(qJ g t v u ms).bind (bK g aj n z)) z ws:=by
 unfold pt;rw[if_neg h]
 cases df g t.Δ (ah u+1) u v.sort []with
 |none=>rfl
 |some ws =>
  simp only[Option.bind_some];exact Zl3
def ZFu(hg:SgnOk g){t c:USt}{ms:GP}(hR:qk g ms){j:Nat}{y:Bd}(hy:ms[j]?=some y)(hc:zF g (ms.take j) t=some c)(hU:UTm g c):j7 g c y.var y.to=false/\zF g (ms.take (j+1)) t=some (dL g c y.var y.to)/\UTm g (dL g c y.var y.to):=by
 obtain⟨h1,h2⟩:=ZiD hg (hR y (Tac hy)) hU;refine⟨h1,?_,h2⟩;have hc:bI (λs y=>dT g s y.var y.to) t (ms.take j)=some c:=hc;show bI (λs y=>dT g s y.var y.to) t (ms.take (j+1))=_;rw[zi hy,hc,Option.bind_some,uc,if_neg (by rw[h1];simp)]
def ZIX(t:USt)(v u:Tm):(dL g t v u).b.length=t.b.length+1:=by simp[dL,ZiA]
def ZIY(hg:SgnOk g)(hF:jb g){L:AI}{t:USt}(hU:UP g L t){v u:Tm}(hV:dp g v)(hv:v∈L)(hu:TermOk g u)(hL:Live L u)(ho:bR v u=false){ws:List (GP)}(h:df g t.Δ (ah u+1) u v.sort []=some ws){ms:GP}(hm:ms∈ws){c:USt}(hc:zF g ms t=some c)(hb:j7 g ⟨c.b,c.Γ,t.Δ+ms.length⟩ v (dF g ms u)=false):∃L',UP g L' (dL g ⟨c.b,c.Γ,t.Δ+ms.length⟩ v (dF g ms u)):=by
 obtain⟨s,hR,hI⟩:=hU;refine m207 λhk hD=>?_;have hw:=ZmC hg s.Δ (ah u+1) u v.sort [] L (Tan _) hu hL hD hk;rw[hR.2.2,h]at hw;have hw:some ws=(nf g (ah u+1) u v.sort t.Δ).map (List.map λm=>m):=hw;have hG:nf g (ah u+1) u v.sort s.Δ=some ws:=by
  rw[hR.2.2]
  cases hz:nf g (ah u+1) u v.sort t.Δ with
  |none=>rw[hz]at hw;cases hw
  |some l=>rw[hz]at hw;injection hw with hw;rw[hw];simp
 have pZ:=yv hg _ u v.sort s.Δ L ws (Tan _) hu hL hI.liv hk hG ms hm;obtain⟨c',h1,h2,h3⟩:=ZnV hg pZ.ren hI.tm hR.1 hR.2.1;rw[hc]at h1;injection h1 with h1
 subst h1;have hr:=zz (g:=g) (s:=stM g ms s) (t:=⟨c.b,c.Γ,t.Δ+ms.length⟩) ⟨h2,h3,by rw[A9,hR.2.2]⟩ v (dF g ms u);rw[uc,if_neg (by rw[hb];simp)]at hr
 cases hS:cJ g (stM g ms s) v (dF g ms u)with
 |none=>rw[hS]at hr;exact hr.elim
 |some s' =>
  rw[hS]at hr;obtain⟨L',nJ⟩:=ZxR hg hF hI hV hv hu hL ho hG hm hS;exact⟨L',s',hr,nJ⟩
def ZkX (hg:SgnOk g) (hF:jb g) (bm:Nat) {aj:AI} (h8:aj.length<=8) {n:Nat} (hC:qe g bm aj n) (b s:Nat) (o:List (GP)) (a:BY) (cap:Nat) {t:USt} {L:AI} (hU:UP g L t) (hn:3000<n+s) (hs:s<=3000) (hO:nE o) (hr:t.Γ.length+7*(3000-s)<=30000) {v u:Tm} (hV:dp g v) (wv:TermOk g v) (hv:v∈L) (hu:TermOk g u) (hL:Live L u) :
  aT (eM g bm) 70 [.I (.A (.pointer (some ⟨b,0,none⟩))),.agg (lz t),.agg (ax v),.agg (ax u)] [.var (some b) (uC g bm aj s (.slice a o.length cap) false),.Υ (some (a,cap)) 61 1 (bD o)] (dc g bm b aj ((pt g t v u).bind (bI (bK g aj n) (o,s)))):=by
 have xt:=v8 (g:=g) (b:=bm);have Gq:=Zqb hU;have BC:=hU.tm;have yi:type_of% (aj3 (@FA g) (@FL g) (@FM g)):=aj3 (@FA g) (@FL g) (@FM g);have cB:=λ(s:Nat)(o:List (GP))(a:BY)(cap:Nat)(f:Bool)(v u:Tm)(hv:dp g v)(hu:TermOk g u)(t:USt)(hT:UTm g t)(h1:t.b.length<=50000)(h2:t.Γ.length<=60000)=>Zrq hg hF bm b aj s (.slice a o.length cap) rfl f (st:=t) hT h1 h2 hv hu
 have cF:=λ(s:Nat)(o:List (GP))(a:BY)(cap:Nat)(t:USt)=>Zl4 (g:=g) bm b aj s (.slice a o.length cap) rfl t;have cO:=(ZvE (x:=v) _ (Tan _) (by have:=hu.size;omega):aI e0 _ [.agg (ax v),.agg (ax u)] _).m (g:=g) (b:=bm);have cKv:=(Zhv (mc:=.A (.map (some bm))) hg wv.Η.node).m (g:=g) (b:=bm);have cKu:=(Zhv (mc:=.A (.map (some bm))) hg hu.Η.node).m (g:=g) (b:=bm);have eT:lz t=[.sl (aK t.Γ),.sl (aK t.b),GS t.Δ]:=rfl
 generalize hX:(pt g t v u).bind (bI (bK g aj n) (o,s))=X;have hD:DeadM g t.Δ [] L:=by
  obtain⟨s,hR,hI⟩:=hU;have:=hI.liv;rw[hR.2.2]at this;exact⟨λy hy=>by(cases hy),λy hy=>by(cases hy),λy hy=>by(cases hy),this⟩
 have cW:=ZJp hg hF bm (ah u+1) b aj s (.slice a o.length cap) rfl false (t:=u) (k:=v.sort) (M:=[]) (L:=L) (c0:=t.Δ) (Tan _) hu hL hD ⟨hV.2.2.1,hV.2.2.2.1⟩;rw[show jK g t.Δ []=[.sl [],.sl [],GS (t.Δ:Nat)]from rfl,show EP false (df g t.Δ (ah u+1) u v.sort [])=df g t.Δ (ah u+1) u v.sort []from rfl]at cW;unfold sQ at cF;unfold qe uC at *;have hRx:∀X,X=some (o,s)->dc g bm b aj X [] [.var (some b) [.ptr (bx g (.A (.map (some bm)))),.sl (az aj),GS (s),.A (.slice a o.length cap),GV (false)],.Υ (some (a,cap)) 61 1 (bD o)]:=λX h=>⟨o,s,a,cap,false,rfl,rfl,λp hp=>(by rw[h]at hp;injection hp with hp;exact⟨hp.symm,rfl⟩),λhp=>(by rw[h]at hp;cases hp)⟩
 rw[eT];refine dX (ts:=[]) [1000,1001] 9671406561155655017723631 Tryz.func70 ?_;refine fN 1 @ao ?_;refine gB ?_;refine fC @ao (cO) ?_
 cases hoc:bR v u with
 |true =>
  have hR:=hRx X (by rw[<- hX,ZxY (.inl hoc)];rfl);refine fR @ao ?_;refine fG @ao ?_;exact(have F:=ao;ee (R:=dc _ _ _ _ _) [1000,1001] hR)
 |false =>
 refine fC @ao (cKv) ?_;refine fC @ao (cKu) ?_;by_cases cl:dS g v=dS g u;rotate_left
 ·have hR:=hRx X (by rw[<- hX,ZxY (.inr cl)];rfl);have q1:(dS g v=dS g u)=False:=eq_false cl;refine fR (ai @q1 @ao) ?_;refine fG (ai @q1 @ao) ?_;exact(have F:=ao;ee (R:=dc _ _ _ _ _) [1000,1001] hR)
 have q1:(dS g v=dS g u)=True:=eq_true cl;rw[ZFt (by rw[hoc];simpa using cl)]at hX;have Av:=λws(h:df g t.Δ (ah u+1) u v.sort []=some ws)ms(hm:ms∈ws)c(hc:zF g ms t=some c)=>ZIY hg hF hU hV hv hu hL hoc h hm hc;refine fR (ai @q1 @ao) ?_;clear cO cKv cKu hRx;refine fN 2 (ai @q1 @ao) ?_;refine gB ?_;have F:=@ao;refine cQ [1000] [1000] (cW) ?_;clear F;rintro _ _ ⟨l,f0,rfl,rfl,gv,qA,Ah,rS⟩
 simp only[aD,aQ,aM,uC,Taf,Tah];have ll:=Bh (g:=g) t.Δ l;have lB:=Bq (g:=g) t.Δ l;refine fR (ai @ll @ao) ?_;clear cW;generalize hW:df g t.Δ (ah u+1) u v.sort []=W at *;have aZ:0<=l.length/\(f0=false->W=some l/\bI (λz ms=>(qJ g t v u ms).bind (bK g aj n z)) (o,s) (l.take 0)=some (o,s))/\(f0->X=none):=by
  refine⟨Taj _,λh=>?_,λh=>?_⟩
  ·cases hw:W with
   |none=>rw[qA hw]at h;cases h
   |some m=>rw[(gv m hw).1];exact⟨rfl,rfl⟩
  ·cases hw:W with
   |none=>rw[<- hX,hw];rfl
   |some m=>rw[(gv m hw).2]at h;cases h
 refine fG @ao ?_;have F:=@ao;refine gL (ι:=Nat×(List (GP)×Nat)×BY×Nat×Bool) [9,10,12,13,14,42,43,48,49,50,51,83] [1000,1001] (λw=>[(42,GU w.1)]) (λw=>[(1000,.var (some b) [.ptr (bx g (.A (.map (some bm)))),.sl (az aj),GS w.2.1.2,.A (.slice w.2.2.1 w.2.1.1.length w.2.2.2.1),GV w.2.2.2.2]),(1001,.Υ (some (w.2.2.1,w.2.2.2.1)) 61 1 (bD w.2.1.1))]) (λw=>w.1<=l.length/\(w.2.2.2.2=false->W=some l/\bI (λz ms=>(qJ g t v u ms).bind (bK g aj n z)) (o,s) (l.take w.1)=some w.2.1)/\(w.2.2.2.2->X=none)) (λw=>l.length-w.1) ((0,(o,s),a,cap,f0)) (aZ) (λw hw=>?_);clear F
 obtain⟨i,⟨o1,s1⟩,a1,ea,f1⟩:=w;obtain⟨hi,kC,fI⟩:=hw;simp only at hi kC fI;dsimp only;by_cases am:i<l.length;rotate_left
 ·obtain rfl:i=l.length:=by omega
  have q3:=lF l.length l.length;rw[Tap]at kC;have Dw:f1=false->X=some (o1,s1):=λh=>by
   obtain⟨h1,h2⟩:=kC h;rw[<- hX,h1];exact h2
  have hR:dc g bm b aj X [] [.var (some b) [.ptr (bx g (.A (.map (some bm)))),.sl (az aj),GS (s1),.A (.slice a1 o1.length ea),GV (f1)],.Υ (some (a1,ea)) 61 1 (bD o1)]:=⟨o1,s1,a1,ea,f1,rfl,rfl,λp h=>(by
   cases f1 with
   |true=>rw[fI rfl]at h;cases h
   |false=>rw[Dw rfl]at h;injection h with h;exact⟨h.symm,rfl⟩),λh=>(by
   cases f1 with
   |true=>rfl
   |false=>rw[Dw rfl]at h;cases h)⟩
  refine fG (ai @q3 @ao) ?_;exact(have F:=ao;mM (R:=dc _ _ _ _ _) [1000,1001] hR)
 have q3:=lT i l.length;obtain⟨ms,oE⟩:∃e,l[i]?=some e:=⟨_,Taa am⟩;have An:=Tac oE;obtain⟨vc,pU⟩:=rS ms An;have gi:(l.map (jK g t.Δ))[i]?=some [.sl (aK ms),.sl (aK (e8 g ms)),GS ((t.Δ+ms.length:Nat):Int)]:=by rw[Tba,oE];rfl
 have wi:=bW (k:=i) om;have da:=zi (f:=λz ms=>(qJ g t v u ms).bind (bK g aj n z)) (b:=(o,s)) oE;have ml:=fE ms;have mg:=rv ms;have b8:=λl=>eI l;refine fN 4 (ai @q3 @ao) ?_;refine gB ?_;refine fR (aj6 @ll @lB @gi @am @bw @ao) ?_;refine fN 5 @ao ?_;refine gB ?_;refine fR @ao ?_;refine fN 6 @ao ?_;refine gB ?_;refine fR (ai @ml @ao) ?_;refine fG @ao ?_;have F:=@ao;refine gL (ι:=Nat×USt) [12,50,51] [10] (λq=>[(50,GU q.1)]) (λq=>[(10,.var none [.sl (aK q.2.Γ),.sl (aK q.2.b),GS q.2.Δ])]) (λq=>q.1<=ms.length/\zF g (ms.take q.1) t=some q.2/\UTm g q.2/\q.2.Γ.length=t.Γ.length/\q.2.b.length=t.b.length+q.1) (λq=>ms.length-q.1) ((0,t)) (⟨Taj _,rfl,BC,rfl,rfl⟩) (λq hq=>?_);clear F
 obtain⟨j,c⟩:=q;obtain⟨hj,hc,hcU,hcr,hcb⟩:=hq;simp only at hj hc hcU hcr hcb;dsimp only;by_cases pj:j<ms.length
 ·have q4:=lT j ms.length;obtain⟨y,hy⟩:∃e,ms[j]?=some e:=⟨_,Taa pj⟩;obtain⟨k1,k2,k3⟩:=ZFu hg vc hy hc hcU;have hyR:=vc y (Tac hy);have c1:=cB s1 o1 a1 ea f1 y.var y.to hyR.var hyR.to'.term c hcU om om;rw[k1,Bool.or_false]at c1;have k4:=CH (g:=g) c y.var y.to;have k5:=ZIX (g:=g) c y.var y.to;rw[show lz c=[.sl (aK c.Γ),.sl (aK c.b),GS c.Δ]from rfl]at c1;generalize yO:dL g c y.var y.to=c2 at *
  rw[show lz c2=[.sl (aK c2.Γ),.sl (aK c2.b),GS c2.Δ]from rfl]at c1;have wj:=bW (k:=j) om;have hok3:j+1<=ms.length/\zF g (ms.take (j+1)) t=some c2/\UTm g c2/\c2.Γ.length=t.Γ.length/\c2.b.length=t.b.length+(j+1):=⟨pj,k2,k3,om,om⟩;refine fN 8 (ai @q4 @ao) ?_;refine gB ?_;refine fR (aj8 @ml @mg @b8 @hy @pj @bw @dz @ao) ?_;refine fN 9 @ao ?_;refine gB ?_;have F:=ai @dz @ao;refine cQ [1000] [1000] (c1) ?_;clear F
  rintro _ _ ⟨rfl,rfl⟩;simp only[aD,aQ,aM,uC,Taf,Tah];refine fR @ao ?_;have F:=ai @wj @ao;refine gG ?_;exact⟨(j+1,c2),hok3,gw,gw,om⟩
 obtain rfl:j=ms.length:=by omega
 have q4:=lF ms.length ms.length;rw[Tap]at hc;have cA:=(Zko (mc:=.A (.map (some bm))) hg hF (ZxW hg vc om) _ (Tan _) hu).m (g:=g) (b:=bm);rw[(CM hg ms vc).2 u hu]at cA;have hwN:qJ g t v u ms=dT g ⟨c.b,c.Γ,t.Δ+ms.length⟩ v (dF g ms u):=by
  unfold qJ;rw[hc,Option.bind_some,(CM hg ms vc).2 u hu,Option.bind_some]
 have lV:=(vU hg vc hu).1;have hupk:=λh=>Av l h ms An c hc;have z1:(some (dF g ms u)).isSome:=rfl;have z2:(some (dF g ms u)).getD jS=dF g ms u:=rfl;generalize hxx:dF g ms u=x at *;have c2:=cB s1 o1 a1 ea f1 v x hV lV ⟨c.b,c.Γ,t.Δ+ms.length⟩ ⟨hcU.b,hcU.Γ⟩ (by dsimp only;omega) (by dsimp only;omega);rw[show lz ⟨c.b,c.Γ,t.Δ+ms.length⟩=[.sl (aK c.Γ),.sl (aK c.b),GS ((t.Δ+ms.length:Nat):Int)]from rfl]at c2
 refine fN 11 (ai @q4 @ao) ?_;refine gB ?_;refine fR @ao ?_;refine fN 12 @ao ?_;refine Dh 11 10 12 ?_;refine fC @ao (cA) ?_;refine fR (aj3 @z1 @z2 @ao) ?_;clear cA
 cases f1 with
 |true =>
  have hR:dc g bm b aj X [] [.var (some b) [.ptr (bx g (.A (.map (some bm)))),.sl (az aj),GS (s1),.A (.slice a1 o1.length ea),GV (true)],.Υ (some (a1,ea)) 61 1 (bD o1)]:=⟨o1,s1,a1,ea,true,rfl,rfl,λp h=>(by rw[fI rfl]at h;cases h),λ_=>rfl⟩;refine fG (ai @z1 @ao) ?_;exact(have F:=ao;ee (R:=dc _ _ _ _ _) [1000,1001] hR)
 |false =>
 obtain⟨hWl,mv⟩:=kC rfl;rw[mv,Option.bind_some,hwN]at da;rw[hWl]at hX;have hX:bI (λz ms=>(qJ g t v u ms).bind (bK g aj n z)) (o,s) l=X:=hX;have nO:(⟨c.b,c.Γ,t.Δ+ms.length⟩:USt).Γ.length=t.Γ.length:=hcr;rw[Bool.false_or]at c2;refine fN 15 (ai @z1 @ao) ?_;refine gB ?_;have F:=@ao;refine cQ [1000] [1000] (c2) ?_;clear F;rintro _ _ ⟨rfl,rfl⟩;simp only[aD,aQ,aM,uC,Taf,Tah]
 cases hb:j7 g ⟨c.b,c.Γ,t.Δ+ms.length⟩ v x with
 |true =>
  have jk:i+1<=l.length/\(true=false->W=some l/\bI (λz ms=>(qJ g t v u ms).bind (bK g aj n z)) (o,s) (l.take (i+1))=some (o1,s1))/\(true->X=none):=⟨am,λh=>(by cases h),λ_=>by rw[<- hX];exact yp (by rw[da,uc,hb,if_pos rfl];rfl)⟩;have F:=@ao;refine cQ [1000] [1000] (cF s1 o1 a1 ea _) ?_;clear F;rintro _ _ ⟨rfl,rfl⟩;simp only[aD,aQ,aM,uC,Taf,Tah];refine fR @ao ?_;have F:=ai @wi @ao;refine gG ?_;exact⟨(i+1,(o1,s1),a1,ea,true),jk,gw,gw,om⟩
 | false =>
  obtain⟨L',nJ⟩:=hupk hWl hb;rw[uc,hb,if_neg (by simp),Option.bind_some]at da;obtain⟨j1,j2,j3⟩:=CG (I:=λq:List (GP)×Nat=>nE q.1/\s<=q.2/\q.2<=3000) mv ⟨hO,Tai _,hs⟩ λi' dR z z' hz hI=>by
   obtain⟨i1,i2,i3⟩:=hI;obtain⟨y,_,hz⟩:=Option.bind_eq_some_iff.1 hz;obtain⟨j1,j2,j3⟩:=ZjL h8 n (o:=z.1) (s:=z.2) i1 i3 hz;exact⟨j1,om,j3⟩
  simp only at j1 j2 j3;have cR:=hC b s1 o1 a1 ea nJ om j3 j1 (by rw[CH,nO];omega);generalize dL g ⟨c.b,c.Γ,t.Δ+ms.length⟩ v x=t2 at *;have F:=@ao;refine cQ [1000,1001] [1000,1001] (cR) ?_;clear F;rintro _ _ ⟨o',s',a',bF,f',rfl,rfl,h1,h2⟩;simp only[aD,aQ,aM,uC,Taf,Tah];have jk:i+1<=l.length/\(f'=false->W=some l/\bI (λz ms=>(qJ g t v u ms).bind (bK g aj n z)) (o,s) (l.take (i+1))=some (o',s'))/\(f'->X=none):=by
   refine⟨am,λh=>⟨hWl,?_⟩,λh=>?_⟩
   ·cases hz:bK g aj n (o1,s1) t2 with
    |none=>rw[h2 hz]at h;cases h
    |some p=>rw[da,hz,(h1 p hz).1]
   ·cases hz:bK g aj n (o1,s1) t2 with
    |none=>rw[<- hX];exact yp (by rw[da,hz])
    |some p=>rw[(h1 p hz).2]at h;cases h
  refine fR @ao ?_;have F:=ai @wi @ao;refine gG ?_;exact⟨(i+1,(o',s'),a',bF,f'),jk,gw,gw,om⟩
end
section
def ZvF {ts:List (GP)} {f:FuncId} {caps:we} {P:GP->Bool} (hl:ts.length<=iD) (h:∀a∈ts,aI e0 f (.I (.sl (aK a))::caps.map .I) [GW (P a)]) :
  ∃r:Int,(0<=r↔ts.any P=true)/\aI e0 182 [.I (.sl (bD ts)),.I (.fn f caps)] [GT r]:=by
 unfold iD at hl;have bl:=vL ts;have bg:=Zqa ts;have bb:=ZkG ts;by_cases hA:ts.any P=true
 ·obtain⟨k,hk,DA⟩:∃k:Nat,(∃a,ts[k]?=some a/\P a)/\∀(j:Nat)a,j<k->ts[j]?=some a->P a=false:=by
   have nv:∃k:Nat,∃a,ts[k]?=some a/\P a:=by
    obtain⟨a,ha,hp⟩:=List.any_eq_true.1 hA;obtain⟨k,hk⟩:=Tbl ha;exact⟨k,a,hk,hp⟩
   obtain⟨k,hk,Am⟩:=ZJg nv;refine⟨k,hk,λj a hj ha=>?_⟩
   cases hp:P a with
   |false=>rfl
   |true=>exact absurd ⟨a,ha,hp⟩ (Am j hj)
  obtain⟨a0,qv,hp0⟩:=hk;have jF:=(Tad.1 qv).1;refine⟨(k:Int),⟨λ_=>hA,λ_=>om⟩,?_⟩;refine gI 66483 Tryz.func182 ?_;refine fG (aj5 @bl @bg @bb @bw @ae) ?_;have F:=@aJ;refine gL (ι:=Nat) [4,5,8,9,16] [] (λi=>[(8,GU i)]) (λi=>[]) (λi=>i<=k) (λi=>k+1-i) (0) om (λi hi=>?_);clear F;have ki:(i:Int)<ts.length:=om;obtain⟨a,ha⟩:∃a,ts[i]?=some a:=⟨_,Taa om⟩
  have gp:=bW (k:=i) om;refine fB (aj6 @bl @bg @bb @bw @ae @ki) ?_;refine fC (aj6 @bl @bg @bb @bw @ae @ha) (h a (Tac ha)) ?_;by_cases yR:i=k
  ·subst yR;rw[ha]at qv;injection qv with qv
   subst qv;refine fR (aj6 @bl @bg @bb @bw @ae @hp0) ?_;exact fT (aj5 @bl @bg @bb @bw @ae)
  ·have hpf:=DA i a om ha;refine fR (aj6 @bl @bg @bb @bw @ae @hpf) ?_;have F:=aj6 @gp @bl @bg @bb @bw @ae;refine gG ?_;exact⟨i+1,om,gw,gw,om⟩
 ·have DA:∀(j:Nat)a,ts[j]?=some a->P a=false:=λj a ha=>by
   cases hp:P a with
   |false=>rfl
   |true=>exact absurd (List.any_eq_true.2 ⟨a,Tac ha,hp⟩) hA
  refine⟨-1,⟨λh=>om,λh=>absurd h hA⟩,?_⟩;refine gI 66483 Tryz.func182 ?_;refine fG (aj5 @bl @bg @bb @bw @ae) ?_;have F:=@aJ;refine gL (ι:=Nat) [4,5,8,9,16] [] (λi=>[(8,GU i)]) (λi=>[]) (λi=>i<=ts.length) (λi=>ts.length-i) (0) om (λi hi=>?_);clear F;by_cases dR:i<ts.length;rotate_left
  ·have ki:¬((i:Int)<ts.length):=om;exact fT (aj6 @bl @bg @bb @bw @ae @ki)
  have ki:(i:Int)<ts.length:=om;obtain⟨a,ha⟩:∃a,ts[i]?=some a:=⟨_,Taa om⟩;have gp:=bW (k:=i) om;have hpf:=DA i a ha;refine fB (aj6 @bl @bg @bb @bw @ae @ki) ?_;refine fC (aj6 @bl @bg @bb @bw @ae @ha) (h a (Tac ha)) ?_;refine fR (aj6 @bl @bg @bb @bw @ae @hpf) ?_;have F:=aj6 @gp @bl @bg @bb @bw @ae;refine gG ?_;exact⟨i+1,om,gw,gw,om⟩
def Zqd{ts:List (GP)}{f:FuncId}{caps:we}{P:GP->Bool}(hl:ts.length<=iD)(h:∀a∈ts,aI e0 f (.I (.sl (aK a))::caps.map .I) [GW (P a)]) :
  aI e0 128 [.I (.sl (bD ts)),.I (.fn f caps)] [GW (ts.any P)]:=by
 obtain⟨r,hr,c⟩:=ZvF hl h;refine gI 19 Tryz.func128 ?_;refine fB @ae ?_;refine fC @ae (c) ?_;have e:decide (0<=r)=ts.any P:=by
  rw[Bool.eq_iff_iff,decide_eq_true_iff];exact hr
 refine fR @ae ?_;exact fT @e
def ZvG(o l:GP):aI e0 129 [.I (.sl (aK o)),.I (.ptr [.sl (aK l)])] [GW (decide (aN o l=0))]:=by
 refine gI (ts:=[.slot 3]) 11 Tryz.func129 ?_;refine cg 1 @ae @ae ((Zsd (Zpt o l))) ?_;exact iF @ae @ae
end
variable{g:Sgn}
def Zza{aj:AI}{b:GP}{i:Nat}{v:Tm}(hv:aj[i]?=some v):lh (aj.take (i+1)) b=lh (aj.take i) b++((fx b v).map λt=>(⟨v,t⟩:Bd)).toList:=by
 unfold lh;rw[List.take_add_one,hv,List.filterMap_append]
 cases h:fx b v<;>simp[h]
def ZDM(aj:AI)(b:GP):(lh aj b).length<=aj.length:=List.length_filterMap_le _ _
def ZDN(bm b s:Nat){aj:AI}(h8:aj.length<=8)(hv:∀v∈aj,dp g v)(o:List (GP))(a:BY)(cap:Nat){t:USt}(hb:∀y∈t.b,dp g y.var)(qT:t.b.length<=1000)(hO:nE o) :
  aT (eM g bm) 72 [.I (.A (.pointer (some ⟨b,0,none⟩))),.agg (lz t)] [.var (some b) (uC g bm aj s (.slice a o.length cap) false),.Υ (some (a,cap)) 61 1 (bD o)] (dc g bm b aj ((wb aj t.b o).map λo=>(o,s))):=by
 have xt:=v8 (g:=g) (b:=bm);have ho64:=hO.1;have cN:=λl:GP=>(Zqd (ts:=o) (f:=129) (caps:=[.ptr [.sl (aK l)]]) (P:=λo=>decide (aN o l=0)) (by unfold iD;omega) λx _=>ZvG x l).m (g:=g) (b:=bm);have cB:=λ(v:Tm)(h:dp g v)=>(Znc hb qT h).m (g:=g) (b:=bm);obtain⟨B,r,n⟩:=t;simp only[lz]at *;have z0:lh [] B=[]:=rfl;have z1:aK []=[]:=rfl;have z2:([]:GP).length=0:=rfl;have tl:=cc aj
 have sl:=vL o;unfold uC;refine dX (ts:=[]) [1000,1001] 549823046107 Tryz.func72 ?_;refine fN 1 @ao ?_;refine gB ?_;have F:=@ao;refine gP 1 ?_;clear F;refine gO 9 110 8 ?_;refine gS 9 λa0 cap0=>?_;refine fR @ao ?_;refine fG (ai @tl @ao) ?_;have F:=aj4 @z0 @z1 @z2 @ao;refine gL (ι:=Nat×BY×Nat) [6,7,8,15,16,26] [4,9] (λx=>[(15,GU x.1)]) (λx=>[(4,.var none [.A (.slice x.2.1 (lh (aj.take x.1) B).length x.2.2)]),(9,.Υ (some (x.2.1,x.2.2)) 110 8 (aK (lh (aj.take x.1) B)))]) (λx=>x.1<=aj.length) (λx=>aj.length-x.1) ((0,a0,cap0)) (Taj _) (λx hx=>?_);clear F
 obtain⟨i,a2,du⟩:=x;simp only at hx;dsimp only;by_cases am:i<aj.length
 ·have q1:=lT i aj.length;obtain⟨v,sJ⟩:∃e,aj[i]?=some e:=⟨_,Taa am⟩;have hvv:=hv v (Tac sJ);have wi:=bW (k:=i) om;have jF:=ZDM (aj.take i) B;rw[Taw]at jF;have ek:=Zza (b:=B) sJ;have tg:(az aj)[i]?=some (ax v):=by rw[rt,sJ];rfl
  refine fB (aj4 @q1 @tl @tg @ao) ?_;refine fC @ao (cB v hvv) ?_
  cases hL:fx B v with
  |none =>
   rw[hL]at ek;simp only[Option.map_none,Option.toList_none,List.append_nil]at ek;rw[<- ek];refine fR (ai @hL @ao) ?_;have F:=ai @wi @ao;refine gG ?_;exact⟨(i+1,a2,du),am,gw,gw,om⟩
  |some u =>
   rw[hL]at ek;simp only[Option.map_some,Option.toList_some]at ek;have h8':=sC v u;have yK:=fE (lh (aj.take i) B);have b8:=eI (lh (aj.take i) B);have c8:(lh (aj.take i) B).length+1<=al:=by unfold al;omega
   have eb:aK (lh (aj.take i) B)++[dQ ⟨v,u⟩]=aK (lh (aj.take (i+1)) B):=by rw[ek,sq];rfl
   have el:(lh (aj.take i) B).length+1=(lh (aj.take (i+1)) B).length:=by rw[ek,Tae,List.length_singleton]
   have yL:=fE (lh (aj.take (i+1)) B);refine fR (ai @hL @ao) ?_;refine fN 7 @ao ?_;refine gB ?_;have F:=aj7 @h8' @yK @b8 @eb @c8 @dz @ao;refine gP 6 ?_;clear F;refine gS 32 λa3 fZ=>?_;refine fR (aj4 @el @yL @dz @ao) ?_;refine pE [32] [9] (CL _) ?_;have F:=aj3 @wi @yL @ao;refine gG ?_;exact⟨(i+1,a3,fZ),am,gw,gw,om⟩
 obtain rfl:i=aj.length:=by omega
 have q1:=lF aj.length aj.length;rw[Tap];have yK:=fE (lh aj B);refine fG (ai @q1 @ao) ?_;refine pD 9 [] [4] ?_;simp only[yK,↓reduceIte]
 (with_reducible refine ZBX [4] ?_;intro G7 G6 ds bJ;simp only[pz,↓reduceIte,Nat.reduceEqDiff,Nat.reduceAdd,Nat.reduceSub,Nat.reduceMul,Nat.reduceLeDiff,Nat.reduceBEq,Tam,decide_true,decide_false,Int.reduceLE,Int.reduceToNat,Int.reduceLT,Int.reduceEq,eq_self,Nat.reduceShiftRight,Nat.reduceAnd,Nat.reduceBneDiff]at G6;subst G6;simp only[List.map]at bJ;subst bJ)
 have cN':=cN (lh aj B);have hk:wb aj B o=if(o.any λo=>decide (aN o (lh aj B)=0))=true then some o else fQ (o++[lh aj B]):=rfl
 generalize hA:(o.any λo=>decide (aN o (lh aj B)=0))=anyk at *;generalize lh aj B=KL at *;have F:=ai sl ao;refine gCS 1001 cN' ?_;clear F;simp only[aD,aQ,aM,Taf,Tah]
 cases anyk with
 |true =>
  rw[if_pos rfl]at hk;have hR:dc g bm b aj ((wb aj B o).map λo=>(o,s)) [] [.var (some b) [.ptr (bx g (.A (.map (some bm)))),.sl (az aj),GS (s),.A (.slice a o.length cap),GV (false)],.Υ (some (a,cap)) 61 1 (bD o)]:=⟨o,s,a,cap,false,rfl,rfl,λp h=>(by rw[hk]at h;injection h with h;exact⟨h.symm,rfl⟩),λh=>(by rw[hk]at h;cases h)⟩;refine fR @ao ?_
  refine fG @ao ?_;exact(have F:=ao;ee (R:=dc _ _ _ _ _) [1000,1001] hR)
 | false =>
  rw[if_neg (by simp)]at hk;have c8:o.length+1<=al:=by unfold al;omega
  have s1:ZaD 1 (bD o):=ZkG o;have eo:bD o++[[.sl (aK KL)]]=bD (o++[KL]):=by rw[ZjM];rfl
  have el:o.length+1=(o++[KL]).length:=by simp
  have el2:=vL (o++[KL]);refine fR @ao ?_;refine fN 10 @ao ?_;refine rE ?_;have F:=ao;refine xh 10 [1001] [0,1,2,3,4,5,6,8,9] [7] ?_;clear F;have F:=ao;refine uk ?_;clear F;have F:=aj4 c8 sl s1 ao;refine Dj 1001 ?_;clear F;have F:=ao;refine tr ?_;clear F;refine gS 47 λa3 fZ=>?_;refine fR (aj3 @eo @el2 @ao) ?_;refine pE [47] [1001] (CL _) ?_;rw[show(bD o).length+1=(o++[KL]).length by rw[sl,el]]
  generalize o++[KL]=O at *;by_cases c6:O.length<=64
  ·have q2:=lF 64 O.length;have eK:wb aj B o=some O:=by rw[hk];exact if_pos c6
   have hR:dc g bm b aj ((wb aj B o).map λo=>(o,s)) [] [.var (some b) [.ptr (bx g (.A (.map (some bm)))),.sl (az aj),GS (s),.A (.slice a3 O.length fZ),GV (false)],.Υ (some (a3,fZ)) 61 1 (bD O)]:=⟨O,s,a3,fZ,false,rfl,rfl,λp h=>(by rw[eK]at h;injection h with h;exact⟨h.symm,rfl⟩),λh=>(by rw[eK]at h;cases h)⟩;refine gB ?_;refine fR (aj3 @el2 @q2 @ao) ?_
   exact(have F:=ao;mM (R:=dc _ _ _ _ _) [1000,1001] hR)
  ·have q2:=lT 64 O.length;have eK:wb aj B o=none:=by rw[hk];exact if_neg c6
   have hR:dc g bm b aj ((wb aj B o).map λo=>(o,s)) [] [.var (some b) [.ptr (bx g (.A (.map (some bm)))),.sl (az aj),GS (s),.A (.slice a3 O.length fZ),GV (true)],.Υ (some (a3,fZ)) 61 1 (bD O)]:=⟨O,s,a3,fZ,true,rfl,rfl,λp h=>(by rw[eK]at h;cases h),λ_=>rfl⟩;refine gB ?_;refine fR (aj3 @el2 @q2 @ao) ?_;exact(have F:=ao;mM (R:=dc _ _ _ _ _) [1000,1001] hR)
def m15(h:G3:=by
 have F:=@ao;refine cQ [1000,1001] [1000,1001] (cV) ?_;rintro _ _ ⟨o',s',a',bF,f',rfl,rfl,h1,h2⟩;simp only[aD,aQ,aM,uC,Taf,Tah];have hR:dc g bm b aj X [] [.var (some b) [.ptr (bx g (.A (.map (some bm)))),.sl (az aj),GS (s'),.A (.slice a' o'.length bF),GV (f')],.Υ (some (a',bF)) 61 1 (bD o')]:=⟨o',s',a',bF,f',rfl,rfl,h1,h2⟩;refine fR @ao ?_;exact(have F:=ao;ee (R:=dc _ _ _ _ _) [1000,1001] hR)):G3:=h
section
variable{g:Sgn}
def UP.sub{L:AI}{b r r':GP}{c:Nat}(h:UP g L ⟨b,r',c⟩)(hr:∀e∈r,e∈r'):UP g L ⟨b,r,c⟩:=by
 obtain⟨⟨b0,r0,c0⟩,hR,hI⟩:=h;obtain⟨h1,h2,h3⟩:=hR;simp only at h1 h2 h3;subst h2 h3;exact⟨⟨b0,r,c0⟩,⟨h1,rfl,rfl⟩,hI.drop λz hz=>⟨hI.tm.Γ z (hr z hz),hI.Γ z (hr z hz)⟩⟩
def UP.head{L:AI}{b r:GP}{c:Nat}{x y:Tm}(h:UP g L ⟨b,⟨x,y⟩::r,c⟩):(TermOk g x/\Live L x)/\TermOk g y/\Live L y:=by
 obtain⟨⟨b0,r0,c0⟩,hR,hI⟩:=h;obtain⟨h1,h2,h3⟩:=hR;simp only at h1 h2 h3;subst h2 h3;have he:=hI.tm.Γ ⟨x,y⟩ Tas;have cw:=hI.Γ ⟨x,y⟩ Tas;exact⟨⟨he.1,cw.1⟩,he.2,cw.2⟩
def UP.next(hg:SgnOk g)(hF:jb g){L:AI}{b r:GP}{c:Nat}{x y:Tm}(h:UP g L ⟨b,r,c⟩)(hx:TermOk g x/\Live L x)(hy:TermOk g y/\Live L y){l:List USt}(hl:Bo g b c x y r=some l):∀u∈l,∃L',UP g L' u:=by
 obtain⟨⟨b0,r0,c0⟩,hR,hI⟩:=h;obtain⟨h1,h2,h3⟩:=hR;simp only at h1 h2 h3;subst h2 h3;have cv:=Zub hg hF h1 hI hx hy;rw[hl]at cv
 cases hS:uf g b0 c0 x y r0 with
 |none=>rw[hS]at cv;exact cv.elim
 |some l0 =>
  rw[hS]at cv;have cv:F2 kH l0 l:=cv;intro u hu;obtain⟨j,hj⟩:=Tbl hu;obtain⟨v,hv,hru⟩:=cv.at hj;obtain⟨L',nJ⟩:=ZkE hg hF hI hx hy hS v (Tac hv);exact⟨L',v,hru,nJ⟩
def ZFv{aj:AI}{n s:Nat}{o:List (GP)}{b:GP}{c:Nat}:bK g aj (n+1) (o,s) ⟨b,[],c⟩=(wb aj b o).map λo=>(o,s):=rfl
def ZDO{aj:AI}{n s:Nat}{o:List (GP)}{b r:GP}{c:Nat}{x y:Tm}:bK g aj (n+1) (o,s) ⟨b,⟨x,y⟩::r,c⟩=if 3000<=s then none else(Bo g b c x y r).bind (bI (bK g aj n) (o,s+1)):=rfl
def ZDP{α β:Type}{f:β->α->Option β}{z:β}{a:α}:bI f z [a]=f z a:=by
 simp only[bI]
 cases f z a<;>rfl
def ZFw(hg:SgnOk g)(hF:jb g)(bm:Nat){aj:AI}(h8:aj.length<=8)(hv:∀v∈aj,dp g v){N:Nat}(ih:∀m,m<N->qe g bm aj m):qe g bm aj N:=by
 intro b s o a cap t L hU hn hs hO hr;obtain⟨B,R,c⟩:=t;have xt:=v8 (g:=g) (b:=bm);have Gq:=Zqb hU;have BC:=hU.tm;have e0:bK g aj N (o,s) ⟨B,R,c⟩=bK g aj (N-0) (o,s+0) ⟨B,R.drop 0,c⟩:=rfl;have aZ:0<=R.length/\s+0<=3000/\bK g aj N (o,s) ⟨B,R,c⟩=bK g aj (N-0) (o,s+0) ⟨B,R.drop 0,c⟩:=⟨Taj _,hs,rfl⟩;simp only at Gq hr;have d0:R.drop 0=R:=rfl;have n0:s+0=s:=rfl;generalize hX:bK g aj N (o,s) ⟨B,R,c⟩=X at *
 simp only[lz];unfold uC;refine dX (ts:=[]) [1000,1001] 19807646274373504973213278779 Tryz.func33 ?_;refine fN 1 @ao ?_;have F:=aj3 @d0 @n0 @ao;refine gL (ι:=Nat) [4,5,9,13,25,43,47,61,70,79] [3,1000] (λj=>[]) (λj=>[(3,.var none [.sl (aK (R.drop j)),.sl (aK B),GS c]),(1000,.var (some b) [.ptr (bx g (.A (.map (some bm)))),.sl (az aj),GS ((s+j:Nat):Int),.A (.slice a o.length cap),GV false])]) (λj=>j<=R.length/\s+j<=3000/\X=bK g aj (N-j) (o,s+j) ⟨B,R.drop j,c⟩) (λj=>R.length-j) (0) (aZ) (λj hj=>?_)
 obtain⟨hj,mV,kz⟩:=hj;have Dr:N-j=N-j-1+1:=om;have DO:N-j-1<N:=om;have Al:3000<N-j-1+(s+j+1):=om;have yN:UP g L ⟨B,R.drop j,c⟩:=hU.sub λe he=>List.mem_of_mem_drop he;have jX:(R.drop j).length=R.length-j:=Tax;have jk:∀{e:Bd}{r:GP},R.drop j=e::r->R.drop (j+1)=r:=λh=>by rw[<- List.drop_drop,h];rfl
 rw[Dr]at kz;generalize hm:N-j-1=m at *;generalize hk:s+j=k at *;generalize hZ:R.drop j=Z at *;have bl:=fE Z;by_cases hz:Z=[]
 ·have q1:((0:Int)<Z.length)=False:=eq_false (by rw[hz];simp);have kz:X=(wb aj B o).map λo=>(o,k):=by rw[kz,hz,ZFv]
  have cK:=ZDN (g:=g) bm b k h8 hv o a cap (t:=⟨B,Z,c⟩) (λy hy=>(BC.b y hy).1) (by simp only;omega) hO;simp only[lz]at cK;unfold uC at cK;rw[<- kz]at cK;refine kQ 18 (aj3 @bl @q1 @ao) ?_;have F:=@ao;refine cQ [1000,1001] [1000,1001] (cK) ?_;rintro _ _ ⟨o',s',a',bF,f',rfl,rfl,h1,h2⟩;refine EJ ?_;have hR:dc g bm b aj X [] [.var (some b) [.ptr (bx g (.A (.map (some bm)))),.sl (az aj),GS (s'),.A (.slice a' o'.length bF),GV (f')],.Υ (some (a',bF)) 61 1 (bD o')]:=⟨o',s',a',bF,f',rfl,rfl,h1,h2⟩
  refine fR @ao ?_;exact(have F:=ao;mM (R:=dc _ _ _ _ _) [1000,1001] hR)
 ·obtain⟨⟨x,y⟩,r,Dx⟩:∃e r,Z=e::r:=by
   cases Z with
   |nil=>exact absurd rfl hz
   |cons e r=>exact⟨e,r,rfl⟩
  have uU:0<Z.length:=by rw[Dx];simp
  have q1:=lT 0 Z.length;rw[Dx,ZDO]at kz;have wk:=bW (k:=k) om;obtain⟨k1,gU⟩:∃k1:Nat,k1=k+1:=⟨_,rfl⟩;rw[<- gU]at wk kz Al;by_cases yS:3000<=k
  ·have q2:=lT 3000 k1;rw[if_pos yS]at kz;have hR:dc g bm b aj X [] [.var (some b) [.ptr (bx g (.A (.map (some bm)))),.sl (az aj),GS (k1),.A (.slice a o.length cap),GV (true)],.Υ (some (a,cap)) 61 1 (bD o)]:=⟨o,k1,a,cap,true,rfl,rfl,λp h=>(by rw[kz]at h;cases h),λ_=>rfl⟩;refine fG (aj5 @bl @q1 @q2 @wk @ao) ?_;exact(have F:=ao;ee (R:=dc _ _ _ _ _) [1000,1001] hR)
  have q2:=lF 3000 k1;rw[if_neg yS]at kz;rw[Dx]at yN;obtain⟨⟨hx,mA⟩,hy,pq⟩:=yN.head;have z8:UP g L ⟨B,r,c⟩:=yN.sub λe he=>Tal _ he;have c9:r.length+1=R.length-j:=by rw[<- jX,Dx,Tag]
  have jk:=jk Dx;have wh:Z[0]?=some ⟨x,y⟩:=by rw[Dx];rfl
  have yM:((1:Int)<=Z.length)=True:=eq_true om;have cw:((Z.length:Int)<=Z.length)=True:=eq_true (Int.le_refl _);have ev:=ZhG Z;rw[show Z.tail=r by rw[Dx];rfl]at ev;have bg:=rv Z;have b8:=λl=>eI l;refine fN 6 (aj5 @bl @q1 @q2 @wk @ao) ?_
  /- gk run -/
  refine gGk [(0,GY (.A (.pointer (some ⟨b,0,none⟩)))),(1,.d (.agg [.sl (aK R),.sl (aK B),GS c])),(3,.ref 3 0)] [(3,.var none [.sl (aK Z),.sl (aK B),GS c]),(1000,.var (some b) [.ptr (bx g (.A (.map (some bm)))),.sl (az aj),GS (k1:Int),.A (.slice a o.length cap),GV false]),(1001,.Υ (some (a,cap)) 61 1 (bD o))] [([(29,.ref 3 0)],[]),([(30,GY (.sl (aK Z)))],[]),([(31,GY (.ptr (dQ ⟨x,y⟩)))],[]),([(32,GY (.ptr (dQ ⟨x,y⟩)))],[]),([(33,.d (.agg (ax x)))],[]),([(34,.ref 3 0)],[]),([(35,GY (.sl (aK Z)))],[]),([(36,GY (.ptr (dQ ⟨x,y⟩)))],[]),([(37,GY (.ptr (ax y)))],[]),([(38,.d (.agg (ax y)))],[]),([(4,.ref 4 0)],[(4,.var none [GS 0,.A (.string ByteArray.empty),GS 0,.sl []])]),([(5,.ref 5 0)],[(5,.var none [GS 0,.A (.string ByteArray.empty),GS 0,.sl []])]),([(4,.ref 4 0)],[(4,.var none (ax x))]),([(5,.ref 5 0)],[(5,.var none (ax y))])] (λj=>([(10,12),(11,13)]:List (Nat×Nat)).lookup j) [] (⟨by simp[gs],by simp[gm,bx]⟩) (λj hj=>by simp at hj) ⟨?_,?_,?_,?_,?_,?_,?_,?_,?_,?_,?_,?_,?_,?_,trivial⟩ ?_
  iterate 14 (focus
   intro s' m' hB hD hI hJ;have F:=wH.1 hB
   try have F:=ai F (fO.1 (tqX (hD 0)))
   try have F:=ai F (fO.1 (tqX (hD 1)))
   try have F:=ai F (fO.1 (tqX (hD 2)))
   try have F:=ai F (fO.1 (tqX (hD 3)))
   try have F:=ai F (fO.1 (tqX (hD 4)))
   try have F:=ai F (fO.1 (tqX (hD 5)))
   try have F:=ai F (fO.1 (tqX (hD 6)))
   try have F:=ai F (fO.1 (tqX (hD 7)))
   try have F:=ai F (fO.1 (tqX (hD 8)))
   try have F:=ai F (fO.1 (tqX (hD 9)))
   try have F:=ai F (fO.1 (tqX (hD 10)))
   try have F:=ai F (fO.1 (tqX (hD 11)))
   simp only[gF,gz,List.getD_cons_zero,List.getD_cons_succ,and_true,true_and]at F;have F:=aj8 F bl bg b8 wh uU dz ao;refine ip ?_
   first|exact kS hB (fO.2 (by simp[gF,gz,gs,gm]))|exact kM hB (fO.2 (by simp[gF,gz,gs,gm,F]))|exact kB hB (fO.2 (by simp[gF,gz,gs,gm])))
  intro s' m' hB hP;refine⟨_,_,(hB.app (hP 12 (.inl (by decide)) (λk h=>by simp[List.lookup]at h))).app (hP 13 (.inl (by decide)) (λk h=>by simp[List.lookup]at h)),?_⟩;simp only[Taf,Tah,List.append_nil,List.getD_cons_zero,List.getD_cons_succ]
  /- gk end run -/
  refine⟨_,Wk.refl _,?_⟩;refine eQ 7 @ao (aj6 @bl @b8 @yM @cw @ev @ao) ?_;clear yM cw ev bl bg wh uU;have tK:r.length+7+7*(3000-k1)<=30000:=om;have Af:k1<=3000:=om;have hxo:x.op=-1\/0<=x.op:=by
   rcases hx.Η.node with h|⟨_,_,h⟩
   ·exact .inl h.1
   ·exact .inr h.lo
  have hyo:y.op=-1\/0<=y.op:=by
   rcases hy.Η.node with h|⟨_,_,h⟩
   ·exact .inl h.1
   ·exact .inr h.lo
  have dD:∀{z:Tm},Live L z->dp g z->z∈L:=λh hV=>h _ hV.1 ((vP hV.2.2.2.2).2 rfl);refine cg 8 @ao @ao (((Zgo x y).m (g:=g) (b:=bm))) ?_;by_cases h0:aU x y=0
  ·have q0:decide (aU x y=0):=decide_eq_true h0;have hnI:Bo g B c x y r=some [⟨B,r,c⟩]:=by unfold Bo;rw[if_pos h0]
   rw[hnI,Option.bind_some,ZDP]at kz;have dZ:s+(j+1)=k1:=om;have tL:j+1<=R.length/\s+(j+1)<=3000/\X=bK g aj (N-(j+1)) (o,s+(j+1)) ⟨B,R.drop (j+1),c⟩:=⟨om,om,by rw[jk,dZ,show N-(j+1)=m by omega];exact kz⟩;refine fR (ai @q0 @ao) ?_;have F:=aj3 @jk @dZ @ao;refine gG ?_;exact⟨j+1,tL,gw,gw,om⟩
  have q0:decide (aU x y=0)=false:=decide_eq_false h0;have aP:x≠y:=λe=>h0 (by rw[e];exact Cp _);have pk:=λl=>z8.next hg hF ⟨hx,mA⟩ ⟨hy,pq⟩ (l:=l);unfold Bo at kz pk;rw[if_neg h0]at kz pk;refine fR (ai @q0 @ao) ?_;by_cases kR:x.op=-1/\y.op=-1
  ·rw[if_pos kR]at kz;have qx:(x.op<0)=True:=eq_true om;have qy:(y.op<0)=True:=eq_true om;have cV:=Zqc hg hF bm h8 (ih m DO) b k1 o a cap (t:=⟨B,r,c⟩) z8 Al Af hO (by simp only;omega) (hx.var kR.1) (hy.var kR.2) hx hy (dD mA (hx.var kR.1)) (dD pq (hy.var kR.2)) aP;simp only[lz]at cV;unfold uC at cV;rw[<- kz]at cV;refine kQ 10 (aj4 @q0 @qx @qy @ao) ?_;exact m15
  rw[if_neg kR]at kz pk;by_cases h1x:x.op=-1
  ·rw[if_pos h1x]at kz;have qx:(x.op<0)=True:=eq_true om;have qy:(y.op<0)=False:=eq_false om;have hVx:=hx.var h1x;have cV:=ZkX hg hF bm h8 (ih m DO) b k1 o a cap (t:=⟨B,r,c⟩) z8 Al Af hO (by simp only;omega) hVx hx (dD mA hVx) hy pq;simp only[lz]at cV;unfold uC at cV;rw[<- kz]at cV;refine kQ 12 (aj4 @q0 @qx @qy @ao) ?_;exact m15
  rw[if_neg h1x]at kz pk;have qx:(x.op<0)=False:=eq_false om;by_cases h1y:y.op=-1
  ·rw[if_pos h1y]at kz;have qy:(y.op<0)=True:=eq_true om;have hVy:=hy.var h1y;have cV:=ZkX hg hF bm h8 (ih m DO) b k1 o a cap (t:=⟨B,r,c⟩) z8 Al Af hO (by simp only;omega) hVy hy (dD pq hVy) hx mA;simp only[lz]at cV;unfold uC at cV;rw[<- kz]at cV;refine kQ 14 (aj4 @q0 @qx @qy @ao) ?_;exact m15
  rw[if_neg h1y]at kz pk;have qy:(y.op<0)=False:=eq_false om;by_cases bE:x.op=y.op;rotate_left
  ·rw[if_pos bE,Option.bind_some]at kz;have hR:dc g bm b aj X [] [.var (some b) [.ptr (bx g (.A (.map (some bm)))),.sl (az aj),GS (k1),.A (.slice a o.length cap),GV (false)],.Υ (some (a,cap)) 61 1 (bD o)]:=⟨o,k1,a,cap,false,rfl,rfl,λp h=>(by rw[kz]at h;injection h with h;exact⟨h.symm,rfl⟩),λh=>(by rw[kz]at h;cases h)⟩
   refine fG (aj5 @q0 @qx @qy (eq_false bE:(x.op=y.op)=False) @ao) ?_;exact(have F:=ao;ee (R:=dc _ _ _ _ _) [1000,1001] hR)
  have q5:(x.op=y.op)=True:=eq_true bE;obtain⟨op,d,hA⟩:=hx.Η.node.app h1x;obtain⟨GI,d',hA'⟩:=hy.Η.node.app h1y;have ho:=hA.at';have d4:=hA.lo;obtain rfl:op=GI:=by
   have:=hA'.at';rw[<- bE,ho]at this;injection this
  have rI:=(hF op (Tac ho)).1;have pT:y.Y.length=x.Y.length:=by
   exact m177
  have hl7:=hA.len7 hg;rw[if_neg (λh=>h bE)]at kz pk;simp only[ho]at kz pk;have kz:X=bI (bK g aj m) (o,k1) (oW ⟨B,r,c⟩ x.Y y.Y op.comm):=by rw[kz];rfl
  have cV:=ZmK bm h8 (ih m DO) b k1 o a cap (t:=⟨B,r,c⟩) Al Af hO tK d4 ho hl7 pT (pk (oW ⟨B,r,c⟩ x.Y y.Y op.comm) rfl);simp only[lz]at cV;unfold uC at cV;rw[<- kz]at cV;refine kQ 16 (aj5 @q0 @qx @qy @q5 @ao) ?_;have F:=@ao;refine cQ [1000,1001] [1000,1001] (cV) ?_;rintro _ _ ⟨o',s',a',bF,f',rfl,rfl,h1,h2⟩;simp only[aD,aQ,aM,uC,Taf,Tah];have hR:dc g bm b aj X [] [.var (some b) [.ptr (bx g (.A (.map (some bm)))),.sl (az aj),GS (s'),.A (.slice a' o'.length bF),GV (f')],.Υ (some (a',bF)) 61 1 (bD o')]:=⟨o',s',a',bF,f',rfl,rfl,h1,h2⟩
  refine fR @ao ?_;exact(have F:=ao;ee (R:=dc _ _ _ _ _) [1000,1001] hR)
def ZJq(hg:SgnOk g)(hF:jb g)(bm:Nat){aj:AI}(h8:aj.length<=8)(hv:∀v∈aj,dp g v)(n:Nat):qe g bm aj n:=by
 induction n using Nat.strongRecOn with
 |_ n ih=>exact ZFw hg hF bm h8 hv ih
end
end Go.Proofs.YtaenibhihgfehaaGreatDoor
namespace Go.Proofs.YtaenibhihgfehaaGreatDoor
open Go.RowKit
open Go.Sort (grow SWO PermIn SortedIn Holds mapBlock onCells putRow putCells)
def e9{w:World}{S:GO}{Q:we->Prop}(x:SRow w S Q):Value:=x.1.2.headD (.bool true)
def Zqe{w:World}{S:GO}{Q:we->Prop}{x:SRow w S Q}(h:x.1.2.length=1):x.1.2=[e9 x]:=by
 unfold e9
 match x.1.2,h with
 |[u],_=>rfl
def Zux{w:World}{S:GO}{cs:we}{us:GK}{u:Value}(h:cs.length=1)(hu:us=[u])(hr:aC w S cs us):aR w S (cs.headD (GV true)) u:=by
 subst hu
 match cs,h,hr with
 |[c],_,hr=>exact hr.1
section
variable{w W:World}{S:GO}{Q:we->Prop}[Inhabited (SRow w S Q)]
def ZDQ{b:Nat}{l:List (SRow w S Q)}(hk:∀x:SRow w S Q,x.1.2.length=1)(hf:∀o,w.frozen? ⟨b,o,none⟩=false)(h:∀(i:Nat)x,l[i]?=some x->∀j u,x.1.2[j]?=some u->w.cell? ⟨b,0+i*1+j,none⟩=some u):Holds e9 w b 0 l.toArray:=by
 intro i hi;have dR:i<l.length:=by simpa using hi
 refine⟨?_,hf _⟩;rw[(by rw[getElem!_pos _ _ (by simpa using hi)];rfl:l.toArray[i]! = l[i])];have:=h i l[i] (Taa dR) 0 (e9 l[i]) (by rw[Zqe (hk _)];rfl)
 rwa [show 0+i*1+0=0+i by omega]at this
def Zuy{b:Nat}{d:Array (SRow w S Q)}(hk:∀x:SRow w S Q,x.1.2.length=1)(h:Holds e9 W b 0 d){i:Nat}{x:SRow w S Q}(hi:d.toList[i]?=some x){j:Nat}{u:Value}(hj:x.1.2[j]?=some u):W.cell? ⟨b,0+i*1+j,none⟩=some u:=by
 have e7:i<d.size:=by have:=(Tad.1 hi).1;simpa using this
 rw[Zqe (hk x)]at hj;have hj0:j=0:=by
  have:=(Tad.1 hj).1;simp only[Tag,Tak]at this;omega
 subst hj0;have hu:e9 x=u:=by simpa using hj
 have h1:=(h i e7).1;have e1:d[i]! = x:=by
  exact m206
 rw[e1,hu]at h1
 rwa [show 0+i*1+0=0+i by omega]
def ZDR{b n:Nat}{d:Array (SRow w S Q)}{os:Array Obj}{bf:Array Value}{ty:Nat}(hh:w.heap[b]?=some (.cells bf ty (0,0))):(sortWorld e9 w b 0 n d os).heap[b]?=some (.cells (putCells e9 0 d bf) ty (0,0)):=by
 have hb:b<w.heap.size:=(Tbm.1 hh).1;show((w.heap.modify b (onCells (putCells e9 0 d)))++os)[b]?=_;exact m190
def Zl6{b n j:Nat}{d:Array (SRow w S Q)}{os:Array Obj}(hj:j<w.heap.size)(aP:j≠b):(sortWorld e9 w b 0 n d os).heap[j]?=w.heap[j]?:=by
 show((w.heap.modify b (onCells (putCells e9 0 d)))++os)[j]?=_;exact m176
def Fm{b n:Nat}{d:Array (SRow w S Q)}{os:Array Obj}:w.heap.size<=(sortWorld e9 w b 0 n d os).heap.size:=by
 show _<=((w.heap.modify b (onCells (putCells e9 0 d)))++os).size;simp
end
def Zzb {P:Program} (hP:e1.P=P) {ρ:Go.Shelf.Ren} (L:SlLaysF.n6 P ρ) (L0:SlLaysF0.n6 P ρ) {ty:Nat} (fF:qN P (ρ.f 6)) {g:FuncId} (eg:∀args w,(callFunc g args).run P w=.ok (.enter g args) w)
  {rows rows':sh} {cf:we->we->Int} (bh:rows.length<4611686018427387904) (hg:∀a∈rows,∀b∈rows,aI e1 g [.I (a.headD (GV true)),.I (b.headD (GV true))] [GT (cf a b)])
  (h1:∀a∈rows,¬cf a a<0) (h2:∀a∈rows,∀b∈rows,∀c∈rows,cf a b<0->cf b c<0->cf a c<0) (h3:∀a∈rows,∀b∈rows,∀c∈rows,¬cf a b<0->¬cf b c<0->¬cf a c<0)
  (hu:∀l:sh,l.Perm rows->(∀(i j:Nat)a b,i<j->l[i]?=some a->l[j]?=some b->¬cf b a<0)->l=rows'):jH e1 (ρ.f 6) ty 1 rows [.I (.fn g [])] rows' []:=by
 refine⟨by rw[hP];exact fF,λw S v0 vs hS hE hvE hG f9 bS=>?_⟩;rw[hP]
 match vs,bS with
 | [u],bS =>
  obtain⟨⟨us,rfl,d7⟩,_⟩:(∃us:GK,u=.func (.func g) #[] us.toArray/\aC w S [] us)/\True:=by simpa[dt,aX,aR]using bS
  have D6:us=[]:=by cases us with
   |nil=>rfl
   |cons _ _=>simp[aC]at d7
  subst D6;obtain⟨h0,c9,nM⟩:=f9;by_cases aP:rows=[]
  ·subst aP;have rT:rows'=[]:=(hu [] (List.Perm.refl _) (λi j a b _ h=>by simp at h)).symm;subst rT;have pQ:∃p cap,v0=.slice p 0 cap:=by
    rcases nM with⟨_,a,rfl⟩|⟨b,cap,bf,rfl,_⟩
    ·exact⟨a,0,rfl⟩
    ·exact⟨_,cap,rfl⟩
   obtain⟨p,cap,vf⟩:=pQ;rw[vf];refine(AnyF.slices_SortFunc_none (P:=P) L0 p cap _ w).mono ?_;rintro e w' ⟨rfl,rfl⟩;rw[<- vf];have hs:(λb=>S b\/(w'.heap.size<=b/\b<w'.heap.size))=S:=by
    funext b;exact propext ⟨λh=>h.elim id (λh=>absurd h.2 om),.inl⟩
   refine⟨_,rfl,Kept.refl ..,hG,?_,[],rfl,trivial⟩;rw[hs];exact⟨h0,c9,nM⟩
  ·rcases nM with⟨e,_⟩|⟨b,cap,bf,rfl,hc,yO,Du,hh,cw,c8,gc,cn⟩
   ·exact absurd e aP
   have ny:∀r,r∈rows->r.length=1:=λr hr=>(c9 r hr).1;obtain⟨l,hl,iq⟩:=ZnH (k:=1) (Q:=λr=>r∈rows) ny rows 0 (λr h=>h) cn;have pT:l.length=rows.length:=by have:=congrArg List.length hl;rwa [Tay]at this
   obtain⟨x0,iw⟩:∃x,x∈l:=List.exists_mem_of_ne_nil _ (λe=>aP (Tao (by rw[<- pT,e];rfl)))
   letI:Inhabited (SRow w S (λr=>r∈rows)):=⟨x0⟩
   have hk:∀x:SRow w S (λr=>r∈rows),x.1.2.length=1:=λx=>by rw[x.2.2.len];exact ny _ x.2.1
   have hen:∀x:SRow w S (λr=>r∈rows),x.1.2=[e9 x]:=λx=>Zqe (hk x);have h1c:OneCell (e9 (w:=w) (S:=S) (Q:=λr=>r∈rows)):=λx=>aC.I (c9 _ x.2.1).2 x.2.2 _ (by rw[hen x];exact Tbk.2 rfl);have hH:Holds e9 w b 0 l.toArray:=ZDQ hk (λo=>frozen_of_row w b o bf ty hh) iq
   have nZ:∀(m:Nat)(os:Array Obj)(dk:Array (SRow w S (λr=>r∈rows)))(S2:GO),(∀b,S b->S2 b)->∀x:SRow w S (λr=>r∈rows),aC (sortWorld e9 w b 0 m dk os) S2 x.1.1 x.1.2:=λm os dk S2 hS2 x =>
    aC.keep2 (Fm (Q:=λr=>r∈rows)) (λb' o cu=>rq (Zl6 (Q:=λr=>r∈rows) (hS b' cu).1 (λe:b'=b=>Du (by rw[<- e];exact cu))) o) hS2 x.2.2
   have gW:aO (.slice (some ⟨b,0,none⟩) rows.length cap)=some b:=by simp only[aO];rw[if_neg om]
   have nY:∀(m:Nat)(os:Array Obj)(dk:Array (SRow w S (λr=>r∈rows))),e1.G (sortWorld e9 w b 0 m dk os):=λm os dk =>
    Zov.Ε w _ (Fm (Q:=λr=>r∈rows)) (λb' cu=>Zl6 (Q:=λr=>r∈rows) (hE b' cu) (λe=>hvE b gW (e▸cu))) hG
   have uY:CmpLays1 P g #[] (e9 (w:=w) (S:=S) (Q:=λr=>r∈rows)) (λx y=>cf x.1.1 y.1.1) b 0 l.toArray.size w:=by
    intro m os dk rN x y
    have hc:=(hg _ x.2.1 _ y.2.1).2 (sortWorld e9 w b 0 m dk os) S [e9 x,e9 y] (λb' cu=>⟨Tbd (hS b' cu).1 (Fm (Q:=λr=>r∈rows)),(hS b' cu).2⟩) (λb' h=>Tbd (hE b' h) (Fm (Q:=λr=>r∈rows))) (nY m os dk)
     ⟨Zux (ny _ x.2.1) (hen x) (nZ m os dk S (λ_ h=>h) x),Zux (ny _ y.2.1) (hen y) (nZ m os dk S (λ_ h=>h) y),trivial⟩
    rw[hP]at hc;refine hc.mono ?_;rintro e w' ⟨v,rfl,hK,Dq,hv⟩;have hv:v=.int .i64 (cf x.1.1 y.1.1):=by simpa[aQ,aw,aX,aR]using hv
    exact⟨by rw[hv],Zq5 (hK.all1 (nY m os dk) Dq)⟩
   have hO:SWO (ltOf (λx y:SRow w S (λr=>r∈rows)=>cf x.1.1 y.1.1)):=by
    refine⟨λx=>?_,λx y z=>?_,λx y z=>?_⟩<;>simp only[ltOf,decide_eq_false_iff_not,decide_eq_true_eq]
    ·exact h1 _ x.2.1
    ·exact h2 _ x.2.1 _ y.2.1 _ z.2.1
    ·exact h3 _ x.2.1 _ y.2.1 _ z.2.1
   have rX:=Any.slices_SortFunc L (e9 (w:=w) (S:=S) (Q:=λr=>r∈rows)) h1c (λx y=>cf x.1.1 y.1.1) hO g #[] b 0 cap l.toArray w eg uY hH yO (by simp only[List.size_toArray];omega);have Ak:l.toArray.size=rows.length:=by simpa using pT
   rw[Ak]at rX;refine rX.mono ?_;rintro e w' ⟨rfl,d',n,os,hp,hs,rfl⟩;obtain⟨lP,_,tH⟩:=hp;rw[Ak]at lP;have nv:∀a:Array (SRow w S (λr=>r∈rows)),a.size=rows.length->a.extract 0 rows.length=a:=λa ha=>by rw[<- ha];simp
   rw[nv d' lP,nv _ Ak]at tH;have d5:(d'.toList.map (λx=>x.1.1)).Perm rows:=by
    have:=tH.map (λx:SRow w S (λr=>r∈rows)=>x.1.1)
    rwa [show l.toArray.toList=l from rfl,hl]at this
   have kl:d'.toList.map (λx=>x.1.1)=rows':=hu _ d5 λi j a c qW ha hc=>by
    simp only[Tba,Tav]at ha hc;obtain⟨x,hx,rfl⟩:=ha;obtain⟨y,hy,rfl⟩:=hc;have lJ:j<rows.length:=by have:=(Tad.1 hy).1;simpa[lP]using this
    have:=hs i j (Taj _) qW lJ;have ex:d'[i]! = x:=by
     rw[getElem!_pos d' i om];have:=(Tad.1 hx).2;simpa using this
    have ey:d'[j]! = y:=by
     rw[getElem!_pos d' j om];have:=(Tad.1 hy).2;simpa using this
    rw[ex,ey]at this;simpa[ltOf]using this
   have u9:rows'.length=rows.length:=by rw[<- kl,Tay,Array.length_toList,lP]
   have hW:Holds e9 (sortWorld e9 w b 0 n d' os) b 0 d':=SW.holds (d0:=l.toArray) ⟨n,os,rfl⟩ yO hH (by rw[lP,Ak]);refine⟨_,rfl,⟨rfl,rfl,rfl,λ_=>Nat.le_add_right _ _,Fm (Q:=λr=>r∈rows),λj hj hn=>Zl6 (Q:=λr=>r∈rows) hj (λe=>hn (.inr (by rw[gW,e])))⟩,nY n os d',⟨h0,λr hr=>?_,.inr ⟨b,cap,_,by rw[u9],hc,Tbd yO (Fm (Q:=λr=>r∈rows)),λhn=>?_,ZDR hh,om,c8,by simp[putCells,gc],?_⟩⟩,[],rfl,trivial⟩
   ·rw[<- kl]at hr;exact c9 r (d5.mem_iff.1 hr)
   ·rcases hn with hn|hn
    ·exact Du hn
    ·omega
   ·rw[<- kl];exact Zkg (Q:=λr=>r∈rows) ny (nZ n os d' _ (λb hb=>.inl hb)) d'.toList 0 λi x hi j u hj=>Zuy hk hW hi hj
end Go.Proofs.YtaenibhihgfehaaGreatDoor
namespace Go.Proofs.YtaenibhihgfehaaGreatDoor
open Go.Shelf
def Zzc:Ren:=⟨λ|6=>34|15=>74|14=>73|28=>138|29=>139|20=>130|21=>131|22=>132|23=>133|24=>134|25=>135|26=>136|27=>137|46=>183|47=>184|48=>185|49=>186|50=>187|57=>213|n=>n,λ|22=>34|24=>61|25=>81|3=>3|39=>130|0=>0|53=>190|55=>192|4=>4|46=>183|45=>182|50=>187|5=>5|9=>9|66=>224|70=>107|76=>242|77=>243|n=>n,λ|n=>n⟩
def ZDS:Go.Proofs.SlLaysF.n6 Tryz.prog Zzc:={
 mixed:=by kernel_rfl,
 f6:=⟨Tryz.f34.name,by decide,Tryz.func34.trans (congrArg some (by kernel_rfl))⟩,
 f14:=⟨Tryz.f73.name,by decide,Tryz.func73.trans (congrArg some (by kernel_rfl))⟩,
 f15:=Tryz.func74.trans (congrArg some (by kernel_rfl)),
 f20:=⟨Tryz.f130.name,by decide,Tryz.func130.trans (congrArg some (by kernel_rfl))⟩,
 f21:=⟨Tryz.f131.name,by decide,Tryz.func131.trans (congrArg some (by kernel_rfl))⟩,
 f22:=⟨Tryz.f132.name,by decide,Tryz.func132.trans (congrArg some (by kernel_rfl))⟩,
 f23:=⟨Tryz.f133.name,by decide,Tryz.func133.trans (congrArg some (by kernel_rfl))⟩,
 f24:=⟨Tryz.f134.name,by decide,Tryz.func134.trans (congrArg some (by kernel_rfl))⟩,
 f25:=⟨Tryz.f135.name,by decide,Tryz.func135.trans (congrArg some (by kernel_rfl))⟩,
 f26:=⟨Tryz.f136.name,by decide,Tryz.func136.trans (congrArg some (by kernel_rfl))⟩,
 f27:=⟨Tryz.f137.name,by decide,Tryz.func137.trans (congrArg some (by kernel_rfl))⟩,
 f28:=Tryz.func138.trans (congrArg some (by kernel_rfl)),
 f29:=Tryz.func139.trans (congrArg some (by kernel_rfl)),
 f46:=⟨Tryz.f183.name,by decide,Tryz.func183.trans (congrArg some (by kernel_rfl))⟩,
 f47:=Tryz.func184.trans (congrArg some (by kernel_rfl)),
 f48:=Tryz.func185.trans (congrArg some (by kernel_rfl)),
 f49:=⟨Tryz.f186.name,by decide,Tryz.func186.trans (congrArg some (by kernel_rfl))⟩,
 f50:=⟨Tryz.f187.name,by decide,Tryz.func187.trans (congrArg some (by kernel_rfl))⟩,
 f57:=⟨Tryz.f213.name,by decide,Tryz.func213.trans (congrArg some (by kernel_rfl))⟩,
 t0:=Tryz.underlying0,
 a0:=Tryz.isAgg0,
 z0:=Tryz.sizeOf0,
 v0:=Tryz.zeroValue0,
 t3:=Tryz.underlying3,
 a3:=Tryz.isAgg3,
 z3:=Tryz.sizeOf3,
 v3:=Tryz.zeroValue3,
 t4:=Tryz.underlying4,
 a4:=Tryz.isAgg4,
 z4:=Tryz.sizeOf4,
 v4:=Tryz.zeroValue4,
 t5:=Tryz.underlying5,
 a5:=Tryz.isAgg5,
 z5:=Tryz.sizeOf5,
 v5:=Tryz.zeroValue5,
 t9:=Tryz.underlying9,
 a9:=Tryz.isAgg9,
 z9:=Tryz.sizeOf9,
 v9:=Tryz.zeroValue9,
 t22:=Tryz.underlying34,
 a22:=Tryz.isAgg34,
 z22:=Tryz.sizeOf34,
 v22:=Tryz.zeroValue34,
 a24:=Tryz.isAgg61,
 z24:=Tryz.sizeOf61,
 t25:=Tryz.underlying81,
 a25:=Tryz.isAgg81,
 z25:=Tryz.sizeOf81,
 v25:=Tryz.zeroValue81,
 t39:=Tryz.underlying130,
 a39:=Tryz.isAgg130,
 z39:=Tryz.sizeOf130,
 v39:=Tryz.zeroValue130,
 t45:=Tryz.underlying182,
 a45:=Tryz.isAgg182,
 z45:=Tryz.sizeOf182,
 v45:=Tryz.zeroValue182,
 t46:=Tryz.underlying183,
 a46:=Tryz.isAgg183,
 z46:=Tryz.sizeOf183,
 v46:=Tryz.zeroValue183,
 t50:=Tryz.underlying187,
 a50:=Tryz.isAgg187,
 z50:=Tryz.sizeOf187,
 v50:=Tryz.zeroValue187,
 t53:=Tryz.underlying190,
 a53:=Tryz.isAgg190,
 z53:=Tryz.sizeOf190,
 v53:=Tryz.zeroValue190,
 t55:=Tryz.underlying192,
 a55:=Tryz.isAgg192,
 z55:=Tryz.sizeOf192,
 v55:=Tryz.zeroValue192,
 t66:=Tryz.underlying224,
 a66:=Tryz.isAgg224,
 z66:=Tryz.sizeOf224,
 v66:=Tryz.zeroValue224,
 t70:=Tryz.underlying107,
 a70:=Tryz.isAgg107,
 z70:=Tryz.sizeOf107,
 v70:=Tryz.zeroValue107,
 t76:=Tryz.underlying242,
 a76:=Tryz.isAgg242,
 z76:=Tryz.sizeOf242,
 v76:=Tryz.zeroValue242,
 t77:=Tryz.underlying243,
 a77:=Tryz.isAgg243,
 z77:=Tryz.sizeOf243,
 v77:=Tryz.zeroValue243 }
end Go.Proofs.YtaenibhihgfehaaGreatDoor
namespace Go.Proofs.YtaenibhihgfehaaGreatDoor
open Go.RowKit
variable{G3 G4 G5:Prop}
def EG(h:G3:=by
 have F:=ai (bW (k:=i) om) @ae;exact yV):G3:=h
def n9(b:G5)(h:Bx G5->G4:=by
 intro B0
 have F:=wH.1 hB;refine BZ λF=>?_;exact B0.o F):G4:=h ⟨b⟩
def m268(h:G3:=by
 rintro r pm ⟨us,E2,rfl,hu,aq,rfl⟩;rw[Zjx]at hu;obtain⟨u0,u1,u2,u3,rfl⟩:=len4 hu;rw[show aY [u0,u1,u2,u3]=[.A u0,.A u1,.A u2,.A u3]from rfl]at aq⊢;refine m7 ?_;exact m143):G3:=h
def vt(b:G5)(h:Bx G5->G4:=by
 intro B0
 have F:=aj3 F dz ae;refine ip ?_;exact B0.o):G4:=h ⟨b⟩
def m143(h:G3:=by
 refine sm ?_;exact xP hB (ou.2 ⟨UU.vs [u0,u1,u2,u3] E2,UU.vs_ok aq,by simp[gF,gz,gs,gm,UU.two,UU.vs,UU.sl]⟩)):G3:=h
def m140(h:G3:=by
 have F:=aj3 F dz ae;refine ip ?_;exact xS hB (ou.2 ⟨UU.z,UU.z_ok,by simp[gF,gz,gs,gm,gq,UU.two,UU.vs,UU.sl]⟩)):G3:=h
def Zl7(l:GP){i:Nat}{y:Bd}(h:l[i]?=some y):aK (l.take (i+1))=aK (l.take i)++[dQ y]:=by
 simp only[aK,List.take_add_one,h,Option.toList,Tbw,Tbv,List.map_nil]
def Znl:aK []=[]:=rfl
def ZIb{w:World}{y:Bd}{E F:GO}{us vs:GK}(h:aV w (ax y.var) E us)(h2:aV w (ax y.to) F vs)(hd:∀b,E b->F b->False):aV w (dQ y) (λb=>E b\/F b) (us++vs):=aV.append E F h h2 (λ_ h=>.inl h) (λ_ h=>.inr h) hd
def ZvH(l:GP)(hn:l.length<=1048576)(hb:∀y∈l,ag (ax y.var)<=1048576/\ag (ax y.to)<=1048576):aI e0 24 [.I (.sl (aK l))] [.I (.sl (aK l))]:=by
 have bl:=fE l;have bg:=rv l;have bb:=eI l;have l1:∀l:GP,ZaD 8 (aK l):=λl=>eI l;have l3:=fE;refine gI (ts:=[.slot 2]) 541 Tryz.func24 ?_;refine fG (ai @bl @ae) ?_;have F:=ai @Znl @ae;refine gL (ι:=Nat) [3,4,9] [3] (λi=>[(4,GU i),(3,.Υ 3)]) (λi=>[(3,.Υ none 110 8 (aK (l.take i)))]) (λi=>i<=l.length) (λi=>l.length-i) (0) (Taj _) (λi hi=>?_)
 by_cases am:i<l.length;rotate_left
 ·obtain rfl:i=l.length:=by omega
  rw[Tap];have F:=aj3 (lF l.length l.length) @bl @ae;refine gG ?_;exact xi [2]
 obtain⟨y,hy⟩:∃y,l[i]?=some y:=⟨_,Taa am⟩;have hym:=Tac hy;have hbd:ax y.var++ax y.to=dQ y:=rfl;have h7:∀(c0 c1 c2 c3:C),List.take 4 (ax y.var++[c0,c1,c2,c3])++ax y.to++List.drop 8 (ax y.var++[c0,c1,c2,c3])=dQ y:=λc0 c1 c2 c3=>by
  obtain⟨⟨o,n,s,a⟩,t⟩:=y;simp[ax,dQ]
 have l5:aK (l.take i)++[dQ y]=aK (l.take (i+1)):=(Zl7 l hy).symm;have dW:=aj7 @bl @bb @bg @hy @dz @bw @ae;refine cg 5 (aj3 (lT i l.length) @bl @ae) dW ((Zkk y.var (hb y hym).1)) ?_;refine oZ dW ((Zkk y.to (hb y hym).2)) (aj7 @h7 @l1 @l3 @l5 (eq_true (by rw[Taw];unfold al;omega):((l.take i).length+1<=al)=True) @dz @ae) ?_;exact EG
def Zuz(l:GP)(hl:l.length<=1048576)(hb:∀y∈l,ag (ax y.var)<=1048576/\ag (ax y.to)<=1048576):aT e0 78 [.I (.sl (aK l))] [] (sU (aK l)):=by
 have bl:=fE l;have bg:=rv l;have bb:=eI l;refine dX (ts:=[.slot 2]) [] 1965 Tryz.func78 ?_;refine fG (ai @bl @ae) ?_;refine pE [] [1000] vE ?_;have F:=aj3 @bl @Znl @ae;refine gL (ι:=Nat×AT×(GO)) [3,5,9,10] [3,1000] (λx=>[(9,GU x.1),(3,.Υ 3)]) (λx=>[(3,.Υ none 110 8 (x.2.1.map aY)),(1000,.set x.2.2 (λw=>bH w (aK (l.take x.1)) x.2.2 x.2.1))]) (λx=>x.1<=l.length/\x.2.1.length=x.1) (λx=>l.length-x.1) ((0,[],λ_=>False)) (⟨Taj _,rfl⟩) (λx hx=>?_)
 obtain⟨i,uss,E0⟩:=x;obtain⟨hi,hn⟩:=hx;simp only at hi hn;by_cases am:i<l.length;rotate_left
 ·obtain rfl:i=l.length:=by omega
  refine fG (aj3 (lF l.length l.length) @bl @ae) ?_;rw[Tap];refine pS 2 λa cap=>?_;refine pE [2,1000] [1000] (Cl (uss:=uss) (G':=λw=>bp w (.sl (aK l)) (λb=>aO (.slice a uss.length cap)=some b\/E0 b) (.slice a uss.length cap)) (λw h=>h) (bp.Κ _ _ _)) ?_;exact(have F:=on;ee (R:=sU (aK l)) [1000] ⟨.slice a uss.length cap,λb=>aO (.slice a uss.length cap)=some b\/E0 b,rfl,rfl,rfl⟩)
 obtain⟨y,hy⟩:∃y,l[i]?=some y:=⟨_,Taa am⟩;have hym:=Tac hy;have cV:=ZlS y.var (hb y hym).1;have cT:=ZlS y.to (hb y hym).2;have q2:(i+1<=al)=True:=eq_true (by unfold al;omega);have fV:=bW (k:=i) om;refine fN 5 (aj8 (lT i l.length) @bl @bb @bg @hy @dz @bw @ae) ?_
 /- gk cpbdJ -/
 refine gGx (X:=UU) [(0,GY (.sl (aK l))),(2,.Υ 2),(5,.ref 5 0),(7,GY (.sl (aK l))),(8,GU (l.length:Int)),(9,GU (i:Int))] [(2,.Υ none 110 8 []),(5,.var none (dQ y)),(1000,.set E0 (λw=>bH w (aK (l.take i)) E0 uss))] (λ_ x=>x.ok) (λx=>[([(13,.Υ 3)],[]),([(14,.ref 5 0)],[]),([(15,.d (.agg (ax y.var)))],[]),([(16,.d (.agg [.A (x.v 3 0),.A (x.v 3 1),.A (x.v 3 2),.A (x.v 3 3)]))],[(1003,.set (x.E 3) (λw=>aV w (ax y.var) (x.E 3) [x.v 3 0,x.v 3 1,x.v 3 2,x.v 3 3]))]),([(17,.ref 5 4)],[]),([(18,.d (.agg (ax y.to)))],[]),([(19,.d (.agg [.A (x.v 6 0),.A (x.v 6 1),.A (x.v 6 2),.A (x.v 6 3)]))],[(1006,.set (x.E 6) (λw=>aV w (ax y.to) (x.E 6) [x.v 6 0,x.v 6 1,x.v 6 2,x.v 6 3]))]),([(20,.d (.agg [.A (x.v 3 0),.A (x.v 3 1),.A (x.v 3 2),.A (x.v 3 3),.A (x.v 6 0),.A (x.v 6 1),.A (x.v 6 2),.A (x.v 6 3)]))],[(1003,.set (x.E 3) (λw=>aV w (ax y.var) (x.E 3) [x.v 3 0,x.v 3 1,x.v 3 2,x.v 3 3])),(1006,.set (x.E 6) (λw=>aV w (ax y.to) (x.E 6) [x.v 6 0,x.v 6 1,x.v 6 2,x.v 6 3]))]),([(21,.d (.Ζ [[.A (x.v 3 0),.A (x.v 3 1),.A (x.v 3 2),.A (x.v 3 3),.A (x.v 6 0),.A (x.v 6 1),.A (x.v 6 2),.A (x.v 6 3)]]))],[(1003,.set (x.E 3) (λw=>aV w (ax y.var) (x.E 3) [x.v 3 0,x.v 3 1,x.v 3 2,x.v 3 3])),(1006,.set (x.E 6) (λw=>aV w (ax y.to) (x.E 6) [x.v 6 0,x.v 6 1,x.v 6 2,x.v 6 3]))]),([(22,.Υ 22)],[(22,.Υ none 110 8 ((uss.map aY)++[[.A (x.v 3 0),.A (x.v 3 1),.A (x.v 3 2),.A (x.v 3 3),.A (x.v 6 0),.A (x.v 6 1),.A (x.v 6 2),.A (x.v 6 3)]])),(1003,.set (x.E 3) (λw=>aV w (ax y.var) (x.E 3) [x.v 3 0,x.v 3 1,x.v 3 2,x.v 3 3])),(1006,.set (x.E 6) (λw=>aV w (ax y.to) (x.E 6) [x.v 6 0,x.v 6 1,x.v 6 2,x.v 6 3]))]),([(3,.Υ 3)],[(3,.Υ none 110 8 ((uss.map aY)++[[.A (x.v 3 0),.A (x.v 3 1),.A (x.v 3 2),.A (x.v 3 3),.A (x.v 6 0),.A (x.v 6 1),.A (x.v 6 2),.A (x.v 6 3)]])),(1003,.set (x.E 3) (λw=>aV w (ax y.var) (x.E 3) [x.v 3 0,x.v 3 1,x.v 3 2,x.v 3 3])),(1006,.set (x.E 6) (λw=>aV w (ax y.to) (x.E 6) [x.v 6 0,x.v 6 1,x.v 6 2,x.v 6 3]))]),([(3,.Υ 3)],[]),([],[(3,.Υ none 110 8 (uss.map aY))])]) (λj=>([(0,9),(3,7),(6,7),(7,8),(8,9),(9,10),(11,9),(12,9)]:List (Nat×Nat)).lookup j) [11,12] (⟨by simp[gs],by simp[gm]⟩) (λj hj=>by simp only[Tbh,List.not_mem_nil,or_false]at hj;rcases hj with rfl|rfl<;>exact⟨UU.z,UU.z_ok,by simp[gs],by simp[gm]⟩) ⟨?_,?_,?_,?_,?_,?_,?_,?_,?_,?_,?_,trivial⟩ ?_
 ·intro s' m' hB hD hI hJ;refine n9 λF=>?_;obtain⟨x11,o11,Cc⟩:=ou.1 (hJ 11 (by decide) 9 rfl (by decide));simp only[gF,gz,List.getD_cons_zero,List.getD_cons_succ,and_true,true_and]at Cc;have F:=ai F Cc;refine vt ?_;exact xS hB (ou.2 ⟨UU.z,UU.z_ok,by simp[gF,gz,gs,gm,gq,Cc,UU.two,UU.vs,UU.sl]⟩)
 ·intro s' m' hB hD hI hJ;refine n9 λF=>?_;exact m140
 ·intro s' m' hB hD hI hJ;refine n9 λF=>?_;obtain⟨x1,o1,F1⟩:=ou.1 (hD 1 (by decide) (.inl rfl));simp only[gF,gz,List.getD_cons_zero,List.getD_cons_succ,and_true,true_and]at F1;have F:=ai F F1;refine vt ?_;exact xS hB (ou.2 ⟨UU.z,UU.z_ok,by simp[gF,gz,gs,gm,gq,F1,UU.two,UU.vs,UU.sl]⟩)
 ·intro s' m' hB hD hI hJ;refine n9 λF=>?_;obtain⟨x2,o2,F2⟩:=ou.1 (hD 2 (by decide) (.inl rfl));simp only[gF,gz,List.getD_cons_zero,List.getD_cons_succ,and_true,true_and]at F2;have F:=ai F F2;have F:=aj3 F dz ae;refine cQ [] [1003] (cV) ?_;exact m268
 ·intro s' m' hB hD hI hJ;refine n9 λF=>?_;exact m140
 ·intro s' m' hB hD hI hJ;refine n9 λF=>?_;obtain⟨x4,o4,F4⟩:=ou.1 (hD 4 (by decide) (.inl rfl));simp only[gF,gz,List.getD_cons_zero,List.getD_cons_succ,and_true,true_and]at F4;have F:=ai F F4;refine vt ?_;exact xS hB (ou.2 ⟨UU.z,UU.z_ok,by simp[gF,gz,gs,gm,gq,F4,UU.two,UU.vs,UU.sl]⟩)
 ·intro s' m' hB hD hI hJ;refine n9 λF=>?_;obtain⟨x5,o5,F5⟩:=ou.1 (hD 5 (by decide) (.inl rfl));simp only[gF,gz,List.getD_cons_zero,List.getD_cons_succ,and_true,true_and]at F5;have F:=ai F F5;have F:=aj3 F dz ae;refine cQ [] [1006] (cT) ?_;exact m268
 ·intro s' m' hB hD hI hJ;refine n9 λF=>?_;obtain⟨x3,o3,F3⟩:=ou.1 (hD 3 (by decide) (.inr rfl));obtain⟨x6,o6,F6⟩:=ou.1 (hD 6 (by decide) (.inr rfl));simp only[gF,gz,List.getD_cons_zero,List.getD_cons_succ,and_true,true_and]at F3;have F:=ai F F3;simp only[gF,gz,List.getD_cons_zero,List.getD_cons_succ,and_true,true_and]at F6
  have F:=ai F F6;have F:=ai F (UU.v_ok o3);have F:=ai F (UU.v_ok o6);refine vt ?_;exact xS hB (ou.2 ⟨(UU.two 3 x3 (x6)),(UU.two_ok o3 (o6)),by simp[gF,gz,gs,gm,gq,F3,F6,UU.two,UU.vs,UU.sl]⟩)
 ·intro s' m' hB hD hI hJ;refine n9 λF=>?_;obtain⟨x7,o7,F7⟩:=ou.1 (hD 7 (by decide) (.inr rfl));simp only[gF,gz,List.getD_cons_zero,List.getD_cons_succ,and_true,true_and]at F7;have F:=ai F F7;have F:=ai F (UU.v_ok o7);refine vt ?_;exact xS hB (ou.2 ⟨x7,o7,by simp[gF,gz,gs,gm,gq,F7,UU.two,UU.vs,UU.sl]⟩)
 ·intro s' m' hB hD hI hJ;refine n9 λF=>?_;obtain⟨x0,o0,F0⟩:=ou.1 (hD 0 (by decide) (.inr rfl));obtain⟨x8,o8,F8⟩:=ou.1 (hD 8 (by decide) (.inr rfl));obtain⟨x11,o11,Cc⟩:=ou.1 (hI 11 (by decide) (by decide));obtain⟨x12,o12,F12⟩:=ou.1 (hI 12 (by decide) (by decide));simp only[gF,gz,List.getD_cons_zero,List.getD_cons_succ,and_true,true_and]at F0
  have F:=ai F F0;simp only[gF,gz,List.getD_cons_zero,List.getD_cons_succ,and_true,true_and]at F8;have F:=ai F F8;simp only[gF,gz,List.getD_cons_zero,List.getD_cons_succ,and_true,true_and]at Cc;have F:=ai F Cc;simp only[gF,gz,List.getD_cons_zero,List.getD_cons_succ,and_true,true_and]at F12;have F:=ai F F12;have F:=ai F (UU.v_ok o8);have F:=aj5 F @on hn q2 ae;refine ip ?_;exact xE hB (ou.2 ⟨x8,o8,by simp[gF,gz,gs,gm,gq,F0,F8,Cc,F12,UU.two,UU.vs,UU.sl]⟩)
 ·intro s' m' hB hD hI hJ;refine n9 λF=>?_;obtain⟨x9,o9,F9⟩:=ou.1 (hD 9 (by decide) (.inr rfl));simp only[gF,gz,List.getD_cons_zero,List.getD_cons_succ,and_true,true_and]at F9;have F:=ai F F9;have F:=ai F (UU.v_ok o9);refine vt ?_;exact xE hB (ou.2 ⟨x9,o9,by simp[gF,gz,gs,gm,gq,F9,UU.two,UU.vs,UU.sl]⟩)
 intro s' m' hB hP;obtain⟨yX,o10,P10⟩:=hP 10 (.inl (by decide)) (λk h=>by simp[List.lookup]at h);refine⟨_,_,hB.app P10,?_⟩;simp only[Taf,Tah,List.append_nil,List.getD_cons_zero,List.getD_cons_succ]
 /- gk end cpbdJ -/
 refine⟨_,Wk.refl _,?_⟩;obtain⟨a0,qv⟩:∃a,a=yX.v 3 0:=⟨_,rfl⟩;obtain⟨a1,ha1⟩:∃a,a=yX.v 3 1:=⟨_,rfl⟩;obtain⟨a2,ha2⟩:∃a,a=yX.v 3 2:=⟨_,rfl⟩;obtain⟨a3,ha3⟩:∃a,a=yX.v 3 3:=⟨_,rfl⟩;obtain⟨b0,pO⟩:∃a,a=yX.v 6 0:=⟨_,rfl⟩;obtain⟨b1,f8⟩:∃a,a=yX.v 6 1:=⟨_,rfl⟩;obtain⟨b2,iG⟩:∃a,a=yX.v 6 2:=⟨_,rfl⟩;obtain⟨b3,uX⟩:∃a,a=yX.v 6 3:=⟨_,rfl⟩;obtain⟨E,hE⟩:∃a,a=yX.E 3:=⟨_,rfl⟩;obtain⟨F',hF⟩:∃a,a=yX.E 6:=⟨_,rfl⟩
 simp only[<- qv,<- ha1,<- ha2,<- ha3,<- pO,<- f8,<- iG,<- uX,<- hE,<- hF];refine pE [1003,1006] [1006] (CI (G':=λw=>aV w (dQ y) (λb=>E b\/F' b) [a0,a1,a2,a3,b0,b1,b2,b3]) (λw h1 h2 hd=>ZIb h1 h2 hd) (aV.Κ _ _ _)) ?_;refine pE [1000,1006] [1000] (CI (G':=λw=>bH w (aK (l.take (i+1))) (λb=>E0 b\/(E b\/F' b)) (uss++[[a0,a1,a2,a3,b0,b1,b2,b3]])) (λw h1 h2 hd=>?_) (bH.Κ _ _ _)) ?_
 ·rw[Zl7 l hy];exact m81
 have hl8:aY [a0,a1,a2,a3,b0,b1,b2,b3]=[.A a0,.A a1,.A a2,.A a3,.A b0,.A b1,.A b2,.A b3]:=rfl;have F:=aj4 @hl8 @fV (@Tbw.{0,0}) @ae;refine gG ?_;exact⟨(i+1,uss++[[a0,a1,a2,a3,b0,b1,b2,b3]],λb=>E0 b\/(E b\/F' b)),⟨am,by simp[hn]⟩,gw,gw,om⟩
noncomputable def ES(r:we):Bd:=⟨ne (r.take 4),ne (r.drop 4)⟩
def ZFx(b:Bd):ES (dQ b)=b:=by
 unfold ES;rw[Zyx,Zyy,Zmu,Zmu]
noncomputable def nd:we->GP
 |[.sl rows]=>rows.map ES
 |_=>[]
def Zn1(b:GP):nd [.sl (aK b)]=b:=by
 simp only[nd,aK,List.map_map]
 conv=>rhs;rw[<- List.map_id b]
 exact List.map_congr_left λy _=>ZFx y
def ZvI (l:List (GP)) (hn:l.Pairwise (·≠·)) (hl:l.length<=4000000):jH e0 34 61 1 (bD l) [.I (.fn 35 [])] (bD (eC aN l [])) []:=by
 have fw:∀a∈bD l,a=[.sl (aK (nd a))]:=λa ha=>by
  obtain⟨b,_,rfl⟩:=Tbj.1 ha;rw[Zn1]
 exact Zxz (Zzb (P:=Tryz.prog) rfl ZDS { ZDS with } (by kernel_rfl) (g:=35) (enters_of Tryz.func35 (by kernel_rfl) rfl) (rows:=bD l) (rows':=bD (eC aN l [])) (cf:=λa b=>aN (nd a) (nd b)) (by rw[vL];omega)
  (λa ha b hb=>by
   have h:=Zpt (nd a) (nd b);rw[fw a ha,fw b hb];simp only[List.headD_cons,Zn1];exact h)
  (λa _=>by rw[zL.self];omega) (λa _ b _ c _ h1 h2=>zL.lt h1 h2) (λa _ b _ c _ h1 h2=>zL.ge h1 h2)
  (λm hp hs=>by
   have iR:∀a∈m,a=[.sl (aK (nd a))]:=λa ha=>fw a (hp.mem_iff.1 ha);have qD:(bD l).map nd=l:=by
    simp only[bD,List.map_map]
    conv=>rhs;rw[<- List.map_id l]
    exact List.map_congr_left λb _=>Zn1 b
   have nA:(m.map nd).Perm l:=by have:=hp.map nd;rwa [qD]at this
   have Av:(m.map nd).Pairwise λa b=>¬aN b a<0:=by
    refine List.pairwise_iff_getElem.2 λi j hi hj qW=>?_;simp only[List.getElem_map];simp only[Tay]at hi hj;exact hs i j m[i] m[j] qW (Taa hi) (Taa hj)
   have e:=ZyG zL nA hn Av;rw[<- e];simp only[bD,List.map_map]
   conv=>lhs;rw[<- List.map_id m]
   exact List.map_congr_left λa ha=>iR a ha))
def ZuA(l:List (GP))(hl:l.length<=1048576)(h:∀b∈l,b.length<=1048576/\∀y∈b,ag (ax y.var)<=1048576/\ag (ax y.to)<=1048576):aT e0 36 [.I (.sl (bD l))] [] (sU (bD l)):=by
 have hz:bD []=[]:=rfl;refine dX (ts:=[.slot 2]) [] 1965 Tryz.func36 ?_;refine fG (ai @re @ae) ?_;refine pE [] [1000] vE ?_;have F:=aj3 @hz @re @ae;refine gL (ι:=Nat×AT×(GO)) [3,5,9,10] [3,1000] (λx=>[(9,GU x.1),(3,.Υ 3)]) (λx=>[(3,.Υ none 61 1 (x.2.1.map aY)),(1000,.set x.2.2 (λw=>bH w (bD (l.take x.1)) x.2.2 x.2.1))]) (λx=>x.1<=l.length/\x.2.1.length=x.1) (λx=>l.length-x.1) ((0,[],λ_=>False)) (⟨Taj _,rfl⟩) (λx hx=>?_)
 obtain⟨i,uss,E0⟩:=x;obtain⟨hi,hn⟩:=hx;simp only at hi hn;by_cases am:i<l.length
 ·obtain⟨b,hg⟩:∃b,l[i]?=some b:=⟨_,Taa am⟩;obtain⟨h1,h2⟩:=h b (Tac hg);have wi:=bW (k:=i) om;have q2:i+1<=al:=by unfold al;omega
  have qZ:bD (l.take (i+1))=bD (l.take i)++[[.sl (aK b)]]:=by rw[List.take_add_one,hg,ZjM];rfl
  refine fB (aj4 (lT i l.length) @hg @re @ae) ?_;have F:=@ae;refine cQ [] [1001] ((Zuz b h1 h2)) ?_;rintro r pm ⟨u0,E2,rfl,aq,rfl⟩;refine m7 ?_;have wq:aY [u0]=[.A u0]:=rfl;refine fR (aj6 @wq @on @hn @q2 @aq @ae) ?_;refine pE [1001] [1001] (CN [.sl E2 (aK b) u0]) ?_ (hp:=rfl);obtain⟨E4,hE4⟩:∃E,E=dP (nb [.sl E2 (aK b) u0]):=⟨_,rfl⟩;rw[<- hE4];refine pE [1000,1001] [1000] (CI (G':=λw=>bH w (bD (l.take (i+1))) (λb=>E0 b\/E4 b) (uss++[[u0]])) (λw h1 h2 hd=>?_) (bH.Κ _ _ _)) ?_
  ·rw[qZ];exact m81
  have F:=aj4 @wq @wi (@Tbw.{0,0}) @ae;refine gG ?_;exact⟨(i+1,uss++[[u0]],λb=>E0 b\/E4 b),⟨am,by simp[hn]⟩,gw,gw,om⟩
 ·obtain rfl:i=l.length:=by omega
  refine fG (aj3 (lF l.length l.length) @re @ae) ?_;rw[Tap];refine pS 2 λa cap=>?_;refine pE [2,1000] [1000] (Cl (uss:=uss) (G':=λw=>bp w (.sl (bD l)) (λb=>aO (.slice a uss.length cap)=some b\/E0 b) (.slice a uss.length cap)) (λw h=>h) (bp.Κ _ _ _)) ?_;exact(have F:=on;ee (R:=sU (bD l)) [1000] ⟨.slice a uss.length cap,λb=>aO (.slice a uss.length cap)=some b\/E0 b,rfl,rfl,rfl⟩)
def RNwP(ty sz:Nat)(rows:sh)(r:AS)(pm:GQ):Prop:=∃a cap,r=[.I (.A (.slice a rows.length cap))]/\pm=[.Υ (some (a,cap)) ty sz rows]
def ZrQ(t:Tm)(hb:ag (ax t)<=1048576):aT e0 32 [.agg (ax t)] [] (RNwP 46 4 (az (dq t))):=by
 have hv:=Zq7 hb;refine dX (ts:=[.slot 2]) [] 31 Tryz.func32 ?_;refine m30 λa cap b3 b4 aP fI fh Ac ca F=>?_;rintro r pm ⟨a2,du,rfl,rfl⟩;refine m183 λF=>?_;rintro r pm ⟨rfl,rfl⟩;refine m7 ?_;refine fR @ae ?_;exact(have F:=cc;ee (R:=RNwP 46 4 (az (dq t))) [5] ⟨a2,du,rfl,rfl⟩)
section
variable{g:Sgn}
def Zzd{v:Tm}(hv:dp g v)(aj:AI):Zsj aj v=dN aj v:=by
 have e:dq v=[v]:=by
  obtain⟨op,nm,so,args⟩:=v;have h1:op=-1:=hv.1;have h2:args=[]:=hv.2.2.2.2;subst h1 h2;rfl
 unfold Zsj;rw[e];simp
def ZDT{B:GP}{i:Nat}{y:Bd}(h:B[i]?=some y)(p:Bd->Bool):(B.take (i+1)).filter p=(B.take i).filter p++(if p y=true then[y]else[]):=by
 rw[List.take_add_one,h,List.filter_append];simp[List.filter_cons]
def oL(b:Nat)(x:Option (List (GP)×Nat))(r:AS)(pm:GQ):Prop:=∃(o:List (GP))(n:Nat),r=[.I (.sl (bD o)),GW x.isSome]/\pm=[.var (some b) [GS n]]/\(∀p,x=some p->o=p.1/\n=p.2)/\o.length<=65
def Zze (cZ:kL g) (hg:SgnOk g) (hF:jb g) {aj:AI} (d8:dI aj) (jN:aj.length<=1000) (b:Nat):∀(n:Nat){out:List (GP)}{left:Nat}{st:USt}{L:AI},UInv g L st->left<n->left<=3000->lt g out->out.length<=64->st.Γ.length+7*left<=30000 ->
  aT e0 54 [.agg (ck g),.agg (fp st),.I (.sl (az aj)),.I (.sl (bD out)),.I (.A (.pointer (some ⟨b,0,none⟩)))] [.var (some b) [GS left]] (oL b (oR g aj n (out,left) st)):=by
 intro n
 induction n with
 |zero=>exactλ{out left st L}_ h=>absurd h om
 |succ n ih =>
 intro out left ⟨B,r,c⟩ L hI am h3 hO pX c9;simp only at c9;have hBg:=hI.bg;simp only at hBg;have bB:=fE B;have gB':=rv B;have b8:=λl=>eI l;have br:=fE r;unfold oR;simp only[ck,fp]
 cases r with
 | nil =>
  have hob:uN B:=λy hy=>⟨sr hg (hI.tm.b y hy).1.term,sr hg (hI.tm.b y hy).2⟩;have cI:=Zut (lt.ok hg hO) (b:=B.filter λy=>dN aj y.var) (λy hy=>hob y (List.mem_filter.1 hy).1) (Tbe (List.length_filter_le _ _) om) om;have e7:=Zus (B.filter λy=>dN aj y.var) out;have sl:=vL (cb aN (B.filter λy=>dN aj y.var) out);have f0:aK []=[]:=rfl;have l0:(((0:Nat):Int)=0)=True:=eq_true rfl
  refine dX (ts:=[.slot 10,.slot 11]) [1000] 18889501960344387583103 Tryz.func54 ?_;refine fN 2 (aj3 @br @l0 @ae) ?_;refine fG (ai @f0 @ae) ?_;have F:=ai @f0 @ae;refine gL (ι:=Nat) [12,13,26,36] [12] (λi=>[(13,GU i),(12,.Υ 12)]) (λi=>[(12,.Υ none 110 8 (aK ((B.take i).filter λy=>dN aj y.var)))]) (λi=>i<=B.length) (λi=>B.length-i) (0) (Taj _) (λi hi=>?_);clear F
  by_cases am:i<B.length
  ·have q1:=lT i B.length;obtain⟨y,hy⟩:∃y,B[i]?=some y:=⟨_,Taa am⟩;have hyO:=hI.tm.b y (Tac hy);have cW:=ZrM (vs:=aj) (sr hg hyO.1.term) d8 (by have:=zf hyO.1.term.Η;have:=hyO.1.term.size;omega) om;rw[Zzd hyO.1]at cW;have wi:=bW (k:=i) om;have jM:=ZDT hy λy=>dN aj y.var;refine fN 6 (aj3 @q1 @bB @ae) ?_;refine gB ?_;refine fC (aj8 @gB' @b8 @hy @am @bB @bw @dz @ae) (cW) ?_
   cases hh:dN aj y.var with
   |false =>
    rw[if_neg (by simp[hh]),List.append_nil]at jM;rw[<- jM];refine fR @ae ?_;have F:=ai @wi @ae;refine gG ?_;exact⟨i+1,am,gw,gw,om⟩
   | true =>
    rw[if_pos (by simp[hh])]at jM;have fl:=fE ((B.take i).filter λy=>dN aj y.var);have fb:=eI ((B.take i).filter λy=>dN aj y.var);have nN:((B.take i).filter λy=>dN aj y.var).length+1<=al:=by
     have h1:=List.length_filter_le (λy=>dN aj y.var) (B.take i);rw[Taw]at h1;unfold al;omega
    have fa:aK ((B.take i).filter λy=>dN aj y.var)++[dQ y]=aK ((B.take (i+1)).filter λy=>dN aj y.var):=by rw[jM,sq];rfl
    refine fR @ae ?_;have F:=aj13 @gB' @b8 @hy @am @bB @bw @fl @fb @nN @fa @wi @dz @ae;refine gG ?_;exact⟨i+1,am,gw,gw,om⟩
  obtain rfl:i=B.length:=by omega
  have q1:=lF B.length B.length;rw[Tap];refine fN 8 (aj3 @q1 @bB @ae) ?_;refine gB ?_;refine fC @ae (cI) ?_;refine fR @ae ?_;simp only;by_cases rF:(cb aN (B.filter λy=>dN aj y.var) out).length<=64
  ·have q2:(((cb aN (B.filter λy=>dN aj y.var) out).length:Int)<=64)=True:=eq_true om;have hR:oL b ((fQ (cb aN (B.filter λy=>dN aj y.var) out)).map λo=>(o,left)) [.I (.sl (bD (cb aN (B.filter λy=>dN aj y.var) out))),GW true] [.var (some b) [GS left]]:=by
    rw[tZ rF];exact⟨_,_,rfl,rfl,λp hp=>(by injection hp with hp;subst hp;exact⟨rfl,rfl⟩),om⟩
   refine fG (aj3 @q2 @sl @ae) ?_;exact(have F:=ae;ee (R:=oL _ _) [1000] hR)
  ·have q2:(((cb aN (B.filter λy=>dN aj y.var) out).length:Int)<=64)=False:=eq_false om;have hR:oL b ((fQ (cb aN (B.filter λy=>dN aj y.var) out)).map λo=>(o,left)) [.I (.sl (bD (cb aN (B.filter λy=>dN aj y.var) out))),GW false] [.var (some b) [GS left]]:=by
    rw[uB rF];exact⟨_,_,rfl,rfl,λp hp=>(by cases hp),om⟩
   refine fG (aj3 @q2 @sl @ae) ?_;exact(have F:=ae;ee (R:=oL _ _) [1000] hR)
 | cons e r =>
  rw[Tag]at c9;simp only;obtain⟨R,wh⟩:∃R:GP,R=e::r:=⟨_,rfl⟩;have l0:((R.length:Int)=0)=False:=eq_false (by rw[wh,Tag];omega);rw[<- wh]at br⊢;by_cases hl:left=0
  ·subst hl;have hR:oL b (if(0:Nat)=0 then none else(uf g B c e.var e.to r).bind (bI (oR g aj n) (out,0-1))) [.I (.sl []),GW false] [.var (some b) [GS (0:Nat)]]:=by
    rw[if_pos rfl];exact⟨[],0,rfl,rfl,λp hp=>(by cases hp),Taj _⟩
   have z0:(((0:Nat):Int)=0)=True:=eq_true rfl;refine dX (ts:=[.slot 10,.slot 11]) [1000] 18889501960344387583103 Tryz.func54 ?_;refine fG (aj4 @br @l0 @z0 @ae) ?_;refine rp (vH [10] (by have F:=@ae;exact iK)) λy' G6=>?_
   subst G6;exact(have F:=ae;ee (R:=oL _ _) [1000] hR)
  rw[if_neg hl];have Ag:((left:Int)=0)=False:=eq_false om;have wl:IntKind.i64.wrap ((left:Int)-1)=((left-1:Nat):Int):=kJ om om om;have he:=hI.tm.Γ e Tas;have cw:=hI.Γ e Tas;have um:UInv g L ⟨B,r,c⟩:=hI.drop λz hz=>⟨hI.tm.Γ z (Tal _ hz),hI.Γ z (Tal _ hz)⟩;have tE:=λl(h1:uf g B c e.var e.to r=some l)=>ZkE hg hF um ⟨he.1,cw.1⟩ ⟨he.2,cw.2⟩ h1;have bh:=λl(h1:uf g B c e.var e.to r=some l)=>ZFm hg hF um ⟨he.1,cw.1⟩ ⟨he.2,cw.2⟩ h1
  have cN:=ZDz cZ hg hF um ⟨he.1,cw.1⟩ ⟨he.2,cw.2⟩ om;simp only[ck,fp]at cN ih;rw[show(⟨e.var,e.to⟩:Bd)=e from rfl,<- wh]at cN;refine dX (ts:=[.slot 10,.slot 11]) [1000] 18889501960344387583103 Tryz.func54 ?_;refine fN 13 (aj5 @br @l0 @Ag @wl @ae) ?_;refine gB ?_;have F:=@ae;refine xg (cN) ?_;clear F;rintro r' ⟨l,rfl,hW,Ah⟩;refine fR (aj3 @yD @aD.eq_1 @ae) ?_;clear cN;generalize uf g B c e.var e.to r=W at hW tE bh⊢
  have aZ:0<=l.length/\(W.isSome->W=some l/\bI (oR g aj n) (out,left-1) (l.take 0)=some (out,left-1))/\(W.isSome=false->(W.bind (bI (oR g aj n) (out,left-1)))=none)/\out.length<=65:=⟨Taj _,λh=>by
   cases W with
   |none=>cases h
   |some m=>exact⟨by rw[hW m rfl],rfl⟩,λh=>(by
   cases W with
   |none=>rfl
   |some m=>cases h),om⟩
  refine fG @ae ?_;have F:=@ae;refine gL (ι:=Nat×(List (GP)×Nat)×Bool) [3,15,16,74] [1000] (λw=>[(16,GU w.1),(3,GY (.sl (bD w.2.1.1))),(15,GX w.2.2)]) (λw=>[(1000,.var (some b) [GS w.2.1.2])]) (λw=>w.1<=l.length/\(w.2.2->W=some l/\bI (oR g aj n) (out,left-1) (l.take w.1)=some w.2.1)/\(w.2.2=false->(W.bind (bI (oR g aj n) (out,left-1)))=none)/\w.2.1.1.length<=65) (λw=>l.length-w.1) ((0,(out,left-1),W.isSome)) (aZ) (λw hw=>?_);clear F
  obtain⟨i,⟨o,m⟩,ok⟩:=w;obtain⟨hi,hy,hn,DR⟩:=hw;simp only at hi hy hn DR;dsimp only;have ll:=uI l;have lB:=wd l;have fq:(ok->i=l.length)->oL b (W.bind (bI (oR g aj n) (out,left-1))) [.I (.sl (bD o)),GW ok] [.var (some b) [GS m]]:=λhe=>by
   cases ok with
   |false=>exact⟨o,m,by rw[hn rfl];rfl,rfl,λp h=>(by rw[hn rfl]at h;cases h),DR⟩
   |true =>
    obtain⟨h1,h2⟩:=hy rfl;have:=he rfl;subst this;rw[Tap]at h2;exact⟨o,m,by rw[h1,Option.bind_some,h2];rfl,rfl,λp h=>(by rw[h1,Option.bind_some,h2]at h;injection h with h;subst h;exact⟨rfl,rfl⟩),DR⟩
  by_cases am:i<l.length;rotate_left
  ·have q2:=lF i l.length;have hR:=fq λ_=>om;refine fG (aj3 @q2 @ll @ae) ?_;exact(have F:=ae;ee (R:=oL _ _) [1000] hR)
  have q2:=lT i l.length
  cases ok with
  |false =>
   have hR:=fq λh=>by cases h
   refine fG (aj3 @q2 @ll @ae) ?_;exact(have F:=ae;ee (R:=oL _ _) [1000] hR)
  |true =>
  clear fq hn;obtain⟨Aa,mv⟩:=hy rfl;obtain⟨s,hs⟩:∃s,l[i]?=some s:=⟨_,Taa am⟩;obtain⟨L',nJ⟩:=tE l Aa s (Tac hs);have lS:=bh l Aa s (Tac hs);obtain⟨j1,j2,j3⟩:=CG (I:=λq:List (GP)×Nat=>lt g q.1/\q.1.length<=64/\q.2<=left-1) mv ⟨hO,pX,Tai _⟩ λs hs q q' hq hi=>by
    obtain⟨L',nJ⟩:=tE l Aa s (List.mem_of_mem_take hs);obtain⟨i1,i2,i3⟩:=hi;obtain⟨j1,j2,j3⟩:=ZnX hg hF n nJ i1 i2 hq;exact⟨j1,j2,om⟩
  simp only at j1 j2 j3;have cR:=ih (out:=o) (left:=m) nJ om om j1 j2 om;have gi:(l.map fp)[i]?=some [.sl (aK s.b),.sl (aK s.Γ),GS s.Δ]:=by rw[Tba,hs];rfl
  have fV:=bW (k:=i) om;have da:=zi (f:=oR g aj n) (b:=(out,left-1)) hs;rw[mv,Option.bind_some]at da;refine fN 17 (aj3 @q2 @ll @ae) ?_;refine rE ?_;refine zR 10 11 ?_;refine zR 11 12 ?_;have F:=ae;refine xh 12 [1000] [0,1,2,3,4,5,6,7] [8,9,10,11] ?_;clear F;have F:=aj6 gi ll lB am @bw ae;refine uk ?_;clear F;have F:=ae;refine tq [1000] [1000] cR ?_;clear F;rintro r'' pm ⟨o',m',rfl,rfl,h1,h65⟩
  simp only[aD,aQ,aM,Taf,Tah];have F:=ae;refine tr ?_;clear F;refine fR @ae ?_
  cases hb:oR g aj n (o,m) s with
  |none =>
   rw[hb]at da;have sI:(W.bind (bI (oR g aj n) (out,left-1)))=none:=by rw[Aa,Option.bind_some];exact yp da
   have z0:(none:Option (List (GP)×Nat)).isSome=false:=rfl;have F:=aj3 @z0 @fV @ae;refine gG ?_;exact⟨(i+1,(o',m'),false),⟨am,λh=>(by cases h),λ_=>sI,h65⟩,gw,gw,om⟩
  |some u =>
   obtain⟨rfl,rfl⟩:=h1 u hb;rw[hb]at da;have z1:(some u).isSome:=rfl;have F:=aj3 @z1 @fV @ae;refine gG ?_;exact⟨(i+1,u,true),⟨am,λ_=>⟨Aa,da⟩,λh=>(by cases h),h65⟩,gw,gw,om⟩
end
section
variable{g:Sgn}{p t:Tm}{cs:AI}
def Zzf(g:Sgn)(vs xs:AI):Prop:=∀(i:Nat)v x,vs[i]?=some v->xs[i]?=some x->(av g x).testBit v.sort.toNat=true
def Zzf.cons{v x:Tm}{vs xs:AI}:Zzf g (v::vs) (x::xs)↔(av g x).testBit v.sort.toNat=true/\Zzf g vs xs:=by
 constructor
 ·exactλh=>⟨h 0 v x rfl rfl,λi a b h1 h2=>h (i+1) a b h1 h2⟩
 ·rintro⟨h1,h2⟩ i a b ha hb
  cases i with
  |zero =>
   simp only[Tat,Taq]at ha hb;subst ha hb;exact h1
  |succ i=>exact h2 i a b ha hb
end
section
variable{g:Sgn}{p t:Tm}{cs:AI}
end
section
variable{g:Sgn}
end
section
variable{g:Sgn}
end
section
variable{g:Sgn}
def TermOk.sub{op:Int}{nm:ByteArray}{so:Int}{ts:AI}(h:TermOk g (.mk op nm so ts)){a:Tm}(ha:a∈ts):TermOk g a:=by
 have s1:=kv ha;have s2:=Zig ha;have s3:=h.size;have s4:=h.depth;simp only[ah,aH]at s3 s4;exact⟨om,om,((mH.1 h.Η).2.1 a ha)⟩
end
section
variable{g:Sgn}
end
section
variable{g:Sgn}{p t:Tm}
def ZDU:∀(n:Nat)(t:Tm),ah t<n->e6 g t->∀v∈gf t,dp g v:=by
 intro n
 induction n with
 |zero=>exactλt h=>absurd h om
 | succ n ih =>
  intro t hn ht v hv;have key:∀{ts:AI},v∈iA ts->∃a∈ts,v∈gf a:=by
   intro ts
   induction ts with
   |nil=>intro h;simp[iA]at h
   |cons x xs ih =>
    intro h;simp only[iA,Tbi]at h;rcases h with h|h
    ·exact⟨x,Tas,h⟩
    ·obtain⟨a,ha,h⟩:=ih h;exact⟨a,Tal _ ha,h⟩
  by_cases bE:t.op=-1
  ·have hV:dp g t:=by
    rcases ht.node with h|⟨o,d,h⟩
    ·exact h
    ·have:=h.lo;omega
   obtain⟨op,nm,so,args⟩:=t;simp only[Tm.op]at bE;have qv:args=[]:=hV.2.2.2.2;subst bE qv;simp only[gf,if_pos,Tbk]at hv;rw[hv];exact hV
  ·have e:gf t=iA t.Y:=by
    obtain⟨op,nm,so,args⟩:=t;simp only[Tm.op]at bE;simp only[gf,if_neg bE,Tm.Y]
   rw[e]at hv;obtain⟨a,ha,hv⟩:=key hv;have:=kv ha;have:=iB t;exact ih a om ((mH.1 ht).2.1 a ha) v hv
def zJ(ht:TermOk g p):∀v∈dq p,dp g v:=λv hv=>ZDU _ p (Tan _) ht.Η v (Fi.1 hv)
mutual
theorem Zrv:∀t:Tm,(gf t).length<=ah t
 |.mk op nm so args=>by
  have:=Zpu args;simp only[gf,ah];split
  ·simp only[Tag,Tak];omega
  ·omega
theorem Zpu:∀ts:AI,(iA ts).length<=au ts
 |[]=>by simp[iA]
 |t::ts=>by
  have h1:=Zrv t;have h2:=Zpu ts;simp only[iA,au,Tae];omega
end
def Zrw(t:Tm):(dq t).length<=ah t:=Tbe (Zkj _) (Zrv t)
end
def m189(h:G3:=by
 obtain⟨h1,h2⟩:=Tad.1 sJ;rw[List.drop_eq_getElem_cons h1,h2];rfl):G3:=h
def m157(h:G3:=by
 rw[hd,hb,show decide (some b≠some (119:UInt8))=true from decide_eq_true λq=>h9 (by injection q),Bool.true_and]):G3:=h
def m78(h:G3:=by
 refine fR @ae ?_;have F:=ai @hz @ae;refine gG ?_;exact xi [6]):G3:=h
def iy(vs:AI):Bool:=vs.all λv=>decide (v.name[0]?≠some 119)
def Bf{vs:AI}:iy vs=true↔fk vs:=by simp[iy,fk]
def ic(x y:Tm):AI:=pB (dq x++dq y)
def Zzg(x y:Tm):(dq y).foldl (λr t=>fm t r) (dq x)=ic x y:=by
 have e:pB (dq x)=dq x:=ZqQ (Cq _) λ_=>Iff.rfl;unfold ic;rw[show pB (dq x++dq y)=(dq y).foldl (λr t=>fm t r) (pB (dq x)) by simp[pB,List.foldl_append],e]
def sX{x y v:Tm}:v∈ic x y↔v∈dq x\/v∈dq y:=by
 unfold ic;rw[Fi,Tbi]
def xW{x y:Tm}:fk (ic x y)↔fk (dq x)/\fk (dq y):=by
 unfold fk;constructor
 ·exactλh=>⟨λv hv=>h v (sX.2 (.inl hv)),λv hv=>h v (sX.2 (.inr hv))⟩
 ·rintro⟨h1,h2⟩ v hv;exact(sX.1 hv).elim (h1 v) (h2 v)
def ZHd{g:Sgn}{v:Tm}(h:dp g v):∃b:UInt8,v.name[0]?=some b:=by
 have h1:1<=v.name.size:=by
  have:=h.2.1;unfold jc at this;simp only[Tar,decide_eq_true_eq]at this;exact this.1.1.1.1
 exact⟨v.name[0]'h1,getElem?_pos v.name 0 h1⟩
section
variable{g:Sgn}
def ZhM:s5 g=true↔jb g/\SgnOk g:=by
 unfold s5;rw[Tar,List.all_eq_true];constructor
 ·rintro⟨h1,h2⟩;refine⟨λo ho=>?_,Zlo.1 h2⟩;have:=h1 o ho;simp only[zI,Tar,Bool.not_eq_true',decide_eq_true_eq]at this;exact this
 ·rintro⟨h1,h2⟩;exact⟨λo ho=>by simp[zI,(h1 o ho).1,(h1 o ho).2],Zgk h2⟩
def Zl8(hg:SgnOk g){t:Tm}(ht:TermOk g t)(hb:ag (ax t)<=1048576):aI e0 22 [.agg (ax t)] [GW (iy (dq t))]:=by
 have hv:=zJ ht;have hl:(dq t).length<=1048577:=by have:=Zhz t;omega
 refine gI 525343 Tryz.func22 ?_;refine cq 1 @ae @ae ((Zgq (sr hg ht) hb)) @ae ?_;generalize dq t=vs at *;have le:=cc vs;have ge:=rt vs;have be:=uL vs;refine fG @ae ?_;have F:=@ae;refine gL (ι:=Nat) [2,4,10,19] [] (λi=>[(4,GU i)]) (λi=>[]) (λi=>i<=vs.length/\iy vs=iy (vs.drop i)) (λi=>vs.length-i) (0) (⟨Taj _,rfl⟩) (λi hi=>?_)
 obtain⟨hi,he⟩:=hi;rw[he];by_cases am:i<vs.length;rotate_left
 ·exact fT (aj4 (lF i vs.length) @le (by rw[List.drop_eq_nil_of_le om];rfl:iy (vs.drop i)) @ae)
 have q1:=lT i vs.length;obtain⟨v,sJ⟩:∃v,vs[i]?=some v:=⟨_,Taa am⟩;obtain⟨b,hb⟩:=ZHd (hv v (Tac sJ));have hd:iy (vs.drop i)=(decide (v.name[0]?≠some 119)&&iy (vs.drop (i+1))):=by
  exact m189
 have wi:=bW (k:=i) om;have t0:Int.toNat 0=0:=rfl;by_cases h9:b=119
 ·rw[(by rw[hd,hb,h9];rfl:iy (vs.drop i)=false)];exact fT (aj11 @q1 (eq_true (by rw[h9];rfl):((b.toNat:Int)=119)=True) @le @ge @be @sJ @am @hb @t0 @bw @ae)
 ·have hn:b.toNat≠119:=λq=>h9 (UInt8.toNat_inj.1 (by rw[q];rfl));have hf:iy (vs.drop i)=iy (vs.drop (i+1)):=by
   exact m157
  have F:=aj12 @q1 (eq_false om:((b.toNat:Int)=119)=False) @le @ge @be @sJ @am @hb @t0 @bw @wi @ae;refine gG ?_;exact⟨i+1,⟨am,hf⟩,gw,gw,om⟩
noncomputable def jR(g:Sgn)(aj:AI)(x y:Tm):Option (List (GP)):=if aj.length<=8 then Zy6 g aj x y else none
def wD(x:Option (List (GP)))(r:AS):Prop:=∃o:List (GP),r=[.I (.sl (bD o)),GW x.isSome]/\(∀p,x=some p->o=p)/\o.length<=65
def Zpv{v a:Tm}:∀{ts:AI},a∈ts->v∈gf a->v∈iA ts
 |x::xs,hm,hv=>by
  simp only[iA,Tbi];rcases Tbh.1 hm with rfl|hm
  ·exact .inl hv
  ·exact .inr (Zpv hm hv)
def ZuD{v:Tm}(hv:v.op=-1):∀(n:Nat){t:Tm},ah t<n->TermOk g t->bR v t->v∈gf t
 |0,_,h,_,_=>om
 | n+1,t,h,ht,ho=>by
  by_cases bE:t.op=-1
  ·have hV:=ht.varOk bE;have e:=(vP hV.2.2.2.2).1 ho;obtain⟨op,nm,so,args⟩:=t;simp only[Tm.op]at bE;subst bE;have ha:args=[]:=hV.2.2.2.2;rw[e,ha];simp[gf]
  ·rcases uA.1 ho with e|⟨a,ha,hoa⟩
   ·rw[e]at hv;exact absurd hv bE
   ·have hs:=iB t;have hm:=kv ha;have h1:=ZuD hv n om (ht.arg ha) hoa;obtain⟨op,nm,so,args⟩:=t;simp only[Tm.op,Tm.Y]at bE ha;simp only[gf,if_neg bE];exact Zpv ha h1
def Ba{t:Tm}(ht:TermOk g t){L:AI}(hL:∀v∈dq t,v∈L):Live L t:=λv hv ho=>hL v (Fi.2 (ZuD hv _ (Tan _) ht ho))
def ZrR (cZ:kL g) (hg:SgnOk g) (hF:jb g) {x y:Tm} (hx:TermOk g x) (hy:TermOk g y) (ho:fk (ic x y)):fX e0 23 [.agg (ck g),.agg (ax x),.agg (ax y)] (wD (jR g (ic x y) x y)):=by
 have DC:ag (ax x)<=1048576:=by have:=zf hx.Η;have:=hx.size;omega
 have tw:ag (ax y)<=1048576:=by have:=zf hy.Η;have:=hy.size;omega
 have cX:=Zgq (sr hg hx) DC;have cY:=Zgq (sr hg hy) tw;have hvx:=zJ hx;have Gv:=zJ hy;have hlx:=Zrw x;have hly:=Zrw y;have hsx:=hx.size;have hsy:=hy.size;have rc:∀v∈ic x y,dp g v:=λv hv=>(sX.1 hv).elim (hvx v) (Gv v);have mv:=Zzg x y;have tG:(ic x y).length<=120:=Tbe (Zkj _) (by rw[Tae];omega);have aZ:=λh8=>ZmF hg hx hy rc h8 ho (Ba hx λv hv=>sX.2 (.inl hv)) (Ba hy λv hv=>sX.2 (.inr hv))
 have le:=cc (dq y);have ge:=rt (dq y);have be:=uL (dq y);have l2:=cc (ic x y);simp only[ck];refine Dg 1074270207 Tryz.func23 ?_;refine cq 1 @ae @ae (cX) @ae ?_;refine cq 2 @ae @ae (cY) @ae ?_;clear cX cY;refine fG @ae ?_;have F:=@ae;refine gL (ι:=Nat) [8,10,19] [] (λi=>[(10,GU i),(8,GY (.sl (az (((dq y).take i).foldl (λr t=>fm t r) (dq x)))))]) (λi=>[]) (λi=>i<=(dq y).length) (λi=>(dq y).length-i) (0) (Taj _) (λi hi=>?_)
 by_cases am:i<(dq y).length
 ·have q1:=lT i ((dq y).length);obtain⟨v,sJ⟩:∃v,(dq y)[i]?=some v:=⟨_,Taa am⟩;have nN:=Zlx (l:=(dq y).take i) (r:=dq x) (Cq _)
  have cI:=ZlN (((dq y).take i).foldl (λr t=>fm t r) (dq x)) v (ZlU.2 λu hu=>((nN.2 u).1 hu).elim (λh=>sr hg (Gv u (List.mem_of_mem_take h)).term) λh=>sr hg (hvx u h).term) (sr hg (Gv v (Tac sJ)).term) (by
   have h1:∀(l r:AI),(l.foldl (λr t=>fm t r) r).length<=l.length+r.length:=λl=>by
    induction l with
    |nil=>intro r;simp
    |cons a l ih =>
     intro r;have:=ih (fm a r);have:=ZlO a r;simp only[List.foldl_cons,Tag];omega
   have:=h1 ((dq y).take i) (dq x);rw[Taw]at this;omega)
  have aZ:((dq y).take (i+1)).foldl (λr t=>fm t r) (dq x)=fm v (((dq y).take i).foldl (λr t=>fm t r) (dq x)):=by
   rw[List.take_add_one,sJ];simp[List.foldl_append]
  rw[<- aZ]at cI;refine cq 6 (aj3 @q1 @le @ae) (aj7 @ge @be @sJ @am @le @bw @ae) (cI) @ae ?_;exact EG
 obtain rfl:i=(dq y).length:=by omega
 have q1:=lF ((dq y).length) ((dq y).length);rw[Tap,mv];by_cases h8:(ic x y).length<=8;rotate_left
 ·have hR:wD (jR g (ic x y) x y) [.I (.sl []),GW false]:=by
   unfold jR;rw[if_neg h8];exact⟨[],rfl,λp h=>(by cases h),Taj _⟩
  refine fG (aj5 @q1 (lT 8 ((ic x y).length)) @le @l2 @ae) ?_;exact(have F:=ae;pc (R:=wD _) [6] hR)
 have q2:=lF 8 ((ic x y).length);have cS:=λb=>ZkF (Zze cZ hg hF (ZlU.2 λu hu=>sr hg (rc u hu).term) om b 3001 (aZ h8) om (Tai 3000) (out:=[]) (λo ho=>by cases ho) (Taj _) (by show 1+7*3000<=30000;omega)) (args':=[.agg (ck g),.agg (fp (rd x y)),.I (.sl (az (ic x y))),.Ζ [],.I (.A (.pointer (some ⟨b,0,none⟩)))]) (λw S us h=>by
  match us,h with
  |[u0,u1,u2,u3,u4],h =>
   obtain⟨h0,h1,h2,h3,h4⟩:=h;exact⟨h0,h1,h2,h3.1,h4⟩)
 have ew:jR g (ic x y) x y=(oR g (ic x y) 3001 ([],3000) (rd x y)).map (·.1):=by unfold jR;rw[if_pos h8];rfl
 have bl:=sC x y;have e1:fp (rd x y)=[.sl [],.sl [dQ ⟨x,y⟩],GS (0:Nat)]:=rfl;rw[e1]at cS;simp only[ck]at cS;rw[ew];generalize oR g (ic x y) 3001 ([],3000) (rd x y)=W at cS⊢;refine fG (aj5 @q1 @q2 @le @l2 @ae) ?_;refine pV 11 λb11 _=>?_;refine gB ?_;have F:=aj3 @bl @dz @ae;refine cQ [11] [11] (cS b11) ?_;rintro r pm ⟨o,m,rfl,rfl,hW,hl⟩;refine m7 ?_
 have e2:W.isSome=(W.map (·.1)).isSome:=by cases W<;>rfl
 have hR:wD (W.map (·.1)) [.I (.sl (bD o)),GW W.isSome]:=⟨o,by rw[e2],λp h=>(by
  cases W with
  |none=>cases h
  |some q=>injection h with h;subst h;exact(hW q rfl).1),hl⟩
 refine ec @ae @ae ?_;exact(have F:=ae;pc (R:=wD _) [] hR)
open Classical in
noncomputable def fL(g:Sgn)(x y:Tm):Option (List (GP)):=if s5 g=true/\TermOk g x/\TermOk g y/\fk (dq x)/\fk (dq y)then jR g (ic x y) x y else none
def wQ{x y:Tm}(h:¬(s5 g/\TermOk g x/\TermOk g y/\fk (dq x)/\fk (dq y))):fL g x y=none:=if_neg h
def Zn2{x y:Tm}(h1:s5 g)(h2:TermOk g x)(h3:TermOk g y)(h4:fk (dq x))(h5:fk (dq y)):fL g x y=jR g (ic x y) x y:=if_pos ⟨h1,h2,h3,h4,h5⟩
def ZuE{x y:Tm}(hg:SgnOk g)(hF:jb g)(hx:TermOk g x)(hy:TermOk g y)(ho:fk (ic x y)){l:List (GP)}(h:jR g (ic x y) x y=some l):lt g l/\l.length<=64:=by
 unfold jR at h;split at h
 ·rename_i h8;obtain⟨p,h1,rfl⟩:=Tav.1 h;have aZ:=ZmF hg hx hy (λv hv=>(sX.1 hv).elim (zJ hx v) (zJ hy v)) h8 ho (Ba hx λv hv=>sX.2 (.inl hv)) (Ba hy λv hv=>sX.2 (.inr hv));have:=ZnX hg hF 3001 aZ (λo ho=>by cases ho) (Taj _) h1;exact⟨this.1,this.2.1⟩
 ·cases h
def ZrS(cZ:kL g)(d4:g.ops.length<=1048576){x y:Tm}(hx:bc x)(hy:bc y)(DC:ag (ax x)<=1048576)(tw:ag (ax y)<=1048576):aI e0 6 [.agg (ck g),.agg (ax x),.agg (ax y)] [.I (.sl (bD ((fL g x y).getD []))),.I (.A (.bool (fL g x y).isSome))]:=by
 have cF:=ZuC cZ d4;have cX:=ZjC cZ hx (Zg2 DC);have cY:=ZjC cZ hy (Zg2 tw);have hz:bD []=[]:=rfl;simp only[ck]at cF cX cY⊢;refine gI (ts:=[.slot 6,.slot 7]) 1161152998412287 Tryz.func6 ?_;refine cg 1 @ae @ae (cF) ?_
 cases hF:s5 g with
 |false =>
  rw[wQ λh=>by rw[hF]at h;cases h.1];exact m78
 |true =>
 obtain⟨hFG,hg⟩:=ZhM.1 hF;have hsg:oS g:=Zgk hg;simp only[hsg,Bool.true_and]at cX cY;refine fC @ae (cX) ?_;by_cases lV:TermOk g x;rotate_left
 ·rw[wQ λh=>lV h.2.1,E8 lV];exact m78
 rw[ZgY lV];refine fC @ae (cY) ?_;by_cases lW:TermOk g y;rotate_left
 ·rw[wQ λh=>lW h.2.2.1,E8 lW];exact m78
 rw[ZgY lW];have cA:=Zl8 hg lV DC;have cB:=Zl8 hg lW tw;refine fC @ae (cA) ?_
 cases hA:iy (dq x)with
 |false =>
  rw[wQ λh=>by rw[Bf.2 h.2.2.2.1]at hA;cases hA];exact m78
 |true =>
 refine fC @ae (cB) ?_
 cases hB:iy (dq y)with
 |false =>
  rw[wQ λh=>by rw[Bf.2 h.2.2.2.2]at hB;cases hB];exact m78
 |true =>
 have ho:fk (ic x y):=xW.2 ⟨Bf.1 hA,Bf.1 hB⟩;have cU:=ZrR cZ hg hFG lV lW ho;have aq:=λl(h:jR g (ic x y) x y=some l)=>ZuE hg hFG lV lW ho h;rw[Zn2 hF lV lW (Bf.1 hA) (Bf.1 hB)];simp only[ck]at cU;generalize jR g (ic x y) x y=W at cU aq⊢;refine fR @ae ?_;refine kQ 3 @ae ?_;have F:=@ae;refine xg (cU) ?_;rintro r ⟨o,rfl,hW,hl⟩;refine fR (aj3 @yD @aD.eq_1 @ae) ?_
 clear cF cX cY cA cB cU
 cases W with
 |none =>
  have z0:(none:Option (List (GP))).isSome=false:=rfl;have z2:(none:Option (List (GP))).getD []=[]:=rfl;have F:=aj4 @hz @z0 @z2 @ae;refine gG ?_;exact xi [6]
 |some l =>
 have z1:(some l).isSome:=rfl;obtain rfl:=hW l rfl;obtain⟨hT,rF⟩:=aq o rfl;rw[Option.getD_some];refine fG (aj4 @z1 @hz @re @ae) ?_;have F:=aj3 @hz @re @ae;refine gL (ι:=Nat) [10,11,50] [10] (λi=>[(11,GU i),(10,.Υ 10)]) (λi=>[(10,.Υ none 61 1 (bD (o.take i)))]) (λi=>i<=o.length) (λi=>o.length-i) (0) (Taj _) (λi hi=>?_);by_cases am:i<o.length
 ·obtain⟨b,hb⟩:∃b,o[i]?=some b:=⟨_,Taa am⟩;obtain⟨m1,m2⟩:=hT b (Tac hb);have cK:=ZvH b om λy hy=>⟨by have:=zf (m2 y hy).1.Η;have:=(m2 y hy).1.size;omega,by have:=zf (m2 y hy).2.Η;have:=(m2 y hy).2.size;omega⟩;have q3:=lT i o.length;have l2:bD (o.take i)++[[.sl (aK b)]]=bD (o.take (i+1)):=by rw[List.take_add_one,hb,ZjM];rfl
  refine fG (aj3 @q3 @re @ae) ?_;refine cq 10 (aj3 @q3 @re @ae) (aj3 @hb @re @ae) (cK) (aj4 (eq_true (by rw[Taw];unfold al;omega):((o.take i).length+1<=al)=True) @l2 @re @ae) ?_;exact EG
 obtain rfl:i=o.length:=by omega
 rw[Tap];have F:=aj3 (lF o.length o.length) @re @ae;refine gG ?_;exact xi [6]
end
def m23(h:G3:=by
 refine pS 6 λa1 c1=>?_;refine pE [] [1001] vE ?_;refine pE [6,1001] [1002] (ZiF a1 c1) ?_;exact(have F:=ao;ee (R:=su (bD []) false) [1002] (ET a1 c1))):G3:=h
def ZiF(a:BY)(cap:Nat){ty:Nat}:jn [.Υ (some (a,cap)) ty 1 [],.set (λ_=>False) (λw=>bH w [] (λ_=>False) [])] [.set (λb=>aO (.slice a 0 cap)=some b\/False) (λw=>bp w (.sl []) (λb=>aO (.slice a 0 cap)=some b\/False) (.slice a 0 cap))] :=
 Cl (uss:=[]) (rows:=[]) (E:=λ_=>False) (λw h=>h) (bp.Κ _ _ _)
def ET(a:BY)(cap:Nat):su (bD []) false [.I (.A (.slice a 0 cap)),GW false] [.set (λb=>aO (.slice a 0 cap)=some b\/False) (λw=>bp w (.sl []) (λb=>aO (.slice a 0 cap)=some b\/False) (.slice a 0 cap))]:=⟨_,_,rfl,rfl,rfl⟩
def ZFy{w:World}{S:GO}{v:Value}(h:aR w S (.A (.slice none 0 0)) v):aR w S (.sl []) v:=by
 rw[aR.lit_iff]at h;subst h;simp only[aR];exact⟨none,0,0,rfl,rfl,Tai _,Taj _,λh=>absurd h (Nat.lt_irrefl _)⟩
def ZDV{w:World}{S:GO}{c0 c2:C}{us:GK}(h:aC w S [c0,.A (.slice none 0 0),c2] us):aC w S [c0,.sl [],c2] us:=by
 match us,h with
 |[u0,u1,u2],h =>
  simp only[aC]at h⊢;exact⟨h.1,ZFy h.2.1,h.2.2⟩
section
variable{g:Sgn}{x y:Tm}
def Zqf (aq:kL g) (d4:g.ops.length<=1048576) (hx:bc x) (hy:bc y) (DC:ag (ax x)<=1048576) (tw:ag (ax y)<=1048576):aT e0 9 [.agg (ck g),.agg (ax x),.agg (ax y)] [] (su (bD ((fL g x y).getD [])) (fL g x y).isSome):=by
 have bT:fL g x y=none->su (bD ((fL g x y).getD [])) (fL g x y).isSome=su (bD []) false:=λh=>by rw[h];rfl
 by_cases hg:SgnOk g;rotate_left
 ·have cN:=ZpX aq hg;rw[bT (wQ λh=>hg (ZhM.1 h.1).2)];rw[ck]at cN⊢;refine dX (ts:=[.slot 6,.slot 7]) [] 4722519869277205444607 Tryz.func9 ?_;refine cg 1 @ae @ae (cN) ?_;refine ec @ae @ae ?_;refine pS 6 λa1 c1=>?_;refine pE [] [1001] vE ?_;refine pE [6,1001] [1002] (ZiF a1 c1) ?_;exact(have F:=ae;ee (R:=su (bD []) false) [1002] (ET a1 c1))
 have cN:=Zvp aq hg;rw[ck]at cN⊢;refine dX (ts:=[.slot 6,.slot 7]) [] 4722519869277205444607 Tryz.func9 ?_;refine kQ 1 @ae ?_;have F:=@ae;refine cQ [] [1000] (cN) ?_;rintro r pm ⟨bm,rfl,rfl⟩;refine m7 ?_;refine fR @ae ?_;refine pM g bm 1000 ?_;have cF:=(ZuB aq d4).m (g:=g) (b:=bm);have cX:=(Zm2 (mc:=.A (.map (some bm))) hg hx (Zg2 DC)).m (g:=g) (b:=bm)
 have cY:=(Zm2 (mc:=.A (.map (some bm))) hg hy (Zg2 tw)).m (g:=g) (b:=bm);rw[ck]at cF;refine cg 2 @ao @ao (cF) ?_
 cases hFr:s5 g with
 |false =>
  rw[bT (wQ λh=>by rw[hFr]at h;cases h.1)];refine ec @ao @ao ?_;exact m23
 |true =>
 obtain⟨hF,_⟩:=ZhM.1 hFr;refine fC @ao (cX) ?_;by_cases lV:TermOk g x;rotate_left
 ·rw[bT (wQ λh=>lV h.2.1),E8 lV];refine ec @ao @ao ?_;exact m23
 rw[ZgY lV];refine fC @ao (cY) ?_;by_cases lW:TermOk g y;rotate_left
 ·rw[bT (wQ λh=>lW h.2.2.1),E8 lW];refine ec @ao @ao ?_;exact m23
 rw[ZgY lW];have cVx:=(ZrQ x DC).m (g:=g) (b:=bm);have cVy:=(ZtO y tw).m (g:=g) (b:=bm);have hvx:=Zhz x;have Gv:=Zhz y;have cD:=λ(a:BY)(cap:Nat)=>(Zhl (dq x++dq y) (by rw[Tae];omega) a cap).m (g:=g) (b:=bm);have rc:∀v∈ic x y,dp g v:=λv h=>(sX.1 h).elim (zJ lV v) (zJ lW v);have hva:qK (ic x y):=Cq _;have e2:pB (dq x++dq y)=ic x y:=rfl;simp only[e2]at cD;simp only[zj,Tae]at cD
 have hold:fk (ic x y)->fL g x y=jR g (ic x y) x y:=λh=>Zn2 hFr lV lW (xW.1 h).1 (xW.1 h).2;have BO:¬fk (ic x y)->fL g x y=none:=λh=>wQ λq=>h (xW.2 ⟨q.2.2.2.1,q.2.2.2.2⟩);have hlx:Live (ic x y) x:=Ba lV λv hv=>sX.2 (.inl hv);have hly:Live (ic x y) y:=Ba lW λv hv=>sX.2 (.inr hv);have vb:=λ(ho:fk (ic x y))(l:List (GP))(h:jR g (ic x y) x y=some l)=>ZuE hg hF lV lW ho h
 have tG:(ic x y).length<=(dq x).length+(dq y).length:=by
  have:=Zkj (dq x++dq y);rw[Tae]at this;exact this
 generalize ic x y=VS at *;have c8:(dq x).length+(dq y).length<=al:=by unfold al;omega
 have tl1:=cc (dq x);have tl2:=cc (dq y);have ta:=zj (dq x) (dq y);refine fR @ao ?_;refine fN 4 @ao ?_;refine rE ?_;have F:=ao;refine xh 5 [1001] [0,2] [1,3,4] ?_;have F:=ao;refine uk ?_;have F:=ao;refine tq [] [1001] cVx ?_;rintro _ _ ⟨a1,c1,rfl,rfl⟩;simp only[aD,aQ,aM,Taf,Tah];have F:=ao;refine Di (Zy5 cVy) ?_;rintro _ rfl;simp only[aD,aQ]
 have F:=aj4 c8 tl1 tl2 ao;refine Dj 1001 ?_;have F:=ao;refine tr ?_;refine gS 42 λa3 c3=>?_;have F:=aj3 @tl1 @tl2 @ao;refine cQ [42] [42] (cD a3 c3) ?_;rintro r pm ⟨rfl,rfl⟩;simp only[aD,aQ,aM,Taf,Tah];refine gD 42 [43] [] ?_;refine fR @ao ?_;have le:=cc VS;have ge:=rt VS;have be:=uL VS;refine fG (ai @le @ao) ?_;have F:=@ao;refine gL (ι:=Nat) [6,7,12,46,47,53] [] (λi=>[(46,GU i)]) (λi=>[]) (λi=>i<=VS.length/\iy VS=iy (VS.drop i)) (λi=>VS.length-i) (0) (⟨Taj _,rfl⟩) (λi hi=>?_)
 obtain⟨hi,he⟩:=hi;by_cases am:i<VS.length
 ·have q1:=lT i VS.length;obtain⟨v,sJ⟩:∃v,VS[i]?=some v:=⟨_,Taa am⟩;obtain⟨b,hb⟩:=ZHd (rc v (Tac sJ));have hd:iy (VS.drop i)=(decide (v.name[0]?≠some 119)&&iy (VS.drop (i+1))):=by
   exact m189
  have wi:=bW (k:=i) om;have t0:Int.toNat 0=0:=rfl;by_cases h9:b=119
  ·have q2:((b.toNat:Int)=119)=True:=eq_true (by rw[h9];rfl);have hf:iy (VS.drop i)=false:=by rw[hd,hb,h9];rfl
   rw[bT (BO λh=>by rw[Bf.2 h,hf]at he;cases he)];refine fG (aj11 @q1 @q2 @le @ge @be @sJ @am @hb @t0 @bw @ao) ?_;exact m23
  ·have hn:b.toNat≠119:=λq=>h9 (UInt8.toNat_inj.1 (by rw[q];rfl));have hf:iy (VS.drop i)=iy (VS.drop (i+1)):=by
    exact m157
   have F:=aj12 @q1 (eq_false om:((b.toNat:Int)=119)=False) @le @ge @be @sJ @am @hb @t0 @bw @wi @ao;refine gG ?_;exact⟨i+1,⟨am,he.trans hf⟩,gw,gw,om⟩
 obtain rfl:i=VS.length:=by omega
 have q1:=lF VS.length VS.length;have hO:fk VS:=Bf.1 (by rw[he,List.drop_length];rfl);have hW:=hold hO;have vb:=vb hO;clear hold BO he;unfold jR at hW vb;by_cases h8:VS.length<=8;rotate_left
 ·have q2:=lT 8 VS.length;rw[if_neg h8]at hW;rw[bT hW];refine fG (aj4 @q1 @q2 @le @ao) ?_;exact m23
 have q2:=lF 8 VS.length;simp only[if_pos h8]at hW vb;have aZ:=ZmF hg lV lW rc h8 hO hlx hly;have cv:=Zl0 hg hF hva 3001 (p:=([],3000)) (q:=([],0)) (s:=rd x y) (t:=rd x y) (L:=VS) ⟨.refl _,rfl,rfl⟩ aZ ⟨rfl,.nil,rfl,by simp⟩;rw[<- ZxU hg hF lV lW hva rc h8 hO hlx hly]at hW vb;have hUP:UP g VS (rd x y):=⟨rd x y,⟨.refl _,rfl,rfl⟩,aZ⟩;refine dC 13 (aj4 @q1 @q2 @le @ao) 2 @ao ?_;refine(have F:=ao;gXm ?_);refine fR @ao ?_;refine pN 1001 61 1 ?_;refine pV 61 λb hb=>?_;clear hb;have cR:=ZJq hg hF bm h8 rc 3001 b 0 [] none 0 hUP om om ⟨by simp,λx h=>by cases h⟩ (by show 1+7*(3000-0)<=30000;omega);unfold uC at cR;simp only[lz]at cR;refine dC 14 @ao 5 (aj3 (sC x y) @dz @ao) ?_
 refine(have F:=ao;gXm ?_);have cR:=ZkF cR (args':=[.I (.A (.pointer (some ⟨b,0,none⟩))),.agg [.sl [dQ ⟨x,y⟩],.A (.slice none 0 0),GS 0]]) (λw S us h=>by
  match us,h with
  |[u0,u1],h =>
   obtain⟨h0,⟨vs,h1,h2⟩,h3⟩:=h;exact⟨h0,⟨vs,h1,ZDV h2⟩,h3⟩)
 have F:=@ao;refine cQ [61,1001] [61,1001] (cR) ?_;rintro _ _ ⟨o',s',a',bF,f',rfl,rfl,h1,h2⟩;simp only[aD,aQ,aM,uC,Taf,Tah];clear cR;generalize hX:bK g VS 3001 ([],0) (rd x y)=X at *;have hWX:fL g x y=X.map λp=>eC aN p.1 []:=by rw[hW];unfold Zpr;rw[hX]
 refine fR @ao ?_
 cases f' with
 | true =>
  have hXn:X=none:=by
   cases X with
   |none=>rfl
   |some p=>exact absurd (h1 p rfl).2 (by simp)
  rw[bT (by rw[hWX,hXn];rfl)];refine fG @ao ?_;refine pS 6 λa1 c1=>?_;refine pE [] [1003] vE ?_;refine pE [6,1003] [1002] (ZiF a1 c1) ?_;exact(have F:=ao;ee (R:=su (bD []) false) [1002] (ET a1 c1))
 |false =>
 have hXs:X=some (o',s'):=by
  cases X with
  |none=>exact absurd (h2 rfl) (by simp)
  |some p=>rw[(h1 p rfl).1]
 rw[hXs]at hWX cv;have mS:o'.Pairwise (·≠·)/\o'.length<=64:=by
  cases hS:oR g VS 3001 ([],3000) (rd x y)with
  |none=>rw[hS]at cv;exact cv.elim
  |some q=>rw[hS]at cv;exact⟨cv.2.1,cv.2.2.2⟩
 obtain⟨mS,pX⟩:=mS;have hXs2:Zpr g VS x y=some (eC aN o' []):=by unfold Zpr;rw[hX,hXs];rfl
 obtain⟨hot,iH⟩:=vb _ hXs2;have cI:=(ZvI o' mS om).m (g:=g) (b:=bm);have c9:(bD (eC aN o' [])).length=(bD o').length:=by rw[vL,vL,ZkD mS (by simp)];simp
 have cC:=(ZuA (eC aN o' []) om λb hb=>by
  obtain⟨m1,m2⟩:=hot b hb;exact⟨om,λy hy=>⟨ZxJ (m2 y hy).1,ZxJ (m2 y hy).2⟩⟩).m (g:=g) (b:=bm)
 rw[show su (bD ((fL g x y).getD [])) (fL g x y).isSome=su (bD (eC aN o' [])) true by rw[hWX];rfl];have hle2:(bD o').length=o'.length:=vL o';have hle3:(bD (eC aN o' [])).length=o'.length:=c9.trans hle2;generalize eC aN o' []=ML at *;refine kQ 17 @ao ?_;have F:=ai @hle2 @ao;refine gCI (cI) (c9) ?_;refine fR @ao ?_;refine pD 1001 [] [61] ?_;simp only[hle3,↓reduceIte]
 refine kQ 18 @ao ?_;have F:=@ao;refine cQ [] [1003] (cC) ?_;rintro r pm ⟨v,E2,rfl,hk,rfl⟩;simp only[aD,aQ,aM,Taf,Tah];refine ec (ai @ao @hk) @ao ?_;exact(have F:=ao;ee (R:=su (bD ML) true) [1003] ⟨v,E2,rfl,hk,rfl⟩)
end
mutual
theorem Zqh:∀t:Tm,qh (ax t)=3*ah t
 |.mk op nm so args=>by
  have:=ZuF args;simp only[ax,qh,kO,ah];omega
theorem ZuF:∀ts:AI,ab (az ts)=3*au ts
 |[]=>by simp[az,ab,au]
 |t::ts=>by
  have h1:=Zqh t;have h2:=ZuF ts;simp only[az,ab,au];omega
end
def ZuG:∀(a b:we),qh (a++b)=qh a+qh b
 |[],b=>by simp[qh]
 |c::a,b=>by simp only[Taf,qh,ZuG a b];omega
section
variable{g:Sgn}{p t:Tm}
def Zqi:∀{l:GP},(∀y∈l,TermOk g y.var/\TermOk g y.to)->ab (aK l)<=360*l.length/\ak (aK l)<=1600*l.length
 |[],_=>by simp[aK,ab,ak]
 |y::l,h=>by
  obtain⟨h1,h2⟩:=Zqi (l:=l) λz hz=>h z (Tal _ hz);obtain⟨hv,ht⟩:=h y Tas;have a1:=Zqh y.var;have a2:=Zqh y.to;have b1:=zf hv.Η;have b2:=zf ht.Η;have s1:=hv.size;have s2:=ht.size;have e:aK (y::l)=dQ y::aK l:=rfl;have e2:=ZuG (ax y.var) (ax y.to);have e3:=ZEZ (ax y.var) (ax y.to);rw[e];simp only[ab,ak,Tag,dQ];omega
def ZxZ:∀{l:List (GP)},(∀b∈l,b.length<=8/\∀y∈b,TermOk g y.var/\TermOk g y.to)->ab (bD l)<=2880*l.length
 |[],_=>by simp[bD,ab]
 |b::l,h=>by
  have h1:=ZxZ (l:=l) λz hz=>h z (Tal _ hz);obtain⟨h8,hy⟩:=h b Tas;have h2:=(Zqi hy).1;have e:bD (b::l)=[.sl (aK b)]::bD l:=rfl;rw[e];simp only[ab,qh,kO,Tag];omega
end
section
variable{g:Sgn}{x y:Tm}
def Zx0{P:List (GP)->Prop}(h:∀l:List (GP),SgnOk g->l.length<=64->lt g l->(∀b∈l,b.length<=8)->P l)(h0:P []):P ((fL g x y).getD []):=by
 by_cases hc:s5 g/\TermOk g x/\TermOk g y/\fk (dq x)/\fk (dq y);rotate_left
 ·rw[wQ hc];exact h0
 obtain⟨h1,h2,h3,h4,h5⟩:=hc;obtain⟨hF,hg⟩:=ZhM.1 h1;have hO:fk (ic x y):=xW.2 ⟨h4,h5⟩;rw[Zn2 h1 h2 h3 h4 h5]
 cases hW:jR g (ic x y) x y with
 |none=>exact h0
 | some l =>
  have hk:=ZuE hg hF h2 h3 hO hW;refine h l hg hk.2 hk.1 ?_;unfold jR at hW;split at hW
  ·rename_i h8;have rc:∀v∈ic x y,dp g v:=λv h=>(sX.1 h).elim (zJ h2 v) (zJ h3 v);rw[<- ZxU hg hF h2 h3 (show qK (ic x y)from Cq _) rc h8 hO (Ba h2 λv hv=>sX.2 (.inl hv)) (Ba h3 λv hv=>sX.2 (.inr hv))]at hW;obtain⟨p,hp,rfl⟩:=Tav.1 hW;have ho:=(ZjL h8 3001 (o:=[]) (s:=0) ⟨Taj _,λx h=>by cases h⟩ om hp).1;intro b hb;rcases(Zip zL).1 hb with q|q
   ·exact ho.2 b q
   ·cases q
  ·cases hW
def ZIc:(bD ((fL g x y).getD [])).length+0<=1048576/\(∀r∈bD ((fL g x y).getD []),ag r<=1048576)/\ab (bD ((fL g x y).getD []))<=100000000:=by
 refine Zx0 (P:=λl=>(bD l).length+0<=1048576/\(∀r∈bD l,ag r<=1048576)/\ab (bD l)<=100000000) (λl hg h1 h2 h3=>?_) (by simp[bD,ab]);have hc:=ZxZ λb hb=>⟨h3 b hb,(h2 b hb).2⟩;rw[vL];refine⟨om,λr hr=>?_,om⟩;obtain⟨b,hb,rfl⟩:=Tbj.1 hr;have h5:=(Zqi (h2 b hb).2).2;have h6:=h3 b hb;simp only[ag,jE,fE];omega
def ZId:bu (Zaf .bindings) (bD ((fL g x y).getD [])):=by
 have key:∀l:List (GP),(∀b∈l,uN b)->bu (Zaf .bindings) (bD l):=λl=>by
  induction l with
  |nil=>exactλ_=>trivial
  |cons b l ih=>exactλh=>⟨Zqg (ZkT (h b Tas)),ih λc hc=>h c (Tal _ hc)⟩
 exact Zx0 (P:=λl=>bu (Zaf .bindings) (bD l)) (λl hg _ h2 _=>key l λb hb=>(h2.ok hg b hb).1) trivial
def Zx1(h:ag (ck g)<=1048576):g.ops.length<=1048576:=by
 simp only[ck,ag,jE,Tay]at h;omega
def ZvJ(k0:kL g)(k1:bc x)(k2:bc y)(b0:ag (ck g)<=1048576)(b1:ag (ax x)<=1048576)(b2:ag (ax y)<=1048576):aI e0 6 [.agg (ck g),.agg (ax x),.agg (ax y)] [.I (.sl (bD ((fL g x y).getD []))),.I (.A (.bool (fL g x y).isSome))]:=ZrS k0 (Zx1 b0) k1 k2 b1 b2
def ZuH(k0:kL g)(k1:bc x)(k2:bc y)(b0:ag (ck g)<=1048576)(b1:ag (ax x)<=1048576)(b2:ag (ax y)<=1048576):aT e0 9 [.agg (ck g),.agg (ax x),.agg (ax y)] [] (su (bD ((fL g x y).getD [])) (fL g x y).isSome):=Zqf k0 (Zx1 b0) k1 k2 b1 b2
end
def m150(b:G5)(h:Bx G5->G4:=by
 intro B0
 refine cQ [1100] [1100] (Ziw (lits:=[.I (.A vg),.I (.sl wr)]) [.set Eg (λw=>bp w (.sl wr) Eg vg)] cE ⟨.treeS Tas,.same,trivial⟩ rfl rfl) ?_;exact B0.o):G4:=h ⟨b⟩
def m125(b:G5)(h:Bx G5->G4:=by
 intro B0
 refine cQ [1100] [1100] (Ziw (lits:=[.I (.A vg),GT 1]) [.set Fg (λw=>bp w (.sl (bY 1 wr)) Fg vg)] cH ⟨.treeS Tas,.same,trivial⟩ rfl rfl) ?_;exact B0.o):G4:=h ⟨b⟩
def ZuN{dH:we}(kV:bd (lZ) dH){dO:we}(kW:bd (Zaf .term) dO){d9:we}(dV:bd (Zaf .term) d9){wr:sh}(DS:bu (Zaf .bindings) wr){R1:Bool}(hBw0:ag dH<=1048576->ag dO<=1048576->ag d9<=1048576->(ag dH)+(ag dO)+(ag d9)<=1048576->wr.length+0<=1048576/\(∀r∈wr,ag r<=1048576)/\ab wr<=100000000)(hsp0:ag dH<=1048576->ag dO<=1048576->ag d9<=1048576->(ag dH)+(ag dO)+(ag d9)<=1048576->aI e0 6 [.agg dH,.agg dO,.agg d9] [.I (.sl wr),GW R1])(him0:ag dH<=1048576->ag dO<=1048576->ag d9<=1048576->(ag dH)+(ag dO)+(ag d9)<=1048576->aT e0 9 [.agg dH,.agg dO,.agg d9] [] (su wr R1)):aI e0 3 [.agg dH,.agg dO,.agg d9] [GW true]:=by
 have okc0:=kV.cells;obtain⟨len0,AU,dr0⟩:=kV.take (n:=3) rfl;have okc1:=kW.cells;obtain⟨len1,tk1,dr1⟩:=kW.take (n:=4) rfl;have okc2:=dV.cells;obtain⟨pr,tk2,dr2⟩:=dV.take (n:=4) rfl;refine gI 3146931352660315980813683006301119594889215 Tryz.func3 ?_;have pa:=aj13 @okc0 @len0 @AU @dr0 @okc1 @len1 @tk1 @dr1 @okc2 @pr @tk2 @dr2 @Bc;refine fG @pa ?_;refine gB ?_;refine oZ @pa (ZpB kV (om:(0:Int)<=1048576) (om:(1048576:Int)<=1048576)) @pa ?_;by_cases pO:((ag dH:Nat):Int)<=1048576;rotate_left
 ·have n1:sub 1048576 (ag dH:Nat)=-1:=qi om;exact fT (ai @n1 (om:(-1:Int)<0))
 have nq:sub 1048576 (ag dH:Nat)=1048576-((ag dH:Nat):Nat):=qM om;rw[nq];clear nq;have Gc:ag dH<=1048576:=om;have hL1_0:(0:Int)<=1048576-((ag dH:Nat):Nat):=om;have hL1_1:(1048576:Int)-((ag dH:Nat):Nat)<=1048576:=om;generalize hgl0:(1048576:Int)-((ag dH:Nat):Nat)=L1 at *;have n2:¬(L1<0):=om;refine fG (ai @n2 @pa) ?_;clear n2 pO;refine gB ?_;refine oZ @pa (Zpz kW hL1_0 hL1_1) @pa ?_;by_cases f8:((ag dO:Nat):Int)<=L1;rotate_left
 ·have n1:sub L1 (ag dO:Nat)=-1:=qi om;exact fT (ai @n1 (om:(-1:Int)<0))
 have nq:sub L1 (ag dO:Nat)=L1-((ag dO:Nat):Nat):=qM om;rw[nq];clear nq;have BA:ag dO<=1048576:=om;have hL2_0:(0:Int)<=L1-((ag dO:Nat):Nat):=om;have hL2_1:(L1:Int)-((ag dO:Nat):Nat)<=1048576:=om;generalize hgl1:(L1:Int)-((ag dO:Nat):Nat)=L2 at *;have n2:¬(L2<0):=om;refine fG (ai @n2 @pa) ?_;clear n2 f8;refine gB ?_;refine oZ @pa (Zpz dV hL2_0 hL2_1) @pa ?_;by_cases iG:((ag d9:Nat):Int)<=L2;rotate_left
 ·have n1:sub L2 (ag d9:Nat)=-1:=qi om;exact fT (ai @n1 (om:(-1:Int)<0))
 have nq:sub L2 (ag d9:Nat)=L2-((ag d9:Nat):Nat):=qM om;rw[nq];clear nq;have Gd:ag d9<=1048576:=om;have hL3_0:(0:Int)<=L2-((ag d9:Nat):Nat):=om;have hL3_1:(L2:Int)-((ag d9:Nat):Nat)<=1048576:=om;generalize hgl2:(L2:Int)-((ag d9:Nat):Nat)=L3 at *;have n2:¬(L3<0):=om;refine fG (ai @n2 @pa) ?_;clear n2 iG;have hBt:(ag dH)+(ag dO)+(ag d9)<=1048576:=om
 have hsp:=hsp0 Gc BA Gd hBt;have him:=him0 Gc BA Gd hBt;obtain⟨hBw,hBr,hcw⟩:=hBw0 Gc BA Gd hBt;have cE:=ZpE DS;have cT0:=ZpD kV Gc;have cP0:=ZiG kV Gc;have cQ0:=ZpC kV;have hc0:b9 dH<=16*ag dH:=Zi8 _ _ kV;have cT1:=ZpA kW BA;have cP1:=Zjp kW BA;have cQ1:=ZhO kW;have np:b9 dO<=16*ag dO:=Zi8 _ _ kW;have cT2:=ZpA dV Gd;have FV:=Zjp dV Gd
 have cQ2:=ZhO dV;have rM:b9 d9<=16*ag d9:=Zi8 _ _ dV;refine gLu 10 9 10 ?_;refine fC @pa (cT0) ?_;refine fC @pa (cT1) ?_;refine fC @pa (cT2) ?_;refine oZ @pa (hsp) @pa ?_;refine fB @pa ?_;have F:=@pa;refine cQ [] [1000] (cP0) ?_;rintro r pm ⟨wy,E0,rfl,jt,cu0,rfl⟩;rw[len0]at jt;obtain⟨lu0,tu0,du0⟩:=Zn6 jt;refine m7 ?_;have fz1:=aj5 @pa @lu0 @tu0 @du0 @cu0
 refine fR @fz1 ?_;refine fB @fz1 ?_;have F:=@fz1;refine cQ [] [1001] (cP1) ?_;rintro r pm ⟨yW,E1,rfl,yU,cu1,rfl⟩;rw[len1]at yU;obtain⟨lu1,tu1,du1⟩:=Zn6 yU;refine m7 ?_;have fz2:=aj5 @fz1 @lu1 @tu1 @du1 @cu1;refine fR @fz2 ?_;refine fB @fz2 ?_;have F:=@fz2;refine cQ [] [1002] (FV) ?_;rintro r pm ⟨rf,E2,rfl,D5,cu2,rfl⟩;rw[pr]at D5;obtain⟨lu2,tu2,du2⟩:=Zn6 D5
 refine m7 ?_;have fz3:=aj5 @fz2 @lu2 @tu2 @du2 @cu2;refine fR @fz3 ?_;refine fB @fz3 ?_;have F:=@fz3;refine cQ [1000,1001,1002] [1100,1000,1001,1002] (ZxC (lits:=[.agg (aY wy),.agg (aY yW),.agg (aY rf)]) [.set E0 (λw=>aV w dH E0 wy),.set E1 (λw=>aV w dO E1 yW),.set E2 (λw=>aV w d9 E2 rf)] him ⟨.tree Tas,.tree (Tal _ Tas),.tree (Tal _ (Tal _ Tas)),trivial⟩ rfl (λ_ _ h=>su.lits h)) ?_
 rintro r pm ⟨q1,⟨vg,Eg,rfl,cug,rfl⟩,rfl⟩;refine m7 ?_;have lC:=ai @fz3 @cug;refine fR @lC ?_;refine fB @lC ?_;have F:=@lC;refine m150 ?_;rintro r pm ⟨rfl,rfl⟩;refine m7 ?_;refine fR (ai @lC @gQ) ?_
 refine eH (ai @lC @gQ) @lC (cT0) ?_;have F:=@lC;refine cQ [1000] [1000] (Ziw (lits:=[.agg (aY wy),.agg dH]) [.set E0 (λw=>aV w dH E0 wy)] cQ0 ⟨.tree Tas,.same,trivial⟩ rfl rfl) ?_;rintro r pm ⟨rfl,rfl⟩;refine m7 ?_;refine fR @lC ?_;refine eH @lC @lC (cT1) ?_;have F:=@lC;refine cQ [1001] [1001] (Ziw (lits:=[.agg (aY yW),.agg dO]) [.set E1 (λw=>aV w dO E1 yW)] cQ1 ⟨.tree Tas,.same,trivial⟩ rfl rfl) ?_
 rintro r pm ⟨rfl,rfl⟩;refine m7 ?_;refine fR @lC ?_;refine eH @lC @lC (cT2) ?_;have F:=@lC;refine cQ [1002] [1002] (Ziw (lits:=[.agg (aY rf),.agg d9]) [.set E2 (λw=>aV w d9 E2 rf)] cQ2 ⟨.tree Tas,.same,trivial⟩ rfl rfl) ?_;rintro r pm ⟨rfl,rfl⟩;refine m7 ?_;refine fR @lC ?_;refine fB @lC ?_;have F:=@lC;refine cQ [1000] [1000] (ZmL kV (1) E0 wy om cu0 om om) ?_
 rintro r pm ⟨F0,rfl,rfl⟩;refine m7 ?_;refine fR @lC ?_;refine fB @lC ?_;have F:=@lC;refine cQ [1001] [1001] (Zl9 kW (1+(b9 dH:Int)) E1 yW om cu1 om om) ?_;rintro r pm ⟨F1,rfl,rfl⟩;refine m7 ?_;refine fR @lC ?_;refine fB @lC ?_;have F:=@lC;refine cQ [1002] [1002] (Zl9 dV (1+(b9 dH:Int)+(b9 dO:Int)) E2 rf om cu2 om om) ?_
 rintro r pm ⟨F2,rfl,rfl⟩;refine m7 ?_;refine ec @lC @lC ?_;refine gB ?_;have Dd:=ai @lC (eq_false om:(1+(b9 dH:Int)+(b9 dO:Int)+(b9 d9:Int)<0)=False);have F:=@Dd;refine m150 ?_;rintro r pm ⟨rfl,rfl⟩
 refine m7 ?_;refine fR (ai @Dd @gQ) ?_;refine fB (ai @Dd @gQ) ?_;have F:=@Dd;refine cQ [1100] [1100] (ZmN DS 1 Eg vg om om) ?_;rintro r pm ⟨Fg,rfl,rfl⟩;refine m7 ?_;refine ec @Dd @Dd ?_;have cH:=ZmP DS ⟨om,hBr⟩ 1 om om;refine gB ?_;have wf:=ai @Dd (eq_false om:(1+(ab wr:Int)<0)=False)
 have F:=@wf;refine m125 ?_;rintro r pm ⟨rfl,rfl⟩;refine m7 ?_;refine ec @wf (ai @wf @gQ) ?_;refine gLu 10 9 10 ?_;refine fC @pa (cT0) ?_;refine fC @pa (cT1) ?_;refine fC @pa (cT2) ?_
 refine oZ @wf ((Zy2 him)) @wf ?_;refine ce @wf @wf (cE) (ai @wf @gQ) ?_;refine fB (ai @wf @gQ) ?_;have F:=@wf;refine m125 ?_;rintro r pm ⟨rfl,rfl⟩
 refine m7 ?_;exact dM @wf (ai @wf @gQ)
def ZrZ(w:World)(hT:qo w)(dH:we)(S0:GO)(wy:GK)(kV:bd (lZ) dH)(vf:aC w S0 dH wy)(dO:we)(S1:GO)(yW:GK)(kW:bd (Zaf .term) dO)(Ax:aC w S1 dO yW)(d9:we)(S2:GO)(rf:GK)(dV:bd (Zaf .term) d9)(rc:aC w S2 d9 rf) :
  Calls Tryz.prog 3 #[(.agg wy.toArray:Value),(.agg yW.toArray:Value),(.agg rf.toArray:Value)] w λe w'=>e=.returned (.bool true)/\Below w.heap.size w w':=by
 obtain⟨g,rfl,k0⟩:=ZIq kV;obtain⟨x,rfl,k1⟩:=ZGO kW;obtain⟨y,rfl,k2⟩:=ZGO dV
 have hc:=(ZuN kV kW dV (ZId) (λb0 b1 b2 bt=>ZIc) (λb0 b1 b2 bt=>ZvJ k0 k1 k2 b0 b1 b2) (λb0 b1 b2 bt=>ZuH k0 k1 k2 b0 b1 b2)).2 w (λb=>b<w.heap.size/\b≠2) [(.agg wy.toArray:Value),(.agg yW.toArray:Value),(.agg rf.toArray:Value)] (λb hb=>⟨hb.1,hb.2⟩) (ZIs hT) hT
  ⟨⟨wy,rfl,aC.off (ZsZ hT) _ _ _ kV vf.inside'⟩,⟨yW,rfl,aC.off (ZsZ hT) _ _ _ kW Ax.inside'⟩,⟨rf,rfl,aC.off (ZsZ hT) _ _ _ dV rc.inside'⟩,trivial⟩
 refine hc.mono λe w'⟨v,h1,h2,h3,h4⟩=>⟨?_,h2.belowT hT h3⟩;have h4:v=.bool true:=by simpa[aQ,aw,aX,aR]using h4
 rw[h1,h4]
end Go.Proofs.YtaenibhihgfehaaGreatDoor
