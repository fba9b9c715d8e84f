/-
  Part of a proof.
-/
import Derived.Test.YtmdkimnlbaahbaaGreatDoorBComposeCard0
import Derived.Test.YtmdkimnlbaahbaaGreatDoorBComposeCard1
import Derived.Test.YtmdkimnlbaahbaaGreatDoorBComposeCard2
import Derived.Lib.AppendStr
import Derived.Laws.BytesString
set_option linter.unusedSimpArgs false
set_option linter.unusedVariables false
set_option maxHeartbeats 400000000
set_option maxRecDepth 100000
namespace Go.Proofs.YtmdkimnlbaahbaaGreatDoor
open Go.RowKit
theorem Zti {P A B Q:List Tm} {i k:Nat} {x:Tm} (h:A[i]?=some x) (hk:k=P.length+i):(P++A++B++Q)[k]?=some x:=by
 have hi:=(Tad.1 h).1;subst hk;rw [Tbf,Tbf,Tbq om,Nat.add_sub_cancel_left,Tbp hi,h]
theorem Ztj {P A B Q:List Tm} {i k:Nat} {x:Tm} (h:B[i]?=some x) (hk:k=P.length+A.length+i):(P++A++B++Q)[k]?=some x:=by
 have hi:=(Tad.1 h).1;subst hk;rw [Tbf,Tbq (by rw [Tae];omega),Tae,Nat.add_sub_cancel_left,Tbp hi,h]
theorem Zpi {B:List Tm} {x:Tm} (hB:Up B) {s:Nat} (h1:0 < s->∃ y,B[s - 1]?=some y∧Zai y x<=0) (h2:s < B.length->∃ y,B[s]?=some y∧Zai x y<=0):Zaw ([x]++B)=B.take s++x::B.drop s:=(ZfM (Zyf s) (hB.put h1 h2)).symm
def SymL (A B:List Tm) (lo mid st i:Nat):Prop:=st < i->∃ u v,A[i - 1 - lo]?=some u∧B[mid - i]?=some v∧Zai u v<=0
def SymR (A B:List Tm) (lo mid r0 j:Nat):Prop:=j < r0->∃ u v,B[mid - 1 - j]?=some u∧A[j - lo]?=some v∧Zai u v<=0
theorem Zpj:∀ (n:Nat) (P A B Q:List Tm),A.length+B.length<=n->0 < A.length->0 < B.length->Up A->Up B->∀ {lo mi hi N:Nat},lo=P.length->mi=P.length+A.length->hi=P.length+A.length+B.length->N=P.length+A.length+B.length+Q.length->N<=4000000->∀ (a:Option Addr) (cap:Nat),
  ConP e0 145 [.one (.lit (.slice a N cap)),.one (.lit (.int .i64 lo)),.one (.lit (.int .i64 mi)),.one (.lit (.int .i64 hi)),.one (.fn 29 [])] [.buf (some (a,cap)) 36 4 (Zac (P++A++B++Q))] (RBuf a cap (P++Zaw (A++B)++Q)):=by
 intro n
 induction n with
 | zero=>intro P A B Q h1 h2;omega
 | succ n ih =>
 intro P A B Q hsz hA0 hB0 hA hB lo mi hi N hlo hmi hhi hN hmx a cap;have hU:∃ U,U=P++A++B++Q:=⟨_,rfl⟩;obtain ⟨U,hU⟩:=hU;have hUl:U.length=N:=by rw [hU];simp only [Tae];omega
 rw [<- hU];have w0:IntKind.i64.wrap ((mi:Int) - (lo:Int))=(A.length:Int):=ZaJ om om om;have w1:IntKind.i64.wrap ((hi:Int) - (mi:Int))=(B.length:Int):=ZaJ om om om;refine gIP (ts:=[]) [1000] 13164839976634628298295110780136696778032692856359452003713154079 Tryz.func145 ?_;by_cases hA1:A.length=1
 ·have q1:((A.length:Int)=1)=True:=eq_true om;obtain ⟨x,hx⟩:∃ x,A=[x]:=List.length_eq_one_iff.1 hA1;have gx:U[lo]?=some x:=by rw [hU];exact Zti (i:=0) (by rw [hx];rfl) om
  have l0:lo < N:=om;refine fG (aj3 @w0 @q1 @tmz) ?_;clear q1;have F:=@tmz;refine gL (ι:=Nat × Nat) [10,11,12,33,50] [] (fun z=>[(10,.d (.one (.lit (.int .i64 (z.1:Int))))),(11,.d (.one (.lit (.int .i64 (z.2:Int)))))]) (fun z=>[]) (fun z=>mi<=z.1∧z.1<=z.2∧z.2<=hi∧(mi < z.1->∃ y,B[z.1 - mi - 1]?=some y∧Zai y x<=0)∧(z.2 < hi->∃ y,B[z.2 - mi]?=some y∧Zai x y<=0)) (fun z=>z.2 - z.1) ((mi,hi)) (⟨Tai _,om,Tai _,fun h=>om,fun h=>om⟩) (fun z hz=>?_);clear F
  obtain ⟨i,j⟩:=z;obtain ⟨h1,h2,h3,h4,h5⟩:=hz;simp only at h1 h2 h3 h4 h5;dsimp only;by_cases hij:i < j
  ·have q2:=lT i j;obtain ⟨s,h,u1,u2,u3,u4,hh⟩:=ZjB i j om;obtain ⟨y,hy⟩:∃ y,B[h - mi]?=some y:=⟨_,Taa om⟩;have gy:U[h]?=some y:=by rw [hU];exact Ztj hy om
   have lh:h < N:=om;have wh:=Zat (k:=h) om;refine fB (aj14 @q2 @u1 @u2 @u3 @u4 @ZfJ @ZjA @Zfe @Zib @Zed @ZhJ @toNat_one @Zk7 @tmz) ?_;refine fC (aj7 @tmz @gx @gy @l0 @lh @hUl @Zae) (Zjs (ZeG y x)) ?_;by_cases hc:Zai y x < 0
   ·have z1:(Zai y x < 0)=True:=eq_true hc;refine fR (ai @z1 @tmz) ?_;have F:=ai @z1 @wh;refine gG ?_;exact ⟨(h+1,j),⟨om,om,h3,fun _=>⟨y,by rw [<- hy];congr 1;omega,om⟩,h5⟩,gw,gw,om⟩
   ·have z1:(Zai y x < 0)=False:=eq_false hc;refine fR (ai @z1 @tmz) ?_;have F:=@z1;refine gG ?_;exact ⟨(i,h),⟨h1,om,om,h4,fun _=>⟨y,hy,Zn5 hc⟩⟩,gw,gw,om⟩
  have q2:=lF i j;obtain rfl:i=j:=by omega
  obtain ⟨e,he⟩:∃ e,i=e+1:=⟨i - 1,om⟩;have w2:IntKind.i64.wrap ((i:Int) - 1)=(e:Int):=ZaJ om om om;have hout:Zaw (A++B)=B.take (e - lo)++x::B.drop (e - lo):=by
   rw [hx];exact Zpi hB (fun h=>by obtain ⟨y,hy,hc⟩:=h4 om;exact ⟨y,by rw [<- hy];congr 1;omega,hc⟩) (fun h=>by obtain ⟨y,hy,hc⟩:=h5 om;exact ⟨y,by rw [<- hy];congr 1;omega,hc⟩)
  rw [hout];refine fG (ai @q2 @tmz) ?_;have F:=@tmz;refine gL (ι:=Nat × List Tm) [13,58] [1000] (fun z=>[(13,.d (.one (.lit (.int .i64 (z.1:Int)))))]) (fun z=>[(1000,.buf (some (a,cap)) 36 4 (Zac z.2))]) (fun z=>lo<=z.1∧z.1<=e∧z.2=P++B.take (z.1 - lo)++x::(B.drop (z.1 - lo)++Q)) (fun z=>e - z.1) ((lo,U)) (⟨Tai _,om,by rw [hU,hx,Nat.sub_self];simp⟩) (fun z hz=>?_);clear F;obtain ⟨k,us⟩:=z;obtain ⟨k1,k2,hus⟩:=hz
  simp only at k1 k2 hus;dsimp only;by_cases hk:k < e
  ·have q3:=lT k e;obtain ⟨y,hy⟩:∃ y,B[k - lo]?=some y:=⟨_,Taa om⟩;have hPl:(P++B.take (k - lo)).length=k:=by rw [Tae,Taw];omega
   rw [Zdu hy] at hus;have g1:us[k]?=some x:=by rw [hus];exact ZhF hPl
   have g2:us[k+1]?=some y:=by rw [hus];exact Zmm hPl
   obtain ⟨V,hV⟩:∃ V,V=P++B.take (k+1 - lo)++x::(B.drop (k+1 - lo)++Q):=⟨_,rfl⟩;have g3:(us.set k y).set (k+1) x=V:=by
    rw [hV,hus,Taf,Zyg hPl,show k+1 - lo=k - lo+1 by omega,Zcm hy];simp
   have hul:us.length=N:=by rw [hus];simp only [Tae,Tag,Taw,Tax];omega
   obtain ⟨k',hk'⟩:∃ k',k'=k+1:=⟨_,rfl⟩;rw [<- hk'] at g2 g3 hV;have wk:IntKind.i64.wrap ((k:Int)+1)=(k':Int):=ZaJ om om om;have l1:k < N:=om;have l2:k' < N:=om;have hls:∀ q (t:Tm),(us.set q t).length=N:=fun q t=>by rw [Taz,hul]
   obtain ⟨z,g4⟩:∃ z,(us.set k y)[k']?=some z:=⟨_,Taa (by rw [Taz];omega)⟩;refine fN 11 (aj3 @q3 @w2 @tmz) ?_;refine gF0 ?_;refine gFm 0 ?_;refine gFm 1 ?_;refine gFm 2 ?_;refine gFm 3 ?_;refine (have F:=(aj11 wk l1 l2 hul g1 g2 g4 hls @Zae @Zas tmz);gFb 4 ?_);refine gFm 5 ?_;refine gFm 6 ?_;refine (have F:=(aj11 wk l1 l2 hul g1 g2 g4 hls @Zae @Zas tmz);gFb 7 ?_);refine (have F:=(aj11 wk l1 l2 hul g1 g2 g4 hls @Zae @Zas tmz);gFi (rows:=Zac us) 8 k' (by rw [Zae];omega) ?_)
   refine gFm 10 ?_;refine gFm 11 ?_;refine (have F:=(aj11 wk l1 l2 hul g1 g2 g4 hls @Zae @Zas tmz);gFi (rows:=Zac us) 12 k (by rw [Zae];omega) ?_);refine gFT ?_;refine gO2 9 13 ?_ ?_
   ·refine (have F:=(aj11 wk l1 l2 hul g1 g2 g4 hls @Zae @Zas tmz);gO3 ?_);refine gO1 13 ?_;refine (have F:=(aj11 wk l1 l2 hul g1 g2 g4 hls @Zae @Zas tmz);gO3 ?_);refine gO1 14 ?_;refine (have F:=(aj11 wk l1 l2 hul g1 g2 g4 hls @Zae @Zas tmz);gO3 ?_);refine gO1 15 ?_;refine (have F:=(aj11 wk l1 l2 hul g1 g2 g4 hls @Zae @Zas tmz);gO3 ?_);refine gO1 16 ?_;refine (have F:=(aj11 wk l1 l2 hul g1 g2 g4 hls @Zae @Zas tmz);gO3 ?_)
    refine gO1 17 ?_;refine (have F:=(aj11 wk l1 l2 hul g1 g2 g4 hls @Zae @Zas tmz);gO3 ?_);refine (have F:=tmz;gT0 ?_);refine Exists.intro _ (ai (Wk.refl _) ?_);rw [g3];have F:=@wk;refine gG ?_;exact ⟨(k',V),⟨om,om,hV⟩,gw,gw,om⟩
   ·refine (have F:=(aj11 wk l1 l2 hul g1 g2 g4 hls @Zae @Zas tmz);gO3 ?_);refine gO1 9 ?_;refine (have F:=(aj11 wk l1 l2 hul g1 g2 g4 hls @Zae @Zas tmz);gO3 ?_);refine gO1 14 ?_;refine (have F:=(aj11 wk l1 l2 hul g1 g2 g4 hls @Zae @Zas tmz);gO3 ?_);refine gO1 15 ?_;refine (have F:=(aj11 wk l1 l2 hul g1 g2 g4 hls @Zae @Zas tmz);gO3 ?_);refine gO1 16 ?_;refine (have F:=(aj11 wk l1 l2 hul g1 g2 g4 hls @Zae @Zas tmz);gO3 ?_)
    refine gO1 17 ?_;refine (have F:=(aj11 wk l1 l2 hul g1 g2 g4 hls @Zae @Zas tmz);gO3 ?_);refine (have F:=tmz;gT0 ?_);refine Exists.intro _ (ai (Wk.refl _) ?_);rw [g3];have F:=@wk;refine gG ?_;exact ⟨(k',V),⟨om,om,hV⟩,gw,gw,om⟩
  have q3:=lF k e;obtain rfl:k=e:=by omega
  subst hus;rw [show P++B.take (k - lo)++x::(B.drop (k - lo)++Q)=P++(B.take (k - lo)++x::B.drop (k - lo))++Q by simp];refine fG (aj3 @q3 @w2 @tmz) ?_
  first | exact (have F:=@e0P;gTPe (R:=RBuf a cap (P++(B.take (k - lo)++x::B.drop (k - lo))++Q)) [1000] ⟨rfl,rfl⟩) | exact (have F:=@e0P;gTP (R:=RBuf a cap (P++(B.take (k - lo)++x::B.drop (k - lo))++Q)) [1000] ⟨rfl,rfl⟩)
 have q1:((A.length:Int)=1)=False:=eq_false om;by_cases hB1:B.length=1
 ·have q1':((B.length:Int)=1)=True:=eq_true om;obtain ⟨x,hx⟩:∃ x,B=[x]:=List.length_eq_one_iff.1 hB1;have gx:U[mi]?=some x:=by rw [hU];exact Ztj (i:=0) (by rw [hx];rfl) om
  have l0:mi < N:=om;refine fG (aj5 @w0 @w1 @q1 @q1' @tmz) ?_;clear q1 q1';have F:=@tmz;refine gL (ι:=Nat × Nat) [14,15,16,85,103] [] (fun z=>[(14,.d (.one (.lit (.int .i64 (z.1:Int))))),(15,.d (.one (.lit (.int .i64 (z.2:Int)))))]) (fun z=>[]) (fun z=>lo<=z.1∧z.1<=z.2∧z.2<=mi∧(lo < z.1->∃ y,A[z.1 - lo - 1]?=some y∧Zai y x<=0)∧(z.2 < mi->∃ y,A[z.2 - lo]?=some y∧Zai x y<=0)) (fun z=>z.2 - z.1) ((lo,mi)) (⟨Tai _,om,Tai _,fun h=>om,fun h=>om⟩) (fun z hz=>?_);clear F
  obtain ⟨i,j⟩:=z;obtain ⟨h1,h2,h3,h4,h5⟩:=hz;simp only at h1 h2 h3 h4 h5;dsimp only;by_cases hij:i < j
  ·have q2:=lT i j;obtain ⟨s,h,u1,u2,u3,u4,hh⟩:=ZjB i j om;obtain ⟨y,hy⟩:∃ y,A[h - lo]?=some y:=⟨_,Taa om⟩;have gy:U[h]?=some y:=by rw [hU];exact Zti hy om
   have lh:h < N:=om;have wh:=Zat (k:=h) om;refine fB (aj14 @q2 @u1 @u2 @u3 @u4 @ZfJ @ZjA @Zfe @Zib @Zed @ZhJ @toNat_one @Zk7 @tmz) ?_;refine fC (aj7 @tmz @gx @gy @l0 @lh @hUl @Zae) (Zjs (ZeG x y)) ?_;by_cases hc:Zai x y < 0
   ·have z1:(Zai x y < 0)=True:=eq_true hc;refine fR (ai @z1 @tmz) ?_;have F:=@z1;refine gG ?_;exact ⟨(i,h),⟨h1,om,om,h4,fun _=>⟨y,hy,om⟩⟩,gw,gw,om⟩
   ·have z1:(Zai x y < 0)=False:=eq_false hc;refine fR (ai @z1 @tmz) ?_;have F:=ai @z1 @wh;refine gG ?_;exact ⟨(h+1,j),⟨om,om,h3,fun _=>⟨y,by rw [<- hy];congr 1;omega,Zn5 hc⟩,h5⟩,gw,gw,om⟩
  have q2:=lF i j;obtain rfl:i=j:=by omega
  have hout:Zaw (A++B)=A.take (i - lo)++x::A.drop (i - lo):=by
   rw [hx,ZiS (List.perm_append_comm (l₁:=A) (l₂:=[x]))];exact Zpi hA (fun h=>by obtain ⟨y,hy,hc⟩:=h4 om;exact ⟨y,hy,hc⟩) (fun h=>by obtain ⟨y,hy,hc⟩:=h5 om;exact ⟨y,hy,hc⟩)
  rw [hout];refine fG (ai @q2 @tmz) ?_;have F:=@tmz;refine gL (ι:=Nat × List Tm) [17,110] [1000] (fun z=>[(17,.d (.one (.lit (.int .i64 (z.1:Int)))))]) (fun z=>[(1000,.buf (some (a,cap)) 36 4 (Zac z.2))]) (fun z=>i<=z.1∧z.1<=mi∧z.2=P++A.take (z.1 - lo)++x::(A.drop (z.1 - lo)++Q)) (fun z=>z.1) ((mi,U)) (⟨h3,Tai _,by rw [hU,hx,show mi - lo=A.length by omega,Tap,List.drop_length];simp⟩) (fun z hz=>?_);clear F
  obtain ⟨k,us⟩:=z;obtain ⟨k1,k2,hus⟩:=hz;simp only at k1 k2 hus;dsimp only;by_cases hk:i < k
  ·have q3:=lT i k;obtain ⟨p,hp⟩:∃ p,k=p+1:=⟨k - 1,om⟩;obtain ⟨y,hy⟩:∃ y,A[p - lo]?=some y:=⟨_,Taa om⟩;have hPl:(P++A.take (p - lo)).length=p:=by rw [Tae,Taw];omega
   have hus2:us=(P++A.take (p - lo))++y::x::(A.drop (k - lo)++Q):=by rw [hus,show k - lo=p - lo+1 by omega,Zcm hy];simp
   have g1:us[p]?=some y:=by rw [hus2];exact ZhF hPl
   have g2:us[k]?=some x:=by rw [hus2,hp];exact Zmm hPl
   obtain ⟨V,hV⟩:∃ V,V=P++A.take (p - lo)++x::(A.drop (p - lo)++Q):=⟨_,rfl⟩;have g3:(us.set k y).set p x=V:=by
    rw [hV,hus2,hp,Zse hPl,Zdu hy,show p+1 - lo=p - lo+1 by omega];simp
   have hul:us.length=N:=by rw [hus];simp only [Tae,Tag,Taw,Tax];omega
   have wk:IntKind.i64.wrap ((k:Int) - 1)=(p:Int):=ZaJ om om om;have l1:k < N:=om;have l2:p < N:=om;have hls:∀ q (t:Tm),(us.set q t).length=N:=fun q t=>by rw [Taz,hul]
   obtain ⟨z,g4⟩:∃ z,(us.set k y)[p]?=some z:=⟨_,Taa (by rw [Taz];omega)⟩;refine fN 23 (ai @q3 @tmz) ?_;refine gF0 ?_;refine gFm 0 ?_;refine gFm 1 ?_;refine gFm 2 ?_;refine gFm 3 ?_;refine (have F:=(aj11 wk l1 l2 hul g1 g2 g4 hls @Zae @Zas tmz);gFb 4 ?_);refine gFm 5 ?_;refine gFm 6 ?_;refine (have F:=(aj11 wk l1 l2 hul g1 g2 g4 hls @Zae @Zas tmz);gFb 7 ?_);refine (have F:=(aj11 wk l1 l2 hul g1 g2 g4 hls @Zae @Zas tmz);gFi (rows:=Zac us) 8 p (by rw [Zae];omega) ?_)
   refine gFm 10 ?_;refine gFm 11 ?_;refine (have F:=(aj11 wk l1 l2 hul g1 g2 g4 hls @Zae @Zas tmz);gFi (rows:=Zac us) 12 k (by rw [Zae];omega) ?_);refine gFT ?_;refine gO2 9 13 ?_ ?_
   ·refine (have F:=(aj11 wk l1 l2 hul g1 g2 g4 hls @Zae @Zas tmz);gO3 ?_);refine gO1 13 ?_;refine (have F:=(aj11 wk l1 l2 hul g1 g2 g4 hls @Zae @Zas tmz);gO3 ?_);refine gO1 14 ?_;refine (have F:=(aj11 wk l1 l2 hul g1 g2 g4 hls @Zae @Zas tmz);gO3 ?_);refine gO1 15 ?_;refine (have F:=(aj11 wk l1 l2 hul g1 g2 g4 hls @Zae @Zas tmz);gO3 ?_);refine gO1 16 ?_;refine (have F:=(aj11 wk l1 l2 hul g1 g2 g4 hls @Zae @Zas tmz);gO3 ?_)
    refine gO1 17 ?_;refine (have F:=(aj11 wk l1 l2 hul g1 g2 g4 hls @Zae @Zas tmz);gO3 ?_);refine (have F:=tmz;gT0 ?_);refine Exists.intro _ (ai (Wk.refl _) ?_);rw [g3];have F:=@wk;refine gG ?_;exact ⟨(p,V),⟨om,om,hV⟩,gw,gw,om⟩
   ·refine (have F:=(aj11 wk l1 l2 hul g1 g2 g4 hls @Zae @Zas tmz);gO3 ?_);refine gO1 9 ?_;refine (have F:=(aj11 wk l1 l2 hul g1 g2 g4 hls @Zae @Zas tmz);gO3 ?_);refine gO1 14 ?_;refine (have F:=(aj11 wk l1 l2 hul g1 g2 g4 hls @Zae @Zas tmz);gO3 ?_);refine gO1 15 ?_;refine (have F:=(aj11 wk l1 l2 hul g1 g2 g4 hls @Zae @Zas tmz);gO3 ?_);refine gO1 16 ?_;refine (have F:=(aj11 wk l1 l2 hul g1 g2 g4 hls @Zae @Zas tmz);gO3 ?_)
    refine gO1 17 ?_;refine (have F:=(aj11 wk l1 l2 hul g1 g2 g4 hls @Zae @Zas tmz);gO3 ?_);refine (have F:=tmz;gT0 ?_);refine Exists.intro _ (ai (Wk.refl _) ?_);rw [g3];have F:=@wk;refine gG ?_;exact ⟨(p,V),⟨om,om,hV⟩,gw,gw,om⟩
  have q3:=lF i k;obtain rfl:i=k:=by omega
  subst hus;rw [show P++A.take (i - lo)++x::(A.drop (i - lo)++Q)=P++(A.take (i - lo)++x::A.drop (i - lo))++Q by simp];refine fG (ai @q3 @tmz) ?_
  first | exact (have F:=@e0P;gTPe (R:=RBuf a cap (P++(A.take (i - lo)++x::A.drop (i - lo))++Q)) [1000] ⟨rfl,rfl⟩) | exact (have F:=@e0P;gTP (R:=RBuf a cap (P++(A.take (i - lo)++x::A.drop (i - lo))++Q)) [1000] ⟨rfl,rfl⟩)
 have q1':((B.length:Int)=1)=False:=eq_false om;obtain ⟨s0,mid,u1,u2,u3,u4,hmid⟩:=ZjB lo hi om;obtain ⟨nn,hnn⟩:∃ nn,nn=mid+mi:=⟨_,rfl⟩;obtain ⟨p,hp⟩:∃ p,nn=p+1:=⟨nn - 1,om⟩;have w2:IntKind.i64.wrap ((mid:Int)+(mi:Int))=(nn:Int):=ZaJ om om om;have w3:IntKind.i64.wrap ((nn:Int) - 1)=(p:Int):=ZaJ om om om;refine fG (aj16 @w0 @w1 @q1 @q1' @u1 @u2 @u3 @u4 @ZfJ @ZjA @Zfe @Zib @Zed @ZhJ @toNat_one (aj3 @Zk7 @w2 @tmz)) ?_
 clear q1 q1' u1 u2 u3 u4;refine gM (ι:=Nat × Nat) [20,21] [] (fun z=>[(20,.d (.one (.lit (.int .i64 (z.1:Int))))),(21,.d (.one (.lit (.int .i64 (z.2:Int)))))]) (fun z=>[]) (fun z=>mid < mi∧z.1+hi=nn∧z.2=mid∨mi<=mid∧z.1=lo∧z.2=mi) ?_ (fun z hz=>Exists.intro _ (ai (Wk.refl _) ?_))
 ·by_cases hgt:mid < mi
  ·have q2:decide ((mid:Int) < (mi:Int))=true:=decide_eq_true om;have w4:IntKind.i64.wrap ((nn:Int) - (hi:Int))=((nn - hi:Nat):Int):=ZaJ om om om;generalize hv:nn - hi=v at w4;have q2':(mid < mi)=True:=eq_true hgt;have F:=aj4 @q2 @q2' @w4 @tmz;refine gG ?_;exact ⟨(v,mid),.inl ⟨hgt,by simp only;omega,rfl⟩,gw,gw⟩
  ·have q2:decide ((mid:Int) < (mi:Int))=false:=decide_eq_false om;have q2':(mi<=mid)=True:=eq_true om;have F:=aj3 @q2 @q2' @tmz;refine gG ?_;exact ⟨(lo,mi),.inr ⟨om,rfl,rfl⟩,gw,gw⟩
 obtain ⟨st,r0⟩:=z;simp only at hz;dsimp only;refine fG (ai @w3 @tmz) ?_;have F:=@tmz;refine gL (ι:=Nat × Nat) [20,21,23,151,171] [] (fun z=>[(20,.d (.one (.lit (.int .i64 (z.1:Int))))),(21,.d (.one (.lit (.int .i64 (z.2:Int)))))]) (fun z=>[]) (fun z=>st<=z.1∧z.1<=z.2∧z.2<=r0∧SymL A B lo mid st z.1∧SymR A B lo mid r0 z.2) (fun z=>z.2 - z.1) ((st,r0)) (⟨Tai _,om,Tai _,fun h=>om,fun h=>om⟩) (fun z hz=>?_);clear F
 obtain ⟨i,j⟩:=z;rename_i hcase;obtain ⟨h1,h2,h3,h4,h5⟩:=hz;simp only at h1 h2 h3 h4 h5;dsimp only;by_cases hij:i < j
 ·have q2:=lT i j;obtain ⟨s,c,u1,u2,u3,u4,hc⟩:=ZjB i j om;obtain ⟨y,hy⟩:∃ y,A[c - lo]?=some y:=⟨_,Taa om⟩;obtain ⟨x,hx⟩:∃ x,B[mid - 1 - c]?=some x:=⟨_,Taa om⟩;obtain ⟨d,hd⟩:∃ d,d+c=p:=⟨p - c,om⟩;have gy:U[c]?=some y:=by rw [hU];exact Zti hy om
  have gx:U[d]?=some x:=by rw [hU];exact Ztj hx om
  have lc:c < N:=om;have ld:d < N:=om;have wc:=Zat (k:=c) om;have wd:IntKind.i64.wrap ((p:Int) - (c:Int))=(d:Int):=ZaJ om om om;refine fB (aj14 @q2 @u1 @u2 @u3 @u4 @ZfJ @ZjA @Zfe @Zib @Zed @ZhJ @toNat_one @Zk7 @tmz) ?_;refine fC (aj8 @tmz @gx @gy @lc @ld @wd @hUl @Zae) (Zjs (ZeG x y)) ?_;by_cases hcc:Zai x y < 0
  ·have z1:(Zai x y < 0)=True:=eq_true hcc;refine fR (ai @z1 @tmz) ?_;have F:=@z1;refine gG ?_;exact ⟨(i,c),⟨h1,om,om,h4,fun _=>⟨x,y,hx,hy,om⟩⟩,gw,gw,om⟩
  ·have z1:(Zai x y < 0)=False:=eq_false hcc;refine fR (ai @z1 @tmz) ?_;have F:=ai @z1 @wc;refine gG ?_;exact ⟨(c+1,j),⟨om,om,h3,fun _=>⟨y,x,by rw [<- hy];congr 1,by rw [<- hx];congr 1;omega,Zn5 hcc⟩,h5⟩,gw,gw,om⟩
 have q2:=lF i j;obtain rfl:i=j:=by omega
 have hcut:=ZAC hA hB (s:=i - lo) (e:=mid - i) (fun e1 e2=>by
  obtain ⟨u,v,k1,k2,k3⟩:=h4 om;exact ⟨u,v,by rw [<- k1];congr 1;omega,k2,k3⟩) (fun e1 e2=>by
  obtain ⟨u,v,k1,k2,k3⟩:=h5 om;exact ⟨u,v,by rw [<- k1];congr 1;omega,k2,k3⟩)
 have eA:A=A.take (i - lo)++A.drop (i - lo):=(Tbm _ _).symm;have eB:B=B.take (mid - i)++B.drop (mid - i):=(Tbm _ _).symm;have lA1:(A.take (i - lo)).length=i - lo:=by rw [Taw];omega
 have lA2:(A.drop (i - lo)).length=mi - i:=by rw [Tax];omega
 have lB1:(B.take (mid - i)).length=mid - i:=by rw [Taw];omega
 have lB2:(B.drop (mid - i)).length=hi+i - mi - mid:=by rw [Tax];omega
 have uA1:=hA.take (i - lo);have uA2:=hA.drop (i - lo);have uB1:=hB.take (mid - i);have uB2:=hB.drop (mid - i);generalize A.take (i - lo)=A1 at hcut eA lA1 uA1;generalize A.drop (i - lo)=A2 at hcut eA lA2 uA2;generalize B.take (mid - i)=B1 at hcut eB lB1 uB1;generalize B.drop (mid - i)=B2 at hcut eB lB2 uB2;have hsort:=Zs7 hcut;rw [<- eA,<- eB] at hsort;rw [<- hsort];obtain ⟨ed,hed⟩:∃ ed,ed+i=nn:=⟨nn - i,om⟩
 have w5:IntKind.i64.wrap ((nn:Int) - (i:Int))=(ed:Int):=ZaJ om om om;clear h4 h5 hcut hsort hA hB;refine fG (aj3 @q2 @w5 @tmz) ?_;refine gM (ι:=Bool) [185] [] (fun b=>[(185,.d (.one (.lit (.bool b))))]) (fun b=>[]) (fun b=>b=decide (i < mi∧mi < ed)) ?_ (fun b hb=>Exists.intro _ (ai (Wk.refl _) ?_))
 ·by_cases hr1:i < mi
  ·have q3:=lT i mi;by_cases hr2:mi < ed
   ·have q4:=lT mi ed;have F:=aj3 @q3 @q4 @tmz;refine gG ?_;exact ⟨true,(decide_eq_true (ai hr1 hr2)).symm,gw,gw⟩
   ·have q4:=lF mi ed;have F:=aj3 @q3 @q4 @tmz;refine gG ?_;exact ⟨false,(decide_eq_false fun h=>hr2 h.2).symm,gw,gw⟩
  ·have q3:=lF i mi;have F:=ai @q3 @tmz;refine gG ?_;exact ⟨false,(decide_eq_false fun h=>hr1 h.1).symm,gw,gw⟩
 subst hb;refine gM (ι:=Unit) [] [1000] (fun z=>[]) (fun z=>[(1000,.buf (some (a,cap)) 36 4 (Zac (P++A1++B1++(A2++B2++Q))))]) (fun z=>True) ?_ (fun z hz=>Exists.intro _ (ai (Wk.refl _) ?_))
 ·by_cases hr:i < mi∧mi < ed
  ·rw [decide_eq_true hr];obtain ⟨hr1,hr2⟩:=hr;have c:=Zyp (P++A1) A2 B1 (B2++Q) om om (A:=i) (M:=mi) (B:=ed) (N:=N) (by rw [Tae];omega) (by rw [Tae];omega) (by rw [Tae];omega) (by rw [Tae,Tae];omega) hmx a cap;rw [show P++A1++A2++B1++(B2++Q)=U by rw [hU,eA,eB];simp,show P++A1++B1++A2++(B2++Q)=P++A1++B1++(A2++B2++Q) by simp] at c;generalize P++A1++B1++(A2++B2++Q)=V at c ⊢;refine fN 40 @tmz ?_;refine gB ?_
   have F:=@tmz;refine gCP [1000] [1000] (c) ?_;clear F;rintro r pm ⟨rfl,rfl⟩;simp only [setA,retA,zipM,Taf,Tah];refine fR @tmz ?_;exact ⟨(),trivial,gw,gw⟩
  ·have hUU:U=P++A1++B1++(A2++B2++Q):=by
    rw [hU,eA,eB];rcases (show mi<=i∨mid<=i by omega) with h | h
    ·have:A2=[]:=Tao om;subst this;simp
    ·have:B1=[]:=Tao om;subst this;simp
   rw [<- hUU,decide_eq_false hr];have F:=@tmz;refine gG ?_;exact ⟨(),trivial,gw,gw⟩
 clear hU hUl U;refine ZdE ?_;refine ZdE ?_;refine gM (ι:=Bool) [199] [] (fun b=>[(199,.d (.one (.lit (.bool b))))]) (fun b=>[]) (fun b=>b=decide (lo < i∧i < mid)) ?_ (fun b hb=>Exists.intro _ (ai (Wk.refl _) ?_))
 ·by_cases hr1:lo < i
  ·have q3:=lT lo i;by_cases hr2:i < mid
   ·have q4:=lT i mid;have F:=aj3 @q3 @q4 @tmz;refine gG ?_;exact ⟨true,(decide_eq_true (ai hr1 hr2)).symm,gw,gw⟩
   ·have q4:=lF i mid;have F:=aj3 @q3 @q4 @tmz;refine gG ?_;exact ⟨false,(decide_eq_false fun h=>hr2 h.2).symm,gw,gw⟩
  ·have q3:=lF lo i;have F:=ai @q3 @tmz;refine gG ?_;exact ⟨false,(decide_eq_false fun h=>hr1 h.1).symm,gw,gw⟩
 subst hb;refine gM (ι:=Unit) [] [1000] (fun z=>[]) (fun z=>[(1000,.buf (some (a,cap)) 36 4 (Zac (P++Zaw (A1++B1)++(A2++B2++Q))))]) (fun z=>True) ?_ (fun z hz=>Exists.intro _ (ai (Wk.refl _) ?_))
 ·by_cases hr:lo < i∧i < mid
  ·rw [decide_eq_true hr];obtain ⟨hr1,hr2⟩:=hr;have c:=ih P A1 B1 (A2++B2++Q) om om om uA1 uB1 (lo:=lo) (mi:=i) (hi:=mid) (N:=N) hlo om om (by simp only [Tae];omega) hmx a cap;generalize P++Zaw (A1++B1)++(A2++B2++Q)=V at c ⊢;generalize P++A1++B1++(A2++B2++Q)=V' at c ⊢;refine fN 42 @tmz ?_;refine gB ?_;have F:=@tmz;refine gCP [1000] [1000] (c) ?_;clear F;rintro r pm ⟨rfl,rfl⟩;simp only [setA,retA,zipM,Taf,Tah]
   refine fR @tmz ?_;exact ⟨(),trivial,gw,gw⟩
  ·have hs:Zaw (A1++B1)=A1++B1:=by
    rcases (show i<=lo∨mid<=i by omega) with h | h
    ·have:A1=[]:=Tao om;subst this;exact ZdQ uB1
    ·have:B1=[]:=Tao om;subst this;rw [List.append_nil];exact ZdQ uA1
   rw [hs,<- Tbf P,decide_eq_false hr];generalize P++A1++B1++(A2++B2++Q)=V;have F:=@tmz;refine gG ?_;exact ⟨(),trivial,gw,gw⟩
 have hsl:(Zaw (A1++B1)).length=mid - lo:=by rw [ZcT,Tae];omega
 generalize Zaw (A1++B1)=S1 at hsl ⊢;rw [show P++S1++(A2++B2++Q)=P++S1++A2++B2++Q by simp,show P++(S1++Zaw (A2++B2))++Q=P++S1++Zaw (A2++B2)++Q by simp];refine ZdE ?_;refine gM (ι:=Bool) [213] [] (fun b=>[(213,.d (.one (.lit (.bool b))))]) (fun b=>[]) (fun b=>b=decide (mid < ed∧ed < hi)) ?_ (fun b hb=>Exists.intro _ (ai (Wk.refl _) ?_))
 ·by_cases hr1:mid < ed
  ·have q3:=lT mid ed;by_cases hr2:ed < hi
   ·have q4:=lT ed hi;have F:=aj3 @q3 @q4 @tmz;refine gG ?_;exact ⟨true,(decide_eq_true (ai hr1 hr2)).symm,gw,gw⟩
   ·have q4:=lF ed hi;have F:=aj3 @q3 @q4 @tmz;refine gG ?_;exact ⟨false,(decide_eq_false fun h=>hr2 h.2).symm,gw,gw⟩
  ·have q3:=lF mid ed;have F:=ai @q3 @tmz;refine gG ?_;exact ⟨false,(decide_eq_false fun h=>hr1 h.1).symm,gw,gw⟩
 subst hb;by_cases hr:mid < ed∧ed < hi
 ·rw [decide_eq_true hr];obtain ⟨hr1,hr2⟩:=hr;have c:=ih (P++S1) A2 B2 Q om om om uA2 uB2 (lo:=mid) (mi:=ed) (hi:=hi) (N:=N) (by rw [Tae];omega) (by rw [Tae];omega) (by rw [Tae];omega) (by simp only [Tae];omega) hmx a cap;generalize P++S1++Zaw (A2++B2)++Q=V at c ⊢;generalize P++S1++A2++B2++Q=V' at c ⊢;refine fN 44 @tmz ?_;refine gB ?_;have F:=@tmz;refine gCP [1000] [1000] (c) ?_;clear F;rintro r pm ⟨rfl,rfl⟩
  simp only [setA,retA,zipM,Taf,Tah];refine fR @tmz ?_
  first | exact (have F:=@e0P;gTPe (R:=RBuf a cap V) [1000] ⟨rfl,rfl⟩) | exact (have F:=@e0P;gTP (R:=RBuf a cap V) [1000] ⟨rfl,rfl⟩)
 ·have hs:Zaw (A2++B2)=A2++B2:=by
   rcases (show ed<=mid∨hi<=ed by omega) with h | h
   ·have:A2=[]:=Tao om;subst this;exact ZdQ uB2
   ·have:B2=[]:=Tao om;subst this;rw [List.append_nil];exact ZdQ uA2
  rw [hs,<- Tbf (P++S1),decide_eq_false hr];generalize P++S1++A2++B2++Q=V;refine fG @tmz ?_
  first | exact (have F:=@e0P;gTPe (R:=RBuf a cap V) [1000] ⟨rfl,rfl⟩) | exact (have F:=@e0P;gTP (R:=RBuf a cap V) [1000] ⟨rfl,rfl⟩)
theorem Zpk {X A B r ts:List Tm} (h:(X++A++r).Perm ts) (hB:B.Perm A):(X++B++r).Perm ts:=((List.Perm.append_left X hB).append_right r).trans h
theorem Zpl (ts:List Tm) {N:Nat} (hN:N=ts.length) (hmx:N<=4000000) (a:Option Addr) (cap:Nat) :
  ConP e0 132 [.one (.lit (.slice a N cap)),.one (.lit (.int .i64 N)),.one (.fn 29 [])] [.buf (some (a,cap)) 36 4 (Zac ts)] (RBuf a cap (Zaw ts)):=by
 refine gIP (ts:=[]) [1000] 18014433942971335 Tryz.func132 ?_;refine fG @tmz ?_;have F:=@tmz;refine gL (ι:=(Nat × Nat) × List Tm) [7,8,13] [1000] (fun z=>[(7,.d (.one (.lit (.int .i64 (z.1.1:Int))))),(8,.d (.one (.lit (.int .i64 (z.1.2:Int)))))]) (fun z=>[(1000,.buf (some (a,cap)) 36 4 (Zac z.2))]) (fun z=>z.1.2=z.1.1+20∧z.1.1<=N∧∃ X,z.2=X++ts.drop z.1.1∧X.length=z.1.1∧Full 20 X∧X.Perm (ts.take z.1.1)) (fun z=>N - z.1.1) (((0,20),ts)) (⟨rfl,Taj _,[],rfl,rfl,.nil,List.Perm.refl _⟩) (fun z hz=>?_);clear F
 obtain ⟨⟨i,j⟩,us⟩:=z;obtain ⟨hj,hi,X,hus,hX,hF,hp⟩:=hz;simp only at hj hi hus hX hp;dsimp only;by_cases hlt:j<=N
 ·have q1:((j:Int)<=(N:Int))=True:=eq_true om;have hd:ts.drop i=(ts.drop i).take 20++ts.drop j:=by rw [hj,<- List.drop_drop,Tbm]
  have hl:((ts.drop i).take 20).length=20:=by rw [Taw,Tax];omega
  have ht:ts.take j=ts.take i++(ts.drop i).take 20:=by rw [hj,List.take_add]
  have c:=Zph X ((ts.drop i).take 20) (ts.drop j) (A:=i) (B:=j) (N:=N) hX.symm om (by rw [Tax];omega) hmx a cap;rw [Tbf X,<- hd,<- hus] at c;have wj:IntKind.i64.wrap ((j:Int)+20)=((j+20:Nat):Int):=ZaJ om om om;obtain ⟨V,hV⟩:∃ V,V=X++Zaw ((ts.drop i).take 20)++ts.drop j:=⟨_,rfl⟩;rw [<- hV] at c;obtain ⟨j',hj'⟩:∃ j',j'=j+20:=⟨_,rfl⟩;rw [<- hj'] at wj;refine fN 3 (ai @q1 @tmz) ?_;refine gB ?_;have F:=@tmz;refine gCP [1000] [1000] (c) ?_;clear F
  rintro r pm ⟨rfl,rfl⟩;simp only [setA,retA,zipM,Taf,Tah];refine fR @tmz ?_;have F:=@wj;refine gG ?_;exact ⟨((j,j'),V),⟨hj',hlt,X++Zaw ((ts.drop i).take 20),hV,by rw [Tae,ZcT];simp only;omega,hF.snoc (by rw [ZcT];exact hl) (ZcH _),by simp only;rw [ht];exact hp.append (Zbr _)⟩,gw,gw,by dsimp only;omega⟩
 have q1:((j:Int)<=(N:Int))=False:=eq_false om;have c:=Zph X (ts.drop i) [] (A:=i) (B:=N) (N:=N) hX.symm (by rw [Tax];omega) (by rw [Tax];simp;omega) hmx a cap;rw [List.append_nil,List.append_nil,<- hus] at c;have hB:Blks 20 (X++Zaw (ts.drop i)):=hF.blks (by rw [ZcT,Tax];omega) (ZcH _);have hP:(X++Zaw (ts.drop i)).Perm ts:=by
  have:=hp.append (Zbr (ts.drop i))
  rwa [Tbm] at this
 generalize X++Zaw (ts.drop i)=vs at c hB hP;refine fN 6 (ai @q1 @tmz) ?_;refine gB ?_;have F:=@tmz;refine gCP [1000] [1000] (c) ?_;clear F;rintro r pm ⟨rfl,rfl⟩;simp only [setA,retA,zipM,Taf,Tah];refine fR @tmz ?_;clear c q1 hus hF hp us X hX hi hj;refine fG @tmz ?_;have F:=@tmz;refine gL (ι:=Nat × List Tm) [6,7,8,9,30,35,54] [1000] (fun z=>[(6,.d (.one (.lit (.int .i64 (z.1:Int)))))]) (fun z=>[(1000,.buf (some (a,cap)) 36 4 (Zac z.2))]) (fun z=>0 < z.1∧z.1<=8000000∧Blks z.1 z.2∧z.2.Perm ts) (fun z=>N - z.1) ((20,vs)) (⟨om,om,hB,hP⟩) (fun z hz=>?_);clear F
 clear hB hP vs hlt i j;obtain ⟨k,us⟩:=z;obtain ⟨hk0,hk8,hB,hP⟩:=hz;simp only at hk0 hk8 hB hP;dsimp only;by_cases hlt:k < N;rotate_left
 ·have q1:=lF k N;have e:us=Zaw ts:=ZfM hP (hB.up (by rw [hP.length_eq];omega));subst e;refine fG (ai @q1 @tmz) ?_
  first | exact (have F:=@e0P;gTPe (R:=RBuf a cap (Zaw ts)) [1000] ⟨rfl,rfl⟩) | exact (have F:=@e0P;gTP (R:=RBuf a cap (Zaw ts)) [1000] ⟨rfl,rfl⟩)
 have q1:=lT k N;obtain ⟨k2,hk2⟩:∃ k2,k2=2 * k:=⟨_,rfl⟩;have w1:IntKind.i64.wrap (2 * (k:Int))=(k2:Int):=ZaJ om om om;have w2:IntKind.i64.wrap ((k:Int) * 2)=(k2:Int):=ZaJ om om om;refine fG (aj3 @q1 @w1 @tmz) ?_;have F:=@tmz;refine gL (ι:=(Nat × Nat) × List Tm) [7,8,35] [1000] (fun z=>[(7,.d (.one (.lit (.int .i64 (z.1.1:Int))))),(8,.d (.one (.lit (.int .i64 (z.1.2:Int)))))]) (fun z=>[(1000,.buf (some (a,cap)) 36 4 (Zac z.2))]) (fun z=>z.1.2=z.1.1+k2∧z.1.1<=N∧∃ X Y,z.2=X++Y∧X.length=z.1.1∧Full k2 X∧Blks k Y∧(X++Y).Perm ts) (fun z=>N - z.1.1) (((0,k2),us)) (⟨(Nat.zero_add _).symm,Taj _,[],us,rfl,rfl,.nil,hB,hP⟩) (fun z hz=>?_);clear F
 obtain ⟨⟨i,j⟩,vs⟩:=z;obtain ⟨hj,hi,X,Y,hvs,hX,hF,hY,hp⟩:=hz;simp only at hj hi hvs hX;dsimp only;have hpl:=hp.length_eq;rw [Tae] at hpl;obtain ⟨m,hm⟩:∃ m,m=i+k:=⟨_,rfl⟩;have w3:IntKind.i64.wrap ((i:Int)+(k:Int))=(m:Int):=ZaJ om om om;by_cases hjl:j<=N
 ·have q2:((j:Int)<=(N:Int))=True:=eq_true om;obtain ⟨A,B,r,hY',hA,hB',uA,uB,hr⟩:=hY.two hk0 om;have hYl:=congrArg List.length hY';simp only [Tae] at hYl;have c:=Zpj _ X A B r (Tai _) om om uA uB (lo:=i) (mi:=m) (hi:=j) (N:=N) hX.symm om om om hmx a cap;have e1:X++A++B++r=vs:=by rw [hvs,hY'];simp
  rw [e1] at c;have hp2:(X++Zaw (A++B)++r).Perm ts:=Zpk (A:=A++B) (by rw [<- Tbf,e1,hvs];exact hp) (Zbr _);obtain ⟨V,hV⟩:∃ V,V=X++Zaw (A++B)++r:=⟨_,rfl⟩;rw [<- hV] at c;obtain ⟨j',hj'⟩:∃ j',j'=j+k2:=⟨_,rfl⟩;have wj:IntKind.i64.wrap ((j:Int)+(k2:Int))=(j':Int):=ZaJ om om om;refine fN 10 (ai @q2 @tmz) ?_;refine gB ?_;have F:=ai @tmz @w3;refine gCP [1000] [1000] (c) ?_;clear F;rintro r' pm ⟨rfl,rfl⟩;simp only [setA,retA,zipM,Taf,Tah]
  refine fR @tmz ?_;have F:=ai @w1 @wj;refine gG ?_;exact ⟨((j,j'),V),⟨hj',hjl,X++Zaw (A++B),r,hV,by simp only;rw [Tae,ZcT,Tae];omega,hF.snoc (by rw [ZcT,Tae];omega) (ZcH _),hr,hp2⟩,gw,gw,by dsimp only;omega⟩
 have q2:((j:Int)<=(N:Int))=False:=eq_false om;by_cases hmn:m < N
 ·have q3:=lT m N;obtain ⟨A,B,hY',hA,uA,hB'⟩:=hY.split om;have hYl:=congrArg List.length hY';simp only [Tae] at hYl;have uB:=hB'.up om;have c:=Zpj _ X A B [] (Tai _) om om uA uB (lo:=i) (mi:=m) (hi:=N) (N:=N) hX.symm om om (by simp only [Tak];omega) hmx a cap;have e1:X++A++B++[]=vs:=by rw [hvs,hY'];simp
  rw [e1] at c;have hp2:(X++Zaw (A++B)++[]).Perm ts:=Zpk (A:=A++B) (by rw [<- Tbf,e1,hvs];exact hp) (Zbr _);rw [List.append_nil] at hp2;obtain ⟨V,hV⟩:∃ V,V=X++Zaw (A++B):=⟨_,rfl⟩;rw [List.append_nil,<- hV] at c;refine fN 15 (aj4 @q2 @q3 @w3 @tmz) ?_;refine gB ?_;have F:=@tmz;refine gCP [1000] [1000] (c) ?_;clear F;rintro r' pm ⟨rfl,rfl⟩;simp only [setA,retA,zipM,Taf,Tah];refine fR @tmz ?_;have F:=@w2;refine gG ?_;exact ⟨(k2,V),⟨om,om,by rw [hV];exact hF.blks (by rw [ZcT,Tae];omega) (ZcH _),by rw [hV];exact hp2⟩,gw,gw,om⟩
 have q3:=lF m N;have F:=aj4 @q2 @q3 @w2 @w3;refine gG ?_;exact ⟨(k2,vs),⟨om,om,by rw [hvs];exact hF.blks om (hY.up om),by rw [hvs];exact hp⟩,gw,gw,om⟩
theorem Zqn (ts:List Tm) (hmx:ts.length<=4000000) (a:Option Addr) (cap:Nat) :
  ConP e0 103 [.one (.lit (.slice a ts.length cap)),.one (.fn 29 [])] [.buf (some (a,cap)) 36 4 (Zac ts)] (RBuf a cap (Zaw ts)):=by
 refine gIP (ts:=[]) [1000] 3 Tryz.func103 ?_;refine gB ?_;have F:=@tmz;refine gCP [1000] [1000] (Zpl ts rfl hmx a cap) ?_;clear F;rintro r pm ⟨rfl,rfl⟩;simp only [setA,retA,zipM,Taf,Tah];refine fR @tmz ?_;refine fG @tmz ?_
 first | exact (have F:=@e0P;gTPe (R:=RBuf a cap (Zaw ts)) [1000] ⟨rfl,rfl⟩) | exact (have F:=@e0P;gTP (R:=RBuf a cap (Zaw ts)) [1000] ⟨rfl,rfl⟩)
theorem ZgL {g:Sgn} {o:Opr} {op:Int}:∀ {xs:List Tm},(∀ a∈xs,TermOk g a)->(Zah o op xs).length<=60 * xs.length∧sizeTms (Zah o op xs)<=60 * xs.length∧depthTms (Zah o op xs)<=20
 | [],_=>⟨Tai _,Tai _,by simp [Zah,depthTms]⟩
 | a::xs,h=>by
  obtain ⟨i1,i2,i3⟩:=ZgL (o:=o) (op:=op) fun x hx=>h x (Tal _ hx);have ha:=h a Tas;have e:Zah o op (a::xs)=ZaA o op a++Zah o op xs:=rfl;have s1:=ha.size;have s2:=ha.depth;rw [ZaM] at s1;rw [ZcB] at s2;have sl:=Zbq a.args;have hf:(ZaA o op a).length<=60∧sizeTms (ZaA o op a)<=60∧depthTms (ZaA o op a)<=20:=by
   unfold ZaA;split
   ·exact ⟨om,om,om⟩
   ·split
    ·exact ⟨by simp,by simp [sizeTms],by simp [depthTms]⟩
    ·refine ⟨by simp,?_,?_⟩
     ·have:=ha.size;simp only [sizeTms];omega
     ·have:=ha.depth;simp only [depthTms];omega
  have happ:∀ (l m:List Tm),sizeTms (l++m)=sizeTms l+sizeTms m∧depthTms (l++m)=max (depthTms l) (depthTms m):=fun l m=>by
   induction l with
   | nil=>simp [sizeTms,depthTms]
   | cons x l ih=>simp only [Taf,sizeTms,depthTms,ih.1,ih.2];omega
  rw [e,Tae,(happ _ _).1,(happ _ _).2,Tag];omega
section
variable {g:Sgn} {mc:C}
theorem Ztk (hg:SgnOk g) {op:Int} {o:Opr} (h0:0<=op) (ho:g.ops[op.toNat]?=some o) (hu:o.unit≠0):Con e0 102 [.one (.ptr (encX g mc)),.one (.lit (.int .i64 op))] [.agg (Zab (ZaB o))]:=by
 have hax:=hg.axs o (Tac ho);have hlo:=hax.lo;have hhi:=hax.hi;have hln:=hg.len;have hw:IntKind.i64.wrap (o.unit - 1)=o.unit - 1:=ZaJ rfl om om;have em:Zab (ZaB o)=[.lit (.int .i64 (o.unit - 1)),.lit (.string ByteArray.empty),.lit (.int .i64 0),.sl []]:=by simp only [ZaB,if_neg hu,Zab,Zac]
 refine gI (ts:=[.cell 4 36]) 19 Tryz.func102 ?_;exact fD (aj7 @Zbb @h0 @ho @Zag @hw @em @tmz)
open Classical in
theorem Ztl (hg:SgnOk g) {op:Int} {o:Opr} {d:Dcl} (h0:0<=op) (ho:g.ops[op.toNat]?=some o) (hd:o.decls[0]?=some d) (xs:List Tm) (ha:∀ a∈xs,TermOk g a) (hl:xs.length<=1048576) (hl2:(Zah o op xs).length<=4000000):Con e0 58 [.one (.ptr (encX g mc)),.one (.lit (.int .i64 op)),.one (.sl (Zac xs))] [.agg (Zab ((mkO g o d op xs).getD zTm)),.one (.lit (.bool (mkO g o d op xs).isSome))]:=by
 have hz:=ZeC;have hfb:=ZgL (o:=o) (op:=op) ha;refine gI (ts:=[.cell 6 36,.slot 7]) 85070612101775940130758990405381922759 Tryz.func58 ?_;by_cases hAr:ArB o d xs.length
 ·rw [show mkO g o d op xs=none by unfold mkO;rw [if_pos hAr]];rcases hAr with ⟨h1,h2⟩ | ⟨h1,h2⟩
  ·have q1:=lT xs.length 2;exact fD (aj8 @Zbb @h0 @ho @Zag @h1 @q1 @hz @tmz)
  ·have q1:((xs.length:Int)=(d.args.length:Int))=False:=eq_false om;exact fD (aj10 @Zbb @h0 @ho @Zag @h1 @hd @ZaN @q1 @hz @tmz)
 refine fG (aj5 @tmz @Zbb @h0 @ho @Zag) ?_;refine gM (ι:=Unit) [43] [] (fun u=>[(43,A.d (.one (.lit (.bool false))))]) (fun u=>[]) (fun u=>True) ?_ (fun u hu=>Exists.intro _ (ai (Wk.refl _) ?_))
 ·cases ha:o.assoc with
  | true =>
   have c1:((xs.length:Int) < 2)=False:=eq_false fun c=>hAr (.inl ⟨ha,om⟩);have F:=aj4 @tmz @Zag @ha @c1;refine gG ?_;exact ⟨(),trivial,gw,gw⟩
  | false =>
   have c3:((xs.length:Int)=(d.args.length:Int))=True:=eq_true (by have:¬ (xs.length≠d.args.length):=fun c=>hAr (.inr ⟨ha,c⟩);omega);have F:=aj6 @tmz @Zag @ha @hd @ZaN @c3;refine gG ?_;exact ⟨(),trivial,gw,gw⟩
 have hnas:o.assoc=false->xs.length=d.args.length:=fun h=>Classical.byContradiction fun c=>hAr (.inr ⟨h,c⟩);have hfl0:Zah o op []=[]:=rfl;refine fG @tmz ?_;have F:=aj3 @hfl0 @Zcn @tmz;refine gL (ι:=Nat) [7,9,10,11,48,49,60,62,75] [9] (fun i=>[(48,A.d (.one (.lit (.int .i64 i)))),(9,.buf 9)]) (fun i=>[(9,.buf none 36 4 (Zac (Zah o op (xs.take i))))]) (fun i=>i<=xs.length∧∀ (j:Nat) a,j < i->xs[j]?=some a->KArg g o d j a) (fun i=>xs.length - i) (0) (⟨Taj _,fun j a h=>absurd h om⟩) (fun i hi=>?_);clear F
 obtain ⟨hi,hall⟩:=hi;by_cases hlt:i < xs.length
 ·obtain ⟨a,hai⟩:∃ a,xs[i]?=some a:=⟨_,Taa hlt⟩;have hT:=ha a (Tac hai);have q1:=lT i xs.length;have hw1:=Zat (k:=i) om;obtain ⟨k,hk⟩:=ZfL hg ho hd hnas hlt;have hst:=Zhk (o:=o) (op:=op) hai;have hle:=Ze2 o op xs (i+1);rw [hst,Tae] at hle;refine fN 8 (aj3 @q1 @hai @tmz) ?_;refine gB ?_;refine fC @tmz (Zlp hg hT.form.node) ?_;refine fC @tmz (Zj0 hg h0 ho hd hk) ?_;by_cases hkd:ZbK g a=((kd g.sorts k:Nat):Int)
  rotate_left
  ·have e:mkO g o d op xs=none:=by
    unfold mkO;rw [if_neg hAr,if_neg fun h=>by
     obtain ⟨k',hk',he⟩:=h i a hai;rw [hk] at hk';injection hk' with hk'
     subst hk';exact hkd he]
   rw [e];refine fR (ai @tmz @hkd) ?_;exact fD (ai @hz @tmz)
  have hnext:i+1<=xs.length∧∀ (j:Nat) a,j < i+1->xs[j]?=some a->KArg g o d j a:=⟨hlt,fun j a' hj ha'=>by
   by_cases e:j=i
   ·subst e;rw [hai] at ha';injection ha' with ha'
    subst ha';exact ⟨k,hk,hkd⟩
   ·exact hall j a' om ha'⟩
  have l1:ZaI 4 (Zac (Zah o op (xs.take i)))=true:=Zcy _;have l5:ZaI 4 (Zac a.args)=true:=Zcy _;by_cases hN:o.assoc=true∧a.op=op
  ·have e:ZaA o op a=a.args:=by unfold ZaA;rw [if_pos hN]
   rw [e] at hst hle;have l3:((Zah o op (xs.take i)).length+a.args.length<=maxApp)=True:=eq_true (by unfold maxApp;omega);have l4:Zac (Zah o op (xs.take i))++Zac a.args=Zac (Zah o op (xs.take (i+1))):=by rw [hst,ZbI]
   obtain ⟨hN1,hN2⟩:=hN;have q2:(a.op=op)=True:=eq_true hN2;refine fR (ai @tmz @hkd) ?_;have F:=aj9 @tmz @Zag @hN1 @q2 @l1 @l5 @l3 @l4 @hw1;refine gG ?_;exact ⟨i+1,hnext,gw,gw,om⟩
  ·have cU:=Zlq (mc:=mc) hg h0 ho a;have hne:o.assoc=true->(a.op=op)=False:=fun h1=>eq_false fun h2=>hN ⟨h1,h2⟩;refine fR (ai @tmz @hkd) ?_;refine fN 12 (aj3 @tmz @Zag @hne) ?_;by_cases hU:o.unit≠0∧a.op=o.unit - 1
   ·have e:ZaA o op a=[]:=by unfold ZaA;rw [if_neg hN,if_pos hU]
    rw [e,List.append_nil] at hst;rw [decide_eq_true hU] at cU;rw [<- hst];rcases Bool.eq_false_or_eq_true o.assoc with hac | hac
    ·have hq:=hne hac;refine fN 12 (aj4 @tmz @Zag @hac @hq) ?_;refine gB ?_;refine fC @tmz (cU) ?_;refine fR @tmz ?_;have F:=aj3 @tmz @hac @hw1;refine gG ?_;exact ⟨i+1,hnext,gw,gw,om⟩
    ·refine fN 12 (aj3 @tmz @Zag @hac) ?_;refine gB ?_;refine fC @tmz (cU) ?_;refine fR @tmz ?_;have F:=aj3 @tmz @hac @hw1;refine gG ?_;exact ⟨i+1,hnext,gw,gw,om⟩
   ·have e:ZaA o op a=[a]:=by unfold ZaA;rw [if_neg hN,if_neg hU]
    rw [e] at hst hle;rw [decide_eq_false hU] at cU;have l3:((Zah o op (xs.take i)).length+1<=maxApp)=True:=eq_true (by simp only [Tag,Tak] at hle;unfold maxApp;omega);have l4:Zac (Zah o op (xs.take i))++[Zab a]=Zac (Zah o op (xs.take (i+1))):=by rw [hst,ZbI,Zcl]
    rcases Bool.eq_false_or_eq_true o.assoc with hac | hac
    ·have hq:=hne hac;refine fN 12 (aj4 @tmz @Zag @hac @hq) ?_;refine gB ?_;refine fC @tmz (cU) ?_;refine fR @tmz ?_;have F:=aj6 @tmz @hac @l1 @l3 @l4 @hw1;refine gG ?_;exact ⟨i+1,hnext,gw,gw,om⟩
    ·refine fN 12 (aj3 @tmz @Zag @hac) ?_;refine gB ?_;refine fC @tmz (cU) ?_;refine fR @tmz ?_;have F:=aj6 @tmz @hac @l1 @l3 @l4 @hw1;refine gG ?_;exact ⟨i+1,hnext,gw,gw,om⟩
 ·obtain rfl:i=xs.length:=by omega
  have q1:=lF xs.length xs.length;rw [Tap];have hm:mkO g o d op xs=mkL o op (Zah o op xs):=by
   unfold mkO;rw [if_neg hAr,if_pos fun j a h=>hall j a (Tad.1 h).1 h]
  rw [hm];clear hm hall hnas;generalize hL:Zah o op xs=L at hfb hl2 ⊢;obtain ⟨b1,b2,b3⟩:=hfb;have hax:=hg.axs o (Tac ho);have hlo:=hax.lo;have cUn:=fun hu=>Ztk (mc:=mc) hg h0 ho hu;by_cases hu:o.unit≠0∧L.length < 2
  ·have e:mkL o op L=some (L.headD (ZaB o)):=by unfold mkL;rw [if_pos hu]
   rw [e];obtain ⟨hu1,hu2⟩:=hu;have q2:(o.unit=0)=False:=eq_false hu1;have q3:=lT L.length 2
   cases L with
   | nil =>
    have z1:=lT (0:Nat) 2;have z2:(((0:Nat):Int)=1)=False:=eq_false om;refine fN 18 (aj6 @q1 @Zag @q2 @z1 @z2 @tmz) ?_;refine gB ?_;refine fC @tmz (cUn hu1) ?_;refine fR @tmz ?_;exact fD @tmz
   | cons b bs =>
    have hb:bs=[]:=Tao (by simp only [Tag] at hu2;omega);subst hb;have z1:=lT (0+1:Nat) 2;have z2:(((0+1:Nat):Int)=1)=True:=eq_true om;have z3:=lT (1:Nat) 2;have z4:(((1:Nat):Int)=1)=True:=eq_true om;have q5:([b]:List Tm)[0]?=some b:=rfl;have z5:(0 < 0+1)=True:=eq_true om;have z6:((0:Nat) < 1)=True:=eq_true om;have z7:Int.toNat 0=0:=rfl;have q6:(0 < [b].length)=True:=eq_true (by simp);exact fD (aj14 @q1 @Zag @q2 @q3 @z1 @z2 @z3 @z4 @z5 @z6 @z7 @q5 @q6 @tmz)
  ·have hml:mkL o op L=if BigT o op (srtO o L) then none else some (appT op (srtO o L)):=by unfold mkL;rw [if_neg hu]
   rw [hml];clear hml cUn;refine fG (ai @q1 @tmz) ?_;refine gM (ι:=Unit) [93] [] (fun u=>[(93,A.d (.one (.lit (.bool false))))]) (fun u=>[]) (fun u=>True) ?_ (fun u hu=>Exists.intro _ (ai (Wk.refl _) ?_))
   ·by_cases hu0:o.unit=0
    ·have q2:(o.unit=0)=True:=eq_true hu0;have F:=aj3 @Zag @q2 @tmz;refine gG ?_;exact ⟨(),trivial,gw,gw⟩
    ·have q2:(o.unit=0)=False:=eq_false hu0;have q3:((L.length:Int) < 2)=False:=eq_false fun h=>hu ⟨hu0,om⟩;have F:=aj4 @Zag @q2 @q3 @tmz;refine gG ?_;exact ⟨(),trivial,gw,gw⟩
   refine fN 19 @tmz ?_;refine pS 9 fun a cap=>?_;refine gB ?_;refine fR (ai @Zag @tmz) ?_;refine gM (ι:=Unit) [] [9] (fun u=>[]) (fun u=>[(9,.buf (some (a,cap)) 36 4 (Zac (srtO o L)))]) (fun u=>True) ?_ (fun u hu=>Exists.intro _ (ai (Wk.refl _) ?_))
   ·cases hcm:o.comm with
    | true =>
     rw [show srtO o L=Zaw L by unfold srtO;rw [if_pos hcm]];refine fN 20 (ai @hcm @tmz) ?_;refine gB ?_;have F:=@tmz;refine gCP [9] [9] (Zqn L om a cap) ?_;clear F;rintro r pm ⟨rfl,rfl⟩;simp only [setA,retA,zipM,Taf,Tah];refine fR @tmz ?_;exact (have F:=tmz;⟨(),trivial,gw,gw⟩)
    | false =>
     rw [show srtO o L=L by unfold srtO;rw [if_neg (by rw [hcm];simp)]];have F:=ai @hcm @tmz;refine gG ?_;exact ⟨(),trivial,gw,gw⟩
   have hSl:=ZgE o L;have sz1:=Zd8 (ZcI o L);have dz1:=Zc7 (ZcI o L);generalize srtO o L=S at hSl sz1 dz1 ⊢;rw [<- hSl,<- Zae S];refine pD 9 [9] [] ?_;have em:Zab (appT op S)=[.lit (.int .i64 op),.lit (.string ByteArray.empty),.lit (.int .i64 0),.sl (Zac S)]:=by simp only [appT,Zab]
   have zs:sizeTm (appT op S)=1+sizeTms S:=by rw [ZaM];rfl
   have zd:depthTm (appT op S)=1+depthTms S:=by rw [ZcB];rfl
   have c1:=ZiN (t:=appT op S) (by unfold big;omega);have c2:=Ziu (t:=appT op S) (by unfold big;omega);rw [em] at c1 c2;refine fN 22 @tmz ?_;by_cases h7:o.assoc=true∧7 < S.length
   ·rw [if_pos (show BigT o op S from .inl h7)];obtain ⟨hac,h7⟩:=h7;have q2:=lT 7 S.length;exact fD (aj5 @Zag @hac @q2 @hz @tmz)
   have hac:o.assoc=true->(7 < (S.length:Int))=False:=fun h=>eq_false fun q=>h7 ⟨h,om⟩;rcases Bool.eq_false_or_eq_true o.assoc with ha' | ha'
   ·have q2:=hac ha';refine gB ?_;refine fC (aj4 @Zag @ha' @q2 @tmz) (c1) ?_;by_cases hs:60 < sizeTm (appT op S)
    ·have z1:=lT 60 (sizeTm (appT op S));rw [if_pos (show BigT o op S from .inr (.inl hs))];refine fR (ai @z1 @tmz) ?_;exact fD (ai @hz @tmz)
    have z1:=lF 60 (sizeTm (appT op S));refine fC (ai @z1 @tmz) (c2) ?_;by_cases hd2:20 < depthTm (appT op S)
    ·have z2:=lT 20 (depthTm (appT op S));rw [if_pos (show BigT o op S from .inr (.inr hd2))];refine fR (ai @z2 @tmz) ?_;exact fD (ai @hz @tmz)
    have z2:=lF 20 (depthTm (appT op S));rw [if_neg (show ¬ BigT o op S from fun h=>h.elim h7 (fun h=>h.elim hs hd2))];refine fR (ai @z2 @tmz) ?_;exact fD (ai @em @tmz)
   ·refine gB ?_;refine fC (aj3 @Zag @ha' @tmz) (c1) ?_;by_cases hs:60 < sizeTm (appT op S)
    ·have z1:=lT 60 (sizeTm (appT op S));rw [if_pos (show BigT o op S from .inr (.inl hs))];refine fR (ai @z1 @tmz) ?_;exact fD (ai @hz @tmz)
    have z1:=lF 60 (sizeTm (appT op S));refine fC (ai @z1 @tmz) (c2) ?_;by_cases hd2:20 < depthTm (appT op S)
    ·have z2:=lT 20 (depthTm (appT op S));rw [if_pos (show BigT o op S from .inr (.inr hd2))];refine fR (ai @z2 @tmz) ?_;exact fD (ai @hz @tmz)
    have z2:=lF 20 (depthTm (appT op S));rw [if_neg (show ¬ BigT o op S from fun h=>h.elim h7 (fun h=>h.elim hs hd2))];refine fR (ai @z2 @tmz) ?_;exact fD (ai @em @tmz)
open Classical in
theorem ZwQ (hg:SgnOk g) {op:Int} {o:Opr} {d:Dcl} (h0:0<=op) (ho:g.ops[op.toNat]?=some o) (hd:o.decls[0]?=some d) (xs:List Tm) (ha:∀ a∈xs,TermOk g a) (hl:xs.length<=1000):Con e0 58 [.one (.ptr (encX g mc)),.one (.lit (.int .i64 op)),.one (.sl (Zac xs))] [.agg (Zab ((mkO g o d op xs).getD zTm)),.one (.lit (.bool (mkO g o d op xs).isSome))]:=Ztl hg h0 ho hd xs ha om (by have:=(ZgL (o:=o) (op:=op) ha).1;omega)
end
theorem Zna {ts:List Tm}:ZaF ts ↔ ∀ t∈ts,okTm t:=by
 induction ts with
 | nil=>simp [ZaF]
 | cons t ts ih=>simp [ZaF,ih]
theorem ZhK (op so:Int) (nm:ByteArray) (args:List Tm):Zan (Zab (.mk op nm so args))=nm.size+(args.length+Zam (Zac args)):=by
 simp only [Zab,Zan,Zdm,Zae];omega
section
variable {g:Sgn}
mutual
theorem ZdA:∀ {t:Tm},ZaH g t->Zan (Zab t)+1<=13 * sizeTm t
 | .mk op nm so args,h=>by
  have h1:=Zic (Zhg.2 (ZaY.1 h).2.1);simp only [Tm.args] at h1;rw [ZhK];simp only [sizeTm];rcases h.node with hv | ⟨o,d,hA⟩
  ·have h2:Zba nm=true:=hv.2.1;have h3:args=[]:=hv.2.2.2.2;subst h3;have h4:¬ 12 < nm.size:=fun h=>by rw [ZcA (.inr (.inl h))] at h2;cases h2
   simp only [Zac,Zam,sizeTms,Tak];omega
  ·have h2:nm=ByteArray.empty:=hA.nm;subst h2;have:ByteArray.empty.size=0:=rfl;omega
theorem Zic:∀ {ts:List Tm},Zc6 g ts->Zam (Zac ts)+ts.length<=13 * sizeTms ts
 | [],_=>by simp [Zac,Zam]
 | t::ts,h=>by
  simp only [Zc6] at h;have h1:=ZdA h.1;have h2:=Zic h.2;simp only [Zac,Zam,sizeTms,Tag];omega
end
end
def addL (i:Nat):Nat->List Oper->List Oper
 | _,[]=>[]
 | 0,o::l=>{ o with after:=o.after.push ⟨i,.data⟩ }::l
 | k+1,o::l=>o::addL i k l
theorem ZgM (i:Nat):∀ (k:Nat) (l:List Oper) (j:Nat),(addL i k l)[j]?=if j=k then l[j]?.map fun o=>{ o with after:=o.after.push ⟨i,.data⟩ } else l[j]?
 | k,[],j=>by simp [addL]
 | 0,o::l,0=>by simp [addL]
 | 0,o::l,j+1=>by simp [addL]
 | k+1,o::l,0=>by simp [addL]
 | k+1,o::l,j+1=>by simp [addL,ZgM i k l j]
theorem Zid (i:Nat):∀ (k:Nat) (l:List Oper),(addL i k l).length=l.length
 | k,[]=>by simp [addL]
 | 0,o::l=>by simp [addL]
 | k+1,o::l=>by simp [addL,Zid i k l]
theorem ZkD (i:Nat):∀ (k:Nat) (l:List Oper),(addL i k l).map (·.dst)=l.map (·.dst)
 | k,[]=>by simp [addL]
 | 0,o::l=>by simp [addL]
 | k+1,o::l=>by simp [addL,ZkD i k l]
section
variable {P:Program} {l:List Oper} {i k:Nat} {oi ok:Oper}
theorem Zg4 {Q:Exit->Act->World->Prop} {j:Nat} {K:Act->World->Prop} {a:Act} {w:World}:wpOp P (addL i k l).toArray Q j K a w ↔ wpOp P l.toArray Q j K a w:=by
 have hb:∀ g:Nat,((addL i k l)[g]?).bind (fun x=>x.dst)=(l[g]?).bind fun x=>x.dst:=fun g=>by
  rw [ZgM];by_cases h:g=k
  ·rw [if_pos h];cases l[g]? <;> rfl
  ·rw [if_neg h]
 have hy:yielded (addL i k l).toArray a.tmps=yielded l.toArray a.tmps:=by
  funext g;unfold yielded;simp only [List.getElem?_toArray,hb]
 unfold wpOp;rw [hy];simp only [List.getElem?_toArray,ZgM];by_cases hjk:j=k
 ·rw [if_pos hjk]
  cases hj:l[j]? with
  | none=>exact Iff.rfl
  | some o=>exact Iff.rfl
 ·rw [if_neg hjk]
def ZwR (ops:Array Oper) (i:Nat):Bool:=(List.range ops.size).all fun j=>j==i || match ops[i]?,ops[j]? with
 | some oi,some oj=>oi.after.any (fun e=>Region.binds .any e && e.on==j) || (oj.after.any (fun e=>Region.binds .any e && e.on==i) || oi.apart ops oj)
 | _,_=>true
def ZlJ (ops:Array Oper) (i k:Nat):Bool:=Zh9 ops && ZwR ops i && i != k && match ops[i]?,ops[k]? with
 | some oi,some ok=>(match oi with
  | ⟨some _,.extract _ _,_,_,_,none⟩=>true
  | _=>false) && oi.after.all fun e=>!Region.binds .any e || ok.after.any fun e'=>Region.binds .any e' && e'.on==e.on
 | _,_=>false
theorem Ztm {Q:Exit->Act->World->Prop} (hQ:∀ ex a w,Q ex a w->ex=.normal) (hB:ZlJ l.toArray i k=true) :
  ∀ (f:Nat) (listed:Array Bool) (a:Act) (w:World),listed.size=l.length->wpAny P .any (addL i k l).toArray Q f listed a w->wpAny P .any l.toArray Q f listed a w:=by
 simp only [ZlJ,Tar,bne_iff_ne,ne_eq] at hB;obtain ⟨⟨⟨hsel,hap⟩,hik⟩,h4⟩:=hB;split at h4;rotate_left
 ·cases h4
 rename_i oi ok hoi hok;simp only [Tar] at h4;obtain ⟨h5,h6⟩:=h4;have hpre:∀ e∈oi.after,Region.binds .any e=true->∃ e'∈ok.after,Region.binds .any e'=true∧e'.on=e.on:=fun e he hb=>by
  have:=Array.all_eq_true_iff_forall_mem.1 h6 e he;simp only [hb,Bool.not_true,Bool.false_or,Array.any_eq_true',Tar,beq_iff_eq] at this;obtain ⟨e',q1,q2,q3⟩:=this;exact ⟨e',q1,q2,q3⟩
 have hrdy:∀ (listed:Array Bool) (j:Nat),j∈Region.ready .any (addL i k l).toArray listed ↔ j∈Region.ready .any l.toArray listed∧(j=k->listed.getD i false=true):=fun listed j=>by
  rw [mem_ready,mem_ready];simp only [List.getElem?_toArray,ZgM];by_cases hj:j=k
  ·subst hj;simp only [if_true,true_implies];constructor
   ·rintro ⟨q1,o,q2,q3⟩
    cases hl:l[j]? with
    | none=>rw [hl] at q2;cases q2
    | some o' =>
     rw [hl] at q2;injection q2 with q2
     subst q2;exact ⟨⟨q1,o',rfl,fun e he hb=>q3 e (by simp [he]) hb⟩,q3 ⟨i,.data⟩ (by simp) rfl⟩
   ·rintro ⟨⟨q1,o,q2,q3⟩,q4⟩;refine ⟨q1,_,by rw [q2];rfl,fun e he hb=>?_⟩;rcases Array.mem_push.1 he with he | he
    ·exact q3 e he hb
    ·subst he;exact q4
  ·simp [hj]
 have hun:∀ (listed:Array Bool),listed.size=l.length->k∈Region.ready .any l.toArray listed->i∈Region.ready .any l.toArray listed∨listed.getD i false=true:=fun listed hs hk=>by
  by_cases h:listed.getD i false=true
  ·exact .inr h
  ·left;rw [mem_ready] at hk ⊢;obtain ⟨_,o,q2,q3⟩:=hk;have:o=ok:=by rw [hok] at q2;injection q2 with q2;exact q2.symm
   subst this;have hlt:i < l.length:=by have:=(Tbl.1 hoi).1;simpa using this
   refine ⟨?_,oi,hoi,fun e he hb=>?_⟩
   ·have hl:i < listed.size:=om;rw [Zbf hl];simpa using h
   ·obtain ⟨e',r1,r2,r3⟩:=hpre e he hb;rw [<- r3];exact q3 e' r1 r2
 have hap':=hap;intro f
 induction f with
 | zero =>
  intro listed a w hs h;refine ⟨?_,h.2⟩;by_cases hk:k∈Region.ready .any l.toArray listed
  ·rcases hun listed hs hk with h1 | h1
   ·have:=(hrdy listed i).2 ⟨h1,fun e=>absurd e hik⟩;rw [h.1] at this
    cases this
   ·have:=(hrdy listed k).2 ⟨hk,fun _=>h1⟩;rw [h.1] at this
    cases this
  ·refine List.eq_nil_iff_forall_not_mem.2 fun j hj=>?_;have:=(hrdy listed j).2 ⟨hj,fun e=>absurd (e ▸ hj) hk⟩;rw [h.1] at this
   cases this
 | succ f ih =>
  intro listed a w hs h;by_cases hi:i∈Region.ready .any l.toArray listed
  ·have h1:=h.2 i ((hrdy listed i).2 ⟨hi,fun e=>absurd e hik⟩);rw [Zg4] at h1;have h1':∃ v,Yields P l.toArray oi v a∧wpAny P .any (addL i k l).toArray Q f (listed.setIfInBounds i true) (a.put oi.dst v) w:=by
    unfold wpOp at h1;simp only [hoi] at h1;split at h5;rotate_left
    ·cases h5
    rename_i d x n ty pos af;have hw:Region.wanted ⟨some d,.extract x n,ty,pos,af,none⟩ (yielded l.toArray a.tmps)=true:=by simp [Region.wanted]
    rw [if_pos hw] at h1;rcases h1 with h1 | ⟨_,b,w',h1⟩
    rotate_left
    ·have:=hQ _ _ _ h1;cases this
    unfold Oper.wp at h1
    cases hx:a.eval x with
    | tuple vs =>
     cases hv:vs[n]? with
     | some v =>
      have hrun:∀ w',(execOp a.eval ⟨some d,.extract x n,ty,pos,af,none⟩).run P w'=.ok (.value v) w':=fun w'=>by
       simp [execOp,Instr.extract,hx,hv]
      rw [hrun,Oper.upon_value] at h1;exact ⟨v,.inl ⟨hw,hrun⟩,h1⟩
     | none =>
      simp [execOp,Instr.extract,hx,hv,stuck,Oper.upon] at h1
    | _=>simp [execOp,Instr.extract,hx,stuck,Oper.upon] at h1
   obtain ⟨v,hv,h2⟩:=h1';refine wpAny_first (oi:=oi) (v:=v) hoi (fun j oj cs b hj hsl=>?_) (fun c a w hq=>?_) f listed a w (fun j oj hj hne hl hno=>?_) hi hv (ih _ _ _ (by simpa using hs) h2)
   ·have:=List.all_eq_true.1 hsel oj (Tac (by simpa using hj));rw [hsl] at this
    cases this
   ·have:=hQ _ _ _ hq;cases this
   ·have hjs:=(Tbl.1 hj).1;have:=List.all_eq_true.1 hap j (List.mem_range.2 hjs);simp only [hoi,hj,Bool.or_eq_true,beq_iff_eq,List.any_eq_true,Array.any_eq_true',Tar] at this;rcases this with h1 | h1 | h1 | h1
    ·exact absurd h1 hne
    ·obtain ⟨ed,h2,h3,h4⟩:=h1;obtain ⟨_,o,q2,q3⟩:=mem_ready.1 hi;rw [hoi] at q2;injection q2 with q2
     subst q2;have q4:=q3 ed h2 h3;rw [h4,<- Zbf (by simpa [hs] using hjs)] at q4;rw [hl] at q4
     cases q4
    ·obtain ⟨ed,h2,h3,h4⟩:=h1;exact absurd h4 (hno ed h2 h3)
    ·exact h1
  ·refine ⟨fun h0=>h.1 ?_,fun j hj=>?_⟩
   ·refine List.eq_nil_iff_forall_not_mem.2 fun j hj=>?_;have:=((hrdy listed j).1 hj).1;rw [h0] at this
    cases this
   ·have hj':j∈Region.ready .any (addL i k l).toArray listed:=(hrdy listed j).2 ⟨hj,fun e=>by
     subst e;rcases hun listed hs hj with h1 | h1
     ·exact absurd h1 hi
     ·exact h1⟩
    have h1:=h.2 j hj';rw [Zg4] at h1;exact wpOp_mono (fun a w h=>ih _ a w (by simpa using hs) h) h1
end
section
variable {e:Env} {K:St->Prop} {mask:Nat} {Q:PX->St->Prop} {s:List (Nat × A)} {m:List (Nat × Bk)}
theorem ZlK {l:List Oper} {i k:Nat} {σ:St} (hB:ZlJ l.toArray i k=true) (h:Zcb e (addL i k l).toArray K l.length (Array.replicate l.length false) σ):Zcb e l.toArray K l.length (Array.replicate l.length false) σ:=by
 intro he U w0 S0 nt a w hd hs;refine Ztm (fun ex a w hq=>hq.1) hB _ _ _ _ (by simp) (h he U w0 S0 nt a w (fun o ho d hdd=>?_) hs);have:some d∈(addL i k l).map (·.dst):=Tbi.2 ⟨o,by simpa using ho,hdd⟩;rw [ZkD] at this;obtain ⟨o',h1,h2⟩:=Tbi.1 this;exact hd o' (by simpa using h1) d h2
theorem Zqo {l:List Oper} {p:Nat} {σ:St} (hAl:ZeE l.toArray p=true) (hB:regB l.toArray (p+1)=true) (hp:Runs e (l.map (·.dst)) (p+1) l σ K):Zcb e l.toArray K l.length (Array.replicate l.length false) σ:=by
 intro he U w0 S0 nt a w hd hs;have:=Zgr (ops:=l.toArray) he hAl hB (K:=K) (Q:=QN e U w0 S0 nt K) (fun a w σ' hK hs'=>⟨rfl,σ',hK,hs'⟩) hd hs (by simpa using hp);simpa using this
theorem gLt {id:Nat} {l l':List Oper} {ds:List (Option Nat)} (p i k:Nat) (hK:Runs e ds (p+1) l' ⟨s,m⟩ (Zc5 mask Q)) (hl:addL i k l=l':=by simp only [addL];exact rfl) (hds:l'.map (·.dst)=ds:=by simp only [Tbu,List.map_nil];exact rfl) (hc:ZlJ l.toArray i k=true:=by decide +kernel) (hA:ZeE l'.toArray p=true:=by decide +kernel) (hr:regB l'.toArray (p+1)=true:=by decide +kernel):pwp e mask (.region id l.toArray true) ⟨s,m⟩ Q:=by
 subst hl hds;have h1:=ZlK hc (by have:=Zqo hA hr hK;rwa [Zid] at this);exact Zg1 (ops:=l.toArray) (by simpa using h1)
end
def ZAf (ops:Array Oper) (ok:Oper):List Nat:=(ok.after.toList.filter fun e=>Region.binds .any e).flatMap fun e=>e.on::match ops[e.on]? with
 | some o=>(o.after.toList.filter fun e=>Region.binds .any e).map (·.on)
 | none=>[]
def Zn8 (ops:Array Oper) (i k:Nat):Bool:=Zh9 ops && ZwR ops i && i != k && match ops[i]?,ops[k]? with
 | some oi,some ok=>(match oi with
  | ⟨some _,.pick _ _ _,_,_,_,none⟩=>true
  | _=>false) && oi.after.all fun e=>!Region.binds .any e || (ZAf ops ok).contains e.on
 | _,_=>false
section
variable {P:Program} {l:List Oper} {i k:Nat}
def ZhL (l:List Oper) (listed:Array Bool):Prop:=∀ (j:Nat) o,listed.getD j false=true->l[j]?=some o->∀ e∈o.after,Region.binds .any e=true->listed.getD e.on false=true
theorem ZhL.put {listed:Array Bool} {j:Nat} (hc:ZhL l listed) (hj:j∈Region.ready .any l.toArray listed):ZhL l (listed.setIfInBounds j true):=by
 intro q o hq ho e he hb;obtain ⟨_,o',h2,h3⟩:=mem_ready.1 hj;have hmono:∀ t,listed.getD t false=true->(listed.setIfInBounds j true).getD t false=true:=fun t ht=>by
  by_cases htj:t=j
  ·subst htj;simp only [Array.getD_eq_getD_getElem?,Array.getElem?_setIfInBounds] at ht ⊢
   cases hl:listed[t]? with
   | none=>rw [hl] at ht;cases ht
   | some b =>
    have:t < listed.size:=(Tbl.1 hl).1;simp [this]
  ·rw [getD_set_ne false (Ne.symm htj)];exact ht
 by_cases hqj:q=j
 ·subst hqj;have:o'=o:=by
   rw [List.getElem?_toArray,ho] at h2;injection h2 with h2
   exact h2.symm
  subst this;exact hmono _ (h3 e he hb)
 ·rw [getD_set_ne false (Ne.symm hqj)] at hq;exact hmono _ (hc q o hq ho e he hb)
theorem Zqp {Q:Exit->Act->World->Prop} (hQ:∀ ex a w,Q ex a w->ex=.normal) (hB:Zn8 l.toArray i k=true) :
  ∀ (f:Nat) (listed:Array Bool) (a:Act) (w:World),listed.size=l.length->ZhL l listed->wpAny P .any (addL i k l).toArray Q f listed a w->wpAny P .any l.toArray Q f listed a w:=by
 simp only [Zn8,Tar,bne_iff_ne,ne_eq] at hB;obtain ⟨⟨⟨hsel,hap⟩,hik⟩,h4⟩:=hB;split at h4;rotate_left
 ·cases h4
 rename_i oi ok hoi hok;simp only [Tar] at h4;obtain ⟨h5,h6⟩:=h4;have hrdy:∀ (listed:Array Bool) (j:Nat),j∈Region.ready .any (addL i k l).toArray listed ↔ j∈Region.ready .any l.toArray listed∧(j=k->listed.getD i false=true):=fun listed j=>by
  rw [mem_ready,mem_ready];simp only [List.getElem?_toArray,ZgM];by_cases hj:j=k
  ·subst hj;simp only [if_true,true_implies];constructor
   ·rintro ⟨q1,o,q2,q3⟩
    cases hl:l[j]? with
    | none=>rw [hl] at q2;cases q2
    | some o' =>
     rw [hl] at q2;injection q2 with q2
     subst q2;exact ⟨⟨q1,o',rfl,fun e he hb=>q3 e (by simp [he]) hb⟩,q3 ⟨i,.data⟩ (by simp) rfl⟩
   ·rintro ⟨⟨q1,o,q2,q3⟩,q4⟩;refine ⟨q1,_,by rw [q2];rfl,fun e he hb=>?_⟩;rcases Array.mem_push.1 he with he | he
    ·exact q3 e he hb
    ·subst he;exact q4
  ·simp [hj]
 have hun:∀ (listed:Array Bool),listed.size=l.length->ZhL l listed->k∈Region.ready .any l.toArray listed->i∈Region.ready .any l.toArray listed∨listed.getD i false=true:=fun listed hs hcl hk=>by
  by_cases h:listed.getD i false=true
  ·exact .inr h
  ·left;rw [mem_ready] at hk ⊢;obtain ⟨_,o,q2,q3⟩:=hk;have:o=ok:=by rw [hok] at q2;injection q2 with q2;exact q2.symm
   subst this;have hlt:i < l.length:=by have:=(Tbl.1 hoi).1;simpa using this
   refine ⟨?_,oi,hoi,fun e he hb=>?_⟩
   ·have hl:i < listed.size:=om;rw [Zbf hl];simpa using h
   ·have:=Array.all_eq_true_iff_forall_mem.1 h6 e he;simp only [hb,Bool.not_true,Bool.false_or,List.contains_eq_mem,decide_eq_true_eq,ZAf,List.mem_flatMap,List.mem_filter,Tbg] at this;obtain ⟨e',⟨r1,r2⟩,r3⟩:=this;have hl':=q3 e' (Array.mem_toList_iff.1 r1) r2;rcases r3 with r3 | r3
    ·rw [r3];exact hl'
    ·cases ho':l.toArray[e'.on]? with
     | none=>rw [ho'] at r3;simp at r3
     | some o' =>
      rw [ho'] at r3;simp only [Tbi,List.mem_filter] at r3;obtain ⟨e2,⟨r4,r5⟩,r6⟩:=r3;rw [<- r6];exact hcl e'.on o' hl' (by simpa using ho') e2 (Array.mem_toList_iff.1 r4) r5
 intro f
 induction f with
 | zero =>
  intro listed a w hs hcl h;refine ⟨?_,h.2⟩;by_cases hk:k∈Region.ready .any l.toArray listed
  ·rcases hun listed hs hcl hk with h1 | h1
   ·have:=(hrdy listed i).2 ⟨h1,fun e=>absurd e hik⟩;rw [h.1] at this
    cases this
   ·have:=(hrdy listed k).2 ⟨hk,fun _=>h1⟩;rw [h.1] at this
    cases this
  ·refine List.eq_nil_iff_forall_not_mem.2 fun j hj=>?_;have:=(hrdy listed j).2 ⟨hj,fun e=>absurd (e ▸ hj) hk⟩;rw [h.1] at this
   cases this
 | succ f ih =>
  intro listed a w hs hcl h;by_cases hi:i∈Region.ready .any l.toArray listed
  ·have h1:=h.2 i ((hrdy listed i).2 ⟨hi,fun e=>absurd e hik⟩);rw [Zg4] at h1;have h1':∃ v,Yields P l.toArray oi v a∧wpAny P .any (addL i k l).toArray Q f (listed.setIfInBounds i true) (a.put oi.dst v) w:=by
    unfold wpOp at h1;simp only [hoi] at h1;split at h5;rotate_left
    ·cases h5
    rename_i d x y z ty pos af;have hw:Region.wanted ⟨some d,.pick x y z,ty,pos,af,none⟩ (yielded l.toArray a.tmps)=true:=by simp [Region.wanted]
    rw [if_pos hw] at h1;rcases h1 with h1 | ⟨_,b,w',h1⟩
    rotate_left
    ·have:=hQ _ _ _ h1;cases this
    unfold Oper.wp at h1
    cases hx:a.eval x with
    | bool b =>
     have hrun:∀ w',(execOp a.eval ⟨some d,.pick x y z,ty,pos,af,none⟩).run P w'=.ok (.value (if b then a.eval y else a.eval z)) w':=fun w'=>by
      cases b <;> simp [execOp,hx,asBool]
     rw [hrun,Oper.upon_value] at h1;exact ⟨_,.inl ⟨hw,hrun⟩,h1⟩
    | _=>simp [execOp,hx,asBool,stuck,Oper.upon,Result.andThen] at h1
   obtain ⟨v,hv,h2⟩:=h1';refine wpAny_first (oi:=oi) (v:=v) hoi (fun j oj cs b hj hsl=>?_) (fun c a w hq=>?_) f listed a w (fun j oj hj hne hl hno=>?_) hi hv (ih _ _ _ (by simpa using hs) (hcl.put hi) h2)
   ·have:=List.all_eq_true.1 hsel oj (Tac (by simpa using hj));rw [hsl] at this
    cases this
   ·have:=hQ _ _ _ hq;cases this
   ·have hjs:=(Tbl.1 hj).1;have:=List.all_eq_true.1 hap j (List.mem_range.2 hjs);simp only [hoi,hj,Bool.or_eq_true,beq_iff_eq,List.any_eq_true,Array.any_eq_true',Tar] at this;rcases this with h1 | h1 | h1 | h1
    ·exact absurd h1 hne
    ·obtain ⟨ed,h2,h3,h4⟩:=h1;obtain ⟨_,o,q2,q3⟩:=mem_ready.1 hi;rw [hoi] at q2;injection q2 with q2
     subst q2;have q4:=q3 ed h2 h3;rw [h4,<- Zbf (by simpa [hs] using hjs)] at q4;rw [hl] at q4
     cases q4
    ·obtain ⟨ed,h2,h3,h4⟩:=h1;exact absurd h4 (hno ed h2 h3)
    ·exact h1
  ·refine ⟨fun h0=>h.1 ?_,fun j hj=>?_⟩
   ·refine List.eq_nil_iff_forall_not_mem.2 fun j hj=>?_;have:=((hrdy listed j).1 hj).1;rw [h0] at this
    cases this
   ·have hj':j∈Region.ready .any (addL i k l).toArray listed:=(hrdy listed j).2 ⟨hj,fun e=>by
     subst e;rcases hun listed hs hcl hj with h1 | h1
     ·exact absurd h1 hi
     ·exact h1⟩
    have h1:=h.2 j hj';rw [Zg4] at h1;exact wpOp_mono (fun a w h=>ih _ a w (by simpa using hs) (hcl.put hj) h) h1
end
section
variable {e:Env} {K:St->Prop} {mask:Nat} {Q:PX->St->Prop} {s:List (Nat × A)} {m:List (Nat × Bk)}
theorem Zqq {l:List Oper} {i k:Nat} {σ:St} (hB:Zn8 l.toArray i k=true) (h:Zcb e (addL i k l).toArray K l.length (Array.replicate l.length false) σ):Zcb e l.toArray K l.length (Array.replicate l.length false) σ:=by
 intro he U w0 S0 nt a w hd hs;refine Zqp (fun ex a w hq=>hq.1) hB _ _ _ _ (by simp) (fun j o hj=>by rw [getD_replicate_false] at hj;cases hj) (h he U w0 S0 nt a w (fun o ho d hdd=>?_) hs);have:some d∈(addL i k l).map (·.dst):=Tbi.2 ⟨o,by simpa using ho,hdd⟩;rw [ZkD] at this;obtain ⟨o',h1,h2⟩:=Tbi.1 this;exact hd o' (by simpa using h1) d h2
theorem ZlL (he:e.Ok) {U:Nat->Prop} {w0:World} {S0:Nat->Prop} {nt:Nat} {ops:Array Oper} {n:Nat} (hB:regB ops n=true) (hna:∀ o,(ops.toList.take n).getLast?=some o->isAl o=false) {Q:Exit->Act->World->Prop} (hQ:∀ a w σ',K σ'->SimE e U w0 S0 nt σ' a w->Q .normal a w) {σ:St} {a:Act} {w:World}
  (hd:∀ o∈ops.toList,∀ d,o.dst=some d->d < nt) (h:SimE e U w0 S0 nt σ a w) (hp:Runs e (ops.toList.map (·.dst)) n ops.toList σ K):wpAny e.P .any ops Q ops.size (Array.replicate ops.size false) a w:=by
 simp only [regB,Tar,Bool.or_eq_true,decide_eq_true_eq] at hB;obtain ⟨⟨⟨hH,hn⟩,hs⟩,hsq⟩:=hB;obtain ⟨S,L,h1⟩:=h;have hsplit:ops.toList=ops.toList.take n++ops.toList.drop n:=(Tbm n _).symm;have hlen:(ops.toList.take n).length=n:=by simp;omega
 have hp':Runs e (ops.toList.map (·.dst)) ((ops.toList.take n).length+0) (ops.toList.take n++ops.toList.drop n) σ K:=by rw [<- hsplit,hlen];exact hp
 obtain ⟨αs,hal,hch,hrest⟩:=Zda (U:=U) he w0.heap.size S0 ops.toList (ops.toList.drop n) 0 (ops.toList.take n) σ (fun _=>hna) hp';rw [hlen] at hal
 have inv0:InvA e U w0 S0 nt σ.m ops n σ.s αs L (Array.replicate ops.size false) a w S :=
  ⟨⟨by simp,fun j oj _ hl=>(by rw [getD_replicate_false] at hl;cases hl),fun t _ ht=>getD_in (by simpa using ht) (getD_replicate_false _ _)⟩,h1.size,h1.defers,h1.cls,h1.kept,fun t _=>h1.rel t,fun i o d α _ hl=>(by rw [getD_replicate_false] at hl;cases hl)⟩
 have H:=Zdj (e:=e) (L:=L) (Q:=Q) he hH hn (fun hlt=>by
   rcases hs with hs | hs
   ·omega
   ·exact hs) hsq (fun i o d hi ho hdd=>hd o (List.mem_iff_getElem?.2 ⟨i,by simpa using ho⟩) d hdd) hal hch (Zha hH Q) (fun _ _ _ _ _ _ _ _ _ _ _ _ _ _=>trivial) (fun listed a' w' S' hI _ hall=>?_) n _ a _ S inv0 trivial ?_
 ·rw [show n+(ops.size - n)=ops.size by omega] at H;exact H
 ·have hsim:SimE e U w0 S0 nt ⟨after σ.s (ops.toList.take n) αs,σ.m⟩ a' w':=by
   refine ⟨S',L,hI.cls,fun t=>?_,hI.size,hI.defers,hI.kept⟩;by_cases hex:∃ (j:Nat) (p:Oper),j < n∧ops[j]?=some p∧p.dst=some t
   ·obtain ⟨j,p,hj,hp,hpt⟩:=hex;obtain ⟨p',d',hP⟩:=Zb7.get hH hj;have hpp:p'=p:=by have:=hP.op;rw [hp] at this;injection this with this;exact this.symm
    subst hpp;have hdt:d'=t:=by have:=hP.dst;rw [hpt] at this;injection this with this;exact this.symm
    subst hdt;obtain ⟨α,hα⟩:∃ α,αs[j]?=some α:=⟨αs[j],Taa om⟩;show ARel w' S' L (gs (after σ.s (ops.toList.take n) αs) d') _;rw [Zdi (ops.toList.take n) αs σ.s j p' α (by rw [List.getElem?_take,if_pos hj];simpa using hp) hα hpt (fun k q hk hq=>by
     rw [List.getElem?_take] at hq;split at hq
     ·exact (hP.dep k q om (by simpa using hq)).1 hk
     ·cases hq)]
    exact hI.done j p' d' α hj (hall j hj) hp hpt hα
   ·have hno:∀ (j:Nat) (p:Oper),j < n->ops[j]?=some p->p.dst≠some t:=fun j p hj hp hd=>hex ⟨j,p,hj,hp,hd⟩;show ARel w' S' L (gs (after σ.s (ops.toList.take n) αs) t) _;rw [Zcj _ _ _ (fun p hp=>by
     obtain ⟨j,hj⟩:=List.mem_iff_getElem?.1 hp;rw [List.getElem?_take] at hj;split at hj
     ·exact hno j p om (by simpa using hj)
     ·cases hj)]
    exact hI.out t hno
  have:=Zhz he ops.toList hQ (ops.toList.drop n) _ a' w' (fun o ho=>hd o (List.mem_of_mem_drop ho)) hsim hrest;simpa using this
 ·rw [List.countP_eq_length.2]
  ·simp
  ·intro i hi;have hi':=List.mem_range.1 hi;have hsz:i < (Array.replicate ops.size false).size:=by simp;omega
   rw [Zbf hsz,getD_replicate_false];rfl
theorem Ztn {l:List Oper} {n:Nat} {σ:St} (hB:regB l.toArray n=true) (hna:∀ o,(l.take n).getLast?=some o->isAl o=false) (hp:Runs e (l.map (·.dst)) n l σ K):Zcb e l.toArray K l.length (Array.replicate l.length false) σ:=by
 intro he U w0 S0 nt a w hd hs;have:=ZlL (ops:=l.toArray) (n:=n) he hB (by simpa using hna) (K:=K) (Q:=QN e U w0 S0 nt K) (fun a w σ' hK hs'=>⟨rfl,σ',hK,hs'⟩) hd hs (by simpa using hp);simpa using this
def ZwS (l:List Oper) (n:Nat):Bool:=match (l.take n).getLast? with
 | some o=>!isAl o
 | none=>true
theorem gLp {id:Nat} {l l':List Oper} {ds:List (Option Nat)} (n i k:Nat) (hK:Runs e ds n l' ⟨s,m⟩ (Zc5 mask Q)) (hl:addL i k l=l':=by simp only [addL];exact rfl) (hds:l'.map (·.dst)=ds:=by simp only [Tbu,List.map_nil];exact rfl) (hc:Zn8 l.toArray i k=true:=by decide +kernel) (hA:ZwS l' n=true:=by decide +kernel) (hr:regB l'.toArray n=true:=by decide +kernel):pwp e mask (.region id l.toArray true) ⟨s,m⟩ Q:=by
 subst hl hds;have h1:=Zqq hc (by have:=Ztn hr (fun o ho=>by unfold ZwS at hA;rw [ho] at hA;simpa using hA) hK;rwa [Zid] at this);exact Zg1 (ops:=l.toArray) (by simpa using h1)
end
end Go.Proofs.YtmdkimnlbaahbaaGreatDoor
namespace Go.Proofs.YtmdkimnlbaahbaaGreatDoor
open Go.RowKit
open Classical in
noncomputable def mk6 (g:Sgn) (o:Opr) (d:Dcl) (op:Int) (xs:List Tm):Tm:=(mkO g o d op xs).getD (if ¬ ArB o d xs.length∧∀ (i:Nat) a,xs[i]?=some a->KArg g o d i a then appT op (srtO o (Zah o op xs)) else zTm)
theorem ZkE {g:Sgn} {o:Opr} {op:Int} {xs:List Tm} (h:∀ a∈xs,TermOk g a):∀ b∈Zah o op xs,ZaH g b:=by
 intro b hb;obtain ⟨a,h1,h2⟩:=List.mem_flatMap.1 hb;have hf:=(h a h1).form;unfold ZaA at h2;split at h2
 ·exact (ZaY.1 hf).2.1 b h2
 ·split at h2
  ·cases h2
  ·rw [Tbj.1 h2];exact hf
theorem Znb:∀ (l m:List Tm),sizeTms (l++m)=sizeTms l+sizeTms m
 | [],m=>by simp [sizeTms]
 | x::l,m=>by simp only [Taf,sizeTms,Znb l m];omega
theorem Zie {g:Sgn} {o:Opr} {op:Int}:∀ {xs:List Tm},(∀ a∈xs,TermOk g a)->sizeTms (Zah o op xs)<=60 * xs.length
 | [],_=>by simp [Zah,sizeTms]
 | a::xs,h=>by
  have ih:=Zie (o:=o) (op:=op) (xs:=xs) fun x hx=>h x (Tal _ hx);have ha:=(h a Tas).size;have e:Zah o op (a::xs)=ZaA o op a++Zah o op xs:=rfl;have hz:=ZaM a;have hf:sizeTms (ZaA o op a)<=sizeTm a:=by
   unfold ZaA;split
   ·omega
   ·split
    ·simp [sizeTms]
    ·simp [sizeTms]
  rw [e,Znb,Tag];omega
theorem Zsr {g:Sgn} {o:Opr} {op:Int} {xs:List Tm} (h:∀ a∈xs,TermOk g a) (hl:xs.length<=1000):tmsB (Zah o op xs):=by
 have h1:=Zic (Zhg.2 (ZkE (o:=o) (op:=op) h));have h2:=Zie (o:=o) (op:=op) h;unfold tmsB;omega
theorem ZlM {l m:List Tm} (h:l.Perm m):Zam (Zac l)=Zam (Zac m):=by
 induction h with
 | nil=>rfl
 | cons x h ih=>simp only [Zac,Zam,ih]
 | swap x y l=>simp only [Zac,Zam];omega
 | trans h1 h2 a b=>rw [a,b]
section
variable {g:Sgn}
open Classical in
theorem Zqr (hokg:ZbY g) (hg:SgnOk g) {op:Int} {o:Opr} {d:Dcl} (h0:0<=op) (ho:g.ops[op.toNat]?=some o) (hd:o.decls[0]?=some d) (xs:List Tm) (ha:∀ a∈xs,TermOk g a) (hl:xs.length<=1048576) (hfb:tmsB (Zah o op xs)):Con e0 68 [.agg (Zak g),.one (.lit (.int .i64 op)),.one (.sl (Zac xs))] [.agg (Zab (mk6 g o d op xs)),.one (.lit (.bool (mkO g o d op xs).isSome))]:=by
 have hz:=ZeC;have hfo:ZaF (Zah o op xs):=Zna.2 fun b hb=>ZaH.ok hg _ b (Tan _) (ZkE ha b hb);have hfs:=Zie (o:=o) (op:=op) ha;have hax:=hg.axs o (Tac ho);have hlo:=hax.lo;have hhi:=hax.hi;have hln:=hg.len;obtain ⟨d',hd',hr0,hr1,hargs⟩:=hg.first ho;rw [hd] at hd';injection hd' with hd'
 subst hd';have cK:=ZdP hg.sorts;rw [Za9] at cK;have cUn:=Zlr hg h0 ho;rw [Zak] at cUn;have cA:=Zeo hd;rw [Zax] at cA;have hB:mkO g o d op xs=if ArB o d xs.length then none else if ∀ (i:Nat) a,xs[i]?=some a->KArg g o d i a then mkL o op (Zah o op xs) else none:=rfl
 have hM:mk6 g o d op xs=(mkO g o d op xs).getD (if ¬ ArB o d xs.length∧∀ (i:Nat) a,xs[i]?=some a->KArg g o d i a then appT op (srtO o (Zah o op xs)) else zTm):=rfl;have har2:o.assoc=true->d.args.length=2:=fun h=>by
  obtain ⟨k1,k2,hk,_⟩:=Opr.two hg ho hd (.inl h);rw [hk];rfl
 refine gI (ts:=[.cell 6 36,.slot 7]) 691281634562849416457226259614436229071 Tryz.func68 ?_;refine fN 2 (aj5 @tmz @Zb6 @h0 @ho @Zag) ?_;refine gB ?_;refine fC @tmz (cK) ?_;refine fR @tmz ?_;refine fN 3 @tmz ?_;refine gM (ι:=Bool) [38] [] (fun b=>[(38,A.d (.one (.lit (.bool b))))]) (fun b=>[]) (fun b=>b=decide (ArB o d xs.length)) ?_ (fun b hb=>Exists.intro _ (ai (Wk.refl _) ?_))
 ·refine gB ?_;refine fC (ai @tmz @Zag) (cA) ?_;by_cases q:xs.length=d.args.length
  ·have q1:((xs.length:Int)=(d.args.length:Int))=True:=eq_true om;have hA:¬ ArB o d xs.length:=fun h=>h.elim (fun h=>by have:=har2 h.1;omega) fun h=>h.2 q;refine fR (ai @q1 @tmz) ?_;have F:=@tmz;refine gG ?_;exact ⟨false,(decide_eq_false hA).symm,gw,gw⟩
  have q1:((xs.length:Int)=(d.args.length:Int))=False:=eq_false om
  cases hac:o.assoc with
  | false =>
   have hA:ArB o d xs.length:=.inr ⟨hac,q⟩;refine fR (aj3 @q1 @hac @tmz) ?_;have F:=@tmz;refine gG ?_;exact ⟨true,(decide_eq_true hA).symm,gw,gw⟩
  | true =>
  by_cases q2:xs.length < 2
  ·have hA:ArB o d xs.length:=.inl ⟨hac,q2⟩;have q3:((2:Int)<=(xs.length:Int))=False:=eq_false om;refine fR (aj4 @q1 @hac @q3 @tmz) ?_;have F:=@tmz;refine gG ?_;exact ⟨true,(decide_eq_true hA).symm,gw,gw⟩
  ·have hA:¬ ArB o d xs.length:=fun h=>h.elim (fun h=>q2 h.2) fun h=>by rw [hac] at h;cases h.1
   have q3:((2:Int)<=(xs.length:Int))=True:=eq_true om;refine fR (aj4 @q1 @hac @q3 @tmz) ?_;have F:=@tmz;refine gG ?_;exact ⟨false,(decide_eq_false hA).symm,gw,gw⟩
 by_cases hAr:ArB o d xs.length
 ·rw [decide_eq_true hAr] at hb;subst hb;rw [if_pos hAr] at hB;rw [hB,if_neg fun h=>h.1 hAr] at hM;rw [hM,hB];exact fD (ai @hz @tmz)
 rw [decide_eq_false hAr] at hb;subst hb;rw [if_neg hAr] at hB;have hnas:o.assoc=false->xs.length=d.args.length:=fun h=>Classical.byContradiction fun c=>hAr (.inr ⟨h,c⟩);have hfl0:Zah o op []=[]:=rfl;refine fN 5 @tmz ?_;refine gB ?_;refine fC @tmz (cUn) ?_;refine fR @tmz ?_;refine fG @tmz ?_;have F:=aj3 @hfl0 @Zcn @tmz;refine gL (ι:=Nat) [7,12,13,14,50,55,73,82,92] [12] (fun i=>[(13,A.d (.one (.lit (.int .i64 i)))),(12,.buf 12)]) (fun i=>[(12,.buf none 36 4 (Zac (Zah o op (xs.take i))))]) (fun i=>i<=xs.length∧∀ (j:Nat) a,j < i->xs[j]?=some a->KArg g o d j a) (fun i=>xs.length - i) (0) (⟨Taj _,fun j a h=>absurd h om⟩) (fun i hi=>?_);clear F
 obtain ⟨hi,hall⟩:=hi;by_cases hlt:i < xs.length
 ·obtain ⟨a,hai⟩:∃ a,xs[i]?=some a:=⟨_,Taa hlt⟩;have hT:=ha a (Tac hai);have q1:=lT i xs.length;have hw1:=Zat (k:=i) om;obtain ⟨k,hk⟩:=ZfL hg ho hd hnas hlt;obtain ⟨hk0,hk1⟩:=hargs k (Tac hk);have hkd:=ZfK hg.sorts hk0 hk1;have hkN:d.args[(argAt o i:Nat)]?=some k:=hk;have cKa:=Zh5 hokg hg hT.form.node;rw [Zak] at cKa;have cU:=Ze1 (hT.ok hg) (ZiT (o:=o) hlo om);have hUiff:o.unit≠0->(Zai a (ZaB o)=0 ↔ a.op=o.unit - 1):=fun hu=>by
   rw [Zdz];constructor
   ·rintro h;rw [h];simp [ZaB,Tm.op,hu]
   ·exact ZfN hg ho hu hT.form
  generalize hU:decide (Zai a (ZaB o)=0)=U at cU;have hst:=Zhk (o:=o) (op:=op) hai;have hle:=Ze2 o op xs (i+1);rw [hst,Tae] at hle;have hfl:=Zbq (Zah o op xs);have hnext:ZbK g a=((kd g.sorts k:Nat):Int)->i+1<=xs.length∧∀ (j:Nat) a,j < i+1->xs[j]?=some a->KArg g o d j a:=fun hkk=>⟨hlt,fun j a' hj ha'=>by
   by_cases e:j=i
   ·subst e;rw [hai] at ha';injection ha' with ha'
    subst ha';exact ⟨k,hk,hkk⟩
   ·exact hall j a' om ha'⟩
  refine fG (ai @q1 @tmz) ?_;refine gM (ι:=Unit) [14] [] (fun u=>[(14,A.d (.one (.lit (.int .i64 (argAt o i:Nat)))))]) (fun u=>[]) (fun u=>True) ?_ (fun u hu=>Exists.intro _ (ai (Wk.refl _) ?_))
  ·rcases Bool.eq_false_or_eq_true o.assoc with hac | hac
   ·have F:=aj3 @Zag @hac @Zgg;refine gG ?_;exact ⟨(),trivial,gw,gw⟩
   ·have F:=aj4 @Zag @hac @Zgg @if_false.{1};refine gG ?_;exact ⟨(),trivial,gw,gw⟩
  refine fN 13 @tmz ?_;refine gB ?_;refine fC (ai @hai @tmz) (cKa) ?_;by_cases hkk:ZbK g a=((kd g.sorts k:Nat):Int);rotate_left
  ·have hno:¬ ∀ (i:Nat) a,xs[i]?=some a->KArg g o d i a:=fun h=>by
    obtain ⟨k',hk',he⟩:=h i a hai;rw [hk] at hk';injection hk' with hk'
    subst hk';exact hkk he
   rw [if_neg hno] at hB;rw [hB,if_neg fun h=>hno h.2] at hM;rw [hM,hB];refine fR (aj9 @tmz @Zag @hd @ZaN @hkN @hk0 @hkd @Zaz @hkk) ?_;exact fD (ai @hz @tmz)
  have hnext:=hnext hkk;have l1:ZaI 4 (Zac (Zah o op (xs.take i)))=true:=Zcy _;have l5:ZaI 4 (Zac a.args)=true:=Zcy _;refine fR (aj9 @tmz @Zag @hd @ZaN @hkN @hk0 @hkd @Zaz @hkk) ?_;refine fN 16 @tmz ?_;refine gM (ι:=Bool) [82] [] (fun b=>[(82,A.d (.one (.lit (.bool b))))]) (fun b=>[]) (fun b=>b=decide (o.unit≠0∧a.op=o.unit - 1)) ?_ (fun b hb=>Exists.intro _ (ai (Wk.refl _) ?_))
  ·by_cases hu:o.unit=0
   ·have F:=ai @hu @tmz;refine gG ?_;exact ⟨false,(decide_eq_false fun h=>h.1 hu).symm,gw,gw⟩
   ·refine gB ?_;refine fC (aj3 @hu @hai @tmz) (cU) ?_;refine fR @tmz ?_;have e:U=decide (o.unit≠0∧a.op=o.unit - 1):=by
     rw [<- hU];exact decide_eq_decide.2 ⟨fun h=>⟨hu,(hUiff hu).1 h⟩,fun h=>(hUiff hu).2 h.2⟩
    have F:=ai @hu @tmz;refine gG ?_;exact ⟨U,e,gw,gw⟩
  by_cases hUn:o.unit≠0∧a.op=o.unit - 1
  ·rw [decide_eq_true hUn] at hb;subst hb;have hN:¬ (o.assoc=true∧a.op=op):=fun h=>by
    have e:(ZaB o).args=[]:=by unfold ZaB;rfl
    have e2:=ZfN hg ho hUn.1 hT.form hUn.2;obtain ⟨o',d',hA⟩:=hT.form.node.app om;have:o'=o:=by have:=hA.at';rw [h.2,ho] at this;injection this with this;exact this.symm
    subst this;have:=(hA.asc h.1).1;rw [e2,e] at this;simp at this
   have e:ZaA o op a=[]:=by unfold ZaA;rw [if_neg hN,if_pos hUn]
   rw [e,List.append_nil] at hst;rw [<- hst];have F:=ai @tmz @hw1;refine gG ?_;exact ⟨i+1,hnext,gw,gw,om⟩
  rw [decide_eq_false hUn] at hb;subst hb;by_cases hN:o.assoc=true∧a.op=op
  ·have e:ZaA o op a=a.args:=by unfold ZaA;rw [if_pos hN]
   rw [e] at hst hle;have l3:((Zah o op (xs.take i)).length+a.args.length<=maxApp)=True:=eq_true (by unfold maxApp;omega);have l4:Zac (Zah o op (xs.take i))++Zac a.args=Zac (Zah o op (xs.take (i+1))):=by rw [hst,ZbI]
   obtain ⟨hN1,hN2⟩:=hN;have q2:(a.op=op)=True:=eq_true hN2;have F:=aj10 @tmz @hai @Zag @hN1 @q2 @l1 @l5 @l3 @l4 @hw1;refine gG ?_;exact ⟨i+1,hnext,gw,gw,om⟩
  ·have e:ZaA o op a=[a]:=by unfold ZaA;rw [if_neg hN,if_neg hUn]
   rw [e] at hst hle;have l3:((Zah o op (xs.take i)).length+1<=maxApp)=True:=eq_true (by simp only [Tag,Tak] at hle;unfold maxApp;omega);have l4:Zac (Zah o op (xs.take i))++[Zab a]=Zac (Zah o op (xs.take (i+1))):=by rw [hst,ZbI,Zcl]
   rcases Bool.eq_false_or_eq_true o.assoc with hac | hac
   ·have hq:(a.op=op)=False:=eq_false fun h=>hN ⟨hac,h⟩;have F:=aj9 @tmz @hai @Zag @hac @hq @l1 @l3 @l4 @hw1;refine gG ?_;exact ⟨i+1,hnext,gw,gw,om⟩
   ·have F:=aj8 @tmz @hai @Zag @hac @l1 @l3 @l4 @hw1;refine gG ?_;exact ⟨i+1,hnext,gw,gw,om⟩
 ·obtain rfl:i=xs.length:=by omega
  have q1:=lF xs.length xs.length;rw [Tap];have hAll:∀ (i:Nat) a,xs[i]?=some a->KArg g o d i a:=fun j a h=>hall j a (Tad.1 h).1 h;rw [if_pos hAll] at hB;rw [hB,if_pos ⟨hAr,hAll⟩] at hM;rw [hM,hB];clear hM hB hall hAll hnas;generalize hL:Zah o op xs=L at hfb hfo hfs ⊢;have hLb:L.length+Zam (Zac L)<=1048576:=hfb;refine fN 19 (ai @q1 @tmz) ?_;refine pS 12 fun a cap=>?_;refine pD 12 [12] [] ?_;by_cases hu:o.unit≠0∧L.length < 2
  ·have e:mkL o op L=some (L.headD (ZaB o)):=by unfold mkL;rw [if_pos hu]
   rw [e];obtain ⟨hu1,hu2⟩:=hu;have q2:(o.unit=0)=False:=eq_false hu1
   cases L with
   | nil =>
    have z2:(((0:Nat):Int)=0)=True:=eq_true om;exact fD (aj5 @q1 @Zag @q2 @z2 @tmz)
   | cons b bs =>
    have hbs:bs=[]:=Tao (by simp only [Tag] at hu2;omega);subst hbs;have hbb:Zan (Zab b)<=1048576:=by simp only [Zac,Zam] at hLb;omega
    have z1:(((0+1:Nat):Int)=0)=False:=eq_false om;have z2:(((0+1:Nat):Int)=1)=True:=eq_true om;have z3:(((1:Nat):Int)=0)=False:=eq_false om;have z4:(((1:Nat):Int)=1)=True:=eq_true om;have q5:([b]:List Tm)[0]?=some b:=rfl;have z5:(0 < 0+1)=True:=eq_true om;have z6:((0:Nat) < 1)=True:=eq_true om;have z7:Int.toNat 0=0:=rfl;refine fN 22 (aj12 @q1 @Zag @q2 @z1 @z2 @z3 @z4 @z5 @z6 @z7 @q5 @tmz) ?_;refine gB ?_
    refine fC (aj5 @z5 @z6 @z7 @q5 @tmz) (Zeh b hbb) ?_;refine fR @tmz ?_;exact fD @tmz
  ·have hml:mkL o op L=if BigT o op (srtO o L) then none else some (appT op (srtO o L)):=by unfold mkL;rw [if_neg hu]
   rw [hml];clear hml cUn cK cA;have hSl:=ZgE o L;have hSp:=ZcI o L;have sz1:=Zd8 hSp;have dz1:=Zc7 hSp;have sl1:=Zbq L;have cSo:=Zi6 L hfo hfb;refine gM (ι:=Unit) [116] [] (fun v=>[(116,A.d (.one (.lit (.bool false))))]) (fun v=>[]) (fun v=>True) ?_ (fun v hv=>Exists.intro _ (ai (Wk.refl _) ?_))
   ·by_cases hu0:o.unit=0
    ·have q2:(o.unit=0)=True:=eq_true hu0;have F:=ai @q2 @tmz;refine gG ?_;exact ⟨(),trivial,gw,gw⟩
    ·have q2:(o.unit=0)=False:=eq_false hu0;have q3:((L.length:Int)=0)=False:=eq_false fun h=>hu ⟨hu0,om⟩;have F:=aj3 @q2 @q3 @tmz;refine gG ?_;exact ⟨(),trivial,gw,gw⟩
   refine fN 21 @tmz ?_;refine gM (ι:=Unit) [123] [] (fun v=>[(123,A.d (.one (.lit (.bool false))))]) (fun v=>[]) (fun v=>True) ?_ (fun v hv=>Exists.intro _ (ai (Wk.refl _) ?_))
   ·by_cases hu0:o.unit=0
    ·have q2:(o.unit=0)=True:=eq_true hu0;have F:=ai @q2 @tmz;refine gG ?_;exact ⟨(),trivial,gw,gw⟩
    ·have q2:(o.unit=0)=False:=eq_false hu0;have q3:((L.length:Int)=1)=False:=eq_false fun h=>hu ⟨hu0,om⟩;have F:=aj3 @q2 @q3 @tmz;refine gG ?_;exact ⟨(),trivial,gw,gw⟩
   refine fN 23 @tmz ?_;refine gB ?_;refine fR (ai @Zag @tmz) ?_;refine gM (ι:=Unit) [12] [] (fun v=>[(12,.d (.one (.sl (Zac (srtO o L)))))]) (fun v=>[]) (fun v=>True) ?_ (fun v hv=>Exists.intro _ (ai (Wk.refl _) ?_))
   ·cases hcm:o.comm with
    | true =>
     rw [show srtO o L=Zaw L by unfold srtO;rw [if_pos hcm]];refine fN 24 (ai @hcm @tmz) ?_;refine gB ?_;refine fC @tmz (cSo) ?_;refine fR @tmz ?_;have F:=@tmz;refine gG ?_;exact ⟨(),trivial,gw,gw⟩
    | false =>
     rw [show srtO o L=L by unfold srtO;rw [if_neg (by rw [hcm];simp)]];have F:=ai @hcm @tmz;refine gG ?_;exact ⟨(),trivial,gw,gw⟩
   have hSB:tmsB (srtO o L):=by
    unfold tmsB at hfb ⊢;rw [ZlM hSp,hSl];exact hfb
   generalize srtO o L=S at hSl sz1 dz1 hSB ⊢;have em:Zab (appT op S)=[.lit (.int .i64 op),.lit (.string ByteArray.empty),.lit (.int .i64 0),.sl (Zac S)]:=by simp only [appT,Zab]
   have zs:sizeTm (appT op S)=1+sizeTms S:=by rw [ZaM];rfl
   have c1:=Zhj (t:=appT op S) (by unfold big;omega);rw [em] at c1;refine fN 25 @tmz ?_;refine gB ?_;refine fC @tmz (Zi5 S hSB) ?_;refine fR @tmz ?_;refine fN 26 @tmz ?_;by_cases h7:o.assoc=true∧7 < S.length
   ·rw [if_pos (show BigT o op S from .inl h7)];obtain ⟨hac,h7⟩:=h7;have q2:((S.length:Int)<=7)=False:=eq_false om;refine gLp 13 12 13 ?_;refine fR (aj3 @hac @q2 @tmz) ?_;exact fD (aj3 @hz @em @tmz)
   have hac:o.assoc=true->((S.length:Int)<=7)=True:=fun h=>eq_true (Int.not_lt.1 fun q=>h7 ⟨h,om⟩);have hres:(if BigT o op S then none else some (appT op S)).isSome=decide (sizeTm (appT op S)<=60∧depthTm (appT op S)<=20):=by
    by_cases hbg:BigT o op S
    ·rw [if_pos hbg];refine (decide_eq_false fun h=>?_).symm;rcases hbg with h | h | h
     ·exact h7 h
     ·omega
     ·omega
    ·rw [if_neg hbg];refine (decide_eq_true ⟨?_,?_⟩).symm
     ·exact Nat.not_lt.1 fun h=>hbg (.inr (.inl h))
     ·exact Nat.not_lt.1 fun h=>hbg (.inr (.inr h))
   have hgd:(if BigT o op S then none else some (appT op S)).getD (appT op S)=appT op S:=by
    split <;> rfl
   rw [hres,hgd,em];rcases Bool.eq_false_or_eq_true o.assoc with ha' | ha'
   ·have q2:=hac ha';refine gLp 13 12 13 ?_;refine fC (aj3 @ha' @q2 @tmz) (c1) ?_;refine fR @tmz ?_;exact fD @tmz
   ·refine gLp 13 12 13 ?_;refine fC (ai @ha' @tmz) (c1) ?_;refine fR @tmz ?_;exact fD @tmz
open Classical in
theorem Zto (hokg:ZbY g) (hg:SgnOk g) {op:Int} {o:Opr} {d:Dcl} (h0:0<=op) (ho:g.ops[op.toNat]?=some o) (hd:o.decls[0]?=some d) (xs:List Tm) (ha:∀ a∈xs,TermOk g a) (hl:xs.length<=1000):Con e0 68 [.agg (Zak g),.one (.lit (.int .i64 op)),.one (.sl (Zac xs))] [.agg (Zab (mk6 g o d op xs)),.one (.lit (.bool (mkO g o d op xs).isSome))]:=Zqr hokg hg h0 ho hd xs ha om (Zsr (o:=o) (op:=op) ha hl)
end
end Go.Proofs.YtmdkimnlbaahbaaGreatDoor
namespace Go.Proofs.YtmdkimnlbaahbaaGreatDoor
open Go.RowKit
def decN (n:Nat):List UInt8:=if n < 10 then [UInt8.ofNat (48+n)] else [UInt8.ofNat (48+n / 10),UInt8.ofNat (48+n % 10)]
def decB (i:Int):List UInt8:=if i < 0 then 45::decN (-i).toNat else decN i.toNat
mutual
def ZcU:Tm->List UInt8
 | .mk op nm so args=>decB op++((if op < 0 then 58::(nm.toList++58::decB so) else [])++40::(Zbc args++[41]))
def Zbc:List Tm->List UInt8
 | []=>[]
 | t::ts=>ZcU t++Zbc ts
end
theorem Ztp (a b:List Tm):Zbc (a++b)=Zbc a++Zbc b:=by
 induction a with
 | nil=>rfl
 | cons t ts ih=>simp only [Taf,Zbc,ih,Tbf]
theorem Zfl {P:UInt8->Prop}:∀ {l m:List UInt8} {c d:UInt8} {x y:List UInt8},(∀ b∈l,P b)->(∀ b∈m,P b)->¬ P c->¬ P d->l++c::x=m++d::y->l=m∧c=d∧x=y
 | [],[],c,d,x,y,_,_,_,_,h=>by simpa using h
 | [],b::m,c,d,x,y,_,hm,hc,_,h=>by
  simp only [Tah,Taf,List.cons.injEq] at h;exact absurd (hm b Tas) (h.1 ▸ hc)
 | a::l,[],c,d,x,y,hl,_,_,hd,h=>by
  simp only [Tah,Taf,List.cons.injEq] at h;exact absurd (hl a Tas) (h.1 ▸ hd)
 | a::l,b::m,c,d,x,y,hl,hm,hc,hd,h=>by
  simp only [Taf,List.cons.injEq] at h;obtain ⟨h1,h2⟩:=Zfl (fun b hb=>hl b (Tal _ hb)) (fun b hb=>hm b (Tal _ hb)) hc hd h.2;exact ⟨by rw [h.1,h1],h2⟩
def NumB (b:UInt8):Prop:=b=45∨(48<=b.toNat∧b.toNat<=57)
instance (b:UInt8):Decidable (NumB b):=by unfold NumB;infer_instance
theorem ZAN:∀ i:Fin 15,∀ b∈decB ((i.val:Int) - 1),NumB b:=by decide
theorem ZAO:∀ i j:Fin 15,decB ((i.val:Int) - 1)=decB ((j.val:Int) - 1)->i=j:=by decide
theorem ZjC {i:Int} (h0:-1<=i) (h1:i < 14):∀ b∈decB i,NumB b:=by
 have:=ZAN ⟨(i+1).toNat,om⟩
 rwa [show (((i+1).toNat:Nat):Int) - 1=i by omega] at this
theorem Zmr {i j:Int} (h0:-1<=i) (h1:i < 14) (h2:-1<=j) (h3:j < 14) (h:decB i=decB j):i=j:=by
 have:=ZAO ⟨(i+1).toNat,om⟩ ⟨(j+1).toNat,om⟩ (by
  simp only;rw [show (((i+1).toNat:Nat):Int) - 1=i by omega,show (((j+1).toNat:Nat):Int) - 1=j by omega];exact h)
 have:=congrArg Fin.val this;simp only at this;omega
theorem Zpm:∀ i:Fin 15,(decB ((i.val:Int) - 1)).head?≠some 41∧decB ((i.val:Int) - 1)≠[]:=by decide
def NamB (s:ByteArray):Prop:=∀ b∈s.toList,Zcz (b.toNat:Int)=true
mutual
def Zej:Tm->Prop
 | .mk op nm so args=>-1<=op∧op < 14∧(op=-1->NamB nm∧0<=so∧so < 8)∧(op≠-1->nm=ByteArray.empty∧so=0)∧Zet args
def Zet:List Tm->Prop
 | []=>True
 | t::ts=>Zej t∧Zet ts
end
theorem toList_inj {a b:ByteArray} (h:a.toList=b.toList):a=b:=by
 rw [ByteArray.toList_eq,ByteArray.toList_eq] at h;obtain ⟨x⟩:=a;obtain ⟨y⟩:=b;simp only at h;rw [Array.toList_inj.1 h]
theorem ZeR:¬ NumB 40:=by decide
theorem Zg5:¬ NumB 58:=by decide
mutual
theorem Zss:∀ (a b:Tm) (x y:List UInt8),Zej a->Zej b->ZcU a++x=ZcU b++y->a=b∧x=y
 | .mk op nm so args,.mk op' nm' so' args',x,y,ha,hb,h=>by
  simp only [Zej] at ha hb;obtain ⟨a1,a2,a3,a4,a5⟩:=ha;obtain ⟨b1,b2,b3,b4,b5⟩:=hb;simp only [ZcU,Tbf,Taf] at h;have n1:=ZjC a1 a2;have n2:=ZjC b1 b2;have hfst:op=op'∧nm=nm'∧so=so'∧Zbc args++([41]++x)=Zbc args'++([41]++y):=by
   by_cases h1:op < 0
   ·rw [if_pos h1] at h;by_cases h2:op' < 0
    ·rw [if_pos h2] at h;simp only [Taf,Tbf] at h;obtain ⟨e1,_,e2⟩:=Zfl n1 n2 Zg5 Zg5 h;have e1:=Zmr a1 a2 b1 b2 e1;have o1:op=-1:=om;have o2:op'=-1:=om;obtain ⟨p1,p2,p3⟩:=a3 o1;obtain ⟨q1,q2,q3⟩:=b3 o2;obtain ⟨f1,_,f2⟩:=Zfl (P:=fun b=>Zcz (b.toNat:Int)=true) p1 q1 (by decide) (by decide) e2;obtain ⟨g1,_,g2⟩:=Zfl (ZjC om om) (ZjC om om) ZeR ZeR f2;exact ⟨e1,toList_inj f1,Zmr om om om om g1,g2⟩
    ·rw [if_neg h2] at h;simp only [Taf,Tah] at h;obtain ⟨_,e,_⟩:=Zfl n1 n2 Zg5 ZeR h;exact absurd e (by decide)
   ·rw [if_neg h1] at h;by_cases h2:op' < 0
    ·rw [if_pos h2] at h;simp only [Taf,Tah] at h;obtain ⟨_,e,_⟩:=Zfl n1 n2 ZeR Zg5 h;exact absurd e (by decide)
    ·rw [if_neg h2] at h;simp only [Tah] at h;obtain ⟨e1,_,e2⟩:=Zfl n1 n2 ZeR ZeR h;have e1:=Zmr a1 a2 b1 b2 e1;obtain ⟨p1,p2⟩:=a4 om;obtain ⟨q1,q2⟩:=b4 om;exact ⟨e1,by rw [p1,q1],by rw [p2,q2],e2⟩
  obtain ⟨rfl,rfl,rfl,he⟩:=hfst;obtain ⟨i1,i2⟩:=Zpn args args' x y a5 b5 he;exact ⟨by rw [i1],i2⟩
theorem Zpn:∀ (xs bs:List Tm) (x y:List UInt8),Zet xs->Zet bs->Zbc xs++([41]++x)=Zbc bs++([41]++y)->xs=bs∧x=y
 | [],[],x,y,_,_,h=>by simpa [Zbc] using h
 | [],.mk op nm so args::bs,x,y,_,hb,h=>by
  exfalso;simp only [Zet,Zej] at hb;have:=Zpm ⟨(op+1).toNat,om⟩;rw [show (((op+1).toNat:Nat):Int) - 1=op by omega] at this;simp only [Zbc,ZcU,Tah,Tbf] at h
  cases hd:decB op with
  | nil=>exact this.2 hd
  | cons c l =>
   rw [hd] at h this;simp only [Taf,List.cons.injEq] at h;exact this.1 (by rw [<- h.1];rfl)
 | .mk op nm so args::xs,[],x,y,ha,_,h=>by
  exfalso;simp only [Zet,Zej] at ha;have:=Zpm ⟨(op+1).toNat,om⟩;rw [show (((op+1).toNat:Nat):Int) - 1=op by omega] at this;simp only [Zbc,ZcU,Tah,Tbf] at h
  cases hd:decB op with
  | nil=>exact this.2 hd
  | cons c l =>
   rw [hd] at h this;simp only [Taf,List.cons.injEq] at h;exact this.1 (by rw [h.1];rfl)
 | a::xs,b::bs,x,y,ha,hb,h=>by
  simp only [Zet] at ha hb;simp only [Zbc,Tbf] at h;obtain ⟨e1,e2⟩:=Zss a b _ _ ha.1 hb.1 h;obtain ⟨f1,f2⟩:=Zpn xs bs x y ha.2 hb.2 e2;exact ⟨by rw [e1,f1],f2⟩
end
theorem Zyq {s:ByteArray} (h:Zba s=true):NamB s:=by
 unfold Zba at h;simp only [Tar] at h;have hn:=h.2;unfold Za4 at hn;rw [List.all_eq_true] at hn;intro b hb;rw [ByteArray.toList_eq] at hb;obtain ⟨i,hi,rfl⟩:=List.getElem_of_mem hb;have hi':i < s.size:=by simpa using hi
 have:=hn i (List.mem_range'_1.2 ⟨Taj _,om⟩);simp only [Tar,ZfI,dif_pos hi'] at this;exact this.1
mutual
theorem ZgN {g:Sgn} (hg:SgnOk g):∀ (t:Tm),ZaH g t->Zej t
 | .mk op nm so args,h=>by
  have h2:Zc6 g args:=by simp only [ZaH] at h;exact h.2.1
  have h1:ZcN g (.mk op nm so args):=by simp only [ZaH] at h;exact h.1
  have hl:=hg.len;have hn:=hg.sorts.n8;refine ⟨?_,?_,?_,?_,Znc hg args h2⟩
  ·rcases h1 with h | ⟨o,d,h⟩
   ·have:op=-1:=h.1;omega
   ·have:0<=op:=h.lo;omega
  ·rcases h1 with h | ⟨o,d,h⟩
   ·have:op=-1:=h.1;omega
   ·have h0:0<=op:=h.lo;have:g.ops[op.toNat]?=some o:=h.at';have:=(Tad.1 this).1;omega
  ·intro ho;rcases h1 with h | ⟨o,d,h⟩
   ·have h4:0<=so:=h.2.2.1;have h5:so < g.sorts.names.length:=h.2.2.2.1;exact ⟨Zyq h.2.1,h4,om⟩
   ·have:0<=op:=h.lo;omega
  ·intro ho;rcases h1 with h | ⟨o,d,h⟩
   ·have:op=-1:=h.1;omega
   ·exact ⟨h.nm,h.so⟩
theorem Znc {g:Sgn} (hg:SgnOk g):∀ (ts:List Tm),Zc6 g ts->Zet ts
 | [],_=>trivial
 | t::ts,h=>by
  simp only [Zc6] at h;exact ⟨ZgN hg t h.1,Znc hg ts h.2⟩
end
def keyS (t:Tm):ByteArray:=⟨(ZcU t).toArray⟩
theorem Zpo {g:Sgn} (hg:SgnOk g) {a b:Tm} (ha:ZaH g a) (hb:ZaH g b) (h:(keyS a).toList=(keyS b).toList):a=b:=by
 rw [ByteArray.toList_eq,ByteArray.toList_eq] at h;simp only [keyS] at h;exact (Zss a b [] [] (ZgN hg a ha) (ZgN hg b hb) (by rw [List.append_nil,List.append_nil];exact h)).1
section
variable {P:Program} {w:World}
theorem ZwT (ts:Array TypeId) (t ty e:TypeId) (i:TypeInfo) (z:Value) (h0:ts[0]?=some t) {t2:TypeId} (h1:ts[1]?=some t2) (ht2:P.underlying t2=some .string) (ht:P.underlying t=some (.slice e)) (hi:P.info? e=some i) (hz:i.zero=some z) (b:Option Addr) (sLen sCap:Nat) (olds:List Value) (x:Value) (n:Nat) (news:List Value)
  (hln:(Builtin.lenOf x).run P w=.ok n w) (hfo:(Builtin.firstCells i.size sLen (.slice b sLen sCap)).run P w.drew=.ok olds.toArray w.drew) (hf:(Builtin.firstCells i.size n x).run P w.drew=.ok news.toArray w.drew) (hg:sCap < sLen+n) (h63:((sLen+n:Nat):Int)<=9223372036854775807) (hfit:Builtin.nextslicecap (sLen+n) sCap * i.bytes<=281474976710656) :
  (Builtin.append_ ts ty #[.slice b sLen sCap,x]).run P w=.ok (.slice (some ⟨w.heap.size,0,none⟩) (sLen+n) (grownCap w (sLen+n) sCap e)) (w.drew.alloc (.cells (olds.toArray++news.toArray++Builtin.zeroCells z.cells (grownCap w (sLen+n) sCap e - (sLen+n))) e)):=by
 have hn:¬ (sLen+n<=sCap):=om;have h63':¬ (9223372036854775807 < ((sLen:Int)+(n:Int))):=om;have h48':¬ (281474976710656 < Builtin.nextslicecap (sLen+n) sCap * i.bytes):=om;have e1:olds.toArray++(news.toArray++Builtin.zeroCells z.cells (grownCap w (sLen+n) sCap e - (sLen+n)))=(olds++news).toArray++Builtin.zeroCells z.cells (grownCap w (sLen+n) sCap e - (sLen+n)):=by
  apply Array.toList_inj.1;simp
 unfold grownCap at e1;simp [Builtin.append_,h0,h1,run_underlying ht,run_underlying ht2,sizeOf,typeInfo,zeroValue,hi,hz,hln,hn,h63',h48',Question.forced,hf,hfo,newRow,grownCap,e1]
theorem ZwU (ts:Array TypeId) (t ty e:TypeId) (i:TypeInfo) (h0:ts[0]?=some t) {t2:TypeId} (h1:ts[1]?=some t2) (ht2:P.underlying t2=some .string) (ht:P.underlying t=some (.slice e)) (hi:P.info? e=some i) (g sLen sCap:Nat) (cur:Array Value) (hg:w.heap[g]?=some (.cells cur e (0,0))) (x:Value) (n:Nat) (news:List Value)
  (hln:(Builtin.lenOf x).run P w=.ok n w) (hf:(Builtin.firstCells i.size n x).run P w=.ok news.toArray w) (hone:∀ u∈news,u.oneCell'=true) (hroom:sLen+n<=sCap) (hfit:sLen * i.size+news.length<=cur.size) :
  (Builtin.append_ ts ty #[.slice (some ⟨g,0,none⟩) sLen sCap,x]).run P w=.ok (.slice (some ⟨g,0,none⟩) (sLen+n) sCap) (w.setRow g (cur.toList.take (sLen * i.size)++news++cur.toList.drop (sLen * i.size+news.length)).toArray):=by
 have hst:=run_storeCells_at P g (sLen * i.size) e news 0 cur w hg (by simpa using hfit) hone;simp only [Nat.add_zero] at hst;simp [Builtin.append_,h0,h1,run_underlying ht,run_underlying ht2,sizeOf,typeInfo,hi,hln,hroom,hf,Addr.add_lit,hst]
theorem ZwV (ts:Array TypeId) (t ty e:TypeId) (i:TypeInfo) (h0:ts[0]?=some t) {t2:TypeId} (h1:ts[1]?=some t2) (ht2:P.underlying t2=some .string) (ht:P.underlying t=some (.slice e)) (hi:P.info? e=some i) (b:Option Addr) (x:Value)
  (hln:(Builtin.lenOf x).run P w=.ok 0 w) (hf:(Builtin.firstCells i.size 0 x).run P w=.ok #[] w) :
  (Builtin.append_ ts ty #[.slice b 0 0,x]).run P w=.ok (.slice b 0 0) w:=by
 cases b <;> simp [Builtin.append_,h0,h1,run_underlying ht,run_underlying ht2,sizeOf,typeInfo,hi,hln,hf,storeCells]
end
section
variable {e:Env} {U:Nat->Prop} {w0:World} {S0:Nat->Prop} {nt:Nat} {σ:St} {a:Act} {w:World} {S:Nat->Prop} {L:Lay} {o:Oper}
theorem Zqs (he:e.Ok) (hC:Cls e U w0.heap.size S0 σ.m w S L) {ts:Array TypeId} {t ty:TypeId} {ety sz by':Nat} (h0:ts[0]?=some t) {t2:TypeId} (h1:ts[1]?=some t2) (ht2:e.P.underlying t2=some .string) (hb:Zbj e.P t=some (ety,sz,by')) {rows ys:List (List C)} {v u:Value}
  (hv:ZaE w S ety sz rows v∨(DRel w S (.clip rows) v∧(rows=[]∨ys≠[]))) (hrl:rowsLen sz rows) (hyl:rowsLen sz ys) (hle:rows.length+ys.length<=maxApp)
  (hy:∃ (news:List Value),(∀ w',(Builtin.lenOf u).run e.P w'=.ok ys.length w')∧Zad w S ys.flatten news∧∀ (P:Program) (w':World),(∀ p,w'.cell? p=w.cell? p)->(Builtin.firstCells sz ys.length u).run P w'=.ok news.toArray w') :
  ∃ v' w',(Builtin.append_ ts ty #[v,u]).run e.P w=.ok v' w'∧ZaE w' S ety sz (rows++ys) v'∧∃ τ:Option Nat,Kept e.D (fun b=>τ=some b) w.heap.size w w'∧(∀ g,τ=some g->vblk v=some g∧ZaE w S ety sz rows v)∧(∀ g,vblk v'=some g->τ=some g∨w.heap.size<=g):=by
 obtain ⟨i,z,hu,hi,hz,hsz,hby,hzs,hs0,hb4⟩:=ZcV hb;obtain ⟨news,hln,hnews,hf⟩:=hy;have hnl:news.length=ys.length * sz:=by rw [hnews.len,Zb5 hyl]
 have hone:=ZeS (Zl8 hyl) hnews;have hm30:rows.length+ys.length<=1073741824:=hle;have hbytes:(rows.length+ys.length) * i.bytes<=140737488355328:=by
  have h2:(rows.length+ys.length) * i.bytes<=1073741824 * 4096:=Nat.mul_le_mul hm30 om;omega
 have hrl2:rowsLen sz (rows++ys):=hrl.append hyl
 have grow:∀ (b:Option Addr) (cap:Nat) (olds:List Value),v=.slice b rows.length cap->cap < rows.length+ys.length->Zad w S rows.flatten olds->(∀ (P:Program) (w':World),(∀ p,w'.cell? p=w.cell? p)->(Builtin.firstCells sz rows.length v).run P w'=.ok olds.toArray w') ->
   ∃ v' w',(Builtin.append_ ts ty #[v,u]).run e.P w=.ok v' w'∧ZaE w' S ety sz (rows++ys) v'∧∃ τ:Option Nat,Kept e.D (fun b=>τ=some b) w.heap.size w w'∧(∀ g,τ=some g->vblk v=some g∧ZaE w S ety sz rows v)∧(∀ g,vblk v'=some g->τ=some g∨w.heap.size<=g):=by
  intro b cap olds hv hlt hol hfo;have h63:rows.length+ys.length<=maxLen:=by unfold maxLen;omega
  have hrun:=ZwT ts t ty ety i z h0 h1 ht2 hu hi hz b rows.length cap olds u ys.length news (hln w) (by rw [hsz,<- hv];exact hfo _ _ (ZgU w)) (by rw [hsz];exact hf _ _ (ZgU w)) hlt om (growslice_fits om hbytes);rw [<- hv] at hrun;have hge:=grownCap_ge w (rows.length+ys.length) cap ety;have hcm:=grownCap_le_maxLen w (rows.length+ys.length) cap ety h63;generalize hcap:grownCap w (rows.length+ys.length) cap ety=nc at hrun hge hcm
  have hcl:olds.length=rows.length * sz:=by rw [hol.len,Zb5 hrl]
  have hk:Kept e.D (fun b=>(none:Option Nat)=some b) w.heap.size w (w.drew.alloc (.cells (olds.toArray++news.toArray++Builtin.zeroCells z.cells (nc - (rows.length+ys.length))) ety)) :=
   ⟨rfl,rfl,rfl,fun _=>Nat.le_succ _,by simp,fun k hk _=>heap_alloc_old w.drew _ hk⟩
  have hheap:=heap_alloc_new w.drew (.cells (olds.toArray++news.toArray++Builtin.zeroCells z.cells (nc - (rows.length+ys.length))) ety);have hsW:(w.drew.alloc (.cells (olds.toArray++news.toArray++Builtin.zeroCells z.cells (nc - (rows.length+ys.length))) ety)).heap.size=w.heap.size+1:=by simp
  have e1:olds.toArray++news.toArray++Builtin.zeroCells z.cells (nc - (rows.length+ys.length))=((olds++news)++(Builtin.zeroCells z.cells (nc - (rows.length+ys.length))).toList).toArray:=by
   apply Array.toList_inj.1;simp
  rw [e1] at hrun hk hheap hsW;generalize w.drew.alloc (.cells ((olds++news)++(Builtin.zeroCells z.cells (nc - (rows.length+ys.length))).toList).toArray ety)=W at hrun hk hheap hsW;refine ⟨_,_,hrun,?_,none,hk,by simp,fun g hg=>?_⟩
  ·have hlen:rows.length+ys.length=(rows++ys).length:=by simp
   rw [hlen];refine ZiD (w:=w) (cells:=olds++news) (rest:=(Builtin.zeroCells z.cells (nc - (rows.length+ys.length))).toList) (n:=0) hs0 hrl2 hk.size (fun b o hs=>Zbg (hk.block b (hC.sin b hs).1 (by simp)) o) ?_ (by simp;omega) hcm om (g:=w.heap.size) om (fun hs=>by have:=(hC.sin _ hs).1;omega) ?_ ?_
   ·rw [List.flatten_append];exact Zad.app hol hnews
   ·exact hheap
   ·simp only [Tae,Array.length_toList,size_zeroCells,hzs,hcl,hnl,<- Nat.add_mul];congr 1;omega
  ·simp only [vblk] at hg;split at hg
   ·cases hg
   ·injection hg with hg;exact .inr om
 have stay:∀ (b:Option Addr),rows=[]->ys=[]->v=.slice b 0 0->∃ v' w',(Builtin.append_ ts ty #[v,u]).run e.P w=.ok v' w'∧ZaE w' S ety sz (rows++ys) v'∧∃ τ:Option Nat,Kept e.D (fun b=>τ=some b) w.heap.size w w'∧(∀ g,τ=some g->vblk v=some g∧ZaE w S ety sz rows v)∧(∀ g,vblk v'=some g->τ=some g∨w.heap.size<=g):=by
  intro b hr hy hvb;subst hr hy;have hn0:news=[]:=Tao (by simpa using hnl);have hrun:=ZwV (P:=e.P) (w:=w) ts t ty ety i h0 h1 ht2 hu hi b u (hln w) (by rw [hsz];have:=hf e.P w (fun _=>rfl);rw [hn0] at this;simpa using this);rw [hvb];refine ⟨_,_,hrun,⟨hs0,by simpa using rowsLen.nil,.inl ⟨by simp,b,rfl⟩⟩,none,Kept.refl _ _ _ _,by simp,fun g hg=>?_⟩
  cases b <;> simp [vblk] at hg
 rcases hv with hv | ⟨hv,hne⟩
 ·have hv0:=hv;obtain ⟨_,_,h3⟩:=hv;rcases h3 with ⟨hr,b,hvb⟩ | ⟨g,cap,cur,hvb,hc,hg,hs,hh,hlc,hm,hcs,hr⟩
  ·by_cases hy0:ys=[]
   ·exact stay b hr hy0 hvb
   ·have hyl0:0 < ys.length:=List.length_pos_iff.2 hy0;subst hr;refine grow b 0 [] hvb (by simpa using hyl0) (by simp [Zad]) (fun P w' _=>?_);rw [hvb]
    cases b <;> simp [Builtin.firstCells,loadCells,loadCellsFrom]
  ·by_cases hroom:rows.length+ys.length<=cap
   ·have hfit:rows.length * i.size+news.length<=cur.size:=by rw [hnl,hsz,hcs,<- Nat.add_mul];exact Nat.mul_le_mul_right _ hroom
    have hrun:=ZwU (P:=e.P) (w:=w) ts t ty ety i h0 h1 ht2 hu hi g rows.length cap cur hh u ys.length news (hln w) (by rw [hsz];exact hf _ _ (fun _=>rfl)) hone hroom hfit;rw [<- hvb] at hrun;rw [hsz] at hrun hfit;have hput:=Zf1 w g (rows.length * sz) ety news cur hh hfit;have hheap:=setRow_heap w g cur (cur.toList.take (rows.length * sz)++news++cur.toList.drop (rows.length * sz+news.length)).toArray ety _ hh
    have hdr:(w.setRow g (cur.toList.take (rows.length * sz)++news++cur.toList.drop (rows.length * sz+news.length)).toArray).drawn=w.drawn:=ZeT _ _ _;generalize hW:w.setRow g (cur.toList.take (rows.length * sz)++news++cur.toList.drop (rows.length * sz+news.length)).toArray=W at hrun hput hheap hdr;have hszW:W.heap.size=w.heap.size:=hput.size;have hkc:∀ b o,S b->W.cell? ⟨b,o,none⟩=w.cell? ⟨b,o,none⟩:=fun b o hsb=>Zbg (hput.other b (fun e=>hs (e ▸ hsb))) o
    refine ⟨_,_,hrun,⟨hs0,hrl2,.inr ⟨g,cap,_,by simp,hc,om,hs,hheap,by simpa using hroom,hm,by simp;omega,?_⟩⟩,some g,⟨hput.os,hput.tape,hput.output,fun _=>Nat.le_of_eq hdr.symm,om,fun b hb hE=>hput.other b (fun eq=>hE (by rw [eq]))⟩,fun q hq=>?_,fun q hq=>?_⟩
    ·apply Zap.of_flat;rw [List.flatten_append];have r1:=Zaj.keepAt (S':=S) om hkc (fun _ h=>h) g 0 rows.flatten (fun j hj=>hput.old _ (.inl (by rw [Zb5 hrl] at hj;omega))) hr.flat;refine Zaj.append _ _ 0 r1 ?_;rw [Zb5 hrl,Nat.zero_add];exact Zaj.of_vals _ news _ (Zad.keep2 om hkc (fun _ h=>h) hnews) hput.new
    ·injection hq with hq;subst hq
     exact ⟨by rw [hvb];simp only [vblk];rw [if_neg om],hv0⟩
    ·simp only [vblk] at hq;rw [if_neg om] at hq;exact .inl hq
   ·obtain ⟨b',cap',olds,q1,_,_,q2,q3⟩:=ZiC hv0;rw [hvb] at q1;injection q1 with e1 e2 e3
    exact grow _ _ olds hvb om q2 q3
 ·obtain ⟨hrep,b,n,hvb⟩:=hv;obtain ⟨b',cap',olds,q1,q2,q3,q4,q5⟩:=ZfF hrl hrep;rw [hvb] at q1;injection q1 with e1 e2 e3
  by_cases hy0:ys=[]
  ·have hr:rows=[]:=by
    rcases hne with h | h
    ·exact h
    ·exact absurd hy0 h
   refine stay b hr hy0 ?_;rw [hvb];have:n=0:=by rw [e2,hr];rfl
   rw [this]
  ·have hyl0:0 < ys.length:=List.length_pos_iff.2 hy0;exact grow b n olds (by rw [hvb,e2]) om q4 q5
end
def byR (s:ByteArray):List (List C):=s.data.toList.map fun b=>[.lit (.int .u8 b.toNat)]
theorem ZdR (s:ByteArray):(byR s).length=s.size:=by rw [byR,Tay,Array.length_toList];rfl
theorem Zpp (s:ByteArray):rowsLen 1 (byR s):=fun r hr=>by
 obtain ⟨b,_,rfl⟩:=Tbi.1 hr;exact ⟨rfl,rfl⟩
theorem ZjD (s t:ByteArray):byR s++byR t=byR (s++t):=by
 rw [byR,byR,byR,<- Tbv];congr 1
theorem Zyr (s:ByteArray):(byR s).flatten=(Lib.strCells s).map C.lit:=by
 rw [byR,Lib.strCells,List.map_map]
 induction s.data.toList with
 | nil=>rfl
 | cons b l ih=>simp only [Tbu,List.flatten_cons,ih,Taf,Tah];rfl
theorem Zi9 {w:World} {S:Nat->Prop}:∀ vs:List Value,Zad w S (vs.map C.lit) vs
 | []=>by simp [Zad]
 | v::vs=>by simp only [Tbu,Zad,Rep];exact ⟨trivial,Zi9 vs⟩
section
variable {e:Env} {K:St->Prop} {ds:List (Option Nat)} {os:List Oper} {s:List (Nat × A)} {m:List (Nat × Bk)}
theorem ZwW {σ:St} {o:Oper} {x y:Operand} {t t2 ety by' k d:Nat} {rows:List (List C)} {oa:Option (Option Addr × Nat)} {str:ByteArray} (ho:o.op=.call ⟨.builtin .append,#[x,y],#[t,t2]⟩) (hdd:o.dst=some d) (hb:Zbj e.P t=some (ety,1,by')) (ht2:e.P.underlying t2=some .string)
  (hx:evA σ.s x=.buf k) (hm:gm σ.m k=some (.buf oa ety 1 rows)) (hy:evA σ.s y=.d (.one (.lit (.string str)))) (hle:rows.length+(byR str).length<=maxApp) (hK:K ⟨(d,.buf d)::Zaq d (Zaq k σ.s),(d,.buf none ety 1 (rows++byR str))::remM d (remM k σ.m)⟩):ZbN e o σ K:=by
 intro he U w0 S0 nt a w Q hd ⟨S,L,h⟩;have hx':a.eval x=L.v k:=by have:=h.eval x;rw [hx] at this;exact this
 have hy':a.eval y=.string str:=by have:=h.eval y;rw [hy] at this;simpa [ARel,DRel,Rep] using this
 have ho':ZaE w S ety 1 rows (L.v k):=(h.cls.own k _ hm).2
 obtain ⟨v',w',hrun,hbuf,τ,hk,hτ,hblk⟩:=Zqs (ty:=o.type) (ts:=#[t,t2]) (v:=L.v k) (u:=.string str) he h.cls rfl rfl ht2 hb (.inl ho') ho'.2.1 (Zpp str) hle
  ⟨Lib.strCells str,fun w'=>by simp [Builtin.lenOf,ZdR],by rw [Zyr];exact Zi9 _,fun P w' _=>by rw [ZdR];exact Lib.run_firstCells_string w' 1 str⟩
 unfold Oper.wp;have hr2:(execOp a.eval o).run e.P w=.ok (.value v') w':=by
  simp [execOp,ho,resolve,invoke,builtin,hx',hy',hrun,Result.andThen]
 rw [hr2,Oper.upon_value,hdd];refine ⟨_,hK,h.born he (hd d hdd) (τ:=τ) (b':=0) (v':=v') (s1:=Zaq k σ.s) (m1:=remM k σ.m) (fun _ h=>h) (fun _ h=>.inl h) (fun t=>?_) (fun k' x hx=>?_) (fun g hg=>?_) (fun k' x g hkd hx hg hb'=>?_) hk ?_ (fun g hg=>?_) (by simp [ARel])⟩
 ·rcases Zd0 k t σ.s with ⟨h1,_⟩ | h1
  ·exact .inl h1
  ·exact .inr h1
 ·rw [ZaC] at hx;split at hx
  ·cases hx
  ·exact hx
 ·have hg':=(hτ g hg).1;exact ⟨(Own1.lt (k:=k) (L:=L) (bk:=.buf none ety 1 rows) ⟨by simp,ho'⟩ hg').2,h.cls.notE hm hg',h.cls.mine k _ g hm hg'⟩
 ·have hg':=(hτ g hg).1;rw [ZaC] at hx;split at hx
  ·cases hx
  ·rename_i hne';exact hne' (h.cls.inj k' k x _ g hx hm hb' hg')
 ·simp only [Own1,if_true];exact ⟨by simp,hbuf⟩
 ·simp only [Zay,if_true] at hg;exact hblk g hg
theorem Znd:∀ (l:List UInt8) (acc:ByteArray),(l.map fun b=>(b.toNat:Int)).foldl (fun r n=>r.push (UInt8.ofNat n.toNat)) acc=⟨acc.data++l.toArray⟩
 | [],acc=>by simp
 | b::l,acc=>by
  rw [Tbu,List.foldl_cons,Znd l];have hb:UInt8.ofNat ((b.toNat:Int)).toNat=b:=by simp
  rw [hb];simp [ByteArray.push]
theorem Zys (s:ByteArray):(s.data.toList.map fun b=>(b.toNat:Int)).foldl (fun r n=>r.push (UInt8.ofNat n.toNat)) ByteArray.empty=s:=by
 rw [Znd];show (⟨#[]++s.data.toList.toArray⟩:ByteArray)=s;simp
theorem Zqt {σ:St} {o:Oper} {t d:TypeId} {x:Operand} {k ety:Nat} {oa:Option (Option Addr × Nat)} {str:ByteArray} (ho:o.op=.convert t d x) (hx:evA σ.s x=.buf k) (hm:gm σ.m k=some (.buf oa ety 1 (byR str))) (ht:Zjz e.P t d=true) (hK:K ⟨setA σ.s o.dst (.d (.one (.lit (.string str)))),σ.m⟩):ZbN e o σ K:=by
 intro he U w0 S0 nt a w Q hd ⟨S,L,h⟩;have hx':a.eval x=L.v k:=by have:=h.eval x;rw [hx] at this;exact this
 have ho':ZaE w S ety 1 (byR str) (L.v k):=(h.cls.own k _ hm).2;have hrun:(convert t d (L.v k)).run e.P w=.ok (.string str) w:=by
  unfold Zjz at ht;split at ht
  ·rename_i e1 h1 h2;split at ht
   ·rename_i h3;have key:∀ (b:Option Addr) (cap:Nat),L.v k=.slice b str.size cap->(∀ ad,b=some ad->(loadCells ad str.size).run e.P w=.ok ((str.data.toList.map fun b=>(b.toNat:Int)).map (Value.int .u8)).toArray w)->(b=none->str.size=0)->(convert t d (L.v k)).run e.P w=.ok (.string str) w:=fun b cap hv hl hn=>by
     rw [hv,run_convert_bytes_string w t d e1 b _ cap h1 h3 h2]
     cases b with
     | none =>
      have h0:=hn rfl;have:str=ByteArray.empty:=by
       cases str with
       | mk data=>simp only [ByteArray.size] at h0;rw [Array.eq_empty_of_size_eq_zero h0];rfl
      rw [this];simp [Conv.bytesToString]
     | some ad =>
      rw [run_bytesToString w ad _ cap _ (hl ad rfl),Zys]
    rcases ho'.2.2 with ⟨hr,b,hv⟩ | ⟨g,cap,cur,hv,hc,hg,hs,hh,hlc,hmx,hcs,hr⟩
    ·have h0:str.size=0:=by rw [<- ZdR,hr];rfl
     have hd0:str.data.toList=[]:=Tao (by rw [Array.length_toList];exact h0);refine key b 0 (by rw [hv,h0]) (fun ad _=>?_) (fun _=>h0);rw [h0,hd0];simp [loadCells,loadCellsFrom]
    ·rw [ZdR] at hv;refine key _ cap hv (fun ad had=>?_) (fun hb=>by cases hb);injection had with had
     subst had;have hl:=run_loadCells_list (P:=e.P) w ⟨g,0,none⟩ ((str.data.toList.map fun b=>(b.toNat:Int)).map (Value.int .u8)) (fun j u hj=>by
      rw [Tba,Tba] at hj;obtain ⟨b,hb,rfl⟩:∃ b,str.data.toList[j]?=some b∧u=.int .u8 b.toNat:=by
       cases hq:str.data.toList[j]? with
       | none=>rw [hq] at hj;cases hj
       | some b=>rw [hq] at hj;injection hj with hj;exact ⟨b,rfl,hj.symm⟩
      have h1:=Zap.get (byR str) 0 j [.lit (.int .u8 b.toNat)] (k:=1) (fun z hz=>(Zpp str z hz).1) hr (by rw [byR,Tba,hb];rfl);rw [Addr.add_at];simpa [Zaj,Rep] using h1)
     rw [Tay,Tay,Array.length_toList] at hl;exact hl
   ·cases ht
  ·cases ht
 unfold Oper.wp;have hr2:(execOp a.eval o).run e.P w=.ok (.value (.string str)) w:=by
  simp [execOp,ho,hx',hrun,Result.andThen]
 rw [hr2,Oper.upon_value];exact ⟨_,hK,S,L,h.put (α:=.d (.one (.lit (.string str)))) (by simp [ARel,DRel,Rep]) hd⟩
theorem gSt {d t t2 ty ety by' k:Nat} {p:String} {ed:Array Edge} {x y:Operand} {rows:List (List C)} {oa:Option (Option Addr × Nat)} {str:ByteArray} {s2:List (Nat × A)} {m2:List (Nat × Bk)} (hle:rows.length+(byR str).length<=maxApp) (ht2:e.P.underlying t2=some .string) (hK:Runs e ds 0 os ⟨(d,.buf d)::s2,(d,.buf none ety 1 (rows++byR str))::m2⟩ K)
  (hb:Zbj e.P t=some (ety,1,by'):=by exact sfx) (hx:evA s x=.buf k:=by exact sfx) (hm:gm m k=some (.buf oa ety 1 rows):=by exact snx) (hy:evA s y=.d (.one (.lit (.string str))):=by exact sfx)
  (hs:Zaq d (Zaq k s)=s2:=by exact snv) (hr:remM d (remM k m)=m2:=by exact snv):Runs e ds 0 (⟨some d,.call ⟨.builtin .append,#[x,y],#[t,t2]⟩,ty,p,ed,none⟩::os) ⟨s,m⟩ K:=by
 subst hs hr;simp only [Runs] at hK ⊢;exact ZcP rfl (ZwW rfl rfl hb ht2 hx hm hy hle hK)
theorem gTx {d t1 t2 ty ety k:Nat} {p:String} {ed:Array Edge} {x:Operand} {oa:Option (Option Addr × Nat)} (str:ByteArray) (ht:Zjz e.P t1 t2=true) (hK:Runs e ds 0 os ⟨(d,.d (.one (.lit (.string str))))::s,m⟩ K) (hx:evA s x=.buf k:=by exact sfx) (hm:gm m k=some (.buf oa ety 1 (byR str)):=by exact snx):Runs e ds 0 (⟨some d,.convert t1 t2 x,ty,p,ed,none⟩::os) ⟨s,m⟩ K:=by
 simp only [Runs] at hK ⊢;exact ZcP rfl (Zqt (o:=⟨some d,.convert t1 t2 x,ty,p,ed,none⟩) rfl hx hm ht hK)
end
def decS (i:Int):ByteArray:=⟨(decB i).toArray⟩
theorem ZwX {i:Int} (h0:0<=i) (h1:i < 14):Con e0 150 [.one (.lit (.int .i64 i))] [.one (.lit (.string (decS i)))]:=by
 have h:i=0∨i=1∨i=2∨i=3∨i=4∨i=5∨i=6∨i=7∨i=8∨i=9∨i=10∨i=11∨i=12∨i=13:=om;rcases h with rfl | rfl | rfl | rfl | rfl | rfl | rfl | rfl | rfl | rfl | rfl | rfl | rfl | rfl
 all_goals (
  have w1:IntKind.i64.wrap (0+1)=1:=by decide
  have w2:IntKind.i64.wrap (1+1)=2:=by decide
  have w3:IntKind.i64.wrap (2+1)=3:=by decide
  have w4:IntKind.i64.wrap (3+1)=4:=by decide
  have w5:IntKind.i64.wrap (4+1)=5:=by decide
  have w6:IntKind.i64.wrap (5+1)=6:=by decide
  have w7:IntKind.i64.wrap (6+1)=7:=by decide
  have w8:IntKind.i64.wrap (7+1)=8:=by decide
  have w9:IntKind.i64.wrap (8+1)=9:=by decide
  have wa:IntKind.i64.wrap (9+1)=10:=by decide
  have u0:IntKind.i64.wrap (10 * 2)=20:=by decide
  have u1:IntKind.i64.wrap (11 * 2)=22:=by decide
  have u2:IntKind.i64.wrap (12 * 2)=24:=by decide
  have u3:IntKind.i64.wrap (13 * 2)=26:=by decide
  have v0:IntKind.i64.wrap (20+2)=22:=by decide
  have v1:IntKind.i64.wrap (22+2)=24:=by decide
  have v2:IntKind.i64.wrap (24+2)=26:=by decide
  have v3:IntKind.i64.wrap (26+2)=28:=by decide
  refine gI (ts:=[.slot 2]) 21 Tryz.func150 ?_
  (exact fD (aj16 @w1 @w2 @w3 @w4 @w5 @w6 @w7 @w8 @w9 @wa @u0 @u1 @u2 @u3 @v0 (aj3 @v1 @v2 @v3))))
theorem ZAg (s:ByteArray):ZaI 1 (byR s)=true:=by
 unfold byR
 induction s.data.toList with
 | nil=>rfl
 | cons b l ih=>simp only [Tbu,Zh0,ih,Bool.and_true];rfl
def RBy (s:ByteArray) (r:List D) (pm:List Bk):Prop:=∃ a cap,r=[.one (.lit (.slice a (byR s).length cap))]∧pm=[.buf (some (a,cap)) 5 1 (byR s)]
theorem ZBs {P:Program} {t:TypeId} {a b:Int}:binT P .lss t (.int .u64 a) (.int .u64 b)=some (.bool (decide (a < b))):=rfl
theorem Zms:ZdB (Tryz.prog.underlying 140)=some .u64:=by kernel_rfl
theorem ZBt:Tryz.prog.underlying 140=some (.int .u64):=by kernel_rfl
theorem Zst:ZdB (Tryz.prog.underlying 2)=some .i64:=by kernel_rfl
theorem Zsu:e0.P.underlying 9=some .string:=by kernel_rfl
theorem Zne {i:Int} (h0:0<=i) (h1:i < 14) (s:ByteArray) (hl:s.size<=1000000) (a:Option Addr) (cap:Nat):ConP e0 148 [.one (.lit (.slice a (byR s).length cap)),.one (.lit (.int .u64 i)),.one (.lit (.int .i64 10))] [.buf (some (a,cap)) 5 1 (byR s)] (RBy (s++decS i)):=by
 have q1:(i < 100)=True:=eq_true om;have w1:IntKind.i64.wrap i=i:=IntWalk.i64_in _ om;have l1:(byR s).length+(byR (decS i)).length<=maxApp:=by
  rw [ZdR,ZdR];have:(decS i).size<=3:=by unfold decS decB decN;show (List.toArray _).size<=3;rw [List.size_toArray];split <;> split <;> simp
  unfold maxApp;omega
 refine gIP (ts:=[.slot 6]) [1000] 5575 Tryz.func148 ?_;refine fN 3 (aj3 @q1 @ZBs @tmz) ?_;refine gB ?_;refine fC (aj6 @w1 @Zms @ZBt @ZfJ @ZhJ @tmz) (ZwX h0 h1) ?_;refine gK 13 ?_;refine (have F:=tmz;gSt l1 Zsu ?_);rw [ZjD];refine gS 17 fun a2 cap2=>?_;refine fR @tmz ?_;refine fG @tmz ?_;exact (have F:=tmz;gTP (R:=RBy (s++decS i)) [17] ⟨a2,cap2,rfl,rfl⟩)
theorem ZwY {i:Int} (h0:-1<=i) (h1:i < 14) (s:ByteArray) (hl:s.size<=100000) (a:Option Addr) (cap:Nat):ConP e0 141 [.one (.lit (.slice a (byR s).length cap)),.one (.lit (.int .i64 i)),.one (.lit (.int .i64 10))] [.buf (some (a,cap)) 5 1 (byR s)] (RBy (s++decS i)):=by
 refine gIP (ts:=[.slot 6]) [1000] 2247 Tryz.func141 ?_;by_cases hn:i < 0
 ·obtain rfl:i=-1:=by omega
  have q1:=lT (-1) 0;have w1:IntKind.u64.wrap (-1)=18446744073709551615:=by decide
  have w2:IntKind.u64.wrap (0 - 18446744073709551615)=1:=by decide
  have l1:(byR s).length+1<=maxApp:=by rw [ZdR];unfold maxApp;omega
  have l2:ZaI 1 (byR s)=true:=ZAg s;have e1:byR s++[[.lit (.int .u8 45)]]=byR (s++⟨#[45]⟩):=by rw [<- ZjD];rfl
  have e2:s++⟨#[45]⟩++decS 1=s++decS (-1):=by rw [ByteArray.append_assoc];rfl
  have cU:=fun a cap=>Zne (i:=1) om om (s++⟨#[45]⟩) (by rw [ByteArray.size_append];show s.size+1<=_;omega) a cap;rw [e2] at cU;refine fN 3 (aj6 @q1 @w1 @Zms @Zst @Zed @tmz) ?_;refine gB ?_;refine fR (aj4 @l1 @l2 @e1 @tmz) ?_;refine fN 5 (aj3 @w2 @ZBg @tmz) ?_;refine pS 0 fun a2 cap2=>?_;refine gB ?_;have F:=@tmz;refine gCP [0] [1001] (cU a2 cap2) ?_;clear F;rintro r pm ⟨a3,cap3,rfl,rfl⟩;simp only [setA,retA,zipM,Taf,Tah]
  refine fR @tmz ?_;refine fG @tmz ?_;exact (have F:=tmz;gTP (R:=RBy (s++decS (-1))) [1001] ⟨a3,cap3,rfl,rfl⟩)
 ·have q1:(i < 0)=False:=eq_false hn;have w1:IntKind.u64.wrap i=i:=by
   have h:=@Int.emod_eq_of_lt;unfold IntKind.wrap;simp only [IntKind.signed,IntKind.bits];exact Int.emod_eq_of_lt om om
  have cU:=Zne om h1 s om a cap;refine fN 5 (aj6 @q1 @w1 @Zms @Zst @Zed @tmz) ?_;refine gB ?_;have F:=@tmz;refine gCP [1000] [1001] (cU) ?_;clear F;rintro r pm ⟨a3,cap3,rfl,rfl⟩;simp only [setA,retA,zipM,Taf,Tah];refine fR @tmz ?_;refine fG @tmz ?_;exact (have F:=tmz;gTP (R:=RBy (s++decS i)) [1001] ⟨a3,cap3,rfl,rfl⟩)
theorem Zkb {i:Int} (h0:-1<=i) (h1:i < 14) (s:ByteArray) (hl:s.size<=100000) (a:Option Addr) (cap:Nat):ConP e0 130 [.one (.lit (.slice a (byR s).length cap)),.one (.lit (.int .i64 i)),.one (.lit (.int .i64 10))] [.buf (some (a,cap)) 5 1 (byR s)] (RBy (s++decS i)):=by
 refine gIP (ts:=[.slot 6]) [1000] 71 Tryz.func130 ?_;refine fN 1 @tmz ?_;refine gB ?_;have F:=@tmz;refine gCP [1000] [1001] (ZwY h0 h1 s hl a cap) ?_;clear F;rintro r pm ⟨a3,cap3,rfl,rfl⟩;simp only [setA,retA,zipM,Taf,Tah];refine fR @tmz ?_;refine fG @tmz ?_;exact (have F:=tmz;gTP (R:=RBy (s++decS i)) [1001] ⟨a3,cap3,rfl,rfl⟩)
def bs (l:List UInt8):ByteArray:=⟨l.toArray⟩
theorem ZlN (l m:List UInt8):bs l++bs m=bs (l++m):=by
 apply ByteArray.ext;rw [ByteArray.data_append];simp [bs]
theorem ZjE (l:List UInt8):(bs l).size=l.length:=by show (List.toArray l).size=_;simp
theorem Znf (s:ByteArray):bs s.toList=s:=by
 rw [ByteArray.toList_eq];unfold bs;simp
theorem Zsv {i:Int} (h1:i < 100):(decB i).length<=3:=by
 unfold decB decN;split <;> split <;> simp
mutual
theorem Zpq {g:Sgn} (hg:SgnOk g):∀ (t:Tm),ZaH g t->(ZcU t).length<=22 * sizeTm t
 | .mk op nm so args,h=>by
  have h1:=Zng hg args (by simp only [ZaH] at h;exact h.2.1);have hk:=ZgN hg _ h;simp only [Zej] at hk;obtain ⟨k0,k1,k2,k3,_⟩:=hk;have d1:=Zsv (i:=op) om;simp only [ZcU,sizeTm,Tae,Tag,Tak];split
  ·have d2:=Zsv (i:=so) (by have:=(k2 om).2.2;omega);have hn:Zba nm=true:=by
    rcases h.node with hv | ⟨o,d,hA⟩
    ·exact hv.2.1
    ·have:=hA.lo;have:(Tm.mk op nm so args).op=op:=rfl;omega
   have h4:¬ 12 < nm.size:=fun h=>by rw [ZcA (.inr (.inl h))] at hn;cases hn
   have h5:nm.toList.length=nm.size:=by rw [ByteArray.toList_eq];exact Array.length_toList
   simp only [Tag,Tae];omega
  ·simp only [Tak];omega
theorem Zng {g:Sgn} (hg:SgnOk g):∀ (ts:List Tm),Zc6 g ts->(Zbc ts).length<=22 * sizeTms ts
 | [],_=>by simp [Zbc,sizeTms]
 | t::ts,h=>by
  simp only [Zc6] at h;have h1:=Zpq hg t h.1;have h2:=Zng hg ts h.2;simp only [Zbc,sizeTms,Tae];omega
end
theorem Zqu {l:List Tm} {i:Nat} {t:Tm} (h:l[i]?=some t):Zbc (l.take (i+1))=Zbc (l.take i)++ZcU t:=by
 rw [show l.take (i+1)=l.take i++[t] by simp [List.take_add_one,h],Ztp];simp [Zbc]
theorem Znh:∀ (l:List Tm) (i:Nat),(Zbc (l.take i)).length<=(Zbc l).length
 | [],i=>by simp [Zbc]
 | x::xs,0=>by simp [Zbc]
 | x::xs,i+1=>by have:=Znh xs i;simp only [Tbc,Zbc,Tae];omega
theorem ZlO:∀ {ts:List Tm},Zet ts->∀ t∈ts,Zej t
 | _::_,h,t,ht=>by
  simp only [Zet] at h;rcases Tbg.1 ht with rfl | ht
  ·exact h.1
  ·exact ZlO h.2 t ht
def keyP (op:Int) (nm:ByteArray) (so:Int):List UInt8:=decB op++(if op < 0 then 58::(nm.toList++58::decB so) else [])
theorem ZAP (op:Int) (nm:ByteArray) (so:Int) (args:List Tm):ZcU (.mk op nm so args)=keyP op nm so++[40]++Zbc args++[41]:=by
 simp [ZcU,keyP,Tbf]
theorem Ztq:Za8 Tryz.prog 146=some .one:=by kernel_rfl
theorem ZAh:Zbi Tryz.prog 146=some 1:=by kernel_rfl
theorem ZBV:Za3 Tryz.prog 146=some [.lit .nilFunc]:=by kernel_rfl
theorem ZBu:Zau (.lit .nilFunc)=true:=rfl
theorem ZBv {f:FuncId} {cs:List C}:Zau (.fn f cs)=true:=rfl
def ptrB (b:Nat):Value:=.pointer (some ⟨b,0,none⟩)
def RKey (bo bv:Nat) (f:FuncId) (s:ByteArray) (r:List D) (pm:List Bk):Prop:=∃ a cap,r=[]∧pm=[.var (some bo) [.lit (.slice a (byR s).length cap)],.buf (some (a,cap)) 5 1 (byR s),.var (some bv) [.fn f [.lit (ptrB bo),.lit (ptrB bv)]]]
theorem gTPk {X:Prop} {P:Program} {ts:List RS} {R:List D->List Bk->Prop} {σ:St} {r:List D} {pm:List Bk} (ks:List Nat) (hR:R r pm) (hx:ZkX P ts R .normal σ->X:=by first | exact fun h=>h | exact fun h=>⟨_,Wk.refl _,h⟩) (hr:resD P σ ts=some r:=by exact sfy) (hg:getM σ.m ks=some pm:=by exact sny) (hn:ks.Nodup:=by decide) (hp:pm.all pinned=true:=by exact sny):X :=
 hx ⟨r,ks,pm,hg,hn,hp,hR,Zfd hr⟩
theorem Zqv (t:Tm) (hk:Zej t) (hsz:sizeTm t<=60) (l:List UInt8) (a:Option Addr) (cap bo bv:Nat) (hne:bo≠bv) (hl:l.length+(ZcU t).length<=90000)
  (h:∀ x∈t.args,∀ (l:List UInt8) (a:Option Addr) (cap:Nat),l.length+(ZcU x).length<=90000->ConP e0 129 [.agg (Zab x),.one (.lit (ptrB bo)),.one (.lit (ptrB bv))] [.var (some bo) [.lit (.slice a (byR (bs l)).length cap)],.buf (some (a,cap)) 5 1 (byR (bs l)),.var (some bv) [.fn 129 [.lit (ptrB bo),.lit (ptrB bv)]]] (RKey bo bv 129 (bs (l++ZcU x)))) :
  ConP e0 129 [.agg (Zab t),.one (.lit (ptrB bo)),.one (.lit (ptrB bv))] [.var (some bo) [.lit (.slice a (byR (bs l)).length cap)],.buf (some (a,cap)) 5 1 (byR (bs l)),.var (some bv) [.fn 129 [.lit (ptrB bo),.lit (ptrB bv)]]] (RKey bo bv 129 (bs (l++ZcU t))):=by
 obtain ⟨op,nm,so,args⟩:=t;have hc:Zab (.mk op nm so args)=[.lit (.int .i64 op),.lit (.string nm),.lit (.int .i64 so),.sl (Zac args)]:=by simp only [Zab]
 have hn1:(bo=bv)=False:=eq_false hne;have hn2:(bv=bo)=False:=eq_false (fun e=>hne e.symm);simp only [Tm.args] at h;have hsl:=Zbq args;simp only [sizeTm] at hsz;simp only [ptrB] at h ⊢;simp only [Zej] at hk;obtain ⟨k0,k1,k2,k3,k4⟩:=hk;rw [ZAP] at hl ⊢;simp only [Tae,Tag,Tak] at hl;have rb:=fun l=>ZAg (bs l);have e0':bs l++decS op=bs (l++decB op):=ZlN _ _;have c1:=Zkb k0 k1 (bs l) (by rw [ZjE];omega) a cap
 rw [e0'] at c1;have hP:keyP op nm so=decB op++(if op < 0 then 58::(nm.toList++58::decB so) else []):=rfl;have ap:=fun (l:List UInt8) (b:UInt8) (b':Int) (hb:b'=b.toNat)=>show byR (bs l)++[[.lit (.int .u8 b')]]=byR (bs (l++[b])) by rw [<- ZlN,<- ZjD,hb];rfl
 have ml:=fun (l:List UInt8) (hl:l.length<=90000)=>show ((byR (bs l)).length+1<=maxApp)=True from eq_true (by rw [ZdR,ZjE];unfold maxApp;omega)
 refine gIP (ts:=[]) [1001,1000,1002] 32212258863 Tryz.func129 ?_;refine fN 1 @tmz ?_;refine gB ?_;have F:=aj4 @hc @hn1 @hn2 @tmz;refine gCP [1000] [1000] (c1) ?_;clear F;rintro r pm ⟨a1,cap1,rfl,rfl⟩;simp only [setA,retA,zipM,Taf,Tah];refine fR (aj4 @hc @hn1 @hn2 @tmz) ?_;refine fG (ai @hc @tmz) ?_;refine gM (ι:=Option Addr × Nat) [] [1000,1001] (fun x=>[]) (fun x=>[(1001,.var (some bo) [.lit (.slice x.1 (byR (bs (l++keyP op nm so))).length x.2)]),(1000,.buf (some (x.1,x.2)) 5 1 (byR (bs (l++keyP op nm so))))]) (fun x=>True) ?_ (fun x hx=>Exists.intro _ (ai (Wk.refl _) ?_))
 ·by_cases ho:op < 0
  ·have q1:(op < 0)=True:=eq_true ho;rw [if_pos ho] at hP;obtain ⟨_,s0,s8⟩:=k2 om;have hnm:(bs (l++decB op++[58]))++nm=bs (l++decB op++[58]++nm.toList):=by rw [<- Znf nm,ZlN,Znf]
   have e2:bs (l++decB op++[58]++nm.toList++[58])++decS so=bs (l++keyP op nm so):=by
    rw [hP];refine (ZlN _ _).trans ?_;simp [Tbf]
   have hpl:=congrArg List.length hP;simp only [Tae,Tag] at hpl;have c2:=fun a cap=>Zkb (i:=so) om om (bs (l++decB op++[58]++nm.toList++[58])) (by rw [ZjE];simp only [Tae,Tag,Tak];omega) a cap;rw [e2] at c2;have m1:=ml (l++decB op) (by simp only [Tae];omega);have m2:=ml (l++decB op++[58]++nm.toList) (by simp only [Tae,Tag,Tak];omega);have m3:(byR (bs (l++decB op++[58]))).length+(byR nm).length<=maxApp:=by
    rw [ZdR,ZdR,ZjE];have:nm.size=nm.toList.length:=by rw [ByteArray.toList_eq];exact Array.length_toList.symm
    simp only [Tae,Tag,Tak];unfold maxApp;omega
   have b1:=rb (l++decB op);have b2:=rb (l++decB op++[58]++nm.toList);have p1:=ap (l++decB op) 58 58 rfl;have p2:=ap (l++decB op++[58]++nm.toList) 58 58 rfl;clear hP hpl ap ml rb;rw [decide_eq_true ho];refine fN 3 (ai @hc @tmz) ?_;refine gB ?_;have F:=aj6 @m1 @b1 @p1 @hn1 @hn2 @tmz;refine gP 3 ?_;clear F;refine gS 15 fun a2 cap2=>?_;refine fR (aj3 @hn1 @hn2 @tmz) ?_;refine fN 4 @tmz ?_;refine gB ?_
   have F:=aj4 @hc @hn1 @hn2 @tmz;refine gP 3 ?_;clear F;refine gK 16 ?_;refine (have F:=tmz;gSt m3 Zsu ?_);rw [ZjD,hnm];refine gS 19 fun a3 cap3=>?_;refine fR (aj3 @hn1 @hn2 @tmz) ?_;refine fN 5 @tmz ?_;refine gB ?_;have F:=aj6 @m2 @b2 @p2 @hn1 @hn2 @tmz;refine gP 3 ?_;clear F;refine gS 22 fun a4 cap4=>?_;refine fR (aj3 @hn1 @hn2 @tmz) ?_;refine fN 6 @tmz ?_;refine gB ?_;have F:=aj4 @hc @hn1 @hn2 @tmz;refine gCP [22] [1000] (c2 a4 cap4) ?_;clear F
   rintro r pm ⟨a5,cap5,rfl,rfl⟩;simp only [setA,retA,zipM,Taf,Tah];refine fR (aj3 @hn1 @hn2 @tmz) ?_;exact (have F:=tmz;⟨(a5,cap5),trivial,gw,gw⟩)
  ·have q1:(op < 0)=False:=eq_false ho;rw [if_neg ho,List.append_nil] at hP;rw [hP,decide_eq_false ho];have F:=ai @hc @tmz;refine gG ?_;exact ⟨(a1,cap1),trivial,gw,gw⟩
 obtain ⟨a2,cap2⟩:=x;dsimp only;have m1:=ml (l++keyP op nm so) (by simp only [Tae];omega);have b1:=rb (l++keyP op nm so);have p1:=ap (l++keyP op nm so) 40 40 rfl;have e3:l++(keyP op nm so++[40]++Zbc args++[41])=l++keyP op nm so++[40]++Zbc args++[41]:=by simp [Tbf]
 rw [e3];have hP2:(l++keyP op nm so++[40]).length=l.length+(keyP op nm so).length+1:=by simp only [Tae,Tag,Tak]
 have hal:=Znh args;refine fN 7 @tmz ?_;refine gB ?_;have F:=aj6 @m1 @b1 @p1 @hn1 @hn2 @tmz;refine gP 3 ?_;clear F;refine gS 29 fun a3 cap3=>?_;refine fR (aj3 @hn1 @hn2 @tmz) ?_;clear m1 b1 p1 e3 hP c1 e0';generalize l++keyP op nm so++[40]=q at hP2 ⊢;have hq0:q++Zbc []=q:=by simp [Zbc]
 refine fG (ai @hc @tmz) ?_;have F:=@hq0;refine gL (ι:=Nat × Option Addr × Nat) [5,33,34] [29,1001,1002] (fun x=>[(33,.d (.one (.lit (.int .i64 (x.1:Int)))))]) (fun x=>[(1001,.var (some bo) [.lit (.slice x.2.1 (byR (bs (q++Zbc (args.take x.1)))).length x.2.2)]),(29,.buf (some (x.2.1,x.2.2)) 5 1 (byR (bs (q++Zbc (args.take x.1))))),(1002,.var (some bv) [.fn 129 [.lit (.pointer (some ⟨bo,0,none⟩)),.lit (.pointer (some ⟨bv,0,none⟩))]])]) (fun x=>x.1<=args.length) (fun x=>args.length - x.1) ((0,a3,cap3)) (Taj _) (fun x hx=>?_);clear F
 obtain ⟨i,a4,cap4⟩:=x;simp only at hx;dsimp only;by_cases hlt:i < args.length
 ·obtain ⟨b,hg⟩:∃ b,args[i]?=some b:=⟨_,Taa hlt⟩;have q2:=lT i args.length;have q4:IntKind.i64.wrap ((i:Int)+1)=(i:Int)+1:=IntWalk.i64_in _ om;have hvt:=Zqu hg;have hle:=hal (i+1);rw [hvt,Tae] at hle;have hcon:=h b (Tac hg) (q++Zbc (args.take i)) a4 cap4 (by rw [Tae];omega);rw [Tbf,<- hvt] at hcon;refine fB (aj6 @q2 @hc @Zae @ZbH @hg @tmz) ?_;have F:=aj4 @Ztq @hn1 @hn2 @tmz;refine gCP [1001,29,1002] [1001,29,1002] (hcon) ?_;clear F
  rintro r pm ⟨a5,cap5,rfl,rfl⟩;simp only [ptrB,setA,retA,zipM,Taf,Tah];refine fR @tmz ?_;have F:=@q4;refine gG ?_;exact ⟨(i+1,a5,cap5),hlt,gw,gw,om⟩
 ·obtain rfl:i=args.length:=by omega
  have q2:=lF args.length args.length;rw [Tap];have m1:=ml (q++Zbc args) (by rw [Tae];omega);have b1:=rb (q++Zbc args);have p1:=ap (q++Zbc args) 41 41 rfl;refine fN 13 @q2 ?_;refine gB ?_;have F:=aj6 @m1 @b1 @p1 @hn1 @hn2 @tmz;refine gP 3 ?_;clear F;refine gS 43 fun a5 cap5=>?_;refine fR (aj3 @hn1 @hn2 @tmz) ?_;exact (have F:=tmz;gTPk (R:=RKey bo bv 129 (bs (q++Zbc args++[41]))) [1001,43,1002] ⟨a5,cap5,rfl,rfl⟩)
theorem Ztr (bo bv:Nat) (hne:bo≠bv) (n:Nat):∀ (t:Tm),sizeTm t < n->Zej t->sizeTm t<=60->∀ (l:List UInt8) (a:Option Addr) (cap:Nat),l.length+(ZcU t).length<=90000->ConP e0 129 [.agg (Zab t),.one (.lit (ptrB bo)),.one (.lit (ptrB bv))] [.var (some bo) [.lit (.slice a (byR (bs l)).length cap)],.buf (some (a,cap)) 5 1 (byR (bs l)),.var (some bv) [.fn 129 [.lit (ptrB bo),.lit (ptrB bv)]]] (RKey bo bv 129 (bs (l++ZcU t))):=by
 induction n with
 | zero=>exact fun _ h=>om
 | succ n ih =>
  intro t hn hk hsz l a cap hl;refine Zqv t hk hsz l a cap bo bv hne hl fun x hx l a cap hl2=>ih x ?_ ?_ ?_ l a cap hl2
  ·have:=Za5 hx;rw [ZaM] at hn;omega
  ·obtain ⟨op,nm,so,args⟩:=t;simp only [Zej] at hk;exact ZlO hk.2.2.2.2 x hx
  ·have:=Za5 hx;rw [ZaM] at hsz;omega
theorem Zyt:Zjz e0.P 22 9=true:=by kernel_rfl
theorem ZwZ {g:Sgn} (hg:SgnOk g) {t:Tm} (hf:ZaH g t) (hsz:sizeTm t<=60):Con e0 95 [.agg (Zab t)] [.one (.lit (.string (keyS t)))]:=by
 have hks:=Zpq hg t hf;have hby0:byR (bs [])=[]:=rfl;refine gI (ts:=[.slot 2]) 31 Tryz.func95 ?_;refine fN 1 @tmz ?_;refine gB ?_;have F:=@tmz;refine gP 1 ?_;clear F;refine gO 5 5 1 ?_;refine gS 5 fun a cap=>?_;refine fR @tmz ?_;refine fN 3 (aj3 @ZBV @ZAh @tmz) ?_;refine pV 3 fun b3 hb3=>?_;refine pV 4 fun b4 hb4=>?_;have hne:b3≠b4:=fun e=>hb4 3 b3 _ (by decide) rfl e.symm;clear hb3 hb4;have hn1:(b3=b4)=False:=eq_false hne
 have hn2:(b4=b3)=False:=eq_false (fun e=>hne e.symm);refine fN 4 (aj7 @Ztq @ZAh @ZBu @ZBv @hn1 @hn2 @tmz) ?_;refine gB ?_;have hcon:=Ztr b3 b4 hne _ t (Tan _) (ZgN hg t hf) hsz [] a cap (by simp only [Tak];omega);simp only [ptrB,hby0,Tak,Tah] at hcon;have F:=aj4 @Ztq @hn1 @hn2 @tmz;refine gCP [3,5,4] [3,5,4] (hcon) ?_;clear F;rintro r pm ⟨a2,cap2,rfl,rfl⟩;simp only [ptrB,setA,retA,zipM,Taf,Tah];refine fR @tmz ?_
 refine ZdE ?_;refine gB ?_;have F:=aj3 @hn1 @hn2 @tmz;refine gP 1 ?_;clear F;refine gK 10 ?_;refine (have F:=tmz;gTx (k:=5) (bs (ZcU t)) Zyt ?_);refine fR @tmz ?_;exact fD @tmz
end Go.Proofs.YtmdkimnlbaahbaaGreatDoor
namespace Go.Proofs.YtmdkimnlbaahbaaGreatDoor
open Go.RowKit Go.MapKept Go.ChangeMaps
theorem ZlP {l:List (ByteArray × Value)} {k s:ByteArray} {v:Value}:ZbM (l++[(k,v)]) s=(ZbM l s).or (if s.toList=k.toList then some v else none):=by
 unfold ZbM;rw [List.find?_append]
 cases h:l.find? fun p=>s.toList==p.1.toList with
 | some p=>simp
 | none =>
  by_cases e:s.toList=k.toList
  ·simp [List.find?,e]
  ·have e2:(s.toList==k.toList)=false:=beq_eq_false_iff_ne.2 e;simp only [List.find?,e2,Option.or,if_neg e,Option.map_none]
def Memo (g:Sgn) (l:List (ByteArray × Value)):Prop:=∀ u,ZaH g u->∀ v,ZbM l (keyS u)=some v->v=.int .i64 (sortsTm g u:Nat)
def Grew (g:Sgn) (n:Nat) (l l':List (ByteArray × Value)):Prop:=∀ u,ZaH g u->n < sizeTm u->ZbM l (keyS u)=none->ZbM l' (keyS u)=none
theorem Grew.refl {g:Sgn} {n:Nat} {l:List (ByteArray × Value)}:Grew g n l l:=fun _ _ _ h=>h
theorem Grew.trans {g:Sgn} {n:Nat} {l l' l'':List (ByteArray × Value)} (h:Grew g n l l') (h':Grew g n l' l''):Grew g n l l'':=fun u hu hs h0=>h' u hu hs (h u hu hs h0)
theorem Grew.mono {g:Sgn} {n m:Nat} {l l':List (ByteArray × Value)} (h:Grew g n l l') (hn:n<=m):Grew g m l l':=fun u hu hs h0=>h u hu om h0
theorem Memo.nil {g:Sgn}:Memo g []:=fun u _ v h=>by simp [ZbM] at h
theorem Memo.snoc {g:Sgn} (hg:SgnOk g) {l:List (ByteArray × Value)} (h:Memo g l) {t:Tm} (ht:ZaH g t):Memo g (l++[(keyS t,.int .i64 (sortsTm g t:Nat))]):=by
 intro u hu v hv;rw [ZlP] at hv
 cases hl:ZbM l (keyS u) with
 | some x =>
  rw [hl] at hv;simp only [Option.some_or,Taq] at hv;subst hv;exact h u hu _ hl
 | none =>
  rw [hl,Option.none_or] at hv;by_cases e:(keyS u).toList=(keyS t).toList
  ·rw [if_pos e] at hv;obtain rfl:=Zpo hg hu ht e;simpa using hv.symm
  ·rw [if_neg e] at hv;cases hv
theorem Grew.snoc {g:Sgn} (hg:SgnOk g) {l:List (ByteArray × Value)} {t:Tm} (ht:ZaH g t) {v:Value}:Grew g (sizeTm t) l (l++[(keyS t,v)]):=by
 intro u hu hs h0;rw [ZlP,h0,Option.none_or,if_neg];intro e;obtain rfl:=Zpo hg hu ht e;omega
section
variable {e:Env} {K:St->Prop} {ds:List (Option Nat)} {os:List Oper} {s:List (Nat × A)} {m:List (Nat × Bk)}
theorem gLo {d t ty:Nat} {p:String} {ed:Array Edge} {x y:Operand} {b:Nat} {l:List (ByteArray × Value)} {k:ByteArray} {kt el:TypeId} {z v:Value} {f:Bool} (κ:Nat) (ht:e.P.underlying t=some (.map kt el)) (hk:e.P.underlying kt=some .string) (hz:∀ w,(zeroValue el).run e.P w=.ok z w) (hv:(ZbM l k).getD z=v) (hf:(ZbM l k).isSome=f)
  (hK:Runs e ds 0 os ⟨(d,.tup [.one (.lit v),.one (.lit (.bool f))])::s,m⟩ K) (hx:evA s x=.d (.one (.lit (.map (some b)))):=by exact sfx) (hy:evA s y=.d (.one (.lit (.string k))):=by exact sfx) (hm:gm m κ=some (mapB b l):=by exact snx):Runs e ds 0 (⟨some d,.lookup t x y true,ty,p,ed,none⟩::os) ⟨s,m⟩ K :=
 Zf7 rfl (ZmS rfl ht hk hz hx hy hm (α:=.tup [.one (.lit v),.one (.lit (.bool f))]) (fun w S L=>by
  rw [hv,hf];exact ⟨[v,.bool f],rfl,by simp [Zav,DRel,Rep]⟩) hK)
theorem Zgi:e0.P.underlying 94=some (.map 9 3):=by kernel_rfl
theorem Zw0:∀ w,(zeroValue 3).run e0.P w=.ok (.int .i64 0) w:=fun w=>by kernel_rfl
end
end Go.Proofs.YtmdkimnlbaahbaaGreatDoor
namespace Go.Proofs.YtmdkimnlbaahbaaGreatDoor
open Go.RowKit
theorem ZfQ {e:Env} {f:FuncId} {a b:D} {rows:List (List C)} {r:List D} (h:Con e f [a,b,.one (.sl rows)] r):Con e f [a,b,.clip rows] r :=
 ⟨h.1,fun w S vs hS hE hG hv=>h.2 w S vs hS hE hG (by
  match vs,hv with
  | [x,y,z],hv=>exact ⟨hv.1,hv.2.1,hv.2.2.1.1,trivial⟩)⟩
def FitN (d:Dcl) (sets:List Nat) (n:Nat):Prop:=∀ (i:Nat) k s,i < n->d.args[i]?=some k->sets[i]?=some s->s.testBit k.toNat=true
theorem FitN.zero {d:Dcl} {sets:List Nat}:FitN d sets 0:=fun i k s h=>absurd h (Nat.not_lt_zero i)
theorem FitN.succ {d:Dcl} {sets:List Nat} {n:Nat} {k:Int} {s:Nat} (hk:d.args[n]?=some k) (hs:sets[n]?=some s):FitN d sets (n+1) ↔ FitN d sets n∧s.testBit k.toNat=true:=by
 constructor
 ·exact fun h=>⟨fun i k s hi=>h i k s om,h n k s om hk hs⟩
 ·rintro ⟨h1,h2⟩ i k' s' hi hk' hs';by_cases e:i=n
  ·subst e;rw [hk] at hk';rw [hs] at hs';injection hk' with hk'
   injection hs' with hs'
   subst hk' hs';exact h2
  ·exact h1 i k' s' om hk' hs'
theorem FitN.full {d:Dcl} {sets:List Nat}:FitN d sets d.args.length ↔ ∀ (i:Nat) k s,d.args[i]?=some k->sets[i]?=some s->s.testBit k.toNat=true :=
 ⟨fun h i k s hk hs=>h i k s (Tad.1 hk).1 hk hs,fun h i k s _ hk hs=>h i k s hk hs⟩
def GvB (g:Sgn) (P:Dcl->Prop) (ds:List Dcl) (b:Nat):Prop:=∃ d∈ds,P d∧(upk g d.res).testBit b=true
theorem ZAQ {g:Sgn} {P:Dcl->Prop} {N:Nat}:ofB (GvB g P []) N=0:=ZgF fun b _ h=>by
 obtain ⟨d,hd,_⟩:=h
 cases hd
theorem ZBw {g:Sgn} {P:Dcl->Prop} {N:Nat} {ds:List Dcl} {d:Dcl} (h:P d) (hu:upk g d.res < 2 ^ N):ofB (GvB g P (ds++[d])) N=ofB (GvB g P ds) N ||| upk g d.res:=by
 rw [<- ZgG hu,ZfO];refine ZaX fun b _=>?_;constructor
 ·rintro ⟨x,hx,h1,h2⟩;rcases Tbh.1 hx with hx | hx
  ·exact .inl ⟨x,hx,h1,h2⟩
  ·rw [Tbj.1 hx] at h2;exact .inr h2
 ·rintro (⟨x,hx,h1,h2⟩ | h2)
  ·exact ⟨x,List.mem_append_left _ hx,h1,h2⟩
  ·exact ⟨d,List.mem_append_right _ (Tbj.2 rfl),h,h2⟩
theorem ZBW {g:Sgn} {P:Dcl->Prop} {N:Nat} {ds:List Dcl} {d:Dcl} (h:¬ P d):ofB (GvB g P (ds++[d])) N=ofB (GvB g P ds) N:=by
 refine ZaX fun b _=>?_;constructor
 ·rintro ⟨x,hx,h1,h2⟩;rcases Tbh.1 hx with hx | hx
  ·exact ⟨x,hx,h1,h2⟩
  ·rw [Tbj.1 hx] at h1;exact absurd h1 h
 ·rintro ⟨x,hx,h1,h2⟩;exact ⟨x,List.mem_append_left _ hx,h1,h2⟩
theorem ZBx {g:Sgn} {o:Opr} {sets:List Nat} {N:Nat}:ofB (GvB g (fun d=>FitN d sets d.args.length∨(o.comm=true∧FitN d sets.reverse d.args.length)) o.decls) N=ofB (AnyB g o sets) N:=by
 refine ZaX fun b _=>?_;unfold AnyB Zdg;constructor
 ·rintro ⟨d,hd,h1,h2⟩;rcases h1 with h1 | ⟨h0,h1⟩
  ·exact .inl ⟨d,hd,FitN.full.1 h1,h2⟩
  ·exact .inr ⟨h0,d,hd,FitN.full.1 h1,h2⟩
 ·rintro (⟨d,hd,h1,h2⟩ | ⟨h0,d,hd,h1,h2⟩)
  ·exact ⟨d,hd,.inl (FitN.full.2 h1),h2⟩
  ·exact ⟨d,hd,.inr ⟨h0,FitN.full.2 h1⟩,h2⟩
theorem ZbE {v N:Nat} (h:v < 2 ^ N) (hN:N<=8):v < 4611686018427387904:=by
 have:2 ^ N<=2 ^ 8:=Tbs om hN;omega
section
variable {g:Sgn} {mc:C}
open Classical in
theorem Zho (hg:SgnOk g) {op:Int} {o:Opr} (h0:0<=op) (ho:g.ops[op.toNat]?=some o) (sets:List Nat) (hlen:∀ d∈o.decls,d.args.length=sets.length) (hsl:sets.length<=3) (hs:∀ s∈sets,s < 2 ^ g.sorts.names.length):Con e0 96 [.one (.ptr (encX g mc)),.one (.lit (.int .i64 op)),.one (.sl (nR sets))] [.one (.lit (.int .i64 ((ofB (AnyB g o sets) g.sorts.names.length:Nat):Int)))]:=by
 have hN:=hg.sorts.n8;have hD:=hg.decls o (Tac ho);have hdl:o.decls.length<=4:=hD.len4;rw [<- ZBx];generalize hPd:(fun d=>FitN d sets d.args.length∨(o.comm=true∧FitN d sets.reverse d.args.length))=P;have z0:ofB (GvB g P []) g.sorts.names.length=0:=ZAQ;have z1:((ofB (GvB g P []) g.sorts.names.length:Nat):Int)=0:=by rw [z0];rfl
 have hUl:(nR (up g.sorts)).length=g.sorts.names.length:=by rw [ZaR,ZoU hg.sorts]
 refine gI (ts:=[.slot 6]) 1180591620846512012743 Tryz.func96 ?_;refine fG (aj5 @Zbb @h0 @ho @Zag @tmz) ?_;have F:=@tmz;refine gL (ι:=Nat × Nat) [8,10,11,12,13,14,26,27,33,34,35,36,70] [] (fun x=>[(26,A.d (.one (.lit (.int .i64 x.1)))),(8,A.d (.one (.lit (.int .i64 x.2))))]) (fun x=>[]) (fun x=>x.1<=o.decls.length∧x.2=ofB (GvB g P (o.decls.take x.1)) g.sorts.names.length) (fun x=>o.decls.length - x.1) ((0,0)) (⟨Taj _,z0.symm⟩) (fun x hx=>?_);clear F
 obtain ⟨i,out⟩:=x;obtain ⟨hi,hout⟩:=hx;simp only at hi hout;subst hout;dsimp only;have hob:ofB (GvB g P (o.decls.take i)) g.sorts.names.length < 2 ^ g.sorts.names.length:=Zb1 _ _;have hob62:=ZbE hob hN;by_cases hlt:i < o.decls.length;rotate_left
 ·obtain rfl:i=o.decls.length:=by omega
  have q1:=lF o.decls.length o.decls.length;rw [Tap];exact fD (ai @q1 @tmz)
 obtain ⟨d,hdi⟩:∃ d,o.decls[i]?=some d:=⟨_,Taa hlt⟩;have hdm:=Tac hdi;have hdl2:=hlen d hdm;obtain ⟨f,hf,_⟩:=hg.first ho;have hdo:=hD.all f hf d hdm;have q1:=lT i o.decls.length;have hw1:=Zat (k:=i) om;have hsnoc:o.decls.take (i+1)=o.decls.take i++[d]:=by simp [List.take_add_one,hdi]
 refine fN 6 (aj3 @q1 @hdi @tmz) ?_;refine Zao 4 (by decide +kernel) ?_;intro ds hds;simp only [List.map] at hds;subst hds;have F:=ai @Zag @tmz;refine gP 2 ?_;clear F;refine (have F:=tmz;gAq ?_);refine (have F:=tmz;gAq ?_);refine fR @tmz ?_;refine fG (ai @ZaN @tmz) ?_;have F:=@tmz;refine gL (ι:=Nat × Bool × Bool) [11,12,13,14,35,36] [] (fun y=>[(35,A.d (.one (.lit (.int .i64 y.1)))),(11,A.d (.one (.lit (.bool y.2.1)))),(12,A.d (.one (.lit (.bool y.2.2))))]) (fun y=>[]) (fun y=>y.1<=d.args.length∧y.2.1=decide (FitN d sets y.1)∧y.2.2=decide (o.comm=true∧FitN d sets.reverse y.1)) (fun y=>d.args.length - y.1) ((0,true,o.comm)) (⟨Taj _,(decide_eq_true FitN.zero).symm,by cases o.comm <;> simp [FitN.zero]⟩) (fun y hy=>?_);clear F
 obtain ⟨j,b1,b2⟩:=y;obtain ⟨hj,hb1,hb2⟩:=hy;simp only at hj hb1 hb2;dsimp only;by_cases hjl:j < d.args.length
 ·obtain ⟨k,hk⟩:∃ k,d.args[j]?=some k:=⟨_,Taa hjl⟩;have hkr:=hdo.args k (Tac hk);obtain ⟨kn,rfl⟩:∃ kn:Nat,k=kn:=⟨k.toNat,om⟩;obtain ⟨s,hsj⟩:∃ s,sets[j]?=some s:=⟨_,Taa om⟩;obtain ⟨s',hsj'⟩:∃ s,sets[sets.length - 1 - j]?=some s:=⟨_,Taa om⟩;have hrv:sets.reverse[j]?=some s':=by rw [List.getElem?_reverse om];exact hsj'
  have b62:=ZbE (hs s (Tac hsj)) hN;have b62':=ZbE (hs s' (Tac hsj')) hN;have q2:=lT j d.args.length;have hwj:=Zat (k:=j) om;have r1:=ZaQ hsj;have r2:=ZaQ hsj';have rl:=ZaR (l:=sets);have rr:=ZaL (l:=sets);have h1:=Zf6 (k:=kn) om;have h2:=Zle (x:=s) (k:=kn) b62 om;have h3:=Zle (x:=s') (k:=kn) b62' om;have w1:IntKind.i64.wrap ((sets.length:Int) - 1)=((sets.length - 1:Nat):Int):=ZaJ om om om;have w2:IntKind.i64.wrap (((sets.length - 1:Nat):Int) - (j:Int))=((sets.length - 1 - j:Nat):Int):=ZaJ om om om
  have i1:(j < sets.length)=True:=eq_true om;have i2:(sets.length - 1 - j < sets.length)=True:=eq_true om;have hf1:=FitN.succ (n:=j) hk hsj;have hf2:=FitN.succ (sets:=sets.reverse) (n:=j) hk hrv;rw [show (kn:Int).toNat=kn from rfl] at hf1 hf2;refine fN 10 (aj4 @q2 @hk @Zaz @tmz) ?_;refine gM (ι:=Bool) [11] [] (fun b=>[(11,A.d (.one (.lit (.bool b))))]) (fun b=>[]) (fun b=>b=decide (FitN d sets (j+1))) ?_ (fun b hb=>Exists.intro _ (ai (Wk.refl _) ?_))
  ·cases b1 with
   | false =>
    have e:false=decide (FitN d sets (j+1)):=(decide_eq_false fun h=>by
     have:=hf1.1 h;rw [decide_eq_true this.1] at hb1
     cases hb1).symm
    have F:=@tmz;refine gG ?_;exact ⟨false,e,gw,gw⟩
   | true =>
    have hb1':=of_decide_eq_true hb1.symm
    cases ht:tbit s kn with
    | false =>
     rw [ht] at h2;have e:false=decide (FitN d sets (j+1)):=(decide_eq_false fun h=>by
      have:=(hf1.1 h).2;rw [show s.testBit kn=false from ht] at this
      cases this).symm
     have F:=aj8 @r1 @rl @rr @h1 @h2 @i1 @Zar @tmz;refine gG ?_;exact ⟨false,e,gw,gw⟩
    | true =>
     rw [ht] at h2;have e:true=decide (FitN d sets (j+1)):=(decide_eq_true (hf1.2 ⟨hb1',ht⟩)).symm;have F:=aj8 @r1 @rl @rr @h1 @h2 @i1 @Zar @tmz;refine gG ?_;exact ⟨true,e,gw,gw⟩
  clear hb1;refine fN 11 @tmz ?_;refine gM (ι:=Bool) [12] [] (fun c=>[(12,A.d (.one (.lit (.bool c))))]) (fun c=>[]) (fun c=>c=decide (o.comm=true∧FitN d sets.reverse (j+1))) ?_ (fun c hc=>Exists.intro _ (ai (Wk.refl _) ?_))
  ·cases b2 with
   | false =>
    have e:false=decide (o.comm=true∧FitN d sets.reverse (j+1)):=(decide_eq_false fun h=>by
     have:=hf2.1 h.2;rw [decide_eq_true ⟨h.1,this.1⟩] at hb2
     cases hb2).symm
    have F:=@tmz;refine gG ?_;exact ⟨false,e,gw,gw⟩
   | true =>
    have hb2':=of_decide_eq_true hb2.symm
    cases ht:tbit s' kn with
    | false =>
     rw [ht] at h3;have e:false=decide (o.comm=true∧FitN d sets.reverse (j+1)):=(decide_eq_false fun h=>by
      have:=(hf2.1 h.2).2;rw [show s'.testBit kn=false from ht] at this
      cases this).symm
     have F:=aj10 @r2 @rl @rr @w1 @w2 @h1 @h3 @i2 @Zar @tmz;refine gG ?_;exact ⟨false,e,gw,gw⟩
    | true =>
     rw [ht] at h3;have e:true=decide (o.comm=true∧FitN d sets.reverse (j+1)):=(decide_eq_true ⟨hb2'.1,hf2.2 ⟨hb2'.2,ht⟩⟩).symm;have F:=aj10 @r2 @rl @rr @w1 @w2 @h1 @h3 @i2 @Zar @tmz;refine gG ?_;exact ⟨true,e,gw,gw⟩
  have F:=ai @hwj @tmz;refine gG ?_;exact ⟨(j+1,b,c),⟨hjl,hb,hc⟩,gw,gw,om⟩
 ·obtain rfl:j=d.args.length:=by omega
  have q2:=lF d.args.length d.args.length;have hPi:P d ↔ FitN d sets d.args.length∨(o.comm=true∧FitN d sets.reverse d.args.length):=by rw [<- hPd]
  have hres:=ZhH hg.sorts hdo.res.1 hdo.res.2;have ru:=ZmM hres.1;have rr:=ZaL (l:=up g.sorts);have ho2:=Zds hob62 (ZbE hres.2 hN);have hr0:=hdo.res.1;have hr1:=hdo.res.2;have hrl:(d.res.toNat < g.sorts.names.length)=True:=eq_true om;by_cases hp:P d
  ·have hor:(b1 || b2)=true:=by
    rcases hPi.1 hp with h | h
    ·rw [hb1,decide_eq_true h];rfl
    ·rw [hb2,decide_eq_true h,Bool.or_true]
   have e:=ZBw (N:=g.sorts.names.length) (ds:=o.decls.take i) hp hres.2;rw [<- hsnoc] at e;rw [<- e] at ho2
   cases b1 with
   | true => 
    have F:=aj8 @q2 @Zbb @ru @Zaz @hr0 @ho2 @hw1 @tmz;refine gG ?_;exact ⟨(i+1,ofB (GvB g P (o.decls.take (i+1))) g.sorts.names.length),⟨hlt,rfl⟩,gw,gw,om⟩
   | false =>
    rw [Bool.false_or] at hor;subst hor;have F:=aj8 @q2 @Zbb @ru @Zaz @hr0 @ho2 @hw1 @tmz;refine gG ?_;exact ⟨(i+1,ofB (GvB g P (o.decls.take (i+1))) g.sorts.names.length),⟨hlt,rfl⟩,gw,gw,om⟩
  ·have h1:b1=false:=by rw [hb1];exact decide_eq_false fun h=>hp (hPi.2 (.inl h))
   have h2:b2=false:=by rw [hb2];exact decide_eq_false fun h=>hp (hPi.2 (.inr h))
   subst h1 h2;have e:=ZBW (g:=g) (N:=g.sorts.names.length) (ds:=o.decls.take i) hp;rw [<- hsnoc] at e;rw [<- e];have F:=aj3 @q2 @hw1 @tmz;refine gG ?_;exact ⟨(i+1,ofB (GvB g P (o.decls.take (i+1))) g.sorts.names.length),⟨hlt,rfl⟩,gw,gw,om⟩
def ClB (g:Sgn) (v n b:Nat):Prop:=∃ k,k < n∧v.testBit k=true∧((up g.sorts).getD k 0).testBit b=true
theorem ZAR {v n N:Nat} (h:tbit v n=true) (hu:(up g.sorts).getD n 0 < 2 ^ N):ofB (ClB g v (n+1)) N=ofB (ClB g v n) N ||| (up g.sorts).getD n 0:=by
 rw [<- ZgG hu,ZfO];refine ZaX fun b _=>?_;constructor
 ·rintro ⟨k,h1,h2,h3⟩;by_cases e:k=n
  ·subst e;exact .inr h3
  ·exact .inl ⟨k,om,h2,h3⟩
 ·rintro (⟨k,h1,h2,h3⟩ | h3)
  ·exact ⟨k,om,h2,h3⟩
  ·exact ⟨n,om,h,h3⟩
theorem ZAS {v n N:Nat} (h:tbit v n=false):ofB (ClB g v (n+1)) N=ofB (ClB g v n) N:=by
 refine ZaX fun b _=>?_;constructor
 ·rintro ⟨k,h1,h2,h3⟩;by_cases e:k=n
  ·subst e;rw [show v.testBit k=false from h] at h2
   cases h2
  ·exact ⟨k,om,h2,h3⟩
 ·rintro ⟨k,h1,h2,h3⟩;exact ⟨k,om,h2,h3⟩
theorem ZAT {v N:Nat}:ofB (ClB g v 0) N=0:=ZgF fun b _ h=>by
 obtain ⟨k,h1,_⟩:=h;omega
theorem Zqw (hg:SgnOk g) {v:Nat} (hv:v < 2 ^ g.sorts.names.length):Con e0 147 [.one (.sl (nR (up g.sorts))),.one (.lit (.int .i64 (v:Int)))] [.one (.lit (.int .i64 ((ofB (ClB g v g.sorts.names.length) g.sorts.names.length:Nat):Int)))]:=by
 have hN:=hg.sorts.n8;have hv62:=ZbE hv hN;have hUl:(nR (up g.sorts)).length=g.sorts.names.length:=by rw [ZaR,ZoU hg.sorts]
 have z0:ofB (ClB g v 0) g.sorts.names.length=0:=ZAT;have rr:=ZaL (l:=up g.sorts);refine gI (ts:=[.slot 4]) 33907 Tryz.func147 ?_;refine fG @tmz ?_;have F:=@tmz;refine gL (ι:=Nat × Nat) [5,6,10,15] [] (fun x=>[(6,A.d (.one (.lit (.int .i64 x.1)))),(5,A.d (.one (.lit (.int .i64 x.2))))]) (fun x=>[]) (fun x=>x.1<=g.sorts.names.length∧x.2=ofB (ClB g v x.1) g.sorts.names.length) (fun x=>g.sorts.names.length - x.1) ((0,0)) (⟨Taj _,z0.symm⟩) (fun x hx=>?_);clear F
 obtain ⟨i,out⟩:=x;obtain ⟨hi,hout⟩:=hx;simp only at hi hout;subst hout;dsimp only;by_cases hlt:i < g.sorts.names.length;rotate_left
 ·obtain rfl:i=g.sorts.names.length:=by omega
  have q1:=lF g.sorts.names.length g.sorts.names.length;exact fD (aj3 @q1 @hUl @tmz)
 have q1:=lT i g.sorts.names.length;have hw1:=Zat (k:=i) om;have hu:=(Zft (SortsOk.subsIn hg.sorts.subs)).get hlt;have ru:=ZaQ hu.1;have ho2:=Zds (ZbE (Zb1 (ClB g v i) g.sorts.names.length) hN) (ZbE hu.2 hN);refine fN 5 (aj3 @q1 @hUl @tmz) ?_;refine gB ?_;refine fC @tmz (ZeP (a:=v) (k:=i) hv62 om) ?_
 cases ht:tbit v i with
 | false =>
  have e:=ZAS (g:=g) (N:=g.sorts.names.length) ht;rw [<- e];refine fR @tmz ?_;have F:=ai @hw1 @tmz;refine gG ?_;exact ⟨(i+1,ofB (ClB g v (i+1)) g.sorts.names.length),⟨hlt,rfl⟩,gw,gw,om⟩
 | true =>
  have e:=ZAR ht hu.2;rw [<- e] at ho2;refine fR @tmz ?_;have F:=aj8 @ru @rr @hUl @hlt @ho2 @hw1 @Zar @tmz;refine gG ?_;exact ⟨(i+1,ofB (ClB g v (i+1)) g.sorts.names.length),⟨hlt,rfl⟩,gw,gw,om⟩
def RsB (P:Dcl->Prop) (ds:List Dcl) (b:Nat):Prop:=∃ d∈ds,P d∧d.res.toNat=b
theorem ZAU {P:Dcl->Prop} {N:Nat}:ofB (RsB P []) N=0:=ZgF fun b _ h=>by
 obtain ⟨d,hd,_⟩:=h
 cases hd
theorem ZBy {P:Dcl->Prop} {N:Nat} {ds:List Dcl} {d:Dcl} (h:P d) (hu:d.res.toNat < N):ofB (RsB P (ds++[d])) N=ofB (RsB P ds) N ||| 2 ^ d.res.toNat:=by
 have h2:2 ^ d.res.toNat < 2 ^ N:=Nat.pow_lt_pow_right om hu;rw [<- ZgG h2,ZfO];refine ZaX fun b _=>?_;rw [Zsf];constructor
 ·rintro ⟨x,hx,h1,h2⟩;rcases Tbh.1 hx with hx | hx
  ·exact .inl ⟨x,hx,h1,h2⟩
  ·rw [Tbj.1 hx] at h2;exact .inr h2
 ·rintro (⟨x,hx,h1,h2⟩ | h2)
  ·exact ⟨x,List.mem_append_left _ hx,h1,h2⟩
  ·exact ⟨d,List.mem_append_right _ (Tbj.2 rfl),h,h2⟩
theorem ZBX {P:Dcl->Prop} {N:Nat} {ds:List Dcl} {d:Dcl} (h:¬ P d):ofB (RsB P (ds++[d])) N=ofB (RsB P ds) N:=by
 refine ZaX fun b _=>?_;constructor
 ·rintro ⟨x,hx,h1,h2⟩;rcases Tbh.1 hx with hx | hx
  ·exact ⟨x,hx,h1,h2⟩
  ·rw [Tbj.1 hx] at h1;exact absurd h1 h
 ·rintro ⟨x,hx,h1,h2⟩;exact ⟨x,List.mem_append_left _ hx,h1,h2⟩
theorem ZAV (hg:SgnOk g) {o:Opr} (hD:∀ d∈o.decls,0<=d.res∧d.res < g.sorts.names.length) (sets:List Nat):ofB (ClB g (ofB (RsB (fun d=>FitN d sets d.args.length) o.decls) g.sorts.names.length) g.sorts.names.length) g.sorts.names.length=ofB (Zdg g o sets) g.sorts.names.length:=by
 refine ZaX fun b _=>?_;unfold ClB Zdg;constructor
 ·rintro ⟨k,h1,h2,h3⟩;obtain ⟨h4,d,hd,h5,h6⟩:=(Zc8 _ _ _).1 h2;refine ⟨d,hd,FitN.full.1 h5,?_⟩;unfold upk;rw [h6];exact h3
 ·rintro ⟨d,hd,h1,h2⟩;have hr:=hD d hd;exact ⟨d.res.toNat,om,(Zc8 _ _ _).2 ⟨om,d,hd,FitN.full.2 h1,rfl⟩,h2⟩
open Classical in
theorem Zif (hg:SgnOk g) {o:Opr} (hm:o∈g.ops) (sets:List Nat) (hlen:∀ d∈o.decls,d.args.length=sets.length) (hsl:sets.length<=3) (hs:∀ s∈sets,s < 2 ^ g.sorts.names.length):Con e0 140 [.one (.sl (nR (up g.sorts))),.one (.sl (o.decls.map ZcM)),.one (.sl (nR sets))] [.one (.lit (.int .i64 ((ofB (Zdg g o sets) g.sorts.names.length:Nat):Int)))]:=by
 have hN:=hg.sorts.n8;have hD:=hg.decls o hm;have hdl:o.decls.length<=4:=hD.len4;obtain ⟨f,hf⟩:∃ f,o.decls[0]?=some f:=⟨_,Taa (by have:=hD.len1;omega)⟩;have hres:=fun d hd=>(hD.all f hf d hd).res;rw [<- ZAV hg hres sets];generalize hPd:(fun d=>FitN d sets d.args.length)=P;have z0:ofB (RsB P []) g.sorts.names.length=0:=ZAU;have cC:=Zqw hg (Zb1 (RsB P o.decls) g.sorts.names.length);refine gI (ts:=[.slot 6]) 549756880839 Tryz.func140 ?_
 refine fG @tmz ?_;have F:=@tmz;refine gL (ι:=Nat × Nat) [7,8,9,10,14,20,39] [] (fun x=>[(8,A.d (.one (.lit (.int .i64 x.1)))),(7,A.d (.one (.lit (.int .i64 x.2))))]) (fun x=>[]) (fun x=>x.1<=o.decls.length∧x.2=ofB (RsB P (o.decls.take x.1)) g.sorts.names.length) (fun x=>o.decls.length - x.1) ((0,0)) (⟨Taj _,z0.symm⟩) (fun x hx=>?_);clear F;obtain ⟨i,out⟩:=x;obtain ⟨hi,hout⟩:=hx;simp only at hi hout
 subst hout;dsimp only;by_cases hlt:i < o.decls.length;rotate_left
 ·obtain rfl:i=o.decls.length:=by omega
  have q1:=lF o.decls.length o.decls.length;rw [Tap];refine fN 12 (ai @q1 @tmz) ?_;refine gB ?_;refine fC @tmz (cC) ?_;refine fR @tmz ?_;exact fD @tmz
 obtain ⟨d,hdi⟩:∃ d,o.decls[i]?=some d:=⟨_,Taa hlt⟩;have hdm:=Tac hdi;have hdl2:=hlen d hdm;have hdo:=hD.all f hf d hdm;have q1:=lT i o.decls.length;have hw1:=Zat (k:=i) om;have hsnoc:o.decls.take (i+1)=o.decls.take i++[d]:=by simp [List.take_add_one,hdi]
 have rl:=ZaR (l:=sets);have rr:=ZaL (l:=sets);refine fG (ai @q1 @tmz) ?_;have F:=@tmz;refine gL (ι:=Nat × Bool) [9,10,20] [] (fun y=>[(10,A.d (.one (.lit (.int .i64 y.1)))),(9,A.d (.one (.lit (.bool y.2))))]) (fun y=>[]) (fun y=>y.1<=sets.length∧y.2=decide (FitN d sets y.1)) (fun y=>sets.length - y.1) ((0,true)) (⟨Taj _,(decide_eq_true FitN.zero).symm⟩) (fun y hy=>?_);clear F;obtain ⟨j,b1⟩:=y;obtain ⟨hj,hb1⟩:=hy
 simp only at hj hb1;dsimp only;by_cases hjl:j < sets.length
 ·obtain ⟨k,hk⟩:∃ k,d.args[j]?=some k:=⟨_,Taa om⟩;have hkr:=hdo.args k (Tac hk);obtain ⟨kn,rfl⟩:∃ kn:Nat,k=kn:=⟨k.toNat,om⟩;obtain ⟨s,hsj⟩:∃ s,sets[j]?=some s:=⟨_,Taa om⟩;have b62:=ZbE (hs s (Tac hsj)) hN;have q2:=lT j sets.length;have hwj:=Zat (k:=j) om;have r1:=ZaQ hsj;have i1:(j < sets.length)=True:=eq_true om;have i3:(j < d.args.length)=True:=eq_true om;have hf1:=FitN.succ (n:=j) hk hsj;rw [show (kn:Int).toNat=kn from rfl] at hf1
  refine fN 9 (aj3 @q2 @rl @tmz) ?_;refine gM (ι:=Bool) [9] [] (fun b=>[(9,A.d (.one (.lit (.bool b))))]) (fun b=>[]) (fun b=>b=decide (FitN d sets (j+1))) ?_ (fun b hb=>Exists.intro _ (ai (Wk.refl _) ?_))
  ·cases b1 with
   | false =>
    have e:false=decide (FitN d sets (j+1)):=(decide_eq_false fun h=>by
     have:=hf1.1 h;rw [decide_eq_true this.1] at hb1
     cases hb1).symm
    have F:=@tmz;refine gG ?_;exact ⟨false,e,gw,gw⟩
   | true =>
    have hb1':=of_decide_eq_true hb1.symm;have e:tbit s kn=decide (FitN d sets (j+1)):=by
     cases ht:tbit s kn with
     | false=>exact (decide_eq_false fun h=>by
       have:=(hf1.1 h).2;rw [show s.testBit kn=false from ht] at this
       cases this).symm
     | true=>exact (decide_eq_true (hf1.2 ⟨hb1',ht⟩)).symm
    refine gB ?_;refine fC (aj11 @r1 @rl @rr @i1 @i3 @hdi @hk @ZaN @Zaz @Zar @tmz) (ZeP (a:=s) (k:=kn) b62 om) ?_;refine fR @tmz ?_;have F:=@tmz;refine gG ?_;exact ⟨tbit s kn,e,gw,gw⟩
  have F:=ai @hwj @tmz;refine gG ?_;exact ⟨(j+1,b),⟨hjl,hb⟩,gw,gw,om⟩
 ·obtain rfl:j=sets.length:=by omega
  have q2:=lF sets.length sets.length;have hPi:P d ↔ FitN d sets sets.length:=by rw [<- hPd,<- hdl2]
  have hr0:=hdo.res.1;have hr1:=hdo.res.2;obtain ⟨rn,hrn⟩:∃ rn:Nat,d.res=rn:=⟨d.res.toNat,om⟩;have cB:=Zg0 (k:=rn) om;rw [<- hrn] at cB;have ho2:=Zds (ZbE (Zb1 (RsB P (o.decls.take i)) g.sorts.names.length) hN) (ZbE (v:=2 ^ rn) (N:=g.sorts.names.length) (Nat.pow_lt_pow_right om om) hN)
  cases b1 with
  | true =>
   have hp:P d:=hPi.2 (of_decide_eq_true hb1.symm);have e:=ZBy (N:=g.sorts.names.length) (ds:=o.decls.take i) hp om;rw [<- hsnoc,show d.res.toNat=rn by omega] at e;rw [<- e] at ho2;refine fN 11 (aj3 @q2 @rl @tmz) ?_;refine gB ?_;refine fC (aj3 @hdi @ZaN @tmz) (cB) ?_;refine fR (ai @ho2 @tmz) ?_;have F:=ai @hw1 @tmz;refine gG ?_;exact ⟨(i+1,ofB (RsB P (o.decls.take (i+1))) g.sorts.names.length),⟨hlt,rfl⟩,gw,gw,om⟩
  | false =>
   have hp:¬ P d:=fun h=>by rw [decide_eq_true (hPi.1 h)] at hb1;cases hb1
   have e:=ZBX (N:=g.sorts.names.length) (ds:=o.decls.take i) hp;rw [<- hsnoc] at e;rw [<- e];have F:=aj4 @q2 @rl @hw1 @tmz;refine gG ?_;exact ⟨(i+1,ofB (RsB P (o.decls.take (i+1))) g.sorts.names.length),⟨hlt,rfl⟩,gw,gw,om⟩
theorem Zkc (hg:SgnOk g) {op:Int} {o:Opr} (h0:0<=op) (ho:g.ops[op.toNat]?=some o) (sets:List Nat) (hlen:∀ d∈o.decls,d.args.length=sets.length) (hsl:sets.length<=3) (hs:∀ s∈sets,s < 2 ^ g.sorts.names.length):Con e0 124 [.agg (Zak g),.one (.lit (.int .i64 op)),.one (.sl (nR sets))] [.one (.lit (.int .i64 ((ofB (Zdg g o sets) g.sorts.names.length:Nat):Int)))]:=by
 have cU:=Zgx hg.sorts.n8 hg.sorts.m16 (SortsOk.subsIn hg.sorts.subs);have cG:=Zif hg (Tac ho) sets hlen hsl hs;rw [Za9] at cU;rw [Zak];refine gI (ts:=[.slot 6]) 79 Tryz.func124 ?_;refine fN 1 @tmz ?_;refine gB ?_;refine fC @tmz (cU) ?_;refine fC (aj4 @h0 @ho @Zag @tmz) (cG) ?_;refine fR @tmz ?_;exact fD @tmz
end
theorem Zpr {a b:Nat} (ha:a < 4611686018427387904) (hb:b < 4611686018427387904):bits .xor .i64 (a:Int) (b:Int)=((a ^^^ b:Nat):Int):=by
 have h:a ^^^ b < 2 ^ 62:=Nat.xor_lt_two_pow om om;have e:(BitVec.ofInt IntKind.i64.bits (a:Int) ^^^ BitVec.ofInt IntKind.i64.bits (b:Int)).toNat=a ^^^ b:=by
  rw [BitVec.toNat_xor];show (BitVec.ofInt 64 (a:Int)).toNat ^^^ (BitVec.ofInt 64 (b:Int)).toNat=_;rw [ZhA om,ZhA om]
 unfold bits;show IntKind.i64.wrap _=_;rw [e];exact wrap_i64 om om
def Eith (R:Nat->Nat->Nat->Prop) (a c b:Nat):Prop:=R a c b∨R c a b
theorem Zyu {R:Nat->Nat->Nat->Prop} {sets:List Nat} {m b:Nat}:BagB (Eith R) sets m b ↔ BagB R sets m b:=by
 constructor
 ·intro h
  induction h with
  | leaf h1 h2=>exact .leaf h1 h2
  | node h1 h2 h3 _ _ h6 i1 i2 =>
   rcases h6 with h6 | h6
   ·exact .node h1 h2 h3 i1 i2 h6
   ·rw [Nat.or_comm];exact .node h2 h1 (by rw [Nat.and_comm];exact h3) i2 i1 h6
 ·intro h
  induction h with
  | leaf h1 h2=>exact .leaf h1 h2
  | node h1 h2 h3 _ _ h6 i1 i2=>exact .node h1 h2 h3 i1 i2 (.inl h6)
theorem Zyv {R:Nat->Nat->Nat->Prop} {s t b:Nat}:Two (Eith R) s t b ↔ Two R s t b∨Two R t s b:=by
 unfold Two Eith;constructor
 ·rintro ⟨a,c,h1,h2,h3 | h3⟩
  ·exact .inl ⟨a,c,h1,h2,h3⟩
  ·exact .inr ⟨c,a,h2,h1,h3⟩
 ·rintro (⟨a,c,h1,h2,h3⟩ | ⟨a,c,h1,h2,h3⟩)
  ·exact ⟨a,c,h1,h2,.inl h3⟩
  ·exact ⟨c,a,h2,h1,.inr h3⟩
noncomputable def bvN (g:Sgn) (R:Nat->Nat->Nat->Prop) (sets:List Nat) (m:Nat):Nat:=ofB (BagB R sets m) g.sorts.names.length
theorem Zyw {g:Sgn} {R:Nat->Nat->Nat->Prop} {sets:List Nat} {m:Nat}:bvN g (Eith R) sets m=bvN g R sets m:=ZaX fun b _=>Zyu
def BagT (g:Sgn) (R:Nat->Nat->Nat->Prop) (sets:List Nat) (M:Nat) (T:List Nat):Prop:=T.length=2 ^ sets.length∧∀ m,1<=m->m < 2 ^ sets.length->(m < M->T[m]?=some (bvN g R sets m))∧(M<=m->T[m]?=some 0)
section
variable {g:Sgn} {R:Nat->Nat->Nat->Prop} {sets:List Nat}
theorem BagT.start:BagT g R sets 1 (List.replicate (2 ^ sets.length) 0):=⟨by simp,fun m h1 h2=>⟨fun h=>om,fun _=>by rw [Tbr,if_pos h2]⟩⟩
theorem BagT.next {M:Nat} {T:List Nat} (h:BagT g R sets M T) (hM:M < 2 ^ sets.length):BagT g R sets (M+1) (T.set M (bvN g R sets M)):=by
 refine ⟨by rw [Taz,h.1],fun m h1 h2=>?_⟩;by_cases e:m=M
 ·subst e;exact ⟨fun _=>Tbn (by rw [h.1];exact h2),fun q=>om⟩
 ·rw [Tbo (Ne.symm e)];exact ⟨fun q=>(h.2 m h1 h2).1 om,fun q=>(h.2 m h1 h2).2 om⟩
theorem BagT.zero {M:Nat} {T:List Nat} (h:BagT g R sets M T) (h1:1<=M) (hM:M < 2 ^ sets.length):T.set M 0=T:=by
 have h2:=(h.2 M h1 hM).2 (Tai _);refine List.ext_getElem? fun q=>?_;by_cases e:q=M
 ·subst e;rw [Tbn (by rw [h.1];exact hM),h2]
 ·rw [Tbo (Ne.symm e)]
theorem Zsw:∀ (q:Nat),(2 ^ q - 1) &&& 2 ^ q=0:=fun q=>by
 refine Nat.eq_of_testBit_eq fun i=>?_;rw [Nat.testBit_and,Nat.testBit_two_pow_sub_one,Nat.testBit_two_pow,Nat.zero_testBit];by_cases h:i < q
 ·simp [h];omega
 ·simp [h]
theorem Zsx {m:Nat} (hm:m≠0) (h:(m - 1) &&& m=0):∃ q,m=2 ^ q:=by
 refine ⟨Nat.log2 m,?_⟩;have h1:=Nat.log2_self_le hm;have h2:m < 2 ^ (Nat.log2 m+1):=(Nat.log2_lt hm).1 (Tan _);refine Classical.byContradiction fun hne=>?_;have h3:(m - 1).testBit (Nat.log2 m)=true:=by
  have:=Tbt (x:=m - 1) (i:=Nat.log2 m)
  cases ht:(m - 1).testBit (Nat.log2 m) with
  | true=>rfl
  | false =>
   have h4:m - 1 < 2 ^ Nat.log2 m:=Nat.lt_pow_two_of_testBit _ fun i hi=>by
    rcases Nat.lt_or_eq_of_le hi with hi | hi
    ·exact Tbt (Tbd (by omega:m - 1 < 2 ^ (Nat.log2 m+1)) (Tbs om hi))
    ·rw [<- hi];exact ht
   omega
 have h5:m.testBit (Nat.log2 m)=true:=by
  cases ht:m.testBit (Nat.log2 m) with
  | true=>rfl
  | false =>
   have h4:m < 2 ^ Nat.log2 m:=Nat.lt_pow_two_of_testBit _ fun i hi=>by
    rcases Nat.lt_or_eq_of_le hi with hi | hi
    ·exact Tbt (Tbd h2 (Tbs om hi))
    ·rw [<- hi];exact ht
   omega
 have h6:=Nat.testBit_and (m - 1) m (Nat.log2 m);rw [h,h3,h5] at h6;simp at h6
end
section
variable {w:World} {S:Nat->Prop} {a:Option Addr} {n cap:Nat} {rows:List (List C)}
def Ze5 (a:Option Addr) (n cap:Nat) (rows:List (List C)) (R:List (List C)):List (List C):=R.map fun r=>r.map (datC a n cap rows)
theorem Zja {R:List (List C)}:(Ze5 a n cap rows R).length=R.length:=by simp [Ze5]
theorem Zts {c:C} (h:Zau c=true):Zau (datC a n cap rows c)=true:=by
 unfold datC;split
 ·split
  ·rfl
  ·exact h
 ·exact h
theorem Zyy {sz:Nat} {R:List (List C)} (h:rowsLen sz R):rowsLen sz (Ze5 a n cap rows R):=fun r hr=>by
 obtain ⟨r',hr',rfl⟩:=Tbi.1 hr;obtain ⟨h1,h2⟩:=h r' hr';refine ⟨by rw [Tay];exact h1,?_⟩;rw [List.all_map,List.all_eq_true];exact fun c hc=>Zts (List.all_eq_true.1 h2 c hc)
theorem Zni (hr:Rep w S (.sl rows) (.slice a n cap)) {b:Nat}:∀ {R:List (List C)} {off:Nat},Zap w S b off R->Zap w S b off (Ze5 a n cap rows R)
 | [],_,h=>h
 | r::R,off,h=>by
  simp only [Ze5,Tbu,Zap,Tay] at h ⊢;exact ⟨Zkl hr h.1,Zni hr h.2⟩
theorem Zyz (hr:Rep w S (.sl rows) (.slice a n cap)) {ety sz:Nat} {R:List (List C)} {v:Value} (h:ZaE w S ety sz R v):ZaE w S ety sz (Ze5 a n cap rows R) v:=by
 obtain ⟨h1,h2,h3⟩:=h;refine ⟨h1,Zyy h2,?_⟩;rcases h3 with ⟨h4,h5⟩ | ⟨g,cap',cur,h4,h5⟩
 ·exact .inl ⟨by rw [h4];rfl,h5⟩
 ·refine .inr ⟨g,cap',cur,by rw [Zja];exact h4,?_⟩;obtain ⟨q1,q2,q3,q4,q5,q6,q7,q8⟩:=h5;exact ⟨q1,q2,q3,q4,by rw [Zja];exact q5,q6,q7,Zni hr q8⟩
end
section
variable {e:Env} {σ:St} {mask:Nat} {Q:PX->St->Prop}
theorem Zw2 (k kb:Nat) (hne:kb≠k) {a:Option Addr} {cap ety sz ety' sz':Nat} {rows R:List (List C)} {o':Option (Option Addr × Nat)} (hm:gm σ.m k=some (.buf (some (a,cap)) ety sz rows)) (hb:gm σ.m kb=some (.buf o' ety' sz' R)) :
  Turn e σ (fun σ'=>σ'=⟨frzS k (.buf (some (a,cap)) ety sz rows) σ.s,(kb,.buf o' ety' sz' (Ze5 a rows.length cap rows R))::remM kb (remM k σ.m)⟩):=by
 intro he U w0 S0 nt ac w ⟨S,L,h⟩;have ho:=h.cls.own k _ hm;have hv:L.v k=.slice a rows.length cap:=ho.1 (a,cap) rfl;have hrep:=ZaE.rep ho.2;rw [hv] at hrep;obtain ⟨S',L',h',hS'⟩:=h.freeze2 he hm;have hr:Rep w S' (.sl rows) (.slice a rows.length cap):=hrep.mono fun b hb=>(hS' b).2 (hb.imp id (fun q=>by show vblk (L.v k)=some b;rw [hv];exact q));have hb':gm (remM k σ.m) kb=some (.buf o' ety' sz' R):=by rw [ZaC,if_neg hne];exact hb
 have hob:=h'.cls.own kb _ hb';exact ⟨_,rfl,S',L',h'.cls.swap hb' (bk':=.buf o' ety' sz' (Ze5 a rows.length cap rows R)) ⟨fun p hp=>by rw [Zja];exact hob.1 p hp,Zyz hr hob.2⟩ (fun g hg=>hg),h'.rel,h'.size,h'.defers,h'.kept⟩
theorem pDb {c:Code} {s s2:List (Nat × A)} {m m2:List (Nat × Bk)} {a:Option Addr} {cap ety sz ety' sz':Nat} {rows R:List (List C)} {o':Option (Option Addr × Nat)} (k kb:Nat) (hne:kb≠k) (hK:pwp e mask c ⟨s2,(kb,.buf o' ety' sz' (Ze5 a rows.length cap rows R))::m2⟩ Q)
  (hm:gm m k=some (.buf (some (a,cap)) ety sz rows):=by exact snv) (hb:gm m kb=some (.buf o' ety' sz' R):=by exact snv) (hs:frzS k (.buf (some (a,cap)) ety sz rows) s=s2:=by exact snv) (hr:remM kb (remM k m)=m2:=by exact snv):pwp e mask c ⟨s,m⟩ Q :=
 Zcc (Zw2 k kb hne hm hb) fun σ' hσ=>by subst hσ;simp only [hs,hr];exact hK
end
section
variable {g:Sgn} {mc:C}
noncomputable def cvN (g:Sgn) (o:Opr) (sets:List Nat) (i j:Nat):Nat:=ofB (ChB (Rel2 g o) sets i j) g.sorts.names.length
noncomputable def chL (g:Sgn) (o:Opr) (sets:List Nat) (r:Nat):List Nat:=(List.range sets.length).map fun k=>if k < r then 0 else cvN g o sets r (k+1)
theorem ZjF {o:Opr} {sets:List Nat} {r:Nat}:(chL g o sets r).length=sets.length:=by simp [chL]
theorem Zsz {o:Opr} {sets:List Nat} {r k:Nat} (h1:r<=k) (h2:k < sets.length):(chL g o sets r)[k]?=some (cvN g o sets r (k+1)):=by
 unfold chL;rw [Tba,List.getElem?_range h2,Option.map_some,if_neg om]
def FilB (g:Sgn) (o:Opr) (sets:List Nat) (p k:Nat) (L:List Nat):Prop:=L.length=sets.length∧∀ j,j < sets.length->L[j]?=some (if j < p then 0 else if j < k then cvN g o sets p (j+1) else 0)
theorem FilB.all {o:Opr} {sets:List Nat} {p:Nat} {L:List Nat} (h:FilB g o sets p sets.length L):L=chL g o sets p:=by
 refine List.ext_getElem? fun j=>?_;by_cases hj:j < sets.length
 ·rw [h.2 j hj];unfold chL;rw [Tba,List.getElem?_range hj,Option.map_some];by_cases h1:j < p
  ·rw [if_pos h1,if_pos h1]
  ·rw [if_neg h1,if_neg h1,if_pos hj]
 ·rw [List.getElem?_eq_none (by rw [h.1];omega),List.getElem?_eq_none (by rw [ZjF];omega)]
theorem FilB.next {o:Opr} {sets:List Nat} {p k:Nat} {L:List Nat} (h:FilB g o sets p k L) (hp:p<=k) (hk:k < sets.length):FilB g o sets p (k+1) (L.set k (cvN g o sets p (k+1))):=by
 refine ⟨by rw [Taz,h.1],fun j hj=>?_⟩;by_cases e:j=k
 ·subst e;rw [Tbn (by rw [h.1];exact hj),if_neg om,if_pos om]
 ·rw [Tbo (Ne.symm e),h.2 j hj];by_cases h1:j < p
  ·rw [if_pos h1,if_pos h1]
  ·rw [if_neg h1,if_neg h1];by_cases h2:j < k
   ·rw [if_pos h2,if_pos om]
   ·rw [if_neg h2,if_neg om]
theorem FilB.zero {o:Opr} {sets:List Nat} {p k:Nat} {L:List Nat} (h:FilB g o sets p k L) (hp:p<=k) (hk:k < sets.length):L.set k 0=L:=by
 have h1:=h.2 k hk;rw [if_neg om,if_neg om] at h1;refine List.ext_getElem? fun j=>?_;by_cases e:j=k
 ·subst e;rw [Tbn (by rw [h.1];exact hk),h1]
 ·rw [Tbo (Ne.symm e)]
theorem FilB.start {o:Opr} {sets:List Nat} {p s:Nat} (hs:sets[p]?=some s) (h:s < 2 ^ g.sorts.names.length):FilB g o sets p (p+1) ((List.replicate sets.length 0).set p s):=by
 have hp:=(Tad.1 hs).1;refine ⟨by simp,fun j hj=>?_⟩;by_cases e:j=p
 ·subst e;rw [Tbn (by simpa using hj),if_neg om,if_pos om];unfold cvN;rw [ZwJ hs h]
 ·rw [Tbo (Ne.symm e),Tbr,if_pos hj];by_cases h1:j < p
  ·rw [if_pos h1]
  ·rw [if_neg h1,if_neg om]
theorem ZAY (hg:SgnOk g) {i:Nat} {o:Opr} (ho:g.ops[i]?=some o) (ha:o.assoc=true) (hc:o.comm=false) {s t N:Nat}:ofB (AnyB g o [s,t]) N=ofB (fun b=>Two (Rel2 g o) s t b) N:=by
 refine ZaX fun b _=>?_;unfold AnyB;rw [ZeH (Opr.deg2 hg ho (.inl ha)),hc];simp
def dRow (d:List Nat):List C:=[.sl (nR d)]
theorem Zw3:∀ d,dRow d=[.sl (nR d)]:=fun _=>rfl
theorem ZBA (n:Nat):(List.replicate n ([]:List Nat)).map dRow=List.replicate n [C.sl []]:=by
 rw [List.map_replicate];rfl
theorem Zw4 (Ds:List (List Nat)):ZaI 1 (Ds.map dRow)=true:=ZcW (e:=dRow) (n:=1) (fun _=>rfl) Ds
theorem ZyA {a:Option Addr} {n cap:Nat} {L:List Nat} {Ds:List (List Nat)} {p:Nat}:Ze5 a n cap (nR L) ((Ds.map dRow).set p [.lit (.slice a n cap)])=(Ds.set p L).map dRow:=by
 have h1:∀ d,(dRow d).map (datC a n cap (nR L))=dRow d:=fun d=>rfl;have h2:[C.lit (.slice a n cap)].map (datC a n cap (nR L))=dRow L:=by simp [datC,dRow]
 unfold Ze5;rw [List.map_set,h2,List.map_set,List.map_map];congr 1
theorem ZBY {a:Option Addr} {n cap:Nat} {Ds:List (List Nat)} {p:Nat} (hok:Zau (.lit (.slice a n cap))=true):ZaI 1 ((Ds.map dRow).set p [.lit (.slice a n cap)])=true:=by
 have h:=Zw4 Ds;unfold ZaI at h ⊢;rw [List.all_eq_true] at h ⊢;intro r hr;rcases List.mem_or_eq_of_mem_set hr with h1 | h1
 ·exact h r h1
 ·subst h1;simp [hok]
theorem Zmu (hg:SgnOk g) {op:Int} {o:Opr} (h0:0<=op) (ho:g.ops[op.toNat]?=some o) (ha:o.assoc=true) (hc:o.comm=false) (sets:List Nat) (hn1:1<=sets.length) (hn7:sets.length<=7) (hs:∀ s∈sets,s < 2 ^ g.sorts.names.length):Con e0 98 [.one (.ptr (encX g mc)),.one (.lit (.int .i64 op)),.one (.sl (nR sets))] [.one (.lit (.int .i64 ((cvN g o sets 0 sets.length:Nat):Int)))]:=by
 have hN:=hg.sorts.n8;have rl:=ZaR (l:=sets);have rr:=ZaL (l:=sets);have hmx:((sets.length:Int)<=(maxApp:Int))=True:=eq_true (by unfold maxApp;omega);have hdeg:=Opr.deg2 hg ho (.inl ha);have hcv:∀ i j,cvN g o sets i j < 2 ^ g.sorts.names.length:=fun i j=>Zb1 _ _;have hRlt:=fun a c b (h:Rel2 g o a c b)=>Rel2.lt hg (Tac ho) h;have w0:IntKind.i64.wrap ((sets.length:Int) - 1)=(sets.length:Int) - 1:=IntWalk.i64_in _ om
 refine gI (ts:=[.slot 6]) 142936512139207 Tryz.func98 ?_;refine fG (aj5 @rl @hmx @Tbw @w0 @tmz) ?_;have hR0:=ZBA sets.length;have F:=ai @hR0 @tmz;refine gL (ι:=Nat × List (List Nat)) [8,9,10,11,19,41,47] [8] (fun x=>[(9,.d (.one (.lit (.int .i64 ((x.1:Int) - 1))))),(8,.buf 8)]) (fun x=>[(8,.buf none 79 1 (x.2.map dRow))]) (fun x=>x.1<=sets.length∧x.2.length=sets.length∧∀ r,x.1<=r->r < sets.length->x.2[r]?=some (chL g o sets r)) (fun x=>x.1) ((sets.length,List.replicate sets.length [])) (⟨Tai _,by simp,fun r h1 h2=>absurd h1 om⟩) (fun x hx=>?_);clear F
 obtain ⟨x,Ds⟩:=x;obtain ⟨hx,hDl,hD⟩:=hx;simp only at hx hDl hD;dsimp only;have hDB:=Zw4 Ds;have hRl:(Ds.map dRow).length=sets.length:=by rw [Tay,hDl]
 cases x with
 | zero =>
  have q1:((0:Int)<=((0:Nat):Int) - 1)=False:=eq_false om;have r0:=hD 0 (Tai _) om;have cg:=ZaQ (Zsz (g:=g) (o:=o) (sets:=sets) (r:=0) (k:=sets.length - 1) om om);rw [show sets.length - 1+1=sets.length by omega] at cg;have w1:IntKind.i64.wrap ((sets.length:Int) - 1)=((sets.length - 1:Nat):Int):=ZaJ om om om;have cl:=ZaR (l:=chL g o sets 0);have cr:=ZaL (l:=chL g o sets 0);rw [ZjF] at cl;have i1:(0 < sets.length)=True:=eq_true om
  have i2:(sets.length - 1 < sets.length)=True:=eq_true om;exact fD (aj13 @q1 @r0 @hDl @hDB @Zw3 @cg @cl @cr @i1 @i2 @w1 @Zar @tmz)
 | succ p =>
 have hp:p < sets.length:=om;have q1:((0:Int)<=((p+1:Nat):Int) - 1)=True:=eq_true om;have hpc:((p+1:Nat):Int) - 1=(p:Int):=om;rw [hpc] at q1 ⊢;obtain ⟨s,hsp⟩:∃ s,sets[p]?=some s:=⟨_,Taa hp⟩;have r1:=ZaQ hsp;have hw1:=Zat (k:=p) om;have hwm:IntKind.i64.wrap ((p:Int) - 1)=(p:Int) - 1:=IntWalk.i64_in _ om;have i1:(p < sets.length)=True:=eq_true hp;have hFs:=FilB.start (g:=g) (o:=o) hsp (hs s (Tac hsp))
 have nl0:(nR (List.replicate sets.length 0)).length=sets.length:=by rw [ZaR,List.length_replicate]
 have nr0:=ZaL (l:=List.replicate sets.length 0);have ns0:=ZcG (l:=List.replicate sets.length 0) p s;obtain ⟨z0,hz0⟩:∃ z,(List.replicate sets.length 0)[p]?=some z:=⟨_,Taa (by simpa using hp)⟩;have ng0:=ZaQ hz0;refine fN 6 (ai @q1 @tmz) ?_;refine gB ?_;have F:=aj4 @hmx @Tbw @nR_0 @tmz;refine gP 4 ?_;clear F;generalize List.replicate sets.length 0=L0 at nl0 nr0 ns0 ng0 hFs ⊢;refine gS 25 fun a cap=>?_
 rw [nl0];have hB8:=ZBY (a:=a) (n:=sets.length) (cap:=cap) (Ds:=Ds) (p:=p) rfl;have hl8:((Ds.map dRow).set p [.lit (.slice a sets.length cap)]).length=sets.length:=by rw [Taz,hRl]
 have hg8:((Ds.map dRow).set p [.lit (.slice a sets.length cap)])[p]?=some [.lit (.slice a sets.length cap)]:=Tbn (by rw [hRl];exact hp);have hr8:∀ r,p+1<=r->r < sets.length->((Ds.map dRow).set p [.lit (.slice a sets.length cap)])[r]?=some [.sl (nR (chL g o sets r))]:=fun r h1 h2=>by
  rw [Tbo om,Tba,hD r h1 h2];rfl
 have hd8:=fun L=>ZyA (a:=a) (n:=sets.length) (cap:=cap) (L:=L) (Ds:=Ds) (p:=p);obtain ⟨z,hz⟩:∃ z,Ds[p]?=some z:=⟨_,Taa om⟩;refine fR (aj7 @hDl @hDB @hz @Zw3 @i1 @Zar @tmz) ?_;generalize (Ds.map dRow).set p [.lit (.slice a sets.length cap)]=R8 at hB8 hl8 hg8 hr8 hd8 ⊢;refine fN 9 (aj14 @hB8 @hl8 @hg8 @nl0 @nr0 @ns0 @ng0 @r1 @rl @rr @i1 @hw1 @Zar @tmz) ?_;generalize L0.set p s=L1 at hFs ⊢;clear nl0 nr0 ns0 ng0 hz0 hz
 have F:=@tmz;refine gL (ι:=Nat × List Nat) [10,11,41,47] [25] (fun y=>[(10,A.d (.one (.lit (.int .i64 y.1))))]) (fun y=>[(25,.buf (some (a,cap)) 3 1 (nR y.2))]) (fun y=>p+1<=y.1∧y.1<=sets.length∧FilB g o sets p y.1 y.2) (fun y=>sets.length - y.1) ((p+1,L1)) (⟨Tai _,hp,hFs⟩) (fun y hy=>?_);clear F;clear hFs L1;obtain ⟨k,L⟩:=y;obtain ⟨hk1,hk2,hF⟩:=hy;simp only at hk1 hk2 hF;dsimp only;by_cases hkl:k < sets.length
 rotate_left
 ·obtain rfl:k=sets.length:=by omega
  have hL:=hF.all;subst hL;have q2:=lF sets.length sets.length;have cl:=ZaR (l:=chL g o sets p);rw [ZjF] at cl;have hd:=hd8 (chL g o sets p);refine fN 5 (ai @q2 @tmz) ?_;refine pDb 25 8 (by decide) ?_;rw [cl,hd];have hfin:p<=sets.length∧(Ds.set p (chL g o sets p)).length=sets.length∧∀ r,p<=r->r < sets.length->(Ds.set p (chL g o sets p))[r]?=some (chL g o sets r):=⟨om,by rw [Taz,hDl],fun r h1 h2=>by
   by_cases e:r=p
   ·subst e;exact Tbn om
   ·rw [Tbo om];exact hD r om h2⟩
  have F:=ai @hwm @tmz;refine gG ?_;exact ⟨(p,Ds.set p (chL g o sets p)),hfin,gw,gw,om⟩
 have q2:=lT k sets.length;have hwk:=Zat (k:=k) om;have hz:=hF.zero om hkl;have hzz:nR (L.set k 0)=nR L:=by rw [hz]
 refine fG (ai @q2 @tmz) ?_;have F:=ai @hzz @tmz;refine gL (ι:=Nat × Nat) [11,47] [25] (fun z=>[(11,A.d (.one (.lit (.int .i64 z.1))))]) (fun z=>[(25,.buf (some (a,cap)) 3 1 (nR (L.set k z.2)))]) (fun z=>p<=z.1∧z.1<=k∧z.2=ofB (CutB (Rel2 g o) sets g.sorts.names.length p (k+1) (z.1+1)) g.sorts.names.length) (fun z=>k - z.1) ((p,0)) (⟨Tai _,om,Zm2.symm⟩) (fun z hz=>?_);clear F;obtain ⟨m,v⟩:=z;obtain ⟨hm1,hm2,hv⟩:=hz
 simp only at hm1 hm2 hv;subst hv;dsimp only;by_cases hmk:m < k;rotate_left
 ·obtain rfl:m=k:=by omega
  have q3:=lF m m;have e:ofB (CutB (Rel2 g o) sets g.sorts.names.length p (m+1) (m+1)) g.sorts.names.length=cvN g o sets p (m+1):=Zsj hs hRlt om;rw [e];have F:=aj3 @q3 @hwk @tmz;refine gG ?_;exact ⟨(m+1,L.set m (cvN g o sets p (m+1))),⟨om,hkl,hF.next om hkl⟩,gw,gw,om⟩
 have q3:=lT m k;have hwm1:=Zat (k:=m) om;have hLm:=hF.2 m om;rw [if_neg om,if_pos hmk] at hLm;have e:=fun b=>Zo6 (R:=Rel2 g o) (sets:=sets) (N:=g.sorts.names.length) (i:=p) (j:=k+1) (k:=m+1) (b:=b) om om;have e:ofB (CutB (Rel2 g o) sets g.sorts.names.length p (k+1) (m+1)) g.sorts.names.length ||| ofB (fun b=>Two (Rel2 g o) (cvN g o sets p (m+1)) (cvN g o sets (m+1) (k+1)) b) g.sorts.names.length=ofB (CutB (Rel2 g o) sets g.sorts.names.length p (k+1) (m+1+1)) g.sorts.names.length:=by
  rw [ZfO];exact ZaX fun b _=>(e b).symm
 have cR:=Zho (mc:=mc) hg h0 ho [cvN g o sets p (m+1),cvN g o sets (m+1) (k+1)] (fun d hd=>hdeg d hd) (by simp) (fun s hs=>by
  simp only [Tbg,List.not_mem_nil,or_false] at hs;rcases hs with rfl | rfl <;> exact hcv _ _)
 rw [ZAY hg ho ha hc] at cR;have cR:=ZfQ cR;have hor:=Zds (ZbE (Zb1 (CutB (Rel2 g o) sets g.sorts.names.length p (k+1) (m+1)) g.sorts.names.length) hN) (ZbE (Zb1 (fun b=>Two (Rel2 g o) (cvN g o sets p (m+1)) (cvN g o sets (m+1) (k+1)) b) g.sorts.names.length) hN);rw [e] at hor;have hv62:=ZbE (Zb1 (CutB (Rel2 g o) sets g.sorts.names.length p (k+1) (m+1)) g.sorts.names.length) hN;clear e;generalize ofB (fun b=>Two (Rel2 g o) (cvN g o sets p (m+1)) (cvN g o sets (m+1) (k+1)) b) g.sorts.names.length=tw at cR hor
 generalize ofB (CutB (Rel2 g o) sets g.sorts.names.length p (k+1) (m+1)) g.sorts.names.length=v at hor ⊢;have nl:=ZaR (l:=L.set k v);rw [Taz,hF.1] at nl;have nr:=ZaL (l:=L.set k v);have g1:(nR (L.set k v))[k]?=some [.lit (.int .i64 v)]:=ZaQ (Tbn (by rw [hF.1];exact hkl));have g2:(nR (L.set k v))[m]?=some [.lit (.int .i64 (cvN g o sets p (m+1)))]:=ZaQ (by rw [Tbo om];exact hLm);have g3:=hr8 (m+1) om om
 have g4:=ZaQ (Zsz (g:=g) (o:=o) (sets:=sets) (r:=m+1) (k:=k) om hkl);have cl:=ZaR (l:=chL g o sets (m+1));rw [ZjF] at cl;have cr:=ZaL (l:=chL g o sets (m+1));have ns:=fun x=>ZcG (l:=L.set k v) k x;simp only [List.set_set] at ns;have i2:(k < sets.length)=True:=eq_true hkl;have i3:(m < sets.length)=True:=eq_true om;have i4:(m+1 < sets.length)=True:=eq_true om;refine fN 14 (ai @q3 @tmz) ?_;refine gB ?_
 refine fC (aj16 @hB8 @hl8 @hg8 @nl @nr @g1 @g2 @g3 @g4 @cl @cr @i1 @i2 @i3 @i4 (aj3 @hwm1 @Zar @tmz)) (cR) ?_;refine fR (aj8 @nl @nr @g1 @hor @ns @i2 @Zar @tmz) ?_;have F:=ai @hwm1 @tmz;refine gG ?_;exact ⟨(m+1,ofB (CutB (Rel2 g o) sets g.sorts.names.length p (k+1) (m+1+1)) g.sorts.names.length),⟨om,hmk,rfl⟩,gw,gw,om⟩
end
theorem ZsA {n i j i' j':Nat} (hj:j < n) (hj':j' < n) (h:i * n+j=i' * n+j'):i=i'∧j=j':=by
 have h1:(i * n+j) / n=i:=by rw [Nat.mul_comm,Nat.mul_add_div om,Nat.div_eq_of_lt hj,Nat.add_zero]
 have h2:(i' * n+j') / n=i':=by rw [Nat.mul_comm,Nat.mul_add_div om,Nat.div_eq_of_lt hj',Nat.add_zero]
 rw [h] at h1;have e:i=i':=by rw [<- h1,h2]
 subst e;exact ⟨rfl,om⟩
theorem Ze6 {n i j:Nat} (hi:i < n) (hj:j < n):i * n+j < n * n:=by
 have:(i+1) * n<=n * n:=Nat.mul_le_mul_right n hi;rw [Nat.succ_mul] at this;omega
section
variable {g:Sgn}
def TabB (g:Sgn) (o:Opr) (sets:List Nat) (P:Nat->Nat->Prop) (T:List Nat):Prop:=T.length=sets.length * sets.length∧∀ i j,i<=j->j < sets.length->(P i j->T[i * sets.length+j]?=some (cvN g o sets i (j+1)))∧(¬ P i j->T[i * sets.length+j]?=some 0)
theorem TabB.start {o:Opr} {sets:List Nat} {P:Nat->Nat->Prop} (h:∀ i j,i<=j->¬ P i j):TabB g o sets P (List.replicate (sets.length * sets.length) 0):=⟨by simp,fun i j h1 h2=>⟨fun hp=>absurd hp (h i j h1),fun _=>by
 rw [Tbr,if_pos (Ze6 om h2)]⟩⟩
theorem TabB.next {o:Opr} {sets:List Nat} {P P':Nat->Nat->Prop} {T:List Nat} (h:TabB g o sets P T) {i j:Nat} (hij:i<=j) (hj:j < sets.length) (h1:∀ i' j',i'<=j'->j' < sets.length->(P' i' j' ↔ P i' j'∨(i'=i∧j'=j))):TabB g o sets P' (T.set (i * sets.length+j) (cvN g o sets i (j+1))):=by
 refine ⟨by rw [Taz,h.1],fun i' j' q1 q2=>?_⟩;have hl:=Ze6 (n:=sets.length) (i:=i) (j:=j) om hj;by_cases e:i'=i∧j'=j
 ·obtain ⟨rfl,rfl⟩:=e;exact ⟨fun _=>Tbn (by rw [h.1];exact hl),fun hn=>absurd ((h1 _ _ q1 q2).2 (.inr ⟨rfl,rfl⟩)) hn⟩
 ·have hne:i * sets.length+j≠i' * sets.length+j':=fun q=>e (by have:=ZsA hj q2 q;exact ⟨this.1.symm,this.2.symm⟩);rw [Tbo hne];have h2:=h.2 i' j' q1 q2;exact ⟨fun hp=>h2.1 (((h1 _ _ q1 q2).1 hp).resolve_right e),fun hn=>h2.2 fun hp=>hn ((h1 _ _ q1 q2).2 (.inl hp))⟩
theorem TabB.mono {o:Opr} {sets:List Nat} {P P':Nat->Nat->Prop} {T:List Nat} (h:TabB g o sets P T) (h1:∀ i j,i<=j->j < sets.length->(P' i j ↔ P i j)):TabB g o sets P' T:=⟨h.1,fun i j q1 q2=>by
 have h2:=h.2 i j q1 q2;rw [h1 i j q1 q2];exact h2⟩
theorem TabB.zero {o:Opr} {sets:List Nat} {P:Nat->Nat->Prop} {T:List Nat} (h:TabB g o sets P T) {i j:Nat} (hij:i<=j) (hj:j < sets.length) (hn:¬ P i j):T.set (i * sets.length+j) 0=T:=by
 have h1:=(h.2 i j hij hj).2 hn;have hl:=Ze6 (n:=sets.length) (i:=i) (j:=j) om hj;refine List.ext_getElem? fun q=>?_;by_cases e:q=i * sets.length+j
 ·subst e;rw [Tbn (by rw [h.1];exact hl),h1]
 ·rw [Tbo (Ne.symm e)]
def szP (size i0:Nat) (i j:Nat):Prop:=j+1 < i+size∨(j+1=i+size∧i < i0)
theorem wmul {i n:Nat} (hi:i<=10) (hn:n<=10):IntKind.i64.wrap ((i:Int) * (n:Int))=((i * n:Nat):Int):=by
 have:i * n<=10 * 10:=Nat.mul_le_mul hi hn;exact ZaJ (by simp) om om
theorem wadd {i n:Nat} (hi:i<=1000) (hn:n<=1000):IntKind.i64.wrap ((i:Int)+(n:Int))=((i+n:Nat):Int):=ZaJ (by simp) om om
theorem Zqx (hg:SgnOk g) {op:Int} {o:Opr} (h0:0<=op) (ho:g.ops[op.toNat]?=some o) (ha:o.assoc=true) (sets:List Nat) (hn1:1<=sets.length) (hn7:sets.length<=7) (hs:∀ s∈sets,s < 2 ^ g.sorts.names.length):Con e0 123 [.agg (Zak g),.one (.lit (.int .i64 op)),.one (.sl (nR sets))] [.one (.lit (.int .i64 ((cvN g o sets 0 sets.length:Nat):Int)))]:=by
 have hN:=hg.sorts.n8;have rl:=ZaR (l:=sets);have rr:=ZaL (l:=sets);have hnn:sets.length * sets.length<=7 * 7:=Nat.mul_le_mul hn7 hn7;have hmx:(((sets.length * sets.length:Nat):Int)<=(maxApp:Int))=True:=eq_true (by unfold maxApp;omega);have hdeg:=Opr.deg2 hg ho (.inl ha);have hcv:∀ i j,cvN g o sets i j < 2 ^ g.sorts.names.length:=fun i j=>Zb1 _ _;have hRlt:=fun a c b (h:Rel2 g o a c b)=>Rel2.lt hg (Tac ho) h
 have wnn:=wmul (i:=sets.length) (n:=sets.length) om om;have cU:=Zgx hg.sorts.n8 hg.sorts.m16 (SortsOk.subsIn hg.sorts.subs);have hT0:=TabB.start (g:=g) (o:=o) (sets:=sets) (P:=szP 1 0) fun i j h q=>by unfold szP at q;omega
 rw [Za9] at cU;rw [Zak];refine gI (ts:=[.slot 6]) 36028870066978767 Tryz.func123 ?_;refine fN 2 (ai @rl @tmz) ?_;refine gB ?_;refine fC @tmz (cU) ?_;refine fR @tmz ?_;refine fG (aj6 @rl @wnn @hmx @Tbw @nR_0 @tmz) ?_;generalize List.replicate (sets.length * sets.length) 0=T0 at hT0 ⊢;have F:=@tmz;refine gL (ι:=Nat × List Nat) [9,10,11,12,13,25,32,36,55] [9] (fun x=>[(10,A.d (.one (.lit (.int .i64 x.1)))),(9,.buf 9)]) (fun x=>[(9,.buf none 3 1 (nR x.2))]) (fun x=>1<=x.1∧x.1<=sets.length+1∧TabB g o sets (szP x.1 0) x.2) (fun x=>sets.length+1 - x.1) ((1,T0)) (⟨Tai _,om,hT0⟩) (fun x hx=>?_);clear F
 clear hT0 T0;obtain ⟨size,T⟩:=x;obtain ⟨hz1,hz2,hT⟩:=hx;simp only at hz1 hz2 hT;dsimp only;have nl:=ZaR (l:=T);rw [hT.1] at nl;have nr:=ZaL (l:=T);by_cases hzl:size<=sets.length;rotate_left
 ·obtain rfl:size=sets.length+1:=by omega
  have q1:(((sets.length+1:Nat):Int)<=(sets.length:Int))=False:=eq_false om;have hg1:=((hT.2 0 (sets.length - 1) om om).1 (.inl om));rw [show 0 * sets.length+(sets.length - 1)=sets.length - 1 by omega,show sets.length - 1+1=sets.length by omega] at hg1;have hg2:=ZaQ hg1;have w1:IntKind.i64.wrap ((sets.length:Int) - 1)=((sets.length - 1:Nat):Int):=ZaJ om om om;have hle:sets.length * 1<=sets.length * sets.length:=Nat.mul_le_mul_left _ hn1
  have i1:(sets.length - 1 < sets.length * sets.length)=True:=eq_true om;exact fD (aj8 @q1 @nl @nr @hg2 @w1 @i1 @Zar @tmz)
 have q1:((size:Int)<=(sets.length:Int))=True:=eq_true om;have hws:=Zat (k:=size) om;clear nl nr;refine fG (ai @q1 @tmz) ?_;have F:=@tmz;refine gL (ι:=Nat × List Nat) [9,11,12,13,32,36,55] [9] (fun y=>[(11,A.d (.one (.lit (.int .i64 y.1)))),(9,.buf 9)]) (fun y=>[(9,.buf none 3 1 (nR y.2))]) (fun y=>y.1+size<=sets.length+1∧TabB g o sets (szP size y.1) y.2) (fun y=>sets.length+1 - y.1) ((0,T)) (⟨om,hT⟩) (fun y hy=>?_);clear F
 clear hT T;obtain ⟨i,T⟩:=y;obtain ⟨hi,hT⟩:=hy;simp only at hi hT;dsimp only;have nl:=ZaR (l:=T);rw [hT.1] at nl;have nr:=ZaL (l:=T);have wis:=wadd (i:=i) (n:=size) om om;by_cases hil:i+size<=sets.length;rotate_left
 ·have q2:(((i+size:Nat):Int)<=(sets.length:Int))=False:=eq_false om;have hT2:TabB g o sets (szP (size+1) 0) T:=hT.mono fun i' j' h1 h2=>by
   unfold szP;omega
  have F:=aj4 @q2 @wis @hws @tmz;refine gG ?_;exact ⟨(size+1,T),⟨om,om,hT2⟩,gw,gw,om⟩
 have q2:(((i+size:Nat):Int)<=(sets.length:Int))=True:=eq_true om;have hwi:=Zat (k:=i) om;have wii:=wmul (i:=i) (n:=sets.length) om om;have hlt:=Ze6 (n:=sets.length) (i:=i) (j:=i+size - 1) om om;by_cases hs1:size=1
 ·subst hs1;have q3:(((1:Nat):Int)=1)=True:=eq_true rfl;obtain ⟨s,hsi⟩:∃ s,sets[i]?=some s:=⟨_,Taa om⟩;have r1:=ZaQ hsi;have e:cvN g o sets i (i+1)=s:=by unfold cvN;exact ZwJ hsi (hs s (Tac hsi))
  have hT2:TabB g o sets (szP 1 (i+1)) (T.set (i * sets.length+i) (cvN g o sets i (i+1))):=hT.next (Tai _) om fun i' j' h1 h2=>by
   unfold szP;omega
  rw [e] at hT2;have wa:=wadd (i:=i * sets.length) (n:=i) om om;have ns:=ZcG (l:=T) (i * sets.length+i) s;obtain ⟨z,hz⟩:∃ z,T[i * sets.length+i]?=some z:=⟨_,Taa (by rw [hT.1];exact Ze6 om om)⟩;have ng:=ZaQ hz;have i1:(i < sets.length)=True:=eq_true om;have i2:(i * sets.length+i < sets.length * sets.length)=True:=eq_true (Ze6 om om);have F:=aj15 @q2 @wis @q3 @wii @wa @r1 @rl @rr @nl @nr @ns @ng @i1 @i2 (aj3 @hwi @Zar @tmz);refine gG ?_;exact ⟨(i+1,T.set (i * sets.length+i) s),⟨om,hT2⟩,gw,gw,om⟩
 have q3:((size:Int)=1)=False:=eq_false om;obtain ⟨j,hj⟩:∃ j,j+1=i+size:=⟨i+size - 1,om⟩;have wj:IntKind.i64.wrap (((i+size:Nat):Int) - 1)=(j:Int):=ZaJ om om om;have hij:i < j:=om;have hjn:j < sets.length:=om;have hij2:i<=j:=om;have hlt:=Ze6 (n:=sets.length) (i:=i) (j:=j) om hjn;have waj:=wadd (i:=i * sets.length) (n:=j) om om;have hz0:=hT.zero hij2 hjn (by unfold szP;omega);have hzz:nR (T.set (i * sets.length+j) 0)=nR T:=by rw [hz0]
 have hnx:TabB g o sets (szP size (i+1)) (T.set (i * sets.length+j) (cvN g o sets i (j+1))):=hT.next hij2 hjn fun i' j' h1 h2=>by
  unfold szP;omega
 refine fN 13 (aj5 @q2 @wis @q3 @wj @tmz) ?_;refine fG @tmz ?_;have F:=ai @hzz @tmz;refine gL (ι:=Nat × Nat) [9,13,55] [9] (fun z=>[(13,A.d (.one (.lit (.int .i64 z.1)))),(9,.buf 9)]) (fun z=>[(9,.buf none 3 1 (nR (T.set (i * sets.length+j) z.2)))]) (fun z=>i<=z.1∧z.1<=j∧z.2=ofB (CutB (Rel2 g o) sets g.sorts.names.length i (j+1) (z.1+1)) g.sorts.names.length) (fun z=>j - z.1) ((i,0)) (⟨Tai _,om,Zm2.symm⟩) (fun z hz=>?_);clear F
 obtain ⟨k,v⟩:=z;obtain ⟨hk1,hk2,hv⟩:=hz;simp only at hk1 hk2 hv;subst hv;dsimp only;by_cases hkj:k < j;rotate_left
 ·obtain rfl:k=j:=by omega
  have q4:=lF k k;have e:ofB (CutB (Rel2 g o) sets g.sorts.names.length i (k+1) (k+1)) g.sorts.names.length=cvN g o sets i (k+1):=Zsj hs hRlt om;rw [e];have F:=aj3 @q4 @hwi @tmz;refine gG ?_;exact ⟨(i+1,T.set (i * sets.length+k) (cvN g o sets i (k+1))),⟨om,hnx⟩,gw,gw,om⟩
 have q4:=lT k j;have hwk:=Zat (k:=k) om;have hTk:=(hT.2 i k hk1 om).1 (by unfold szP;omega);have hTj:=(hT.2 (k+1) j om hjn).1 (by unfold szP;omega);have hltk:=Ze6 (n:=sets.length) (i:=i) (j:=k) om om;have hltj:=Ze6 (n:=sets.length) (i:=k+1) (j:=j) om hjn;have wak:=wadd (i:=i * sets.length) (n:=k) om om;have wm2:=wmul (i:=k+1) (n:=sets.length) om om;have wa2:=wadd (i:=(k+1) * sets.length) (n:=j) om om
 have e:=fun b=>Zo6 (R:=Rel2 g o) (sets:=sets) (N:=g.sorts.names.length) (i:=i) (j:=j+1) (k:=k+1) (b:=b) om om;have e:ofB (CutB (Rel2 g o) sets g.sorts.names.length i (j+1) (k+1)) g.sorts.names.length ||| ofB (fun b=>Two (Rel2 g o) (cvN g o sets i (k+1)) (cvN g o sets (k+1) (j+1)) b) g.sorts.names.length=ofB (CutB (Rel2 g o) sets g.sorts.names.length i (j+1) (k+1+1)) g.sorts.names.length:=by
  rw [ZfO];exact ZaX fun b _=>(e b).symm
 have cR:=Zif hg (Tac ho) [cvN g o sets i (k+1),cvN g o sets (k+1) (j+1)] (fun d hd=>hdeg d hd) (by simp) (fun s hs=>by
  simp only [Tbg,List.not_mem_nil,or_false] at hs;rcases hs with rfl | rfl <;> exact hcv _ _)
 rw [show ofB (Zdg g o [cvN g o sets i (k+1),cvN g o sets (k+1) (j+1)]) g.sorts.names.length=ofB (fun b=>Two (Rel2 g o) (cvN g o sets i (k+1)) (cvN g o sets (k+1) (j+1)) b) g.sorts.names.length from ZaX fun b _=>ZeH hdeg] at cR;have cR:=ZfQ cR;have hor:=Zds (ZbE (Zb1 (CutB (Rel2 g o) sets g.sorts.names.length i (j+1) (k+1)) g.sorts.names.length) hN) (ZbE (Zb1 (fun b=>Two (Rel2 g o) (cvN g o sets i (k+1)) (cvN g o sets (k+1) (j+1)) b) g.sorts.names.length) hN)
 rw [e] at hor;clear e;generalize ofB (fun b=>Two (Rel2 g o) (cvN g o sets i (k+1)) (cvN g o sets (k+1) (j+1)) b) g.sorts.names.length=tw at cR hor;generalize ofB (CutB (Rel2 g o) sets g.sorts.names.length i (j+1) (k+1)) g.sorts.names.length=v at hor ⊢;have nl2:=ZaR (l:=T.set (i * sets.length+j) v);rw [Taz,hT.1] at nl2;have nr2:=ZaL (l:=T.set (i * sets.length+j) v);have ne1:i * sets.length+j≠i * sets.length+k:=om
 have ne2:i * sets.length+j≠(k+1) * sets.length+j:=fun q=>by have:=ZsA hjn hjn q;omega
 have g1:(nR (T.set (i * sets.length+j) v))[i * sets.length+j]?=some [.lit (.int .i64 v)]:=ZaQ (Tbn (by rw [hT.1];exact hlt));have g2:(nR (T.set (i * sets.length+j) v))[i * sets.length+k]?=some [.lit (.int .i64 (cvN g o sets i (k+1)))]:=ZaQ (by rw [Tbo ne1];exact hTk);have g3:(nR (T.set (i * sets.length+j) v))[(k+1) * sets.length+j]?=some [.lit (.int .i64 (cvN g o sets (k+1) (j+1)))]:=ZaQ (by rw [Tbo ne2];exact hTj)
 have ns:=fun x=>ZcG (l:=T.set (i * sets.length+j) v) (i * sets.length+j) x;simp only [List.set_set] at ns;have i1:(i * sets.length+j < sets.length * sets.length)=True:=eq_true hlt;have i2:(i * sets.length+k < sets.length * sets.length)=True:=eq_true hltk;have i3:((k+1) * sets.length+j < sets.length * sets.length)=True:=eq_true hltj;clear nl nr;refine fN 16 (ai @q4 @tmz) ?_;refine gB ?_;refine fC (aj16 @wii @waj @wak @hwk @wm2 @wa2 @nl2 @nr2 @g1 @g2 @g3 @i1 @i2 @i3 @h0 (aj4 @ho @Zag @Zar @tmz)) (cR) ?_
 refine fR (aj8 @nl2 @nr2 @g1 @hor @ns @i1 @Zar @tmz) ?_;have F:=ai @hwk @tmz;refine gG ?_;exact ⟨(k+1,ofB (CutB (Rel2 g o) sets g.sorts.names.length i (j+1) (k+1+1)) g.sorts.names.length),⟨om,hkj,rfl⟩,gw,gw,om⟩
end
def Env.plus (e:Env) (E2:Nat->Prop) (G2:World->Prop):Env:=⟨e.P,fun b=>e.E b∨E2 b,fun w=>e.G w∧G2 w,e.D⟩
structure Fits (e:Env) (E2:Nat->Prop) (G2:World->Prop):Prop where
 st:Zc1 E2 G2
 dj:∀ w,G2 w->∀ b,E2 b->¬ e.E b
section
variable {e:Env} {E2:Nat->Prop} {G2:World->Prop}
theorem Fits.ok (h:Fits e E2 G2) (he:e.Ok):(e.plus E2 G2).Ok:=⟨fun w w' hz hb ⟨h1,h2⟩=>⟨he.keep w w' hz (fun b hb'=>hb b (.inl hb')) h1,h.st w w' hz (fun b hb'=>hb b (.inr hb')) h2⟩,he.mixed⟩
theorem Kept.up {D:Prop} {E E':Nat->Prop} {B:Nat} {w w':World} (h:Kept D E B w w') (hE:∀ b,E b->E' b):Kept D E' B w w':=⟨h.os,h.tape,h.output,h.drawn,h.size,fun k hk hn=>h.block k hk fun q=>hn (hE k q)⟩
theorem Fits.keep (h:Fits e E2 G2) {E:Nat->Prop} {w w':World} (hk:Kept e.D E w.heap.size w w') (hE:∀ b,(e.plus E2 G2).E b->b < w.heap.size) (hG:G2 w) (hn:∀ b,E2 b->¬ E b):G2 w':=h.st w w' hk.size (fun b hb=>hk.block b (hE b (.inr hb)) (hn b hb)) hG
theorem Con.up (h2:Fits e E2 G2) {f:FuncId} {args r:List D} (h:Con e f args r):Con (e.plus E2 G2) f args r :=
 ⟨h.1,fun w S vs hS hE hG hvs=>(h.2 w S vs (fun b hb=>⟨(hS b hb).1,fun q=>(hS b hb).2 (.inl q)⟩) (fun b hb=>hE b (.inl hb)) hG.1 hvs).mono fun en w' ⟨v,h1,hk,hg,ha⟩=>⟨v,h1,hk.up fun _=>.inl,⟨hg,h2.keep hk hE hG.2 (h2.dj w hG.2)⟩,ha⟩⟩
theorem ConE.up (h2:Fits e E2 G2) {f:FuncId} {args:List D} {R:List D->Prop} (h:ConE e f args R):ConE (e.plus E2 G2) f args R :=
 ⟨h.1,fun w S vs hS hE hG hvs=>(h.2 w S vs (fun b hb=>⟨(hS b hb).1,fun q=>(hS b hb).2 (.inl q)⟩) (fun b hb=>hE b (.inl hb)) hG.1 hvs).mono fun en w' ⟨v,r,h1,hr,hk,hg,ha⟩=>⟨v,r,h1,hr,hk.up fun _=>.inl,⟨hg,h2.keep hk hE hG.2 (h2.dj w hG.2)⟩,ha⟩⟩
theorem ConR.up (h2:Fits e E2 G2) {f:FuncId} {args:List D} {ty sz:Nat} {rows:List (List C)} (h:ConR e f args ty sz rows):ConR (e.plus E2 G2) f args ty sz rows :=
 ⟨h.1,fun w S vs hS hE hG hvs=>(h.2 w S vs (fun b hb=>⟨(hS b hb).1,fun q=>(hS b hb).2 (.inl q)⟩) (fun b hb=>hE b (.inl hb)) hG.1 hvs).mono fun en w' ⟨v,h1,hk,hg,ha⟩=>⟨v,h1,hk.up fun _=>.inl,⟨hg,h2.keep hk hE hG.2 (h2.dj w hG.2)⟩,ha⟩⟩
theorem ConI.up (h2:Fits e E2 G2) {f:FuncId} {ty sz:Nat} {rows rows':List (List C)} {args r:List D} (h:ConI e f ty sz rows args rows' r):ConI (e.plus E2 G2) f ty sz rows args rows' r :=
 ⟨h.1,fun w S v0 vs hS hE h0 hG hb hvs=>(h.2 w S v0 vs (fun b hb=>⟨(hS b hb).1,fun q=>(hS b hb).2 (.inl q)⟩) (fun b hb=>hE b (.inl hb)) (fun g hg q=>h0 g hg (.inl q)) hG.1 hb hvs).mono fun en w' ⟨v,h1,hk,hg,ha⟩=>⟨v,h1,hk.up fun _ q=>q.elim (fun q=>.inl (.inl q)) .inr,⟨hg,h2.keep hk hE hG.2 fun b hb q=>q.elim (h2.dj w hG.2 b hb) fun q=>h0 b q (.inr hb)⟩,ha⟩⟩
theorem ConT.up (h2:Fits e E2 G2) {f:FuncId} {ty sz:Nat} {rows rows':List (List C)} {args:List D} (h:ConT e f ty sz rows args rows'):ConT (e.plus E2 G2) f ty sz rows args rows' :=
 ⟨h.1,fun w S v0 vs hS hE h0 hG hb hvs=>(h.2 w S v0 vs (fun b hb=>⟨(hS b hb).1,fun q=>(hS b hb).2 (.inl q)⟩) (fun b hb=>hE b (.inl hb)) (fun g hg q=>h0 g hg (.inl q)) hG.1 hb hvs).mono fun en w' ⟨v,h1,hk,hg,ha⟩=>⟨v,h1,hk.up fun _ q=>q.elim (fun q=>.inl (.inl q)) .inr,⟨hg,h2.keep hk hE hG.2 fun b hb q=>q.elim (h2.dj w hG.2 b hb) fun q=>h0 b q (.inr hb)⟩,ha⟩⟩
theorem ConP.up (h2:Fits e E2 G2) {f:FuncId} {args:List D} {pm:List Bk} {R:List D->List Bk->Prop} (h:ConP e f args pm R):ConP (e.plus E2 G2) f args pm R :=
 ⟨h.1,fun w S vs hS hE hG hpm hap hvs=>(h.2 w S vs (fun b hb=>⟨(hS b hb).1,fun q=>(hS b hb).2 (.inl q)⟩) (fun b hb=>hE b (.inl hb)) hG.1 (fun x hx=>⟨(hpm x hx).1,fun g hg q=>(hpm x hx).2 g hg (.inl q)⟩) hap hvs).mono fun en w' ⟨v,r,pm',h1,hr,hk,hg,ha⟩=>⟨v,r,pm',h1,hr,hk.up fun _ q=>q.elim (fun q=>.inl (.inl q)) .inr,⟨hg,h2.keep hk hE hG.2 fun b hb q=>q.elim (h2.dj w hG.2 b hb) fun ⟨x,hx,hxg⟩=>(hpm x hx).2 b hxg (.inr hb)⟩,ha⟩⟩
theorem ZyC {ι:Type} {G:ι->World->Prop} {ok:ι->Prop} (h2:Fits e E2 G2) (hst:∀ i,Zc1 E2 (G i)) (ho:∀ w,G2 w->∃ i,ok i∧G i w) (hi:∀ w i,(∀ b,E2 b->¬ e.E b)->ok i->G i w->G2 w) {f:FuncId} {xs r:List D} (hb:Zco e.P f=true)
  (h:∀ i,ok i->ConP e f xs [.set E2 (G i)] (fun r' pm=>r'=r∧∃ i',ok i'∧pm=[.set E2 (G i')])):Con (e.plus E2 G2) f xs r:=by
 refine ⟨hb,fun w S vs hS hE hG hvs=>?_⟩;obtain ⟨i,hi1,hi2⟩:=ho w hG.2;have hdj:=h2.dj w hG.2;refine ((h i hi1).2 w S vs (fun b hb=>⟨(hS b hb).1,fun q=>(hS b hb).2 (.inl q)⟩) (fun b hb=>hE b (.inl hb)) hG.1 (fun x hx=>?_) ⟨fun y hy=>(by cases hy),trivial⟩ hvs).mono fun en w' ⟨v,r',pm,h1,⟨hr,i',hi1',hpm⟩,hk,hg,hp,_,ha⟩=>?_
 ·obtain rfl:=Tbj.1 hx;exact ⟨⟨fun b hb=>⟨hE b (.inr hb),fun q=>(hS b q).2 (.inr hb)⟩,hi2,hst i⟩,fun g hg=>hdj g hg⟩
 ·subst hr hpm;have hpb:∀ (G:World->Prop) (b:Nat),Za7 [.set E2 G] b ↔ E2 b:=fun G b=>⟨fun ⟨x,hx,hg⟩=>by obtain rfl:=Tbj.1 hx;exact hg,fun q=>⟨_,Tbj.2 rfl,q⟩⟩;refine ⟨v,h1,hk.up fun b q=>q.elim .inl fun q=>.inr ((hpb _ b).1 q),⟨hg,hi w' i' hdj hi1' (hp _ (Tbj.2 rfl)).1.2.1⟩,ha.keep (Tai _) (fun _ _ _=>rfl) fun b hb=>?_⟩;rcases hb.1 with q | q | q
  ·exact .inl q
  ·exact absurd ((hpb _ b).2 ((hpb _ b).1 q)) hb.2
  ·exact .inr q
theorem ZsC {mask:Nat} {c:Code} {s:List (Nat × A)} {m:List (Nat × Bk)} {Q:PX->St->Prop} {G1:World->Prop} (k:Nat) (hst:Zc1 E2 G2) (hm:gm m k=some (.set E2 G1)) (h2:(∀ b,E2 b->¬ e.E b)->Fits e E2 G2∧∀ w,G1 w->G2 w) (h:Fits e E2 G2->pwp (e.plus E2 G2) mask c ⟨s,remM k m⟩ Q):pwp e mask c ⟨s,m⟩ Q:=by
 intro he U w0 S0 nt a w hok ⟨S,L,hs⟩;have hc:=hs.cls;have ho:=hc.own k _ hm;obtain ⟨hF,hG⟩:=h2 fun b hb=>hc.notE hm (show Zay L k (.set E2 G1) b from hb);have hlt:∀ b,e.E b∨E2 b->b < w.heap.size:=fun b hb=>hb.elim (fun q=>Tbd (hc.ein b q) hc.bsz) fun q=>(ho.1 b q).1;have hsub:∀ k' bk,gm (remM k m) k'=some bk->k'≠k∧gm m k'=some bk:=fun k' bk hk'=>by
  rw [ZaC] at hk';by_cases e:k'=k
  ·rw [if_pos e] at hk';cases hk'
  ·rw [if_neg e] at hk';exact ⟨e,hk'⟩
 have hs2:SimE (e.plus E2 G2) (fun g=>∃ k' bk,gm (remM k m) k'=some bk∧Zay L k' bk g) w S nt ⟨s,remM k m⟩ a w:=by
  refine ⟨S,L,⟨fun b hb=>⟨(hc.sin b hb).1,fun q=>q.elim (hc.sin b hb).2 fun q=>(ho.1 b q).2 hb⟩,fun b hb=>.inl hb,hlt,?_,Tai _,fun k' bk g h1 h2=>.inr ⟨k',bk,h1,h2⟩,fun k' bk hk'=>hc.own k' bk (hsub k' bk hk').2,fun k1 k2 x1 x2 g h1 h2=>hc.inj k1 k2 x1 x2 g (hsub k1 x1 h1).2 (hsub k2 x2 h2).2,⟨hc.g,hG w ho.2.1⟩⟩,hs.rel,hs.size,hs.defers,Kept.refl _ _ _ _⟩;rintro b ⟨k',bk,h1,h3⟩ q;obtain ⟨hne,h1⟩:=hsub k' bk h1
  rcases q with q | q
  ·exact hc.notE h1 h3 q
  ·exact hne (hc.inj k' k bk _ b h1 hm h3 q)
 refine wp_mono (h hF (hF.ok he) _ _ _ _ _ w hok hs2) fun ex a' w' hq=>?_;have back:∀ σ',SimE (e.plus E2 G2) (fun g=>∃ k' bk,gm (remM k m) k'=some bk∧Zay L k' bk g) w S nt σ' a' w'->SimE e U w0 S0 nt σ' a' w':=fun σ' ⟨S1,L1,h1⟩=>by
  have c1:=h1.cls;have hU:∀ b,(∃ k' bk,gm (remM k m) k'=some bk∧Zay L k' bk b)->w0.heap.size<=b∨U b:=fun b ⟨k',bk,q1,q2⟩=>hc.mine k' bk b (hsub k' bk q1).2 q2;refine ⟨S1,L1,⟨fun b hb=>⟨(c1.sin b hb).1,fun q=>(c1.sin b hb).2 (.inl q)⟩,fun b hb=>?_,hc.ein,hc.uin,Tbe hc.bsz c1.bsz,fun k' bk g q1 q2=>?_,c1.own,c1.inj,c1.g.1⟩,h1.rel,h1.size,h1.defers,⟨h1.kept.os.trans hs.kept.os,h1.kept.tape.trans hs.kept.tape,h1.kept.output.trans hs.kept.output,fun d=>Tbe (hs.kept.drawn d) (h1.kept.drawn d),Tbe hs.kept.size h1.kept.size,fun b hb hn=>?_⟩⟩
  ·rcases c1.sfr b hb with q | q | q
   ·exact hc.sfr b q
   ·exact .inr (.inl (Tbe hc.bsz q))
   ·exact .inr (hU b q)
  ·rcases c1.mine k' bk g q1 q2 with q | q
   ·exact .inl (Tbe hc.bsz q)
   ·exact hU g q
  ·refine (h1.kept.block b (Tbd hb hs.kept.size) fun q=>?_).trans (hs.kept.block b hb hn);rcases q with (q | q) | q
   ·exact hn (.inl q)
   ·rcases hc.mine k _ b hm (show Zay L k (.set E2 G1) b from q) with q | q
    ·omega
    ·exact hn (.inr q)
   ·rcases hU b q with q | q
    ·omega
    ·exact hn (.inr q)
 cases ex with
 | normal=>exact hq.elim fun σ' hq=>⟨σ',hq.1,back σ' hq.2⟩
 | exit id=>exact hq.elim fun σ' hq=>⟨σ',hq.1,back σ' hq.2⟩
 | ret=>exact hq.elim fun σ' hq=>⟨σ',hq.1,back σ' hq.2⟩
 | goto l=>exact hq
 | panic ch=>exact hq
 | outgrown=>exact hq
end
def ZB0 (e:Env) (a:Option Addr) (n:Nat):Prop:=0 < n->∃ (g off:Nat) (f:Nat->Nat),a=some ⟨g,off,none⟩∧(∀ j,f j < 256)∧∀ w,e.G w->∀ j,j < n->w.cell? ⟨g,off+j,none⟩=some (.int .u8 (f j))
theorem Zpu {P:Program} {w:World} {t:TypeId} {n g off len cap:Nat} {k:IntKind} {j:Int} (h:ZbL P t=some n) (hj:0<=j) (hl:j.toNat < len) :
  (Instr.indexAt t (.slice (some ⟨g,off,none⟩) len cap) (.int k j)).run P w=.ok (.pointer (some ⟨g,off+j.toNat * n,none⟩)) w:=by
 unfold ZbL at h;split at h
 ·rename_i el hu;simp only [Tav] at h;obtain ⟨i,hi,hn⟩:=h;have hlt:j < (len:Int):=om;simp [Instr.indexAt,asIntOf,underlying,hu,sizeOf,typeInfo,hi,hn,Addr.add_at,hj,hlt,Result.andThen]
 ·cases h
section
variable {e:Env} {U:Nat->Prop} {base:Nat} {S0:Nat->Prop} {σ:St} {o:Oper} {K:St->Prop}
theorem Zw5 {t:TypeId} {x i:Operand} (ho:o.op=.indexAddr t x i) {a:Option Addr} {g off n cap:Nat} {j:Int} (ha:a=some ⟨g,off,none⟩) (hx:evA σ.s x=.d (.one (.lit (.slice a n cap)))) (hi:evA σ.s i=.d (.one (.lit (.int .i64 j)))) (ht:ZbL e.P t=some 1) (h0:0<=j) (hl:j.toNat < n):ZaW e U base S0 σ.m o (evA σ.s) (.d (.one (.lit (.pointer (some ⟨g,off+j.toNat,none⟩))))):=by
 subst ha;refine ZaD fun w S L ρv hC hr=>?_;have hx':=hr x (by simp [ho,Op.operands]);have hi':=hr i (by simp [ho,Op.operands]);rw [hx] at hx';rw [hi] at hi';have hx':=Zbk hx';have hi':=Zbk hi';refine ⟨.pointer (some ⟨g,off+j.toNat,none⟩),?_,by simp [ARel,DRel,Rep]⟩;have:=Zpu (w:=w) (g:=g) (off:=off) (len:=n) (cap:=cap) (k:=.i64) ht h0 hl;rw [Nat.mul_one] at this;simp [execOp,ho,hi',hx',this,Result.andThen]
theorem Zw6 {t:TypeId} {x:Operand} (ho:o.op=.load t x) {g off k:Nat} (hx:evA σ.s x=.d (.one (.lit (.pointer (some ⟨g,off,none⟩))))) (hk:Za8 e.P t=some .one) (hb:∀ w,e.G w->w.cell? ⟨g,off,none⟩=some (.int .u8 k)):ZaW e U base S0 σ.m o (evA σ.s) (.d (.one (.lit (.int .u8 k)))):=by
 refine ZaD fun w S L ρv hC hr=>?_;have hx':=hr x (by simp [ho,Op.operands]);rw [hx] at hx';have hx':=Zbk hx';obtain ⟨v,h1,h2⟩:=Zjn (P:=e.P) (w:=w) (S:=S) (Bm:=L) (cs:=[.lit (.int .u8 k)]) (α:=.d (.one (.lit (.int .u8 k)))) hk (by simp only [Zaj,Rep];exact ⟨⟨_,hb w hC.g,rfl⟩,trivial⟩) rfl;exact ⟨v,by simp [execOp,ho,hx',h1,Result.andThen],h2⟩
end
section
variable {e:Env} {K:St->Prop} {ds:List (Option Nat)} {os:List Oper} {d t t' ty ty' d' q:Nat} {p p':String} {ed ed':Array Edge} {x i:Operand} {s:List (Nat × A)} {m:List (Nat × Bk)}
theorem Zig {o:Oper} {α:A} (hg:o.guard=none) (hal:isAl o=false) (hd:o.dst=some d) (h:∀ (U:Nat->Prop) (base:Nat) (S0:Nat->Prop),ZaW e U base S0 m o (evA s) α) (hK:Runs e ds (q - 1) os ⟨(d,α)::s,m⟩ K):Runs e ds q (o::os) ⟨s,m⟩ K:=by
 cases q with
 | zero =>
  simp only [Runs] at hK ⊢;refine ZcP hg fun he U w0 S0 nt a w Q hdn ⟨S,L,h1⟩=>Oper.wp_mono (fun a' w' hs=>⟨⟨(d,α)::s,m⟩,hK,?_⟩) (ZeU h1 hdn (h U w0.heap.size S0))
  rwa [hd,setA] at hs
 | succ n=>exact ZjY hg hal fun he=>⟨α,by rw [hd,setA];exact hK,h⟩
theorem gBy {a:Option Addr} {g off n cap:Nat} {f:Nat->Nat} {j:Int} (hb:∀ w,e.G w->∀ j,j < n->w.cell? ⟨g,off+j,none⟩=some (.int .u8 (f j))) (ha:a=some ⟨g,off,none⟩) (h0:0<=j) (hl:j.toNat < n) (hK:Runs e ds (q - 1 - 1) os ⟨(d',.d (.one (.lit (.int .u8 (f j.toNat)))))::(d,.d (.one (.lit (.pointer (some ⟨g,off+j.toNat,none⟩)))))::s,m⟩ K)
  (hx:evA s x=.d (.one (.lit (.slice a n cap))):=by exact sfx) (hi:evA s i=.d (.one (.lit (.int .i64 j))):=by exact sfx) (ht:ZbL e.P t=some 1:=by simp only [pz,↓reduceIte,Nat.reduceEqDiff,Nat.reduceAdd,Nat.reduceSub,Nat.reduceMul,Nat.reduceLeDiff,Nat.reduceBEq,Tam,decide_true,decide_false,Int.reduceLE,Int.reduceToNat,Int.reduceLT,Int.reduceEq,eq_self,Nat.reduceShiftRight,Nat.reduceAnd,Nat.reduceBneDiff,F]) (hk:Za8 e.P t'=some .one:=by simp only [pz,↓reduceIte,Nat.reduceEqDiff,Nat.reduceAdd,Nat.reduceSub,Nat.reduceMul,Nat.reduceLeDiff,Nat.reduceBEq,Tam,decide_true,decide_false,Int.reduceLE,Int.reduceToNat,Int.reduceLT,Int.reduceEq,eq_self,Nat.reduceShiftRight,Nat.reduceAnd,Nat.reduceBneDiff,F]) :
  Runs e ds q (⟨some d,.indexAddr t x i,ty,p,ed,none⟩::⟨some d',.load t' (.tmp d),ty',p',ed',none⟩::os) ⟨s,m⟩ K :=
 Zig rfl rfl rfl (fun U base S0=>Zw5 (σ:=⟨s,m⟩) rfl ha hx hi ht h0 hl) (Zig rfl rfl rfl (fun U base S0=>Zw6 (σ:=⟨_,m⟩) rfl (by simp [evA,gs]) hk fun w hw=>hb w hw j.toNat hl) hK)
end
structure Src where
 E2:Nat->Prop
 G2:World->Prop
 a:Option Addr
 n:Nat
 cap:Nat
noncomputable def eB (x:Src):Env:=e0.plus x.E2 x.G2
structure Src.Ok (x:Src):Prop where
 fit:Fits e0 x.E2 x.G2
 byt:ZB0 (eB x) x.a x.n
 len:x.n<=1048576
def curC (x:Src) (i h:Int):List C:=[.lit (.slice x.a x.n x.cap),.lit (.int .i64 i),.lit (.int .i64 h)]
abbrev curD (b:Nat):D:=.one (.lit (.pointer (some ⟨b,0,none⟩)))
abbrev ZjG (x:Src):D:=.one (.lit (.slice x.a x.n x.cap))
theorem ZlT:∀ x i h,curC x i h=[.lit (.slice x.a x.n x.cap),.lit (.int .i64 i),.lit (.int .i64 h)]:=fun _ _ _=>rfl
theorem eBP:∀ x,(eB x).P=Tryz.prog:=fun _=>rfl
theorem Src.Ok.ok {x:Src} (h:x.Ok):(eB x).Ok:=h.fit.ok Zjt
theorem Zw7 (a:Int):∃ k:Nat,k < 256∧bits .and .i64 a 255=k:=by
 have h:((BitVec.ofInt IntKind.i64.bits a) &&& (BitVec.ofInt IntKind.i64.bits 255)).toNat < 256:=by
  rw [BitVec.toNat_and];show (BitVec.ofInt 64 a).toNat &&& (BitVec.ofInt 64 255).toNat < 256;exact Nat.and_lt_two_pow (n:=8) _ (by decide)
 refine ⟨_,h,?_⟩;unfold bits;show IntKind.i64.wrap _=_;generalize ((BitVec.ofInt IntKind.i64.bits a) &&& (BitVec.ofInt IntKind.i64.bits 255)).toNat=k at h ⊢;exact wrap_i64 om om
section
variable {x:Src} {b:Nat}
theorem tmB:type_of% (aj3 @tmz @eBP @ZlT):=aj3 @tmz @eBP @ZlT
def RCur (x:Src) (r:List D) (pm:List Bk):Prop:=∃ (b:Nat) (h:Int),r=[curD b]∧pm=[.var (some b) (curC x 0 h)]
theorem Zpv (hx:x.Ok):ConP (eB x) 13 [ZjG x] [] (RCur x):=by
 have he:=hx.ok;have hl:=hx.len;refine gIP (ts:=[.slot 2]) [] 32797 Tryz.func13 ?_;refine fG @tmB ?_;have F:=@tmB;refine gL (ι:=Nat × Int) [3,4,15] [] (fun y=>[(4,A.d (.one (.lit (.int .i64 y.1)))),(3,.d (.one (.lit (.int .i64 y.2))))]) (fun y=>[]) (fun y=>y.1<=x.n) (fun y=>x.n - y.1) ((0,IntKind.i64.wrap (124929+(x.n:Int)))) (Taj _) (fun y hy=>?_);clear F;obtain ⟨i,h⟩:=y;dsimp only at hy ⊢;by_cases h1:i < x.n
 ·have q1:=lT i x.n;have wi:=Zat (k:=i) om;by_cases h2:i < 4000
  ·have q2:=lT i 4000;obtain ⟨g,off,f,ha,hf,hb⟩:=hx.byt om;refine fN 5 (aj3 @q1 @q2 @tmB) ?_;refine gB ?_;have F:=ai @ha @tmB;refine gP 4 ?_;clear F;have F:=tmB;refine gBy (cap:=x.cap) (j:=(i:Int)) hb ha om om ?_;clear F;refine fR @tmB ?_;have F:=ai @wi @tmB;refine gG ?_;exact ⟨(i+1,bits .and .i64 (IntKind.i64.wrap (IntKind.i64.wrap (IntKind.i64.wrap (h * 131)+IntKind.i64.wrap ((f (i:Int).toNat:Nat):Int))+7)) 1073741823),h1,gw,gw,om⟩
  ·have q2:=lF i 4000;refine fG (aj3 @q1 @q2 @tmB) ?_;refine pV 31 fun b _=>?_;exact (have F:=tmB;gTP (R:=RCur x) [31] ⟨b,h,rfl,rfl⟩)
 ·have q1:=lF i x.n;refine fG (ai @q1 @tmB) ?_;refine pV 31 fun b _=>?_;exact (have F:=tmB;gTP (R:=RCur x) [31] ⟨b,h,rfl,rfl⟩)
def Ztv (x:Src) (b:Nat) (r:List D) (pm:List Bk):Prop:=(∃ k:Nat,k < 256∧r=[.one (.lit (.int .i64 k))])∧∃ i h:Int,0<=i∧pm=[.var (some b) (curC x i h)]
theorem Zw8 (hx:x.Ok) {i h:Int} (hi:0<=i):ConP (eB x) 83 [curD b] [.var (some b) (curC x i h)] (Ztv x b):=by
 have he:=hx.ok;have hl:=hx.len;rw [curC];refine gIP (ts:=[.slot 2]) [1000] 17179869197 Tryz.func83 ?_;refine fN 3 @tmB ?_;generalize IntKind.i64.wrap (IntKind.i64.wrap (h * 6364136223846793005)+1442695040888963407)=h;obtain ⟨k1,hk1,e1⟩:=Zw7 (bits .xor .i64 (h.fdiv (2 ^ min 33 64)) (h.fdiv (2 ^ min 45 64)));rw [e1];by_cases h1:i < x.n
 ·have q1:(i < (x.n:Int))=True:=eq_true h1;have wi:IntKind.i64.wrap (i+1)=i+1:=IntWalk.i64_in _ om;obtain ⟨g,off,f,ha,hf,hb⟩:=hx.byt om;refine fN 4 (ai @q1 @tmB) ?_;refine gB ?_;have F:=@tmB;refine gP 9 ?_;clear F;have F:=tmB;refine gBy (cap:=x.cap) (j:=i) hb ha hi om ?_;clear F;refine fR @tmB ?_;obtain ⟨k2,hk2,e2⟩:=Zw7 (IntKind.i64.wrap ((k1:Int)+IntKind.i64.wrap ((f i.toNat:Nat):Int)));rw [e2];refine fG (ai @wi @tmB) ?_
  exact (have F:=tmB;gTP (R:=Ztv x b) [1000] ⟨⟨k2,hk2,rfl⟩,i+1,h,om,rfl⟩)
 ·have q1:(i < (x.n:Int))=False:=eq_false h1;refine fG (ai @q1 @tmB) ?_;exact (have F:=tmB;gTP (R:=Ztv x b) [1000] ⟨⟨k1,hk1,rfl⟩,i,h,hi,rfl⟩)
def curG (x:Src) (b:Nat) (w:World):Prop:=¬ (eB x).E b∧∃ i h:Int,0<=i∧(∃ arr ty,w.heap[b]?=some (.cells arr ty (0,0))∧arr.size=3)∧Zaj w (fun _=>False) b 0 (curC x i h)
noncomputable def eC (x:Src) (b:Nat):Env:=(eB x).plus (fun c=>c=b) (curG x b)
theorem eCP:∀ x b,(eC x b).P=Tryz.prog:=fun _ _=>rfl
theorem Ze7 {w w':World} {S S':Nat->Prop} {b:Nat} {x:Src} {i h:Int} (hc:∀ o,w'.cell? ⟨b,o,none⟩=w.cell? ⟨b,o,none⟩) (hr:Zaj w S b 0 (curC x i h)):Zaj w' S' b 0 (curC x i h):=by
 simp only [curC,Zaj,Rep,hc] at hr ⊢;exact hr
theorem ZeI:Fits (eB x) (fun c=>c=b) (curG x b):=⟨fun w w' hz hE ⟨h1,i,h,h0,h2,h3⟩=>⟨h1,i,h,h0,by rw [hE b rfl];exact h2,Ze7 (fun o=>Zbg (hE b rfl) o) h3⟩,fun w h c hc=>hc ▸ h.1⟩
theorem Src.Ok.okC (h:x.Ok):(eC x b).Ok:=ZeI.ok h.ok
theorem tmC:type_of% (aj3 @tmz @eCP @ZlT):=aj3 @tmz @eCP @ZlT
section
variable {f:FuncId} {args r:List D} {R:List D->Prop}
theorem Con.bt (hx:x.Ok) (h:Con e0 f args r):Con (eB x) f args r:=Con.up hx.fit h
theorem Con.cu (hx:x.Ok) (h:Con e0 f args r):Con (eC x b) f args r:=Con.up ZeI (Con.up hx.fit h)
theorem ConE.cu (hx:x.Ok) (h:ConE e0 f args R):ConE (eC x b) f args R:=ConE.up ZeI (ConE.up hx.fit h)
theorem ConP.cu (hx:x.Ok) {pm:List Bk} {R:List D->List Bk->Prop} (h:ConP e0 f args pm R):ConP (eC x b) f args pm R:=ConP.up ZeI (ConP.up hx.fit h)
theorem ConR.cu (hx:x.Ok) {ty sz:Nat} {rows:List (List C)} (h:ConR e0 f args ty sz rows):ConR (eC x b) f args ty sz rows:=ConR.up ZeI (ConR.up hx.fit h)
theorem Con.toE {e:Env} (h:Con e f args r):ConE e f args (fun y=>y=r):=⟨h.1,fun w S vs hS hE hG hvs=>(h.2 w S vs hS hE hG hvs).mono fun en w' ⟨v,h1,h2⟩=>⟨v,r,h1,rfl,h2⟩⟩
theorem ZyF (h:∀ i h:Int,0<=i->ConP (eB x) f args [.var (some b) (curC x i h)] (fun r pm=>R r∧∃ i h:Int,0<=i∧pm=[.var (some b) (curC x i h)])):ConE (eC x b) f args R:=by
 refine ⟨(h 0 0 (by decide)).1,fun w S vs hS hE hG hvs=>?_⟩;obtain ⟨hnE,i,hh,hi,⟨arr,ty,hb,hsz⟩,hr⟩:=hG.2;have hbl:b < w.heap.size:=(Tbl.1 hb).1;refine ((h i hh hi).2 w S vs (fun c hc=>⟨(hS c hc).1,fun q=>(hS c hc).2 (.inl q)⟩) (fun c hc=>hE c (.inl hc)) hG.1 (fun y hy=>?_) ⟨fun y hy=>(by cases hy),trivial⟩ hvs).mono fun en w' ⟨v,r,pm,h1,⟨hR,i',h',hi',hpm⟩,hk,hg,hp,_,ha⟩=>?_
 ·obtain rfl:=Tbj.1 hy;exact ⟨⟨hbl,fun q=>(hS b q).2 (.inr rfl),⟨arr,ty,hb,by rw [hsz];rfl⟩,Ze7 (fun _=>rfl) hr⟩,fun g hg=>by have hg:b=g:=hg;subst hg;exact hnE⟩
 ·subst hpm;obtain ⟨hp1,hp2⟩:=hp _ (Tbj.2 rfl);obtain ⟨q1,q2,⟨arr',ty',q3,q4⟩,q5⟩:=hp1;have hpb:∀ (cs:List C) (c:Nat),Za7 [.var (some b) cs] c ↔ c=b:=fun cs c=>⟨fun ⟨y,hy,hg⟩=>by obtain rfl:=Tbj.1 hy;exact Eq.symm hg,fun q=>⟨_,Tbj.2 rfl,Eq.symm q⟩⟩;refine ⟨v,r,h1,hR,hk.up fun c q=>q.elim .inl fun q=>.inr ((hpb _ c).1 q),⟨hg,hnE,i',h',hi',⟨arr',ty',q3,by rw [q4];rfl⟩,Ze7 (fun _=>rfl) q5⟩,ha.keep (Tai _) (fun _ _ _=>rfl) fun c hc=>?_⟩
  rcases hc.1 with q | q | q
  ·exact .inl q
  ·exact absurd ((hpb _ c).2 ((hpb _ c).1 q)) hc.2
  ·exact .inr q
end
def RNat (n:Nat) (r:List D):Prop:=∃ k:Nat,k < n∧r=[.one (.lit (.int .i64 k))]
theorem Zw9 (hx:x.Ok):ConE (eC x b) 83 [curD b] (RNat 256):=ZyF fun i h hi=>Zw8 hx hi
theorem gTE {X:Prop} {P:Program} {ts:List RS} {R:List D->Prop} {σ σ1:St} {r:List D} (ks:List Nat) (hR:R r) (hx:ZnW P ts R .ret σ->X:=by exact fun h=>Zfc h) (hf:frzs ks σ=σ1:=by exact sfx) (hr:resD P σ1 ts=some r:=by exact sfx):X:=hx (ZBL ks r hR hf (Zfd hr))
theorem ZbX (hx:x.Ok) {n:Nat} (h1:1<=n) (h2:n<=256):ConE (eC x b) 46 [curD b,.one (.lit (.int .i64 n))] (RNat n):=by
 have he:=hx.okC (b:=b);have q1:((n:Int)<=0)=False:=eq_false om;have q2:((n:Int)<=256)=True:=eq_true om;have q3:((n:Int)=0)=False:=eq_false om;refine gIE (ts:=[.slot 4]) 5619 Tryz.func46 ?_;refine fN 4 (aj3 @q1 @q2 @tmC) ?_;refine gB ?_;have F:=@tmC;refine gCE (Zw9 hx) ?_;clear F;rintro r ⟨k,hk,rfl⟩;refine fR (ai @q3 @tmC) ?_;have e:(k:Int).tmod n=((k % n:Nat):Int):=rfl;rw [e];have hR:RNat n [.one (.lit (.int .i64 ((k % n:Nat):Int)))]:=⟨_,Nat.mod_lt _ h1,rfl⟩
 exact (have F:=tmC;gTE [] hR)
def ZAj (r:List D):Prop:=∃ y:Bool,r=[.one (.lit (.bool y))]
theorem Zb2 (hx:x.Ok) {n:Nat} (h1:1<=n) (h2:n<=256):ConE (eC x b) 41 [curD b,.one (.lit (.int .i64 n))] ZAj:=by
 have he:=hx.okC (b:=b);refine gIE (ts:=[.slot 4]) 19 Tryz.func41 ?_;refine fN 1 @tmC ?_;refine gB ?_;have F:=@tmC;refine gCE (ZbX hx h1 h2) ?_;clear F;rintro r ⟨k,hk,rfl⟩;refine fR @tmC ?_;exact (have F:=tmC;gTE (R:=ZAj) [] ⟨_,rfl⟩)
def ROf (l:List ByteArray) (r:List D):Prop:=∃ s∈l,r=[.one (.lit (.string s))]
theorem Znm (hx:x.Ok) {l:List ByteArray} (h1:1<=l.length) (h2:l.length<=256):ConE (eC x b) 47 [curD b,.one (.sl (l.map ZbR))] (ROf l):=by
 have he:=hx.okC (b:=b);refine gIE (ts:=[.slot 4]) 19 Tryz.func47 ?_;refine fN 1 @tmC ?_;refine gB ?_;have F:=@tmC;refine gCE (ZbX hx h1 h2) ?_;clear F;rintro r ⟨k,hk,rfl⟩;have hg:(l.map ZbR)[k]?=some (ZbR l[k]):=by rw [Tba,Taa hk];rfl
 refine fR (ai @hg @tmC) ?_;exact (have F:=tmC;gTE (R:=ROf l) [] ⟨l[k],List.getElem_mem hk,rfl⟩)
theorem gXc {K:St->Prop} {ds:List (Option Nat)} {os:List Oper} {d t ty:Nat} {p:String} {ed:Array Edge} {parts:List (Nat × Operand)} {s:List (Nat × A)} {m:List (Nat × Bk)} {cs cs':List C} (hK:Runs (eC x b) ds 0 os ⟨(d,.d (.agg cs'))::s,m⟩ K)
  (hz:ZdD e0.P t=some cs:=by exact sny) (hst:Zbv e0.P t=true:=by exact sny) (hok:cs.all Zau=true:=by first | rfl | exact sny) (hf:Zc4 e0.P t cs (parts.map fun p=>(p.1,evA s p.2))=some cs':=by exact sfv):Runs (eC x b) ds 0 (⟨some d,.build t parts.toArray,ty,p,ed,none⟩::os) ⟨s,m⟩ K:=gX hK hz hst hok hf
end
section
variable {e:Env} {σ:St} {o:Oper} {K:St->Prop}
theorem ZyG {t:TypeId} {n d ety sz by':Nat} {parts:Array (Nat × Operand)} {rows:List (List C)} (ho:o.op=.buildSlice t n parts) (hds:o.dst=some d) (hb:Zbj e.P t=some (ety,sz,by')) (hn:parts.size=n∧n * sz<=16777216) (h0n:0 < n) (hp:ZdX sz 0 (parts.toList.map fun p=>(p.1,evA σ.s p.2))=some rows)
  (hK:K ⟨(d,.buf d)::Zaq d σ.s,(d,.buf none ety sz rows)::remM d σ.m⟩):ZbN e o σ K:=by
 intro he U w0 S0 nt a w Q hd ⟨S,L,h1⟩;obtain ⟨i,z,hu,hi,hz,hsz,hby,hzs,hs0,_⟩:=ZcV hb;obtain ⟨q1,q2,q3,q4,q5⟩:=Zg9 (w:=w) (S:=S) (L:=L) (vs:=parts.toList.map fun p=>a.eval p.2) hp (by simp) (mapv (fun p hp=>h1.eval p.2));simp only [Tay,Array.length_toList,List.map_map] at q1 q3;generalize hvs:(parts.toList.map fun p=>a.eval p.2)=vs at q4 q5;have hvl:vs.length=n:=by rw [<- hvs];simp [hn.1]
 have hparts:(parts.map fun (p:Nat × Operand)=>(p.1,a.eval p.2)).toList=(vs.zipIdx 0).map fun x=>(x.2,x.1):=by
  have:=ZiB (parts.map fun (p:Nat × Operand)=>(p.1,a.eval p.2)).toList 0 (by simpa [Function.comp_def] using q3);rw [this,<- hvs];simp [Function.comp_def]
 have hbs:(Instr.buildSlice t n (parts.map fun (p:Nat × Operand)=>(p.1,a.eval p.2))).run e.P w=.ok (.slice (some ⟨w.heap.size,0,none⟩) n n) (w.alloc (.cells (vs.flatMap fun v=>v.cells.toList).toArray ety)):=by
  have h0:¬ n * i.size=0:=fun h=>by rw [hsz] at h;rcases Nat.mul_eq_zero.1 h with h | h <;> omega
  have hfill:=Go.Great.fill_whole hs0 vs ((Array.range (n * i.size)).map (z.cells[· % z.cells.size]!)) q4 (by simp [hvl,hsz]);refine run_buildSlice w t ety n _ _ i z hu hi hz (by rw [hsz];omega) h0 ?_;rw [hparts,hsz] at *;exact hfill
 have hlen:(vs.flatMap fun v=>v.cells.toList).length=n * sz:=by rw [q5.len,Zb5 q2,q1,hn.1]
 have hcell:∀ j u,(vs.flatMap fun v=>v.cells.toList)[j]?=some u->(w.alloc (.cells (vs.flatMap fun v=>v.cells.toList).toArray ety)).cell? ⟨w.heap.size,0+j,none⟩=some u:=fun j u hj=>by
  rw [Nat.zero_add];exact Zl6 rfl (by simpa using hj)
 have hnew:=heap_alloc_new w (.cells (vs.flatMap fun v=>v.cells.toList).toArray ety);have hb0:Below w.heap.size w (w.alloc (.cells (vs.flatMap fun v=>v.cells.toList).toArray ety)):=ZdW w _;have hzW:(w.alloc (.cells (vs.flatMap fun v=>v.cells.toList).toArray ety)).heap.size=w.heap.size+1:=by simp
 have hdr:(w.alloc (.cells (vs.flatMap fun v=>v.cells.toList).toArray ety)).drawn=w.drawn:=rfl;generalize hW:w.alloc (.cells (vs.flatMap fun v=>v.cells.toList).toArray ety)=W at hbs hcell hb0 hzW hnew hdr;have hC:=h1.cls;have hg:e.G W:=he.keep _ _ hb0.size (fun b hE=>hb0.block b (Tbd (hC.ein b hE) hC.bsz)) hC.g;have hkp:Kept e.D e.E w.heap.size w W:=Kept.of_below hb0 (fun _=>by rw [hdr];exact Tai _)
 have hrun:(execOp a.eval o).run e.P w=.ok (.value (.slice (some ⟨w.heap.size,0,none⟩) n n)) W:=by
  simp only [execOp,ho,Sem.run_bind];have e1:(parts.map fun x=>match x with | (i,x)=>(i,a.eval x))=parts.map fun (p:Nat × Operand)=>(p.1,a.eval p.2):=rfl;rw [e1,hbs];rfl
 have hS:∀ b,S b->b < w.heap.size:=fun b hb=>(hC.sin b hb).1;have hgv:gives e.P o a.eval w fun v w'=>v=.slice (some ⟨w.heap.size,0,none⟩) n n∧w'=W:=by
  unfold gives;rw [hrun];exact ⟨rfl,rfl⟩
 refine Zc0 hgv fun v w' ⟨e1,e2⟩=>⟨_,hK,?_⟩;subst e1 e2;rw [hds];have hq5:Zad w' S rows.flatten (vs.flatMap fun v=>v.cells.toList):=Zad.keep2 hkp.size (hC.cell hkp) (fun _ h=>h) q5;refine h1.bornE (hd d hds) (τ:=none) (b':=0) (v':=.slice (some ⟨w.heap.size,0,none⟩) n n) (S':=S) (fun _ h=>h) (fun _ h=>.inl h) (fun t=>.inl rfl) (fun k x h=>h) (by simp) (by simp) ⟨hkp.os,hkp.tape,hkp.output,hkp.drawn,hkp.size,fun b hb hE=>hkp.block b hb (fun h=>hE (.inl h))⟩ hg ?_ (fun g hg=>?_) (by simp [ARel])
 ·simp only [Own1,if_true];refine ⟨by simp,hs0,q2,.inr ⟨w.heap.size,n,(vs.flatMap fun v=>v.cells.toList).toArray,by rw [q1,hn.1],h0n,om,fun h=>by have:=hS _ h;omega,hnew,om,?_,by simpa using hlen,Zap.of_flat (Zaj.of_vals _ _ 0 hq5 hcell)⟩⟩;have:n * 1<=n * sz:=Nat.mul_le_mul_left n hs0;unfold maxLen;omega
 ·simp only [Zay,if_true,vblk] at hg;rw [if_neg om] at hg;injection hg with hg
  subst hg;exact .inr (Tai _)
end
theorem gBs {e:Env} {K:St->Prop} {ds:List (Option Nat)} {os:List Oper} {d t n ty ety sz by':Nat} {p:String} {ed:Array Edge} {parts:List (Nat × Operand)} {s s2:List (Nat × A)} {m m2:List (Nat × Bk)} {rows:List (List C)} (hK:Runs e ds 0 os ⟨(d,.buf d)::s2,(d,.buf none ety sz rows)::m2⟩ K)
  (hb:Zbj e.P t=some (ety,sz,by'):=by exact sfx) (hp:ZdX sz 0 (parts.map fun p=>(p.1,evA s p.2))=some rows:=by exact sfv) (hs:Zaq d s=s2:=by exact snv) (hr:remM d m=m2:=by exact snv) (hn:parts.length=n∧n * sz<=16777216:=by decide) (h0n:0 < n:=by decide):Runs e ds 0 (⟨some d,.buildSlice t n parts.toArray,ty,p,ed,none⟩::os) ⟨s,m⟩ K:=by
 subst hs hr;simp only [Runs] at hK ⊢;exact ZcP rfl (ZyG (o:=⟨some d,.buildSlice t n parts.toArray,ty,p,ed,none⟩) rfl rfl hb (by simpa using hn) h0n (by simpa using hp) hK)
def ZBC (e:Env) (U:Nat->Prop) (w0:World) (S0:Nat->Prop) (m:List (Nat × Bk)) (o:Oper) (ρ:Operand->A) (Φ:A->List (Nat × Bk)->Prop) (ks:List Nat):Prop :=
 ∀ (w:World) (S:Nat->Prop) (L:Lay) (ρv:Operand->Value),Cls e U w0.heap.size S0 m w S L->Kept e.D (fun b=>e.E b∨U b) w0.heap.size w0 w->(∀ x,x∈o.op.operands->ARel w S L (ρ x) (ρv x)) ->
  gives e.P o ρv w fun v w'=>∃ α mx,Φ α mx∧∃ (S':Nat->Prop) (L':Lay),(∀ b,S' b->S b∨w.heap.size<=b)∧Cls e U w0.heap.size S0 (mx++m) w' S' L'∧Kept e.D e.E w.heap.size w w'∧ARel w' S' L' α v∧(∀ x u,(∀ k∈ks,¬ ZdZ k x)->ARel w S L x u->ARel w' S' L' x u)∧∀ k bk g,gm (mx++m) k=some bk->Zay L' k bk g->w.heap.size<=g∨∃ k' bk',gm m k'=some bk'∧Zay L k' bk' g
def ZhN (e:Env) (o:Oper) (σ:St) (K:St->Prop):Prop:=e.Ok->∃ (Φ:A->List (Nat × Bk)->Prop) (ks:List Nat),(∀ α mx,Φ α mx->K ⟨setA σ.s o.dst α,mx++σ.m⟩)∧(∀ t,∀ k∈ks,¬ ZdZ k (gs σ.s t))∧(∀ α mx,Φ α mx->∀ k x,gm σ.m k=some x->gm (mx++σ.m) k=some x)∧∀ (U:Nat->Prop) (w0:World) (S0:Nat->Prop),ZBC e U w0 S0 σ.m o (evA σ.s) Φ ks
theorem ZaW.ext {e:Env} {U:Nat->Prop} {base:Nat} {S0:Nat->Prop} {m m':List (Nat × Bk)} {o:Oper} {ρ:Operand->A} {α:A} (h:ZaW e U base S0 m o ρ α) (hm:∀ k x,gm m k=some x->gm m' k=some x):ZaW e U base S0 m' o ρ α:=fun w S L ρv hC hr=>by
 have hC0:Cls e U base S0 m w S L:=⟨hC.sin,hC.sfr,hC.ein,hC.uin,hC.bsz,fun k bk g hk=>hC.mine k bk g (hm k bk hk),fun k bk hk=>hC.own k bk (hm k bk hk),fun k k' x x' g h1 h2=>hC.inj k k' x x' g (hm _ _ h1) (hm _ _ h2),hC.g⟩;have:=h w S L ρv hC0 hr;unfold gives at this ⊢;revert this;generalize (execOp ρv o).run e.P w=r;have hX:∀ (v:Value) (w':World),(∃ S':Nat->Prop,((∀ b,S b->S' b)∧∀ b,S' b->S b∨w.heap.size<=b)∧Cls e U base S0 m w' S' L∧Kept e.D e.E w.heap.size w w'∧ARel w' S' L α v)->∃ S':Nat->Prop,((∀ b,S b->S' b)∧∀ b,S' b->S b∨w.heap.size<=b)∧Cls e U base S0 m' w' S' L∧Kept e.D e.E w.heap.size w w'∧ARel w' S' L α v:=fun v w' ⟨S',hS,h1,hk,ha⟩=>⟨S',hS,hC.later hk h1.g hS.1 (fun b hb=>(hS.2 b hb).imp id fun q=>⟨q,(h1.sin b hb).1⟩),hk,ha⟩
 intro h
 cases r with
 | ok x w' =>
  cases x <;> first
   | exact hX _ _ h
   | exact Calls.mono h fun en w' ⟨v,h1,h2⟩=>⟨v,h1,hX _ _ h2⟩
   | exact h.elim
 | halt x w'=>exact h.elim
theorem Ztw {P:Program} {o:Oper} {ρ:Operand->Value} {w:World} {R R':Value->World->Prop} (h:gives P o ρ w R) (hR:∀ v w',R v w'->R' v w'):gives P o ρ w R':=by
 unfold gives at h ⊢;revert h;generalize (execOp ρ o).run P w=r;intro h
 cases r with
 | ok x w' =>
  cases x <;> first
   | exact hR _ _ h
   | exact Calls.mono h fun en w' ⟨v,h1,h2⟩=>⟨v,h1,hR _ _ h2⟩
   | exact h.elim
 | halt x w'=>exact h.elim
theorem ZeN.toN {e:Env} {o:Oper} {σ:St} {K:St->Prop} (h:ZeN e o σ K):ZhN e o σ K:=fun he=>by
 obtain ⟨α,h1,h2⟩:=h he;exact ⟨fun x mx=>x=α∧mx=[],[],fun x mx ⟨hx,hm⟩=>by rw [hx,hm];exact h1,fun t k hk=>(by cases hk),fun x mx ⟨_,hm⟩ k y hy=>by rw [hm];exact hy,fun U w0 S0 w S L ρv hC _ hr=>Ztw (h2 U w0.heap.size S0 w S L ρv hC hr) fun v w' ⟨S',hS,hC',hk,ha⟩=>⟨α,[],⟨rfl,rfl⟩,S',L,hS.2,hC',hk,ha,fun x u _ hx=>hx.keep hk.size (hC.cell hk) hS.1,fun k bk g h1 h2=>.inr ⟨k,bk,h1,h2⟩⟩⟩
def NRun (e:Env) (ds:List (Option Nat)):List Oper->St->(St->Prop)->Prop
 | [],σ,K=>K σ
 | o::os,σ,K=>match o.guard with
  | none=>ZhN e o σ (fun σ'=>NRun e ds os σ' K)
  | some (j,want)=>match (ds[j]?.join).map (gs σ.s) with
   | some (.d (.one (.lit (.bool b))))=>if b=want then ZhN e o σ (fun σ'=>NRun e ds os σ' K) else NRun e ds os ⟨setA σ.s o.dst .no,σ.m⟩ K
   | some .no=>NRun e ds os ⟨setA σ.s o.dst .no,σ.m⟩ K
   | _=>False
def ZaK:List Nat->List Oper->List Oper
 | [],_=>[]
 | i::D,l=>match l[i]? with
  | some o=>o::ZaK D l
  | none=>ZaK D l
theorem Zg6 {l:List Oper}:∀ {D:List Nat},(∀ i∈D,i < l.length)->(ZaK D l).length=D.length∧∀ (q i:Nat),D[q]?=some i->(ZaK D l)[q]?=l[i]?
 | [],_=>⟨rfl,fun q i h=>by simp at h⟩
 | j::D,h=>by
  obtain ⟨h1,h2⟩:=Zg6 (l:=l) (D:=D) fun i hi=>h i (Tal _ hi);have hj:=Taa (h j Tas);simp only [ZaK,hj];refine ⟨by simp [h1],fun q i hq=>?_⟩
  cases q with
  | zero=>simp only [Tat,Taq] at hq ⊢;subst hq;rw [hj]
  | succ q=>simp only [Tau] at hq ⊢;exact h2 q i hq
def Zgb (ops:Array Oper) (n:Nat) (D N:List Nat):Bool :=
 (List.range n).all (fun i=>D.contains i != N.contains i) && D.all (fun i=>decide (i < n)) && N.all (fun i=>decide (i < n)) && decide (D.Pairwise (· < ·)) && decide (N.Pairwise (· < ·)) &&
 D.all (fun i=>match ops[i]? with
  | none=>false
  | some o=>o.guard.isNone && (List.range n).all fun j=>match ops[j]? with
   | none=>false
   | some p=>!(Zce o).any (fun t=>p.dst==some t) || D.contains j) &&
 (List.range N.length).all fun q=>match N[q]?,N[q+1]? with
  | some i,some j=>Region.waitsFor .any ops j i
  | _,_=>true
section
variable {e:Env} {U:Nat->Prop} {w0:World} {S0:Nat->Prop} {nt:Nat} {ops:Array Oper} {n:Nat}
structure PartAt (ops:Array Oper) (n:Nat) (D N:List Nat):Prop where
 cov:∀ i,i < n->(i∈D∧i ∉ N)∨(i ∉ D∧i∈N)
 dlt:∀ i∈D,i < n
 nlt:∀ i∈N,i < n
 dpw:D.Pairwise (· < ·)
 npw:N.Pairwise (· < ·)
 dg:∀ i∈D,∀ o,ops[i]?=some o->o.guard=none∧∀ j p t,j < n->ops[j]?=some p->t∈Zce o->p.dst=some t->j∈D
 nch:∀ (q i j:Nat),N[q]?=some i->N[q+1]?=some j->Region.waitsFor .any ops j i=true
theorem Zgb.at' {D N:List Nat} (h:Zgb ops n D N=true):PartAt ops n D N:=by
 simp only [Zgb,Tar] at h;obtain ⟨⟨⟨⟨⟨⟨h1,h2⟩,h3⟩,h4⟩,h5⟩,h6⟩,h7⟩:=h;refine ⟨fun i hi=>?_,fun i hi=>?_,fun i hi=>?_,of_decide_eq_true h4,of_decide_eq_true h5,fun i hi o ho=>?_,fun q i j hi hj=>?_⟩
 ·have:=List.all_eq_true.1 h1 i (List.mem_range.2 hi);by_cases hd:i∈D <;> by_cases hn:i∈N <;> simp [hd,hn] at this ⊢
 ·simpa using List.all_eq_true.1 h2 i hi
 ·simpa using List.all_eq_true.1 h3 i hi
 ·have:=List.all_eq_true.1 h6 i hi;rw [ho] at this;simp only [Tar,Option.isNone_iff_eq_none] at this;refine ⟨this.1,fun j p t hj hp ht hpt=>?_⟩;have h8:=List.all_eq_true.1 this.2 j (List.mem_range.2 hj);rw [hp] at h8;simp only [Bool.or_eq_true,Bool.not_eq_true'] at h8;rcases h8 with h8 | h8
  ·have:=List.any_eq_false.1 h8 t ht;simp [hpt] at this
  ·simpa using h8
 ·have hq:q < N.length:=(Tad.1 hi).1;have:=List.all_eq_true.1 h7 q (List.mem_range.2 hq);rw [hi,hj] at this;exact this
def DAll (e:Env) (U:Nat->Prop) (base:Nat) (S0:Nat->Prop) (m:List (Nat × Bk)) (ops:Array Oper) (D:List Nat) (s1:List (Nat × A)):Prop:=∀ i∈D,∀ o d,ops[i]?=some o->o.dst=some d->ZaW e U base S0 m o (evA s1) (gs s1 d)
theorem ZsF {D N:List Nat} {m:List (Nat × Bk)} {s:List (Nat × A)} {αs:List A} (hH:Zb7 ops n=true) (hP:PartAt ops n D N) (hn:n<=ops.size) (hal:αs.length=D.length) (hch:Zci e U w0.heap.size S0 m ops.toList (ZaK D ops.toList) s αs) :
  DAll e U w0.heap.size S0 m ops D (after s (ZaK D ops.toList) αs)∧∀ t,(∀ (i:Nat) (o:Oper),i∈D->ops[i]?=some o->o.dst≠some t)->gs (after s (ZaK D ops.toList) αs) t=gs s t:=by
 have hsz:ops.toList.length=ops.size:=by simp
 obtain ⟨pl,pg⟩:=Zg6 (l:=ops.toList) (D:=D) fun i hi=>by have:=hP.dlt i hi;omega
 have hat:∀ (q:Nat) (p:Oper),(ZaK D ops.toList)[q]?=some p->∃ j,D[q]?=some j∧ops[j]?=some p:=fun q p hq=>by
  have hql:q < D.length:=by have:=(Tad.1 hq).1;omega
  refine ⟨D[q],Taa hql,?_⟩;have:=pg q _ (Taa hql);rw [hq] at this;simpa using this.symm
 refine ⟨fun i hi o d ho hd=>?_,fun t ht=>Zcj _ _ _ fun p hp=>?_⟩
 ·obtain ⟨q,hq⟩:=Tbk hi;have hqo:(ZaK D ops.toList)[q]?=some o:=by rw [pg q i hq];simpa using ho
  obtain ⟨α,hα,hst⟩:=hch.get q o hqo;obtain ⟨hg,hdep⟩:=hP.dg i hi o ho;unfold Zew at hst;rw [hg] at hst;obtain ⟨o',d',hA⟩:=Zb7.get hH (hP.dlt i hi);obtain rfl:o'=o:=by have:=hA.op;rw [ho] at this;injection this with this;exact this.symm
  have hdd:d'=d:=by have:=hA.dst;rw [hd] at this;injection this with this;exact this.symm
  subst hdd;have hgd:gs (after s (ZaK D ops.toList) αs) d'=α:=Zdi _ αs s q o' α hqo hα hd fun j p hj hp hpd=>by
   obtain ⟨i',hi',hp'⟩:=hat j p hp;have hne:i'≠i:=fun e'=>by
    subst e';have h1:=Tad.1 hi';have h2:=Tad.1 hq;have h3:=hP.dpw;rw [List.pairwise_iff_getElem] at h3;rcases Nat.lt_or_gt_of_ne hj with h4 | h4
    ·have:=h3 j q h1.1 h2.1 h4;omega
    ·have:=h3 q j h2.1 h1.1 h4;omega
   exact (hA.dep i' p (hP.dlt i' (Tac hi')) hp').1 hne hpd
  rw [hgd];have hcong:∀ x∈o'.op.operands,evA (after s ((ZaK D ops.toList).take q) (αs.take q)) x=evA (after s (ZaK D ops.toList) αs) x:=fun x hx=>by
   cases x with
   | tmp t =>
    simp only [evA];have hts:t∈Zce o':=List.mem_filterMap.2 ⟨.tmp t,by simpa using hx,rfl⟩;have e1:after s (ZaK D ops.toList) αs=after (after s ((ZaK D ops.toList).take q) (αs.take q)) ((ZaK D ops.toList).drop q) (αs.drop q):=by
     rw [<- ZgZ _ _ _ _ _ (by simp [hal,pl]),Tbm,Tbm]
    rw [e1];refine (Zcj _ _ _ fun p hp hpt=>?_).symm;obtain ⟨r,hr⟩:=Tbk hp;rw [Tbb] at hr;obtain ⟨j,hj,hpj⟩:=hat _ p hr;have hjD:=Tac hj;have hw:=(hA.dep j p (hP.dlt j hjD) hpj).2 t hts hpt;obtain ⟨ed,h1,h2,h3⟩:=hA.waits hw;have hlt:=hA.back ed h1 h2;rw [h3] at hlt;have h4:=Tad.1 hj;have h5:=Tad.1 hq;have h6:=hP.dpw;rw [List.pairwise_iff_getElem] at h6;rcases Nat.eq_zero_or_pos r with h7 | h7
    ·subst h7;simp only [Nat.add_zero] at h4;have:=h4.2;have:=h5.2;omega
    ·have:=h6 q (q+r) h5.1 h4.1 om;omega
   | const v=>rfl
   | func f=>rfl
   | global g=>rfl
  intro w S L ρv hC hr;exact hst w S L ρv hC fun x hx=>by rw [hcong x hx];exact hr x hx
 ·obtain ⟨q,hq⟩:=Tbk hp;obtain ⟨j,hj,hpj⟩:=hat q p hq;exact ht j p (Tac hj) hpj
structure InvN (e:Env) (U:Nat->Prop) (w0:World) (S0:Nat->Prop) (nt:Nat) (m0:List (Nat × Bk)) (ops:Array Oper) (n:Nat) (D N:List Nat) (s1:List (Nat × A)) (K:St->Prop) (rest:List Nat) (s:List (Nat × A)) (m:List (Nat × Bk)) (L:Lay) (listed:Array Bool) (a:Act) (w:World) (S:Nat->Prop):Prop where
 ext:∀ k x,gm m0 k=some x->gm m k=some x
 head:HeadInv .any ops n listed
 size:a.tmps.size=nt
 defers:a.defers=[]
 cls:Cls e U w0.heap.size S0 m w S L
 kept:Kept e.D (fun b=>e.E b∨U b) w0.heap.size w0 w
 rel:∀ t,(∀ (i:Nat) (o:Oper),i∈D->listed.getD i false=false->ops[i]?=some o->o.dst≠some t)->ARel w S L (gs s t) (a.tmps.getD t undef)
 same:∀ t,(∀ (i:Nat) (o:Oper),i∈N->ops[i]?=some o->o.dst≠some t)->gs s t=gs s1 t
 sub:∃ pre,N=pre++rest
 lst:∀ i∈N,listed.getD i false=false ↔ i∈rest
 run:NRun e (ops.toList.map (·.dst)) (ZaK rest ops.toList) ⟨s,m⟩ K
section
variable {D N:List Nat} {m0 m m':List (Nat × Bk)} {s1:List (Nat × A)} {K:St->Prop} {L L':Lay} {rest:List Nat} {s:List (Nat × A)} {listed:Array Bool} {a:Act} {w w':World} {S S':Nat->Prop} {i d:Nat} {o:Oper} {v:Value}
theorem InvN.un (hI:InvN e U w0 S0 nt m0 ops n D N s1 K rest s m L listed a w S) {j:Nat} (hj:∀ e'∈o.after,Region.binds .any e'=true->listed.getD e'.on false=true) (hA:HeadAt ops n i o d) (hw:Region.waitsFor .any ops i j=true):listed.getD j false=true:=by
 obtain ⟨ed,h1,h2,h3⟩:=hA.waits hw;rw [<- h3];exact hj ed h1 h2
theorem InvN.opnd (hI:InvN e U w0 S0 nt m0 ops n D N s1 K rest s m L listed a w S) (hP:PartAt ops n D N) (hA:HeadAt ops n i o d) (hj:∀ e'∈o.after,Region.binds .any e'=true->listed.getD e'.on false=true):∀ x∈o.op.operands,ARel w S L (evA s x) (a.eval x):=fun x hx=>by
 cases x with
 | tmp t =>
  refine hI.rel t fun j p hjD hl hp hpt=>?_;have:=hI.un hj hA ((hA.dep j p (hP.dlt j hjD) hp).2 t (List.mem_filterMap.2 ⟨.tmp t,by simpa using hx,rfl⟩) hpt);rw [hl] at this
  cases this
 | const v =>
  simp only [evA,Act.eval];unfold ZdL;split
  ·simp only [ARel,DRel,Rep];exact ⟨⟨none,0,0,rfl,rfl,Tai _,by decide,fun h=>absurd h (by decide)⟩,none,0,rfl⟩
  ·rename_i vs;exact ⟨vs.toList,rfl,Zb9 _⟩
  ·simp [ARel,DRel,Rep]
 | func f =>
  simp only [evA,Act.eval,ARel,DRel,Rep];exact ⟨[],rfl,by simp [Zad]⟩
 | global g=>trivial
theorem InvN.putD (hI:InvN e U w0 S0 nt m0 ops n D N s1 K rest s m L listed a w S) (hP:PartAt ops n D N) (hA:HeadAt ops n i o d) (hi:i∈D) (hr:i∈Region.ready .any ops listed) (hdn:d < nt)
  (hS:∀ b,S b->S' b) (hC:Cls e U w0.heap.size S0 m w' S' L) (hk:Kept e.D e.E w.heap.size w w') (hv:ARel w' S' L (gs s1 d) v):InvN e U w0 S0 nt m0 ops n D N s1 K rest s m L (listed.setIfInBounds i true) (a.put o.dst v) w' S':=by
 have hlt:d < a.tmps.size:=by rw [hI.size];exact hdn
 have hin:i ∉ N:=fun h=>(hP.cov i (hP.dlt i hi)).elim (fun q=>q.2 h) fun q=>q.1 hi;rw [hA.dst];refine ⟨hI.ext,hI.head.set hr (hP.dlt i hi),by simp [Act.put,hI.size],by simp [Act.put,hI.defers],hC,hI.kept.trans ⟨hk.os,hk.tape,hk.output,hk.drawn,hk.size,fun b hb hE=>hk.block b (by have:=hI.cls.bsz;omega) (fun h1=>hE (.inl h1))⟩,fun t ht=>?_,hI.same,hI.sub,fun j hj=>?_,hI.run⟩
 ·rw [ZbW hlt];by_cases e':t=d
  ·subst e';rw [if_pos rfl,hI.same t fun j p hj hp hpt=>(hA.dep j p (hP.nlt j hj) hp).1 (fun e'=>hin (e' ▸ hj)) hpt];exact hv
  ·rw [if_neg e'];refine (hI.rel t fun j p hj hl hp hpt=>?_).keep hk.size (hI.cls.cell hk) hS;by_cases hji:j=i
   ·subst hji;have:=hA.op;rw [hp] at this;injection this with this
    subst this;rw [hA.dst] at hpt;injection hpt with hpt
    exact e' hpt.symm
   ·exact ht j p hj (by rw [getD_set_ne false (Ne.symm hji)];exact hl) hp hpt
 ·have hji:i≠j:=fun e'=>hin (e' ▸ hj);rw [getD_set_ne false hji];exact hI.lst j hj
theorem InvN.putN (hI:InvN e U w0 S0 nt m0 ops n D N s1 K (i::rest) s m L listed a w S) (hP:PartAt ops n D N) (hA:HeadAt ops n i o d) (hr:i∈Region.ready .any ops listed) (hdn:d < nt) {α:A}
  (hm:∀ k x,gm m k=some x->gm m' k=some x) (hS:∀ t u,ARel w S L (gs s t) u->ARel w' S' L' (gs s t) u) (hC:Cls e U w0.heap.size S0 m' w' S' L') (hk:Kept e.D e.E w.heap.size w w') (hv:ARel w' S' L' α v) (hrun:NRun e (ops.toList.map (·.dst)) (ZaK rest ops.toList) ⟨(d,α)::s,m'⟩ K):InvN e U w0 S0 nt m0 ops n D N s1 K rest ((d,α)::s) m' L' (listed.setIfInBounds i true) (a.put o.dst v) w' S':=by
 have hlt:d < a.tmps.size:=by rw [hI.size];exact hdn
 obtain ⟨pre,hpre⟩:=hI.sub;have hiN:i∈N:=by rw [hpre];simp
 have hin:i ∉ D:=fun h=>(hP.cov i (hP.nlt i hiN)).elim (fun q=>q.2 hiN) fun q=>q.1 h;have hnd:i ∉ rest:=fun h=>by
  have:=hP.npw;rw [hpre] at this;have:=(List.pairwise_append.1 this).2.1;have:=(List.pairwise_cons.1 this).1 i h;omega
 rw [hA.dst];refine ⟨fun k x h=>hm k x (hI.ext k x h),hI.head.set hr (hP.nlt i hiN),by simp [Act.put,hI.size],by simp [Act.put,hI.defers],hC,hI.kept.trans ⟨hk.os,hk.tape,hk.output,hk.drawn,hk.size,fun b hb hE=>hk.block b (by have:=hI.cls.bsz;omega) (fun h1=>hE (.inl h1))⟩,fun t ht=>?_,fun t ht=>?_,⟨pre++[i],by rw [hpre];simp⟩,fun j hj=>?_,hrun⟩
 ·rw [ZbW hlt];simp only [gs];by_cases e':t=d
  ·rw [if_pos e',if_pos e'];exact hv
  ·rw [if_neg e',if_neg e'];refine hS t _ (hI.rel t fun j p hj hl hp hpt=>?_);have hji:i≠j:=fun e''=>hin (e'' ▸ hj);exact ht j p hj (by rw [getD_set_ne false hji];exact hl) hp hpt
 ·have:t≠d:=fun e'=>ht i o hiN hA.op (by rw [hA.dst,e']);simp only [gs,this,if_false];exact hI.same t ht
 ·by_cases hji:j=i
  ·subst hji;have hl:j < listed.size:=by rw [hI.head.size];exact (Tbl.1 hA.op).1
   simp [hl,hnd]
  ·rw [getD_set_ne false (Ne.symm hji),hI.lst j hj];simp [hji]
theorem InvN.next (hI:InvN e U w0 S0 nt m0 ops n D N s1 K rest s m L listed a w S) (hP:PartAt ops n D N) (hA:HeadAt ops n i o d) (hi:i∈N) (hun:listed.getD i false=false) (hj:∀ e'∈o.after,Region.binds .any e'=true->listed.getD e'.on false=true):∃ r,rest=i::r:=by
 have hir:=(hI.lst i hi).1 hun;obtain ⟨pre,hpre⟩:=hI.sub
 cases rest with
 | nil=>cases hir
 | cons r0 r =>
  by_cases e':r0=i
  ·exact ⟨r,by rw [e']⟩
  ·exfalso;obtain ⟨q,hq⟩:=Tbk ((Tbg.1 hir).resolve_left fun e''=>e' e''.symm);have h1:N[pre.length+(q+1)]?=some i:=by rw [hpre,Tbq om];simpa using hq
   obtain ⟨y,hy⟩:∃ y,(r0::r)[q]?=some y:=⟨(r0::r)[q]'(by have:=(Tad.1 hq).1;simp;omega),Taa _⟩;have h2:N[pre.length+q]?=some y:=by rw [hpre,Tbq om];simpa using hy
   have h3:=hP.nch (pre.length+q) y i h2 h1;have h4:=hI.un hj hA h3;have h5:=(hI.lst y (Tac h2)).2 (Tac hy);rw [h5] at h4
   cases h4
end
section
variable {D N:List Nat} {m0:List (Nat × Bk)} {s1:List (Nat × A)} {K:St->Prop} {Q:Exit->Act->World->Prop} {J:List (Nat × Bk)->Lay->Array Bool->Act->World->(Nat->Prop)->Prop}
def GoD (e:Env) (U:Nat->Prop) (w0:World) (S0:Nat->Prop) (nt:Nat) (m0:List (Nat × Bk)) (ops:Array Oper) (n:Nat) (D N:List Nat) (s1:List (Nat × A)) (K:St->Prop) (J:List (Nat × Bk)->Lay->Array Bool->Act->World->(Nat->Prop)->Prop) (Q:Exit->Act->World->Prop):Prop :=
 ∀ (rest:List Nat) (s:List (Nat × A)) (m:List (Nat × Bk)) (L:Lay) (listed:Array Bool) (a:Act) (w:World) (S:Nat->Prop) (i:Nat) (o:Oper) (d:Nat),InvN e U w0 S0 nt m0 ops n D N s1 K rest s m L listed a w S->J m L listed a w S->HeadAt ops n i o d->i∈D->i∈Region.ready .any ops listed->d < nt ->
  (∀ x∈o.op.operands,ARel w S L (evA s1 x) (a.eval x))->ZaW e U w0.heap.size S0 m o (evA s1) (gs s1 d)->o.wp e.P a w (fun a' w'=>∃ S',InvN e U w0 S0 nt m0 ops n D N s1 K rest s m L (listed.setIfInBounds i true) a' w' S'∧J m L (listed.setIfInBounds i true) a' w' S') Q
theorem ZyH (hP:PartAt ops n D N):GoD e U w0 S0 nt m0 ops n D N s1 K (fun _ _ _ _ _ _=>True) Q :=
 fun rest s m L listed a w S i o d hI _ hA hi hr hdn hop hG=>Zc0 (hG w S L a.eval hI.cls hop) fun v w' ⟨S',hS,hC,hk,hv⟩=>⟨S',hI.putD hP hA hi hr hdn hS.1 hC hk hv,trivial⟩
theorem Zhr (he:e.Ok) (hH:Zb7 ops n=true) (hP:PartAt ops n D N) (hn:n<=ops.size) (hs:n < ops.size->Region.sinkB .any ops n=true∧Region.chainB .any ops n=true) (hsq:Region.seqB .any ops (ops.size - n) n (Zbp ops.size n)=true)
  (hsz:∀ (i:Nat) (o:Oper) (d:Nat),i < n->ops[i]?=some o->o.dst=some d->d < nt) (hDA:DAll e U w0.heap.size S0 m0 ops D s1) (hgo:GoD e U w0 S0 nt m0 ops n D N s1 K J Q)
  (hJ:∀ (m m':List (Nat × Bk)) (L L':Lay) (listed:Array Bool) (a:Act) (w w':World) (S S':Nat->Prop) (i:Nat) (o:Oper) (d:Nat) (v:Value),J m L listed a w S->HeadAt ops n i o d->i∈N->d < a.tmps.size->Kept e.D e.E w.heap.size w w'->(∀ b,S' b->S b∨w.heap.size<=b)->(∀ b,e.E b->b < w0.heap.size)->(∀ k bk g,gm m' k=some bk->Zay L' k bk g->w.heap.size<=g∨∃ k' bk',gm m k'=some bk'∧Zay L k' bk' g)->J m' L' (listed.setIfInBounds i true) (a.put o.dst v) w' S')
  (hend:∀ s m L listed a w S,InvN e U w0 S0 nt m0 ops n D N s1 K [] s m L listed a w S->J m L listed a w S->(∀ i,i < n->listed.getD i false=true)->wpList e.P ops Q (ops.toList.drop n) a w) :
  ∀ (k:Nat) (rest:List Nat) (s:List (Nat × A)) (m:List (Nat × Bk)) (L:Lay) (listed:Array Bool) (a:Act) (w:World) (S:Nat->Prop),InvN e U w0 S0 nt m0 ops n D N s1 K rest s m L listed a w S->J m L listed a w S->(List.range n).countP (fun i=>!listed.getD i true)=k->wpAny e.P .any ops Q (k+(ops.size - n)) listed a w
 | 0,rest,s,m,L,listed,a,w,S,hI,hJJ,hc=>by
  have hall:∀ i,i < n->listed.getD i true=true:=fun i hi=>by
   have:=List.countP_eq_zero.1 hc i (List.mem_range.2 hi);simpa using this
  have hall':∀ i,i < n->listed.getD i false=true:=fun i hi=>by
   have hl:i < listed.size:=by rw [hI.head.size];omega
   rw [<- Zbf hl];exact hall i hi
  have hr:rest=[]:=by
   cases rest with
   | nil=>rfl
   | cons r0 r =>
    obtain ⟨pre,hpre⟩:=hI.sub;have hm:r0∈N:=by rw [hpre];simp
    have h1:=(hI.lst r0 hm).2 Tas;rw [hall' r0 (hP.nlt r0 hm)] at h1
    cases h1
  subst hr;have heq:=Ziw hI.head hn hall;have hdl:(ops.toList.drop n).length=ops.size - n:=by simp
  have hE:=hend s m L listed a w S hI hJJ hall';have:=wpAny_of_seq (md:=.any) (Q':=Q) (ops.toList.drop n) n listed a w (fun j=>by simp [Tbb]) (by rw [hdl,heq];exact hsq) hE;rw [hdl] at this;simpa using this
 | k+1,rest,s,m,L,listed,a,w,S,hI,hJJ,hc=>by
  obtain ⟨i0,hi0,hu0⟩:∃ i,i < n∧listed.getD i true=false:=by
   have:0 < (List.range n).countP (fun i=>!listed.getD i true):=om;obtain ⟨i,hi,hp⟩:=List.countP_pos_iff.1 this;exact ⟨i,List.mem_range.1 hi,by simpa using hp⟩
  rw [show k+1+(ops.size - n)=(k+(ops.size - n))+1 by omega];refine ⟨fun h0=>absurd h0 (Zgq hH hI.head hi0 hu0),fun i hr=>?_⟩;obtain ⟨hun,oi,hoi,hall⟩:=mem_ready.1 hr;have hin:i < n:=by
   rcases Nat.lt_or_ge i n with h | h
   ·exact h
   ·have hns:n < ops.size:=Nat.lt_of_le_of_lt h (Tbl.1 hoi).1;exact absurd hr (tail_waits (hs hns).1 (hs hns).2 hns hI.head _ i0 rfl hi0 hu0 i h)
  obtain ⟨o,d,hA⟩:=Zb7.get hH hin;have hoo:oi=o:=by have:=hA.op;rw [hoi] at this;injection this
  subst hoo;have hls:i < listed.size:=by rw [hI.head.size];exact (Tbl.1 hoi).1
  have hunf:listed.getD i false=false:=by rw [<- Zbf hls];exact hun
  have hdn:=hsz i oi d hin hoi hA.dst;have hcount:(List.range n).countP (fun j=>!(listed.setIfInBounds i true).getD j true)=k:=by
   have h1:(List.range n).countP (fun j=>!(listed.setIfInBounds i true).getD j true)+1=(List.range n).countP (fun j=>!listed.getD j true):=by
    have hperm:=List.perm_cons_erase (List.mem_range.2 hin);rw [hperm.countP_eq,hperm.countP_eq,List.countP_cons,List.countP_cons];have hcong:((List.range n).erase i).countP (fun j=>!(listed.setIfInBounds i true).getD j true)=((List.range n).erase i).countP (fun j=>!listed.getD j true):=by
     refine List.countP_congr fun j hj=>?_;have hne:j≠i:=fun e=>by
      subst e;exact List.Nodup.not_mem_erase (List.nodup_range) hj
     rw [getD_set_ne true (Ne.symm hne)]
    rw [hcong,hun];simp [hls]
   omega
  have hops:=hI.opnd hP hA hall;have IH:=Zhr he hH hP hn hs hsq hsz hDA hgo hJ hend k;unfold wpOp;simp only [hoi];rcases hP.cov i hin with ⟨hD,hnN⟩ | ⟨hnD,hN⟩
  ·obtain ⟨hg,hdep⟩:=hP.dg i hD oi hoi;have hwt:Region.wanted oi (yielded ops a.tmps)=true:=by simp [Region.wanted,hg]
   rw [if_pos hwt];refine .inl (Oper.wp_mono (fun a' w' ⟨S',hI',hJ'⟩=>IH rest s m L _ a' w' S' hI' hJ' hcount) (hgo rest s m L listed a w S i oi d hI hJJ hA hD hr hdn (fun x hx=>?_) ((hDA i hD oi d hoi hA.dst).ext hI.ext)));have h1:=hops x hx
   cases x with
   | tmp t =>
    simp only [evA] at h1 ⊢
    rwa [hI.same t fun j p hj hp hpt=>?_] at h1
    have:=hdep j p t (hP.nlt j hj) hp (List.mem_filterMap.2 ⟨.tmp t,by simpa using hx,rfl⟩) hpt;exact (hP.cov j (hP.nlt j hj)).elim (fun q=>q.2 hj) fun q=>q.1 this
   | const v=>exact h1
   | func f=>exact h1
   | global g=>exact h1
  ·obtain ⟨r,rfl⟩:=hI.next hP hA hN hunf hall;have hrun:=hI.run;have hpk:ZaK (i::r) ops.toList=oi::ZaK r ops.toList:=by
    have:ops.toList[i]?=some oi:=by simpa using hoi
    simp only [ZaK,this]
   rw [hpk] at hrun;have go:∀ (Kx:St->Prop),(∀ σ',Kx σ'->NRun e (ops.toList.map (·.dst)) (ZaK r ops.toList) σ' K)->ZhN e oi ⟨s,m⟩ Kx->oi.wp e.P a w (wpAny e.P .any ops Q (k+(ops.size - n)) (listed.setIfInBounds i true)) Q:=fun Kx hKx hq=>by
    obtain ⟨Φ,ks,h1,hfr,hex,h2⟩:=hq he;refine Zc0 (h2 U w0 S0 w S L a.eval hI.cls hI.kept hops) fun v w' ⟨α,mx,hα,S',L',hS,hC,hk,hv,ht,hb⟩=>?_;have h3:=hKx _ (h1 α mx hα);rw [hA.dst] at h3;exact IH r _ _ _ _ _ w' S' (hI.putN hP hA hr hdn (hex α mx hα) (fun t u h=>ht _ u (hfr t) h) hC hk hv h3) (hJ m _ L L' listed a w w' S S' i oi d v hJJ hA hN (by rw [hI.size];exact hdn) hk hS (fun b hb=>hI.cls.ein b hb) hb) hcount
   have skip:NRun e (ops.toList.map (·.dst)) (ZaK r ops.toList) ⟨setA s oi.dst .no,m⟩ K->wpAny e.P .any ops Q (k+(ops.size - n)) (listed.setIfInBounds i true) (a.put oi.dst undef) w:=fun h3=>by
    rw [hA.dst] at h3;exact IH r _ _ L _ _ w S (hI.putN hP hA hr hdn (fun _ _ h=>h) (fun _ _ h=>h) hI.cls (Kept.refl _ _ _ _) (show ARel w S L .no undef from rfl) h3) (hJ m m L L listed a w w S S i oi d undef hJJ hA hN (by rw [hI.size];exact hdn) (Kept.refl _ _ _ _) (fun b hb=>.inl hb) (fun b hb=>hI.cls.ein b hb) fun k bk g h1 h2=>.inr ⟨k,bk,h1,h2⟩) hcount
   simp only [NRun] at hrun
   cases hg:oi.guard with
   | none =>
    rw [hg] at hrun;have hwt:Region.wanted oi (yielded ops a.tmps)=true:=by simp [Region.wanted,hg]
    rw [if_pos hwt];exact .inl (go _ (fun _ h=>h) hrun)
   | some jw =>
    obtain ⟨j,want⟩:=jw;rw [hg] at hrun;simp only at hrun;obtain ⟨hjn,hjw⟩:=hA.guard j want hg;have hrelD:∀ dj,((ops[j]?).bind (·.dst))=some dj->ARel w S L (gs s dj) (a.tmps.getD dj undef):=fun dj hdj=>hI.rel dj fun j' p hj' hl hp hpt=>by
     obtain ⟨p0,d0,hP0⟩:=Zb7.get hH hjn;have hd0:d0=dj:=by have:=hdj;rw [hP0.op] at this;simp [hP0.dst] at this;exact this
     by_cases hjj:j'=j
     ·have:=hI.un hall hA hjw;rw [<- hjj,hl] at this
      cases this
     ·exact absurd (by rw [hpt,hd0]) ((hP0.dep j' p (hP.dlt j' hj') hp).1 hjj)
    split at hrun
    ·rename_i b hb1;simp only [Tav] at hb1;obtain ⟨dj,hd1,hd2⟩:=hb1;have hdj:((ops[j]?).bind (·.dst))=some dj:=by simpa using Zdw hd1
     have hrel:=hrelD dj hdj;rw [hd2] at hrel;have h4:=ZgX hrel.bool;have hwt:Region.wanted oi (yielded ops a.tmps)=decide (b=want):=by
      have h6:yielded ops a.tmps j=some b:=by unfold yielded;rw [hdj];simp only [Option.bind_some,h4]
      simp only [Region.wanted,hg,h6]
      cases b <;> cases want <;> rfl
     rw [hwt];by_cases hbw:b=want
     ·rw [if_pos hbw] at hrun;simp only [hbw,decide_true,if_true];exact .inl (go _ (fun _ h=>h) hrun)
     ·rw [if_neg hbw] at hrun;simp only [hbw,decide_false,Tam,if_false];exact skip hrun
    ·rename_i hb1;simp only [Tav] at hb1;obtain ⟨dj,hd1,hd2⟩:=hb1;have hdj:((ops[j]?).bind (·.dst))=some dj:=by simpa using Zdw hd1
     have hrel:=hrelD dj hdj;rw [hd2] at hrel;rw [ZgY hg hdj hrel];simp only [Tam,if_false];exact skip hrun
    ·exact hrun.elim
end
end
section
variable {e:Env} {K:St->Prop} {l:List Oper} {n:Nat} {D N:List Nat} {σ:St}
theorem ZA0 (hP:Zgb l.toArray n D N=true) (hB:regB l.toArray n=true) (hp:Runs e (l.map (·.dst)) (D.length+1) (ZaK D l) σ fun σ1=>NRun e (l.map (·.dst)) (ZaK N l) σ1 fun σ2=>Runs e (l.map (·.dst)) 0 (l.drop n) σ2 K):Zcb e l.toArray K l.length (Array.replicate l.length false) σ:=by
 intro he U w0 S0 nt a w hd hs;have hPt:=Zgb.at' hP;simp only [regB,Tar,Bool.or_eq_true,decide_eq_true_eq] at hB;obtain ⟨⟨⟨hH,hn⟩,hsc⟩,hsq⟩:=hB;have hsz:l.toArray.size=l.length:=by simp
 obtain ⟨S,L,h1⟩:=hs;obtain ⟨pl,pg⟩:=Zg6 (l:=l) (D:=D) fun i hi=>by have:=hPt.dlt i hi;omega
 have hp':Runs e (l.map (·.dst)) ((ZaK D l).length+1) (ZaK D l++[]) σ (fun σ1=>NRun e (l.map (·.dst)) (ZaK N l) σ1 fun σ2=>Runs e (l.map (·.dst)) 0 (l.drop n) σ2 K):=by rw [List.append_nil,pl];exact hp
 obtain ⟨αs,hal,hch,hrest⟩:=Zda (U:=U) he w0.heap.size S0 l [] 1 (ZaK D l) σ (fun h=>absurd h (by decide)) hp';have hrest':NRun e (l.map (·.dst)) (ZaK N l) ⟨after σ.s (ZaK D l) αs,σ.m⟩ (fun σ2=>Runs e (l.map (·.dst)) 0 (l.drop n) σ2 K):=hrest;rw [pl] at hal;obtain ⟨hDA,hout⟩:=ZsF (ops:=l.toArray) hH hPt hn hal (by simpa using hch);have hmem:∀ i o,l[i]?=some o->o∈l.toArray.toList:=fun i o h=>by simpa using Tac h
 have inv0:InvN e U w0 S0 nt σ.m l.toArray n D N (after σ.s (ZaK D l) αs) (fun σ2=>Runs e (l.map (·.dst)) 0 (l.drop n) σ2 K) N (after σ.s (ZaK D l) αs) σ.m L (Array.replicate l.length false) a w S :=
  ⟨fun _ _ h=>h,⟨by simp,fun j oj _ hl=>(by rw [getD_replicate_false] at hl;cases hl),fun t _ ht=>getD_in (by simpa using ht) (getD_replicate_false _ _)⟩,h1.size,h1.defers,h1.cls,h1.kept,fun t ht=>by
   have:=hout t fun i o hi ho=>ht i o hi (getD_replicate_false _ _) ho;rw [this];exact h1.rel t,fun _ _=>rfl,⟨[],rfl⟩,fun i hi=>⟨fun _=>hi,fun _=>getD_replicate_false _ _⟩,hrest'⟩
 have H:=Zhr (e:=e) (Q:=QN e U w0 S0 nt K) (J:=fun _ _ _ _ _ _=>True) he hH hPt hn (fun hlt=>by
   rcases hsc with q | q
   ·omega
   ·exact q) hsq (fun i o d hi ho hdd=>hd o (hmem i o (by simpa using ho)) d hdd) hDA (ZyH hPt) (fun _ _ _ _ _ _ _ _ _ _ _ _ _ _ _ _ _ _ _ _ _ _=>trivial) (fun s m L listed a' w' S' hI _ hall=>?_) n N _ _ L _ a w S inv0 trivial ?_
 ·rw [hsz] at H;rw [hsz] at hn;rw [show n+(l.length - n)=l.length by omega] at H;exact H
 ·have hsim:SimE e U w0 S0 nt ⟨s,m⟩ a' w':=⟨S',L,⟨hI.cls,fun t=>hI.rel t (fun i o hi hl=>by rw [hall i (hPt.dlt i hi)] at hl;cases hl),hI.size,hI.defers,hI.kept⟩⟩;have hr:=hI.run;simp only [ZaK,NRun] at hr;exact Zhz he l.toArray.toList (fun a w σ' k1 k2=>⟨rfl,σ',k1,k2⟩) (l.toArray.toList.drop n) _ a' w' (fun o ho=>hd o (List.mem_of_mem_drop ho)) hsim (by simpa using hr)
 ·rw [List.countP_eq_length.2]
  ·simp
  ·intro i hi;have hi':=List.mem_range.1 hi;have hz:i < (Array.replicate l.length false).size:=by rw [hsz] at hn;simp;omega
   rw [Zbf hz,getD_replicate_false];rfl
theorem Znn (l:List Oper) (E:List Nat):∀ D:List Nat,ZaK (D++E) l=ZaK D l++ZaK E l
 | []=>rfl
 | i::D=>by
  simp only [Taf,ZaK,Znn l E D]
  cases l[i]? <;> rfl
theorem Zno {e:Env} {U:Nat->Prop} {base:Nat} {S0:Nat->Prop} {m:List (Nat × Bk)} {l:List Oper} {o:Oper} {α:A} (h:∀ s,Zew e U base S0 m l o s α):∀ (os:List Oper) (s:List (Nat × A)) (αs:List A),Zci e U base S0 m l os s αs->Zci e U base S0 m l (os++[o]) s (αs++[α])
 | [],s,[],_=>⟨h _,trivial⟩
 | [],s,_::_,hc=>by simp [Zci] at hc
 | p::os,s,[],hc=>by simp [Zci] at hc
 | p::os,s,x::xs,hc=>⟨hc.1,Zno h os _ xs hc.2⟩
theorem ZyI {p d t ty:Nat} {pos:String} {af:Array Edge} {cs:List C} (hop:l[p]?=some ⟨some d,.alloc t,ty,pos,af,none⟩) (hz:Za3 e.P t=some cs) (hP:Zgb l.toArray (p+1) (D++[p]) N=true) (hB:regB l.toArray (p+1)=true) (hp:Runs e (l.map (·.dst)) (D.length+1) (ZaK D l) σ fun σ1=>NRun e (l.map (·.dst)) (ZaK N l) ⟨(d,.undef)::σ1.s,σ1.m⟩ fun σ2=>Runs e (l.map (·.dst)) 0 (l.drop (p+1)) ⟨(d,.ref d 0)::Zaq d σ2.s,(d,.var none cs)::remM d σ2.m⟩ K):Zcb e l.toArray K l.length (Array.replicate l.length false) σ:=by
 intro he U w0 S0 nt a w hd hs;have hPt:=Zgb.at' hP;simp only [regB,Tar,Bool.or_eq_true,decide_eq_true_eq] at hB;obtain ⟨⟨⟨hH,hn⟩,hsc⟩,hsq⟩:=hB;have hsz:l.toArray.size=l.length:=by simp
 unfold Za3 at hz;simp only [Tav,Option.bind_eq_some_iff] at hz;obtain ⟨v,⟨i,hi,hv⟩,hcs⟩:=hz;obtain ⟨S,L,h1⟩:=hs;have hD:∀ i∈D++[p],i < l.length:=fun i hi=>by have:=hPt.dlt i hi;omega
 obtain ⟨pl,pg⟩:=Zg6 (l:=l) (D:=D) fun i hi=>hD i (List.mem_append_left _ hi);have hp':Runs e (l.map (·.dst)) ((ZaK D l).length+1) (ZaK D l++[]) σ (fun σ1=>NRun e (l.map (·.dst)) (ZaK N l) ⟨(d,.undef)::σ1.s,σ1.m⟩ fun σ2=>Runs e (l.map (·.dst)) 0 (l.drop (p+1)) ⟨(d,.ref d 0)::Zaq d σ2.s,(d,.var none cs)::remM d σ2.m⟩ K):=by rw [List.append_nil,pl];exact hp
 obtain ⟨αs,hal,hch,hrest⟩:=Zda (U:=U) he w0.heap.size S0 l [] 1 (ZaK D l) σ (fun h=>absurd h (by decide)) hp';have hrest':NRun e (l.map (·.dst)) (ZaK N l) ⟨(d,.undef)::after σ.s (ZaK D l) αs,σ.m⟩ (fun σ2=>Runs e (l.map (·.dst)) 0 (l.drop (p+1)) ⟨(d,.ref d 0)::Zaq d σ2.s,(d,.var none cs)::remM d σ2.m⟩ K):=hrest;have hpk:ZaK (D++[p]) l=ZaK D l++[⟨some d,.alloc t,ty,pos,af,none⟩]:=by rw [Znn];simp only [ZaK,hop]
 have hch2:=Zno (e:=e) (U:=U) (base:=w0.heap.size) (S0:=S0) (m:=σ.m) (l:=l) (o:=⟨some d,.alloc t,ty,pos,af,none⟩) (α:=.undef) (fun s=>by unfold Zew;exact ZjR he rfl hi hv) _ _ _ hch;have haf:after σ.s (ZaK (D++[p]) l) (αs++[.undef])=(d,.undef)::after σ.s (ZaK D l) αs:=by rw [hpk,ZgZ _ _ _ _ _ hal];rfl
 rw [<- hpk] at hch2;obtain ⟨hDA,hout⟩:=ZsF (ops:=l.toArray) hH hPt hn (αs:=αs++[.undef]) (by simp [hal,pl]) (by simpa using hch2);have hlt:l.toArray.toList=l:=by simp
 rw [hlt,haf] at hDA hout;have hop':l.toArray[p]?=some ⟨some d,.alloc t,ty,pos,af,none⟩:=by simpa using hop
 have hdn:d < nt:=hd _ (by simpa using Tac hop) d rfl;have hmem:∀ i o,l[i]?=some o->o∈l.toArray.toList:=fun i o h=>by simpa using Tac h
 have hpD:p∈D++[p]:=by simp
 have hA0:∀ {i':Nat} {o':Oper} {d':Nat},HeadAt l.toArray (p+1) i' o' d'->i'≠p->d'≠d:=fun hA hne e'=>(hA.dep p _ om hop').1 (Ne.symm hne) (by rw [e'])
 have inv0:InvN e U w0 S0 nt σ.m l.toArray (p+1) (D++[p]) N ((d,.undef)::after σ.s (ZaK D l) αs) (fun σ2=>Runs e (l.map (·.dst)) 0 (l.drop (p+1)) ⟨(d,.ref d 0)::Zaq d σ2.s,(d,.var none cs)::remM d σ2.m⟩ K) N ((d,.undef)::after σ.s (ZaK D l) αs) σ.m L (Array.replicate l.length false) a w S :=
  ⟨fun _ _ h=>h,⟨by simp,fun j oj _ hl=>(by rw [getD_replicate_false] at hl;cases hl),fun t _ ht=>getD_in (by simpa using ht) (getD_replicate_false _ _)⟩,h1.size,h1.defers,h1.cls,h1.kept,fun t ht=>by
   have:=hout t fun i o hi ho=>ht i o hi (getD_replicate_false _ _) ho;rw [this];exact h1.rel t,fun _ _=>rfl,⟨[],rfl⟩,fun i hi=>⟨fun _=>hi,fun _=>getD_replicate_false _ _⟩,hrest'⟩
 have hJ0:Zf5 e w0.heap.size p d σ.m L t v (Array.replicate l.length false) a w S:=fun hl=>by rw [getD_replicate_false] at hl;cases hl
 have hJN:∀ (m m':List (Nat × Bk)) (L L':Lay) (listed:Array Bool) (a:Act) (w w':World) (S S':Nat->Prop) (i:Nat) (o:Oper) (d':Nat) (v':Value),Zf5 e w0.heap.size p d m L t v listed a w S->HeadAt l.toArray (p+1) i o d'->i≠p->d' < a.tmps.size->Kept e.D e.E w.heap.size w w'->(∀ b,S' b->S b∨w.heap.size<=b)->(∀ b,e.E b->b < w0.heap.size)->(∀ k bk g,gm m' k=some bk->Zay L' k bk g->w.heap.size<=g∨∃ k' bk',gm m k'=some bk'∧Zay L k' bk' g)->Zf5 e w0.heap.size p d m' L' t v (listed.setIfInBounds i true) (a.put o.dst v') w' S':=by
  intro m m' L L' listed a w w' S S' i o d' v' hJ hA hip hdl hk hS hE hB hl;rw [getD_set_ne false hip] at hl;obtain ⟨b,q1,q2,q3,q4,q5,q6⟩:=hJ hl;refine ⟨b,?_,q2,Tbd q3 hk.size,fun hs=>?_,fun k bk h1 h2=>?_,?_⟩
  ·rw [hA.dst,ZbW hdl,if_neg (Ne.symm (hA0 hA hip))];exact q1
  ·rcases hS b hs with hs | hs
   ·exact q4 hs
   ·omega
  ·rcases hB k bk b h1 h2 with h3 | ⟨k',bk',h3,h4⟩
   ·omega
   ·exact q5 k' bk' h3 h4
  ·rw [hk.block b q3 (fun hb=>by have:=hE b hb;omega)];exact q6
 have hgo:GoD e U w0 S0 nt σ.m l.toArray (p+1) (D++[p]) N ((d,.undef)::after σ.s (ZaK D l) αs) (fun σ2=>Runs e (l.map (·.dst)) 0 (l.drop (p+1)) ⟨(d,.ref d 0)::Zaq d σ2.s,(d,.var none cs)::remM d σ2.m⟩ K) (fun m L=>Zf5 e w0.heap.size p d m L t v) (QN e U w0 S0 nt K):=by
  intro rest s m L listed a w S i' o' d' hI hJ hA hiD hr hdn' hopd hG';by_cases hip:i'=p
  ·subst hip;have ho':o'=⟨some d,.alloc t,ty,pos,af,none⟩:=by have:=hA.op;rw [hop'] at this;injection this with this;exact this.symm
   subst ho';have hdd:d'=d:=by have:=hA.dst;injection this with this;exact this.symm
   subst hdd;unfold Oper.wp;have hrun:(execOp a.eval ⟨some d',.alloc t,ty,pos,af,none⟩).run e.P w=.ok (.value (.pointer (some ⟨w.heap.size,0,none⟩))) (w.alloc (.cells v.cells t)):=by
    simp [execOp,Instr.alloc,zeroValue,typeInfo,hi,hv,newVar,newRow,Result.andThen]
   have hb:Below w.heap.size w (w.alloc (.cells v.cells t)):=ZdW w _;have hk:Kept e.D e.E w.heap.size w (w.alloc (.cells v.cells t)):=Kept.of_below hb (fun _=>Tai _);have hC:=hI.cls;have hC':Cls e U w0.heap.size S0 m (w.alloc (.cells v.cells t)) S L:=hC.later hk (he.keep _ _ hb.size (fun b hE=>hb.block b (Tbd (hC.ein b hE) hC.bsz)) hC.g) (fun _ h=>h) (fun _ h=>.inl h);rw [hrun,Oper.upon_value];refine ⟨S,hI.putD hPt hA hiD hr hdn' (fun _ h=>h) hC' hk (by simp [gs,ARel]),fun _=>⟨w.heap.size,?_,hC.bsz,by simp,fun hs=>by have:=(hC.sin _ hs).1;omega,fun k bk hk hg=>by have:=hC.blk_lt hk hg;omega,heap_alloc_new w _⟩⟩
   rw [ZbW (by rw [hI.size];exact hdn')];simp
  ·exact Zc0 (hG' w S L a.eval hI.cls hopd) fun v' w' ⟨S',hS,hC,hk,hv'⟩=>⟨S',hI.putD hPt hA hiD hr hdn' hS.1 hC hk hv',hJN m m L L listed a w w' S S' i' o' d' v' hJ hA hip (by rw [hI.size];exact hdn') hk hS.2 (fun b hb=>hI.cls.ein b hb) fun k bk g h1 h2=>.inr ⟨k,bk,h1,h2⟩⟩
 have H:=Zhr (e:=e) (Q:=QN e U w0 S0 nt K) (J:=fun m L=>Zf5 e w0.heap.size p d m L t v) he hH hPt hn (fun hlt=>by
   rcases hsc with q | q
   ·omega
   ·exact q) hsq (fun i o d hi ho hdd=>hd o (hmem i o (by simpa using ho)) d hdd) hDA hgo (fun m m' L L' listed a w w' S S' i o d' v' hJ hA hiN hdl hk hS hE hB=>hJN m m' L L' listed a w w' S S' i o d' v' hJ hA (fun e'=>by
    subst e';exact (hPt.cov i (hPt.nlt i hiN)).elim (fun q=>q.2 hiN) fun q=>q.1 hpD) hdl hk hS hE hB) (fun s m L listed a' w' S' hI hJ hall=>?_) (p+1) N _ _ L _ a w S inv0 hJ0 ?_
 ·rw [hsz] at H;rw [hsz] at hn;rw [show p+1+(l.length - (p+1))=l.length by omega] at H;exact H
 ·have hsim:Sim e U w0 S0 nt ⟨s,m⟩ a' w' S' L:=⟨hI.cls,fun t=>hI.rel t (fun i o hi hl=>by rw [hall i (hPt.dlt i hi)] at hl;cases hl),hI.size,hI.defers,hI.kept⟩;have hr:=hI.run;simp only [ZaK,NRun] at hr;obtain ⟨b,q1,q2,q3,q4,q5,q6⟩:=hJ (hall p om);have hrv:=Zb9 (w:=w') (S:=S') v.cells.toList;rw [hcs] at hrv
  have hsimB:=hsim.bornE (bk:=.var none cs) (w':=w') (b':=b) (v':=undef) (u:=a'.tmps.getD d undef) (τ:=some b) (s1:=s) (m1:=m) (α:=.ref d 0) (S':=S') hdn (fun _ h=>h) (fun _ h=>.inl h) (fun t=>.inl rfl) (fun k x h=>h)
   (fun g hg=>by injection hg with hg;subst hg;exact ⟨q4,fun hE=>by have:=hI.cls.ein _ hE;omega,.inl q2⟩) (fun k x g hkd hx hg hb=>by injection hg with hg;subst hg;exact q5 k x hx hb)
   (Kept.refl _ _ _ _) hI.cls.g (by
    simp only [Own1,if_true];refine ⟨by simp,q3,q4,⟨v.cells,t,q6,by have:=hrv.len;simpa using this⟩,?_⟩;exact Zaj.of_vals cs v.cells.toList 0 hrv (fun j u hj=>by
     rw [Nat.zero_add];have hj':v.cells[j]?=some u:=by simpa using hj
     simp [World.cell?,q6,hj']))
   (fun g hg=>by simp only [Zay,if_true] at hg;exact .inl (by rw [hg])) (by simp [ARel,q1])
  have hsimD:SimE e U w0 S0 nt ⟨(d,.ref d 0)::Zaq d s,(d,.var none cs)::remM d m⟩ a' w':=by
   obtain ⟨S2,L2,k1,k2,k3,k4,k5⟩:=hsimB;refine ⟨S2,L2,k1,fun t=>?_,hI.size,hI.defers,k5⟩;have:=k2 t;rw [ZbW (by rw [hI.size];exact hdn)] at this;by_cases ht:t=d
   ·rw [if_pos ht] at this;rw [ht];rw [ht] at this;exact this
   ·rw [if_neg ht] at this;exact this
  exact Zhz he l.toArray.toList (fun a w σ' k1 k2=>⟨rfl,σ',k1,k2⟩) (l.toArray.toList.drop (p+1)) _ a' w' (fun o ho=>hd o (List.mem_of_mem_drop ho)) hsimD (by simpa using hr)
 ·rw [List.countP_eq_length.2]
  ·simp
  ·intro i hi;have hi':=List.mem_range.1 hi;have hz:i < (Array.replicate l.length false).size:=by rw [hsz] at hn;simp;omega
   rw [Zbf hz,getD_replicate_false];rfl
variable {mask:Nat} {Q:PX->St->Prop} {s:List (Nat × A)} {m:List (Nat × Bk)} {ds:List (Option Nat)} {Ds Ns T:List Oper}
theorem gN0 {id:Nat} (n:Nat) (D N:List Nat) (hK:Runs e ds (D.length+1) Ds ⟨s,m⟩ fun σ1=>NRun e ds Ns σ1 fun σ2=>Runs e ds 0 T σ2 (Zc5 mask Q)) (hD:ZaK D l=Ds:=by simp only [ZaK,Tau,Tat];exact rfl) (hN:ZaK N l=Ns:=by simp only [ZaK,Tau,Tat];exact rfl) (hT:l.drop n=T:=by simp only [List.drop_succ_cons,List.drop_zero];exact rfl)
  (hds:l.map (·.dst)=ds:=by simp only [Tbu,List.map_nil];exact rfl) (hP:Zgb l.toArray n D N=true:=by decide +kernel) (hB:regB l.toArray n=true:=by decide +kernel):pwp e mask (.region id l.toArray true) ⟨s,m⟩ Q:=by
 subst hD hN hT hds;exact Zg1 (ops:=l.toArray) (by simpa using ZA0 hP hB hK)
end
section
variable {e:Env} {ds:List (Option Nat)} {K:St->Prop}
def ResN (e:Env) (ds:List (Option Nat)) (K:St->Prop):Res->Prop
 | .done σ=>K σ
 | .call q c args d _ os σ=>q=true∧∀ (o:Oper) (ts:Array TypeId),o.op=.call ⟨.value c,args.toArray,ts⟩->o.dst=d->ZhN e o σ (fun σ'=>NRun e ds os σ' K)
 | _=>False
theorem Zke {os:List Oper} {n q:Nat} {next:St->Res} (hn:qB n=true) (hq:qB q=true) (ih:∀ σ,ResN e ds K (next σ)->NRun e ds os σ K) {o:Oper} {σ:St} (h:ResN e ds K (Zbl e.P o.dst o.type q n os next o.op σ)):ZhN e o σ (fun σ'=>NRun e ds os σ' K):=by
 unfold Zbl at h;split at h
 ·rename_i t ho;unfold Zdc at h;split at h
  ·rename_i σ' hσ;rw [hq] at hσ;simp at hσ
  ·exact h.elim
 ·rename_i c args ts ho;exact h.2 o ts (by rw [ho]) rfl
 ·exact h.elim
 ·rename_i op σ1 hne0 hne hne2 ho;unfold Zdc at h;split at h
  ·rename_i σ' hσ;rw [hn] at hσ;exact (ZqM hσ (K:=fun σ'=>NRun e ds os σ' K) (ih σ' h)).toN
  ·exact h.elim
theorem ZhO:∀ (os:List Oper) (n:Nat) (σ:St),os.length+1 < n->ResN e ds K (Zbh e.P ds n os σ)->NRun e ds os σ K
 | [],n,σ,_,h=>h
 | ⟨d,op,ty,pos,aft,none⟩::os,n,σ,hn,h=>Zke (o:=⟨d,op,ty,pos,aft,none⟩) (n:=n) (q:=n - 1) (by cases n with | zero=>simp at hn | succ k=>rfl) (by match n,hn with | k+2,_=>rfl) (fun σ h=>ZhO os (n - 1) σ (by simp only [Tag] at hn;omega) h) h
 | ⟨d,op,ty,pos,aft,some (j,want)⟩::os,n,σ,hn,h=>by
  have ih:∀ σ,ResN e ds K (Zbh e.P ds (n - 1) os σ)->NRun e ds os σ K:=fun σ h=>ZhO os (n - 1) σ (by simp only [Tag] at hn;omega) h;have hq:qB n=true:=by cases n with | zero=>simp at hn | succ k=>rfl
  simp only [NRun];simp only [Zbh] at h;unfold ZeV at h;split at h
  ·rename_i b hb;simp only [hb];unfold Zjq at h;split at h
   ·rename_i hbw;rw [if_pos (by simpa using hbw)];exact Zke (o:=⟨d,op,ty,pos,aft,some (j,want)⟩) hq hq ih h
   ·rename_i hbw;rw [if_neg (by simpa using hbw)];exact ih _ h
  ·rename_i hb;simp only [hb];exact ih _ h
  ·exact h.elim
variable {n n':Nat} {os os':List Oper} {σ:St} {s1 s2 s3:List (Nat × A)} {m1 m2:List (Nat × Bk)}
theorem Zxa (h:Zbh e.P ds (os.length+2) os σ=.done ⟨s1,m1⟩) (hK:K ⟨s1,m1⟩):NRun e ds os σ K:=ZhO os (os.length+2) σ om (by rw [h];exact hK)
theorem ZyJ {c:Operand} {args:List Operand} {f:FuncId} {xs:List D} {d:Option Nat} {R:List D->Prop} (h:Zbh e.P ds (os.length+2) os σ=.call true c args d n' os' ⟨s1,m1⟩) (h1:Zec true c args ⟨s1,m1⟩=some (f,xs,⟨s2,m2⟩)) (hc:ConE e f xs R) (hK:∀ r,R r->NRun e ds os' ⟨setA s2 d (retA r),m2⟩ K):NRun e ds os σ K:=by
 refine ZhO os (os.length+2) σ om ?_;rw [h];refine ⟨rfl,fun o ts ho hd he=>?_⟩;obtain ⟨caps,ys,hf,hcal,hds,rfl⟩:=ZeW h1;unfold frzQ at hf;split at hf;rotate_left
 ·simp at hf
 injection hf with hf
 injection hf with e1 e2
 subst e1 e2;refine ⟨fun α mx=>mx=[]∧∃ r,R r∧α=retA r,[],fun α mx ⟨hm,r,hr,hα⟩=>by rw [hα,hd,hm];exact hK r hr,fun t k hk=>(by cases hk),fun α mx ⟨hm,_⟩ k y hy=>by rw [hm];exact hy,fun U w0 S0 w S L ρv hC _ hr=>?_⟩;obtain ⟨m1,m2⟩:=ZhW ho;obtain ⟨us,hv,hus⟩:=Zc2 hcal (hr c m1);have hds:Zav w S ys (args.toArray.toList.map ρv):=ZdY (by simpa using hds) (by simp) (mapx (fun p hp=>hr p (m2 p hp)));obtain ⟨hbody,hcon⟩:=hc
 have hcl:=hcon w S _ hC.sin (fun b hb=>Tbd (hC.ein b hb) hC.bsz) hC.g (hds.append (Zav.caps hus));unfold gives;rw [Zd1 ho hv hbody];exact hcl.mono fun en w' ⟨v,r,h1,hR,h2,h3,h4⟩=>⟨v,h1,_,[],⟨rfl,r,hR,rfl⟩,fun b=>S b∨(w.heap.size<=b∧b < w'.heap.size),L,fun b hb=>hb.elim .inl (fun q=>.inr q.1),hC.later h2 h3 (fun b hb=>.inl hb) (fun b hb=>hb),h2,ZeF h4,fun x u _ hx=>hx.keep h2.size (hC.cell h2) fun b hb=>.inl hb,fun k bk g q1 q2=>.inr ⟨k,bk,q1,q2⟩⟩
theorem ZyK {c:Operand} {args:List Operand} {f:FuncId} {xs:List D} {d:Option Nat} {R:List D->List Bk->Prop} (ks:List Nat) (h:Zbh e.P ds (os.length+2) os σ=.call true c args d n' os' ⟨s1,m1⟩) (h1:Zec true c args ⟨s1,m1⟩=some (f,xs,⟨s2,m2⟩)) (hc:ConP e f xs [] R) (hks:Zcs ks s2=s2) (hkm:Zcw ks m2=m2) (hK:∀ r pm,R r pm->NRun e ds os' ⟨setA s2 d (retA r),zipM ks pm++m2⟩ K):NRun e ds os σ K:=by
 refine ZhO os (os.length+2) σ om ?_;rw [h];refine ⟨rfl,fun o ts ho hd he=>?_⟩;obtain ⟨caps,ys,hf,hcal,hds,rfl⟩:=ZeW h1;unfold frzQ at hf;split at hf;rotate_left
 ·simp at hf
 injection hf with hf
 injection hf with e1 e2
 subst e1 e2;have hno:∀ k∈ks,gm m1 k=none:=fun k hk=>by
  have:=Zkj (ks:=ks) (m:=m1) (k:=k);rw [if_pos hk,hkm] at this;exact this
 have hfresh:∀ t,∀ k∈ks,¬ ZdZ k (gs s1 t):=fun t k hk=>by
  rcases ZgW t ks s1 with ⟨_,q⟩ | q
  ·exact q k hk
  ·rw [hks] at q;rw [q];exact fun h=>h
 refine ⟨fun α mx=>∃ r pm,R r pm∧α=retA r∧mx=zipM ks pm,ks,fun α mx ⟨r,pm,hr,hα,hm⟩=>by rw [hα,hd,hm];exact hK r pm hr,hfresh,fun α mx ⟨r,pm,_,_,hm⟩ k y hy=>?_,fun U w0 S0 w S L ρv hC hkw hr=>?_⟩
 ·rw [ZkV]
  cases hz:gm mx k with
  | none=>exact hy
  | some x =>
   rw [hm] at hz;have:=hno k (ZdO hz).1;have hy:gm m1 k=some y:=hy;rw [hy] at this
   cases this
 obtain ⟨mm1,mm2⟩:=ZhW ho;obtain ⟨us,hv,hus⟩:=Zc2 hcal (hr c mm1);have hds:Zav w S ys (args.toArray.toList.map ρv):=ZdY (by simpa using hds) (by simp) (mapx (fun p hp=>hr p (mm2 p hp)));obtain ⟨hbody,hcon⟩:=hc;have hcl:=hcon w S _ hC.sin (fun b hb=>Tbd (hC.ein b hb) hC.bsz) hC.g (fun x hx=>by cases hx) trivial (hds.append (Zav.caps hus));unfold gives;rw [Zd1 ho hv hbody];refine hcl.mono fun en w' ⟨v,r,pm,h1,hR,k1,k2,k3,k4,k5⟩=>⟨v,h1,retA r,zipM ks pm,⟨r,pm,hR,rfl,rfl⟩,?_⟩
 have hp0:∀ g,¬ Za7 [] g:=fun g ⟨x,hx,_⟩=>by cases hx
 have hsim:Sim e U w0 S0 0 ⟨[],m1⟩ ⟨#[],[]⟩ w S L:=⟨hC,fun t=>trivial,rfl,rfl,hkw⟩;have hz:∀ k x,gm (zipM ks pm++m1) k=some x->(gm (zipM ks pm) k=some x∧k∈ks∧x∈pm)∨(gm (zipM ks pm) k=none∧gm m1 k=some x∧k ∉ ks):=fun k x hx=>by
  rw [ZkV] at hx
  cases hzz:gm (zipM ks pm) k with
  | some y =>
   rw [hzz] at hx;injection hx with hx
   subst hx;exact .inl ⟨rfl,ZdO hzz⟩
  | none =>
   rw [hzz] at hx;exact .inr ⟨rfl,hx,fun hk=>by have:=hno k hk;have hx:gm m1 k=some x:=hx;rw [hx] at this;cases this⟩
 obtain ⟨t1,t2,t3⟩:=hsim.touchM (p:=fun k=>k∈ks) (m':=zipM ks pm++m1) (w':=w') (S':=fun b=>(S b∨Za7 [] b∨(w.heap.size<=b∧b < w'.heap.size))∧¬ Za7 pm b) (L':=layB (zipM ks pm) L) (τ:=fun _=>False)
  (fun b hs=>⟨.inl hs,fun ⟨x,hx,hg⟩=>by
   rcases (k3 x hx).2 b hg with q | q
   ·exact hp0 b q
   ·have:=(hC.sin b hs).1;omega⟩)
  (fun b hb=>hb.1.elim .inl fun q=>q.elim (fun q=>(hp0 b q).elim) fun q=>.inr (.inr q))
  (fun k x hp hx=>by
   rcases hz k x hx with ⟨_,h2,_⟩ | ⟨_,h3,_⟩
   ·exact (hp h2).elim
   ·exact h3)
  (fun k hp=>by
   have hzn:gm (zipM ks pm) k=none:=by
    cases hzz:gm (zipM ks pm) k with
    | none=>rfl
    | some y=>exact (hp (ZdO hzz).1).elim
   simp only [layB,hzn,and_self])
  (fun g hg=>hg.elim) (fun k x g _ _ hg=>hg.elim)
  ⟨k1.os,k1.tape,k1.output,k1.drawn,k1.size,fun b hb hE=>k1.block b hb fun q=>hE (q.elim .inl fun q=>(hp0 b q).elim)⟩ k2
  (fun k x hp hx=>by
   rcases hz k x hx with ⟨h2,_,h3⟩ | ⟨_,_,h3⟩
   ·have:=Zch (L:=L) (k3 x h3).1 h2;exact ⟨this.1,fun g hg=>((k3 x h3).2 g ((this.2 g).1 hg)).elim (fun q=>(hp0 g q).elim) .inr⟩
   ·exact (h3 hp).elim)
  (fun k k' x x' g hp hp' hx hx' hb hb'=>by
   rcases hz k x hx with ⟨h2,_,h3⟩ | ⟨_,_,h3⟩
   ·rcases hz k' x' hx' with ⟨h2',_,h3'⟩ | ⟨_,_,h3'⟩
    ·have q:=Zch (L:=L) (k3 x h3).1 h2;have q':=Zch (L:=L) (k3 x' h3').1 h2';exact ZgV k4 h2 h2' ((q.2 g).1 hb) ((q'.2 g).1 hb')
    ·exact (h3' hp').elim
   ·exact (h3 hp).elim)
 refine ⟨fun b=>(S b∨Za7 [] b∨(w.heap.size<=b∧b < w'.heap.size))∧¬ Za7 pm b,layB (zipM ks pm) L,fun b hb=>hb.1.elim .inl fun q=>q.elim (fun q=>(hp0 b q).elim) fun q=>.inr q.1,t1,⟨k1.os,k1.tape,k1.output,k1.drawn,k1.size,fun b hb hE=>k1.block b hb fun q=>q.elim hE (hp0 b)⟩,ZeF k5,fun x u hk hx=>t3 x u (fun k hp hkx=>(hk k hp hkx).elim) hx,fun k bk g h2 h3=>?_⟩;rcases hz k bk h2 with ⟨q1,_,q3⟩ | ⟨q1,q2,_⟩
 ·have:=Zch (L:=L) (k3 bk q3).1 q1;exact .inl (((k3 bk q3).2 g ((this.2 g).1 h3)).resolve_left (hp0 g))
 ·refine .inr ⟨k,bk,q2,?_⟩;have:Zay (layB (zipM ks pm) L) k bk=Zay L k bk:=Zmy (by simp only [layB,q1]) (by simp only [layB,q1])
  rwa [this] at h3
theorem gNP {c:Operand} {args:List Operand} {f:FuncId} {xs:List D} {d:Option Nat} {R:List D->List Bk->Prop} (ks:List Nat) (hc:ConP e f xs [] R) (hK:∀ r pm,R r pm->NRun e ds os' ⟨setA s2 d (retA r),zipM ks pm++m2⟩ K) (h:Zbh e.P ds (os.length+2) os σ=.call true c args d n' os' ⟨s1,m1⟩:=by exact sfv) (h1:Zec true c args ⟨s1,m1⟩=some (f,xs,⟨s2,m2⟩):=by exact sfv) (hks:Zcs ks s2=s2:=by exact sny) (hkm:Zcw ks m2=m2:=by exact sny):NRun e ds os σ K:=ZyK ks h h1 hc hks hkm hK
theorem gNr (hK:K ⟨s1,m1⟩) (h:Zbh e.P ds (os.length+2) os σ=.done ⟨s1,m1⟩:=by exact sfv):NRun e ds os σ K:=Zxa h hK
theorem gNE {c:Operand} {args:List Operand} {f:FuncId} {xs:List D} {d:Option Nat} {R:List D->Prop} (hc:ConE e f xs R) (hK:∀ r,R r->NRun e ds os' ⟨setA s2 d (retA r),m2⟩ K) (h:Zbh e.P ds (os.length+2) os σ=.call true c args d n' os' ⟨s1,m1⟩:=by exact sfv) (h1:Zec true c args ⟨s1,m1⟩=some (f,xs,⟨s2,m2⟩):=by exact sfv):NRun e ds os σ K:=ZyJ h h1 hc hK
theorem gNd {k:Nat} (hK:K ⟨s1,m1⟩) (h:Zbh e.P ds k os σ=.done ⟨s1,m1⟩:=by exact sfv):Runs e ds k os σ K:=ZfG h hK
end
section
variable {e:Env} {K:St->Prop} {l l':List Oper} {σ:St} {s:List (Nat × A)} {m:List (Nat × Bk)} {ds:List (Option Nat)} {Ds Ns T:List Oper}
theorem gLa (i k:Nat) (hK:Zcb e l'.toArray K l'.length (Array.replicate l'.length false) σ) (hl:addL i k l=l':=by simp only [addL];exact rfl) (hc:ZlJ l.toArray i k=true:=by decide +kernel):Zcb e l.toArray K l.length (Array.replicate l.length false) σ:=by
 subst hl;exact ZlK hc (by rwa [Zid] at hK)
theorem gNa {d t ty:Nat} {pos:String} {af:Array Edge} {cs:List C} (p:Nat) (D N:List Nat) (hK:Runs e ds (D.length+1) Ds ⟨s,m⟩ fun σ1=>NRun e ds Ns ⟨(d,.undef)::σ1.s,σ1.m⟩ fun σ2=>Runs e ds 0 T ⟨(d,.ref d 0)::Zaq d σ2.s,(d,.var none cs)::remM d σ2.m⟩ K) (hop:l[p]?=some ⟨some d,.alloc t,ty,pos,af,none⟩:=by simp only [Tau,Tat];exact rfl) (hz:Za3 e.P t=some cs:=by exact sfv) (hD:ZaK D l=Ds:=by simp only [ZaK,Tau,Tat];exact rfl) (hN:ZaK N l=Ns:=by simp only [ZaK,Tau,Tat];exact rfl) (hT:l.drop (p+1)=T:=by simp only [List.drop_succ_cons,List.drop_zero];exact rfl)
  (hds:l.map (·.dst)=ds:=by simp only [Tbu,List.map_nil];exact rfl) (hP:Zgb l.toArray (p+1) (D++[p]) N=true:=by decide +kernel) (hB:regB l.toArray (p+1)=true:=by decide +kernel):Zcb e l.toArray K l.length (Array.replicate l.length false) ⟨s,m⟩:=by
 subst hD hN hT hds;exact ZyI hop hz hP hB hK
end
def ROp (name:ByteArray) (res:Int) (args:List Int) (r:List D) (pm:List Bk):Prop:=∃ (a:Option Addr) (cap:Nat),r=[.agg [.lit (.string name),.lit (.slice a 1 cap),.lit (.bool false),.lit (.bool false),.lit (.int .i64 0)]]∧pm=[.buf (some (a,cap)) 81 2 [[.sl (args.map ZbA),.lit (.int .i64 res)]]]
theorem Zdh (name:ByteArray) (res:Int) (args:List Int):ConP e0 42 [.one (.lit (.string name)),.one (.lit (.int .i64 res)),.clip (args.map ZbA)] [] (ROp name res args):=by
 refine gIP (ts:=[.cell 6 77]) [] 71 Tryz.func42 ?_;refine fN 1 @tmz ?_;refine gB ?_;have F:=@tmz;refine gP 4 ?_;clear F;have F:=tmz;refine gBs ?_;clear F;refine gS 11 fun a cap=>?_;refine fR @tmz ?_;exact (have F:=tmz;gTP (R:=ROp name res args) [11] ⟨a,cap,rfl,rfl⟩)
def ZfT:List (List C):=[[.lit (.string ⟨#[78]⟩)],[.lit (.string ⟨#[80]⟩)],[.lit (.string ⟨#[76]⟩)]]
def subR (i k:Int):List C:=[.lit (.int .i64 i),.lit (.int .i64 k)]
def ZdJ:Bool->List (List C)
 | true=>[subR 1 0,subR 0 2]
 | false=>[subR 1 0]
theorem nmU:ZfT=[[.lit (.string ⟨#[78]⟩)],[.lit (.string ⟨#[80]⟩)],[.lit (.string ⟨#[76]⟩)]]∧ZdJ true=[subR 1 0,subR 0 2]∧ZdJ false=[subR 1 0]∧∀ i k,subR i k=[.lit (.int .i64 i),.lit (.int .i64 k)]:=⟨rfl,rfl,rfl,fun _ _=>rfl⟩
def opR (name:ByteArray) (res:Int) (args:List Int):List C:=[.lit (.string name),.sl [[.sl (args.map ZbA),.lit (.int .i64 res)]],.lit (.bool false),.lit (.bool false),.lit (.int .i64 0)]
theorem ZlU:∀ n r l,opR n r l=[.lit (.string n),.sl [[.sl (l.map ZbA),.lit (.int .i64 r)]],.lit (.bool false),.lit (.bool false),.lit (.int .i64 0)]:=fun _ _ _=>rfl
def Zbs (args:List Int) (res:Int):List C:=[.sl (args.map ZbA),.lit (.int .i64 res)]
def gOp (u:Bool):List C:=[.lit (.string ⟨#[103]⟩),.sl (Zbs [0] 1::if u then [Zbs [1] 1] else []),.lit (.bool false),.lit (.bool false),.lit (.int .i64 0)]
def fRf (z fa fc fu:Bool):List C:=[.lit (.string ⟨#[102]⟩),.sl (if z then [Zbs [2,2] 2,Zbs [1,1] 1] else [Zbs [0,2] 2]),.lit (.bool fa),.lit (.bool fc),.lit (.int .i64 (if fu then 3 else 0))]
theorem opU:(∀ z fa fc fu,fRf z fa fc fu=[.lit (.string ⟨#[102]⟩),.sl (if z then [Zbs [2,2] 2,Zbs [1,1] 1] else [Zbs [0,2] 2]),.lit (.bool fa),.lit (.bool fc),.lit (.int .i64 (if fu then 3 else 0))])∧(∀ u,gOp u=[.lit (.string ⟨#[103]⟩),.sl (Zbs [0] 1::if u then [Zbs [1] 1] else []),.lit (.bool false),.lit (.bool false),.lit (.int .i64 0)])∧∀ args res,Zbs args res=[.sl (args.map ZbA),.lit (.int .i64 res)]:=⟨fun _ _ _ _=>rfl,fun _=>rfl,fun _ _=>rfl⟩
def hR (c:Bool):List C:=[.lit (.string ⟨#[104]⟩),.sl [Zbs [0,0] 0],.lit (.bool false),.lit (.bool c),.lit (.int .i64 0)]
def mR (w:Bool):List C:=[.lit (.string ⟨#[109]⟩),.sl [Zbs [0,0] 0],.lit (.bool true),.lit (.bool true),.lit (.int .i64 (if w then 1 else 0))]
def opsR (z u hc fa fc fu:Bool) (w:Option Bool):List (List C):=[opR ⟨#[97]⟩ 0 [],opR ⟨#[98]⟩ 1 [],opR ⟨#[101]⟩ 2 [],gOp u,hR hc,fRf z fa fc fu]++(match w with
 | none=>[]
 | some w=>[mR w])
theorem opsU:(∀ z u hc fa fc fu,opsR z u hc fa fc fu none=[opR ⟨#[97]⟩ 0 [],opR ⟨#[98]⟩ 1 [],opR ⟨#[101]⟩ 2 [],gOp u,hR hc,fRf z fa fc fu])∧(∀ z u hc fa fc fu w,opsR z u hc fa fc fu (some w)=[opR ⟨#[97]⟩ 0 [],opR ⟨#[98]⟩ 1 [],opR ⟨#[101]⟩ 2 [],gOp u,hR hc,fRf z fa fc fu,mR w])∧(∀ c,hR c=[.lit (.string ⟨#[104]⟩),.sl [Zbs [0,0] 0],.lit (.bool false),.lit (.bool c),.lit (.int .i64 0)])∧(∀ w,mR w=[.lit (.string ⟨#[109]⟩),.sl [Zbs [0,0] 0],.lit (.bool true),.lit (.bool true),.lit (.int .i64 (if w then 1 else 0))])∧∀ args res,Zbs args res=[.sl (args.map ZbA),.lit (.int .i64 res)]:=⟨fun _ _ _ _ _ _=>rfl,fun _ _ _ _ _ _ _=>rfl,fun _=>rfl,fun _=>rfl,fun _ _=>rfl⟩
theorem Zbd {pm:List Bk}:Zd4 pm pm:=fun w S h1 h2=>⟨h1,h2,fun g hg=>hg⟩
theorem ZgO (name:ByteArray) (res:Int) (args:List Int):Con e0 42 [.one (.lit (.string name)),.one (.lit (.int .i64 res)),.clip (args.map ZbA)] [.agg (opR name res args)]:=by
 rw [opR];refine gI (ts:=[.cell 6 77]) 71 Tryz.func42 ?_;exact fD @tmz
def RSig (r:List D) (pm:List Bk):Prop:=∃ (z u hc fa fc fu:Bool) (w:Option Bool) (a:Option Addr) (k:Nat),(z=true∨(fa=false∧fc=false∧fu=false))∧r=[.agg [.sl ZfT,.sl (ZdJ z),.lit (.slice a (opsR z u hc fa fc fu w).length k)]]∧pm=[.buf (some (a,k)) 77 5 (opsR z u hc fa fc fu w)]
section
variable {x:Src} {b:Nat}
theorem ZqA (hx:x.Ok):ConP (eC x b) 14 [curD b] [] RSig:=by
 have he:=hx.okC (b:=b);have c2:=Zb2 (b:=b) hx (n:=2) (by decide) (by decide);refine gIP (ts:=[.cell 2 30]) [] 5149835399278034355786243670525 Tryz.func14 ?_;refine fN 1 @tmC ?_;refine gB ?_;have F:=@tmC;refine gP 2 ?_;clear F;have F:=tmC;refine gBs ?_;clear F;refine gS 11 fun a1 k1=>?_;have F:=@tmC;refine gP 1 ?_;clear F;have F:=tmC;refine gXc ?_;clear F;refine fR @tmC ?_;refine fN 2 @tmC ?_;refine gB ?_
 have F:=@tmC;refine gCE (c2) ?_;clear F;rintro r ⟨y,rfl⟩;refine fR @tmC ?_;refine gM (ι:=Bool) [15] [3,11] (fun z=>[]) (fun z=>[(3,.var none [.sl ZfT,.sl (ZdJ z),.lit (.slice none 0 0)])]) (fun z=>True) ?_ (fun z hz=>Exists.intro _ (ai (Wk.refl _) ?_))
 ·cases y
  ·refine pD 11 [] [3] ?_;have F:=ai @nmU @tmC;refine gG ?_;exact ⟨false,trivial,gw,gw⟩
  ·refine fN 3 @tmC ?_;refine gB ?_;have F:=@tmC;refine gP 3 ?_;clear F;refine gK 18 ?_;have F:=@tmC;refine gP 3 ?_;clear F;refine gS 21 fun a2 k2=>?_;have F:=@tmC;refine gP 3 ?_;clear F;refine gD 21 [] [3] ?_;refine fR @tmC ?_;have F:=ai @nmU @tmC;refine gG ?_;exact ⟨true,trivial,gw,gw⟩
 clear hz;refine pN 1001 77 5 ?_;have hs1:((1:Int) < ((ZdJ z).length:Int))=(z=true):=by cases z <;> simp [ZdJ]
 refine fN 5 (aj3 @hs1 @Bool.decide_eq_true @tmC) ?_;refine gB ?_;have F:=@tmC;refine gP 2 ?_;clear F;refine fC @tmC ((ZgO ⟨#[97]⟩ 0 []).cu hx) ?_;refine fC @tmC ((ZgO ⟨#[98]⟩ 1 []).cu hx) ?_;refine fC @tmC ((ZgO ⟨#[101]⟩ 2 []).cu hx) ?_;have F:=@tmC;refine gP 1 ?_;clear F;refine gK 30 ?_;have F:=@tmC;refine gP 1 ?_;clear F;refine gS 35 fun a3 k3=>?_;refine fR @tmC ?_;refine fN 6 @tmC ?_;refine gB ?_
 have F:=@tmC;refine gCP [] [1002] ((Zdh ⟨#[103]⟩ 1 [0]).cu hx) ?_;clear F;rintro r pm ⟨a4,k4,rfl,rfl⟩;simp only [setA,retA,zipM,Taf,Tah];refine fR @tmC ?_;refine fN 7 @tmC ?_;refine gB ?_;have F:=@tmC;refine gCE (c2) ?_;clear F;rintro r ⟨y,rfl⟩;refine fR @tmC ?_;refine gM (ι:=Bool) [40] [5,1002] (fun u=>[]) (fun u=>[(5,.var none (gOp u))]) (fun u=>True) ?_ (fun u hu=>Exists.intro _ (ai (Wk.refl _) ?_))
 ·cases y
  ·refine pD 1002 [] [5] ?_;have F:=aj3 @opU @Zaz @tmC;refine gG ?_;exact ⟨false,trivial,gw,gw⟩
  ·refine fN 8 @tmC ?_;refine gB ?_;have F:=@tmC;refine gP 2 ?_;clear F;refine gK 42 ?_;have F:=@tmC;refine gP 4 ?_;clear F;refine gS 46 fun a2 k2=>?_;have F:=@tmC;refine gP 2 ?_;clear F;refine gD 46 [] [5] ?_;refine fR @tmC ?_;have F:=aj3 @opU @Zaz @tmC;refine gG ?_;exact ⟨true,trivial,gw,gw⟩
 clear hu;have lg:(gOp u).length=5:=rfl;have tg:(gOp u).take 5=gOp u:=rfl;have og:(gOp u).all Zau=true:=rfl;refine fN 9 (aj4 @lg @tg @og @tmC) ?_;refine gB ?_;have F:=@tmC;refine gP 2 ?_;clear F;refine gK 49 ?_;have F:=aj4 @lg @tg @og @tmC;refine gP 3 ?_;clear F;refine gS 52 fun a4 k4=>?_;refine fR @tmC ?_;refine fN 10 @tmC ?_;refine gB ?_;have F:=@tmC;refine gP 1 ?_;clear F;refine fC @tmC ((ZgO ⟨#[104]⟩ 0 [0,0]).cu hx) ?_
 have lh:∀ n r l,(opR n r l).length=5:=fun _ _ _=>rfl;have oh:∀ n r l,(opR n r l).all Zau=true:=fun _ _ _=>rfl;refine fR (aj3 @lh @oh @tmC) ?_;refine fN 11 @tmC ?_;refine gB ?_;have F:=@tmC;refine gCE (c2) ?_;clear F;rintro r ⟨hc,rfl⟩;refine fR (ai @ZlU @tmC) ?_;refine fN 12 @tmC ?_;refine gB ?_;have F:=@tmC;refine gP 2 ?_;clear F;refine gK 60 ?_;have F:=@tmC;refine gP 3 ?_;clear F;refine gS 63 fun a5 k5=>?_
 refine fR @tmC ?_;refine fN 13 @tmC ?_;refine gB ?_;have F:=@tmC;refine gP 1 ?_;clear F;have F:=@tmC;refine gCP [] [1003] ((Zdh ⟨#[102]⟩ 2 [2,2]).cu hx) ?_;clear F;rintro r pm ⟨a6,k6,rfl,rfl⟩;simp only [setA,retA,zipM,Taf,Tah];refine fR @tmC ?_;refine fN 14 @tmC ?_;refine gB ?_;refine fR @tmC ?_;refine gM (ι:=Bool × Bool × Bool) [67] [7,1003] (fun v=>[]) (fun v=>[(7,.var none (fRf z v.1 v.2.1 v.2.2))]) (fun v=>z=true∨(v.1=false∧v.2.1=false∧v.2.2=false)) ?_ (fun v hv=>Exists.intro _ (ai (Wk.refl _) ?_))
 ·cases z
  ·refine fN 20 @tmC ?_;refine gB ?_;have F:=@tmC;refine gP 2 ?_;clear F;refine gK 85 ?_;have F:=@tmC;refine gP 3 ?_;clear F;have F:=@tmC;refine gP 1 ?_;clear F;refine gD 1003 [] [7] ?_;refine fR @tmC ?_;have F:=aj3 @opU @Zaz @tmC;refine gG ?_;exact ⟨(false,false,false),.inr ⟨rfl,rfl,rfl⟩,gw,gw⟩
  ·refine fN 15 @tmC ?_;refine gB ?_;have F:=@tmC;refine gP 2 ?_;clear F;refine gK 69 ?_;have F:=@tmC;refine gP 4 ?_;clear F;refine gS 73 fun a2 k2=>?_;have F:=@tmC;refine gP 2 ?_;clear F;refine gD 73 [] [7] ?_;refine fR @tmC ?_;refine fN 16 @tmC ?_;refine gB ?_;have F:=@tmC;refine gCE (c2) ?_;clear F;rintro r ⟨fa,rfl⟩;refine fR @tmC ?_;refine fN 17 @tmC ?_;refine gB ?_;have F:=@tmC;refine gCE (c2) ?_;clear F
   rintro r ⟨fc,rfl⟩;refine fR @tmC ?_;refine fN 18 @tmC ?_;refine gB ?_;have F:=@tmC;refine gCE (c2) ?_;clear F;rintro r ⟨fu,rfl⟩;refine fR @tmC ?_
   cases fu
   ·have F:=aj3 @opU @Zaz @tmC;refine gG ?_;exact ⟨(fa,fc,false),.inl rfl,gw,gw⟩
   ·have F:=aj3 @opU @Zaz @tmC;refine gG ?_;exact ⟨(fa,fc,true),.inl rfl,gw,gw⟩
 obtain ⟨fa,fc,fu⟩:=v;dsimp only at hv ⊢;have lf:(fRf z fa fc fu).length=5:=rfl;have tf:(fRf z fa fc fu).take 5=fRf z fa fc fu:=rfl;have of':(fRf z fa fc fu).all Zau=true:=rfl;refine fN 21 @tmC ?_;refine gB ?_;have F:=@tmC;refine gP 2 ?_;clear F;refine gK 90 ?_;have F:=aj4 @lf @tf @of' @tmC;refine gP 3 ?_;clear F;refine gS 93 fun a7 k7=>?_;refine fR @tmC ?_;refine fN 22 @tmC ?_;refine gB ?_;have F:=@tmC;refine gCE (Zb2 (b:=b) hx (n:=3) (by decide) (by decide)) ?_;clear F
 rintro r ⟨y,rfl⟩;refine fR @tmC ?_;refine gM (ι:=Option Addr × Nat × Option Bool) [96] [3,93,1004] (fun q=>[]) (fun q=>[(3,.var none [.sl ZfT,.sl (ZdJ z),.lit (.slice q.1 (opsR z u hc fa fc fu q.2.2).length q.2.1)]),(1004,.buf (some (q.1,q.2.1)) 77 5 (opsR z u hc fa fc fu q.2.2))]) (fun q=>True) ?_ (fun q hq=>Exists.intro _ (ai (Wk.refl _) ?_))
 ·cases y
  ·refine pE [93] [1004] Zbd ?_;have F:=aj4 @opsU @ZlU @Zaz @tmC;refine gG ?_;exact ⟨(a7,k7,none),trivial,gw,gw⟩
  ·refine fN 23 @tmC ?_;refine gB ?_;have F:=@tmC;refine gP 1 ?_;clear F;refine fC @tmC ((ZgO ⟨#[109]⟩ 0 [0,0]).cu hx) ?_;refine fR (aj3 @lh @oh @tmC) ?_;refine fN 26 (ai @ZlU @tmC) ?_;refine gB ?_;have F:=@tmC;refine gCE (c2) ?_;clear F;rintro r ⟨w,rfl⟩;refine fR @tmC ?_
   cases w
   ·refine fN 28 @tmC ?_;refine gB ?_;have F:=@tmC;refine gP 2 ?_;clear F;refine gK 105 ?_;have F:=@tmC;refine gP 3 ?_;clear F;refine gS 108 fun a8 k8=>?_;have F:=@tmC;refine gP 2 ?_;clear F;refine gE [108] [1004] Zbd ?_;refine fR @tmC ?_;have F:=aj4 @opsU @ZlU @Zaz @tmC;refine gG ?_;exact ⟨(a8,k8,some false),trivial,gw,gw⟩
   ·refine fN 28 @tmC ?_;refine gB ?_;have F:=@tmC;refine gP 2 ?_;clear F;refine gK 105 ?_;have F:=@tmC;refine gP 3 ?_;clear F;refine gS 108 fun a8 k8=>?_;have F:=@tmC;refine gP 2 ?_;clear F;refine gE [108] [1004] Zbd ?_;refine fR @tmC ?_;have F:=aj4 @opsU @ZlU @Zaz @tmC;refine gG ?_;exact ⟨(a8,k8,some true),trivial,gw,gw⟩
 clear hq;obtain ⟨a9,k9,w⟩:=q;dsimp only;refine fG @tmC ?_;exact (have F:=tmC;gTP (R:=RSig) [1004] ⟨z,u,hc,fa,fc,fu,w,a9,k9,hv,rfl,rfl⟩)
end
def opL (name:ByteArray) (a:Option Addr × Nat) (n:Nat) (fa fc:Bool) (u:Int):List C:=[.lit (.string name),.lit (.slice a.1 n a.2),.lit (.bool fa),.lit (.bool fc),.lit (.int .i64 u)]
def gDs (u:Bool):List (List C):=Zbs [0] 1::if u then [Zbs [1] 1] else []
def fDs (z:Bool):List (List C):=if z then [Zbs [2,2] 2,Zbs [1,1] 1] else [Zbs [0,2] 2]
def mDs:Option Bool->List (List C)
 | none=>[]
 | some _=>[Zbs [0,0] 0]
def mRw (p:Option Addr × Nat):Option Bool->List (List C)
 | none=>[]
 | some w=>[opL ⟨#[109]⟩ p 1 true true (if w then 1 else 0)]
def opsL (p:Nat->Option Addr × Nat) (z u hc fa fc fu:Bool) (w:Option Bool):List (List C):=[opL ⟨#[97]⟩ (p 0) 1 false false 0,opL ⟨#[98]⟩ (p 1) 1 false false 0,opL ⟨#[101]⟩ (p 2) 1 false false 0,opL ⟨#[103]⟩ (p 3) (gDs u).length false false 0,opL ⟨#[104]⟩ (p 4) 1 false hc 0,opL ⟨#[102]⟩ (p 5) (fDs z).length fa fc (if fu then 3 else 0)]++mRw (p 6) w
def dBk (p:Option Addr × Nat) (rows:List (List C)):Bk:=.buf (some (p.1,p.2)) 81 2 rows
def ZAk (r:List D) (pm:List Bk):Prop:=∃ (z u hc fa fc fu:Bool) (w:Option Bool) (a:Option Addr) (k:Nat) (p:Nat->Option Addr × Nat) (sa:Option Addr) (sk:Nat),(z=true∨(fa=false∧fc=false∧fu=false))∧r=[.agg [.sl ZfT,.lit (.slice sa (ZdJ z).length sk),.lit (.slice a (opsL p z u hc fa fc fu w).length k)]]∧pm=[.buf (some (a,k)) 77 5 (opsL p z u hc fa fc fu w),dBk (p 0) [Zbs [] 0],dBk (p 1) [Zbs [] 1],dBk (p 2) [Zbs [] 2],dBk (p 3) (gDs u),dBk (p 4) [Zbs [0,0] 0],dBk (p 5) (fDs z),dBk (p 6) (mDs w),.buf (some (sa,sk)) 73 2 (ZdJ z)]
theorem dsU:(∀ u,gDs u=Zbs [0] 1::if u then [Zbs [1] 1] else [])∧fDs true=[Zbs [2,2] 2,Zbs [1,1] 1]∧fDs false=[Zbs [0,2] 2]∧mDs none=[]∧(∀ w,mDs (some w)=[Zbs [0,0] 0])∧(∀ args res,Zbs args res=[.sl (args.map ZbA),.lit (.int .i64 res)]):=⟨fun _=>rfl,rfl,rfl,rfl,fun _=>rfl,fun _ _=>rfl⟩
theorem Zxb {e:Env} {σ:St} {a0:Option Addr} {n cap ety sz:Nat} {rows:List (List C)} (t κ:Nat) (hs:gs σ.s t=.d (.one (.lit (.slice a0 n cap)))) (hm:gm σ.m κ=some (.buf (some (a0,cap)) ety sz rows)) (hn:n=rows.length):Turn e σ (fun σ'=>σ'=⟨(t,.buf κ)::σ.s,σ.m⟩):=by
 intro he U w0 S0 nt a w ⟨S,L,h⟩;refine ⟨_,rfl,S,L,h.cls,fun t'=>?_,h.size,h.defers,h.kept⟩;simp only [gs];split
 ·rename_i e;subst e;have hr:=h.rel t';rw [hs] at hr;have hv:a.tmps.getD t' undef=.slice a0 n cap:=by simpa [ARel,DRel,Rep] using hr
  have h2:=(h.cls.own κ _ hm).1 (a0,cap) rfl;show _=_;rw [hv,h2,hn]
 ·exact h.rel t'
theorem gKx {e:Env} {K:St->Prop} {ds:List (Option Nat)} {os:List Oper} {s:List (Nat × A)} {m:List (Nat × Bk)} {a0:Option Addr} {n cap ety sz:Nat} {rows:List (List C)} (t κ:Nat) (hK:Runs e ds 0 os ⟨(t,.buf κ)::s,m⟩ K) (hm:gm m κ=some (.buf (some (a0,cap)) ety sz rows):=by exact snv) (hs:gs s t=.d (.one (.lit (.slice a0 n cap))):=by exact snv) (hn:n=rows.length:=by first | rfl | simp):Runs e ds 0 os ⟨s,m⟩ K :=
 Zdx (Zxb t κ hs hm hn) fun σ' hσ=>by subst hσ;exact hK
section
variable {x:Src} {b:Nat}
theorem Zpw (hx:x.Ok):ConP (eC x b) 14 [curD b] [] ZAk:=by
 have he:=hx.okC (b:=b);have c2:=Zb2 (b:=b) hx (n:=2) (by decide) (by decide);refine gIP (ts:=[.cell 2 30]) [] 5149835399278034355786243670525 Tryz.func14 ?_;refine fN 1 @tmC ?_;refine gB ?_;have F:=@tmC;refine gP 2 ?_;clear F;have F:=tmC;refine gBs ?_;clear F;refine gS 11 fun a1 k1=>?_;have F:=@tmC;refine gP 1 ?_;clear F;have F:=tmC;refine gXc ?_;clear F;refine fR @tmC ?_;refine fN 2 @tmC ?_;refine gB ?_
 have F:=@tmC;refine gCE (c2) ?_;clear F;rintro r ⟨y,rfl⟩;refine fR @tmC ?_;refine gM (ι:=Bool × Option Addr × Nat) [15] [3,11,2007] (fun z=>[]) (fun z=>[(3,.var none [.sl ZfT,.lit (.slice z.2.1 (ZdJ z.1).length z.2.2),.lit (.slice none 0 0)]),(2007,.buf (some (z.2.1,z.2.2)) 73 2 (ZdJ z.1))]) (fun z=>True) ?_ (fun z hz=>Exists.intro _ (ai (Wk.refl _) ?_))
 ·cases y
  ·refine pE [11] [2007] Zbd ?_;have F:=ai @nmU @tmC;refine gG ?_;exact ⟨(false,a1,k1),trivial,gw,gw⟩
  ·refine fN 3 @tmC ?_;refine gB ?_;have F:=@tmC;refine gP 3 ?_;clear F;refine gK 18 ?_;have F:=@tmC;refine gP 3 ?_;clear F;refine gS 21 fun a2 k2=>?_;have F:=@tmC;refine gP 3 ?_;clear F;refine gE [21] [2007] Zbd ?_;refine fR @tmC ?_;have F:=ai @nmU @tmC;refine gG ?_;exact ⟨(true,a2,k2),trivial,gw,gw⟩
 clear hz;obtain ⟨z,sa,sk⟩:=z;dsimp only;have hs1:((1:Int) < ((ZdJ z).length:Int))=(z=true):=by cases z <;> simp [ZdJ]
 refine fN 5 (aj3 @hs1 @Bool.decide_eq_true @tmC) ?_;refine pN 1001 77 5 ?_;have F:=tmC;refine gN0 6 [0,1] [2,3,4,5] ?_;clear F;have F:=tmC;refine gNd ?_;clear F;have F:=tmC;refine gNP [2000] ((Zdh ⟨#[97]⟩ 0 []).cu hx) ?_;clear F;rintro r pm ⟨b0,j0,rfl,rfl⟩;simp only [setA,retA,zipM,Taf,Tah];have F:=tmC;refine gNP [2001] ((Zdh ⟨#[98]⟩ 1 []).cu hx) ?_;clear F;rintro r pm ⟨b1,j1,rfl,rfl⟩;simp only [setA,retA,zipM,Taf,Tah]
 have F:=tmC;refine gNP [2002] ((Zdh ⟨#[101]⟩ 2 []).cu hx) ?_;clear F;rintro r pm ⟨b2,j2,rfl,rfl⟩;simp only [setA,retA,zipM,Taf,Tah];have F:=tmC;refine gNr ?_;clear F;refine gKx 30 1001 ?_;have F:=@tmC;refine gP 1 ?_;clear F;refine gS 35 fun a3 k3=>?_;refine fR @tmC ?_;refine fN 6 @tmC ?_;refine gB ?_;have F:=@tmC;refine gCP [] [2003] ((Zdh ⟨#[103]⟩ 1 [0]).cu hx) ?_;clear F;rintro r pm ⟨a4,k4,rfl,rfl⟩
 simp only [setA,retA,zipM,Taf,Tah];refine fR @tmC ?_;refine fN 7 @tmC ?_;refine gB ?_;have F:=@tmC;refine gCE (c2) ?_;clear F;rintro r ⟨y,rfl⟩;refine fR @tmC ?_;refine gM (ι:=Bool × Option Addr × Nat) [40] [5,2003] (fun u=>[]) (fun u=>[(5,.var none [.lit (.string ⟨#[103]⟩),.lit (.slice u.2.1 (gDs u.1).length u.2.2),.lit (.bool false),.lit (.bool false),.lit (.int .i64 0)]),(2003,.buf (some (u.2.1,u.2.2)) 81 2 (gDs u.1))]) (fun u=>True) ?_ (fun u hu=>Exists.intro _ (ai (Wk.refl _) ?_))
 ·cases y
  ·have F:=aj3 @dsU @Zaz @tmC;refine gG ?_;exact ⟨(false,a4,k4),trivial,gw,gw⟩
  ·refine fN 8 @tmC ?_;refine gB ?_;have F:=@tmC;refine gP 2 ?_;clear F;refine gKx 42 2003 ?_;have F:=@tmC;refine gP 4 ?_;clear F;refine gS 46 fun a2 k2=>?_;have F:=@tmC;refine gP 2 ?_;clear F;refine gE [46] [2003] Zbd ?_;refine fR @tmC ?_;have F:=aj3 @dsU @Zaz @tmC;refine gG ?_;exact ⟨(true,a2,k2),trivial,gw,gw⟩
 clear hu;obtain ⟨u,b3,j3⟩:=u;dsimp only;refine fN 9 @tmC ?_;refine gB ?_;have F:=@tmC;refine gP 2 ?_;clear F;refine gKx 49 35 ?_;have F:=@tmC;refine gP 3 ?_;clear F;refine gS 52 fun a4 k4=>?_;refine fR @tmC ?_;refine fN 10 @tmC ?_;refine gB ?_;have F:=@tmC;refine gP 1 ?_;clear F;have F:=@tmC;refine gCP [] [2004] ((Zdh ⟨#[104]⟩ 0 [0,0]).cu hx) ?_;clear F;rintro r pm ⟨b4,j4,rfl,rfl⟩;simp only [setA,retA,zipM,Taf,Tah]
 refine fR @tmC ?_;refine fN 11 @tmC ?_;refine gB ?_;have F:=@tmC;refine gCE (c2) ?_;clear F;rintro r ⟨hc,rfl⟩;refine fR @tmC ?_;refine fN 12 @tmC ?_;refine gB ?_;have F:=@tmC;refine gP 2 ?_;clear F;refine gKx 60 52 ?_;have F:=@tmC;refine gP 3 ?_;clear F;refine gS 63 fun a5 k5=>?_;refine fR @tmC ?_;refine fN 13 @tmC ?_;refine gB ?_;have F:=@tmC;refine gP 1 ?_;clear F;have F:=@tmC;refine gCP [] [2005] ((Zdh ⟨#[102]⟩ 2 [2,2]).cu hx) ?_;clear F
 rintro r pm ⟨a6,k6,rfl,rfl⟩;simp only [setA,retA,zipM,Taf,Tah];refine fR @tmC ?_;refine fN 14 @tmC ?_;refine gB ?_;refine fR @tmC ?_;refine gM (ι:=(Bool × Bool × Bool) × Option Addr × Nat) [67] [7,2005] (fun v=>[]) (fun v=>[(7,.var none [.lit (.string ⟨#[102]⟩),.lit (.slice v.2.1 (fDs z).length v.2.2),.lit (.bool v.1.1),.lit (.bool v.1.2.1),.lit (.int .i64 (if v.1.2.2 then 3 else 0))]),(2005,.buf (some (v.2.1,v.2.2)) 81 2 (fDs z))]) (fun v=>z=true∨(v.1.1=false∧v.1.2.1=false∧v.1.2.2=false)) ?_ (fun v hv=>Exists.intro _ (ai (Wk.refl _) ?_))
 ·cases z
  ·refine fN 20 @tmC ?_;refine gB ?_;have F:=@tmC;refine gP 2 ?_;clear F;refine gKx 85 2005 ?_;have F:=@tmC;refine gP 3 ?_;clear F;have F:=@tmC;refine gP 1 ?_;clear F;refine fR @tmC ?_;have F:=aj3 @dsU @Zaz @tmC;refine gG ?_;exact ⟨((false,false,false),a6,k6),.inr ⟨rfl,rfl,rfl⟩,gw,gw⟩
  ·refine fN 15 @tmC ?_;refine gB ?_;have F:=@tmC;refine gP 2 ?_;clear F;refine gKx 69 2005 ?_;have F:=@tmC;refine gP 4 ?_;clear F;refine gS 73 fun a2 k2=>?_;have F:=@tmC;refine gP 2 ?_;clear F;refine gE [73] [2005] Zbd ?_;refine fR @tmC ?_;refine fN 16 @tmC ?_;refine gB ?_;have F:=@tmC;refine gCE (c2) ?_;clear F;rintro r ⟨fa,rfl⟩;refine fR @tmC ?_;refine fN 17 @tmC ?_;refine gB ?_;have F:=@tmC;refine gCE (c2) ?_;clear F
   rintro r ⟨fc,rfl⟩;refine fR @tmC ?_;refine fN 18 @tmC ?_;refine gB ?_;have F:=@tmC;refine gCE (c2) ?_;clear F;rintro r ⟨fu,rfl⟩;refine fR @tmC ?_
   cases fu
   ·have F:=aj3 @dsU @Zaz @tmC;refine gG ?_;exact ⟨((fa,fc,false),a2,k2),.inl rfl,gw,gw⟩
   ·have F:=aj3 @dsU @Zaz @tmC;refine gG ?_;exact ⟨((fa,fc,true),a2,k2),.inl rfl,gw,gw⟩
 obtain ⟨⟨fa,fc,fu⟩,b5,j5⟩:=v;dsimp only at hv ⊢;refine fN 21 @tmC ?_;refine gB ?_;have F:=@tmC;refine gP 2 ?_;clear F;refine gKx 90 63 ?_;have F:=@tmC;refine gP 3 ?_;clear F;refine gS 93 fun a7 k7=>?_;refine fR @tmC ?_;refine fN 22 @tmC ?_;refine gB ?_;have F:=@tmC;refine gCE (Zb2 (b:=b) hx (n:=3) (by decide) (by decide)) ?_;clear F;rintro r ⟨y,rfl⟩;refine fR @tmC ?_
 obtain ⟨p,hp⟩:∃ p:(Option Addr × Nat)->Nat->Option Addr × Nat,p=fun q i=>match i with
  | 0=>(b0,j0)
  | 1=>(b1,j1)
  | 2=>(b2,j2)
  | 3=>(b3,j3)
  | 4=>(b4,j4)
  | 5=>(b5,j5)
  | _=>q:=⟨_,rfl⟩
 have hR:∀ (q:Option Addr × Nat) (w:Option Bool),opsL (p q) z u hc fa fc fu w=[[.lit (.string ⟨#[97]⟩),.lit (.slice b0 1 j0),.lit (.bool false),.lit (.bool false),.lit (.int .i64 0)],[.lit (.string ⟨#[98]⟩),.lit (.slice b1 1 j1),.lit (.bool false),.lit (.bool false),.lit (.int .i64 0)],[.lit (.string ⟨#[101]⟩),.lit (.slice b2 1 j2),.lit (.bool false),.lit (.bool false),.lit (.int .i64 0)],[.lit (.string ⟨#[103]⟩),.lit (.slice b3 (gDs u).length j3),.lit (.bool false),.lit (.bool false),.lit (.int .i64 0)],[.lit (.string ⟨#[104]⟩),.lit (.slice b4 1 j4),.lit (.bool false),.lit (.bool hc),.lit (.int .i64 0)],[.lit (.string ⟨#[102]⟩),.lit (.slice b5 (fDs z).length j5),.lit (.bool fa),.lit (.bool fc),.lit (.int .i64 (if fu then 3 else 0))]]++mRw q w:=fun q w=>by subst hp;rfl
 have hM0:∀ q:Option Addr × Nat,mRw q none=[]:=fun _=>rfl;have hM1:∀ (q:Option Addr × Nat) (w:Bool),mRw q (some w)=[[.lit (.string ⟨#[109]⟩),.lit (.slice q.1 1 q.2),.lit (.bool true),.lit (.bool true),.lit (.int .i64 (if w then 1 else 0))]]:=fun _ _=>rfl;refine gM (ι:=(Option Addr × Nat × Option Bool) × Option Addr × Nat) [96] [3,93,1004,2006] (fun q=>[]) (fun q=>[(3,.var none [.sl ZfT,.lit (.slice sa (ZdJ z).length sk),.lit (.slice q.1.1 (opsL (p q.2) z u hc fa fc fu q.1.2.2).length q.1.2.1)]),(1004,.buf (some (q.1.1,q.1.2.1)) 77 5 (opsL (p q.2) z u hc fa fc fu q.1.2.2)),(2006,.buf (some (q.2.1,q.2.2)) 81 2 (mDs q.1.2.2))]) (fun q=>True) ?_ (fun q hq=>Exists.intro _ (ai (Wk.refl _) ?_))
 ·cases y
  ·refine pE [93] [1004] Zbd ?_;refine pN 2006 81 2 ?_;have F:=aj5 @hR @hM0 @dsU @Zaz @tmC;refine gG ?_;exact ⟨((a7,k7,none),none,0),trivial,gw,gw⟩
  ·refine fN 23 @tmC ?_;refine gB ?_;have F:=@tmC;refine gP 1 ?_;clear F;have F:=@tmC;refine gCP [] [2006] ((Zdh ⟨#[109]⟩ 0 [0,0]).cu hx) ?_;clear F;rintro r pm ⟨b6,j6,rfl,rfl⟩;simp only [setA,retA,zipM,Taf,Tah];refine fR @tmC ?_;refine fN 26 @tmC ?_;refine gB ?_;have F:=@tmC;refine gCE (c2) ?_;clear F;rintro r ⟨w,rfl⟩;refine fR @tmC ?_
   cases w
   ·refine fN 28 @tmC ?_;refine gB ?_;have F:=@tmC;refine gP 2 ?_;clear F;refine gKx 105 93 ?_;have F:=@tmC;refine gP 3 ?_;clear F;refine gS 108 fun a8 k8=>?_;have F:=@tmC;refine gP 2 ?_;clear F;refine gE [108] [1004] Zbd ?_;refine fR @tmC ?_;have F:=aj5 @hR @hM1 @dsU @Zaz @tmC;refine gG ?_;exact ⟨((a8,k8,some false),b6,j6),trivial,gw,gw⟩
   ·refine fN 28 @tmC ?_;refine gB ?_;have F:=@tmC;refine gP 2 ?_;clear F;refine gKx 105 93 ?_;have F:=@tmC;refine gP 3 ?_;clear F;refine gS 108 fun a8 k8=>?_;have F:=@tmC;refine gP 2 ?_;clear F;refine gE [108] [1004] Zbd ?_;refine fR @tmC ?_;have F:=aj5 @hR @hM1 @dsU @Zaz @tmC;refine gG ?_;exact ⟨((a8,k8,some true),b6,j6),trivial,gw,gw⟩
 clear hq hR hM0 hM1;obtain ⟨⟨a9,k9,w⟩,q6⟩:=q;dsimp only;refine fG @tmC ?_;subst hp;have hpn:∀ q rows,pinned (dBk q rows)=true:=fun _ _=>rfl;exact (have F:=ai hpn tmC;gTP (R:=ZAk) [1004,2000,2001,2002,2003,2004,2005,2006,2007] ⟨z,u,hc,fa,fc,fu,w,a9,k9,_,sa,sk,hv,rfl,rfl⟩ (hp:=by simp only [pz,↓reduceIte,Nat.reduceEqDiff,Nat.reduceAdd,Nat.reduceSub,Nat.reduceMul,Nat.reduceLeDiff,Nat.reduceBEq,Tam,decide_true,decide_false,Int.reduceLE,Int.reduceToNat,Int.reduceLT,Int.reduceEq,eq_self,Nat.reduceShiftRight,Nat.reduceAnd,Nat.reduceBneDiff,hpn]))
end
def ZlV (a:Option Addr) (cap:Nat) (rows:List (List C)):List D->List D->Prop
 | [],[]=>True
 | l::ls,d::ds=>(l=d∨(l=.one (.lit (.slice a rows.length cap))∧d=.one (.sl rows)))∧ZlV a cap rows ls ds
 | _,_=>False
theorem ZlV.rel {a:Option Addr} {cap ety sz:Nat} {rows:List (List C)}:∀ {lits data:List D},ZlV a cap rows lits data->∀ (w:World) (S:Nat->Prop) (vs:List Value),ZaE w S ety sz rows (.slice a rows.length cap)->Zav w S lits vs->Zav w (fun b=>S b∨vblk (.slice a rows.length cap)=some b) data vs
 | [],[],_,w,S,[],_,_=>trivial
 | [],[],_,w,S,_::_,_,h=>h.elim
 | l::ls,d::ds,hr,w,S,[],_,h=>h.elim
 | l::ls,d::ds,⟨h1,h2⟩,w,S,v::vs,hp,⟨hv,hvs⟩=>by
  refine ⟨?_,ZlV.rel h2 w S vs hp hvs⟩;rcases h1 with rfl | ⟨rfl,rfl⟩
  ·exact DRel.keep (Tai _) (fun _ _ _=>rfl) (fun b hb=>.inl hb) hv
  ·have hv:v=.slice a rows.length cap:=hv;subst hv;exact hp.rep
 | [],_::_,h,_,_,_,_,_=>h.elim
 | _::_,[],h,_,_,_,_,_=>h.elim
section
variable {e:Env} {U:Nat->Prop} {S0:Nat->Prop} {o:Oper}
end
section
variable {e:Env} {ds:List (Option Nat)} {K:St->Prop} {n n':Nat} {os os':List Oper} {σ:St}
end
end Go.Proofs.YtmdkimnlbaahbaaGreatDoor
