/-
  Part of a proof.
-/
import Derived.Test.YtjoaefnnnbpflaaGreatDoorBRenameEquationCardSaid0
import Derived.Test.YtjoaefnnnbpflaaGreatDoorBRenameEquationCardSaid1
import Derived.Test.YtjoaefnnnbpflaaGreatDoorBRenameEquationCardSaid2
import Derived.Test.YtjoaefnnnbpflaaGreatDoorRows
set_option linter.unusedSimpArgs false
set_option linter.unusedVariables false
set_option maxHeartbeats 400000000
set_option maxRecDepth 100000
namespace Go.Proofs.YtjoaefnnnbpflaaGreatDoor
open Go.RowKit
theorem ZtN {P A B Q:List Tm} {i k:Nat} {x:Tm} (h:A[i]?=some x) (hk:k=P.length+i):(P++A++B++Q)[k]?=some x:=by
 have hi:=(Tad.1 h).1;subst hk;rw [Tbf,Tbf,Tbq om,Nat.add_sub_cancel_left,Tbp hi,h]
theorem ZtO {P A B Q:List Tm} {i k:Nat} {x:Tm} (h:B[i]?=some x) (hk:k=P.length+A.length+i):(P++A++B++Q)[k]?=some x:=by
 have hi:=(Tad.1 h).1;subst hk;rw [Tbf,Tbq (by rw [Tae];omega),Tae,Nat.add_sub_cancel_left,Tbp hi,h]
theorem ZpW {B:List Tm} {x:Tm} (hB:Up B) {s:Nat} (h1:0 < s->∃ y,B[s - 1]?=some y∧Zah y x<=0) (h2:s < B.length->∃ y,B[s]?=some y∧Zah x y<=0):Zaw ([x]++B)=B.take s++x::B.drop s:=(ZfK (Zy5 s) (hB.put h1 h2)).symm
def SymL (A B:List Tm) (lo mid st i:Nat):Prop:=st < i->∃ u v,A[i - 1 - lo]?=some u∧B[mid - i]?=some v∧Zah u v<=0
def SymR (A B:List Tm) (lo mid r0 j:Nat):Prop:=j < r0->∃ u v,B[mid - 1 - j]?=some u∧A[j - lo]?=some v∧Zah u v<=0
theorem ZpX:∀ (n:Nat) (P A B Q:List Tm),A.length+B.length<=n->0 < A.length->0 < B.length->Up A->Up B->∀ {lo mi hi N:Nat},lo=P.length->mi=P.length+A.length->hi=P.length+A.length+B.length->N=P.length+A.length+B.length+Q.length->N<=4000000->∀ (a:Option Addr) (cap:Nat),
  ConP e0 172 [.one (.lit (.slice a N cap)),.one (.lit (.int .i64 lo)),.one (.lit (.int .i64 mi)),.one (.lit (.int .i64 hi)),.one (.fn 137 [])] [.buf (some (a,cap)) 39 4 (Zaa (P++A++B++Q))] (RBuf a cap (P++Zaw (A++B)++Q)):=by
 intro n
 induction n with
 | zero=>intro P A B Q h1 h2;omega
 | succ n ih =>
 intro P A B Q hsz hA0 hB0 hA hB lo mi hi N hlo hmi hhi hN hmx a cap;have hU:∃ U,U=P++A++B++Q:=⟨_,rfl⟩;obtain ⟨U,hU⟩:=hU;have hUl:U.length=N:=by rw [hU];simp only [Tae];omega
 rw [<- hU];have w0:IntKind.i64.wrap ((mi:Int) - (lo:Int))=(A.length:Int):=Za4 om om om;have w1:IntKind.i64.wrap ((hi:Int) - (mi:Int))=(B.length:Int):=Za4 om om om;refine gIP (ts:=[]) [1000] 13164839976634628298295110780136696778032692856359452003713154079 Tryz.func172 ?_;by_cases hA1:A.length=1
 ·have q1:((A.length:Int)=1)=True:=eq_true om;obtain ⟨x,hx⟩:∃ x,A=[x]:=List.length_eq_one_iff.1 hA1;have gx:U[lo]?=some x:=by rw [hU];exact ZtN (i:=0) (by rw [hx];rfl) om
  have l0:lo < N:=om;refine fG (aj3 @w0 @q1 @tmz) ?_;clear q1;have F:=@tmz;refine gL (ι:=Nat × Nat) [10,11,12,33,50] [] (fun z=>[(10,.d (.one (.lit (.int .i64 (z.1:Int))))),(11,.d (.one (.lit (.int .i64 (z.2:Int)))))]) (fun z=>[]) (fun z=>mi<=z.1∧z.1<=z.2∧z.2<=hi∧(mi < z.1->∃ y,B[z.1 - mi - 1]?=some y∧Zah y x<=0)∧(z.2 < hi->∃ y,B[z.2 - mi]?=some y∧Zah x y<=0)) (fun z=>z.2 - z.1) ((mi,hi)) (⟨Tai _,om,Tai _,fun h=>om,fun h=>om⟩) (fun z hz=>?_);clear F
  obtain ⟨i,j⟩:=z;obtain ⟨h1,h2,h3,h4,h5⟩:=hz;simp only at h1 h2 h3 h4 h5;dsimp only;by_cases hij:i < j
  ·have q2:=lT i j;obtain ⟨s,h,u1,u2,u3,u4,hh⟩:=ZjY i j om;obtain ⟨y,hy⟩:∃ y,B[h - mi]?=some y:=⟨_,Taa om⟩;have gy:U[h]?=some y:=by rw [hU];exact ZtO hy om
   have lh:h < N:=om;have wh:=Zau (k:=h) om;refine fB (aj14 @q2 @u1 @u2 @u3 @u4 @Zhx @ZjW @Zgg @Zig @Zgh @ZjX @toNat_one @ZlA @tmz) ?_;refine fC (aj7 @tmz @gx @gy @l0 @lh @hUl @Zad) (ZjM (ZeH y x)) ?_;by_cases hc:Zah y x < 0
   ·have z1:(Zah y x < 0)=True:=eq_true hc;refine fR (ai @z1 @tmz) ?_;have F:=ai @z1 @wh;refine gG ?_;exact ⟨(h+1,j),⟨om,om,h3,fun _=>⟨y,by rw [<- hy];congr 1;omega,om⟩,h5⟩,gw,gw,om⟩
   ·have z1:(Zah y x < 0)=False:=eq_false hc;refine fR (ai @z1 @tmz) ?_;have F:=@z1;refine gG ?_;exact ⟨(i,h),⟨h1,om,om,h4,fun _=>⟨y,hy,Zoz hc⟩⟩,gw,gw,om⟩
  have q2:=lF i j;obtain rfl:i=j:=by omega
  obtain ⟨e,he⟩:∃ e,i=e+1:=⟨i - 1,om⟩;have w2:IntKind.i64.wrap ((i:Int) - 1)=(e:Int):=Za4 om om om;have hout:Zaw (A++B)=B.take (e - lo)++x::B.drop (e - lo):=by
   rw [hx];exact ZpW hB (fun h=>by obtain ⟨y,hy,hc⟩:=h4 om;exact ⟨y,by rw [<- hy];congr 1;omega,hc⟩) (fun h=>by obtain ⟨y,hy,hc⟩:=h5 om;exact ⟨y,by rw [<- hy];congr 1;omega,hc⟩)
  rw [hout];refine fG (ai @q2 @tmz) ?_;have F:=@tmz;refine gL (ι:=Nat × List Tm) [13,58] [1000] (fun z=>[(13,.d (.one (.lit (.int .i64 (z.1:Int)))))]) (fun z=>[(1000,.buf (some (a,cap)) 39 4 (Zaa z.2))]) (fun z=>lo<=z.1∧z.1<=e∧z.2=P++B.take (z.1 - lo)++x::(B.drop (z.1 - lo)++Q)) (fun z=>e - z.1) ((lo,U)) (⟨Tai _,om,by rw [hU,hx,Nat.sub_self];simp⟩) (fun z hz=>?_);clear F;obtain ⟨k,us⟩:=z;obtain ⟨k1,k2,hus⟩:=hz
  simp only at k1 k2 hus;dsimp only;by_cases hk:k < e
  ·have q3:=lT k e;obtain ⟨y,hy⟩:∃ y,B[k - lo]?=some y:=⟨_,Taa om⟩;have hPl:(P++B.take (k - lo)).length=k:=by rw [Tae,Taw];omega
   rw [ZdE hy] at hus;have g1:us[k]?=some x:=by rw [hus];exact ZhB hPl
   have g2:us[k+1]?=some y:=by rw [hus];exact ZmN hPl
   obtain ⟨V,hV⟩:∃ V,V=P++B.take (k+1 - lo)++x::(B.drop (k+1 - lo)++Q):=⟨_,rfl⟩;have g3:(us.set k y).set (k+1) x=V:=by
    rw [hV,hus,Taf,Zy6 hPl,show k+1 - lo=k - lo+1 by omega,Zcj hy];simp
   have hul:us.length=N:=by rw [hus];simp only [Tae,Tag,Taw,Tax];omega
   obtain ⟨k',hk'⟩:∃ k',k'=k+1:=⟨_,rfl⟩;rw [<- hk'] at g2 g3 hV;have wk:IntKind.i64.wrap ((k:Int)+1)=(k':Int):=Za4 om om om;have l1:k < N:=om;have l2:k' < N:=om;have hls:∀ q (t:Tm),(us.set q t).length=N:=fun q t=>by rw [Taz,hul]
   obtain ⟨z,g4⟩:∃ z,(us.set k y)[k']?=some z:=⟨_,Taa (by rw [Taz];omega)⟩;refine fN 11 (aj3 @q3 @w2 @tmz) ?_;refine gF0 ?_;refine gFm 0 ?_;refine gFm 1 ?_;refine gFm 2 ?_;refine gFm 3 ?_;refine (have F:=(aj11 wk l1 l2 hul g1 g2 g4 hls @Zad @Zas tmz);gFb 4 ?_);refine gFm 5 ?_;refine gFm 6 ?_;refine (have F:=(aj11 wk l1 l2 hul g1 g2 g4 hls @Zad @Zas tmz);gFb 7 ?_);refine (have F:=(aj11 wk l1 l2 hul g1 g2 g4 hls @Zad @Zas tmz);gFi (rows:=Zaa us) 8 k' (by rw [Zad];omega) ?_)
   refine gFm 10 ?_;refine gFm 11 ?_;refine (have F:=(aj11 wk l1 l2 hul g1 g2 g4 hls @Zad @Zas tmz);gFi (rows:=Zaa us) 12 k (by rw [Zad];omega) ?_);refine gFT ?_;refine gO2 9 13 ?_ ?_
   ·refine (have F:=(aj11 wk l1 l2 hul g1 g2 g4 hls @Zad @Zas tmz);gO3 ?_);refine gO1 13 ?_;refine (have F:=(aj11 wk l1 l2 hul g1 g2 g4 hls @Zad @Zas tmz);gO3 ?_);refine gO1 14 ?_;refine (have F:=(aj11 wk l1 l2 hul g1 g2 g4 hls @Zad @Zas tmz);gO3 ?_);refine gO1 15 ?_;refine (have F:=(aj11 wk l1 l2 hul g1 g2 g4 hls @Zad @Zas tmz);gO3 ?_);refine gO1 16 ?_;refine (have F:=(aj11 wk l1 l2 hul g1 g2 g4 hls @Zad @Zas tmz);gO3 ?_)
    refine gO1 17 ?_;refine (have F:=(aj11 wk l1 l2 hul g1 g2 g4 hls @Zad @Zas tmz);gO3 ?_);refine (have F:=tmz;gT0 ?_);refine Exists.intro _ (ai (Wk.refl _) ?_);rw [g3];have F:=@wk;refine gG ?_;exact ⟨(k',V),⟨om,om,hV⟩,gw,gw,om⟩
   ·refine (have F:=(aj11 wk l1 l2 hul g1 g2 g4 hls @Zad @Zas tmz);gO3 ?_);refine gO1 9 ?_;refine (have F:=(aj11 wk l1 l2 hul g1 g2 g4 hls @Zad @Zas tmz);gO3 ?_);refine gO1 14 ?_;refine (have F:=(aj11 wk l1 l2 hul g1 g2 g4 hls @Zad @Zas tmz);gO3 ?_);refine gO1 15 ?_;refine (have F:=(aj11 wk l1 l2 hul g1 g2 g4 hls @Zad @Zas tmz);gO3 ?_);refine gO1 16 ?_;refine (have F:=(aj11 wk l1 l2 hul g1 g2 g4 hls @Zad @Zas tmz);gO3 ?_)
    refine gO1 17 ?_;refine (have F:=(aj11 wk l1 l2 hul g1 g2 g4 hls @Zad @Zas tmz);gO3 ?_);refine (have F:=tmz;gT0 ?_);refine Exists.intro _ (ai (Wk.refl _) ?_);rw [g3];have F:=@wk;refine gG ?_;exact ⟨(k',V),⟨om,om,hV⟩,gw,gw,om⟩
  have q3:=lF k e;obtain rfl:k=e:=by omega
  subst hus;rw [show P++B.take (k - lo)++x::(B.drop (k - lo)++Q)=P++(B.take (k - lo)++x::B.drop (k - lo))++Q by simp];refine fG (aj3 @q3 @w2 @tmz) ?_
  first | exact (have F:=@e0P;gTPe (R:=RBuf a cap (P++(B.take (k - lo)++x::B.drop (k - lo))++Q)) [1000] ⟨rfl,rfl⟩) | exact (have F:=@e0P;gTP (R:=RBuf a cap (P++(B.take (k - lo)++x::B.drop (k - lo))++Q)) [1000] ⟨rfl,rfl⟩)
 have q1:((A.length:Int)=1)=False:=eq_false om;by_cases hB1:B.length=1
 ·have q1':((B.length:Int)=1)=True:=eq_true om;obtain ⟨x,hx⟩:∃ x,B=[x]:=List.length_eq_one_iff.1 hB1;have gx:U[mi]?=some x:=by rw [hU];exact ZtO (i:=0) (by rw [hx];rfl) om
  have l0:mi < N:=om;refine fG (aj5 @w0 @w1 @q1 @q1' @tmz) ?_;clear q1 q1';have F:=@tmz;refine gL (ι:=Nat × Nat) [14,15,16,85,103] [] (fun z=>[(14,.d (.one (.lit (.int .i64 (z.1:Int))))),(15,.d (.one (.lit (.int .i64 (z.2:Int)))))]) (fun z=>[]) (fun z=>lo<=z.1∧z.1<=z.2∧z.2<=mi∧(lo < z.1->∃ y,A[z.1 - lo - 1]?=some y∧Zah y x<=0)∧(z.2 < mi->∃ y,A[z.2 - lo]?=some y∧Zah x y<=0)) (fun z=>z.2 - z.1) ((lo,mi)) (⟨Tai _,om,Tai _,fun h=>om,fun h=>om⟩) (fun z hz=>?_);clear F
  obtain ⟨i,j⟩:=z;obtain ⟨h1,h2,h3,h4,h5⟩:=hz;simp only at h1 h2 h3 h4 h5;dsimp only;by_cases hij:i < j
  ·have q2:=lT i j;obtain ⟨s,h,u1,u2,u3,u4,hh⟩:=ZjY i j om;obtain ⟨y,hy⟩:∃ y,A[h - lo]?=some y:=⟨_,Taa om⟩;have gy:U[h]?=some y:=by rw [hU];exact ZtN hy om
   have lh:h < N:=om;have wh:=Zau (k:=h) om;refine fB (aj14 @q2 @u1 @u2 @u3 @u4 @Zhx @ZjW @Zgg @Zig @Zgh @ZjX @toNat_one @ZlA @tmz) ?_;refine fC (aj7 @tmz @gx @gy @l0 @lh @hUl @Zad) (ZjM (ZeH x y)) ?_;by_cases hc:Zah x y < 0
   ·have z1:(Zah x y < 0)=True:=eq_true hc;refine fR (ai @z1 @tmz) ?_;have F:=@z1;refine gG ?_;exact ⟨(i,h),⟨h1,om,om,h4,fun _=>⟨y,hy,om⟩⟩,gw,gw,om⟩
   ·have z1:(Zah x y < 0)=False:=eq_false hc;refine fR (ai @z1 @tmz) ?_;have F:=ai @z1 @wh;refine gG ?_;exact ⟨(h+1,j),⟨om,om,h3,fun _=>⟨y,by rw [<- hy];congr 1;omega,Zoz hc⟩,h5⟩,gw,gw,om⟩
  have q2:=lF i j;obtain rfl:i=j:=by omega
  have hout:Zaw (A++B)=A.take (i - lo)++x::A.drop (i - lo):=by
   rw [hx,Zpy (List.perm_append_comm (l₁:=A) (l₂:=[x]))];exact ZpW hA (fun h=>by obtain ⟨y,hy,hc⟩:=h4 om;exact ⟨y,hy,hc⟩) (fun h=>by obtain ⟨y,hy,hc⟩:=h5 om;exact ⟨y,hy,hc⟩)
  rw [hout];refine fG (ai @q2 @tmz) ?_;have F:=@tmz;refine gL (ι:=Nat × List Tm) [17,110] [1000] (fun z=>[(17,.d (.one (.lit (.int .i64 (z.1:Int)))))]) (fun z=>[(1000,.buf (some (a,cap)) 39 4 (Zaa z.2))]) (fun z=>i<=z.1∧z.1<=mi∧z.2=P++A.take (z.1 - lo)++x::(A.drop (z.1 - lo)++Q)) (fun z=>z.1) ((mi,U)) (⟨h3,Tai _,by rw [hU,hx,show mi - lo=A.length by omega,Tap,List.drop_length];simp⟩) (fun z hz=>?_);clear F
  obtain ⟨k,us⟩:=z;obtain ⟨k1,k2,hus⟩:=hz;simp only at k1 k2 hus;dsimp only;by_cases hk:i < k
  ·have q3:=lT i k;obtain ⟨p,hp⟩:∃ p,k=p+1:=⟨k - 1,om⟩;obtain ⟨y,hy⟩:∃ y,A[p - lo]?=some y:=⟨_,Taa om⟩;have hPl:(P++A.take (p - lo)).length=p:=by rw [Tae,Taw];omega
   have hus2:us=(P++A.take (p - lo))++y::x::(A.drop (k - lo)++Q):=by rw [hus,show k - lo=p - lo+1 by omega,Zcj hy];simp
   have g1:us[p]?=some y:=by rw [hus2];exact ZhB hPl
   have g2:us[k]?=some x:=by rw [hus2,hp];exact ZmN hPl
   obtain ⟨V,hV⟩:∃ V,V=P++A.take (p - lo)++x::(A.drop (p - lo)++Q):=⟨_,rfl⟩;have g3:(us.set k y).set p x=V:=by
    rw [hV,hus2,hp,ZsS hPl,ZdE hy,show p+1 - lo=p - lo+1 by omega];simp
   have hul:us.length=N:=by rw [hus];simp only [Tae,Tag,Taw,Tax];omega
   have wk:IntKind.i64.wrap ((k:Int) - 1)=(p:Int):=Za4 om om om;have l1:k < N:=om;have l2:p < N:=om;have hls:∀ q (t:Tm),(us.set q t).length=N:=fun q t=>by rw [Taz,hul]
   obtain ⟨z,g4⟩:∃ z,(us.set k y)[p]?=some z:=⟨_,Taa (by rw [Taz];omega)⟩;refine fN 23 (ai @q3 @tmz) ?_;refine gF0 ?_;refine gFm 0 ?_;refine gFm 1 ?_;refine gFm 2 ?_;refine gFm 3 ?_;refine (have F:=(aj11 wk l1 l2 hul g1 g2 g4 hls @Zad @Zas tmz);gFb 4 ?_);refine gFm 5 ?_;refine gFm 6 ?_;refine (have F:=(aj11 wk l1 l2 hul g1 g2 g4 hls @Zad @Zas tmz);gFb 7 ?_);refine (have F:=(aj11 wk l1 l2 hul g1 g2 g4 hls @Zad @Zas tmz);gFi (rows:=Zaa us) 8 p (by rw [Zad];omega) ?_)
   refine gFm 10 ?_;refine gFm 11 ?_;refine (have F:=(aj11 wk l1 l2 hul g1 g2 g4 hls @Zad @Zas tmz);gFi (rows:=Zaa us) 12 k (by rw [Zad];omega) ?_);refine gFT ?_;refine gO2 9 13 ?_ ?_
   ·refine (have F:=(aj11 wk l1 l2 hul g1 g2 g4 hls @Zad @Zas tmz);gO3 ?_);refine gO1 13 ?_;refine (have F:=(aj11 wk l1 l2 hul g1 g2 g4 hls @Zad @Zas tmz);gO3 ?_);refine gO1 14 ?_;refine (have F:=(aj11 wk l1 l2 hul g1 g2 g4 hls @Zad @Zas tmz);gO3 ?_);refine gO1 15 ?_;refine (have F:=(aj11 wk l1 l2 hul g1 g2 g4 hls @Zad @Zas tmz);gO3 ?_);refine gO1 16 ?_;refine (have F:=(aj11 wk l1 l2 hul g1 g2 g4 hls @Zad @Zas tmz);gO3 ?_)
    refine gO1 17 ?_;refine (have F:=(aj11 wk l1 l2 hul g1 g2 g4 hls @Zad @Zas tmz);gO3 ?_);refine (have F:=tmz;gT0 ?_);refine Exists.intro _ (ai (Wk.refl _) ?_);rw [g3];have F:=@wk;refine gG ?_;exact ⟨(p,V),⟨om,om,hV⟩,gw,gw,om⟩
   ·refine (have F:=(aj11 wk l1 l2 hul g1 g2 g4 hls @Zad @Zas tmz);gO3 ?_);refine gO1 9 ?_;refine (have F:=(aj11 wk l1 l2 hul g1 g2 g4 hls @Zad @Zas tmz);gO3 ?_);refine gO1 14 ?_;refine (have F:=(aj11 wk l1 l2 hul g1 g2 g4 hls @Zad @Zas tmz);gO3 ?_);refine gO1 15 ?_;refine (have F:=(aj11 wk l1 l2 hul g1 g2 g4 hls @Zad @Zas tmz);gO3 ?_);refine gO1 16 ?_;refine (have F:=(aj11 wk l1 l2 hul g1 g2 g4 hls @Zad @Zas tmz);gO3 ?_)
    refine gO1 17 ?_;refine (have F:=(aj11 wk l1 l2 hul g1 g2 g4 hls @Zad @Zas tmz);gO3 ?_);refine (have F:=tmz;gT0 ?_);refine Exists.intro _ (ai (Wk.refl _) ?_);rw [g3];have F:=@wk;refine gG ?_;exact ⟨(p,V),⟨om,om,hV⟩,gw,gw,om⟩
  have q3:=lF i k;obtain rfl:i=k:=by omega
  subst hus;rw [show P++A.take (i - lo)++x::(A.drop (i - lo)++Q)=P++(A.take (i - lo)++x::A.drop (i - lo))++Q by simp];refine fG (ai @q3 @tmz) ?_
  first | exact (have F:=@e0P;gTPe (R:=RBuf a cap (P++(A.take (i - lo)++x::A.drop (i - lo))++Q)) [1000] ⟨rfl,rfl⟩) | exact (have F:=@e0P;gTP (R:=RBuf a cap (P++(A.take (i - lo)++x::A.drop (i - lo))++Q)) [1000] ⟨rfl,rfl⟩)
 have q1':((B.length:Int)=1)=False:=eq_false om;obtain ⟨s0,mid,u1,u2,u3,u4,hmid⟩:=ZjY lo hi om;obtain ⟨nn,hnn⟩:∃ nn,nn=mid+mi:=⟨_,rfl⟩;obtain ⟨p,hp⟩:∃ p,nn=p+1:=⟨nn - 1,om⟩;have w2:IntKind.i64.wrap ((mid:Int)+(mi:Int))=(nn:Int):=Za4 om om om;have w3:IntKind.i64.wrap ((nn:Int) - 1)=(p:Int):=Za4 om om om;refine fG (aj16 @w0 @w1 @q1 @q1' @u1 @u2 @u3 @u4 @Zhx @ZjW @Zgg @Zig @Zgh @ZjX @toNat_one (aj3 @ZlA @w2 @tmz)) ?_
 clear q1 q1' u1 u2 u3 u4;refine gM (ι:=Nat × Nat) [20,21] [] (fun z=>[(20,.d (.one (.lit (.int .i64 (z.1:Int))))),(21,.d (.one (.lit (.int .i64 (z.2:Int)))))]) (fun z=>[]) (fun z=>mid < mi∧z.1+hi=nn∧z.2=mid∨mi<=mid∧z.1=lo∧z.2=mi) ?_ (fun z hz=>Exists.intro _ (ai (Wk.refl _) ?_))
 ·by_cases hgt:mid < mi
  ·have q2:decide ((mid:Int) < (mi:Int))=true:=decide_eq_true om;have w4:IntKind.i64.wrap ((nn:Int) - (hi:Int))=((nn - hi:Nat):Int):=Za4 om om om;generalize hv:nn - hi=v at w4;have q2':(mid < mi)=True:=eq_true hgt;have F:=aj4 @q2 @q2' @w4 @tmz;refine gG ?_;exact ⟨(v,mid),.inl ⟨hgt,by simp only;omega,rfl⟩,gw,gw⟩
  ·have q2:decide ((mid:Int) < (mi:Int))=false:=decide_eq_false om;have q2':(mi<=mid)=True:=eq_true om;have F:=aj3 @q2 @q2' @tmz;refine gG ?_;exact ⟨(lo,mi),.inr ⟨om,rfl,rfl⟩,gw,gw⟩
 obtain ⟨st,r0⟩:=z;simp only at hz;dsimp only;refine fG (ai @w3 @tmz) ?_;have F:=@tmz;refine gL (ι:=Nat × Nat) [20,21,23,151,171] [] (fun z=>[(20,.d (.one (.lit (.int .i64 (z.1:Int))))),(21,.d (.one (.lit (.int .i64 (z.2:Int)))))]) (fun z=>[]) (fun z=>st<=z.1∧z.1<=z.2∧z.2<=r0∧SymL A B lo mid st z.1∧SymR A B lo mid r0 z.2) (fun z=>z.2 - z.1) ((st,r0)) (⟨Tai _,om,Tai _,fun h=>om,fun h=>om⟩) (fun z hz=>?_);clear F
 obtain ⟨i,j⟩:=z;rename_i hcase;obtain ⟨h1,h2,h3,h4,h5⟩:=hz;simp only at h1 h2 h3 h4 h5;dsimp only;by_cases hij:i < j
 ·have q2:=lT i j;obtain ⟨s,c,u1,u2,u3,u4,hc⟩:=ZjY i j om;obtain ⟨y,hy⟩:∃ y,A[c - lo]?=some y:=⟨_,Taa om⟩;obtain ⟨x,hx⟩:∃ x,B[mid - 1 - c]?=some x:=⟨_,Taa om⟩;obtain ⟨d,hd⟩:∃ d,d+c=p:=⟨p - c,om⟩;have gy:U[c]?=some y:=by rw [hU];exact ZtN hy om
  have gx:U[d]?=some x:=by rw [hU];exact ZtO hx om
  have lc:c < N:=om;have ld:d < N:=om;have wc:=Zau (k:=c) om;have wd:IntKind.i64.wrap ((p:Int) - (c:Int))=(d:Int):=Za4 om om om;refine fB (aj14 @q2 @u1 @u2 @u3 @u4 @Zhx @ZjW @Zgg @Zig @Zgh @ZjX @toNat_one @ZlA @tmz) ?_;refine fC (aj8 @tmz @gx @gy @lc @ld @wd @hUl @Zad) (ZjM (ZeH x y)) ?_;by_cases hcc:Zah x y < 0
  ·have z1:(Zah x y < 0)=True:=eq_true hcc;refine fR (ai @z1 @tmz) ?_;have F:=@z1;refine gG ?_;exact ⟨(i,c),⟨h1,om,om,h4,fun _=>⟨x,y,hx,hy,om⟩⟩,gw,gw,om⟩
  ·have z1:(Zah x y < 0)=False:=eq_false hcc;refine fR (ai @z1 @tmz) ?_;have F:=ai @z1 @wc;refine gG ?_;exact ⟨(c+1,j),⟨om,om,h3,fun _=>⟨y,x,by rw [<- hy];congr 1,by rw [<- hx];congr 1;omega,Zoz hcc⟩,h5⟩,gw,gw,om⟩
 have q2:=lF i j;obtain rfl:i=j:=by omega
 have hcut:=ZBn hA hB (s:=i - lo) (e:=mid - i) (fun e1 e2=>by
  obtain ⟨u,v,k1,k2,k3⟩:=h4 om;exact ⟨u,v,by rw [<- k1];congr 1;omega,k2,k3⟩) (fun e1 e2=>by
  obtain ⟨u,v,k1,k2,k3⟩:=h5 om;exact ⟨u,v,by rw [<- k1];congr 1;omega,k2,k3⟩)
 have eA:A=A.take (i - lo)++A.drop (i - lo):=(Tbm _ _).symm;have eB:B=B.take (mid - i)++B.drop (mid - i):=(Tbm _ _).symm;have lA1:(A.take (i - lo)).length=i - lo:=by rw [Taw];omega
 have lA2:(A.drop (i - lo)).length=mi - i:=by rw [Tax];omega
 have lB1:(B.take (mid - i)).length=mid - i:=by rw [Taw];omega
 have lB2:(B.drop (mid - i)).length=hi+i - mi - mid:=by rw [Tax];omega
 have uA1:=hA.take (i - lo);have uA2:=hA.drop (i - lo);have uB1:=hB.take (mid - i);have uB2:=hB.drop (mid - i);generalize A.take (i - lo)=A1 at hcut eA lA1 uA1;generalize A.drop (i - lo)=A2 at hcut eA lA2 uA2;generalize B.take (mid - i)=B1 at hcut eB lB1 uB1;generalize B.drop (mid - i)=B2 at hcut eB lB2 uB2;have hsort:=ZtC hcut;rw [<- eA,<- eB] at hsort;rw [<- hsort];obtain ⟨ed,hed⟩:∃ ed,ed+i=nn:=⟨nn - i,om⟩
 have w5:IntKind.i64.wrap ((nn:Int) - (i:Int))=(ed:Int):=Za4 om om om;clear h4 h5 hcut hsort hA hB;refine fG (aj3 @q2 @w5 @tmz) ?_;refine gM (ι:=Bool) [185] [] (fun b=>[(185,.d (.one (.lit (.bool b))))]) (fun b=>[]) (fun b=>b=decide (i < mi∧mi < ed)) ?_ (fun b hb=>Exists.intro _ (ai (Wk.refl _) ?_))
 ·by_cases hr1:i < mi
  ·have q3:=lT i mi;by_cases hr2:mi < ed
   ·have q4:=lT mi ed;have F:=aj3 @q3 @q4 @tmz;refine gG ?_;exact ⟨true,(decide_eq_true (ai hr1 hr2)).symm,gw,gw⟩
   ·have q4:=lF mi ed;have F:=aj3 @q3 @q4 @tmz;refine gG ?_;exact ⟨false,(decide_eq_false fun h=>hr2 h.2).symm,gw,gw⟩
  ·have q3:=lF i mi;have F:=ai @q3 @tmz;refine gG ?_;exact ⟨false,(decide_eq_false fun h=>hr1 h.1).symm,gw,gw⟩
 subst hb;refine gM (ι:=Unit) [] [1000] (fun z=>[]) (fun z=>[(1000,.buf (some (a,cap)) 39 4 (Zaa (P++A1++B1++(A2++B2++Q))))]) (fun z=>True) ?_ (fun z hz=>Exists.intro _ (ai (Wk.refl _) ?_))
 ·by_cases hr:i < mi∧mi < ed
  ·rw [decide_eq_true hr];obtain ⟨hr1,hr2⟩:=hr;have c:=Zzd (P++A1) A2 B1 (B2++Q) om om (A:=i) (M:=mi) (B:=ed) (N:=N) (by rw [Tae];omega) (by rw [Tae];omega) (by rw [Tae];omega) (by rw [Tae,Tae];omega) hmx a cap;rw [show P++A1++A2++B1++(B2++Q)=U by rw [hU,eA,eB];simp,show P++A1++B1++A2++(B2++Q)=P++A1++B1++(A2++B2++Q) by simp] at c;generalize P++A1++B1++(A2++B2++Q)=V at c ⊢;refine fN 40 @tmz ?_;refine gB ?_
   have F:=@tmz;refine gCP [1000] [1000] (c) ?_;clear F;rintro r pm ⟨rfl,rfl⟩;simp only [setA,retA,zipM,Taf,Tah];refine fR @tmz ?_;exact ⟨(),trivial,gw,gw⟩
  ·have hUU:U=P++A1++B1++(A2++B2++Q):=by
    rw [hU,eA,eB];rcases (show mi<=i∨mid<=i by omega) with h | h
    ·have:A2=[]:=Tao om;subst this;simp
    ·have:B1=[]:=Tao om;subst this;simp
   rw [<- hUU,decide_eq_false hr];have F:=@tmz;refine gG ?_;exact ⟨(),trivial,gw,gw⟩
 clear hU hUl U;refine ZeG ?_;refine ZeG ?_;refine gM (ι:=Bool) [199] [] (fun b=>[(199,.d (.one (.lit (.bool b))))]) (fun b=>[]) (fun b=>b=decide (lo < i∧i < mid)) ?_ (fun b hb=>Exists.intro _ (ai (Wk.refl _) ?_))
 ·by_cases hr1:lo < i
  ·have q3:=lT lo i;by_cases hr2:i < mid
   ·have q4:=lT i mid;have F:=aj3 @q3 @q4 @tmz;refine gG ?_;exact ⟨true,(decide_eq_true (ai hr1 hr2)).symm,gw,gw⟩
   ·have q4:=lF i mid;have F:=aj3 @q3 @q4 @tmz;refine gG ?_;exact ⟨false,(decide_eq_false fun h=>hr2 h.2).symm,gw,gw⟩
  ·have q3:=lF lo i;have F:=ai @q3 @tmz;refine gG ?_;exact ⟨false,(decide_eq_false fun h=>hr1 h.1).symm,gw,gw⟩
 subst hb;refine gM (ι:=Unit) [] [1000] (fun z=>[]) (fun z=>[(1000,.buf (some (a,cap)) 39 4 (Zaa (P++Zaw (A1++B1)++(A2++B2++Q))))]) (fun z=>True) ?_ (fun z hz=>Exists.intro _ (ai (Wk.refl _) ?_))
 ·by_cases hr:lo < i∧i < mid
  ·rw [decide_eq_true hr];obtain ⟨hr1,hr2⟩:=hr;have c:=ih P A1 B1 (A2++B2++Q) om om om uA1 uB1 (lo:=lo) (mi:=i) (hi:=mid) (N:=N) hlo om om (by simp only [Tae];omega) hmx a cap;generalize P++Zaw (A1++B1)++(A2++B2++Q)=V at c ⊢;generalize P++A1++B1++(A2++B2++Q)=V' at c ⊢;refine fN 42 @tmz ?_;refine gB ?_;have F:=@tmz;refine gCP [1000] [1000] (c) ?_;clear F;rintro r pm ⟨rfl,rfl⟩;simp only [setA,retA,zipM,Taf,Tah]
   refine fR @tmz ?_;exact ⟨(),trivial,gw,gw⟩
  ·have hs:Zaw (A1++B1)=A1++B1:=by
    rcases (show i<=lo∨mid<=i by omega) with h | h
    ·have:A1=[]:=Tao om;subst this;exact Zet uB1
    ·have:B1=[]:=Tao om;subst this;rw [List.append_nil];exact Zet uA1
   rw [hs,<- Tbf P,decide_eq_false hr];generalize P++A1++B1++(A2++B2++Q)=V;have F:=@tmz;refine gG ?_;exact ⟨(),trivial,gw,gw⟩
 have hsl:(Zaw (A1++B1)).length=mid - lo:=by rw [ZcY,Tae];omega
 generalize Zaw (A1++B1)=S1 at hsl ⊢;rw [show P++S1++(A2++B2++Q)=P++S1++A2++B2++Q by simp,show P++(S1++Zaw (A2++B2))++Q=P++S1++Zaw (A2++B2)++Q by simp];refine ZeG ?_;refine gM (ι:=Bool) [213] [] (fun b=>[(213,.d (.one (.lit (.bool b))))]) (fun b=>[]) (fun b=>b=decide (mid < ed∧ed < hi)) ?_ (fun b hb=>Exists.intro _ (ai (Wk.refl _) ?_))
 ·by_cases hr1:mid < ed
  ·have q3:=lT mid ed;by_cases hr2:ed < hi
   ·have q4:=lT ed hi;have F:=aj3 @q3 @q4 @tmz;refine gG ?_;exact ⟨true,(decide_eq_true (ai hr1 hr2)).symm,gw,gw⟩
   ·have q4:=lF ed hi;have F:=aj3 @q3 @q4 @tmz;refine gG ?_;exact ⟨false,(decide_eq_false fun h=>hr2 h.2).symm,gw,gw⟩
  ·have q3:=lF mid ed;have F:=ai @q3 @tmz;refine gG ?_;exact ⟨false,(decide_eq_false fun h=>hr1 h.1).symm,gw,gw⟩
 subst hb;by_cases hr:mid < ed∧ed < hi
 ·rw [decide_eq_true hr];obtain ⟨hr1,hr2⟩:=hr;have c:=ih (P++S1) A2 B2 Q om om om uA2 uB2 (lo:=mid) (mi:=ed) (hi:=hi) (N:=N) (by rw [Tae];omega) (by rw [Tae];omega) (by rw [Tae];omega) (by simp only [Tae];omega) hmx a cap;generalize P++S1++Zaw (A2++B2)++Q=V at c ⊢;generalize P++S1++A2++B2++Q=V' at c ⊢;refine fN 44 @tmz ?_;refine gB ?_;have F:=@tmz;refine gCP [1000] [1000] (c) ?_;clear F;rintro r pm ⟨rfl,rfl⟩
  simp only [setA,retA,zipM,Taf,Tah];refine fR @tmz ?_
  first | exact (have F:=@e0P;gTPe (R:=RBuf a cap V) [1000] ⟨rfl,rfl⟩) | exact (have F:=@e0P;gTP (R:=RBuf a cap V) [1000] ⟨rfl,rfl⟩)
 ·have hs:Zaw (A2++B2)=A2++B2:=by
   rcases (show ed<=mid∨hi<=ed by omega) with h | h
   ·have:A2=[]:=Tao om;subst this;exact Zet uB2
   ·have:B2=[]:=Tao om;subst this;rw [List.append_nil];exact Zet uA2
  rw [hs,<- Tbf (P++S1),decide_eq_false hr];generalize P++S1++A2++B2++Q=V;refine fG @tmz ?_
  first | exact (have F:=@e0P;gTPe (R:=RBuf a cap V) [1000] ⟨rfl,rfl⟩) | exact (have F:=@e0P;gTP (R:=RBuf a cap V) [1000] ⟨rfl,rfl⟩)
theorem ZpY {X A B r ts:List Tm} (h:(X++A++r).Perm ts) (hB:B.Perm A):(X++B++r).Perm ts:=((List.Perm.append_left X hB).append_right r).trans h
theorem ZpZ (ts:List Tm) {N:Nat} (hN:N=ts.length) (hmx:N<=4000000) (a:Option Addr) (cap:Nat) :
  ConP e0 157 [.one (.lit (.slice a N cap)),.one (.lit (.int .i64 N)),.one (.fn 137 [])] [.buf (some (a,cap)) 39 4 (Zaa ts)] (RBuf a cap (Zaw ts)):=by
 refine gIP (ts:=[]) [1000] 18014433942971335 Tryz.func157 ?_;refine fG @tmz ?_;have F:=@tmz;refine gL (ι:=(Nat × Nat) × List Tm) [7,8,13] [1000] (fun z=>[(7,.d (.one (.lit (.int .i64 (z.1.1:Int))))),(8,.d (.one (.lit (.int .i64 (z.1.2:Int)))))]) (fun z=>[(1000,.buf (some (a,cap)) 39 4 (Zaa z.2))]) (fun z=>z.1.2=z.1.1+20∧z.1.1<=N∧∃ X,z.2=X++ts.drop z.1.1∧X.length=z.1.1∧Full 20 X∧X.Perm (ts.take z.1.1)) (fun z=>N - z.1.1) (((0,20),ts)) (⟨rfl,Taj _,[],rfl,rfl,.nil,List.Perm.refl _⟩) (fun z hz=>?_);clear F
 obtain ⟨⟨i,j⟩,us⟩:=z;obtain ⟨hj,hi,X,hus,hX,hF,hp⟩:=hz;simp only at hj hi hus hX hp;dsimp only;by_cases hlt:j<=N
 ·have q1:((j:Int)<=(N:Int))=True:=eq_true om;have hd:ts.drop i=(ts.drop i).take 20++ts.drop j:=by rw [hj,<- List.drop_drop,Tbm]
  have hl:((ts.drop i).take 20).length=20:=by rw [Taw,Tax];omega
  have ht:ts.take j=ts.take i++(ts.drop i).take 20:=by rw [hj,List.take_add]
  have c:=ZpV X ((ts.drop i).take 20) (ts.drop j) (A:=i) (B:=j) (N:=N) hX.symm om (by rw [Tax];omega) hmx a cap;rw [Tbf X,<- hd,<- hus] at c;have wj:IntKind.i64.wrap ((j:Int)+20)=((j+20:Nat):Int):=Za4 om om om;obtain ⟨V,hV⟩:∃ V,V=X++Zaw ((ts.drop i).take 20)++ts.drop j:=⟨_,rfl⟩;rw [<- hV] at c;obtain ⟨j',hj'⟩:∃ j',j'=j+20:=⟨_,rfl⟩;rw [<- hj'] at wj;refine fN 3 (ai @q1 @tmz) ?_;refine gB ?_;have F:=@tmz;refine gCP [1000] [1000] (c) ?_;clear F
  rintro r pm ⟨rfl,rfl⟩;simp only [setA,retA,zipM,Taf,Tah];refine fR @tmz ?_;have F:=@wj;refine gG ?_;exact ⟨((j,j'),V),⟨hj',hlt,X++Zaw ((ts.drop i).take 20),hV,by rw [Tae,ZcY];simp only;omega,hF.snoc (by rw [ZcY];exact hl) (Zcd _),by simp only;rw [ht];exact hp.append (Za9 _)⟩,gw,gw,by dsimp only;omega⟩
 have q1:((j:Int)<=(N:Int))=False:=eq_false om;have c:=ZpV X (ts.drop i) [] (A:=i) (B:=N) (N:=N) hX.symm (by rw [Tax];omega) (by rw [Tax];simp;omega) hmx a cap;rw [List.append_nil,List.append_nil,<- hus] at c;have hB:Blks 20 (X++Zaw (ts.drop i)):=hF.blks (by rw [ZcY,Tax];omega) (Zcd _);have hP:(X++Zaw (ts.drop i)).Perm ts:=by
  have:=hp.append (Za9 (ts.drop i))
  rwa [Tbm] at this
 generalize X++Zaw (ts.drop i)=vs at c hB hP;refine fN 6 (ai @q1 @tmz) ?_;refine gB ?_;have F:=@tmz;refine gCP [1000] [1000] (c) ?_;clear F;rintro r pm ⟨rfl,rfl⟩;simp only [setA,retA,zipM,Taf,Tah];refine fR @tmz ?_;clear c q1 hus hF hp us X hX hi hj;refine fG @tmz ?_;have F:=@tmz;refine gL (ι:=Nat × List Tm) [6,7,8,9,30,35,54] [1000] (fun z=>[(6,.d (.one (.lit (.int .i64 (z.1:Int)))))]) (fun z=>[(1000,.buf (some (a,cap)) 39 4 (Zaa z.2))]) (fun z=>0 < z.1∧z.1<=8000000∧Blks z.1 z.2∧z.2.Perm ts) (fun z=>N - z.1) ((20,vs)) (⟨om,om,hB,hP⟩) (fun z hz=>?_);clear F
 clear hB hP vs hlt i j;obtain ⟨k,us⟩:=z;obtain ⟨hk0,hk8,hB,hP⟩:=hz;simp only at hk0 hk8 hB hP;dsimp only;by_cases hlt:k < N;rotate_left
 ·have q1:=lF k N;have e:us=Zaw ts:=ZfK hP (hB.up (by rw [hP.length_eq];omega));subst e;refine fG (ai @q1 @tmz) ?_
  first | exact (have F:=@e0P;gTPe (R:=RBuf a cap (Zaw ts)) [1000] ⟨rfl,rfl⟩) | exact (have F:=@e0P;gTP (R:=RBuf a cap (Zaw ts)) [1000] ⟨rfl,rfl⟩)
 have q1:=lT k N;obtain ⟨k2,hk2⟩:∃ k2,k2=2 * k:=⟨_,rfl⟩;have w1:IntKind.i64.wrap (2 * (k:Int))=(k2:Int):=Za4 om om om;have w2:IntKind.i64.wrap ((k:Int) * 2)=(k2:Int):=Za4 om om om;refine fG (aj3 @q1 @w1 @tmz) ?_;have F:=@tmz;refine gL (ι:=(Nat × Nat) × List Tm) [7,8,35] [1000] (fun z=>[(7,.d (.one (.lit (.int .i64 (z.1.1:Int))))),(8,.d (.one (.lit (.int .i64 (z.1.2:Int)))))]) (fun z=>[(1000,.buf (some (a,cap)) 39 4 (Zaa z.2))]) (fun z=>z.1.2=z.1.1+k2∧z.1.1<=N∧∃ X Y,z.2=X++Y∧X.length=z.1.1∧Full k2 X∧Blks k Y∧(X++Y).Perm ts) (fun z=>N - z.1.1) (((0,k2),us)) (⟨(Nat.zero_add _).symm,Taj _,[],us,rfl,rfl,.nil,hB,hP⟩) (fun z hz=>?_);clear F
 obtain ⟨⟨i,j⟩,vs⟩:=z;obtain ⟨hj,hi,X,Y,hvs,hX,hF,hY,hp⟩:=hz;simp only at hj hi hvs hX;dsimp only;have hpl:=hp.length_eq;rw [Tae] at hpl;obtain ⟨m,hm⟩:∃ m,m=i+k:=⟨_,rfl⟩;have w3:IntKind.i64.wrap ((i:Int)+(k:Int))=(m:Int):=Za4 om om om;by_cases hjl:j<=N
 ·have q2:((j:Int)<=(N:Int))=True:=eq_true om;obtain ⟨A,B,r,hY',hA,hB',uA,uB,hr⟩:=hY.two hk0 om;have hYl:=congrArg List.length hY';simp only [Tae] at hYl;have c:=ZpX _ X A B r (Tai _) om om uA uB (lo:=i) (mi:=m) (hi:=j) (N:=N) hX.symm om om om hmx a cap;have e1:X++A++B++r=vs:=by rw [hvs,hY'];simp
  rw [e1] at c;have hp2:(X++Zaw (A++B)++r).Perm ts:=ZpY (A:=A++B) (by rw [<- Tbf,e1,hvs];exact hp) (Za9 _);obtain ⟨V,hV⟩:∃ V,V=X++Zaw (A++B)++r:=⟨_,rfl⟩;rw [<- hV] at c;obtain ⟨j',hj'⟩:∃ j',j'=j+k2:=⟨_,rfl⟩;have wj:IntKind.i64.wrap ((j:Int)+(k2:Int))=(j':Int):=Za4 om om om;refine fN 10 (ai @q2 @tmz) ?_;refine gB ?_;have F:=ai @tmz @w3;refine gCP [1000] [1000] (c) ?_;clear F;rintro r' pm ⟨rfl,rfl⟩;simp only [setA,retA,zipM,Taf,Tah]
  refine fR @tmz ?_;have F:=ai @w1 @wj;refine gG ?_;exact ⟨((j,j'),V),⟨hj',hjl,X++Zaw (A++B),r,hV,by simp only;rw [Tae,ZcY,Tae];omega,hF.snoc (by rw [ZcY,Tae];omega) (Zcd _),hr,hp2⟩,gw,gw,by dsimp only;omega⟩
 have q2:((j:Int)<=(N:Int))=False:=eq_false om;by_cases hmn:m < N
 ·have q3:=lT m N;obtain ⟨A,B,hY',hA,uA,hB'⟩:=hY.split om;have hYl:=congrArg List.length hY';simp only [Tae] at hYl;have uB:=hB'.up om;have c:=ZpX _ X A B [] (Tai _) om om uA uB (lo:=i) (mi:=m) (hi:=N) (N:=N) hX.symm om om (by simp only [Tak];omega) hmx a cap;have e1:X++A++B++[]=vs:=by rw [hvs,hY'];simp
  rw [e1] at c;have hp2:(X++Zaw (A++B)++[]).Perm ts:=ZpY (A:=A++B) (by rw [<- Tbf,e1,hvs];exact hp) (Za9 _);rw [List.append_nil] at hp2;obtain ⟨V,hV⟩:∃ V,V=X++Zaw (A++B):=⟨_,rfl⟩;rw [List.append_nil,<- hV] at c;refine fN 15 (aj4 @q2 @q3 @w3 @tmz) ?_;refine gB ?_;have F:=@tmz;refine gCP [1000] [1000] (c) ?_;clear F;rintro r' pm ⟨rfl,rfl⟩;simp only [setA,retA,zipM,Taf,Tah];refine fR @tmz ?_;have F:=@w2;refine gG ?_;exact ⟨(k2,V),⟨om,om,by rw [hV];exact hF.blks (by rw [ZcY,Tae];omega) (Zcd _),by rw [hV];exact hp2⟩,gw,gw,om⟩
 have q3:=lF m N;have F:=aj4 @q2 @q3 @w2 @w3;refine gG ?_;exact ⟨(k2,vs),⟨om,om,by rw [hvs];exact hF.blks om (hY.up om),by rw [hvs];exact hp⟩,gw,gw,om⟩
theorem Zq1 (ts:List Tm) (hmx:ts.length<=4000000) (a:Option Addr) (cap:Nat) :
  ConP e0 143 [.one (.lit (.slice a ts.length cap)),.one (.fn 137 [])] [.buf (some (a,cap)) 39 4 (Zaa ts)] (RBuf a cap (Zaw ts)):=by
 refine gIP (ts:=[]) [1000] 3 Tryz.func143 ?_;refine gB ?_;have F:=@tmz;refine gCP [1000] [1000] (ZpZ ts rfl hmx a cap) ?_;clear F;rintro r pm ⟨rfl,rfl⟩;simp only [setA,retA,zipM,Taf,Tah];refine fR @tmz ?_;refine fG @tmz ?_
 first | exact (have F:=@e0P;gTPe (R:=RBuf a cap (Zaw ts)) [1000] ⟨rfl,rfl⟩) | exact (have F:=@e0P;gTP (R:=RBuf a cap (Zaw ts)) [1000] ⟨rfl,rfl⟩)
def zTm:Tm:=.mk 0 ByteArray.empty 0 []
theorem Zl8:Zab zTm=[.lit (.int .i64 0),.lit (.string ByteArray.empty),.lit (.int .i64 0),.sl []]:=by simp [zTm,Zab,Zaa]
theorem ZbX:Zaa []=[]:=by simp [Zaa]
theorem Zjl {g:Sgn} {o:Opr} {op:Int}:∀ {xs:List Tm},(∀ a∈xs,TermOk g a)->(Zat o op xs).length<=60 * xs.length∧sizeTms (Zat o op xs)<=60 * xs.length∧depthTms (Zat o op xs)<=20
 | [],_=>⟨Tai _,Tai _,by simp [Zat,depthTms]⟩
 | a::xs,h=>by
  obtain ⟨i1,i2,i3⟩:=Zjl (o:=o) (op:=op) fun x hx=>h x (Tal _ hx);have ha:=h a Tas;have e:Zat o op (a::xs)=Zbq o op a++Zat o op xs:=rfl;have s1:=ha.size;have s2:=ha.depth;rw [Za3] at s1;rw [Zdg] at s2;have sl:=ZbB a.args;have hf:(Zbq o op a).length<=60∧sizeTms (Zbq o op a)<=60∧depthTms (Zbq o op a)<=20:=by
   unfold Zbq;split
   ·exact ⟨om,om,om⟩
   ·split
    ·exact ⟨by simp,by simp [sizeTms],by simp [depthTms]⟩
    ·refine ⟨by simp,?_,?_⟩
     ·have:=ha.size;simp only [sizeTms];omega
     ·have:=ha.depth;simp only [depthTms];omega
  have happ:∀ (l m:List Tm),sizeTms (l++m)=sizeTms l+sizeTms m∧depthTms (l++m)=max (depthTms l) (depthTms m):=fun l m=>by
   induction l with
   | nil=>simp [sizeTms,depthTms]
   | cons x l ih=>simp only [Taf,sizeTms,depthTms,ih.1,ih.2];omega
  rw [e,Tae,(happ _ _).1,(happ _ _).2,Tag];omega
section
variable {g:Sgn} {mc:C}
theorem ZtP (hg:SgnOk g) {op:Int} {o:Opr} (h0:0<=op) (ho:g.ops[op.toNat]?=some o) (hu:o.unit≠0):Con e0 142 [.one (.ptr (encX g mc)),.one (.lit (.int .i64 op))] [.agg (Zab (ZbH o))]:=by
 have hax:=hg.axs o (Tac ho);have hlo:=hax.lo;have hhi:=hax.hi;have hln:=hg.len;have hw:IntKind.i64.wrap (o.unit - 1)=o.unit - 1:=Za4 rfl om om;have em:Zab (ZbH o)=[.lit (.int .i64 (o.unit - 1)),.lit (.string ByteArray.empty),.lit (.int .i64 0),.sl []]:=by simp only [ZbH,if_neg hu,Zab,Zaa]
 refine gI (ts:=[.cell 4 39]) 19 Tryz.func142 ?_;exact fD (aj7 @Zcr @h0 @ho @Zan @hw @em @tmz)
open Classical in
theorem ZxM (hg:SgnOk g) {op:Int} {o:Opr} {d:Dcl} (h0:0<=op) (ho:g.ops[op.toNat]?=some o) (hd:o.decls[0]?=some d) (xs:List Tm) (ha:∀ a∈xs,TermOk g a) (hl:xs.length<=1000):Con e0 112 [.one (.ptr (encX g mc)),.one (.lit (.int .i64 op)),.one (.sl (Zaa xs))] [.agg (Zab ((mkO g o d op xs).getD zTm)),.one (.lit (.bool (mkO g o d op xs).isSome))]:=by
 have hz:=Zl8;have hfb:=Zjl (o:=o) (op:=op) ha;refine gI (ts:=[.cell 6 39,.slot 7]) 85070612101775940130758990405381922759 Tryz.func112 ?_;by_cases hAr:ArB o d xs.length
 ·rw [show mkO g o d op xs=none by unfold mkO;rw [if_pos hAr]];rcases hAr with ⟨h1,h2⟩ | ⟨h1,h2⟩
  ·have q1:=lT xs.length 2;exact fD (aj8 @Zcr @h0 @ho @Zan @h1 @q1 @hz @tmz)
  ·have q1:((xs.length:Int)=(d.args.length:Int))=False:=eq_false om;exact fD (aj10 @Zcr @h0 @ho @Zan @h1 @hd @ZaV @q1 @hz @tmz)
 refine fG (aj5 @tmz @Zcr @h0 @ho @Zan) ?_;refine gM (ι:=Unit) [43] [] (fun u=>[(43,A.d (.one (.lit (.bool false))))]) (fun u=>[]) (fun u=>True) ?_ (fun u hu=>Exists.intro _ (ai (Wk.refl _) ?_))
 ·cases ha:o.assoc with
  | true =>
   have c1:((xs.length:Int) < 2)=False:=eq_false fun c=>hAr (.inl ⟨ha,om⟩);have F:=aj4 @tmz @Zan @ha @c1;refine gG ?_;exact ⟨(),trivial,gw,gw⟩
  | false =>
   have c3:((xs.length:Int)=(d.args.length:Int))=True:=eq_true (by have:¬ (xs.length≠d.args.length):=fun c=>hAr (.inr ⟨ha,c⟩);omega);have F:=aj6 @tmz @Zan @ha @hd @ZaV @c3;refine gG ?_;exact ⟨(),trivial,gw,gw⟩
 have hnas:o.assoc=false->xs.length=d.args.length:=fun h=>Classical.byContradiction fun c=>hAr (.inr ⟨h,c⟩);have hfl0:Zat o op []=[]:=rfl;refine fG @tmz ?_;have F:=aj3 @hfl0 @ZbX @tmz;refine gL (ι:=Nat) [7,9,10,11,48,49,60,62,75] [9] (fun i=>[(48,A.d (.one (.lit (.int .i64 i)))),(9,.buf 9)]) (fun i=>[(9,.buf none 39 4 (Zaa (Zat o op (xs.take i))))]) (fun i=>i<=xs.length∧∀ (j:Nat) a,j < i->xs[j]?=some a->KArg g o d j a) (fun i=>xs.length - i) (0) (⟨Taj _,fun j a h=>absurd h om⟩) (fun i hi=>?_);clear F
 obtain ⟨hi,hall⟩:=hi;by_cases hlt:i < xs.length
 ·obtain ⟨a,hai⟩:∃ a,xs[i]?=some a:=⟨_,Taa hlt⟩;have hT:=ha a (Tac hai);have q1:=lT i xs.length;have hw1:=Zau (k:=i) om;obtain ⟨k,hk⟩:=ZgZ hg ho hd hnas hlt;have hst:=Zkr (o:=o) (op:=op) hai;have hle:=Zg1 o op xs (i+1);rw [hst,Tae] at hle;refine fN 8 (aj3 @q1 @hai @tmz) ?_;refine gB ?_;refine fC @tmz (Zh6 hg hT.form.node) ?_;refine fC @tmz (Zkm hg h0 ho hd hk) ?_;by_cases hkd:ZaO g a=((kd g.sorts k:Nat):Int)
  rotate_left
  ·have e:mkO g o d op xs=none:=by
    unfold mkO;rw [if_neg hAr,if_neg fun h=>by
     obtain ⟨k',hk',he⟩:=h i a hai;rw [hk] at hk';injection hk' with hk'
     subst hk';exact hkd he]
   rw [e];refine fR (ai @tmz @hkd) ?_;exact fD (ai @hz @tmz)
  have hnext:i+1<=xs.length∧∀ (j:Nat) a,j < i+1->xs[j]?=some a->KArg g o d j a:=⟨hlt,fun j a' hj ha'=>by
   by_cases e:j=i
   ·subst e;rw [hai] at ha';injection ha' with ha'
    subst ha';exact ⟨k,hk,hkd⟩
   ·exact hall j a' om ha'⟩
  have l1:ZaA 4 (Zaa (Zat o op (xs.take i)))=true:=ZdJ _;have l5:ZaA 4 (Zaa a.args)=true:=ZdJ _;by_cases hN:o.assoc=true∧a.op=op
  ·have e:Zbq o op a=a.args:=by unfold Zbq;rw [if_pos hN]
   rw [e] at hst hle;have l3:((Zat o op (xs.take i)).length+a.args.length<=maxApp)=True:=eq_true (by unfold maxApp;omega);have l4:Zaa (Zat o op (xs.take i))++Zaa a.args=Zaa (Zat o op (xs.take (i+1))):=by rw [hst,Zb6]
   obtain ⟨hN1,hN2⟩:=hN;have q2:(a.op=op)=True:=eq_true hN2;refine fR (ai @tmz @hkd) ?_;have F:=aj9 @tmz @Zan @hN1 @q2 @l1 @l5 @l3 @l4 @hw1;refine gG ?_;exact ⟨i+1,hnext,gw,gw,om⟩
  ·have cU:=ZlR (mc:=mc) hg h0 ho a;have hne:o.assoc=true->(a.op=op)=False:=fun h1=>eq_false fun h2=>hN ⟨h1,h2⟩;refine fR (ai @tmz @hkd) ?_;refine fN 12 (aj3 @tmz @Zan @hne) ?_;by_cases hU:o.unit≠0∧a.op=o.unit - 1
   ·have e:Zbq o op a=[]:=by unfold Zbq;rw [if_neg hN,if_pos hU]
    rw [e,List.append_nil] at hst;rw [decide_eq_true hU] at cU;rw [<- hst];rcases Bool.eq_false_or_eq_true o.assoc with hac | hac
    ·have hq:=hne hac;refine fN 12 (aj4 @tmz @Zan @hac @hq) ?_;refine gB ?_;refine fC @tmz (cU) ?_;refine fR @tmz ?_;have F:=aj3 @tmz @hac @hw1;refine gG ?_;exact ⟨i+1,hnext,gw,gw,om⟩
    ·refine fN 12 (aj3 @tmz @Zan @hac) ?_;refine gB ?_;refine fC @tmz (cU) ?_;refine fR @tmz ?_;have F:=aj3 @tmz @hac @hw1;refine gG ?_;exact ⟨i+1,hnext,gw,gw,om⟩
   ·have e:Zbq o op a=[a]:=by unfold Zbq;rw [if_neg hN,if_neg hU]
    rw [e] at hst hle;rw [decide_eq_false hU] at cU;have l3:((Zat o op (xs.take i)).length+1<=maxApp)=True:=eq_true (by simp only [Tag,Tak] at hle;unfold maxApp;omega);have l4:Zaa (Zat o op (xs.take i))++[Zab a]=Zaa (Zat o op (xs.take (i+1))):=by rw [hst,Zb6,Ze9]
    rcases Bool.eq_false_or_eq_true o.assoc with hac | hac
    ·have hq:=hne hac;refine fN 12 (aj4 @tmz @Zan @hac @hq) ?_;refine gB ?_;refine fC @tmz (cU) ?_;refine fR @tmz ?_;have F:=aj6 @tmz @hac @l1 @l3 @l4 @hw1;refine gG ?_;exact ⟨i+1,hnext,gw,gw,om⟩
    ·refine fN 12 (aj3 @tmz @Zan @hac) ?_;refine gB ?_;refine fC @tmz (cU) ?_;refine fR @tmz ?_;have F:=aj6 @tmz @hac @l1 @l3 @l4 @hw1;refine gG ?_;exact ⟨i+1,hnext,gw,gw,om⟩
 ·obtain rfl:i=xs.length:=by omega
  have q1:=lF xs.length xs.length;rw [Tap];have hm:mkO g o d op xs=mkL o op (Zat o op xs):=by
   unfold mkO;rw [if_neg hAr,if_pos fun j a h=>hall j a (Tad.1 h).1 h]
  rw [hm];clear hm hall hnas;generalize hL:Zat o op xs=L at hfb ⊢;obtain ⟨b1,b2,b3⟩:=hfb;have hax:=hg.axs o (Tac ho);have hlo:=hax.lo;have cUn:=fun hu=>ZtP (mc:=mc) hg h0 ho hu;by_cases hu:o.unit≠0∧L.length < 2
  ·have e:mkL o op L=some (L.headD (ZbH o)):=by unfold mkL;rw [if_pos hu]
   rw [e];obtain ⟨hu1,hu2⟩:=hu;have q2:(o.unit=0)=False:=eq_false hu1;have q3:=lT L.length 2
   cases L with
   | nil =>
    have z1:=lT (0:Nat) 2;have z2:(((0:Nat):Int)=1)=False:=eq_false om;refine fN 18 (aj6 @q1 @Zan @q2 @z1 @z2 @tmz) ?_;refine gB ?_;refine fC @tmz (cUn hu1) ?_;refine fR @tmz ?_;exact fD @tmz
   | cons b bs =>
    have hb:bs=[]:=Tao (by simp only [Tag] at hu2;omega);subst hb;have z1:=lT (0+1:Nat) 2;have z2:(((0+1:Nat):Int)=1)=True:=eq_true om;have z3:=lT (1:Nat) 2;have z4:(((1:Nat):Int)=1)=True:=eq_true om;have q5:([b]:List Tm)[0]?=some b:=rfl;have z5:(0 < 0+1)=True:=eq_true om;have z6:((0:Nat) < 1)=True:=eq_true om;have z7:Int.toNat 0=0:=rfl;have q6:(0 < [b].length)=True:=eq_true (by simp);exact fD (aj14 @q1 @Zan @q2 @q3 @z1 @z2 @z3 @z4 @z5 @z6 @z7 @q5 @q6 @tmz)
  ·have hml:mkL o op L=if BigT o op (srtO o L) then none else some (appT op (srtO o L)):=by unfold mkL;rw [if_neg hu]
   rw [hml];clear hml cUn;refine fG (ai @q1 @tmz) ?_;refine gM (ι:=Unit) [93] [] (fun u=>[(93,A.d (.one (.lit (.bool false))))]) (fun u=>[]) (fun u=>True) ?_ (fun u hu=>Exists.intro _ (ai (Wk.refl _) ?_))
   ·by_cases hu0:o.unit=0
    ·have q2:(o.unit=0)=True:=eq_true hu0;have F:=aj3 @Zan @q2 @tmz;refine gG ?_;exact ⟨(),trivial,gw,gw⟩
    ·have q2:(o.unit=0)=False:=eq_false hu0;have q3:((L.length:Int) < 2)=False:=eq_false fun h=>hu ⟨hu0,om⟩;have F:=aj4 @Zan @q2 @q3 @tmz;refine gG ?_;exact ⟨(),trivial,gw,gw⟩
   refine fN 19 @tmz ?_;refine pS 9 fun a cap=>?_;refine gB ?_;refine fR (ai @Zan @tmz) ?_;refine gM (ι:=Unit) [] [9] (fun u=>[]) (fun u=>[(9,.buf (some (a,cap)) 39 4 (Zaa (srtO o L)))]) (fun u=>True) ?_ (fun u hu=>Exists.intro _ (ai (Wk.refl _) ?_))
   ·cases hcm:o.comm with
    | true =>
     rw [show srtO o L=Zaw L by unfold srtO;rw [if_pos hcm]];refine fN 20 (ai @hcm @tmz) ?_;refine gB ?_;have F:=@tmz;refine gCP [9] [9] (Zq1 L om a cap) ?_;clear F;rintro r pm ⟨rfl,rfl⟩;simp only [setA,retA,zipM,Taf,Tah];refine fR @tmz ?_;exact (have F:=tmz;⟨(),trivial,gw,gw⟩)
    | false =>
     rw [show srtO o L=L by unfold srtO;rw [if_neg (by rw [hcm];simp)]];have F:=ai @hcm @tmz;refine gG ?_;exact ⟨(),trivial,gw,gw⟩
   have hSl:=ZkN o L;have sz1:=ZgI (Zd9 o L);have dz1:=ZfP (Zd9 o L);generalize srtO o L=S at hSl sz1 dz1 ⊢;rw [<- hSl,<- Zad S];refine pD 9 [9] [] ?_;have em:Zab (appT op S)=[.lit (.int .i64 op),.lit (.string ByteArray.empty),.lit (.int .i64 0),.sl (Zaa S)]:=by simp only [appT,Zab]
   have zs:sizeTm (appT op S)=1+sizeTms S:=by rw [Za3];rfl
   have zd:depthTm (appT op S)=1+depthTms S:=by rw [Zdg];rfl
   have c1:=Zi5 (t:=appT op S) (by unfold big;omega);have c2:=ZiE (t:=appT op S) (by unfold big;omega);rw [em] at c1 c2;refine fN 22 @tmz ?_;by_cases h7:o.assoc=true∧7 < S.length
   ·rw [if_pos (show BigT o op S from .inl h7)];obtain ⟨hac,h7⟩:=h7;have q2:=lT 7 S.length;exact fD (aj5 @Zan @hac @q2 @hz @tmz)
   have hac:o.assoc=true->(7 < (S.length:Int))=False:=fun h=>eq_false fun q=>h7 ⟨h,om⟩;rcases Bool.eq_false_or_eq_true o.assoc with ha' | ha'
   ·have q2:=hac ha';refine gB ?_;refine fC (aj4 @Zan @ha' @q2 @tmz) (c1) ?_;by_cases hs:60 < sizeTm (appT op S)
    ·have z1:=lT 60 (sizeTm (appT op S));rw [if_pos (show BigT o op S from .inr (.inl hs))];refine fR (ai @z1 @tmz) ?_;exact fD (ai @hz @tmz)
    have z1:=lF 60 (sizeTm (appT op S));refine fC (ai @z1 @tmz) (c2) ?_;by_cases hd2:20 < depthTm (appT op S)
    ·have z2:=lT 20 (depthTm (appT op S));rw [if_pos (show BigT o op S from .inr (.inr hd2))];refine fR (ai @z2 @tmz) ?_;exact fD (ai @hz @tmz)
    have z2:=lF 20 (depthTm (appT op S));rw [if_neg (show ¬ BigT o op S from fun h=>h.elim h7 (fun h=>h.elim hs hd2))];refine fR (ai @z2 @tmz) ?_;exact fD (ai @em @tmz)
   ·refine gB ?_;refine fC (aj3 @Zan @ha' @tmz) (c1) ?_;by_cases hs:60 < sizeTm (appT op S)
    ·have z1:=lT 60 (sizeTm (appT op S));rw [if_pos (show BigT o op S from .inr (.inl hs))];refine fR (ai @z1 @tmz) ?_;exact fD (ai @hz @tmz)
    have z1:=lF 60 (sizeTm (appT op S));refine fC (ai @z1 @tmz) (c2) ?_;by_cases hd2:20 < depthTm (appT op S)
    ·have z2:=lT 20 (depthTm (appT op S));rw [if_pos (show BigT o op S from .inr (.inr hd2))];refine fR (ai @z2 @tmz) ?_;exact fD (ai @hz @tmz)
    have z2:=lF 20 (depthTm (appT op S));rw [if_neg (show ¬ BigT o op S from fun h=>h.elim h7 (fun h=>h.elim hs hd2))];refine fR (ai @z2 @tmz) ?_;exact fD (ai @em @tmz)
end
section
variable {w:World} {S:Nat->Prop}
theorem ZtQ {rows:List (List C)} {ety sz cap l h:Nat} {a:Option Addr} (hb:Za5 w S ety sz rows (.slice a rows.length cap)) (hl:l<=h∧h<=rows.length):∃ (b:Option Addr) (c:Nat) (news:List Value),sliced a l h cap sz=.slice b ((rows.take h).drop l).length c∧Zac w S ((rows.take h).drop l).flatten news∧∀ (P:Program) (w':World),(∀ p,w'.cell? p=w.cell? p)->(Builtin.firstCells sz ((rows.take h).drop l).length (sliced a l h cap sz)).run P w'=.ok news.toArray w':=by
 have hln:((rows.take h).drop l).length=h - l:=by rw [Tax,Taw];omega
 obtain ⟨h1,hrl,h3⟩:=hb;by_cases he:h=l
 ·have e0:((rows.take h).drop l).length=0:=om;have e1:(rows.take h).drop l=[]:=Tao e0;refine ⟨_,_,[],by rw [hln];exact rfl,by rw [e1];simp [Zac],fun P w' _=>?_⟩;rw [e0];simp only [sliced,he,Nat.sub_self];split
  ·cases a <;> simp [Builtin.firstCells,loadCells,loadCellsFrom]
  ·cases a <;> simp [Builtin.firstCells,loadCells,loadCellsFrom]
 ·rcases h3 with ⟨h4,p,h5⟩ | ⟨g,cap',cur,h4,h5,h6,h7,h8,h9,h10,h11,h12⟩
  ·rw [h4] at hl;simp only [Tak] at hl;omega
  ·injection h4 with e1 e2 e3
   subst e1 e3;have hlc:¬ cap=l:=om;have hval:sliced (some ⟨g,0,none⟩) l h cap sz=.slice (some ⟨g,l * sz,none⟩) (h - l) (cap - l):=by
    simp only [sliced,hlc,if_false,Option.map_some,Addr.add_at,Nat.zero_add]
   have hr:=Zar.sub hrl h12 l h;rw [Nat.zero_add] at hr;obtain ⟨news,q5,q6⟩:=hr.flat.vals;have hsl:rowsLen sz ((rows.take h).drop l):=fun r hr=>hrl r (List.mem_of_mem_take (List.mem_of_mem_drop hr));rw [hval];refine ⟨_,_,news,by rw [hln],q5,fun P w' hw=>?_⟩;exact run_firstCells_some w' sz _ _ _ _ news (by rw [q5.len,Zch hsl]) (fun j u hj=>by rw [hw,Addr.add_at];exact q6 j u hj)
end
section
variable {e:Env} {K:St->Prop} {ds:List (Option Nat)} {os:List Oper} {s:List (Nat × A)} {m:List (Nat × Bk)}
theorem Zq2 {σ:St} {o:Oper} {x y:Operand} {t ety ety' sz by' k j d l h cap:Nat} {a0:Option Addr} {rows rj:List (List C)} {oa:Option (Option Addr × Nat)} (ho:o.op=.call ⟨.builtin .append,#[x,y],#[t,t]⟩) (hdd:o.dst=some d) (hb:Zbh e.P t=some (ety,sz,by'))
  (hx:evA σ.s x=.buf k) (hm:gm σ.m k=some (.buf oa ety sz rows)) (hy:evA σ.s y=.d (.one (.lit (sliced a0 l h cap sz)))) (hj:gm σ.m j=some (.buf (some (a0,cap)) ety' sz rj)) (hlh:l<=h∧h<=rj.length) (hle:rows.length+rj.length<=maxApp)
  (hK:K ⟨(d,.buf d)::Zav d (Zav k σ.s),(d,.buf none ety sz (rows++(rj.take h).drop l))::remM d (remM k σ.m)⟩):ZbC e o σ K:=by
 intro he U w0 S0 nt a w Q hd ⟨S,L,h0⟩;have hx':a.eval x=L.v k:=by have:=h0.eval x;rw [hx] at this;exact this
 have hy':=h0.eval y;rw [hy] at hy';have hy':=Zbj hy';have ho':Za5 w S ety sz rows (L.v k):=(h0.cls.own k _ hm).2;obtain ⟨hpl,hbj⟩:=h0.cls.own j _ hj;have hvj:L.v j=.slice a0 rj.length cap:=hpl (a0,cap) rfl;rw [hvj] at hbj;obtain ⟨yb,yc,news,y1,y2,y3⟩:=ZtQ hbj hlh;have hln:((rj.take h).drop l).length=h - l:=by rw [Tax,Taw];omega
 have hsl:rowsLen sz ((rj.take h).drop l):=fun r hr=>hbj.2.1 r (List.mem_of_mem_take (List.mem_of_mem_drop hr));obtain ⟨v',w',hrun,hbuf,τ,hk,hτ,hblk⟩:=ZfZ (ty:=o.type) (ts:=#[t,t]) (v:=L.v k) (u:=sliced a0 l h cap sz) he h0.cls rfl rfl hb (.inl ho') ho'.2.1 hsl om ⟨yb,yc,news,y1,y2,y3⟩;unfold Oper.wp;have hr2:(execOp a.eval o).run e.P w=.ok (.value v') w':=by
  simp [execOp,ho,resolve,invoke,builtin,hx',hy',hrun,Result.andThen]
 rw [hr2,Oper.upon_value,hdd];refine ⟨_,hK,h0.born he (hd d hdd) (τ:=τ) (b':=0) (v':=v') (s1:=Zav k σ.s) (m1:=remM k σ.m) (fun _ h=>h) (fun _ h=>.inl h) (fun t=>?_) (fun k' x hx=>?_) (fun g hg=>?_) (fun k' x g hkd hx hg hb'=>?_) hk ?_ (fun g hg=>?_) (by simp [ARel])⟩
 ·rcases ZeF k t σ.s with ⟨h1,_⟩ | h1
  ·exact .inl h1
  ·exact .inr h1
 ·rw [ZaX] at hx;split at hx
  ·cases hx
  ·exact hx
 ·have hg':=(hτ g hg).1;exact ⟨(Own1.lt (k:=k) (L:=L) (bk:=.buf none ety sz rows) ⟨by simp,ho'⟩ hg').2,h0.cls.notE hm hg',h0.cls.mine k _ g hm hg'⟩
 ·have hg':=(hτ g hg).1;rw [ZaX] at hx;split at hx
  ·cases hx
  ·rename_i hne';exact hne' (h0.cls.inj k' k x _ g hx hm hb' hg')
 ·simp only [Own1,if_true];exact ⟨by simp,hbuf⟩
 ·simp only [ZaF,if_true] at hg;exact hblk g hg
theorem gAps {d t ty ety ety' by' sz l h cap:Nat} {p:String} {ed:Array Edge} {x y:Operand} {rows rj:List (List C)} {oa:Option (Option Addr × Nat)} {a0:Option Addr} {s2:List (Nat × A)} {m2:List (Nat × Bk)} (k j:Nat) (hlh:l<=h∧h<=rj.length) (hle:rows.length+rj.length<=maxApp) (hK:Runs e ds 0 os ⟨(d,.buf d)::s2,(d,.buf none ety sz (rows++(rj.take h).drop l))::m2⟩ K)
  (hb:Zbh e.P t=some (ety,sz,by'):=by exact sfx) (hx:evA s x=.buf k:=by exact sfx) (hm:gm m k=some (.buf oa ety sz rows):=by exact snx) (hy:evA s y=.d (.one (.lit (sliced a0 l h cap sz))):=by exact snx) (hj:gm m j=some (.buf (some (a0,cap)) ety' sz rj):=by exact snx)
  (hs:Zav d (Zav k s)=s2:=by exact snv) (hr:remM d (remM k m)=m2:=by exact snv):Runs e ds 0 (⟨some d,.call ⟨.builtin .append,#[x,y],#[t,t]⟩,ty,p,ed,none⟩::os) ⟨s,m⟩ K:=by
 subst hs hr;simp only [Runs] at hK ⊢;exact Zdd rfl (Zq2 rfl rfl hb hx hm hy hj hlh hle hK)
end
theorem okc4 {u0 u1 u2 u3:Value} (h:(Zag [u0,u1,u2,u3]).all Zaj=true):Zaj (.lit u0)=true∧Zaj (.lit u1)=true∧Zaj (.lit u2)=true∧Zaj (.lit u3)=true:=by
 simpa [Zag,Tar,and_assoc] using h
theorem Zhm (ts:List Tm) {i:Nat} {t:Tm} (h:ts[i]?=some t):Zaa (ts.take (i+1))=Zaa (ts.take i)++[Zab t]:=by
 simp only [Zbm,List.take_add_one,h,Option.toList,Tbu,Tbt,List.map_nil]
theorem ZdY (u0 u1 u2 u3:Value):Zag [u0,u1,u2,u3]=[.lit u0,.lit u1,.lit u2,.lit u3]:=rfl
theorem ZaH (uss:List (List Value)):(uss.map Zag).length=uss.length:=Tay ..
def tmsB (ts:List Tm):Prop:=ts.length+bulkRows (Zaa ts)<=1048576
theorem ZkS (ts:List Tm) (hB:tmsB ts) (h:∀ t∈ts,ConP e0 31 [.agg (Zab t)] [] (Zbv (Zab t))):ConP e0 70 [.one (.sl (Zaa ts))] [] (Zjg 39 4 (Zaa ts)):=by
 have hl:ts.length<=1048576:=Tbe (Nat.le_add_right _ _) hB;refine gIP (ts:=[.slot 2]) [] 1005 Tryz.func70 ?_;refine fG @e0P ?_;refine pE [] [1000] Zcv ?_;have F:=ai @Zad @ZbX;refine gL (ι:=Nat × List (List Value) × (Nat->Prop)) [3,5,8,9] [3,1000] (fun x=>[(8,.d (.one (.lit (.int .i64 (x.1:Int))))),(3,.buf 3)]) (fun x=>[(3,.buf none 39 4 (x.2.1.map Zag)),(1000,.set x.2.2 (fun w=>Zap w (Zaa (ts.take x.1)) x.2.2 x.2.1))]) (fun x=>x.1<=ts.length∧x.2.1.length=x.1) (fun x=>ts.length - x.1) ((0,[],fun _=>False)) (⟨Taj _,rfl⟩) (fun x hx=>?_);clear F
 obtain ⟨i,uss,E⟩:=x;obtain ⟨hi,hn⟩:=hx;simp only at hi hn;by_cases hlt:i < ts.length
 ·have hg:ts[i]?=some ts[i]:=Taa hlt;have hc:=h ts[i] (List.getElem_mem hlt);generalize ts[i]=t at hg hc;have q1:=lT i ts.length;refine fB (aj5 @Zad @ZbL @q1 @hg @tmz) ?_;have F:=@tmz;refine gCP [] [1001] (hc) ?_;clear F;rintro r pm ⟨us,E2,rfl,hu,hok,rfl⟩;rw [Zhw] at hu;obtain ⟨u0,u1,u2,u3,rfl⟩:=len4 hu;obtain ⟨k0,k1,k2,k3⟩:=okc4 hok;have q3:IntKind.i64.wrap ((i:Int)+1)=(i:Int)+1:=IntWalk.i64_in _ om
  have q2:i+1<=maxApp:=by unfold maxApp;omega
  simp only [ZdY,setA,retA,zipM,Taf,Tah];refine fR (aj8 @ZdY @ZaH @hn @q2 @k0 @k1 @k2 @k3) ?_;refine pE [1000,1001] [1000] (ZgJ (G':=fun w=>Zap w (Zaa (ts.take (i+1))) (fun b=>E b∨E2 b) (uss++[[u0,u1,u2,u3]])) (fun w h1 h2 hd=>?_) (Zap.stable _ _ _)) ?_
  ·rw [Zhm ts hg];exact Zap.snoc h1 h2 (fun _ h=>.inl h) (fun _ h=>.inr h) hd
  have F:=aj4 @ZdY @q3 @Zad ((@Tbu.{0,0}));refine gG ?_;exact ⟨(i+1,uss++[[u0,u1,u2,u3]],fun b=>E b∨E2 b),⟨hlt,by simp [hn]⟩,gw,gw,om⟩
 ·obtain rfl:i=ts.length:=by omega
  have q1:=lF ts.length ts.length;refine fG (ai @Zad @q1) ?_;rw [Tap];refine pS 2 fun a cap=>?_;refine gTP [2,1000] (Zjg.mk (by rw [hn,Zad]))
theorem ZB7 {w:World} {op so:Int} {nm:ByteArray} {args:List Tm} {E:Nat->Prop} {v:Value} (h:Own w (.sl (Zaa args)) E v):Zae w (Zab (.mk op nm so args)) E [.int .i64 op,.string nm,.int .i64 so,v]:=by
 simp only [Zab,Zae];refine ⟨fun _=>False,E,fun _ h=>h.elim,fun _ h=>h,fun _ h _=>h,by simp [Own],fun _=>False,E,fun _ h=>h.elim,fun _ h=>h,fun _ h _=>h,by simp [Own],fun _=>False,E,fun _ h=>h.elim,fun _ h=>h,fun _ h _=>h,by simp [Own],E,fun _=>False,fun _ h=>h,fun _ h=>h.elim,fun _ _ h=>h,h,trivial⟩
theorem Zl9 (t:Tm) (h:ConP e0 70 [.one (.sl (Zaa t.args))] [] (Zjg 39 4 (Zaa t.args))):ConP e0 31 [.agg (Zab t)] [] (Zbv (Zab t)):=by
 obtain ⟨op,nm,so,args⟩:=t;have hc:Zab (.mk op nm so args)=[.lit (.int .i64 op),.lit (.string nm),.lit (.int .i64 so),.sl (Zaa args)]:=by simp only [Zab]
 simp only [Tm.args] at h;refine gIP (ts:=[.cell 2 39]) [] 7 Tryz.func31 ?_;refine fB @hc ?_;have F:=@hc;refine gCP [] [1000,1001] (h) ?_;clear F;rintro r pm ⟨a,cap,uss,E,rfl,hu,rfl⟩;simp only [setA,retA,zipM,Taf,Tah];refine fR @hc ?_;refine fG @hc ?_;refine pE [1000,1001] [1000] (Zb7 (G':=fun w=>Zae w (Zab (.mk op nm so args)) (fun b=>vblk (.slice a uss.length cap)=some b∨E b) [.int .i64 op,.string nm,.int .i64 so,.slice a uss.length cap]) (fun w h=>ZB7 h) (Zae.stable _ _ _)) ?_
 have hm:=Zbv.mk (row:=Zab (.mk op nm so args)) (us:=[.int .i64 op,.string nm,.int .i64 so,.slice a uss.length cap]) (E:=fun b=>vblk (.slice a uss.length cap)=some b∨E b) (by rw [hc];rfl) rfl;rw [ZdY] at hm;exact (have F:=hc;gTP [1000] hm)
theorem Zzi (n:Nat):(∀ t:Tm,Zba (Zab t) < n->bulkRow (Zab t)<=1048576->ConP e0 31 [.agg (Zab t)] [] (Zbv (Zab t))):=by
 induction n with
 | zero=>exact fun _ h=>om
 | succ n ih =>
  intro t hn hb;obtain ⟨op,nm,so,args⟩:=t;simp only [Zab,Zba,Zdb,bulkRow,Za6] at hn hb;refine Zl9 _ (ZkS args (by unfold tmsB;have:=Zad args;omega) fun a ha=>?_);obtain ⟨i,hi⟩:=Tbk ha;have hi':(Zaa args)[i]?=some (Zab a):=by rw [ZbL,hi];rfl
  have h1:=Zb9 hi';have h2:=Zcg hi';exact ih a om om
theorem Zjm (t:Tm) (hb:bulkRow (Zab t)<=1048576):ConP e0 31 [.agg (Zab t)] [] (Zbv (Zab t)):=Zzi _ t (Tan _) hb
theorem ZBz (pm:List Bk):Za2 pm pm:=fun w S h1 h2=>⟨h1,h2,fun _ h=>h⟩
theorem Zzj {ts:List Tm} {i:Nat} (h:i<=ts.length):(Zaa (ts.take i)).length=i:=by rw [Zad,Taw];omega
theorem Zn8 (t:Tm) (hB:tmsB t.args) (h:∀ a∈t.args,Con e0 22 [.agg (Zab a)] [.agg (Zab a)]):Con e0 22 [.agg (Zab t)] [.agg (Zab t)]:=by
 obtain ⟨op,nm,so,args⟩:=t;have hc:Zab (.mk op nm so args)=[.lit (.int .i64 op),.lit (.string nm),.lit (.int .i64 so),.sl (Zaa args)]:=by simp only [Zab]
 simp only [Tm.args] at h hB;have hl:args.length<=1048576:=Tbe (Nat.le_add_right _ _) hB;refine gI (ts:=[.cell 2 39]) 65567 Tryz.func22 ?_;refine fN 1 @hc ?_;refine gB ?_;refine gP 6 ?_;refine gX ?_;refine fR @hc ?_;refine pN 1000 39 4 ?_;refine fG @hc ?_;have F:=ai @hc @ZbX;refine gL (ι:=Nat × Option Addr × Nat) [4,16] [3,1000] (fun x=>[(4,.d (.one (.lit (.int .i64 (x.1:Int)))))]) (fun x=>[(1000,.buf (some (x.2.1,x.2.2)) 39 4 (Zaa (args.take x.1))),(3,.var none [.lit (.int .i64 op),.lit (.string nm),.lit (.int .i64 so),.lit (.slice x.2.1 x.1 x.2.2)])]) (fun x=>x.1<=args.length) (fun x=>args.length - x.1) ((0,none,0)) (Taj _) (fun x hx=>?_);clear F
 obtain ⟨i,p,cap⟩:=x;simp only at hx;by_cases hlt:i < args.length
 ·have hg:args[i]?=some args[i]:=Taa hlt;have hcon:=h args[i] (List.getElem_mem hlt);generalize args[i]=a at hg hcon;have q1:=lT i args.length;have q4:IntKind.i64.wrap ((i:Int)+1)=(i:Int)+1:=IntWalk.i64_in _ om;have q2:i+1<=maxApp:=by unfold maxApp;omega
  have q3:=Zzj hx;have q5:(args.take i).length=i:=by rw [Taw];omega
  refine fB (aj6 @hc @Zad @ZbL @q1 @hg @tmz) ?_;refine fC (aj3 @tmz @ZbL @hg) (hcon) ?_;have F:=aj4 @tmz @q2 @q3 @q5;refine gP 3 ?_;clear F;refine gS 28 fun p2 cap2=>?_;refine fR (aj3 @tmz @q3 @q5) ?_;refine pE [28] [1000] (ZBz _) ?_;rw [<- Zhm args hg];have F:=ai @hc @q4;refine gG ?_;exact ⟨(i+1,p2,cap2),hlt,gw,gw,om⟩
 ·obtain rfl:i=args.length:=by omega
  have q1:=lF args.length args.length;rw [Tap];refine fG (aj3 @hc @Zad @q1) ?_;refine pD 1000 [] [2] ?_ (hs:=by exact snv);exact fD (ai @hc @Zad)
theorem ZxN (n:Nat):(∀ t:Tm,Zba (Zab t) < n->bulkRow (Zab t)<=1048576->Con e0 22 [.agg (Zab t)] [.agg (Zab t)]):=by
 induction n with
 | zero=>exact fun _ h=>om
 | succ n ih =>
  intro t hn hb;obtain ⟨op,nm,so,args⟩:=t;simp only [Zab,Zba,Zdb,bulkRow,Za6] at hn hb;refine Zn8 _ (by unfold tmsB;simp only [Tm.args];have:=Zad args;omega) fun a ha=>?_;simp only [Tm.args] at ha;obtain ⟨i,hi⟩:=Tbk ha;have hi':(Zaa args)[i]?=some (Zab a):=by rw [ZbL,hi];rfl
  have h1:=Zb9 hi';have h2:=Zcg hi';exact ih a om om
theorem Zf9 (t:Tm) (hb:bulkRow (Zab t)<=1048576):Con e0 22 [.agg (Zab t)] [.agg (Zab t)]:=ZxN _ t (Tan _) hb
theorem ZtR {ts:List Tm} {i:Nat} {t:Tm} (h:ts[i]?=some t):Zaa (ts.take i)++[Zab t]=Zaa (ts.take (i+1)):=(Zhm ts h).symm
theorem Zjn (ts:List Tm) (hB:tmsB ts):Con e0 130 [.one (.sl (Zaa ts))] [.one (.sl (Zaa ts))]:=by
 unfold tmsB at hB;refine gI (ts:=[.slot 2]) 541 Tryz.func130 ?_;refine fG @tmz ?_;have F:=@ZbX;refine gL (ι:=Nat) [3,4,9] [3] (fun i=>[(4,A.d (.one (.lit (.int .i64 i)))),(3,.buf 3)]) (fun i=>[(3,.buf none 39 4 (Zaa (ts.take i)))]) (fun i=>i<=ts.length) (fun i=>ts.length - i) (0) (Taj _) (fun i hi=>?_);clear F;by_cases hlt:i < ts.length;rotate_left
 ·obtain rfl:i=ts.length:=by omega
  have q2:=lF ts.length ts.length;rw [Tap];refine fG (ai @q2 @tmz) ?_;have F:=@tmz;refine gG ?_;exact gTz [2]
 obtain ⟨t,ht⟩:∃ b,ts[i]?=some b:=⟨_,Taa hlt⟩;have q2:=lT i ts.length;have q4:=Zau (k:=i) om;have hi':(Zaa ts)[i]?=some (Zab t):=by rw [ZbL,ht];rfl
 have hbt:=Zcg hi';have cc:=Zf9 t om;have l1:ZaA 4 (Zaa (ts.take i))=true:=ZdJ _;have l2:((Zaa (ts.take i)).length+1<=maxApp)=True:=eq_true (by rw [Zad,Taw];unfold maxApp;omega);have l3:((ts.take i).length+1<=maxApp)=True:=eq_true (by rw [Taw];unfold maxApp;omega);have l4:min i ts.length+1<=maxApp:=by unfold maxApp;omega
 have e:=ZtR ht;refine fB (ai @q2 @tmz) ?_;refine fC (aj3 @q2 @ht @tmz) (cc) ?_;refine fR (aj4 @l1 @l2 @l3 @tmz) ?_;have F:=ai @q4 @e;refine gG ?_;exact ⟨i+1,hlt,gw,gw,om⟩
theorem Zzk:Zaa (Zaw [])=[]:=by simp [Zaw,Zaa]
theorem ZtS {l:List Tm} (h:Zax l):Zax (Zaw l):=by
 have:∀ {ts:List Tm},Zax ts ↔ ∀ t∈ts,okTm t:=fun {ts}=>by
  induction ts with
  | nil=>simp [Zax]
  | cons t ts ih=>simp [Zax,ih]
 exact this.2 fun a ha=>this.1 h a ((Za9 l).mem_iff.1 ha)
theorem Zq3 {l:List Tm} (h:Zax l) (k:Nat):Zax (l.take k):=by
 have:∀ {ts:List Tm},Zax ts ↔ ∀ t∈ts,okTm t:=fun {ts}=>by
  induction ts with
  | nil=>simp [Zax]
  | cons t ts ih=>simp [Zax,ih]
 exact this.2 fun a ha=>this.1 h a (List.mem_of_mem_take ha)
theorem Zp0 (ts:List Tm) (hok:Zax ts) (hB:tmsB ts):Con e0 129 [.one (.sl (Zaa ts))] [.one (.sl (Zaa (Zaw ts)))]:=by
 have hB0:=hB;unfold tmsB at hB
 have hcc:=Zjn (Zaw ts) (by
  have h1:=(Za9 ts).length_eq;have h2:bulkRows (Zaa (Zaw ts))=bulkRows (Zaa ts):=by
   have:∀ {l m:List Tm},l.Perm m->bulkRows (Zaa l)=bulkRows (Zaa m):=fun h=>by
    induction h with
    | nil=>rfl
    | cons x h ih=>simp only [Zaa,bulkRows,ih]
    | swap x y l=>simp only [Zaa,bulkRows];omega
    | trans h1 h2 a b=>rw [a,b]
   exact this (Za9 ts)
  unfold tmsB;omega)
 refine gI (ts:=[.slot 2]) 1073743997 Tryz.func129 ?_;refine fG @tmz ?_;have F:=ai @Zzk @tmz;refine gL (ι:=Nat) [3,4,5,6,11,30] [3] (fun i=>[(4,A.d (.one (.lit (.int .i64 i)))),(3,.buf 3)]) (fun i=>[(3,.buf none 39 4 (Zaa (Zaw (ts.take i))))]) (fun i=>i<=ts.length) (fun i=>ts.length - i) (0) (Taj _) (fun i hi=>?_);clear F;by_cases hlt:i < ts.length;rotate_left
 ·obtain rfl:i=ts.length:=by omega
  have q2:=lF ts.length ts.length;rw [Tap];refine fN 10 (ai @q2 @tmz) ?_;refine pS 3 fun a cap=>?_;refine pD 3 [3] [] ?_;refine gB ?_;refine fC @tmz (hcc) ?_;refine fR @tmz ?_;exact fD @tmz
 obtain ⟨x,hx⟩:∃ b,ts[i]?=some b:=⟨_,Taa hlt⟩;have q2:=lT i ts.length;have q4:=Zau (k:=i) om;have hxo:=hok.mem (Tac hx);obtain ⟨M,hM⟩:∃ M,M=Zaw (ts.take i):=⟨_,rfl⟩;have hMl:M.length=i:=by rw [hM,ZcY,Taw];omega
 have hMo:Zax M:=by rw [hM];exact ZtS (Zq3 hok i)
 have hMr:ts.take (i+1)=ts.take i++[x]:=Zcj hx;rw [<- hM];refine fN 5 (aj3 @q2 @hMl @tmz) ?_;refine gB ?_;refine fR (ai @hMl @tmz) ?_;refine ZeG ?_;refine gM (ι:=Nat) [5] [] (fun k=>[(5,A.d (.one (.lit (.int .i64 k))))]) (fun k=>[]) (fun k=>k<=i∧(∀ y∈M.drop k,Zah x y<=0)∧(0 < k->∃ y,M[k - 1]?=some y∧Zah y x<=0)) ?_ (fun k hk=>Exists.intro _ (ai (Wk.refl _) ?_))
 ·refine fG @tmz ?_;have F:=@tmz;refine gL (ι:=Nat) [5,30] [] (fun k=>[(5,A.d (.one (.lit (.int .i64 k))))]) (fun k=>[]) (fun k=>k<=i∧∀ y∈M.drop k,Zah x y<=0) (fun k=>k) (i) (⟨Tai _,by rw [<- hMl,List.drop_length];intro y hy;cases hy⟩) (fun k hk=>?_);clear F;obtain ⟨hk,h2⟩:=hk;by_cases hk0:k=0
  ·have q0:=lF 0 k;have F:=ai @q0 @tmz;refine gG ?_;exact ⟨k,⟨hk,h2,fun h=>om⟩,gw,gw⟩
  obtain ⟨j,rfl⟩:∃ j,k=j+1:=⟨k - 1,om⟩;obtain ⟨y,hy⟩:∃ y,M[j]?=some y:=⟨_,Taa om⟩;have q5:=lT 0 (j+1:Nat);have wj:IntKind.i64.wrap (((j+1:Nat):Int) - 1)=(j:Int):=Za4 om om om;have lj:j < i:=om;have hdr:M.drop j=y::M.drop (j+1):=ZdE hy;generalize hk1:j+1=k1 at q5 wj h2 hk hdr ⊢;refine fB @tmz ?_;refine fC (aj8 @q5 @wj @hy @hx @hMl @lj @ZaC @tmz) (Zeo (hMo.mem (Tac hy)) hxo) ?_;by_cases hc:0 < Zah y x
  ·have z:=eq_true hc;refine fR @z ?_;have h2':∀ u∈M.drop j,Zah x u<=0:=fun u hu=>by
    rw [hdr] at hu;rcases Tbg.1 hu with rfl | hu
    ·rw [Zcc u x];omega
    ·exact h2 u hu
   have F:=ai @z @wj;refine gG ?_;exact ⟨j,⟨om,h2'⟩,gw,gw,om⟩
  have z:=eq_false hc;refine fR @z ?_;have F:=ai @z @tmz;refine gG ?_;exact ⟨k1,⟨hk,h2,fun _=>⟨y,by rw [<- hk1,Nat.add_sub_cancel];exact hy,om⟩⟩,gw,gw⟩
 obtain ⟨hk,h2,h1⟩:=hk;have hMs:M.take k++x::M.drop k=Zaw (ts.take (i+1)):=by
  rw [hMr];refine Zpz (by rw [Tbm,hM]) h2 fun y hy=>?_;have hk0:0 < k:=by
   rcases Nat.eq_zero_or_pos k with h | h
   ·subst h;simp at hy
   ·exact h
  obtain ⟨z,hz,hc⟩:=h1 hk0;rw [List.getLast?_eq_getElem?,Taw,hMl,Nat.min_eq_left hk,List.getElem?_take,if_pos om,hz] at hy;injection hy with hy
  subst hy;exact hc
 have hdl:((Zaa M).take (Zaa M).length).drop k=Zaa (M.drop k):=by rw [Tap,Zes]
 refine fN 8 @tmz ?_;refine pS 3 fun a cap=>?_;refine gB ?_;have F:=@tmz;refine gP 3 ?_;clear F;have hkl:k<=(Zaa M).length:=by rw [Zad];omega
 refine (have F:=ai hMl tmz;gSub 3 k (Zaa M).length ⟨hkl,Tai _⟩ ?_);refine gO 33 39 4 ?_;refine (have F:=tmz;gAps (rows:=[]) (rj:=Zaa M) 33 3 ⟨hkl,Tai _⟩ (by rw [Zad];simp only [Tak,maxApp];omega) ?_);rw [hdl,Tah];refine fR @tmz ?_;refine fN 9 @tmz ?_;have hcl:(Zaa M).take k=Zaa (M.take k):=ZdW _ _;have htl:(M.take k).length=k:=by rw [Taw];omega
 refine gF0 ?_;refine gFm 0 ?_;refine gFm 1 ?_;refine (have F:=ai hMl tmz;gFs 2 3 0 k ⟨Taj _,hkl⟩ ?_);rw [Zku];refine gFm 3 ?_;refine gFm 4 ?_;refine gFm 9 ?_;refine gFT ?_;have l1:(k+1<=maxApp)=True:=eq_true (by unfold maxApp;omega);have l2:((M.take k).length+1+(M.drop k).length<=maxApp)=True:=eq_true (by rw [htl,Tax];unfold maxApp;omega);have e1:Zaa (M.take k)++[Zab x]=Zaa (M.take k++[x]):=by rw [Zb6];rfl
 have e2:Zaa (M.take k++[x])++Zaa (M.drop k)=Zaa (Zaw (ts.take (i+1))):=by rw [<- Zb6,<- hMs];simp
 refine gO1 5 ?_;refine (have F:=aj4 q2 hx ZaC tmz;gO3 ?_);refine gO1 6 ?_;refine (have F:=ai hx tmz;gO3 ?_);refine gO1 7 ?_;refine (have F:=tmz;gO3 ?_);refine gO1 8 ?_;refine gE [3] [3] (ZxD k hkl) ?_;rw [hcl];refine (have F:=aj4 htl l1 e1 tmz;gO3 ?_);refine gO1 10 ?_;refine (have F:=aj3 l2 e2 tmz;gO3 ?_);refine gO1 11 ?_;refine (have F:=tmz;gO3 ?_);refine (have F:=tmz;gT0 ?_);refine Exists.intro _ (ai (Wk.refl _) ?_)
 have F:=@q4;refine gG ?_;exact ⟨i+1,hlt,gw,gw,om⟩
theorem ZxO {ts:List Tm}:Zax ts ↔ ∀ t∈ts,okTm t:=by
 induction ts with
 | nil=>simp [Zax]
 | cons t ts ih=>simp [Zax,ih]
theorem ZBA (op so:Int) (nm:ByteArray) (args:List Tm):bulkRow (Zab (.mk op nm so args))=nm.size+(args.length+bulkRows (Zaa args)):=by
 simp only [Zab,bulkRow,Za6,Zad];omega
section
variable {g:Sgn}
mutual
theorem ZnJ:∀ {t:Tm},ZaI g t->bulkRow (Zab t)+1<=13 * sizeTm t
 | .mk op nm so args,h=>by
  have h1:=Zim (Zhf.2 (Zbd.1 h).2.1);simp only [Tm.args] at h1;rw [ZBA];simp only [sizeTm];rcases h.node with hv | ⟨o,d,hA⟩
  ·have h2:ZaG nm=true:=hv.2.1;have h3:args=[]:=hv.2.2.2.2;subst h3;have h4:¬ 12 < nm.size:=fun h=>by rw [ZcW (.inr (.inl h))] at h2;cases h2
   simp only [Zaa,bulkRows,sizeTms,Tak];omega
  ·have h2:nm=ByteArray.empty:=hA.nm;subst h2;have:ByteArray.empty.size=0:=rfl;omega
theorem Zim:∀ {ts:List Tm},Zda g ts->bulkRows (Zaa ts)+ts.length<=13 * sizeTms ts
 | [],_=>by simp [Zaa,bulkRows]
 | t::ts,h=>by
  simp only [Zda] at h;have h1:=ZnJ h.1;have h2:=Zim h.2;simp only [Zaa,bulkRows,sizeTms,Tag];omega
end
end
def addL (i:Nat):Nat->List Oper->List Oper
 | _,[]=>[]
 | 0,o::l=>{ o with after:=o.after.push ⟨i,.data⟩ }::l
 | k+1,o::l=>o::addL i k l
theorem ZgK (i:Nat):∀ (k:Nat) (l:List Oper) (j:Nat),(addL i k l)[j]?=if j=k then l[j]?.map fun o=>{ o with after:=o.after.push ⟨i,.data⟩ } else l[j]?
 | k,[],j=>by simp [addL]
 | 0,o::l,0=>by simp [addL]
 | 0,o::l,j+1=>by simp [addL]
 | k+1,o::l,0=>by simp [addL]
 | k+1,o::l,j+1=>by simp [addL,ZgK i k l j]
theorem ZkT (i:Nat):∀ (k:Nat) (l:List Oper),(addL i k l).length=l.length
 | k,[]=>by simp [addL]
 | 0,o::l=>by simp [addL]
 | k+1,o::l=>by simp [addL,ZkT i k l]
theorem ZkU (i:Nat):∀ (k:Nat) (l:List Oper),(addL i k l).map (·.dst)=l.map (·.dst)
 | k,[]=>by simp [addL]
 | 0,o::l=>by simp [addL]
 | k+1,o::l=>by simp [addL,ZkU i k l]
section
variable {P:Program} {l:List Oper} {i k:Nat} {oi ok:Oper}
theorem Zg7 {Q:Exit->Act->World->Prop} {j:Nat} {K:Act->World->Prop} {a:Act} {w:World}:wpOp P (addL i k l).toArray Q j K a w ↔ wpOp P l.toArray Q j K a w:=by
 have hb:∀ g:Nat,((addL i k l)[g]?).bind (fun x=>x.dst)=(l[g]?).bind fun x=>x.dst:=fun g=>by
  rw [ZgK];by_cases h:g=k
  ·rw [if_pos h];cases l[g]? <;> rfl
  ·rw [if_neg h]
 have hy:yielded (addL i k l).toArray a.tmps=yielded l.toArray a.tmps:=by
  funext g;unfold yielded;simp only [List.getElem?_toArray,hb]
 unfold wpOp;rw [hy];simp only [List.getElem?_toArray,ZgK];by_cases hjk:j=k
 ·rw [if_pos hjk]
  cases hj:l[j]? with
  | none=>exact Iff.rfl
  | some o=>exact Iff.rfl
 ·rw [if_neg hjk]
def ZxP (ops:Array Oper) (i:Nat):Bool:=(List.range ops.size).all fun j=>j==i || match ops[i]?,ops[j]? with
 | some oi,some oj=>oi.after.any (fun e=>Region.binds .any e && e.on==j) || (oj.after.any (fun e=>Region.binds .any e && e.on==i) || oi.apart ops oj)
 | _,_=>true
def ZoA (ops:Array Oper) (i k:Nat):Bool:=Zif ops && ZxP ops i && i != k && match ops[i]?,ops[k]? with
 | some oi,some ok=>(match oi with
  | ⟨some _,.extract _ _,_,_,_,none⟩=>true
  | _=>false) && oi.after.all fun e=>!Region.binds .any e || ok.after.any fun e'=>Region.binds .any e' && e'.on==e.on
 | _,_=>false
theorem ZtT {Q:Exit->Act->World->Prop} (hQ:∀ ex a w,Q ex a w->ex=.normal) (hB:ZoA l.toArray i k=true) :
  ∀ (f:Nat) (listed:Array Bool) (a:Act) (w:World),listed.size=l.length->wpAny P .any (addL i k l).toArray Q f listed a w->wpAny P .any l.toArray Q f listed a w:=by
 simp only [ZoA,Tar,bne_iff_ne,ne_eq] at hB;obtain ⟨⟨⟨hsel,hap⟩,hik⟩,h4⟩:=hB;split at h4;rotate_left
 ·cases h4
 rename_i oi ok hoi hok;simp only [Tar] at h4;obtain ⟨h5,h6⟩:=h4;have hpre:∀ e∈oi.after,Region.binds .any e=true->∃ e'∈ok.after,Region.binds .any e'=true∧e'.on=e.on:=fun e he hb=>by
  have:=Array.all_eq_true_iff_forall_mem.1 h6 e he;simp only [hb,Bool.not_true,Bool.false_or,Array.any_eq_true',Tar,beq_iff_eq] at this;obtain ⟨e',q1,q2,q3⟩:=this;exact ⟨e',q1,q2,q3⟩
 have hrdy:∀ (listed:Array Bool) (j:Nat),j∈Region.ready .any (addL i k l).toArray listed ↔ j∈Region.ready .any l.toArray listed∧(j=k->listed.getD i false=true):=fun listed j=>by
  rw [mem_ready,mem_ready];simp only [List.getElem?_toArray,ZgK];by_cases hj:j=k
  ·subst hj;simp only [if_true,true_implies];constructor
   ·rintro ⟨q1,o,q2,q3⟩
    cases hl:l[j]? with
    | none=>rw [hl] at q2;cases q2
    | some o' =>
     rw [hl] at q2;injection q2 with q2
     subst q2;exact ⟨⟨q1,o',rfl,fun e he hb=>q3 e (by simp [he]) hb⟩,q3 ⟨i,.data⟩ (by simp) rfl⟩
   ·rintro ⟨⟨q1,o,q2,q3⟩,q4⟩;refine ⟨q1,_,by rw [q2];rfl,fun e he hb=>?_⟩;rcases Array.mem_push.1 he with he | he
    ·exact q3 e he hb
    ·subst he;exact q4
  ·simp [hj]
 have hun:∀ (listed:Array Bool),listed.size=l.length->k∈Region.ready .any l.toArray listed->i∈Region.ready .any l.toArray listed∨listed.getD i false=true:=fun listed hs hk=>by
  by_cases h:listed.getD i false=true
  ·exact .inr h
  ·left;rw [mem_ready] at hk ⊢;obtain ⟨_,o,q2,q3⟩:=hk;have:o=ok:=by rw [hok] at q2;injection q2 with q2;exact q2.symm
   subst this;have hlt:i < l.length:=by have:=(Tbl.1 hoi).1;simpa using this
   refine ⟨?_,oi,hoi,fun e he hb=>?_⟩
   ·have hl:i < listed.size:=om;rw [Zbw hl];simpa using h
   ·obtain ⟨e',r1,r2,r3⟩:=hpre e he hb;rw [<- r3];exact q3 e' r1 r2
 have hap':=hap;intro f
 induction f with
 | zero =>
  intro listed a w hs h;refine ⟨?_,h.2⟩;by_cases hk:k∈Region.ready .any l.toArray listed
  ·rcases hun listed hs hk with h1 | h1
   ·have:=(hrdy listed i).2 ⟨h1,fun e=>absurd e hik⟩;rw [h.1] at this
    cases this
   ·have:=(hrdy listed k).2 ⟨hk,fun _=>h1⟩;rw [h.1] at this
    cases this
  ·refine List.eq_nil_iff_forall_not_mem.2 fun j hj=>?_;have:=(hrdy listed j).2 ⟨hj,fun e=>absurd (e ▸ hj) hk⟩;rw [h.1] at this
   cases this
 | succ f ih =>
  intro listed a w hs h;by_cases hi:i∈Region.ready .any l.toArray listed
  ·have h1:=h.2 i ((hrdy listed i).2 ⟨hi,fun e=>absurd e hik⟩);rw [Zg7] at h1;have h1':∃ v,Yields P l.toArray oi v a∧wpAny P .any (addL i k l).toArray Q f (listed.setIfInBounds i true) (a.put oi.dst v) w:=by
    unfold wpOp at h1;simp only [hoi] at h1;split at h5;rotate_left
    ·cases h5
    rename_i d x n ty pos af;have hw:Region.wanted ⟨some d,.extract x n,ty,pos,af,none⟩ (yielded l.toArray a.tmps)=true:=by simp [Region.wanted]
    rw [if_pos hw] at h1;rcases h1 with h1 | ⟨_,b,w',h1⟩
    rotate_left
    ·have:=hQ _ _ _ h1;cases this
    unfold Oper.wp at h1
    cases hx:a.eval x with
    | tuple vs =>
     cases hv:vs[n]? with
     | some v =>
      have hrun:∀ w',(execOp a.eval ⟨some d,.extract x n,ty,pos,af,none⟩).run P w'=.ok (.value v) w':=fun w'=>by
       simp [execOp,Instr.extract,hx,hv]
      rw [hrun,Oper.upon_value] at h1;exact ⟨v,.inl ⟨hw,hrun⟩,h1⟩
     | none =>
      simp [execOp,Instr.extract,hx,hv,stuck,Oper.upon] at h1
    | _=>simp [execOp,Instr.extract,hx,stuck,Oper.upon] at h1
   obtain ⟨v,hv,h2⟩:=h1';refine wpAny_first (oi:=oi) (v:=v) hoi (fun j oj cs b hj hsl=>?_) (fun c a w hq=>?_) f listed a w (fun j oj hj hne hl hno=>?_) hi hv (ih _ _ _ (by simpa using hs) h2)
   ·have:=List.all_eq_true.1 hsel oj (Tac (by simpa using hj));rw [hsl] at this
    cases this
   ·have:=hQ _ _ _ hq;cases this
   ·have hjs:=(Tbl.1 hj).1;have:=List.all_eq_true.1 hap j (List.mem_range.2 hjs);simp only [hoi,hj,Bool.or_eq_true,beq_iff_eq,List.any_eq_true,Array.any_eq_true',Tar] at this;rcases this with h1 | h1 | h1 | h1
    ·exact absurd h1 hne
    ·obtain ⟨ed,h2,h3,h4⟩:=h1;obtain ⟨_,o,q2,q3⟩:=mem_ready.1 hi;rw [hoi] at q2;injection q2 with q2
     subst q2;have q4:=q3 ed h2 h3;rw [h4,<- Zbw (by simpa [hs] using hjs)] at q4;rw [hl] at q4
     cases q4
    ·obtain ⟨ed,h2,h3,h4⟩:=h1;exact absurd h4 (hno ed h2 h3)
    ·exact h1
  ·refine ⟨fun h0=>h.1 ?_,fun j hj=>?_⟩
   ·refine List.eq_nil_iff_forall_not_mem.2 fun j hj=>?_;have:=((hrdy listed j).1 hj).1;rw [h0] at this
    cases this
   ·have hj':j∈Region.ready .any (addL i k l).toArray listed:=(hrdy listed j).2 ⟨hj,fun e=>by
     subst e;rcases hun listed hs hj with h1 | h1
     ·exact absurd h1 hi
     ·exact h1⟩
    have h1:=h.2 j hj';rw [Zg7] at h1;exact wpOp_mono (fun a w h=>ih _ a w (by simpa using hs) h) h1
end
section
variable {e:Env} {K:St->Prop} {mask:Nat} {Q:PX->St->Prop} {s:List (Nat × A)} {m:List (Nat × Bk)}
theorem ZtU {l:List Oper} {i k:Nat} {σ:St} (hB:ZoA l.toArray i k=true) (h:ZcM e (addL i k l).toArray K l.length (Array.replicate l.length false) σ):ZcM e l.toArray K l.length (Array.replicate l.length false) σ:=by
 intro he U w0 S0 nt a w hd hs;refine ZtT (fun ex a w hq=>hq.1) hB _ _ _ _ (by simp) (h he U w0 S0 nt a w (fun o ho d hdd=>?_) hs);have:some d∈(addL i k l).map (·.dst):=Tbi.2 ⟨o,by simpa using ho,hdd⟩;rw [ZkU] at this;obtain ⟨o',h1,h2⟩:=Tbi.1 this;exact hd o' (by simpa using h1) d h2
theorem Zq4 {l:List Oper} {p:Nat} {σ:St} (hAl:ZeE l.toArray p=true) (hB:regB l.toArray (p+1)=true) (hp:Runs e (l.map (·.dst)) (p+1) l σ K):ZcM e l.toArray K l.length (Array.replicate l.length false) σ:=by
 intro he U w0 S0 nt a w hd hs;have:=Zgt (ops:=l.toArray) he hAl hB (K:=K) (Q:=QN e U w0 S0 nt K) (fun a w σ' hK hs'=>⟨rfl,σ',hK,hs'⟩) hd hs (by simpa using hp);simpa using this
theorem gLt {id:Nat} {l l':List Oper} {ds:List (Option Nat)} (p i k:Nat) (hK:Runs e ds (p+1) l' ⟨s,m⟩ (ZcT mask Q)) (hl:addL i k l=l':=by simp only [addL];exact rfl) (hds:l'.map (·.dst)=ds:=by simp only [Tbt,List.map_nil];exact rfl) (hc:ZoA l.toArray i k=true:=by decide +kernel) (hA:ZeE l'.toArray p=true:=by decide +kernel) (hr:regB l'.toArray (p+1)=true:=by decide +kernel):pwp e mask (.region id l.toArray true) ⟨s,m⟩ Q:=by
 subst hl hds;have h1:=ZtU hc (by have:=Zq4 hA hr hK;rwa [ZkT] at this);exact Zji (ops:=l.toArray) (by simpa using h1)
end
def ZAV (ops:Array Oper) (ok:Oper):List Nat:=(ok.after.toList.filter fun e=>Region.binds .any e).flatMap fun e=>e.on::match ops[e.on]? with
 | some o=>(o.after.toList.filter fun e=>Region.binds .any e).map (·.on)
 | none=>[]
def ZoB (ops:Array Oper) (i k:Nat):Bool:=Zif ops && ZxP ops i && i != k && match ops[i]?,ops[k]? with
 | some oi,some ok=>(match oi with
  | ⟨some _,.pick _ _ _,_,_,_,none⟩=>true
  | _=>false) && oi.after.all fun e=>!Region.binds .any e || (ZAV ops ok).contains e.on
 | _,_=>false
section
variable {P:Program} {l:List Oper} {i k:Nat}
def ZhE (l:List Oper) (listed:Array Bool):Prop:=∀ (j:Nat) o,listed.getD j false=true->l[j]?=some o->∀ e∈o.after,Region.binds .any e=true->listed.getD e.on false=true
theorem ZhE.put {listed:Array Bool} {j:Nat} (hc:ZhE l listed) (hj:j∈Region.ready .any l.toArray listed):ZhE l (listed.setIfInBounds j true):=by
 intro q o hq ho e he hb;obtain ⟨_,o',h2,h3⟩:=mem_ready.1 hj;have hmono:∀ t,listed.getD t false=true->(listed.setIfInBounds j true).getD t false=true:=fun t ht=>by
  by_cases htj:t=j
  ·subst htj;simp only [Array.getD_eq_getD_getElem?,Array.getElem?_setIfInBounds] at ht ⊢
   cases hl:listed[t]? with
   | none=>rw [hl] at ht;cases ht
   | some b =>
    have:t < listed.size:=(Tbl.1 hl).1;simp [this]
  ·rw [getD_set_ne false (Ne.symm htj)];exact ht
 by_cases hqj:q=j
 ·subst hqj;have:o'=o:=by
   rw [List.getElem?_toArray,ho] at h2;injection h2 with h2
   exact h2.symm
  subst this;exact hmono _ (h3 e he hb)
 ·rw [getD_set_ne false (Ne.symm hqj)] at hq;exact hmono _ (hc q o hq ho e he hb)
theorem Zq5 {Q:Exit->Act->World->Prop} (hQ:∀ ex a w,Q ex a w->ex=.normal) (hB:ZoB l.toArray i k=true) :
  ∀ (f:Nat) (listed:Array Bool) (a:Act) (w:World),listed.size=l.length->ZhE l listed->wpAny P .any (addL i k l).toArray Q f listed a w->wpAny P .any l.toArray Q f listed a w:=by
 simp only [ZoB,Tar,bne_iff_ne,ne_eq] at hB;obtain ⟨⟨⟨hsel,hap⟩,hik⟩,h4⟩:=hB;split at h4;rotate_left
 ·cases h4
 rename_i oi ok hoi hok;simp only [Tar] at h4;obtain ⟨h5,h6⟩:=h4;have hrdy:∀ (listed:Array Bool) (j:Nat),j∈Region.ready .any (addL i k l).toArray listed ↔ j∈Region.ready .any l.toArray listed∧(j=k->listed.getD i false=true):=fun listed j=>by
  rw [mem_ready,mem_ready];simp only [List.getElem?_toArray,ZgK];by_cases hj:j=k
  ·subst hj;simp only [if_true,true_implies];constructor
   ·rintro ⟨q1,o,q2,q3⟩
    cases hl:l[j]? with
    | none=>rw [hl] at q2;cases q2
    | some o' =>
     rw [hl] at q2;injection q2 with q2
     subst q2;exact ⟨⟨q1,o',rfl,fun e he hb=>q3 e (by simp [he]) hb⟩,q3 ⟨i,.data⟩ (by simp) rfl⟩
   ·rintro ⟨⟨q1,o,q2,q3⟩,q4⟩;refine ⟨q1,_,by rw [q2];rfl,fun e he hb=>?_⟩;rcases Array.mem_push.1 he with he | he
    ·exact q3 e he hb
    ·subst he;exact q4
  ·simp [hj]
 have hun:∀ (listed:Array Bool),listed.size=l.length->ZhE l listed->k∈Region.ready .any l.toArray listed->i∈Region.ready .any l.toArray listed∨listed.getD i false=true:=fun listed hs hcl hk=>by
  by_cases h:listed.getD i false=true
  ·exact .inr h
  ·left;rw [mem_ready] at hk ⊢;obtain ⟨_,o,q2,q3⟩:=hk;have:o=ok:=by rw [hok] at q2;injection q2 with q2;exact q2.symm
   subst this;have hlt:i < l.length:=by have:=(Tbl.1 hoi).1;simpa using this
   refine ⟨?_,oi,hoi,fun e he hb=>?_⟩
   ·have hl:i < listed.size:=om;rw [Zbw hl];simpa using h
   ·have:=Array.all_eq_true_iff_forall_mem.1 h6 e he;simp only [hb,Bool.not_true,Bool.false_or,List.contains_eq_mem,decide_eq_true_eq,ZAV,List.mem_flatMap,List.mem_filter,Tbg] at this;obtain ⟨e',⟨r1,r2⟩,r3⟩:=this;have hl':=q3 e' (Array.mem_toList_iff.1 r1) r2;rcases r3 with r3 | r3
    ·rw [r3];exact hl'
    ·cases ho':l.toArray[e'.on]? with
     | none=>rw [ho'] at r3;simp at r3
     | some o' =>
      rw [ho'] at r3;simp only [Tbi,List.mem_filter] at r3;obtain ⟨e2,⟨r4,r5⟩,r6⟩:=r3;rw [<- r6];exact hcl e'.on o' hl' (by simpa using ho') e2 (Array.mem_toList_iff.1 r4) r5
 intro f
 induction f with
 | zero =>
  intro listed a w hs hcl h;refine ⟨?_,h.2⟩;by_cases hk:k∈Region.ready .any l.toArray listed
  ·rcases hun listed hs hcl hk with h1 | h1
   ·have:=(hrdy listed i).2 ⟨h1,fun e=>absurd e hik⟩;rw [h.1] at this
    cases this
   ·have:=(hrdy listed k).2 ⟨hk,fun _=>h1⟩;rw [h.1] at this
    cases this
  ·refine List.eq_nil_iff_forall_not_mem.2 fun j hj=>?_;have:=(hrdy listed j).2 ⟨hj,fun e=>absurd (e ▸ hj) hk⟩;rw [h.1] at this
   cases this
 | succ f ih =>
  intro listed a w hs hcl h;by_cases hi:i∈Region.ready .any l.toArray listed
  ·have h1:=h.2 i ((hrdy listed i).2 ⟨hi,fun e=>absurd e hik⟩);rw [Zg7] at h1;have h1':∃ v,Yields P l.toArray oi v a∧wpAny P .any (addL i k l).toArray Q f (listed.setIfInBounds i true) (a.put oi.dst v) w:=by
    unfold wpOp at h1;simp only [hoi] at h1;split at h5;rotate_left
    ·cases h5
    rename_i d x y z ty pos af;have hw:Region.wanted ⟨some d,.pick x y z,ty,pos,af,none⟩ (yielded l.toArray a.tmps)=true:=by simp [Region.wanted]
    rw [if_pos hw] at h1;rcases h1 with h1 | ⟨_,b,w',h1⟩
    rotate_left
    ·have:=hQ _ _ _ h1;cases this
    unfold Oper.wp at h1
    cases hx:a.eval x with
    | bool b =>
     have hrun:∀ w',(execOp a.eval ⟨some d,.pick x y z,ty,pos,af,none⟩).run P w'=.ok (.value (if b then a.eval y else a.eval z)) w':=fun w'=>by
      cases b <;> simp [execOp,hx,asBool]
     rw [hrun,Oper.upon_value] at h1;exact ⟨_,.inl ⟨hw,hrun⟩,h1⟩
    | _=>simp [execOp,hx,asBool,stuck,Oper.upon,Result.andThen] at h1
   obtain ⟨v,hv,h2⟩:=h1';refine wpAny_first (oi:=oi) (v:=v) hoi (fun j oj cs b hj hsl=>?_) (fun c a w hq=>?_) f listed a w (fun j oj hj hne hl hno=>?_) hi hv (ih _ _ _ (by simpa using hs) (hcl.put hi) h2)
   ·have:=List.all_eq_true.1 hsel oj (Tac (by simpa using hj));rw [hsl] at this
    cases this
   ·have:=hQ _ _ _ hq;cases this
   ·have hjs:=(Tbl.1 hj).1;have:=List.all_eq_true.1 hap j (List.mem_range.2 hjs);simp only [hoi,hj,Bool.or_eq_true,beq_iff_eq,List.any_eq_true,Array.any_eq_true',Tar] at this;rcases this with h1 | h1 | h1 | h1
    ·exact absurd h1 hne
    ·obtain ⟨ed,h2,h3,h4⟩:=h1;obtain ⟨_,o,q2,q3⟩:=mem_ready.1 hi;rw [hoi] at q2;injection q2 with q2
     subst q2;have q4:=q3 ed h2 h3;rw [h4,<- Zbw (by simpa [hs] using hjs)] at q4;rw [hl] at q4
     cases q4
    ·obtain ⟨ed,h2,h3,h4⟩:=h1;exact absurd h4 (hno ed h2 h3)
    ·exact h1
  ·refine ⟨fun h0=>h.1 ?_,fun j hj=>?_⟩
   ·refine List.eq_nil_iff_forall_not_mem.2 fun j hj=>?_;have:=((hrdy listed j).1 hj).1;rw [h0] at this
    cases this
   ·have hj':j∈Region.ready .any (addL i k l).toArray listed:=(hrdy listed j).2 ⟨hj,fun e=>by
     subst e;rcases hun listed hs hcl hj with h1 | h1
     ·exact absurd h1 hi
     ·exact h1⟩
    have h1:=h.2 j hj';rw [Zg7] at h1;exact wpOp_mono (fun a w h=>ih _ a w (by simpa using hs) (hcl.put hj) h) h1
end
section
variable {e:Env} {K:St->Prop} {mask:Nat} {Q:PX->St->Prop} {s:List (Nat × A)} {m:List (Nat × Bk)}
theorem Zq6 {l:List Oper} {i k:Nat} {σ:St} (hB:ZoB l.toArray i k=true) (h:ZcM e (addL i k l).toArray K l.length (Array.replicate l.length false) σ):ZcM e l.toArray K l.length (Array.replicate l.length false) σ:=by
 intro he U w0 S0 nt a w hd hs;refine Zq5 (fun ex a w hq=>hq.1) hB _ _ _ _ (by simp) (fun j o hj=>by rw [getD_replicate_false] at hj;cases hj) (h he U w0 S0 nt a w (fun o ho d hdd=>?_) hs);have:some d∈(addL i k l).map (·.dst):=Tbi.2 ⟨o,by simpa using ho,hdd⟩;rw [ZkU] at this;obtain ⟨o',h1,h2⟩:=Tbi.1 this;exact hd o' (by simpa using h1) d h2
theorem Zma (he:e.Ok) {U:Nat->Prop} {w0:World} {S0:Nat->Prop} {nt:Nat} {ops:Array Oper} {n:Nat} (hB:regB ops n=true) (hna:∀ o,(ops.toList.take n).getLast?=some o->isAl o=false) {Q:Exit->Act->World->Prop} (hQ:∀ a w σ',K σ'->SimE e U w0 S0 nt σ' a w->Q .normal a w) {σ:St} {a:Act} {w:World}
  (hd:∀ o∈ops.toList,∀ d,o.dst=some d->d < nt) (h:SimE e U w0 S0 nt σ a w) (hp:Runs e (ops.toList.map (·.dst)) n ops.toList σ K):wpAny e.P .any ops Q ops.size (Array.replicate ops.size false) a w:=by
 simp only [regB,Tar,Bool.or_eq_true,decide_eq_true_eq] at hB;obtain ⟨⟨⟨hH,hn⟩,hs⟩,hsq⟩:=hB;obtain ⟨S,L,h1⟩:=h;have hsplit:ops.toList=ops.toList.take n++ops.toList.drop n:=(Tbm n _).symm;have hlen:(ops.toList.take n).length=n:=by simp;omega
 have hp':Runs e (ops.toList.map (·.dst)) ((ops.toList.take n).length+0) (ops.toList.take n++ops.toList.drop n) σ K:=by rw [<- hsplit,hlen];exact hp
 obtain ⟨αs,hal,hch,hrest⟩:=Zef (U:=U) he w0.heap.size S0 ops.toList (ops.toList.drop n) 0 (ops.toList.take n) σ (fun _=>hna) hp';rw [hlen] at hal
 have inv0:InvA e U w0 S0 nt σ.m ops n σ.s αs L (Array.replicate ops.size false) a w S :=
  ⟨⟨by simp,fun j oj _ hl=>(by rw [getD_replicate_false] at hl;cases hl),fun t _ ht=>getD_in (by simpa using ht) (getD_replicate_false _ _)⟩,h1.size,h1.defers,h1.cls,h1.kept,fun t _=>h1.rel t,fun i o d α _ hl=>(by rw [getD_replicate_false] at hl;cases hl)⟩
 have H:=Zdm (e:=e) (L:=L) (Q:=Q) he hH hn (fun hlt=>by
   rcases hs with hs | hs
   ·omega
   ·exact hs) hsq (fun i o d hi ho hdd=>hd o (List.mem_iff_getElem?.2 ⟨i,by simpa using ho⟩) d hdd) hal hch (Zhc hH Q) (fun _ _ _ _ _ _ _ _ _ _ _ _ _ _=>trivial) (fun listed a' w' S' hI _ hall=>?_) n _ a _ S inv0 trivial ?_
 ·rw [show n+(ops.size - n)=ops.size by omega] at H;exact H
 ·have hsim:SimE e U w0 S0 nt ⟨after σ.s (ops.toList.take n) αs,σ.m⟩ a' w':=by
   refine ⟨S',L,hI.cls,fun t=>?_,hI.size,hI.defers,hI.kept⟩;by_cases hex:∃ (j:Nat) (p:Oper),j < n∧ops[j]?=some p∧p.dst=some t
   ·obtain ⟨j,p,hj,hp,hpt⟩:=hex;obtain ⟨p',d',hP⟩:=Zcx.get hH hj;have hpp:p'=p:=by have:=hP.op;rw [hp] at this;injection this with this;exact this.symm
    subst hpp;have hdt:d'=t:=by have:=hP.dst;rw [hpt] at this;injection this with this;exact this.symm
    subst hdt;obtain ⟨α,hα⟩:∃ α,αs[j]?=some α:=⟨αs[j],Taa om⟩;show ARel w' S' L (gs (after σ.s (ops.toList.take n) αs) d') _;rw [ZdV (ops.toList.take n) αs σ.s j p' α (by rw [List.getElem?_take,if_pos hj];simpa using hp) hα hpt (fun k q hk hq=>by
     rw [List.getElem?_take] at hq;split at hq
     ·exact (hP.dep k q om (by simpa using hq)).1 hk
     ·cases hq)]
    exact hI.done j p' d' α hj (hall j hj) hp hpt hα
   ·have hno:∀ (j:Nat) (p:Oper),j < n->ops[j]?=some p->p.dst≠some t:=fun j p hj hp hd=>hex ⟨j,p,hj,hp,hd⟩;show ARel w' S' L (gs (after σ.s (ops.toList.take n) αs) t) _;rw [Zc5 _ _ _ (fun p hp=>by
     obtain ⟨j,hj⟩:=List.mem_iff_getElem?.1 hp;rw [List.getElem?_take] at hj;split at hj
     ·exact hno j p om (by simpa using hj)
     ·cases hj)]
    exact hI.out t hno
  have:=ZmB he ops.toList hQ (ops.toList.drop n) _ a' w' (fun o ho=>hd o (List.mem_of_mem_drop ho)) hsim hrest;simpa using this
 ·rw [List.countP_eq_length.2]
  ·simp
  ·intro i hi;have hi':=List.mem_range.1 hi;have hsz:i < (Array.replicate ops.size false).size:=by simp;omega
   rw [Zbw hsz,getD_replicate_false];rfl
theorem ZtV {l:List Oper} {n:Nat} {σ:St} (hB:regB l.toArray n=true) (hna:∀ o,(l.take n).getLast?=some o->isAl o=false) (hp:Runs e (l.map (·.dst)) n l σ K):ZcM e l.toArray K l.length (Array.replicate l.length false) σ:=by
 intro he U w0 S0 nt a w hd hs;have:=Zma (ops:=l.toArray) (n:=n) he hB (by simpa using hna) (K:=K) (Q:=QN e U w0 S0 nt K) (fun a w σ' hK hs'=>⟨rfl,σ',hK,hs'⟩) hd hs (by simpa using hp);simpa using this
def ZxQ (l:List Oper) (n:Nat):Bool:=match (l.take n).getLast? with
 | some o=>!isAl o
 | none=>true
theorem gLp {id:Nat} {l l':List Oper} {ds:List (Option Nat)} (n i k:Nat) (hK:Runs e ds n l' ⟨s,m⟩ (ZcT mask Q)) (hl:addL i k l=l':=by simp only [addL];exact rfl) (hds:l'.map (·.dst)=ds:=by simp only [Tbt,List.map_nil];exact rfl) (hc:ZoB l.toArray i k=true:=by decide +kernel) (hA:ZxQ l' n=true:=by decide +kernel) (hr:regB l'.toArray n=true:=by decide +kernel):pwp e mask (.region id l.toArray true) ⟨s,m⟩ Q:=by
 subst hl hds;have h1:=Zq6 hc (by have:=ZtV hr (fun o ho=>by unfold ZxQ at hA;rw [ho] at hA;simpa using hA) hK;rwa [ZkT] at this);exact Zji (ops:=l.toArray) (by simpa using h1)
end
end Go.Proofs.YtjoaefnnnbpflaaGreatDoor
namespace Go.Proofs.YtjoaefnnnbpflaaGreatDoor
open Go.RowKit
open Classical in
noncomputable def mk6 (g:Sgn) (o:Opr) (d:Dcl) (op:Int) (xs:List Tm):Tm:=(mkO g o d op xs).getD (if ¬ ArB o d xs.length∧∀ (i:Nat) a,xs[i]?=some a->KArg g o d i a then appT op (srtO o (Zat o op xs)) else zTm)
theorem Zp1 {g:Sgn} {o:Opr} {op:Int} {xs:List Tm} (h:∀ a∈xs,TermOk g a):∀ b∈Zat o op xs,ZaI g b:=by
 intro b hb;obtain ⟨a,h1,h2⟩:=List.mem_flatMap.1 hb;have hf:=(h a h1).form;unfold Zbq at h2;split at h2
 ·exact (Zbd.1 hf).2.1 b h2
 ·split at h2
  ·cases h2
  ·rw [Tbj.1 h2];exact hf
theorem ZnK:∀ (l m:List Tm),sizeTms (l++m)=sizeTms l+sizeTms m
 | [],m=>by simp [sizeTms]
 | x::l,m=>by simp only [Taf,sizeTms,ZnK l m];omega
theorem ZkV {g:Sgn} {o:Opr} {op:Int}:∀ {xs:List Tm},(∀ a∈xs,TermOk g a)->sizeTms (Zat o op xs)<=60 * xs.length
 | [],_=>by simp [Zat,sizeTms]
 | a::xs,h=>by
  have ih:=ZkV (o:=o) (op:=op) (xs:=xs) fun x hx=>h x (Tal _ hx);have ha:=(h a Tas).size;have e:Zat o op (a::xs)=Zbq o op a++Zat o op xs:=rfl;have hz:=Za3 a;have hf:sizeTms (Zbq o op a)<=sizeTm a:=by
   unfold Zbq;split
   ·omega
   ·split
    ·simp [sizeTms]
    ·simp [sizeTms]
  rw [e,ZnK,Tag];omega
theorem ZBB {g:Sgn} {o:Opr} {op:Int} {xs:List Tm} (h:∀ a∈xs,TermOk g a) (hl:xs.length<=1000):tmsB (Zat o op xs):=by
 have h1:=Zim (Zhf.2 (Zp1 (o:=o) (op:=op) h));have h2:=ZkV (o:=o) (op:=op) h;unfold tmsB;omega
theorem ZtW {l m:List Tm} (h:l.Perm m):bulkRows (Zaa l)=bulkRows (Zaa m):=by
 induction h with
 | nil=>rfl
 | cons x h ih=>simp only [Zaa,bulkRows,ih]
 | swap x y l=>simp only [Zaa,bulkRows];omega
 | trans h1 h2 a b=>rw [a,b]
section
variable {g:Sgn}
open Classical in
theorem ZtX (hokg:Zdt g) (hg:SgnOk g) {op:Int} {o:Opr} {d:Dcl} (h0:0<=op) (ho:g.ops[op.toNat]?=some o) (hd:o.decls[0]?=some d) (xs:List Tm) (ha:∀ a∈xs,TermOk g a) (hl:xs.length<=1000):Con e0 93 [.agg (ZaN g),.one (.lit (.int .i64 op)),.one (.sl (Zaa xs))] [.agg (Zab (mk6 g o d op xs)),.one (.lit (.bool (mkO g o d op xs).isSome))]:=by
 have hz:=Zl8;have hfb:=ZBB (o:=o) (op:=op) ha hl;have hfo:Zax (Zat o op xs):=ZxO.2 fun b hb=>ZaI.ok hg _ b (Tan _) (Zp1 ha b hb);have hfs:=ZkV (o:=o) (op:=op) ha;have hax:=hg.axs o (Tac ho);have hlo:=hax.lo;have hhi:=hax.hi;have hln:=hg.len;obtain ⟨d',hd',hr0,hr1,hargs⟩:=hg.first ho;rw [hd] at hd';injection hd' with hd'
 subst hd';have cK:=Zeq hg.sorts;rw [Zbr] at cK;have cUn:=ZlS hg h0 ho;rw [ZaN] at cUn;have cA:=Zfx hd;rw [ZbZ] at cA;have hB:mkO g o d op xs=if ArB o d xs.length then none else if ∀ (i:Nat) a,xs[i]?=some a->KArg g o d i a then mkL o op (Zat o op xs) else none:=rfl
 have hM:mk6 g o d op xs=(mkO g o d op xs).getD (if ¬ ArB o d xs.length∧∀ (i:Nat) a,xs[i]?=some a->KArg g o d i a then appT op (srtO o (Zat o op xs)) else zTm):=rfl;have har2:o.assoc=true->d.args.length=2:=fun h=>by
  obtain ⟨k1,k2,hk,_⟩:=Opr.two hg ho hd (.inl h);rw [hk];rfl
 refine gI (ts:=[.cell 6 39,.slot 7]) 691281634562849416457226259614436229071 Tryz.func93 ?_;refine fN 2 (aj5 @tmz @Zay @h0 @ho @Zan) ?_;refine gB ?_;refine fC @tmz (cK) ?_;refine fR @tmz ?_;refine fN 3 @tmz ?_;refine gM (ι:=Bool) [38] [] (fun b=>[(38,A.d (.one (.lit (.bool b))))]) (fun b=>[]) (fun b=>b=decide (ArB o d xs.length)) ?_ (fun b hb=>Exists.intro _ (ai (Wk.refl _) ?_))
 ·refine gB ?_;refine fC (ai @tmz @Zan) (cA) ?_;by_cases q:xs.length=d.args.length
  ·have q1:((xs.length:Int)=(d.args.length:Int))=True:=eq_true om;have hA:¬ ArB o d xs.length:=fun h=>h.elim (fun h=>by have:=har2 h.1;omega) fun h=>h.2 q;refine fR (ai @q1 @tmz) ?_;have F:=@tmz;refine gG ?_;exact ⟨false,(decide_eq_false hA).symm,gw,gw⟩
  have q1:((xs.length:Int)=(d.args.length:Int))=False:=eq_false om
  cases hac:o.assoc with
  | false =>
   have hA:ArB o d xs.length:=.inr ⟨hac,q⟩;refine fR (aj3 @q1 @hac @tmz) ?_;have F:=@tmz;refine gG ?_;exact ⟨true,(decide_eq_true hA).symm,gw,gw⟩
  | true =>
  by_cases q2:xs.length < 2
  ·have hA:ArB o d xs.length:=.inl ⟨hac,q2⟩;have q3:((2:Int)<=(xs.length:Int))=False:=eq_false om;refine fR (aj4 @q1 @hac @q3 @tmz) ?_;have F:=@tmz;refine gG ?_;exact ⟨true,(decide_eq_true hA).symm,gw,gw⟩
  ·have hA:¬ ArB o d xs.length:=fun h=>h.elim (fun h=>q2 h.2) fun h=>by rw [hac] at h;cases h.1
   have q3:((2:Int)<=(xs.length:Int))=True:=eq_true om;refine fR (aj4 @q1 @hac @q3 @tmz) ?_;have F:=@tmz;refine gG ?_;exact ⟨false,(decide_eq_false hA).symm,gw,gw⟩
 by_cases hAr:ArB o d xs.length
 ·rw [decide_eq_true hAr] at hb;subst hb;rw [if_pos hAr] at hB;rw [hB,if_neg fun h=>h.1 hAr] at hM;rw [hM,hB];exact fD (ai @hz @tmz)
 rw [decide_eq_false hAr] at hb;subst hb;rw [if_neg hAr] at hB;have hnas:o.assoc=false->xs.length=d.args.length:=fun h=>Classical.byContradiction fun c=>hAr (.inr ⟨h,c⟩);have hfl0:Zat o op []=[]:=rfl;refine fN 5 @tmz ?_;refine gB ?_;refine fC @tmz (cUn) ?_;refine fR @tmz ?_;refine fG @tmz ?_;have F:=aj3 @hfl0 @ZbX @tmz;refine gL (ι:=Nat) [7,12,13,14,50,55,73,82,92] [12] (fun i=>[(13,A.d (.one (.lit (.int .i64 i)))),(12,.buf 12)]) (fun i=>[(12,.buf none 39 4 (Zaa (Zat o op (xs.take i))))]) (fun i=>i<=xs.length∧∀ (j:Nat) a,j < i->xs[j]?=some a->KArg g o d j a) (fun i=>xs.length - i) (0) (⟨Taj _,fun j a h=>absurd h om⟩) (fun i hi=>?_);clear F
 obtain ⟨hi,hall⟩:=hi;by_cases hlt:i < xs.length
 ·obtain ⟨a,hai⟩:∃ a,xs[i]?=some a:=⟨_,Taa hlt⟩;have hT:=ha a (Tac hai);have q1:=lT i xs.length;have hw1:=Zau (k:=i) om;obtain ⟨k,hk⟩:=ZgZ hg ho hd hnas hlt;obtain ⟨hk0,hk1⟩:=hargs k (Tac hk);have hkd:=ZgC hg.sorts hk0 hk1;have hkN:d.args[(argAt o i:Nat)]?=some k:=hk;have cKa:=Zf6 hokg hg hT.form.node;rw [ZaN] at cKa;have cU:=Zei (hT.ok hg) (Znz (o:=o) hlo om);have hUiff:o.unit≠0->(Zah a (ZbH o)=0 ↔ a.op=o.unit - 1):=fun hu=>by
   rw [ZeR];constructor
   ·rintro h;rw [h];simp [ZbH,Tm.op,hu]
   ·exact Zja hg ho hu hT.form
  generalize hU:decide (Zah a (ZbH o)=0)=U at cU;have hst:=Zkr (o:=o) (op:=op) hai;have hle:=Zg1 o op xs (i+1);rw [hst,Tae] at hle;have hfl:=ZbB (Zat o op xs);have hnext:ZaO g a=((kd g.sorts k:Nat):Int)->i+1<=xs.length∧∀ (j:Nat) a,j < i+1->xs[j]?=some a->KArg g o d j a:=fun hkk=>⟨hlt,fun j a' hj ha'=>by
   by_cases e:j=i
   ·subst e;rw [hai] at ha';injection ha' with ha'
    subst ha';exact ⟨k,hk,hkk⟩
   ·exact hall j a' om ha'⟩
  refine fG (ai @q1 @tmz) ?_;refine gM (ι:=Unit) [14] [] (fun u=>[(14,A.d (.one (.lit (.int .i64 (argAt o i:Nat)))))]) (fun u=>[]) (fun u=>True) ?_ (fun u hu=>Exists.intro _ (ai (Wk.refl _) ?_))
  ·rcases Bool.eq_false_or_eq_true o.assoc with hac | hac
   ·have F:=aj3 @Zan @hac @ZjS;refine gG ?_;exact ⟨(),trivial,gw,gw⟩
   ·have F:=aj4 @Zan @hac @ZjS @if_false.{1};refine gG ?_;exact ⟨(),trivial,gw,gw⟩
  refine fN 13 @tmz ?_;refine gB ?_;refine fC (ai @hai @tmz) (cKa) ?_;by_cases hkk:ZaO g a=((kd g.sorts k:Nat):Int);rotate_left
  ·have hno:¬ ∀ (i:Nat) a,xs[i]?=some a->KArg g o d i a:=fun h=>by
    obtain ⟨k',hk',he⟩:=h i a hai;rw [hk] at hk';injection hk' with hk'
    subst hk';exact hkk he
   rw [if_neg hno] at hB;rw [hB,if_neg fun h=>hno h.2] at hM;rw [hM,hB];refine fR (aj9 @tmz @Zan @hd @ZaV @hkN @hk0 @hkd @Zbf @hkk) ?_;exact fD (ai @hz @tmz)
  have hnext:=hnext hkk;have l1:ZaA 4 (Zaa (Zat o op (xs.take i)))=true:=ZdJ _;have l5:ZaA 4 (Zaa a.args)=true:=ZdJ _;refine fR (aj9 @tmz @Zan @hd @ZaV @hkN @hk0 @hkd @Zbf @hkk) ?_;refine fN 16 @tmz ?_;refine gM (ι:=Bool) [82] [] (fun b=>[(82,A.d (.one (.lit (.bool b))))]) (fun b=>[]) (fun b=>b=decide (o.unit≠0∧a.op=o.unit - 1)) ?_ (fun b hb=>Exists.intro _ (ai (Wk.refl _) ?_))
  ·by_cases hu:o.unit=0
   ·have F:=ai @hu @tmz;refine gG ?_;exact ⟨false,(decide_eq_false fun h=>h.1 hu).symm,gw,gw⟩
   ·refine gB ?_;refine fC (aj3 @hu @hai @tmz) (cU) ?_;refine fR @tmz ?_;have e:U=decide (o.unit≠0∧a.op=o.unit - 1):=by
     rw [<- hU];exact decide_eq_decide.2 ⟨fun h=>⟨hu,(hUiff hu).1 h⟩,fun h=>(hUiff hu).2 h.2⟩
    have F:=ai @hu @tmz;refine gG ?_;exact ⟨U,e,gw,gw⟩
  by_cases hUn:o.unit≠0∧a.op=o.unit - 1
  ·rw [decide_eq_true hUn] at hb;subst hb;have hN:¬ (o.assoc=true∧a.op=op):=fun h=>by
    have e:(ZbH o).args=[]:=by unfold ZbH;rfl
    have e2:=Zja hg ho hUn.1 hT.form hUn.2;obtain ⟨o',d',hA⟩:=hT.form.node.app om;have:o'=o:=by have:=hA.at';rw [h.2,ho] at this;injection this with this;exact this.symm
    subst this;have:=(hA.asc h.1).1;rw [e2,e] at this;simp at this
   have e:Zbq o op a=[]:=by unfold Zbq;rw [if_neg hN,if_pos hUn]
   rw [e,List.append_nil] at hst;rw [<- hst];have F:=ai @tmz @hw1;refine gG ?_;exact ⟨i+1,hnext,gw,gw,om⟩
  rw [decide_eq_false hUn] at hb;subst hb;by_cases hN:o.assoc=true∧a.op=op
  ·have e:Zbq o op a=a.args:=by unfold Zbq;rw [if_pos hN]
   rw [e] at hst hle;have l3:((Zat o op (xs.take i)).length+a.args.length<=maxApp)=True:=eq_true (by unfold maxApp;omega);have l4:Zaa (Zat o op (xs.take i))++Zaa a.args=Zaa (Zat o op (xs.take (i+1))):=by rw [hst,Zb6]
   obtain ⟨hN1,hN2⟩:=hN;have q2:(a.op=op)=True:=eq_true hN2;have F:=aj10 @tmz @hai @Zan @hN1 @q2 @l1 @l5 @l3 @l4 @hw1;refine gG ?_;exact ⟨i+1,hnext,gw,gw,om⟩
  ·have e:Zbq o op a=[a]:=by unfold Zbq;rw [if_neg hN,if_neg hUn]
   rw [e] at hst hle;have l3:((Zat o op (xs.take i)).length+1<=maxApp)=True:=eq_true (by simp only [Tag,Tak] at hle;unfold maxApp;omega);have l4:Zaa (Zat o op (xs.take i))++[Zab a]=Zaa (Zat o op (xs.take (i+1))):=by rw [hst,Zb6,Ze9]
   rcases Bool.eq_false_or_eq_true o.assoc with hac | hac
   ·have hq:(a.op=op)=False:=eq_false fun h=>hN ⟨hac,h⟩;have F:=aj9 @tmz @hai @Zan @hac @hq @l1 @l3 @l4 @hw1;refine gG ?_;exact ⟨i+1,hnext,gw,gw,om⟩
   ·have F:=aj8 @tmz @hai @Zan @hac @l1 @l3 @l4 @hw1;refine gG ?_;exact ⟨i+1,hnext,gw,gw,om⟩
 ·obtain rfl:i=xs.length:=by omega
  have q1:=lF xs.length xs.length;rw [Tap];have hAll:∀ (i:Nat) a,xs[i]?=some a->KArg g o d i a:=fun j a h=>hall j a (Tad.1 h).1 h;rw [if_pos hAll] at hB;rw [hB,if_pos ⟨hAr,hAll⟩] at hM;rw [hM,hB];clear hM hB hall hAll hnas;generalize hL:Zat o op xs=L at hfb hfo hfs ⊢;have hLb:L.length+bulkRows (Zaa L)<=1048576:=hfb;refine fN 19 (ai @q1 @tmz) ?_;refine pS 12 fun a cap=>?_;refine pD 12 [12] [] ?_;by_cases hu:o.unit≠0∧L.length < 2
  ·have e:mkL o op L=some (L.headD (ZbH o)):=by unfold mkL;rw [if_pos hu]
   rw [e];obtain ⟨hu1,hu2⟩:=hu;have q2:(o.unit=0)=False:=eq_false hu1
   cases L with
   | nil =>
    have z2:(((0:Nat):Int)=0)=True:=eq_true om;exact fD (aj5 @q1 @Zan @q2 @z2 @tmz)
   | cons b bs =>
    have hbs:bs=[]:=Tao (by simp only [Tag] at hu2;omega);subst hbs;have hbb:bulkRow (Zab b)<=1048576:=by simp only [Zaa,bulkRows] at hLb;omega
    have z1:(((0+1:Nat):Int)=0)=False:=eq_false om;have z2:(((0+1:Nat):Int)=1)=True:=eq_true om;have z3:(((1:Nat):Int)=0)=False:=eq_false om;have z4:(((1:Nat):Int)=1)=True:=eq_true om;have q5:([b]:List Tm)[0]?=some b:=rfl;have z5:(0 < 0+1)=True:=eq_true om;have z6:((0:Nat) < 1)=True:=eq_true om;have z7:Int.toNat 0=0:=rfl;refine fN 22 (aj12 @q1 @Zan @q2 @z1 @z2 @z3 @z4 @z5 @z6 @z7 @q5 @tmz) ?_;refine gB ?_
    refine fC (aj5 @z5 @z6 @z7 @q5 @tmz) (Zf9 b hbb) ?_;refine fR @tmz ?_;exact fD @tmz
  ·have hml:mkL o op L=if BigT o op (srtO o L) then none else some (appT op (srtO o L)):=by unfold mkL;rw [if_neg hu]
   rw [hml];clear hml cUn cK cA;have hSl:=ZkN o L;have hSp:=Zd9 o L;have sz1:=ZgI hSp;have dz1:=ZfP hSp;have sl1:=ZbB L;have cSo:=Zp0 L hfo hfb;refine gM (ι:=Unit) [116] [] (fun v=>[(116,A.d (.one (.lit (.bool false))))]) (fun v=>[]) (fun v=>True) ?_ (fun v hv=>Exists.intro _ (ai (Wk.refl _) ?_))
   ·by_cases hu0:o.unit=0
    ·have q2:(o.unit=0)=True:=eq_true hu0;have F:=ai @q2 @tmz;refine gG ?_;exact ⟨(),trivial,gw,gw⟩
    ·have q2:(o.unit=0)=False:=eq_false hu0;have q3:((L.length:Int)=0)=False:=eq_false fun h=>hu ⟨hu0,om⟩;have F:=aj3 @q2 @q3 @tmz;refine gG ?_;exact ⟨(),trivial,gw,gw⟩
   refine fN 21 @tmz ?_;refine gM (ι:=Unit) [123] [] (fun v=>[(123,A.d (.one (.lit (.bool false))))]) (fun v=>[]) (fun v=>True) ?_ (fun v hv=>Exists.intro _ (ai (Wk.refl _) ?_))
   ·by_cases hu0:o.unit=0
    ·have q2:(o.unit=0)=True:=eq_true hu0;have F:=ai @q2 @tmz;refine gG ?_;exact ⟨(),trivial,gw,gw⟩
    ·have q2:(o.unit=0)=False:=eq_false hu0;have q3:((L.length:Int)=1)=False:=eq_false fun h=>hu ⟨hu0,om⟩;have F:=aj3 @q2 @q3 @tmz;refine gG ?_;exact ⟨(),trivial,gw,gw⟩
   refine fN 23 @tmz ?_;refine gB ?_;refine fR (ai @Zan @tmz) ?_;refine gM (ι:=Unit) [12] [] (fun v=>[(12,.d (.one (.sl (Zaa (srtO o L)))))]) (fun v=>[]) (fun v=>True) ?_ (fun v hv=>Exists.intro _ (ai (Wk.refl _) ?_))
   ·cases hcm:o.comm with
    | true =>
     rw [show srtO o L=Zaw L by unfold srtO;rw [if_pos hcm]];refine fN 24 (ai @hcm @tmz) ?_;refine gB ?_;refine fC @tmz (cSo) ?_;refine fR @tmz ?_;have F:=@tmz;refine gG ?_;exact ⟨(),trivial,gw,gw⟩
    | false =>
     rw [show srtO o L=L by unfold srtO;rw [if_neg (by rw [hcm];simp)]];have F:=ai @hcm @tmz;refine gG ?_;exact ⟨(),trivial,gw,gw⟩
   have hSB:tmsB (srtO o L):=by
    unfold tmsB at hfb ⊢;rw [ZtW hSp,hSl];exact hfb
   generalize srtO o L=S at hSl sz1 dz1 hSB ⊢;have em:Zab (appT op S)=[.lit (.int .i64 op),.lit (.string ByteArray.empty),.lit (.int .i64 0),.sl (Zaa S)]:=by simp only [appT,Zab]
   have zs:sizeTm (appT op S)=1+sizeTms S:=by rw [Za3];rfl
   have c1:=Zhj (t:=appT op S) (by unfold big;omega);rw [em] at c1;refine fN 25 @tmz ?_;refine gB ?_;refine fC @tmz (Zjn S hSB) ?_;refine fR @tmz ?_;refine fN 26 @tmz ?_;by_cases h7:o.assoc=true∧7 < S.length
   ·rw [if_pos (show BigT o op S from .inl h7)];obtain ⟨hac,h7⟩:=h7;have q2:((S.length:Int)<=7)=False:=eq_false om;refine gLp 13 12 13 ?_;refine fR (aj3 @hac @q2 @tmz) ?_;exact fD (aj3 @hz @em @tmz)
   have hac:o.assoc=true->((S.length:Int)<=7)=True:=fun h=>eq_true (Int.not_lt.1 fun q=>h7 ⟨h,om⟩);have hres:(if BigT o op S then none else some (appT op S)).isSome=decide (sizeTm (appT op S)<=60∧depthTm (appT op S)<=20):=by
    by_cases hbg:BigT o op S
    ·rw [if_pos hbg];refine (decide_eq_false fun h=>?_).symm;rcases hbg with h | h | h
     ·exact h7 h
     ·omega
     ·omega
    ·rw [if_neg hbg];refine (decide_eq_true ⟨?_,?_⟩).symm
     ·exact Nat.not_lt.1 fun h=>hbg (.inr (.inl h))
     ·exact Nat.not_lt.1 fun h=>hbg (.inr (.inr h))
   have hgd:(if BigT o op S then none else some (appT op S)).getD (appT op S)=appT op S:=by
    split <;> rfl
   rw [hres,hgd,em];rcases Bool.eq_false_or_eq_true o.assoc with ha' | ha'
   ·have q2:=hac ha';refine gLp 13 12 13 ?_;refine fC (aj3 @ha' @q2 @tmz) (c1) ?_;refine fR @tmz ?_;exact fD @tmz
   ·refine gLp 13 12 13 ?_;refine fC (ai @ha' @tmz) (c1) ?_;refine fR @tmz ?_;exact fD @tmz
end
end Go.Proofs.YtjoaefnnnbpflaaGreatDoor
namespace Go.Proofs.YtjoaefnnnbpflaaGreatDoor
open Go.RowKit
def Env.plus (e:Env) (E2:Nat->Prop) (G2:World->Prop):Env:=⟨e.P,fun b=>e.E b∨E2 b,fun w=>e.G w∧G2 w,e.D⟩
structure Fits (e:Env) (E2:Nat->Prop) (G2:World->Prop):Prop where
 st:Zdl E2 G2
 dj:∀ w,G2 w->∀ b,E2 b->¬ e.E b
section
variable {e:Env} {E2:Nat->Prop} {G2:World->Prop}
theorem Fits.ok (h:Fits e E2 G2) (he:e.Ok):(e.plus E2 G2).Ok:=⟨fun w w' hz hb ⟨h1,h2⟩=>⟨he.keep w w' hz (fun b hb'=>hb b (.inl hb')) h1,h.st w w' hz (fun b hb'=>hb b (.inr hb')) h2⟩,he.mixed⟩
theorem Kept.up {D:Prop} {E E':Nat->Prop} {B:Nat} {w w':World} (h:Kept D E B w w') (hE:∀ b,E b->E' b):Kept D E' B w w':=⟨h.os,h.tape,h.output,h.drawn,h.size,fun k hk hn=>h.block k hk fun q=>hn (hE k q)⟩
theorem Fits.keep (h:Fits e E2 G2) {E:Nat->Prop} {w w':World} (hk:Kept e.D E w.heap.size w w') (hE:∀ b,(e.plus E2 G2).E b->b < w.heap.size) (hG:G2 w) (hn:∀ b,E2 b->¬ E b):G2 w':=h.st w w' hk.size (fun b hb=>hk.block b (hE b (.inr hb)) (hn b hb)) hG
theorem Con.up (h2:Fits e E2 G2) {f:FuncId} {args r:List D} (h:Con e f args r):Con (e.plus E2 G2) f args r :=
 ⟨h.1,fun w S vs hS hE hG hvs=>(h.2 w S vs (fun b hb=>⟨(hS b hb).1,fun q=>(hS b hb).2 (.inl q)⟩) (fun b hb=>hE b (.inl hb)) hG.1 hvs).mono fun en w' ⟨v,h1,hk,hg,ha⟩=>⟨v,h1,hk.up fun _=>.inl,⟨hg,h2.keep hk hE hG.2 (h2.dj w hG.2)⟩,ha⟩⟩
theorem ConE.up (h2:Fits e E2 G2) {f:FuncId} {args:List D} {R:List D->Prop} (h:ConE e f args R):ConE (e.plus E2 G2) f args R :=
 ⟨h.1,fun w S vs hS hE hG hvs=>(h.2 w S vs (fun b hb=>⟨(hS b hb).1,fun q=>(hS b hb).2 (.inl q)⟩) (fun b hb=>hE b (.inl hb)) hG.1 hvs).mono fun en w' ⟨v,r,h1,hr,hk,hg,ha⟩=>⟨v,r,h1,hr,hk.up fun _=>.inl,⟨hg,h2.keep hk hE hG.2 (h2.dj w hG.2)⟩,ha⟩⟩
theorem ConR.up (h2:Fits e E2 G2) {f:FuncId} {args:List D} {ty sz:Nat} {rows:List (List C)} (h:ConR e f args ty sz rows):ConR (e.plus E2 G2) f args ty sz rows :=
 ⟨h.1,fun w S vs hS hE hG hvs=>(h.2 w S vs (fun b hb=>⟨(hS b hb).1,fun q=>(hS b hb).2 (.inl q)⟩) (fun b hb=>hE b (.inl hb)) hG.1 hvs).mono fun en w' ⟨v,h1,hk,hg,ha⟩=>⟨v,h1,hk.up fun _=>.inl,⟨hg,h2.keep hk hE hG.2 (h2.dj w hG.2)⟩,ha⟩⟩
theorem ConI.up (h2:Fits e E2 G2) {f:FuncId} {ty sz:Nat} {rows rows':List (List C)} {args r:List D} (h:ConI e f ty sz rows args rows' r):ConI (e.plus E2 G2) f ty sz rows args rows' r :=
 ⟨h.1,fun w S v0 vs hS hE h0 hG hb hvs=>(h.2 w S v0 vs (fun b hb=>⟨(hS b hb).1,fun q=>(hS b hb).2 (.inl q)⟩) (fun b hb=>hE b (.inl hb)) (fun g hg q=>h0 g hg (.inl q)) hG.1 hb hvs).mono fun en w' ⟨v,h1,hk,hg,ha⟩=>⟨v,h1,hk.up fun _ q=>q.elim (fun q=>.inl (.inl q)) .inr,⟨hg,h2.keep hk hE hG.2 fun b hb q=>q.elim (h2.dj w hG.2 b hb) fun q=>h0 b q (.inr hb)⟩,ha⟩⟩
theorem ConT.up (h2:Fits e E2 G2) {f:FuncId} {ty sz:Nat} {rows rows':List (List C)} {args:List D} (h:ConT e f ty sz rows args rows'):ConT (e.plus E2 G2) f ty sz rows args rows' :=
 ⟨h.1,fun w S v0 vs hS hE h0 hG hb hvs=>(h.2 w S v0 vs (fun b hb=>⟨(hS b hb).1,fun q=>(hS b hb).2 (.inl q)⟩) (fun b hb=>hE b (.inl hb)) (fun g hg q=>h0 g hg (.inl q)) hG.1 hb hvs).mono fun en w' ⟨v,h1,hk,hg,ha⟩=>⟨v,h1,hk.up fun _ q=>q.elim (fun q=>.inl (.inl q)) .inr,⟨hg,h2.keep hk hE hG.2 fun b hb q=>q.elim (h2.dj w hG.2 b hb) fun q=>h0 b q (.inr hb)⟩,ha⟩⟩
theorem ConP.up (h2:Fits e E2 G2) {f:FuncId} {args:List D} {pm:List Bk} {R:List D->List Bk->Prop} (h:ConP e f args pm R):ConP (e.plus E2 G2) f args pm R :=
 ⟨h.1,fun w S vs hS hE hG hpm hap hvs=>(h.2 w S vs (fun b hb=>⟨(hS b hb).1,fun q=>(hS b hb).2 (.inl q)⟩) (fun b hb=>hE b (.inl hb)) hG.1 (fun x hx=>⟨(hpm x hx).1,fun g hg q=>(hpm x hx).2 g hg (.inl q)⟩) hap hvs).mono fun en w' ⟨v,r,pm',h1,hr,hk,hg,ha⟩=>⟨v,r,pm',h1,hr,hk.up fun _ q=>q.elim (fun q=>.inl (.inl q)) .inr,⟨hg,h2.keep hk hE hG.2 fun b hb q=>q.elim (h2.dj w hG.2 b hb) fun ⟨x,hx,hxg⟩=>(hpm x hx).2 b hxg (.inr hb)⟩,ha⟩⟩
end
mutual
theorem ZnM:∀ t:Tm,sizeTm t<=bulkRow (Zab t)+1
 | .mk _ _ _ args=>by
  have:=Zmb args;simp only [sizeTm,Zab,bulkRow,Za6];omega
theorem Zmb:∀ ts:List Tm,sizeTms ts<=(Zaa ts).length+bulkRows (Zaa ts)
 | []=>by simp [sizeTms]
 | t::ts=>by
  have h1:=ZnM t;have h2:=Zmb ts;simp only [sizeTms,Zaa,Tag,bulkRows];omega
end
theorem Zhn {t:Tm} (h:bulkRow (Zab t)<=1048576):sizeTm t<=big:=by
 have:=ZnM t;unfold big;omega
theorem ZgL (a b:List C):bulkRow (a++b)=bulkRow a+bulkRow b:=by
 induction a with
 | nil=>simp [bulkRow]
 | cons x xs ih=>simp only [Taf,bulkRow,ih];omega
def mkV (k:Int):Value->Value
 | .int i _=>.int i k
 | .string _=>.string (txt k)
 | .bool _=>.bool (k % 3==0)
 | v=>v
mutual
def mkC:Int->C->C
 | k,.lit v=>.lit (mkV k v)
 | k,.sl rows=>.sl (Zak k rows)
 | _,.ptr cs=>.ptr cs
 | _,.fn f cs=>.fn f cs
def ZcZ:Int->List C->List C
 | _,[]=>[]
 | k,c::cs=>mkC k c::ZcZ (k+cntC c) cs
def Zak:Int->List (List C)->List (List C)
 | _,[]=>[]
 | k,r::rs=>ZcZ k r::Zak (k+ZcG r) rs
def cntC:C->Nat
 | .lit _=>1
 | .sl rows=>cntRows rows
 | .ptr _=>0
 | .fn _ _=>0
def ZcG:List C->Nat
 | []=>0
 | c::cs=>cntC c+ZcG cs
def cntRows:List (List C)->Nat
 | []=>0
 | r::rs=>ZcG r+cntRows rs
end
theorem ZnN:∀ (k:Int) (cs:List C),(ZcZ k cs).length=cs.length
 | _,[]=>by simp [ZcZ]
 | k,c::cs=>by simp [ZcZ,ZnN _ cs]
theorem Zin:∀ (k:Int) (rs:List (List C)),(Zak k rs).length=rs.length
 | _,[]=>by simp [Zak]
 | k,c::cs=>by simp [Zak,Zin _ cs]
theorem Zdp:∀ (rs:List (List C)) (r:List C),cntRows (rs++[r])=cntRows rs+ZcG r
 | [],r=>by simp [cntRows]
 | q::rs,r=>by simp [cntRows,Zdp rs r];omega
theorem Zc2:∀ (rs:List (List C)) (r:List C) (k:Int),Zak k (rs++[r])=Zak k rs++[ZcZ (k+cntRows rs) r]
 | [],r,k=>by simp [Zak,cntRows]
 | q::rs,r,k=>by simp [Zak,cntRows,Zc2 rs r,Int.add_assoc]
theorem Zce {α:Type} {l:List α} {i:Nat} {x:α} (h:l[i]?=some x):l.take (i+1)=l.take i++[x]:=by simp [List.take_add_one,h]
theorem Zck {α:Type} {l:List α} {i:Nat} {x:α} (h:l[i]?=some x):l.drop i=x::l.drop (i+1):=by
 obtain ⟨h1,rfl⟩:=Tad.1 h;exact List.drop_eq_getElem_cons h1
theorem Zcf:∀ (rs:List (List C)) (i:Nat),cntRows (rs.take i)<=cntRows rs
 | [],i=>by simp [cntRows]
 | r::rs,0=>by simp [cntRows]
 | r::rs,i+1=>by have:=Zcf rs i;simp only [Tbc,cntRows];omega
theorem ZBD {x y:Bk} (h:∀ g,pblk x g->¬ pblk y g):Zcw [x,y]:=⟨fun z hz g hg=>by simp at hz;subst hz;exact h g hg,ZdX _⟩
theorem ZgM {E:Nat->Prop} {v:Value}:ZhW (ι:=Option Addr × Nat) [.set E (fun w=>Own w (.sl []) E v)] (fun i=>v=.slice i.1 0 i.2) (fun _=>[.set E (fun w=>Own w (.sl []) E v)]):=fun w S h ha=>by
 obtain ⟨h1,h2,h3⟩:_∧Own w (.sl []) E v∧_:=h (.set E (fun w=>Own w (.sl []) E v)) (by simp);simp only [Own] at h2;obtain ⟨A,n,cap,hv,hn,_⟩:=h2;simp at hn;subst hn;exact ⟨(A,cap),hv,h,ha,fun _ h=>h⟩
theorem Zfj {E:Nat->Prop} {v:Value} {rows:List (List C)} {sz:Nat} (hne:rows≠[]) (hrl:rowsLen sz rows):ZhW (ι:=Option Addr × Nat × Nat × List (List Value) × (Nat->Prop)) [.set E (fun w=>Own w (.sl rows) E v)]
  (fun i=>v=.slice i.1 i.2.2.2.1.length i.2.1∧i.2.2.2.1.length=rows.length∧rows.length<=maxLen) (fun i=>[.buf (some (i.1,i.2.1)) i.2.2.1 sz (i.2.2.2.1.map Zag),.set i.2.2.2.2 (fun w=>Zap w rows i.2.2.2.2 i.2.2.2.1)]):=fun w S h ha=>by
 obtain ⟨h1,h2,h3⟩:(∀ b,E b->b < w.heap.size∧¬ S b)∧Own w (.sl rows) E v∧_:=h (.set E (fun w=>Own w (.sl rows) E v)) (by simp);obtain ⟨A,n,cap,rfl,hn1,hn2,hn3⟩:=(Own.rep _ _ _ h2).form;obtain ⟨uss,ety,E',rfl,k1,k2,k3,k4⟩:=Own.open (T:=S) (fun b hb=>(h1 b hb).2) hne hrl h2;refine ⟨(A,cap,ety,uss,E'),⟨rfl,k2.len,om⟩,fun x hx=>?_,ZBD fun g hg hg2=>?_,fun g ⟨x,hx,hg⟩=>⟨_,Tas,?_⟩⟩
 ·simp only [Tbg,List.not_mem_nil,or_false] at hx;rcases hx with rfl | rfl
  ·show Za5 w S ety sz (uss.map Zag) (.slice A (uss.map Zag).length cap);rw [Tay];exact k1
  ·exact ⟨fun b hb=>h1 b (k3 b hb).1,k2,Zap.stable _ _ _⟩
 ·simp only [pblk,Tay] at hg hg2;exact (k3 g hg2).2 hg
 ·simp only [Tbg,List.not_mem_nil,or_false] at hx;rcases hx with rfl | rfl
  ·simp only [pblk,Tay] at hg;exact k4 g hg
  ·exact (k3 g hg).1
def Zbc:List C->List Value->(Nat->Nat->Prop)->List Bk
 | .sl rows::cs,u::us,Es=>.set (Es 0) (fun w=>Own w (.sl rows) (Es 0) u)::Zbc cs us (fun k=>Es (k+1))
 | .lit _::cs,_::us,Es=>Zbc cs us Es
 | _,_,_=>[]
def Zea:List C->List Value->Prop
 | [],[]=>True
 | .lit x::cs,u::us=>u=x∧Zea cs us
 | .sl _::cs,_::us=>Zea cs us
 | _,_=>False
def ZdS:C->Bool
 | .lit _=>true
 | .sl _=>true
 | _=>false
theorem ZgN {w:World} {S:Nat->Prop}:∀ {cs:List C} {us:List Value} {E:Nat->Prop},cs.all ZdS=true->Zae w cs E us->(∀ b,E b->b < w.heap.size∧¬ S b)->∃ Es,Zea cs us∧(∀ x∈Zbc cs us Es,ZbY w S x)∧Zcw (Zbc cs us Es)∧∀ g,ZaR (Zbc cs us Es) g->E g
 | [],[],E,_,_,_=>⟨fun _ _=>False,trivial,by simp [Zbc],trivial,fun g ⟨x,hx,_⟩=>by simp [Zbc] at hx⟩
 | c::cs,u::us,E,hp,h,hE=>by
  simp only [Zae] at h;obtain ⟨S1,S2,i1,i2,hd,h1,h2⟩:=h;simp only [List.all_cons,Tar] at hp;obtain ⟨Es,k1,k2,k3,k4⟩:=ZgN hp.2 h2 (fun b hb=>hE b (i2 b hb))
  cases c with
  | lit x =>
   simp only [Own] at h1;exact ⟨Es,⟨h1,k1⟩,k2,k3,fun g hg=>i2 g (k4 g hg)⟩
  | sl rows =>
   refine ⟨fun k=>match k with | 0=>S1 | k+1=>Es k,k1,fun x hx=>?_,⟨fun y hy g hg hg2=>hd g hg (k4 g ⟨y,hy,hg2⟩),k3⟩,fun g ⟨x,hx,hg⟩=>?_⟩
   ·simp only [Zbc,Tbg] at hx;rcases hx with rfl | hx
    ·exact ⟨fun b hb=>hE b (i1 b hb),h1,Own.stable _ _ _⟩
    ·exact k2 x hx
   ·simp only [Zbc,Tbg] at hx;rcases hx with rfl | hx
    ·exact i1 g hg
    ·exact i2 g (k4 g ⟨x,hx,hg⟩)
  | ptr _=>simp [ZdS] at hp
  | fn _ _=>simp [ZdS] at hp
 | [],_::_,_,_,h,_=>by simp [Zae] at h
 | _::_,[],_,_,h,_=>by simp [Zae] at h
theorem Zae.of_cells {w:World} {S:Nat->Prop}:∀ {cs:List C} {us:List Value} {Es:Nat->Nat->Prop},cs.all ZdS=true->Zea cs us->(∀ x∈Zbc cs us Es,ZbY w S x)->Zcw (Zbc cs us Es)->Zae w cs (ZaR (Zbc cs us Es)) us
 | [],[],Es,_,_,_,_=>Zae.nil
 | .lit x::cs,u::us,Es,hp,hl,h,ha=>by
  obtain ⟨rfl,hl⟩:=hl;simp only [List.all_cons,Tar] at hp;simp only [Zae];exact ⟨fun _=>False,_,fun _ h=>h.elim,fun _ h=>h,fun _ h _=>h,by simp [Own],Zae.of_cells (Es:=Es) hp.2 hl h ha⟩
 | .sl rows::cs,u::us,Es,hp,hl,h,ha=>by
  simp only [List.all_cons,Tar] at hp;simp only [Zae];obtain ⟨a1,a2⟩:=ha;have hE:=h (.set (Es 0) (fun w=>Own w (.sl rows) (Es 0) u)) Tas;refine ⟨Es 0,ZaR (Zbc cs us (fun k=>Es (k+1))),fun b hb=>⟨_,Tas,hb⟩,fun b ⟨x,hx,hb⟩=>⟨x,Tal _ hx,hb⟩,fun b hb ⟨x,hx,hb2⟩=>a1 x hx b hb hb2,hE.2.1,Zae.of_cells hp.2 hl (fun x hx=>h x (Tal _ hx)) a2⟩
 | .ptr _::_,_::_,_,hp,_,_,_=>by simp [ZdS] at hp
 | .fn _ _::_,_::_,_,hp,_,_,_=>by simp [ZdS] at hp
 | [],_::_,_,_,hl,_,_=>by simp [Zea] at hl
 | .lit _::_,[],_,_,hl,_,_=>by simp [Zea] at hl
 | .sl _::_,[],_,_,hl,_,_=>by simp [Zea] at hl
theorem Zfa:∀ {cs:List C} {us:List Value} {Es:Nat->Nat->Prop} (y:Bk),y∈Zbc cs us Es->∃ E G,y=.set E G
 | .sl rows::cs,u::us,Es,y,h=>by
  rcases Tbg.1 h with rfl | h
  ·exact ⟨_,_,rfl⟩
  ·exact Zfa y h
 | .lit _::cs,_::us,Es,y,h=>Zfa (cs:=cs) (us:=us) y h
 | .ptr _::_,_,_,y,h=>by simp [Zbc] at h
 | .fn _ _::_,_,_,y,h=>by simp [Zbc] at h
 | [],_,_,y,h=>by simp [Zbc] at h
 | .lit _::_,[],_,y,h=>by simp [Zbc] at h
 | .sl _::_,[],_,y,h=>by simp [Zbc] at h
theorem Zfk {E:Nat->Prop} {r:List C} {rest:List (List C)} {us:List Value} {urest:List (List Value)} (hp:r.all ZdS=true):ZhW (ι:=Unit) [.set E (fun w=>Zap w (r::rest) E (us::urest))] (fun _=>Zea r us) (fun _=>[.set E (fun w=>Zap w (r::rest) E (us::urest))]):=fun w S h ha=>by
 obtain ⟨h1,h2,h3⟩:(∀ b,E b->b < w.heap.size∧¬ S b)∧Zap w (r::rest) E (us::urest)∧_:=h (.set E (fun w=>Zap w (r::rest) E (us::urest))) (by simp);obtain ⟨S1,S2,i1,i2,hd,k1,k2⟩:=h2;obtain ⟨Es,hl,_⟩:=ZgN (S:=S) hp k1 (fun b hb=>h1 b (i1 b hb));exact ⟨(),hl,h,ha,fun _ h=>h⟩
theorem ZgO {E:Nat->Prop} {r:List C} {rest:List (List C)} {us:List Value} {urest:List (List Value)} (hp:r.all ZdS=true):ZhW (ι:=(Nat->Prop) × (Nat->Nat->Prop)) [.set E (fun w=>Zap w (r::rest) E (us::urest))] (fun _=>True) (fun i=>.set i.1 (fun w=>Zap w rest i.1 urest)::Zbc r us i.2):=fun w S h ha=>by
 obtain ⟨h1,h2,h3⟩:(∀ b,E b->b < w.heap.size∧¬ S b)∧Zap w (r::rest) E (us::urest)∧_:=h (.set E (fun w=>Zap w (r::rest) E (us::urest))) (by simp);obtain ⟨S1,S2,i1,i2,hd,k1,k2⟩:=h2;obtain ⟨Es,hl,q1,q2,q3⟩:=ZgN (S:=S) hp k1 (fun b hb=>h1 b (i1 b hb));refine ⟨(S2,Es),trivial,fun x hx=>?_,⟨fun y hy g hg hg2=>hd g (q3 g ⟨y,hy,hg2⟩) hg,q2⟩,fun g ⟨x,hx,hg⟩=>⟨_,Tas,?_⟩⟩
 ·rcases Tbg.1 hx with rfl | hx
  ·exact ⟨fun b hb=>h1 b (i2 b hb),k2,Zap.stable _ _ _⟩
  ·exact q1 x hx
 ·rcases Tbg.1 hx with rfl | hx
  ·exact i2 g hg
  ·exact i1 g (q3 g ⟨x,hx,hg⟩)
theorem ZgP {E:Nat->Prop} {done:List (List C)} {ud:List (List Value)} {cs:List C} {us:List Value} {Es:Nat->Nat->Prop} (hp:cs.all ZdS=true) (hl:Zea cs us):Za2 (.set E (fun w=>Zap w done E ud)::Zbc cs us Es) [.set (fun b=>E b∨ZaR (Zbc cs us Es) b) (fun w=>Zap w (done++[cs]) (fun b=>E b∨ZaR (Zbc cs us Es) b) (ud++[us]))]:=fun w S h ha=>by
 have hE:=h (.set E (fun w=>Zap w done E ud)) Tas;have hv:=Zae.of_cells (w:=w) (S:=S) hp hl (fun x hx=>h x (Tal _ hx)) ha.2;refine ⟨fun x hx=>?_,ZdX _,fun g ⟨x,hx,hg⟩=>?_⟩
 ·simp only [Tbg,List.not_mem_nil,or_false] at hx;subst hx;refine ⟨fun b hb=>?_,Zap.snoc hE.2.1 hv (fun _ h=>.inl h) (fun _ h=>.inr h) (fun b hb ⟨y,hy,hg⟩=>ha.1 y hy b hb hg),Zap.stable _ _ _⟩;rcases hb with hb | ⟨y,hy,hg⟩
  ·exact hE.1 b hb
  ·obtain ⟨E',G',rfl⟩:=Zfa y hy;exact (h _ (Tal _ hy)).1 b hg
 ·simp only [Tbg,List.not_mem_nil,or_false] at hx;subst hx;rcases hg with hg | ⟨y,hy,hg⟩
  ·exact ⟨_,Tas,hg⟩
  ·exact ⟨y,Tal _ hy,hg⟩
def Zcs (rows:List (List C)) (r:List D) (pm:List Bk):Prop:=∃ v E,r=[.one (.lit v)]∧Zaj (.lit v)=true∧pm=[.set E (fun w=>Own w (.sl rows) E v)]
def ZdN:Bk->Bool
 | .set _ _=>true
 | _=>false
def litC:C->Bool
 | .lit _=>true
 | _=>false
def litD:D->Bool
 | .one c=>litC c
 | .agg cs=>cs.all litC
 | _=>false
theorem Zkw {w:World} {S S':Nat->Prop}:∀ {cs:List C} {vs:List Value},cs.all litC=true->Zac w S cs vs->Zac w S' cs vs
 | [],[],_,_=>trivial
 | .lit x::cs,v::vs,hl,h=>by
  simp only [List.all_cons,Tar] at hl;exact ⟨h.1,Zkw hl.2 h.2⟩
 | .sl _::_,_::_,hl,_=>by simp [litC] at hl
 | .ptr _::_,_::_,hl,_=>by simp [litC] at hl
 | .fn _ _::_,_::_,hl,_=>by simp [litC] at hl
 | [],_::_,_,h=>h.elim
 | _::_,[],_,h=>h.elim
theorem Zp2 {w:World} {S S':Nat->Prop} {x:D} {v:Value} (hl:litD x=true) (h:DRel w S x v):DRel w S' x v:=by
 cases x with
 | one c=>cases c with
  | lit y=>exact h
  | _=>simp [litD,litC] at hl
 | agg cs=>obtain ⟨vs,h1,h2⟩:=h;exact ⟨vs,h1,Zkw hl h2⟩
 | clip _=>simp [litD] at hl
theorem Zjp {w:World} {S S':Nat->Prop}:∀ {r:List D} {vs:List Value},r.all litD=true->ZaB w S r vs->ZaB w S' r vs
 | [],[],_,_=>trivial
 | x::r,v::vs,hl,h=>by
  simp only [List.all_cons,Tar] at hl;exact ⟨Zp2 hl.1 h.1,Zjp hl.2 h.2⟩
 | [],_::_,_,h=>h.elim
 | _::_,[],_,h=>h.elim
theorem Zzm {w:World} {S S':Nat->Prop} {L:Lay}:∀ {r:List D} {v:Value},r.all litD=true->ARel w S L (retA r) v->ARel w S' L (retA r) v
 | [],_,_,h=>by obtain ⟨vs,h1,h2⟩:=h;exact ⟨vs,h1,Zjp rfl h2⟩
 | [x],v,hl,h=>by
  simp only [List.all_cons,List.all_nil,Bool.and_true] at hl;exact Zp2 (x:=x) (v:=v) hl h
 | x::y::z,_,hl,h=>by obtain ⟨vs,h1,h2⟩:=h;exact ⟨vs,h1,Zjp hl h2⟩
theorem ZCv {e:Env} {f:FuncId} {args r:List D} (h:Con e f args r):ConP e f args [] (fun r' pm=>r'=r∧pm=[]):=by
 refine ⟨h.1,fun w S vs hS hE hG hpm ha hv=>(h.2 w S vs hS hE hG hv).mono ?_⟩;rintro en w' ⟨v,h1,h2,h3,h4⟩;refine ⟨v,r,[],h1,⟨rfl,rfl⟩,⟨h2.os,h2.tape,h2.output,h2.drawn,h2.size,fun k hk hn=>h2.block k hk (fun h=>hn (.inl h))⟩,h3,fun x hx=>by simp at hx,trivial,?_⟩;exact ARel.keep (Tai _) (fun _ _ _=>rfl) (fun b hb=>⟨hb.elim .inl (fun h=>.inr (.inr h)),fun ⟨x,hx,_⟩=>by simp at hx⟩) h4
theorem ZxS {w:World} {S:Nat->Prop} {x:Bk} (hs:ZdN x=true) (h:ZbY w S x) {g:Nat} (hg:pblk x g):g < w.heap.size∧¬ S g:=by
 cases x with
 | set E G=>exact h.1 g hg
 | _=>simp [ZdN] at hs
theorem Zp3 {w w':World} {S S':Nat->Prop} {x:Bk} (hs:ZdN x=true) (h:ZbY w S x) (hz:w.heap.size<=w'.heap.size) (hk:∀ b,pblk x b->w'.heap[b]?=w.heap[b]?) (hS:∀ b,pblk x b->¬ S' b):ZbY w' S' x:=by
 cases x with
 | set E G=>exact ⟨fun b hb=>⟨Tbd (h.1 b hb).1 hz,hS b hb⟩,h.2.2 w w' hz hk h.2.1,h.2.2⟩
 | _=>simp [ZdN] at hs
theorem ZnO:∀ {a b:List Bk},Zcw a->Zcw b->(∀ x∈a,∀ y∈b,∀ g,pblk x g->¬ pblk y g)->Zcw (a++b)
 | [],_,_,h,_=>h
 | x::a,b,⟨h1,h2⟩,h,hd=>⟨fun y hy g hx hg=>(Tbh.1 hy).elim (fun q=>h1 y q g hx hg) (fun q=>hd x Tas y q g hx hg),ZnO h2 h (fun z hz=>hd z (Tal _ hz))⟩
theorem ZxT {e:Env} {f:FuncId} {data lits:List D} {R:List D->List Bk->Prop} (pm:List Bk) (h:ConP e f data [] R) (hset:pm.all ZdN=true) (hR:∀ r q,R r q->r.all litD=true∧q.all ZdN=true)
  (hx:∀ (w:World) (S:Nat->Prop) (vs:List Value),(∀ x∈pm,ZbY w S x)->ZaB w S lits vs->ZaB w (fun b=>S b∨ZaR pm b) data vs):ConP e f lits pm (fun r q=>∃ q1,R r q1∧q=q1++pm):=by
 refine ⟨h.1,fun w S vs hS hE hG hpm ha hv=>?_⟩;have hset':∀ x∈pm,ZdN x=true:=fun x hx=>List.all_eq_true.1 hset x hx;have hlt:∀ g,ZaR pm g->g < w.heap.size∧¬ S g∧¬ e.E g:=fun g ⟨x,hxm,hg⟩=>⟨(ZxS (hset' x hxm) (hpm x hxm).1 hg).1,(ZxS (hset' x hxm) (hpm x hxm).1 hg).2,(hpm x hxm).2 g hg⟩;refine (h.2 w (fun b=>S b∨ZaR pm b) vs (fun b hb=>hb.elim (hS b) (fun q=>⟨(hlt b q).1,(hlt b q).2.2⟩)) hE hG (fun x hx=>by simp at hx) trivial (hx w S vs (fun x hx=>(hpm x hx).1) hv)).mono ?_
 rintro en w' ⟨v,r,q1,h1,h2,h3,h4,h5,h6,h7⟩;obtain ⟨l1,l2⟩:=hR r q1 h2;have l2':∀ x∈q1,ZdN x=true:=fun x hx=>List.all_eq_true.1 l2 x hx;have hnew:∀ x∈q1,∀ g,pblk x g->w.heap.size<=g:=fun x hx g hg=>((h5 x hx).2 g hg).elim (fun ⟨y,hy,_⟩=>by simp at hy) id;have hnil:∀ b,¬ ZaR [] b:=fun b ⟨y,hy,_⟩=>by simp at hy
 refine ⟨v,r,q1++pm,h1,⟨q1,h2,rfl⟩,⟨h3.os,h3.tape,h3.output,h3.drawn,h3.size,fun k hk hn=>h3.block k hk (fun q=>q.elim (fun q=>hn (.inl q)) (fun q=>hnil k q))⟩,h4,fun x hxm=>?_,ZnO h6 ha (fun x hx y hy g hg hg2=>?_),Zzm l1 h7⟩
 ·rcases Tbh.1 hxm with hq | hq
  ·refine ⟨Zp3 (l2' x hq) (h5 x hq).1 (Tai _) (fun _ _=>rfl) (fun b hb hn=>hn.2 ⟨x,Tbh.2 (.inl hq),hb⟩),fun g hg=>.inr (hnew x hq g hg)⟩
  ·refine ⟨Zp3 (hset' x hq) (hpm x hq).1 h3.size (fun b hb=>h3.block b (hlt b ⟨x,hq,hb⟩).1 (fun q=>q.elim (hlt b ⟨x,hq,hb⟩).2.2 (hnil b))) (fun b hb hn=>hn.2 ⟨x,Tbh.2 (.inr hq),hb⟩),fun g hg=>.inl ⟨x,hq,hg⟩⟩
 ·have:=hnew x hx g hg;have:=(hlt g ⟨y,hy,hg2⟩).1;omega
section
variable {e:Env} {mask:Nat} {Q:PX->St->Prop} {ds:List (Option Nat)}
def ancN (L:List Oper):Nat->Nat->List Nat
 | 0,_=>[]
 | n+1,j=>ZbD L j++(ZbD L j).flatMap (ancN L n)
theorem Zio {L:List Oper} {listed:Array Bool} (h:∀ j,listed.getD j false=true->∀ q∈ZbD L j,listed.getD q false=true):∀ (n j:Nat),(∀ q∈ZbD L j,listed.getD q false=true)->∀ q∈ancN L n j,listed.getD q false=true
 | 0,_,_,q,hq=>by cases hq
 | n+1,j,hj,q,hq=>by
  rcases Tbh.1 hq with hq | hq
  ·exact hj q hq
  ·obtain ⟨r,hr,hq⟩:=List.mem_flatMap.1 hq;exact Zio h n r (h r (hj r hr)) q hq
def Zfb (e:Env) (ds:List (Option Nat)) (L:List Oper) (cons:Nat->Option Nat) (ini:List Nat) (B:St->Prop) (P:Nat->St->Prop):Nat->List Oper->Prop
 | _,[]=>True
 | i,o::os=>(∀ s m,B ⟨s,m⟩->(∀ j∈ZbD L i,(cons j=none∨cons j=some i)->P j ⟨s,m⟩)->(∀ j∈ini,cons j=some i->P j ⟨s,m⟩)->(∀ j∈ini,∀ k,cons j=some k->i∈ZbD L k->P j ⟨s,m⟩)->Runs e ds 0 [o] ⟨s,m⟩ (fun σ'=>B σ'∧P i σ'∧∀ j,j≠i->i ∉ ancN L 6 j->cons j≠some i->(∀ k,cons j=some k->k ∉ ancN L 6 i)->P j ⟨s,m⟩->P j σ'))∧Zfb e ds L cons ini B P (i+1) os
theorem Zfb.get {L:List Oper} {cons:Nat->Option Nat} {ini:List Nat} {B:St->Prop} {P:Nat->St->Prop}:∀ {l:List Oper} {k i:Nat} {o:Oper},Zfb e ds L cons ini B P k l->l[i]?=some o->∀ s m,B ⟨s,m⟩->(∀ j∈ZbD L (k+i),(cons j=none∨cons j=some (k+i))->P j ⟨s,m⟩)->(∀ j∈ini,cons j=some (k+i)->P j ⟨s,m⟩)->(∀ j∈ini,∀ k',cons j=some k'->k+i∈ZbD L k'->P j ⟨s,m⟩)->Runs e ds 0 [o] ⟨s,m⟩ (fun σ'=>B σ'∧P (k+i) σ'∧∀ j,j≠k+i->k+i ∉ ancN L 6 j->cons j≠some (k+i)->(∀ k',cons j=some k'->k' ∉ ancN L 6 (k+i))->P j ⟨s,m⟩->P j σ')
 | [],k,i,o,_,h=>by simp at h
 | x::l,k,0,o,h,ho=>by
  simp only [Tat,Taq] at ho;subst ho;exact h.1
 | x::l,k,i+1,o,h,ho=>by
  have:=Zfb.get (l:=l) (k:=k+1) (i:=i) (o:=o) h.2 (by simpa using ho);rw [show k+1+i=k+(i+1) by omega] at this;exact this
theorem Zkx {l:List Oper} {cons:Nat->Option Nat} {ini:List Nat} {K B:St->Prop} {P:Nat->St->Prop} (hb:ZjR l=true) (hini:ini.all (fun j=>decide (l.length<=j))=true) (hstep:Zfb e ds l cons ini B P 0 l) (hK:∀ s m,B ⟨s,m⟩->(∀ i,i < l.length∨i∈ini->(∀ k,cons i=some k->l.length<=k)->P i ⟨s,m⟩)->K ⟨s,m⟩) :
  ∀ (f:Nat) (listed:Array Bool) (σ:St),listed.size=l.length->(List.range l.length).countP (fun i=>!listed.getD i true)=f->B σ->(∀ j,listed.getD j false=true->(P j σ∨∃ k,cons j=some k∧listed.getD k false=true)∧∀ q∈ZbD l j,listed.getD q false=true)->(∀ j∈ini,P j σ∨∃ k,cons j=some k∧listed.getD k false=true)->Zcz e ds l.toArray K f listed σ:=by
 have hback:∀ i o,l[i]?=some o->o.guard=none∧∀ e∈o.after,Region.binds .any e=true->e.on < i:=fun i o ho=>by
  have h1:=List.all_eq_true.1 hb i (List.mem_range.2 (Tad.1 ho).1);rw [ho] at h1;simp only [Tar,Option.isNone_iff_eq_none,List.all_eq_true,Bool.or_eq_true,Bool.not_eq_true',decide_eq_true_eq] at h1;refine ⟨h1.1,fun e he hbe=>?_⟩;rcases h1.2 e (Array.mem_toList_iff.2 he) with h2 | h2
  ·rw [hbe] at h2;cases h2
  ·exact h2
 have hfirst:∀ (listed:Array Bool),listed.size=l.length->Region.ready .any l.toArray listed=[]->∀ i,i < l.length->listed.getD i false=true:=fun listed hsz h0 i=>by
  induction i using Nat.strongRecOn with
  | _ i ih =>
   intro hi;rw [<- Zbw (by omega:i < listed.size)]
   cases hun:listed.getD i true with
   | true=>rfl
   | false =>
   obtain ⟨o,ho⟩:∃ o,l[i]?=some o:=⟨_,Taa hi⟩;have:=(mem_ready (ops:=l.toArray) (md:=.any)).2 ⟨hun,o,by simpa using ho,fun e he hbe=>ih e.on ((hback i o ho).2 e he hbe) (by have:=(hback i o ho).2 e he hbe;omega)⟩;rw [h0] at this
   cases this
 have hlt:∀ (listed:Array Bool) (k:Nat),listed.getD k false=true->k < listed.size:=fun listed k h=>Classical.byContradiction fun hn=>by
  rw [Array.getD_eq_getD_getElem?,Array.getElem?_eq_none om] at h
  cases h
 intro f
 induction f with
 | zero =>
  intro listed σ hsz hc hB hP hI;have hall:∀ i,i < l.length->listed.getD i true=true:=fun i hi=>by
   have:=List.countP_eq_zero.1 hc i (List.mem_range.2 hi);simpa using this
  refine ⟨?_,hK σ.s σ.m hB fun i hio hk=>?_⟩
  ·cases hr:Region.ready .any l.toArray listed with
   | nil=>rfl
   | cons i r =>
    have hi:i∈Region.ready .any l.toArray listed:=by rw [hr];simp
    obtain ⟨hun,oi,hoi,_⟩:=mem_ready.1 hi;have hil:i < l.length:=by
     have:=(Tbl.1 hoi).1;simpa using this
    rw [hall i hil] at hun
    cases hun
  ·have hno:¬ ∃ k,cons i=some k∧listed.getD k false=true:=fun ⟨k,h1,h2⟩=>by
    have:=hlt listed k h2;have:=hk k h1;omega
   rcases hio with hi | hi
   ·exact (hP i (by rw [<- Zbw om];exact hall i hi)).1.resolve_right hno
   ·exact (hI i hi).resolve_right hno
 | succ f ih =>
  intro listed σ hsz hc hB hP hI;refine ⟨fun h0=>hK σ.s σ.m hB fun i hio hk=>?_,fun i hi=>?_⟩
  ·have hno:¬ ∃ k,cons i=some k∧listed.getD k false=true:=fun ⟨k,h1,h2⟩=>by
    have:=hlt listed k h2;have:=hk k h1;omega
   rcases hio with hi | hi
   ·exact (hP i (hfirst listed hsz h0 i hi)).1.resolve_right hno
   ·exact (hI i hi).resolve_right hno
  obtain ⟨hun,o,hoi,hall⟩:=mem_ready.1 hi;have ho:l[i]?=some o:=by simpa using hoi
  have hil:i < l.length:=(Tad.1 ho).1;have hls:i < listed.size:=om;have hda:ZbD l i=ZdR o:=by unfold ZbD;rw [ho]
  have hunf:listed.getD i false=false:=by rw [<- Zbw hls];exact hun
  have hanc:∀ q∈ancN l 6 i,listed.getD q false=true:=Zio (fun j hj=>(hP j hj).2) 6 i fun q hq=>by
   rw [hda] at hq;simp only [ZdR,Tbi,List.mem_filter] at hq;obtain ⟨e,⟨he,hbe⟩,rfl⟩:=hq;exact hall e (Array.mem_toList_iff.1 he) hbe
  refine ⟨o,hoi,(hback i o ho).1,ZdC (hback i o ho).1 ?_⟩;have h1:=Zfb.get hstep ho σ.s σ.m hB (fun j hj hcj=>by
   rw [Nat.zero_add] at hj hcj;have hj':=hj;rw [hda] at hj';simp only [ZdR,Tbi,List.mem_filter] at hj';obtain ⟨e,⟨he,hbe⟩,rfl⟩:=hj';refine (hP e.on (hall e (Array.mem_toList_iff.1 he) hbe)).1.resolve_right ?_;rintro ⟨k,hk1,hk2⟩;rcases hcj with hcj | hcj
   ·rw [hcj] at hk1;cases hk1
   ·rw [hcj] at hk1;injection hk1 with hk1
    subst hk1;rw [hunf] at hk2
    cases hk2) (fun j hj hc=>by
   rw [Nat.zero_add] at hc;refine (hI j hj).resolve_right ?_;rintro ⟨k,hk1,hk2⟩;rw [hc] at hk1;injection hk1 with hk1
   subst hk1;rw [hunf] at hk2
   cases hk2) (fun j hj k' hc hd=>by
   rw [Nat.zero_add] at hd;refine (hI j hj).resolve_right ?_;rintro ⟨k,hk1,hk2⟩;rw [hc] at hk1;injection hk1 with hk1
   subst hk1;have h2:=(hP _ hk2).2 i hd;rw [hunf] at h2
   cases h2)
  rw [Nat.zero_add] at h1;refine ZlP h1 fun σ' ⟨k1,k2,k3⟩=>ih _ σ' (by simpa using hsz) ?_ k1 (fun j hj=>?_) fun j hj=>?_
  ·have h1:(List.range l.length).countP (fun j=>!(listed.setIfInBounds i true).getD j true)+1=(List.range l.length).countP (fun j=>!listed.getD j true):=by
    have hperm:=List.perm_cons_erase (List.mem_range.2 hil);rw [hperm.countP_eq,hperm.countP_eq,List.countP_cons,List.countP_cons];have hcong:((List.range l.length).erase i).countP (fun j=>!(listed.setIfInBounds i true).getD j true)=((List.range l.length).erase i).countP (fun j=>!listed.getD j true):=by
     refine List.countP_congr fun j hj=>?_;have hne:j≠i:=fun e=>by
      subst e;exact List.Nodup.not_mem_erase (List.nodup_range) hj
     rw [getD_set_ne true (Ne.symm hne)]
    rw [hcong,hun];simp [hls]
   omega
  ·by_cases hji:j=i
   ·subst hji;refine ⟨.inl k2,fun q hq=>?_⟩;rw [hda] at hq;simp only [ZdR,Tbi,List.mem_filter] at hq;obtain ⟨e,⟨he,hbe⟩,rfl⟩:=hq;have hlt:=(hback j o ho).2 e (Array.mem_toList_iff.1 he) hbe;rw [getD_set_ne false om];exact hall e (Array.mem_toList_iff.1 he) hbe
   ·rw [getD_set_ne false (Ne.symm hji)] at hj;obtain ⟨p1,p2⟩:=hP j hj;have hni:i ∉ ancN l 6 j:=fun hm=>by
     have h2:=Zio (fun j hj=>(hP j hj).2) 6 j p2 i hm;rw [hunf] at h2
     cases h2
    refine ⟨?_,fun q hq=>?_⟩
    ·rcases p1 with p1 | ⟨k,hk1,hk2⟩
     ·by_cases hci:cons j=some i
      ·refine .inr ⟨i,hci,?_⟩;rw [<- Zbw (by simpa using hls)];simp [Array.getD_eq_getD_getElem?,hls]
      ·by_cases hdep:∃ k,cons j=some k∧k∈ancN l 6 i
       ·obtain ⟨k,hk1,hk2⟩:=hdep;refine .inr ⟨k,hk1,?_⟩;have hk3:=hanc k hk2;have hki:i≠k:=fun e=>by subst e;rw [hunf] at hk3;cases hk3
        rw [getD_set_ne false hki];exact hk3
       ·exact .inl (k3 j hji hni hci (fun k hk1 hk2=>hdep ⟨k,hk1,hk2⟩) p1)
     ·refine .inr ⟨k,hk1,?_⟩;by_cases hki:k=i
      ·subst hki;rw [hunf] at hk2;cases hk2
      ·rw [getD_set_ne false (Ne.symm hki)];exact hk2
    ·by_cases hqi:q=i
     ·subst hqi;have h2:=p2 q hq;rw [hunf] at h2
      cases h2
     ·rw [getD_set_ne false (Ne.symm hqi)];exact p2 q hq
  ·have hjl:l.length<=j:=by have:=List.all_eq_true.1 hini j hj;simpa using this
   have hji:j≠i:=om;have hni:i ∉ ancN l 6 j:=fun hm=>by
    have hd:ZbD l j=[]:=by unfold ZbD;rw [List.getElem?_eq_none hjl]
    simp [ancN,hd] at hm
   rcases hI j hj with p1 | ⟨k,hk1,hk2⟩
   ·by_cases hci:cons j=some i
    ·refine .inr ⟨i,hci,?_⟩;rw [<- Zbw (by simpa using hls)];simp [Array.getD_eq_getD_getElem?,hls]
    ·by_cases hdep:∃ k,cons j=some k∧k∈ancN l 6 i
     ·obtain ⟨k,hk1,hk2⟩:=hdep;refine .inr ⟨k,hk1,?_⟩;have hk3:=hanc k hk2;have hki:i≠k:=fun e=>by subst e;rw [hunf] at hk3;cases hk3
      rw [getD_set_ne false hki];exact hk3
     ·exact .inl (k3 j hji hni hci (fun k hk1 hk2=>hdep ⟨k,hk1,hk2⟩) p1)
   ·refine .inr ⟨k,hk1,?_⟩;by_cases hki:k=i
    ·subst hki;rw [hunf] at hk2;cases hk2
    ·rw [getD_set_ne false (Ne.symm hki)];exact hk2
def lkS:List (Nat × A)->List (Nat × A)->Prop
 | [],_=>True
 | (t,x)::r,s=>gs s t=x∧lkS r s
def lkM:List (Nat × Bk)->List (Nat × Bk)->Prop
 | [],_=>True
 | (t,x)::r,m=>gm m t=some x∧lkM r m
theorem ZAX {s:List (Nat × A)}:∀ {sb:List (Nat × A)},(∀ p∈sb,gs s p.1=p.2) ↔ lkS sb s
 | []=>by simp [lkS]
 | (t,x)::r=>by simp only [List.forall_mem_cons,lkS,ZAX (sb:=r)]
theorem ZAY {m:List (Nat × Bk)}:∀ {mb:List (Nat × Bk)},(∀ p∈mb,gm m p.1=some p.2) ↔ lkM mb m
 | []=>by simp [lkM]
 | (t,x)::r=>by simp only [List.forall_mem_cons,lkM,ZAY (mb:=r)]
theorem ZbN {sb:List (Nat × A)} {mb:List (Nat × Bk)} {s:List (Nat × A)} {m:List (Nat × Bk)}:Lks sb mb ⟨s,m⟩ ↔ lkS sb s∧lkM mb m:=and_congr ZAX ZAY
abbrev Tab:=List (List (Nat × A) × List (Nat × Bk))
def tabP (T:Tab) (i:Nat) (σ:St):Prop:=Lks (T.getD i ([],[])).1 (T.getD i ([],[])).2 σ
theorem Zbx {T:Tab} {i:Nat} {s:List (Nat × A)} {m:List (Nat × Bk)}:tabP T i ⟨s,m⟩ ↔ lkS (T.getD i ([],[])).1 s∧lkM (T.getD i ([],[])).2 m:=ZbN
def Zg8 (L:List Oper) (cons:Nat->Option Nat) (T:Tab) (i:Nat) (f:List (Nat × A)->List (Nat × Bk)->Bool):Bool:=(List.range T.length).all fun j=>j==i || ((ancN L 6 j).contains i || (cons j==some i || ((match cons j with | some k=>(ancN L 6 i).contains k | none=>false) || f (T.getD j ([],[])).1 (T.getD j ([],[])).2)))
theorem Zj2 {L:List Oper} {cons:Nat->Option Nat} {T:Tab} {i:Nat} {f:List (Nat × A)->List (Nat × Bk)->Bool} {σ σ':St} (h:Zg8 L cons T i f=true) (hf:∀ sb mb,f sb mb=true->Lks sb mb σ->Lks sb mb σ'):∀ j,j≠i->i ∉ ancN L 6 j->cons j≠some i->(∀ k,cons j=some k->k ∉ ancN L 6 i)->tabP T j σ->tabP T j σ':=fun j h1 h2 h3 h4 hp=>by
 unfold tabP at hp ⊢;by_cases hj:j < T.length
 ·have:=List.all_eq_true.1 h j (List.mem_range.2 hj);simp only [Bool.or_eq_true,beq_iff_eq,List.contains_eq_mem,decide_eq_true_eq] at this;rcases this with q | q | q | q | q
  ·exact absurd q h1
  ·exact absurd q h2
  ·exact absurd q h3
  ·cases hc:cons j with
   | none=>rw [hc] at q;cases q
   | some k=>rw [hc] at q;exact absurd (by simpa using q) (h4 k hc)
  ·exact hf _ _ q hp
 ·have e:T.getD j ([],[])=([],[]):=by rw [List.getD_eq_getElem?_getD,List.getElem?_eq_none om];rfl
  rw [e];exact ⟨fun p hp=>(by cases hp),fun p hp=>by cases hp⟩
section
variable {sb:List (Nat × A)} {mb:List (Nat × Bk)} {s:List (Nat × A)} {m:List (Nat × Bk)} {d k:Nat} {α:A} {bk:Bk}
theorem Lks.kill (h:Lks sb mb ⟨s,m⟩) (hf:sb.all (fun p=>!keyB k p.2)=true):Lks sb mb ⟨Zav k s,m⟩:=⟨fun p hp=>by
 have h1:=List.all_eq_true.1 hf p hp;have h2:=h.1 p hp;show gs (Zav k s) p.1=p.2;rw [ZeA _ _ _ (by rw [h2];simpa using h1)];exact h2,h.2⟩
theorem Lks.mrem (h:Lks sb mb ⟨s,m⟩) (hf:mb.all (fun p=>p.1 != k)=true):Lks sb mb ⟨s,remM k m⟩:=⟨h.1,fun p hp=>by
 have h1:=List.all_eq_true.1 hf p hp;simp only [bne_iff_ne,ne_eq] at h1;show gm (remM k m) p.1=some p.2;rw [ZaX,if_neg h1];exact h.2 p hp⟩
theorem ZxU {x:A} (h:keyB k x=false):frzA k bk x=x:=by
 cases x <;> simp_all [frzA,keyB]
theorem Lks.frz (h:Lks sb mb ⟨s,m⟩) (hf:sb.all (fun p=>!keyB k p.2)=true) (hm:mb.all (fun p=>p.1 != k)=true):Lks sb mb ⟨frzS k bk s,remM k m⟩:=by
 refine Lks.mrem (m:=m) ⟨fun p hp=>?_,h.2⟩ hm;have h1:=List.all_eq_true.1 hf p hp;have h2:=h.1 p hp;show gs (frzS k bk s) p.1=p.2;rw [Zmz,h2];exact ZxU (by simpa using h1)
def ZoC (d:Nat) (sb:List (Nat × A)) (_:List (Nat × Bk)):Bool:=sb.all fun p=>p.1 != d
def ZAZ (d:Nat) (_:List (Nat × A)) (mb:List (Nat × Bk)):Bool:=mb.all fun p=>p.1 != d
def ZoD (d k:Nat) (sb:List (Nat × A)) (mb:List (Nat × Bk)):Bool:=Zez d sb mb && Zez k sb mb
theorem Lks.ownE (h:Lks sb mb ⟨s,m⟩) (hf:ZoD d k sb mb=true):Lks sb mb ⟨(d,α)::Zav d (Zav k s),(d,bk)::remM d (remM k m)⟩:=by
 simp only [ZoD,Zez,Tar,List.all_eq_true,bne_iff_ne,ne_eq,Bool.not_eq_true'] at hf;refine Lks.born (Lks.mrem (Lks.kill h ?_) ?_) ?_
 ·simp only [List.all_eq_true,Bool.not_eq_true'];exact fun p hp=>(hf.2.1 p hp).2
 ·simp only [List.all_eq_true,bne_iff_ne,ne_eq];exact fun p hp=>hf.2.2 p hp
 ·simp only [Zez,Tar,List.all_eq_true,bne_iff_ne,ne_eq,Bool.not_eq_true'];exact hf.1
end
section
variable {L:List Oper} {cons:Nat->Option Nat} {T:Tab} {i:Nat} {sb:List (Nat × A)} {mb:List (Nat × Bk)} {s s2:List (Nat × A)} {m m2:List (Nat × Bk)} {d k:Nat} {α:A} {bk:Bk}
abbrev Did (L:List Oper) (cons:Nat->Option Nat) (T:Tab) (i:Nat) (sb:List (Nat × A)) (mb:List (Nat × Bk)) (s:List (Nat × A)) (m:List (Nat × Bk)) (σ':St):Prop:=Lks sb mb σ'∧tabP T i σ'∧∀ j,j≠i->i ∉ ancN L 6 j->cons j≠some i->(∀ k,cons j=some k->k ∉ ancN L 6 i)->tabP T j ⟨s,m⟩->tabP T j σ'
theorem kS (hB:Lks sb mb ⟨s,m⟩) (hp:tabP T i ⟨(d,α)::s,m⟩) (h1:ZoC d sb mb=true:=by rfl) (h2:Zg8 L cons T i (ZoC d)=true:=by rfl):Did L cons T i sb mb s m ⟨(d,α)::s,m⟩:=⟨hB.slot h1,hp,Zj2 h2 fun _ _ h hl=>hl.slot h⟩
theorem kB (hB:Lks sb mb ⟨s,m⟩) (hp:tabP T i ⟨(d,α)::Zav d s,(d,bk)::remM d m⟩) (h1:Zez d sb mb=true:=by rfl) (h2:Zg8 L cons T i (Zez d)=true:=by rfl):Did L cons T i sb mb s m ⟨(d,α)::Zav d s,(d,bk)::remM d m⟩:=⟨hB.born h1,hp,Zj2 h2 fun _ _ h hl=>hl.born h⟩
theorem kE (hB:Lks sb mb ⟨s,m⟩) (hp:tabP T i ⟨(d,α)::Zav d (Zav k s),(d,bk)::remM d (remM k m)⟩) (h1:ZoD d k sb mb=true:=by rfl) (h2:Zg8 L cons T i (ZoD d k)=true:=by rfl):Did L cons T i sb mb s m ⟨(d,α)::Zav d (Zav k s),(d,bk)::remM d (remM k m)⟩:=⟨hB.ownE h1,hp,Zj2 h2 fun _ _ h hl=>hl.ownE h⟩
end
theorem gGk {id:Nat} {l:List Oper} {s:List (Nat × A)} {m:List (Nat × Bk)} (sb:List (Nat × A)) (mb:List (Nat × Bk)) (T:Tab) (cons:Nat->Option Nat) (ini:List Nat) (hB:Lks sb mb ⟨s,m⟩) (hI:∀ j∈ini,tabP T j ⟨s,m⟩) (hS:Zfb e (l.map (·.dst)) l cons ini (Lks sb mb) (tabP T) 0 l) (hK:∀ s' m',Lks sb mb ⟨s',m'⟩->(∀ i,i < l.length∨i∈ini->(∀ k,cons i=some k->l.length<=k)->tabP T i ⟨s',m'⟩)->∃ sf mf,Lks sf mf ⟨s',m'⟩∧Q .normal ⟨sf,mf⟩)
  (hb:ZjR l=true:=by decide +kernel) (hini:ini.all (fun j=>decide (l.length<=j))=true:=by decide +kernel) (hT:regT l.toArray 0=true:=by decide +kernel):pwp e mask (.region id l.toArray true) ⟨s,m⟩ Q:=fun he U w0 S0 nt a w hok hs=>by
 refine Zh0 he hT (K:=fun σ'=>∃ sf mf,Lks sf mf σ'∧Q .normal ⟨sf,mf⟩) (fun a w σ' ⟨sf,mf,h1,h2⟩ h3=>⟨⟨sf,mf⟩,h2,h3.weak (fun t=>ZlN t h1.1) (fun t bk=>ZlO t bk h1.2)⟩) (ZjN hok) hs ?_;simp only [List.take_zero,Runs]
 have:=Zkx (K:=fun σ'=>∃ sf mf,Lks sf mf σ'∧Q .normal ⟨sf,mf⟩) hb hini hS hK l.length (Zbg l.length 0) ⟨s,m⟩ (by simp [Zbg]) (by
  rw [List.countP_eq_length.2]
  ·simp
  ·intro i hi;have hi':=List.mem_range.1 hi;simp [Zbg,hi']) hB (fun j hj=>by
   have h0:(Zbg l.length 0).getD j false=false:=by
    by_cases hjl:j < l.length
    ·simp [Zbg,hjl]
    ·simp [Zbg,hjl]
   rw [h0] at hj
   cases hj) (fun j hj=>.inl (hI j hj))
 simpa using this
end
section
variable {e:Env} {mask:Nat} {Q:PX->St->Prop} {ds:List (Option Nat)} {X:Type}
def tabX (ok:Nat->X->Prop) (T:X->Tab) (j:Nat) (σ:St):Prop:=∃ x,ok j x∧tabP (T x) j σ
abbrev DidX (L:List Oper) (cons:Nat->Option Nat) (ok:Nat->X->Prop) (T:X->Tab) (i:Nat) (sb:List (Nat × A)) (mb:List (Nat × Bk)) (s:List (Nat × A)) (m:List (Nat × Bk)) (σ':St):Prop:=Lks sb mb σ'∧tabX ok T i σ'∧∀ j,j≠i->i ∉ ancN L 6 j->cons j≠some i->(∀ k,cons j=some k->k ∉ ancN L 6 i)->tabX ok T j ⟨s,m⟩->tabX ok T j σ'
section
variable {L:List Oper} {cons:Nat->Option Nat} {ok:Nat->X->Prop} {T:X->Tab} {i:Nat} {sb:List (Nat × A)} {mb:List (Nat × Bk)} {s s2:List (Nat × A)} {m m2:List (Nat × Bk)} {d k:Nat} {α:A} {bk:Bk}
theorem ZkX {f:List (Nat × A)->List (Nat × Bk)->Bool} {σ σ':St} (h:∀ x,Zg8 L cons (T x) i f=true) (hf:∀ sb mb,f sb mb=true->Lks sb mb σ->Lks sb mb σ'):∀ j,j≠i->i ∉ ancN L 6 j->cons j≠some i->(∀ k,cons j=some k->k ∉ ancN L 6 i)->tabX ok T j σ->tabX ok T j σ':=fun j h1 h2 h3 h4 ⟨x,hx,hp⟩=>⟨x,hx,Zj2 (h x) hf j h1 h2 h3 h4 hp⟩
theorem xS (hB:Lks sb mb ⟨s,m⟩) (hp:tabX ok T i ⟨(d,α)::s,m⟩) (h1:ZoC d sb mb=true:=by rfl) (h2:∀ x,Zg8 L cons (T x) i (ZoC d)=true:=by intro x;rfl):DidX L cons ok T i sb mb s m ⟨(d,α)::s,m⟩:=⟨hB.slot h1,hp,ZkX h2 fun _ _ h hl=>hl.slot h⟩
theorem xM (hB:Lks sb mb ⟨s,m⟩) (hp:tabX ok T i ⟨s,(d,bk)::remM d m⟩) (h1:ZAZ d sb mb=true:=by rfl) (h2:∀ x,Zg8 L cons (T x) i (ZAZ d)=true:=by intro x;rfl):DidX L cons ok T i sb mb s m ⟨s,(d,bk)::remM d m⟩:=⟨hB.own h1,hp,ZkX h2 fun _ _ h hl=>hl.own h⟩
theorem Lks.bornC {κ:Nat} (h:Lks sb mb ⟨s,m⟩) (hf:(sb.all (fun p=>p.1 != d && !keyB κ p.2) && mb.all (fun p=>p.1 != κ))=true):Lks sb mb ⟨(d,α)::Zav κ s,(κ,bk)::remM κ m⟩:=by
 simp only [Tar,List.all_eq_true,bne_iff_ne,ne_eq,Bool.not_eq_true'] at hf;refine Lks.slot (Lks.own (Lks.kill h ?_) ?_) ?_
 ·simp only [List.all_eq_true,Bool.not_eq_true'];exact fun p hp=>(hf.1 p hp).2
 ·simp only [List.all_eq_true,bne_iff_ne,ne_eq];exact hf.2
 ·simp only [List.all_eq_true,bne_iff_ne,ne_eq];exact fun p hp=>(hf.1 p hp).1
def ZA0 (d κ:Nat) (sb:List (Nat × A)) (mb:List (Nat × Bk)):Bool:=sb.all (fun p=>p.1 != d && !keyB κ p.2) && mb.all (fun p=>p.1 != κ)
theorem xP {κ:Nat} (hB:Lks sb mb ⟨s,m⟩) (hp:tabX ok T i ⟨(d,α)::Zav κ s,(κ,bk)::remM κ m⟩) (h1:ZA0 d κ sb mb=true:=by rfl) (h2:∀ x,Zg8 L cons (T x) i (ZA0 d κ)=true:=by intro x;rfl):DidX L cons ok T i sb mb s m ⟨(d,α)::Zav κ s,(κ,bk)::remM κ m⟩:=⟨hB.bornC h1,hp,ZkX h2 fun _ _ h hl=>hl.bornC h⟩
end
theorem gGp {id:Nat} {l:List Oper} {s:List (Nat × A)} {m:List (Nat × Bk)} (sb:List (Nat × A)) (mb:List (Nat × Bk)) (P:Nat->St->Prop) (cons:Nat->Option Nat) (ini:List Nat) (hB:Lks sb mb ⟨s,m⟩) (hI:∀ j∈ini,P j ⟨s,m⟩) (hS:Zfb e (l.map (·.dst)) l cons ini (Lks sb mb) P 0 l) (hK:∀ s' m',Lks sb mb ⟨s',m'⟩->(∀ i,i < l.length∨i∈ini->(∀ k,cons i=some k->l.length<=k)->P i ⟨s',m'⟩)->∃ sf mf,Lks sf mf ⟨s',m'⟩∧Q .normal ⟨sf,mf⟩)
  (hb:ZjR l=true:=by decide +kernel) (hini:ini.all (fun j=>decide (l.length<=j))=true:=by decide +kernel) (hT:regT l.toArray 0=true:=by decide +kernel):pwp e mask (.region id l.toArray true) ⟨s,m⟩ Q:=fun he U w0 S0 nt a w hok hs=>by
 refine Zh0 he hT (K:=fun σ'=>∃ sf mf,Lks sf mf σ'∧Q .normal ⟨sf,mf⟩) (fun a w σ' ⟨sf,mf,h1,h2⟩ h3=>⟨⟨sf,mf⟩,h2,h3.weak (fun t=>ZlN t h1.1) (fun t bk=>ZlO t bk h1.2)⟩) (ZjN hok) hs ?_;simp only [List.take_zero,Runs]
 have:=Zkx (K:=fun σ'=>∃ sf mf,Lks sf mf σ'∧Q .normal ⟨sf,mf⟩) hb hini hS hK l.length (Zbg l.length 0) ⟨s,m⟩ (by simp [Zbg]) (by
  rw [List.countP_eq_length.2]
  ·simp
  ·intro i hi;have hi':=List.mem_range.1 hi;simp [Zbg,hi']) hB (fun j hj=>by
   have h0:(Zbg l.length 0).getD j false=false:=by
    by_cases hjl:j < l.length
    ·simp [Zbg,hjl]
    ·simp [Zbg,hjl]
   rw [h0] at hj
   cases hj) (fun j hj=>.inl (hI j hj))
 simpa using this
theorem gGx {id:Nat} {l:List Oper} {s:List (Nat × A)} {m:List (Nat × Bk)} (sb:List (Nat × A)) (mb:List (Nat × Bk)) (ok:Nat->X->Prop) (T:X->Tab) (cons:Nat->Option Nat) (ini:List Nat) (hB:Lks sb mb ⟨s,m⟩) (hI:∀ j∈ini,tabX ok T j ⟨s,m⟩) (hS:Zfb e (l.map (·.dst)) l cons ini (Lks sb mb) (tabX ok T) 0 l) (hK:∀ s' m',Lks sb mb ⟨s',m'⟩->(∀ i,i < l.length∨i∈ini->(∀ k,cons i=some k->l.length<=k)->tabX ok T i ⟨s',m'⟩)->∃ sf mf,Lks sf mf ⟨s',m'⟩∧Q .normal ⟨sf,mf⟩)
  (hb:ZjR l=true:=by decide +kernel) (hini:ini.all (fun j=>decide (l.length<=j))=true:=by decide +kernel) (hT:regT l.toArray 0=true:=by decide +kernel):pwp e mask (.region id l.toArray true) ⟨s,m⟩ Q:=gGp sb mb (tabX ok T) cons ini hB hI hS hK hb hini hT
theorem ZbT {ok:Nat->X->Prop} {T:X->Tab} {i:Nat} {s:List (Nat × A)} {m:List (Nat × Bk)}:tabX ok T i ⟨s,m⟩ ↔ ∃ x,ok i x∧lkS ((T x).getD i ([],[])).1 s∧lkM ((T x).getD i ([],[])).2 m:=exists_congr fun x=>and_congr_right fun _=>Zbx
end
theorem Kept.all1 {D:Prop} {B:Nat} {w w':World} (h:Kept D e1.E B w w') (h1:e1.G w) (h2:e1.G w'):Kept D (fun _=>False) B w w':=⟨h.os,h.tape,h.output,h.drawn,h.size,fun k hk _=>by
 by_cases e:k=3
 ·have k1:ZcV w:=h1;have k2:ZcV w':=h2;subst e;unfold ZcV at k1 k2;exact k2.trans k1.symm
 ·exact h.block k hk e⟩
theorem ZCx {P:Nat->Prop} (h:∃ n,P n):∃ n,P n∧∀ m,m < n->¬ P m:=by
 obtain ⟨n,hn⟩:=h
 induction n using Nat.strongRecOn with
 | _ n ih =>
  by_cases hx:∃ m,m < n∧P m
  ·obtain ⟨m,hm,hp⟩:=hx;exact ih m hm hp
  ·exact ⟨n,hn,fun m hm hp=>hx ⟨m,hm,hp⟩⟩
theorem Zob {ts:List Tm} {f:FuncId} {caps:List C} {P:Tm->Bool} (hl:ts.length<=big) (h:∀ a∈ts,Con e0 f (.agg (Zab a)::caps.map .one) [.one (.lit (.bool (P a)))]) :
  ∃ r:Int,(0<=r ↔ ts.any P=true)∧Con e0 140 [.one (.sl (Zaa ts)),.one (.fn f caps)] [.one (.lit (.int .i64 r))]:=by
 unfold big at hl;by_cases hA:ts.any P=true
 ·obtain ⟨k,hk,hbef⟩:∃ k:Nat,(∃ a,ts[k]?=some a∧P a=true)∧∀ (j:Nat) a,j < k->ts[j]?=some a->P a=false:=by
   have hex:∃ k:Nat,∃ a,ts[k]?=some a∧P a=true:=by
    obtain ⟨a,ha,hp⟩:=List.any_eq_true.1 hA;obtain ⟨k,hk⟩:=Tbk ha;exact ⟨k,a,hk,hp⟩
   obtain ⟨k,hk,hmin⟩:=ZCx hex;refine ⟨k,hk,fun j a hj ha=>?_⟩
   cases hp:P a with
   | false=>rfl
   | true=>exact absurd ⟨a,ha,hp⟩ (hmin j hj)
  obtain ⟨a0,ha0,hp0⟩:=hk;have hkl:=(Tad.1 ha0).1;refine ⟨(k:Int),⟨fun _=>hA,fun _=>om⟩,?_⟩;refine gI 66483 Tryz.func140 ?_;refine fG @tmz ?_;have F:=@e0P;refine gL (ι:=Nat) [4,5,8,9,16] [] (fun i=>[(8,A.d (.one (.lit (.int .i64 i))))]) (fun i=>[]) (fun i=>i<=k) (fun i=>k+1 - i) (0) om (fun i hi=>?_);clear F;have hl':(i:Int) < (ts.length:Int):=om;obtain ⟨a,ha⟩:∃ a,ts[i]?=some a:=⟨_,Taa om⟩;have hw1:=Zau (k:=i) om
  refine fB (ai @tmz @hl') ?_;refine fC (ai @tmz @ha) (h a (Tac ha)) ?_;by_cases hik:i=k
  ·subst hik;rw [ha] at ha0;injection ha0 with ha0
   subst ha0;refine fR (ai @tmz @hp0) ?_;exact fT @tmz
  ·have hpf:=hbef i a om ha;refine fR (ai @tmz @hpf) ?_;have F:=ai @hw1 @tmz;refine gG ?_;exact ⟨i+1,om,gw,gw,om⟩
 ·have hbef:∀ (j:Nat) a,ts[j]?=some a->P a=false:=fun j a ha=>by
   cases hp:P a with
   | false=>rfl
   | true=>exact absurd (List.any_eq_true.2 ⟨a,Tac ha,hp⟩) hA
  refine ⟨-1,⟨fun h=>om,fun h=>absurd h hA⟩,?_⟩;refine gI 66483 Tryz.func140 ?_;refine fG @tmz ?_;have F:=@e0P;refine gL (ι:=Nat) [4,5,8,9,16] [] (fun i=>[(8,A.d (.one (.lit (.int .i64 i))))]) (fun i=>[]) (fun i=>i<=ts.length) (fun i=>ts.length - i) (0) om (fun i hi=>?_);clear F;by_cases hi':i < ts.length;rotate_left
  ·have hl':¬ ((i:Int) < (ts.length:Int)):=om;exact fT (ai @tmz @hl')
  have hl':(i:Int) < (ts.length:Int):=om;obtain ⟨a,ha⟩:∃ a,ts[i]?=some a:=⟨_,Taa om⟩;have hw1:=Zau (k:=i) om;have hpf:=hbef i a ha;refine fB (ai @tmz @hl') ?_;refine fC (ai @tmz @ha) (h a (Tac ha)) ?_;refine fR (ai @tmz @hpf) ?_;have F:=ai @hw1 @tmz;refine gG ?_;exact ⟨i+1,om,gw,gw,om⟩
theorem Zk2 {ts:List Tm} {f:FuncId} {caps:List C} {P:Tm->Bool} (hl:ts.length<=big) (h:∀ a∈ts,Con e0 f (.agg (Zab a)::caps.map .one) [.one (.lit (.bool (P a)))]) :
  Con e0 106 [.one (.sl (Zaa ts)),.one (.fn f caps)] [.one (.lit (.bool (ts.any P)))]:=by
 obtain ⟨r,hr,c⟩:=Zob hl h;refine gI 19 Tryz.func106 ?_;refine fB @tmz ?_;refine fC @tmz (c) ?_;have e:decide (0<=r)=ts.any P:=by
  rw [Bool.eq_iff_iff,decide_eq_true_iff];exact hr
 refine fR @tmz ?_;exact fT @e
theorem ZcN {r:List C} (h:Zal (Zaf .cond) r):∃ (i0:Int) (t1:ByteArray) (i2:Int) (r3:List (List C)) (i4:Int) (t5:ByteArray) (i6:Int) (r7:List (List C)),r=[.lit (.int .i64 i0),.lit (.string t1),.lit (.int .i64 i2),.sl r3,.lit (.int .i64 i4),.lit (.string t5),.lit (.int .i64 i6),.sl r7]∧I64 i0∧t1.size<=maxLen∧I64 i2∧Zam (Zaf .term) r3∧I64 i4∧t5.size<=maxLen∧I64 i6∧Zam (Zaf .term) r7:=by
 obtain ⟨c0,c1,c2,c3,c4,c5,c6,c7,rfl⟩:=len8 h.len;simp only [Zaf,ZbU,occF,Zb8,sigF,Zdy,algF,Taf,Tah,redF,Zal,and_true] at h;obtain ⟨h0,h1,h2,h3,h4,h5,h6,h7⟩:=h;obtain ⟨i0,rfl,g0⟩:=Zcl h0;obtain ⟨t1,rfl,g1⟩:=Zfc h1;obtain ⟨i2,rfl,g2⟩:=Zcl h2;obtain ⟨r3,rfl,g3⟩:=ZdA h3;obtain ⟨i4,rfl,g4⟩:=Zcl h4;obtain ⟨t5,rfl,g5⟩:=Zfc h5;obtain ⟨i6,rfl,g6⟩:=Zcl h6;obtain ⟨r7,rfl,g7⟩:=ZdA h7;exact ⟨i0,t1,i2,r3,i4,t5,i6,r7,rfl,g0,g1,g2,g3,g4,g5,g6,g7⟩
theorem Zc4 {r:List C} (h:Zal (Zaf .eqn) r):∃ (i0:Int) (t1:ByteArray) (i2:Int) (r3:List (List C)) (i4:Int) (t5:ByteArray) (i6:Int) (r7:List (List C)) (r8:List (List C)),r=[.lit (.int .i64 i0),.lit (.string t1),.lit (.int .i64 i2),.sl r3,.lit (.int .i64 i4),.lit (.string t5),.lit (.int .i64 i6),.sl r7,.sl r8]∧I64 i0∧t1.size<=maxLen∧I64 i2∧Zam (Zaf .term) r3∧I64 i4∧t5.size<=maxLen∧I64 i6∧Zam (Zaf .term) r7∧Zam (Zaf .cond) r8:=by
 obtain ⟨c0,c1,c2,c3,c4,c5,c6,c7,c8,rfl⟩:=len9 h.len;simp only [Zaf,ZbU,occF,Zb8,sigF,Zdy,algF,Taf,Tah,redF,Zal,and_true] at h;obtain ⟨h0,h1,h2,h3,h4,h5,h6,h7,h8⟩:=h;obtain ⟨i0,rfl,g0⟩:=Zcl h0;obtain ⟨t1,rfl,g1⟩:=Zfc h1;obtain ⟨i2,rfl,g2⟩:=Zcl h2;obtain ⟨r3,rfl,g3⟩:=ZdA h3;obtain ⟨i4,rfl,g4⟩:=Zcl h4;obtain ⟨t5,rfl,g5⟩:=Zfc h5;obtain ⟨i6,rfl,g6⟩:=Zcl h6;obtain ⟨r7,rfl,g7⟩:=ZdA h7;obtain ⟨r8,rfl,g8⟩:=ZdA h8
 exact ⟨i0,t1,i2,r3,i4,t5,i6,r7,r8,rfl,g0,g1,g2,g3,g4,g5,g6,g7,g8⟩
theorem ZmU {i0:Int} {t1:ByteArray} {i2:Int} {r3:List (List C)} {i4:Int} {t5:ByteArray} {i6:Int} {r7:List (List C)} {r8:List (List C)} (g0:I64 i0) (g1:t1.size<=maxLen) (g2:I64 i2) (g3:Zam (Zaf .term) r3) (g4:I64 i4) (g5:t5.size<=maxLen) (g6:I64 i6) (g7:Zam (Zaf .term) r7) (g8:Zam (Zaf .cond) r8):Zal (Zaf .eqn) [.lit (.int .i64 i0),.lit (.string t1),.lit (.int .i64 i2),.sl r3,.lit (.int .i64 i4),.lit (.string t5),.lit (.int .i64 i6),.sl r7,.sl r8]:=by
 simp only [Zaf,ZbU,occF,Zb8,sigF,Zdy,algF,Taf,Tah,redF,Zal,and_true];exact ⟨Zgm g0,Zlc g1,Zgm g2,ZgT g3,Zgm g4,Zlc g5,Zgm g6,ZgT g7,ZgT g8⟩
section
variable {e:Env} {mask:Nat} {Q:PX->St->Prop} {ds:List (Option Nat)}
def ZA2 (L:List Oper):Nat->Nat->List Nat
 | 0,j=>ZbD L j
 | n+1,j=>ZbD L j++(ZbD L j).flatMap (ZA2 L n)
def ZA3 (L:List Oper) (j:Nat):List Nat:=ZA2 L 4 j
def Zmh (e:Env) (ds:List (Option Nat)) (L:List Oper) (B:St->Prop) (P:Nat->St->Prop):Nat->List Oper->Prop
 | _,[]=>True
 | i,o::os=>(∀ s m,B ⟨s,m⟩->(∀ j∈ZdR o,P j ⟨s,m⟩)->Runs e ds 0 [o] ⟨s,m⟩ (fun σ'=>B σ'∧P i σ'∧∀ j,j≠i->i ∉ ZA3 L j->P j ⟨s,m⟩->P j σ'))∧Zmh e ds L B P (i+1) os
theorem Zmh.get {L:List Oper} {B:St->Prop} {P:Nat->St->Prop}:∀ {l:List Oper} {k i:Nat} {o:Oper},Zmh e ds L B P k l->l[i]?=some o->∀ s m,B ⟨s,m⟩->(∀ j∈ZdR o,P j ⟨s,m⟩)->Runs e ds 0 [o] ⟨s,m⟩ (fun σ'=>B σ'∧P (k+i) σ'∧∀ j,j≠k+i->k+i ∉ ZA3 L j->P j ⟨s,m⟩->P j σ')
 | [],k,i,o,_,h=>by simp at h
 | x::l,k,0,o,h,ho=>by
  simp only [Tat,Taq] at ho;subst ho;exact h.1
 | x::l,k,i+1,o,h,ho=>by
  have:=Zmh.get (l:=l) (k:=k+1) (i:=i) (o:=o) h.2 (by simpa using ho);rw [show k+1+i=k+(i+1) by omega] at this;exact this
end
section
variable {X:Type} {S:X->Nat->List (Nat × A)} {M:X->Nat->List (Nat × Bk)} {d κ i:Nat} {L:List Oper} {s:List (Nat × A)} {m:List (Nat × Bk)} {α:A} {bk:Bk}
end
def Zmj (pm:List Bk) (l d:D):Prop:=l=d∨(∃ us row E,l=.agg (Zag us)∧d=.agg row∧.set E (fun w=>Zae w row E us)∈pm)∨(∃ v rows E,l=.one (.lit v)∧d=.one (.sl rows)∧.set E (fun w=>Own w (.sl rows) E v)∈pm)
def Zj4 (pm:List Bk):List D->List D->Prop
 | [],[]=>True
 | l::ls,d::ds=>Zmj pm l d∧Zj4 pm ls ds
 | _,_=>False
theorem Zmj.same {pm:List Bk} {d:D}:Zmj pm d d:=.inl rfl
theorem Zmj.tree {pm:List Bk} {us:List Value} {row:List C} {E:Nat->Prop} (h:.set E (fun w=>Zae w row E us)∈pm):Zmj pm (.agg (Zag us)) (.agg row):=.inr (.inl ⟨us,row,E,rfl,rfl,h⟩)
theorem Zj4.rel {pm:List Bk}:∀ {lits data:List D},Zj4 pm lits data->∀ (w:World) (S:Nat->Prop) (vs:List Value),(∀ x∈pm,ZbY w S x)->ZaB w S lits vs->ZaB w (fun b=>S b∨ZaR pm b) data vs
 | [],[],_,w,S,[],_,_=>trivial
 | [],[],_,w,S,_::_,_,h=>h.elim
 | l::ls,d::ds,hr,w,S,[],_,h=>h.elim
 | l::ls,d::ds,⟨h1,h2⟩,w,S,v::vs,hp,⟨hv,hvs⟩=>by
  refine ⟨?_,Zj4.rel h2 w S vs hp hvs⟩;rcases h1 with rfl | ⟨us,row,E,rfl,rfl,hm⟩ | ⟨u,rows,E,rfl,rfl,hm⟩
  ·exact DRel.keep (Tai _) (fun _ _ _=>rfl) (fun b hb=>.inl hb) hv
  ·obtain ⟨vs',rfl,hr⟩:=hv;rw [Zhk hr];obtain ⟨_,h3,_⟩:=hp _ hm;exact ⟨us,rfl,Zae.rep row E _ us (fun b hb=>.inr ⟨_,hm,hb⟩) h3⟩
  ·have hv:v=u:=hv;subst hv;obtain ⟨_,h3,_⟩:=hp _ hm;exact (Own.rep _ E v h3).mono fun b hb=>.inr ⟨_,hm,hb⟩
 | [],_::_,h,_,_,_,_,_=>h.elim
 | _::_,[],h,_,_,_,_,_=>h.elim
theorem Zs4 {e:Env} {f:FuncId} {data lits:List D} {R:List D->List Bk->Prop} (pm:List Bk) (h:ConP e f data [] R) (hr:Zj4 pm lits data) (hset:pm.all ZdN=true) (hR:∀ r q,R r q->r.all litD=true∧q.all ZdN=true):ConP e f lits pm (fun r q=>∃ q1,R r q1∧q=q1++pm) :=
 ZxT pm h hset hR hr.rel
theorem ZhH {e:Env} {f:FuncId} {data lits r:List D} (pm:List Bk) (h:Con e f data r) (hr:Zj4 pm lits data) (hset:pm.all ZdN=true) (hl:r.all litD=true):ConP e f lits pm (fun r' q=>r'=r∧q=pm):=by
 have hc:=Zs4 pm (ZCv h) hr hset (fun r' q ⟨h1,h2⟩=>by rw [h1,h2];exact ⟨hl,rfl⟩);refine ⟨hc.1,fun w S vs h1 h2 h3 h4 h5 h6=>(hc.2 w S vs h1 h2 h3 h4 h5 h6).mono ?_⟩;rintro en w' ⟨v,r',q,k1,⟨q1,⟨rfl,rfl⟩,rfl⟩,k3⟩;exact ⟨v,r',_,k1,⟨rfl,rfl⟩,k3⟩
theorem ZkA (us:List Value):(Zag us).all litC=true:=by
 induction us with
 | nil=>rfl
 | cons u us ih=>simp only [Zag,Tbt,List.all_cons,litC,Bool.true_and];exact ih
theorem Zbv.lits {row:List C} {r:List D} {q:List Bk} (h:Zbv row r q):r.all litD=true∧q.all ZdN=true:=by
 obtain ⟨us,E,rfl,_,_,rfl⟩:=h;exact ⟨by simp only [List.all_cons,List.all_nil,litD,ZkA];rfl,rfl⟩
theorem Zcs.lits {rows:List (List C)} {r:List D} {q:List Bk} (h:Zcs rows r q):r.all litD=true∧q.all ZdN=true:=by
 obtain ⟨v,E,rfl,_,rfl⟩:=h;exact ⟨rfl,rfl⟩
def Zc8 (row:List C) (b:Bool) (r:List D) (pm:List Bk):Prop:=∃ us E,r=[.agg (Zag us),.one (.lit (.bool b))]∧us.length=row.length∧(Zag us).all Zaj=true∧pm=[.set E (fun w=>Zae w row E us)]
theorem Zc8.lits {row:List C} {b:Bool} {r:List D} {q:List Bk} (h:Zc8 row b r q):r.all litD=true∧q.all ZdN=true:=by
 obtain ⟨us,E,rfl,_,_,rfl⟩:=h;exact ⟨by simp only [List.all_cons,List.all_nil,litD,ZkA];rfl,rfl⟩
def Zs5 (rows:List (List C)) (b:Bool) (r:List D) (pm:List Bk):Prop:=∃ v E,r=[.one (.lit v),.one (.lit (.bool b))]∧Zaj (.lit v)=true∧pm=[.set E (fun w=>Own w (.sl rows) E v)]
theorem Zs5.lits {rows:List (List C)} {b:Bool} {r:List D} {q:List Bk} (h:Zs5 rows b r q):r.all litD=true∧q.all ZdN=true:=by
 obtain ⟨v,E,rfl,_,rfl⟩:=h;exact ⟨rfl,rfl⟩
structure UU where
 v:Nat->Nat->Value
 E:Nat->Nat->Prop
 s:Nat->List (List Value)
 a:Nat->Option Addr
 c:Nat->Nat
def UU.z:UU:=⟨fun _ _=>.bool true,fun _ _=>False,fun _=>[],fun _=>none,fun _=>0⟩
def UU.ok (x:UU):Prop:=(∀ c k,Zaj (.lit (x.v c k))=true)∧∀ c,((x.s c).map Zag).all (fun r=>r.all Zaj)=true
theorem UU.z_ok:UU.z.ok:=⟨fun _ _=>rfl,fun _=>rfl⟩
def UU.two (c:Nat) (a b:UU):UU:=⟨fun d=>if d=c then a.v d else b.v d,fun d=>if d=c then a.E d else b.E d,fun d=>if d=c then a.s d else b.s d,fun d=>if d=c then a.a d else b.a d,fun d=>if d=c then a.c d else b.c d⟩
theorem UU.two_ok {c:Nat} {a b:UU} (ha:a.ok) (hb:b.ok):(UU.two c a b).ok:=⟨fun d k=>by
 simp only [UU.two];split
 ·exact ha.1 d k
 ·exact hb.1 d k,fun d=>by
 simp only [UU.two];split
 ·exact ha.2 d
 ·exact hb.2 d⟩
def UU.vs (us:List Value) (E:Nat->Prop):UU:=⟨fun _ k=>us.getD k (.bool true),fun _=>E,fun _=>[],fun _=>none,fun _=>0⟩
theorem UU.vs_ok {us:List Value} {E:Nat->Prop} (h:(Zag us).all Zaj=true):(UU.vs us E).ok:=⟨fun c k=>by
 show Zaj (.lit (us.getD k (.bool true)))=true;rw [List.getD_eq_getElem?_getD]
 cases hk:us[k]? with
 | none=>rfl
 | some u=>exact List.all_eq_true.1 h (.lit u) (Tbi.2 ⟨u,Tac hk,rfl⟩),fun _=>rfl⟩
theorem UU.v_ok {x:UU} (h:x.ok) (c k:Nat):Zaj (.lit (x.v c k))=true:=h.1 c k
def UU.sl (uss:List (List Value)) (a:Option Addr) (cap:Nat) (E:Nat->Prop):UU:=⟨fun _ _=>.bool true,fun _=>E,fun _=>uss,fun _=>a,fun _=>cap⟩
theorem Zs6 {w:World} {E:Nat->Prop}:Own w (.sl []) E (.slice none 0 0):=by
 simp only [Own];exact ⟨none,0,0,rfl,rfl,Tai _,by decide,fun h=>absurd h (by decide)⟩
theorem ZeI {w:World} {S:Nat->Prop}:∀ {us vs:List Value},Zac w S (Zag us) vs->vs=us
 | [],[],_=>rfl
 | u::us,v::vs,h=>by
  obtain ⟨h1,h2⟩:=h;have h1:v=u:=h1;rw [h1,ZeI h2]
 | [],_::_,h=>h.elim
 | _::_,[],h=>h.elim
theorem Kept.noPin {D:Prop} {E:Nat->Prop} {B:Nat} {w w':World} (h:Kept D (fun b=>E b∨ZaR [] b) B w w'):Kept D E B w w' :=
 ⟨h.os,h.tape,h.output,h.drawn,h.size,fun k hk hn=>h.block k hk fun h=>h.elim hn fun ⟨x,hx,_⟩=>by cases hx⟩
theorem Zqm {e:Env} {f:FuncId} {args:List D} {row:List C} (h:ConP e f args [] (Zbv row)):Con e f args [.agg row]:=by
 refine ⟨h.1,fun w S vs hS hE hG hv=>(h.2 w S vs hS hE hG (fun x hx=>by cases hx) trivial hv).mono ?_⟩;rintro en w' ⟨v,r,pm',h1,⟨us,E,rfl,hl,hok,rfl⟩,h3,h4,h5,h6,h7⟩;obtain ⟨⟨q1,q2,q3⟩,p2⟩:=h5 _ Tas;obtain ⟨us0,hu0,hr⟩:=h7;have e1:=ZeI hr;subst e1;refine ⟨v,h1,h3.noPin,h4,us0,hu0,Zae.rep _ _ _ _ (fun g hg=>.inr ⟨?_,(q1 g hg).1⟩) q2⟩;exact (p2 g hg).elim (fun ⟨x,hx,_⟩=>by cases hx) id
theorem Zya {e:Env} {f:FuncId} {args:List D} {row:List C} {b:Bool} (h:ConP e f args [] (Zc8 row b)):Con e f args [.agg row,.one (.lit (.bool b))]:=by
 refine ⟨h.1,fun w S vs hS hE hG hv=>(h.2 w S vs hS hE hG (fun x hx=>by cases hx) trivial hv).mono ?_⟩;rintro en w' ⟨v,r,pm',h1,⟨us,E,rfl,hl,hok,rfl⟩,h3,h4,h5,h6,h7⟩;obtain ⟨⟨q1,q2,q3⟩,p2⟩:=h5 _ Tas;obtain ⟨vs',hvs,hd⟩:=h7
 match vs',hd with
 | [u0,u1],⟨⟨us0,hu0,hr⟩,hb,_⟩ =>
  have e1:=ZeI hr;subst e1;refine ⟨v,h1,h3.noPin,h4,[u0,u1],hvs,⟨us0,hu0,Zae.rep _ _ _ _ (fun g hg=>.inr ⟨?_,(q1 g hg).1⟩) q2⟩,hb,trivial⟩;exact (p2 g hg).elim (fun ⟨x,hx,_⟩=>by cases hx) id
def Zdx (f:FuncId) (rows:List (List C)):Prop:=∀ (k:Int) (E:Nat->Prop) (v:Value),0<=k->k+cntRows rows<=1000000000->ConP e0 f [.one (.lit v),.one (.lit (.int .i64 k))] [.set E (fun w=>Own w (.sl rows) E v)] (fun r pm=>∃ E',r=[.one (.lit (.int .i64 (k+cntRows rows)))]∧pm=[.set E' (fun w=>Own w (.sl (Zak k rows)) E' v)])
theorem Zc0 (k:Int):Zak k []=[]:=by simp only [Zak]
theorem Zek:cntRows []=0:=by simp only [cntRows]
theorem Zgk {α:Type} {l:List α} {i:Nat} (h:i < l.length) (x:α):(l.set i x)[i]?=some x:=by simp [h]
theorem ZaT {α:Type} (l:List α) (i:Nat) (x:α):(l.set i x).length=l.length:=Taz
theorem ZaZ {α:Type} (l:List α) (i:Nat) (x y:α):(l.set i x).set i y=l.set i y:=List.set_set ..
theorem ZeJ {α:Type} {l:List α} {i:Nat} {x:α} (h:i < l.length):(l.set i x).take (i+1)=l.take i++[x]:=by
 rw [Zce (x:=x) (by simp [h]),List.take_set_of_le (Tai _)]
theorem ZeK {α:Type} (l:List α) (i:Nat) (x:α):(l.set i x).drop (i+1)=l.drop (i+1):=List.drop_set_of_lt om
theorem Zuc (rows:List (List C)) (hok:Zam (Zaf .term) rows) (h:∀ r∈rows,∀ i0 t1 i2 r3,r=[.lit (.int .i64 i0),.lit (.string t1),.lit (.int .i64 i2),.sl r3]->Zdx 80 r3):Zdx 80 rows:=by
 intro k E v hk hb;refine gIP (ts:=[.slot 4]) [1000] 563 Tryz.func80 ?_;refine fG @e0P ?_;by_cases hne:rows=[]
 ·subst hne;refine pEx [1000] [1000] ZgM ?_;rintro ⟨a,cap⟩ rfl;have F:=@hk;refine gL (ι:=Unit) [1,5,9] [] (fun x=>[(5,.d (.one (.lit (.int .i64 0)))),(1,.d (.one (.lit (.int .i64 k))))]) (fun x=>[]) (fun x=>True) (fun x=>0) (()) (trivial) (fun x hx=>?_);clear F;have q1:((0:Int) < 0)=False:=eq_false (by decide);have q2:((0:Int) < ((0:Nat):Int))=False:=eq_false (by decide);refine fG (ai @q1 @q2) ?_;have F:=hk
  refine gTP (R:=fun r pm=>∃ E',r=[.one (.lit (.int .i64 (k+(cntRows []:Nat))))]∧pm=[.set E' (fun w=>Own w (.sl (Zak k [])) E' (.slice a 0 cap))]) [1000] ⟨E,by simp only [cntRows,Int.natCast_zero,Int.add_zero];rfl,by simp only [Zak];rfl⟩
 ·have hrl:rowsLen 4 rows:=Zam.rowsLen hok;refine pEx [1000] [1000,1001] (Zfj hne hrl) ?_;rintro ⟨a,cap,ety,uss,E1⟩ ⟨rfl,hl,hmx⟩;simp only at hl ⊢;unfold maxLen at hmx;refine pE [] [1002] Zcv ?_;have F:=aj4 @Zc0 @Zek @Int.add_zero @Int.natCast_zero;refine gL (ι:=Nat × List (List Value) × (Nat->Prop) × (Nat->Prop)) [1,5,9] [1000,1001,1002] (fun x=>[(5,.d (.one (.lit (.int .i64 (x.1:Int))))),(1,.d (.one (.lit (.int .i64 (k+(cntRows (rows.take x.1):Nat))))))]) (fun x=>[(1000,.buf (some (a,cap)) ety 4 (x.2.1.map Zag)),(1001,.set x.2.2.1 (fun w=>Zap w (rows.drop x.1) x.2.2.1 (x.2.1.drop x.1))),(1002,.set x.2.2.2 (fun w=>Zap w (Zak k (rows.take x.1)) x.2.2.2 (x.2.1.take x.1)))]) (fun x=>x.1<=rows.length∧x.2.1.length=rows.length) (fun x=>rows.length - x.1) ((0,uss,E1,fun _=>False)) (⟨Taj _,hl⟩) (fun x hx=>?_);clear F
  obtain ⟨i,us,E2,E3⟩:=x;obtain ⟨hi,hn⟩:=hx;simp only at hi hn;dsimp only;by_cases hlt:i < rows.length
  ·obtain ⟨r,hr⟩:∃ r,rows[i]?=some r:=⟨_,Taa hlt⟩;obtain ⟨u,hu⟩:∃ u,us[i]?=some u:=⟨_,Taa om⟩;obtain ⟨i0,t1,i2,r3,rfl,_,_,_,g3⟩:=Zcy (hok.get hr);have hm:=h _ (Tac hr) i0 t1 i2 r3 rfl;have hc1:cntRows (rows.take (i+1))=cntRows (rows.take i)+(3+cntRows r3):=by
    rw [Zce hr,Zdp];simp only [ZcG,cntC];omega
   have hc2:=Zcf rows (i+1);rw [Zck hr,Zck hu];refine pEx [1001] [1001] (Zfk rfl) ?_;rintro ⟨⟩ hlit;obtain ⟨u3,rfl⟩:∃ u3,u=[.int .i64 i0,.string t1,.int .i64 i2,u3]:=by
    match u,hlit with
    | [_,_,_,u3],⟨rfl,rfl,rfl,_⟩=>exact ⟨u3,rfl⟩
   refine pEx (f:=fun (x:(Nat->Prop) × (Nat->Nat->Prop))=>[.set x.1 (fun w=>Zap w (rows.drop (i+1)) x.1 (us.drop (i+1))),.set (x.2 0) (fun w=>Own w (.sl r3) (x.2 0) u3)]) [1001] [1001,1003] (ZgO rfl) ?_;rintro ⟨E4,Es⟩ -;dsimp only;generalize hkk:k+(cntRows (rows.take i):Int)=kk;have q1:=lT i rows.length;have q2:i < rows.length:=hlt;have hs:∀ X:List C,((us.map Zag).set i X)[i]?=some X:=fun X=>Zgk (by rw [ZaH,hn];omega) X
   have w1:IntKind.i64.wrap (kk+1)=kk+1:=IntWalk.i64_in _ om;have w2:IntKind.i64.wrap (kk+1+1)=kk+1+1:=IntWalk.i64_in _ om;have w3:IntKind.i64.wrap (kk+1+1+1)=kk+1+1+1:=IntWalk.i64_in _ om;have w4:IntKind.i64.wrap ((i:Int)+1)=(i:Int)+1:=IntWalk.i64_in _ om;refine fB (aj13 @q1 @hl @hn @hu @ZdY @ZaH @ZaT @hs @w1 @w2 @w3 @q2 @ZaZ) ?_;refine fC @q1 (ZcF (kk+1) om om) ?_;refine fR (aj9 @hl @hn @hu @ZdY @ZaH @ZaT @hs @q2 @ZaZ) ?_
   refine fB (aj13 @q1 @hl @hn @hu @ZdY @ZaH @ZaT @hs @w1 @w2 @w3 @q2 @ZaZ) ?_;have F:=aj13 @q1 @hl @hn @hu @ZdY @ZaH @ZaT @hs @w1 @w2 @w3 @q2 @ZaZ;refine gCP [1003] [1003] (hm (kk+1+1+1) (Es 0) u3 om om) ?_;clear F;rintro r pm ⟨E5,rfl,rfl⟩;simp only [setA,retA,zipM,Taf,Tah];refine fR @q1 ?_;obtain ⟨E6,hre⟩:∃ E6,Za2 [.set E3 (fun w=>Zap w (Zak k (rows.take i)) E3 (us.take i)),.set E5 (fun w=>Own w (.sl (Zak (kk+1+1+1) r3)) E5 u3)] [.set E6 (fun w=>Zap w (Zak k (rows.take (i+1))) E6 ((us.set i [.int .i64 kk,.string (txt (kk+1)),.int .i64 (kk+1+1),u3]).take (i+1)))]:=by
    have hz:=ZgP (E:=E3) (done:=Zak k (rows.take i)) (ud:=us.take i) (cs:=[.lit (.int .i64 kk),.lit (.string (txt (kk+1))),.lit (.int .i64 (kk+1+1)),.sl (Zak (kk+1+1+1) r3)]) (us:=[.int .i64 kk,.string (txt (kk+1)),.int .i64 (kk+1+1),u3]) (Es:=fun _=>E5) rfl ⟨rfl,rfl,rfl,trivial⟩;rw [Zce hr,Zc2,hkk,ZeJ om];simp only [ZcZ,mkC,mkV,cntC,Int.natCast_one];exact ⟨_,hz⟩
   refine pE [1002,1003] [1002] hre ?_;have e1:((us.set i [.int .i64 kk,.string (txt (kk+1)),.int .i64 (kk+1+1),u3]).map Zag)=(us.map Zag).set i [.lit (.int .i64 kk),.lit (.string (txt (kk+1))),.lit (.int .i64 (kk+1+1)),.lit u3]:=by rw [List.map_set,ZdY]
   have e2:=ZeK us i [.int .i64 kk,.string (txt (kk+1)),.int .i64 (kk+1+1),u3];have e5:k+(cntRows (rows.take (i+1)):Int)=kk+1+1+1+(cntRows r3:Int):=by rw [hc1];omega
   have hn2:(us.set i [.int .i64 kk,.string (txt (kk+1)),.int .i64 (kk+1+1),u3]).length=rows.length:=by rw [ZaT,hn]
   generalize us.set i [.int .i64 kk,.string (txt (kk+1)),.int .i64 (kk+1+1),u3]=us2 at e1 e2 hn2 ⊢;rw [<- e1,<- e2];have F:=aj3 @w4 @e5 @hl;refine gG ?_;exact ⟨(i+1,us2,E4,E6),⟨hlt,hn2⟩,gw,gw,om⟩
  ·obtain rfl:i=rows.length:=by omega
   have q1:=lF rows.length rows.length;rw [Tap,List.take_of_length_le (Nat.le_of_eq hn)];refine fG (aj3 @q1 @hl @hn) ?_;obtain ⟨E6,hre⟩:∃ E6,Za2 [.buf (some (a,cap)) ety 4 (us.map Zag),.set E3 (fun w=>Zap w (Zak k rows) E3 us)] [.set E6 (fun w=>Own w (.sl (Zak k rows)) E6 (.slice a uss.length cap))]:=by
    rw [hl,<- hn];exact ⟨_,Zb7 (fun w h=>h) (Own.stable _ _ _)⟩
   refine pE [1000,1002] [1000] hre ?_;have F:=hk;exact gTP (R:=fun r pm=>∃ E',r=[.one (.lit (.int .i64 (k+(cntRows rows:Nat))))]∧pm=[.set E' (fun w=>Own w (.sl (Zak k rows)) E' (.slice a uss.length cap))]) [1000] ⟨E6,rfl,rfl⟩
theorem Zre (n:Nat):∀ rows,ZbS rows < n->Zam (Zaf .term) rows->Zdx 80 rows:=by
 induction n with
 | zero=>exact fun _ h=>om
 | succ n ih =>
  intro rows hn hok;refine Zuc rows hok fun r hr i0 t1 i2 r3 he=>?_;subst he;obtain ⟨i,hi⟩:=Tbk hr;have h1:=Zb9 hi;obtain ⟨_,_,_,_,he,_,_,_,g3⟩:=Zcy (hok.get hi);injection he with _ he;injection he with _ he;injection he with _ he;injection he with he _;injection he with he;subst he
  simp only [Zba,Zdb] at h1;exact ih _ om g3
theorem ZfR {rows:List (List C)} (hok:Zam (Zaf .term) rows):Zdx 80 rows:=Zre _ rows (Tan _) hok
def Zcq:Int->List C->List C
 | _,[]=>[]
 | k,.sl rows::cs=>.sl (Zak k rows)::Zcq (k+cntRows rows) cs
 | k,c::cs=>c::Zcq k cs
def cntTop:List C->Nat
 | []=>0
 | .sl rows::cs=>cntRows rows+cntTop cs
 | _::cs=>cntTop cs
def ZoF (f:FuncId) (row:List C):Prop:=∀ (k:Int) (E:Nat->Prop) (us:List Value),us.length=row.length->(Zag us).all Zaj=true->0<=k->k+cntTop row<=1000000000->ConP e0 f [.agg (Zag us),.one (.lit (.int .i64 k))] [.set E (fun w=>Zae w row E us)] (fun r pm=>∃ E',r=[.one (.lit (.int .i64 (k+cntTop row)))]∧pm=[.set E' (fun w=>Zae w (Zcq k row) E' us)])
theorem Zs9 {E:Nat->Prop} {r:List C} {us:List Value} (hp:r.all ZdS=true):ZhW (ι:=Unit) [.set E (fun w=>Zae w r E us)] (fun _=>Zea r us) (fun _=>[.set E (fun w=>Zae w r E us)]):=fun w S h ha=>by
 obtain ⟨h1,h2,h3⟩:(∀ b,E b->b < w.heap.size∧¬ S b)∧Zae w r E us∧_:=h (.set E (fun w=>Zae w r E us)) (by simp);obtain ⟨Es,hl,_⟩:=ZgN (S:=S) hp h2 h1;exact ⟨(),hl,h,ha,fun _ h=>h⟩
theorem ZeL {E:Nat->Prop} {r:List C} {us:List Value} (hp:r.all ZdS=true):ZhW (ι:=Nat->Nat->Prop) [.set E (fun w=>Zae w r E us)] (fun _=>True) (fun i=>Zbc r us i):=fun w S h ha=>by
 obtain ⟨h1,h2,h3⟩:(∀ b,E b->b < w.heap.size∧¬ S b)∧Zae w r E us∧_:=h (.set E (fun w=>Zae w r E us)) (by simp);obtain ⟨Es,hl,q1,q2,q3⟩:=ZgN (S:=S) hp h2 h1;exact ⟨Es,trivial,q1,q2,fun g hg=>⟨_,Tas,q3 g hg⟩⟩
theorem ZeM {cs:List C} {us:List Value} {Es:Nat->Nat->Prop} (hp:cs.all ZdS=true) (hl:Zea cs us):Za2 (Zbc cs us Es) [.set (ZaR (Zbc cs us Es)) (fun w=>Zae w cs (ZaR (Zbc cs us Es)) us)]:=fun w S h ha=>by
 have hv:=Zae.of_cells (w:=w) (S:=S) hp hl h ha;refine ⟨fun x hx=>?_,ZdX _,fun g ⟨x,hx,hg⟩=>?_⟩
 ·simp only [Tbg,List.not_mem_nil,or_false] at hx;subst hx;refine ⟨fun b ⟨y,hy,hg⟩=>?_,hv,Zae.stable _ _ _⟩;obtain ⟨E',G',rfl⟩:=Zfa y hy;exact (h _ hy).1 b hg
 ·simp only [Tbg,List.not_mem_nil,or_false] at hx;subst hx;exact hg
theorem Zjy {row:List C} (hok:Zal (Zaf .term) row):ZoF 38 row:=by
 obtain ⟨i0,t1,i2,r3,rfl,_,_,_,g3⟩:=Zcy hok;intro k E us hl hc hk hb;obtain ⟨u0,u1,u2,u3,rfl⟩:=len4 hl;obtain ⟨k0,k1,k2,k3⟩:=okc4 hc;simp only [cntTop,Nat.add_zero] at hb ⊢;rw [ZdY];refine gIP (ts:=[.slot 4]) [1000] 23 Tryz.func38 ?_;refine pEx [1000] [1000] (Zs9 rfl) ?_;rintro ⟨⟩ ⟨rfl,rfl,rfl,_⟩;refine pEx (f:=fun (x:Nat->Nat->Prop)=>[.set (x 0) (fun w=>Own w (.sl r3) (x 0) u3)]) [1000] [1000] (ZeL rfl) ?_
 rintro Es -;refine fB (aj4 @k0 @k1 @k2 @k3) ?_;have F:=aj4 @k0 @k1 @k2 @k3;refine gCP [1000] [1000] (ZfR g3 k (Es 0) u3 hk hb) ?_;clear F;rintro r pm ⟨E5,rfl,rfl⟩;simp only [setA,retA,zipM,Taf,Tah];refine fR (aj4 @k0 @k1 @k2 @k3) ?_;refine fG (aj4 @k0 @k1 @k2 @k3) ?_
 obtain ⟨E6,hre⟩:∃ E6,Za2 [.set E5 (fun w=>Own w (.sl (Zak k r3)) E5 u3)] [.set E6 (fun w=>Zae w [.lit (.int .i64 i0),.lit (.string t1),.lit (.int .i64 i2),.sl (Zak k r3)] E6 [.int .i64 i0,.string t1,.int .i64 i2,u3])] :=
  ⟨_,ZeM (cs:=[.lit (.int .i64 i0),.lit (.string t1),.lit (.int .i64 i2),.sl (Zak k r3)]) (us:=[.int .i64 i0,.string t1,.int .i64 i2,u3]) (Es:=fun _=>E5) rfl ⟨rfl,rfl,rfl,trivial⟩⟩
 refine pE [1000] [1000] hre ?_;have F:=hk;exact gTP (R:=fun r pm=>∃ E',r=[.one (.lit (.int .i64 (k+(cntRows r3:Nat))))]∧pm=[.set E' (fun w=>Zae w (Zcq k [.lit (.int .i64 i0),.lit (.string t1),.lit (.int .i64 i2),.sl r3]) E' [.int .i64 i0,.string t1,.int .i64 i2,u3])]) [1000] ⟨E6,rfl,by simp only [Zcq];rfl⟩
def Zj6 (f:FuncId) (rows:List (List C)):Prop:=∀ (k:Int),0<=k->k+cntRows rows<=1000000000->Con e0 f [.one (.sl (Zak k rows)),.one (.lit (.int .i64 k))] [.one (.lit (.int .i64 (k+cntRows rows)))]
theorem Zis:∀ {rows:List (List C)} {i:Nat} {r:List C} (k:Int),rows[i]?=some r->(Zak k rows)[i]?=some (ZcZ (k+cntRows (rows.take i)) r)
 | q::rows,0,r,k,h=>by simp at h;subst h;simp [Zak,cntRows]
 | q::rows,i+1,r,k,h=>by
  simp only [Tau] at h;simp only [Zak,Tau,Tbc,cntRows];rw [Zis _ h];congr 2;omega
 | [],_,_,_,h=>by simp at h
theorem ZCi {v:Value} {k:Int} (h:Zaj (.lit v)=true):Zaj (.lit (mkV k v))=true:=by
 cases v <;> first | rfl | exact h
theorem ZkB:∀ (cs:List C) (k:Int),cs.all Zaj=true->(ZcZ k cs).all Zaj=true
 | [],_,_=>by simp [ZcZ]
 | c::cs,k,h=>by
  simp only [List.all_cons,Tar] at h;simp only [ZcZ,List.all_cons,Tar];refine ⟨?_,ZkB cs _ h.2⟩
  cases c with
  | lit v=>simp only [mkC];exact ZCi h.1
  | _=>simp [mkC,Zaj]
theorem Zud {n:Nat}:∀ {rows:List (List C)} (k:Int),rowsLen n rows->ZaA n (Zak k rows)=true
 | [],k,_=>by simp [Zak,ZaA]
 | r::rows,k,h=>by
  have h1:=h r Tas;have h2:=Zud (k+ZcG r) (fun x hx=>h x (Tal _ hx):rowsLen n rows);unfold ZaA at h2 ⊢;simp only [Zak,List.all_cons,Tar];exact ⟨⟨by rw [ZnN,h1.1];exact beq_self_eq_true n,ZkB _ _ h1.2⟩,h2⟩
theorem Zue (rows:List (List C)) (hok:Zam (Zaf .term) rows) (hmx:rows.length<=1048576) (h:∀ r∈rows,∀ i0 t1 i2 r3,r=[.lit (.int .i64 i0),.lit (.string t1),.lit (.int .i64 i2),.sl r3]->Zj6 81 r3):Zj6 81 rows:=by
 intro k hk hb;have hrb:ZaA 4 (Zak k rows)=true:=Zud k hok.rowsLen;have hml:=Zin k rows;refine gI (ts:=[.slot 4]) 281612684362291 Tryz.func81 ?_;refine fG @e0P ?_;have F:=aj4 @Zc0 @Zek @Int.add_zero @Int.natCast_zero;refine gL (ι:=Nat) [1,4,5,9,18,28,37,48] [] (fun x=>[(5,.d (.one (.lit (.int .i64 (x:Int))))),(1,.d (.one (.lit (.int .i64 (k+(cntRows (rows.take x):Nat))))))]) (fun x=>[]) (fun x=>x<=rows.length) (fun x=>rows.length - x) (0) (Taj _) (fun x hx=>?_);clear F
 by_cases hlt:x < rows.length
 ·obtain ⟨r,hr⟩:∃ r,rows[x]?=some r:=⟨_,Taa hlt⟩;obtain ⟨i0,t1,i2,r3,rfl,_,_,_,g3⟩:=Zcy (hok.get hr);have hm:=h _ (Tac hr) i0 t1 i2 r3 rfl;have hc1:cntRows (rows.take (x+1))=cntRows (rows.take x)+(3+cntRows r3):=by
   rw [Zce hr,Zdp];simp only [ZcG,cntC];omega
  have hc2:=Zcf rows (x+1);have hg:=Zis k hr;simp only [ZcZ,mkC,mkV,cntC,Int.natCast_one] at hg;have e5:k+(cntRows (rows.take (x+1)):Int)=k+(cntRows (rows.take x):Int)+1+1+1+(cntRows r3:Int):=by rw [hc1];omega
  have b1:k+(cntRows (rows.take x):Int)+3+cntRows r3<=1000000000:=om;have b0:0<=k+(cntRows (rows.take x):Int):=om;generalize k+(cntRows (rows.take x):Int)=kk at hg e5 b1 b0 ⊢;have q1:=lT x rows.length;have w1:IntKind.i64.wrap (kk+1)=kk+1:=IntWalk.i64_in _ om;have w2:IntKind.i64.wrap (kk+1+1)=kk+1+1:=IntWalk.i64_in _ om;have w3:IntKind.i64.wrap (kk+1+1+1)=kk+1+1+1:=IntWalk.i64_in _ om;have w4:IntKind.i64.wrap ((x:Int)+1)=(x:Int)+1:=IntWalk.i64_in _ om
  refine fB (aj6 @q1 @hml @hrb @hg @beq_self_eq_true.{0} @w1) ?_;refine fC (aj4 @q1 @hml @hrb @hg) (ZcF (kk+1) om om) ?_;refine fR (aj5 @q1 @hml @hrb @hg @beq_self_eq_true.{0}) ?_;refine fB (aj8 @q1 @hml @hrb @hg @beq_self_eq_true.{0} @w1 @w2 @w3) ?_;refine fC (aj4 @q1 @hml @hrb @hg) (hm (kk+1+1+1) om om) ?_;refine fR @q1 ?_;have q5:(kk+1+1+1+(cntRows r3:Int) < 0)=False:=eq_false om;have F:=aj3 @q5 @w4 @e5;refine gG ?_;exact ⟨x+1,hlt,gw,gw,om⟩
 ·obtain rfl:x=rows.length:=by omega
  have q1:=lF rows.length rows.length;rw [Tap];exact fD (ai @q1 @hml)
theorem Zrf (n:Nat):∀ rows,ZbS rows < n->Zam (Zaf .term) rows->rows.length+bulkRows rows<=1048576->Zj6 81 rows:=by
 induction n with
 | zero=>exact fun _ h=>om
 | succ n ih =>
  intro rows hn hok hB;refine Zue rows hok om fun r hr i0 t1 i2 r3 he=>?_;subst he;obtain ⟨i,hi⟩:=Tbk hr;have h1:=Zb9 hi;have h2:=Zcg hi;obtain ⟨_,_,_,_,he,_,_,_,g3⟩:=Zcy (hok.get hi);injection he with _ he;injection he with _ he;injection he with _ he;injection he with he _;injection he with he;subst he
  simp only [Zba,Zdb] at h1;simp only [bulkRow,Za6] at h2;exact ih _ om g3 om
theorem ZfS {rows:List (List C)} (hok:Zam (Zaf .term) rows) (hB:rows.length+bulkRows rows<=1048576):Zj6 81 rows:=Zrf _ rows (Tan _) hok hB
theorem Zjz {row:List C} (hok:Zal (Zaf .term) row) (hB:bulkRow row<=1048576) (k:Int) (hk:0<=k) (hb:k+cntTop row<=1000000000):Con e0 40 [.agg (Zcq k row),.one (.lit (.int .i64 k))] [.one (.lit (.int .i64 (k+cntTop row)))]:=by
 obtain ⟨i0,t1,i2,r3,rfl,_,_,_,g3⟩:=Zcy hok;simp only [cntTop,Nat.add_zero] at hb ⊢;simp only [bulkRow,Za6] at hB;simp only [Zcq];have q5:(k+(cntRows r3:Int) < 0)=False:=eq_false om;refine gI (ts:=[.slot 4]) 1047 Tryz.func40 ?_;refine fB @e0P ?_;refine fC @q5 (ZfS g3 om k hk hb) ?_;refine fR @q5 ?_;exact fD @q5
theorem Zmm {rows:List (List C)} (hok:Zam (Zaf .str) rows):Zdx 76 rows:=by
 intro k E v hk hb;refine gIP (ts:=[.slot 4]) [1000] 563 Tryz.func76 ?_;refine fG @e0P ?_;by_cases hne:rows=[]
 ·subst hne;refine pEx [1000] [1000] ZgM ?_;rintro ⟨a,cap⟩ rfl;have F:=@hk;refine gL (ι:=Unit) [1,5,9] [] (fun x=>[(5,.d (.one (.lit (.int .i64 0)))),(1,.d (.one (.lit (.int .i64 k))))]) (fun x=>[]) (fun x=>True) (fun x=>0) (()) (trivial) (fun x hx=>?_);clear F;have q1:((0:Int) < 0)=False:=eq_false (by decide);have q2:((0:Int) < ((0:Nat):Int))=False:=eq_false (by decide);refine fG (ai @q1 @q2) ?_;have F:=hk
  refine gTP (R:=fun r pm=>∃ E',r=[.one (.lit (.int .i64 (k+(cntRows []:Nat))))]∧pm=[.set E' (fun w=>Own w (.sl (Zak k [])) E' (.slice a 0 cap))]) [1000] ⟨E,by simp only [cntRows,Int.natCast_zero,Int.add_zero];rfl,by simp only [Zak];rfl⟩
 ·have hrl:rowsLen 1 rows:=Zam.rowsLen hok;refine pEx [1000] [1000,1001] (Zfj hne hrl) ?_;rintro ⟨a,cap,ety,uss,E1⟩ ⟨rfl,hl,hmx⟩;simp only at hl ⊢;unfold maxLen at hmx;refine pE [] [1002] Zcv ?_;have F:=aj4 @Zc0 @Zek @Int.add_zero @Int.natCast_zero;refine gL (ι:=Nat × List (List Value) × (Nat->Prop) × (Nat->Prop)) [1,5,9] [1000,1001,1002] (fun x=>[(5,.d (.one (.lit (.int .i64 (x.1:Int))))),(1,.d (.one (.lit (.int .i64 (k+(cntRows (rows.take x.1):Nat))))))]) (fun x=>[(1000,.buf (some (a,cap)) ety 1 (x.2.1.map Zag)),(1001,.set x.2.2.1 (fun w=>Zap w (rows.drop x.1) x.2.2.1 (x.2.1.drop x.1))),(1002,.set x.2.2.2 (fun w=>Zap w (Zak k (rows.take x.1)) x.2.2.2 (x.2.1.take x.1)))]) (fun x=>x.1<=rows.length∧x.2.1.length=rows.length) (fun x=>rows.length - x.1) ((0,uss,E1,fun _=>False)) (⟨Taj _,hl⟩) (fun x hx=>?_);clear F
  obtain ⟨i,us,E2,E3⟩:=x;obtain ⟨hi,hn⟩:=hx;simp only at hi hn;dsimp only;by_cases hlt:i < rows.length
  ·obtain ⟨r,hr⟩:∃ r,rows[i]?=some r:=⟨_,Taa hlt⟩;obtain ⟨u,hu⟩:∃ u,us[i]?=some u:=⟨_,Taa om⟩;obtain ⟨t0,rfl,g0⟩:=Zd5 (hok.get hr);have hc1:cntRows (rows.take (i+1))=cntRows (rows.take i)+(1):=by
    rw [Zce hr,Zdp];simp only [ZcG,cntC];try omega
   have hc2:=Zcf rows (i+1);rw [Zck hr,Zck hu];refine pEx [1001] [1001] (Zfk rfl) ?_;rintro ⟨⟩ hlit;obtain rfl:u=[.string t0]:=by
    match u,hlit with
    | [_],⟨rfl,_⟩=>rfl
   refine pEx (f:=fun (x:(Nat->Prop) × (Nat->Nat->Prop))=>[.set x.1 (fun w=>Zap w (rows.drop (i+1)) x.1 (us.drop (i+1)))]) [1001] [1001] (ZgO rfl) ?_;rintro ⟨E4,Es⟩ -;dsimp only;have hkk0:0<=k+(cntRows (rows.take i):Int):=om;have hkk1:k+(cntRows (rows.take i):Int)+((1:Nat):Int)<=1000000000:=om;generalize hkk:k+(cntRows (rows.take i):Int)=kk at hkk0 hkk1 ⊢;have q1:=lT i rows.length;have q2:i < rows.length:=hlt
   have hs:∀ X:List C,((us.map Zag).set i X)[i]?=some X:=fun X=>Zgk (by rw [ZaH,hn];omega) X;have lr:Zag [.string t0]=[.lit (.string t0)]:=rfl;have w0:IntKind.i64.wrap (kk+1)=kk+1:=IntWalk.i64_in _ om;have wi:IntKind.i64.wrap ((i:Int)+1)=(i:Int)+1:=IntWalk.i64_in _ om;refine fB (aj11 @q1 @hl @hn @hu @lr @ZaH @ZaT @hs @w0 @q2 @ZaZ) ?_;refine fC (aj11 @q1 @hl @hn @hu @lr @ZaH @ZaT @hs @w0 @q2 @ZaZ) (ZcF (kk) om om) ?_
   refine fR (aj11 @q1 @hl @hn @hu @lr @ZaH @ZaT @hs @w0 @q2 @ZaZ) ?_;obtain ⟨E6,hre⟩:∃ E6,Za2 [.set E3 (fun w=>Zap w (Zak k (rows.take i)) E3 (us.take i))] [.set E6 (fun w=>Zap w (Zak k (rows.take (i+1))) E6 ((us.set i [.string (txt (kk))]).take (i+1)))]:=by
    have hz:=ZgP (E:=E3) (done:=Zak k (rows.take i)) (ud:=us.take i) (cs:=[.lit (.string (txt (kk)))]) (us:=[.string (txt (kk))]) (Es:=fun _ _=>False) rfl ⟨rfl,trivial⟩;rw [Zce hr,Zc2,hkk,ZeJ om];simp only [ZcZ,mkC,mkV,cntC,Int.natCast_one];exact ⟨_,hz⟩
   refine pE [1002] [1002] hre ?_;have e1:((us.set i [.string (txt (kk))]).map Zag)=(us.map Zag).set i [.lit (.string (txt (kk)))]:=by rw [List.map_set];rfl
   have e2:=ZeK us i [.string (txt (kk))];have e5:k+(cntRows (rows.take (i+1)):Int)=kk+1:=by rw [hc1];omega
   have hn2:(us.set i [.string (txt (kk))]).length=rows.length:=by rw [ZaT,hn]
   generalize us.set i [.string (txt (kk))]=us2 at e1 e2 hn2 ⊢;rw [<- e1,<- e2];have F:=aj5 @wi @e5 @hl @w0 @hn;refine gG ?_;exact ⟨(i+1,us2,E4,E6),⟨hlt,hn2⟩,gw,gw,om⟩
  ·obtain rfl:i=rows.length:=by omega
   have q1:=lF rows.length rows.length;rw [Tap,List.take_of_length_le (Nat.le_of_eq hn)];refine fG (aj3 @q1 @hl @hn) ?_;obtain ⟨E6,hre⟩:∃ E6,Za2 [.buf (some (a,cap)) ety 1 (us.map Zag),.set E3 (fun w=>Zap w (Zak k rows) E3 us)] [.set E6 (fun w=>Own w (.sl (Zak k rows)) E6 (.slice a uss.length cap))]:=by
    rw [hl,<- hn];exact ⟨_,Zb7 (fun w h=>h) (Own.stable _ _ _)⟩
   refine pE [1000,1002] [1000] hre ?_;have F:=hk;exact gTP (R:=fun r pm=>∃ E',r=[.one (.lit (.int .i64 (k+(cntRows rows:Nat))))]∧pm=[.set E' (fun w=>Own w (.sl (Zak k rows)) E' (.slice a uss.length cap))]) [1000] ⟨E6,rfl,rfl⟩
theorem Zmn {rows:List (List C)} (hok:Zam (Zaf .str) rows):Zdx 76 rows:=Zmm hok
theorem Zqn {rows:List (List C)} (hok:Zam (Zaf .sub) rows):Zdx 77 rows:=by
 intro k E v hk hb;refine gIP (ts:=[.slot 4]) [1000] 563 Tryz.func77 ?_;refine fG @e0P ?_;by_cases hne:rows=[]
 ·subst hne;refine pEx [1000] [1000] ZgM ?_;rintro ⟨a,cap⟩ rfl;have F:=@hk;refine gL (ι:=Unit) [1,5,9] [] (fun x=>[(5,.d (.one (.lit (.int .i64 0)))),(1,.d (.one (.lit (.int .i64 k))))]) (fun x=>[]) (fun x=>True) (fun x=>0) (()) (trivial) (fun x hx=>?_);clear F;have q1:((0:Int) < 0)=False:=eq_false (by decide);have q2:((0:Int) < ((0:Nat):Int))=False:=eq_false (by decide);refine fG (ai @q1 @q2) ?_;have F:=hk
  refine gTP (R:=fun r pm=>∃ E',r=[.one (.lit (.int .i64 (k+(cntRows []:Nat))))]∧pm=[.set E' (fun w=>Own w (.sl (Zak k [])) E' (.slice a 0 cap))]) [1000] ⟨E,by simp only [cntRows,Int.natCast_zero,Int.add_zero];rfl,by simp only [Zak];rfl⟩
 ·have hrl:rowsLen 2 rows:=Zam.rowsLen hok;refine pEx [1000] [1000,1001] (Zfj hne hrl) ?_;rintro ⟨a,cap,ety,uss,E1⟩ ⟨rfl,hl,hmx⟩;simp only at hl ⊢;unfold maxLen at hmx;refine pE [] [1002] Zcv ?_;have F:=aj4 @Zc0 @Zek @Int.add_zero @Int.natCast_zero;refine gL (ι:=Nat × List (List Value) × (Nat->Prop) × (Nat->Prop)) [1,5,9] [1000,1001,1002] (fun x=>[(5,.d (.one (.lit (.int .i64 (x.1:Int))))),(1,.d (.one (.lit (.int .i64 (k+(cntRows (rows.take x.1):Nat))))))]) (fun x=>[(1000,.buf (some (a,cap)) ety 2 (x.2.1.map Zag)),(1001,.set x.2.2.1 (fun w=>Zap w (rows.drop x.1) x.2.2.1 (x.2.1.drop x.1))),(1002,.set x.2.2.2 (fun w=>Zap w (Zak k (rows.take x.1)) x.2.2.2 (x.2.1.take x.1)))]) (fun x=>x.1<=rows.length∧x.2.1.length=rows.length) (fun x=>rows.length - x.1) ((0,uss,E1,fun _=>False)) (⟨Taj _,hl⟩) (fun x hx=>?_);clear F
  obtain ⟨i,us,E2,E3⟩:=x;obtain ⟨hi,hn⟩:=hx;simp only at hi hn;dsimp only;by_cases hlt:i < rows.length
  ·obtain ⟨r,hr⟩:∃ r,rows[i]?=some r:=⟨_,Taa hlt⟩;obtain ⟨u,hu⟩:∃ u,us[i]?=some u:=⟨_,Taa om⟩;obtain ⟨i0,i1,rfl,g0,g1⟩:=ZgY (hok.get hr);have hc1:cntRows (rows.take (i+1))=cntRows (rows.take i)+(2):=by
    rw [Zce hr,Zdp];simp only [ZcG,cntC];try omega
   have hc2:=Zcf rows (i+1);rw [Zck hr,Zck hu];refine pEx [1001] [1001] (Zfk rfl) ?_;rintro ⟨⟩ hlit;obtain rfl:u=[.int .i64 i0,.int .i64 i1]:=by
    match u,hlit with
    | [_,_],⟨rfl,rfl,_⟩=>rfl
   refine pEx (f:=fun (x:(Nat->Prop) × (Nat->Nat->Prop))=>[.set x.1 (fun w=>Zap w (rows.drop (i+1)) x.1 (us.drop (i+1)))]) [1001] [1001] (ZgO rfl) ?_;rintro ⟨E4,Es⟩ -;dsimp only;have hkk0:0<=k+(cntRows (rows.take i):Int):=om;have hkk1:k+(cntRows (rows.take i):Int)+((2:Nat):Int)<=1000000000:=om;generalize hkk:k+(cntRows (rows.take i):Int)=kk at hkk0 hkk1 ⊢;have q1:=lT i rows.length;have q2:i < rows.length:=hlt
   have hs:∀ X:List C,((us.map Zag).set i X)[i]?=some X:=fun X=>Zgk (by rw [ZaH,hn];omega) X;have lr:Zag [.int .i64 i0,.int .i64 i1]=[.lit (.int .i64 i0),.lit (.int .i64 i1)]:=rfl;have w0:IntKind.i64.wrap (kk+1)=kk+1:=IntWalk.i64_in _ om;have w1:IntKind.i64.wrap (kk+1+1)=kk+1+1:=IntWalk.i64_in _ om;have wi:IntKind.i64.wrap ((i:Int)+1)=(i:Int)+1:=IntWalk.i64_in _ om;refine fN 3 (aj12 @q1 @hl @hn @hu @lr @ZaH @ZaT @hs @w0 @w1 @q2 @ZaZ) ?_
   obtain ⟨E6,hre⟩:∃ E6,Za2 [.set E3 (fun w=>Zap w (Zak k (rows.take i)) E3 (us.take i))] [.set E6 (fun w=>Zap w (Zak k (rows.take (i+1))) E6 ((us.set i [.int .i64 (kk),.int .i64 (kk+1)]).take (i+1)))]:=by
    have hz:=ZgP (E:=E3) (done:=Zak k (rows.take i)) (ud:=us.take i) (cs:=[.lit (.int .i64 (kk)),.lit (.int .i64 (kk+1))]) (us:=[.int .i64 (kk),.int .i64 (kk+1)]) (Es:=fun _ _=>False) rfl ⟨rfl,rfl,trivial⟩;rw [Zce hr,Zc2,hkk,ZeJ om];simp only [ZcZ,mkC,mkV,cntC,Int.natCast_one];exact ⟨_,hz⟩
   refine pE [1002] [1002] hre ?_;have e1:((us.set i [.int .i64 (kk),.int .i64 (kk+1)]).map Zag)=(us.map Zag).set i [.lit (.int .i64 (kk)),.lit (.int .i64 (kk+1))]:=by rw [List.map_set];rfl
   have e2:=ZeK us i [.int .i64 (kk),.int .i64 (kk+1)];have e5:k+(cntRows (rows.take (i+1)):Int)=kk+1+1:=by rw [hc1];omega
   have hn2:(us.set i [.int .i64 (kk),.int .i64 (kk+1)]).length=rows.length:=by rw [ZaT,hn]
   generalize us.set i [.int .i64 (kk),.int .i64 (kk+1)]=us2 at e1 e2 hn2 ⊢;rw [<- e1,<- e2];have F:=aj6 @wi @e5 @hl @w0 @w1 @hn;refine gG ?_;exact ⟨(i+1,us2,E4,E6),⟨hlt,hn2⟩,gw,gw,om⟩
  ·obtain rfl:i=rows.length:=by omega
   have q1:=lF rows.length rows.length;rw [Tap,List.take_of_length_le (Nat.le_of_eq hn)];refine fG (aj3 @q1 @hl @hn) ?_;obtain ⟨E6,hre⟩:∃ E6,Za2 [.buf (some (a,cap)) ety 2 (us.map Zag),.set E3 (fun w=>Zap w (Zak k rows) E3 us)] [.set E6 (fun w=>Own w (.sl (Zak k rows)) E6 (.slice a uss.length cap))]:=by
    rw [hl,<- hn];exact ⟨_,Zb7 (fun w h=>h) (Own.stable _ _ _)⟩
   refine pE [1000,1002] [1000] hre ?_;have F:=hk;exact gTP (R:=fun r pm=>∃ E',r=[.one (.lit (.int .i64 (k+(cntRows rows:Nat))))]∧pm=[.set E' (fun w=>Own w (.sl (Zak k rows)) E' (.slice a uss.length cap))]) [1000] ⟨E6,rfl,rfl⟩
theorem Zqo {rows:List (List C)} (hok:Zam (Zaf .sub) rows):Zdx 77 rows:=Zqn hok
theorem Zof {row:List C} (hok:Zal (Zb8) row):ZoF 36 row:=by
 obtain ⟨r0,r1,rfl,g0,g1⟩:=Zfs hok;intro kk E us hl hc hk hb;obtain ⟨u0,u1,rfl⟩:=len2 hl;have kc:Zaj (.lit u0)=true∧Zaj (.lit u1)=true:=by simpa [Zag,Tar,and_assoc] using hc
 obtain ⟨k0,k1⟩:=kc;simp only [cntTop,Nat.add_zero] at hb ⊢;have lr:Zag [u0,u1]=[.lit u0,.lit u1]:=rfl;rw [lr];refine gIP (ts:=[.slot 4]) [1000] 23 Tryz.func36 ?_;refine pEx (f:=fun (x:Nat->Nat->Prop)=>[.set (x 0) (fun w=>Own w (.sl r0) (x 0) u0),.set (x 1) (fun w=>Own w (.sl r1) (x 1) u1)]) [1000] [1003,1004] (ZeL rfl) ?_;rintro Es -
 try dsimp only
 refine fB (aj3 @lr @k0 @k1) ?_;have F:=aj3 @lr @k0 @k1;refine gCP [1003] [1003] (Zmn g0 (kk) (Es 0) u0 om om) ?_;clear F;rintro r pm ⟨F0,rfl,rfl⟩;simp only [setA,retA,zipM,Taf,Tah];refine fR (aj3 @lr @k0 @k1) ?_;refine fB (aj3 @lr @k0 @k1) ?_;have F:=aj3 @lr @k0 @k1;refine gCP [1004] [1004] (Zqo g1 (kk+(cntRows r0:Int)) (Es 1) u1 om om) ?_;clear F;rintro r pm ⟨F1,rfl,rfl⟩;simp only [setA,retA,zipM,Taf,Tah]
 refine fR (aj3 @lr @k0 @k1) ?_;refine fG (aj3 @lr @k0 @k1) ?_;obtain ⟨E6,hre⟩:∃ E6,Za2 [.set F0 (fun w=>Own w (.sl (Zak (kk) r0)) F0 u0),.set F1 (fun w=>Own w (.sl (Zak (kk+(cntRows r0:Int)) r1)) F1 u1)] [.set E6 (fun w=>Zae w [.sl (Zak (kk) r0),.sl (Zak (kk+(cntRows r0:Int)) r1)] E6 [u0,u1])]:=⟨_,ZeM (cs:=[.sl (Zak (kk) r0),.sl (Zak (kk+(cntRows r0:Int)) r1)]) (us:=[u0,u1]) (Es:=fun k=>match k with | 0=>F0 | _=>F1) rfl trivial⟩
 refine pE [1003,1004] [1000] hre ?_;have F:=hk;have ee:kk+(cntRows r0:Int)+(cntRows r1:Int)=kk+((cntRows r0+(cntRows r1):Nat):Int):=om;rw [ee];exact gTP (R:=fun r pm=>∃ E',r=[.one (.lit (.int .i64 (kk+((cntRows r0+(cntRows r1):Nat):Int))))]∧pm=[.set E' (fun w=>Zae w (Zcq kk [.sl r0,.sl r1]) E' [u0,u1])]) [1000] ⟨E6,rfl,by simp only [Zcq];rfl⟩
theorem Zta (u0:Value):Zag [u0]=[.lit u0]:=rfl
theorem Zyb {rows:List (List C)} (hok:Zam (Zaf .int) rows):Zdx 115 rows:=by
 intro k E v hk hb;refine gIP (ts:=[.slot 4]) [1000] 563 Tryz.func115 ?_;refine fG @e0P ?_;by_cases hne:rows=[]
 ·subst hne;refine pEx [1000] [1000] ZgM ?_;rintro ⟨a,cap⟩ rfl;have F:=@hk;refine gL (ι:=Unit) [1,5,9] [] (fun x=>[(5,.d (.one (.lit (.int .i64 0)))),(1,.d (.one (.lit (.int .i64 k))))]) (fun x=>[]) (fun x=>True) (fun x=>0) (()) (trivial) (fun x hx=>?_);clear F;have q1:((0:Int) < 0)=False:=eq_false (by decide);have q2:((0:Int) < ((0:Nat):Int))=False:=eq_false (by decide);refine fG (ai @q1 @q2) ?_;have F:=hk
  refine gTP (R:=fun r pm=>∃ E',r=[.one (.lit (.int .i64 (k+(cntRows []:Nat))))]∧pm=[.set E' (fun w=>Own w (.sl (Zak k [])) E' (.slice a 0 cap))]) [1000] ⟨E,by simp only [cntRows,Int.natCast_zero,Int.add_zero];rfl,by simp only [Zak];rfl⟩
 ·have hrl:rowsLen 1 rows:=Zam.rowsLen hok;refine pEx [1000] [1000,1001] (Zfj hne hrl) ?_;rintro ⟨a,cap,ety,uss,E1⟩ ⟨rfl,hl,hmx⟩;simp only at hl ⊢;unfold maxLen at hmx;refine pE [] [1002] Zcv ?_;have F:=aj4 @Zc0 @Zek @Int.add_zero @Int.natCast_zero;refine gL (ι:=Nat × List (List Value) × (Nat->Prop) × (Nat->Prop)) [1,5,9] [1000,1001,1002] (fun x=>[(5,.d (.one (.lit (.int .i64 (x.1:Int))))),(1,.d (.one (.lit (.int .i64 (k+(cntRows (rows.take x.1):Nat))))))]) (fun x=>[(1000,.buf (some (a,cap)) ety 1 (x.2.1.map Zag)),(1001,.set x.2.2.1 (fun w=>Zap w (rows.drop x.1) x.2.2.1 (x.2.1.drop x.1))),(1002,.set x.2.2.2 (fun w=>Zap w (Zak k (rows.take x.1)) x.2.2.2 (x.2.1.take x.1)))]) (fun x=>x.1<=rows.length∧x.2.1.length=rows.length) (fun x=>rows.length - x.1) ((0,uss,E1,fun _=>False)) (⟨Taj _,hl⟩) (fun x hx=>?_);clear F
  obtain ⟨i,us,E2,E3⟩:=x;obtain ⟨hi,hn⟩:=hx;simp only at hi hn;dsimp only;by_cases hlt:i < rows.length
  ·obtain ⟨r,hr⟩:∃ r,rows[i]?=some r:=⟨_,Taa hlt⟩;obtain ⟨u,hu⟩:∃ u,us[i]?=some u:=⟨_,Taa om⟩;obtain ⟨i0,rfl,_⟩:=ZgX (hok.get hr);have hc1:cntRows (rows.take (i+1))=cntRows (rows.take i)+1:=by
    rw [Zce hr,Zdp];simp only [ZcG,cntC]
   have hc2:=Zcf rows (i+1);rw [Zck hr,Zck hu];refine pEx [1001] [1001] (Zfk rfl) ?_;rintro ⟨⟩ hlit;obtain rfl:u=[.int .i64 i0]:=by
    match u,hlit with
    | [_],⟨rfl,_⟩=>rfl
   refine pEx (f:=fun (x:(Nat->Prop) × (Nat->Nat->Prop))=>[.set x.1 (fun w=>Zap w (rows.drop (i+1)) x.1 (us.drop (i+1)))]) [1001] [1001] (ZgO rfl) ?_;rintro ⟨E4,Es⟩ -;dsimp only;generalize hkk:k+(cntRows (rows.take i):Int)=kk;have q1:=lT i rows.length;have q2:i < rows.length:=hlt;have w1:IntKind.i64.wrap (kk+1)=kk+1:=IntWalk.i64_in _ om;have w4:IntKind.i64.wrap ((i:Int)+1)=(i:Int)+1:=IntWalk.i64_in _ om
   refine fN 3 (aj9 @q1 @hl @hn @hu @Zta @ZaH @ZaT @w1 @q2) ?_;obtain ⟨E6,hre⟩:∃ E6,Za2 [.set E3 (fun w=>Zap w (Zak k (rows.take i)) E3 (us.take i))] [.set E6 (fun w=>Zap w (Zak k (rows.take (i+1))) E6 ((us.set i [.int .i64 kk]).take (i+1)))]:=by
    have hz:=ZgP (E:=E3) (done:=Zak k (rows.take i)) (ud:=us.take i) (cs:=[.lit (.int .i64 kk)]) (us:=[.int .i64 kk]) (Es:=fun _ _=>False) rfl ⟨rfl,trivial⟩;rw [Zce hr,Zc2,hkk,ZeJ om];simp only [ZcZ,mkC,mkV];exact ⟨_,hz⟩
   refine pE [1002] [1002] hre ?_;have e1:((us.set i [.int .i64 kk]).map Zag)=(us.map Zag).set i [.lit (.int .i64 kk)]:=by rw [List.map_set,Zta]
   have e2:=ZeK us i [.int .i64 kk];have e5:k+(cntRows (rows.take (i+1)):Int)=kk+1:=by rw [hc1];omega
   have hn2:(us.set i [.int .i64 kk]).length=rows.length:=by rw [ZaT,hn]
   generalize us.set i [.int .i64 kk]=us2 at e1 e2 hn2 ⊢;rw [<- e1,<- e2];have F:=aj3 @w4 @e5 @hl;refine gG ?_;exact ⟨(i+1,us2,E4,E6),⟨hlt,hn2⟩,gw,gw,om⟩
  ·obtain rfl:i=rows.length:=by omega
   have q1:=lF rows.length rows.length;rw [Tap,List.take_of_length_le (Nat.le_of_eq hn)];refine fG (aj3 @q1 @hl @hn) ?_;obtain ⟨E6,hre⟩:∃ E6,Za2 [.buf (some (a,cap)) ety 1 (us.map Zag),.set E3 (fun w=>Zap w (Zak k rows) E3 us)] [.set E6 (fun w=>Own w (.sl (Zak k rows)) E6 (.slice a uss.length cap))]:=by
    rw [hl,<- hn];exact ⟨_,Zb7 (fun w h=>h) (Own.stable _ _ _)⟩
   refine pE [1000,1002] [1000] hre ?_;have F:=hk;exact gTP (R:=fun r pm=>∃ E',r=[.one (.lit (.int .i64 (k+(cntRows rows:Nat))))]∧pm=[.set E' (fun w=>Own w (.sl (Zak k rows)) E' (.slice a uss.length cap))]) [1000] ⟨E6,rfl,rfl⟩
theorem Zqp {rows:List (List C)} (hok:Zam (Zaf .int) rows):Zdx 115 rows:=Zyb hok
theorem Zog {rows:List (List C)} (hok:Zam (Zaf .decl) rows):Zdx 79 rows:=by
 intro k E v hk hb;refine gIP (ts:=[.slot 4]) [1000] 563 Tryz.func79 ?_;refine fG @e0P ?_;by_cases hne:rows=[]
 ·subst hne;refine pEx [1000] [1000] ZgM ?_;rintro ⟨a,cap⟩ rfl;have F:=@hk;refine gL (ι:=Unit) [1,5,9] [] (fun x=>[(5,.d (.one (.lit (.int .i64 0)))),(1,.d (.one (.lit (.int .i64 k))))]) (fun x=>[]) (fun x=>True) (fun x=>0) (()) (trivial) (fun x hx=>?_);clear F;have q1:((0:Int) < 0)=False:=eq_false (by decide);have q2:((0:Int) < ((0:Nat):Int))=False:=eq_false (by decide);refine fG (ai @q1 @q2) ?_;have F:=hk
  refine gTP (R:=fun r pm=>∃ E',r=[.one (.lit (.int .i64 (k+(cntRows []:Nat))))]∧pm=[.set E' (fun w=>Own w (.sl (Zak k [])) E' (.slice a 0 cap))]) [1000] ⟨E,by simp only [cntRows,Int.natCast_zero,Int.add_zero];rfl,by simp only [Zak];rfl⟩
 ·have hrl:rowsLen 2 rows:=Zam.rowsLen hok;refine pEx [1000] [1000,1001] (Zfj hne hrl) ?_;rintro ⟨a,cap,ety,uss,E1⟩ ⟨rfl,hl,hmx⟩;simp only at hl ⊢;unfold maxLen at hmx;refine pE [] [1002] Zcv ?_;have F:=aj4 @Zc0 @Zek @Int.add_zero @Int.natCast_zero;refine gL (ι:=Nat × List (List Value) × (Nat->Prop) × (Nat->Prop)) [1,5,9] [1000,1001,1002] (fun x=>[(5,.d (.one (.lit (.int .i64 (x.1:Int))))),(1,.d (.one (.lit (.int .i64 (k+(cntRows (rows.take x.1):Nat))))))]) (fun x=>[(1000,.buf (some (a,cap)) ety 2 (x.2.1.map Zag)),(1001,.set x.2.2.1 (fun w=>Zap w (rows.drop x.1) x.2.2.1 (x.2.1.drop x.1))),(1002,.set x.2.2.2 (fun w=>Zap w (Zak k (rows.take x.1)) x.2.2.2 (x.2.1.take x.1)))]) (fun x=>x.1<=rows.length∧x.2.1.length=rows.length) (fun x=>rows.length - x.1) ((0,uss,E1,fun _=>False)) (⟨Taj _,hl⟩) (fun x hx=>?_);clear F
  obtain ⟨i,us,E2,E3⟩:=x;obtain ⟨hi,hn⟩:=hx;simp only at hi hn;dsimp only;by_cases hlt:i < rows.length
  ·obtain ⟨r,hr⟩:∃ r,rows[i]?=some r:=⟨_,Taa hlt⟩;obtain ⟨u,hu⟩:∃ u,us[i]?=some u:=⟨_,Taa om⟩;obtain ⟨r0,i1,rfl,g0,g1⟩:=Ze2 (hok.get hr);have hm0:=Zqp g0;have hc1:cntRows (rows.take (i+1))=cntRows (rows.take i)+(1+cntRows r0):=by
    rw [Zce hr,Zdp];simp only [ZcG,cntC];try omega
   have hc2:=Zcf rows (i+1);rw [Zck hr,Zck hu];refine pEx [1001] [1001] (Zfk rfl) ?_;rintro ⟨⟩ hlit;obtain ⟨u0,rfl⟩:∃ u0,u=[u0,.int .i64 i1]:=by
    match u,hlit with
    | [u0,_],⟨rfl,_⟩=>exact ⟨u0,rfl⟩
   refine pEx (f:=fun (x:(Nat->Prop) × (Nat->Nat->Prop))=>[.set x.1 (fun w=>Zap w (rows.drop (i+1)) x.1 (us.drop (i+1))),.set (x.2 0) (fun w=>Own w (.sl r0) (x.2 0) u0)]) [1001] [1001,1003] (ZgO rfl) ?_;rintro ⟨E4,Es⟩ -;dsimp only;have hkk0:0<=k+(cntRows (rows.take i):Int):=om;have hkk1:k+(cntRows (rows.take i):Int)+((1+cntRows r0:Nat):Int)<=1000000000:=om;generalize hkk:k+(cntRows (rows.take i):Int)=kk at hkk0 hkk1 ⊢
   have q1:=lT i rows.length;have q2:i < rows.length:=hlt;have hs:∀ X:List C,((us.map Zag).set i X)[i]?=some X:=fun X=>Zgk (by rw [ZaH,hn];omega) X;have lr:Zag [u0,.int .i64 i1]=[.lit (u0),.lit (.int .i64 i1)]:=rfl;have w1:IntKind.i64.wrap (kk+(cntRows r0:Int)+1)=kk+(cntRows r0:Int)+1:=IntWalk.i64_in _ om;have wi:IntKind.i64.wrap ((i:Int)+1)=(i:Int)+1:=IntWalk.i64_in _ om;refine fB (aj11 @q1 @hl @hn @hu @lr @ZaH @ZaT @hs @w1 @q2 @ZaZ) ?_
   have F:=aj11 @q1 @hl @hn @hu @lr @ZaH @ZaT @hs @w1 @q2 @ZaZ;refine gCP [1003] [1003] (hm0 (kk) (Es 0) u0 om om) ?_;clear F;rintro r pm ⟨F0,rfl,rfl⟩;simp only [setA,retA,zipM,Taf,Tah];refine fR (aj11 @q1 @hl @hn @hu @lr @ZaH @ZaT @hs @w1 @q2 @ZaZ) ?_;refine fN 3 (aj11 @q1 @hl @hn @hu @lr @ZaH @ZaT @hs @w1 @q2 @ZaZ) ?_;obtain ⟨E6,hre⟩:∃ E6,Za2 [.set E3 (fun w=>Zap w (Zak k (rows.take i)) E3 (us.take i)),.set F0 (fun w=>Own w (.sl (Zak (kk) r0)) F0 u0)] [.set E6 (fun w=>Zap w (Zak k (rows.take (i+1))) E6 ((us.set i [u0,.int .i64 (kk+(cntRows r0:Int))]).take (i+1)))]:=by
    have hz:=ZgP (E:=E3) (done:=Zak k (rows.take i)) (ud:=us.take i) (cs:=[.sl (Zak (kk) r0),.lit (.int .i64 (kk+(cntRows r0:Int)))]) (us:=[u0,.int .i64 (kk+(cntRows r0:Int))]) (Es:=fun _=>F0) rfl ⟨rfl,trivial⟩;rw [Zce hr,Zc2,hkk,ZeJ om];simp only [ZcZ,mkC,mkV,cntC,Int.natCast_one];exact ⟨_,hz⟩
   refine pE [1002,1003] [1002] hre ?_;have e1:((us.set i [u0,.int .i64 (kk+(cntRows r0:Int))]).map Zag)=(us.map Zag).set i [.lit (u0),.lit (.int .i64 (kk+(cntRows r0:Int)))]:=by rw [List.map_set];rfl
   have e2:=ZeK us i [u0,.int .i64 (kk+(cntRows r0:Int))];have e5:k+(cntRows (rows.take (i+1)):Int)=kk+(cntRows r0:Int)+1:=by rw [hc1];omega
   have hn2:(us.set i [u0,.int .i64 (kk+(cntRows r0:Int))]).length=rows.length:=by rw [ZaT,hn]
   generalize us.set i [u0,.int .i64 (kk+(cntRows r0:Int))]=us2 at e1 e2 hn2 ⊢;rw [<- e1,<- e2];have F:=aj5 @wi @e5 @hl @w1 @hn;refine gG ?_;exact ⟨(i+1,us2,E4,E6),⟨hlt,hn2⟩,gw,gw,om⟩
  ·obtain rfl:i=rows.length:=by omega
   have q1:=lF rows.length rows.length;rw [Tap,List.take_of_length_le (Nat.le_of_eq hn)];refine fG (aj3 @q1 @hl @hn) ?_;obtain ⟨E6,hre⟩:∃ E6,Za2 [.buf (some (a,cap)) ety 2 (us.map Zag),.set E3 (fun w=>Zap w (Zak k rows) E3 us)] [.set E6 (fun w=>Own w (.sl (Zak k rows)) E6 (.slice a uss.length cap))]:=by
    rw [hl,<- hn];exact ⟨_,Zb7 (fun w h=>h) (Own.stable _ _ _)⟩
   refine pE [1000,1002] [1000] hre ?_;have F:=hk;exact gTP (R:=fun r pm=>∃ E',r=[.one (.lit (.int .i64 (k+(cntRows rows:Nat))))]∧pm=[.set E' (fun w=>Own w (.sl (Zak k rows)) E' (.slice a uss.length cap))]) [1000] ⟨E6,rfl,rfl⟩
theorem Zoh {rows:List (List C)} (hok:Zam (Zaf .decl) rows):Zdx 79 rows:=Zog hok
theorem Ztb {k:Int} (h:0<=k):decide (k.tmod 3=0)=(k % 3==0):=by rw [Int.tmod_eq_emod_of_nonneg h,Bool.eq_iff_iff];simp
theorem Zrg {rows:List (List C)} (hok:Zam (Zaf .op) rows):Zdx 37 rows:=by
 intro k E v hk hb;refine gIP (ts:=[.slot 4]) [1000] 563 Tryz.func37 ?_;refine fG @e0P ?_;by_cases hne:rows=[]
 ·subst hne;refine pEx [1000] [1000] ZgM ?_;rintro ⟨a,cap⟩ rfl;have F:=@hk;refine gL (ι:=Unit) [1,5,9] [] (fun x=>[(5,.d (.one (.lit (.int .i64 0)))),(1,.d (.one (.lit (.int .i64 k))))]) (fun x=>[]) (fun x=>True) (fun x=>0) (()) (trivial) (fun x hx=>?_);clear F;have q1:((0:Int) < 0)=False:=eq_false (by decide);have q2:((0:Int) < ((0:Nat):Int))=False:=eq_false (by decide);refine fG (ai @q1 @q2) ?_;have F:=hk
  refine gTP (R:=fun r pm=>∃ E',r=[.one (.lit (.int .i64 (k+(cntRows []:Nat))))]∧pm=[.set E' (fun w=>Own w (.sl (Zak k [])) E' (.slice a 0 cap))]) [1000] ⟨E,by simp only [cntRows,Int.natCast_zero,Int.add_zero];rfl,by simp only [Zak];rfl⟩
 ·have hrl:rowsLen 5 rows:=Zam.rowsLen hok;refine pEx [1000] [1000,1001] (Zfj hne hrl) ?_;rintro ⟨a,cap,ety,uss,E1⟩ ⟨rfl,hl,hmx⟩;simp only at hl ⊢;unfold maxLen at hmx;refine pE [] [1002] Zcv ?_;have F:=aj4 @Zc0 @Zek @Int.add_zero @Int.natCast_zero;refine gL (ι:=Nat × List (List Value) × (Nat->Prop) × (Nat->Prop)) [1,5,9] [1000,1001,1002] (fun x=>[(5,.d (.one (.lit (.int .i64 (x.1:Int))))),(1,.d (.one (.lit (.int .i64 (k+(cntRows (rows.take x.1):Nat))))))]) (fun x=>[(1000,.buf (some (a,cap)) ety 5 (x.2.1.map Zag)),(1001,.set x.2.2.1 (fun w=>Zap w (rows.drop x.1) x.2.2.1 (x.2.1.drop x.1))),(1002,.set x.2.2.2 (fun w=>Zap w (Zak k (rows.take x.1)) x.2.2.2 (x.2.1.take x.1)))]) (fun x=>x.1<=rows.length∧x.2.1.length=rows.length) (fun x=>rows.length - x.1) ((0,uss,E1,fun _=>False)) (⟨Taj _,hl⟩) (fun x hx=>?_);clear F
  obtain ⟨i,us,E2,E3⟩:=x;obtain ⟨hi,hn⟩:=hx;simp only at hi hn;dsimp only;by_cases hlt:i < rows.length
  ·obtain ⟨r,hr⟩:∃ r,rows[i]?=some r:=⟨_,Taa hlt⟩;obtain ⟨u,hu⟩:∃ u,us[i]?=some u:=⟨_,Taa om⟩;obtain ⟨t0,r1,p2,p3,i4,rfl,g0,g1,g2,g3,g4⟩:=Zgv (hok.get hr);have hm1:=Zoh g1;have hc1:cntRows (rows.take (i+1))=cntRows (rows.take i)+(4+cntRows r1):=by
    rw [Zce hr,Zdp];simp only [ZcG,cntC];try omega
   have hc2:=Zcf rows (i+1);rw [Zck hr,Zck hu];refine pEx [1001] [1001] (Zfk rfl) ?_;rintro ⟨⟩ hlit;obtain ⟨u1,rfl⟩:∃ u1,u=[.string t0,u1,.bool p2,.bool p3,.int .i64 i4]:=by
    match u,hlit with
    | [_,u1,_,_,_],⟨rfl,rfl,rfl,rfl,_⟩=>exact ⟨u1,rfl⟩
   refine pEx (f:=fun (x:(Nat->Prop) × (Nat->Nat->Prop))=>[.set x.1 (fun w=>Zap w (rows.drop (i+1)) x.1 (us.drop (i+1))),.set (x.2 0) (fun w=>Own w (.sl r1) (x.2 0) u1)]) [1001] [1001,1003] (ZgO rfl) ?_;rintro ⟨E4,Es⟩ -;dsimp only;have hkk0:0<=k+(cntRows (rows.take i):Int):=om;have hkk1:k+(cntRows (rows.take i):Int)+((4+cntRows r1:Nat):Int)<=1000000000:=om;generalize hkk:k+(cntRows (rows.take i):Int)=kk at hkk0 hkk1 ⊢
   have q1:=lT i rows.length;have q2:i < rows.length:=hlt;have hs:∀ X:List C,((us.map Zag).set i X)[i]?=some X:=fun X=>Zgk (by rw [ZaH,hn];omega) X;have lr:Zag [.string t0,u1,.bool p2,.bool p3,.int .i64 i4]=[.lit (.string t0),.lit (u1),.lit (.bool p2),.lit (.bool p3),.lit (.int .i64 i4)]:=rfl;have w0:IntKind.i64.wrap (kk+1)=kk+1:=IntWalk.i64_in _ om;have w2:IntKind.i64.wrap (kk+1+(cntRows r1:Int)+1)=kk+1+(cntRows r1:Int)+1:=IntWalk.i64_in _ om
   have b2:decide (((kk+1+(cntRows r1:Int)).tmod 3)=0)=((kk+1+(cntRows r1:Int)) % 3==0):=Ztb om;have w3:IntKind.i64.wrap (kk+1+(cntRows r1:Int)+1+1)=kk+1+(cntRows r1:Int)+1+1:=IntWalk.i64_in _ om;have b3:decide (((kk+1+(cntRows r1:Int)+1).tmod 3)=0)=((kk+1+(cntRows r1:Int)+1) % 3==0):=Ztb om;have w4:IntKind.i64.wrap (kk+1+(cntRows r1:Int)+1+1+1)=kk+1+(cntRows r1:Int)+1+1+1:=IntWalk.i64_in _ om;have wi:IntKind.i64.wrap ((i:Int)+1)=(i:Int)+1:=IntWalk.i64_in _ om
   refine fB (aj16 @q1 @hl @hn @hu @lr @ZaH @ZaT @hs @w0 @w2 @b2 @w3 @b3 @w4 @q2 @ZaZ) ?_;refine fC (aj16 @q1 @hl @hn @hu @lr @ZaH @ZaT @hs @w0 @w2 @b2 @w3 @b3 @w4 @q2 @ZaZ) (ZcF (kk) om om) ?_;refine fR (aj16 @q1 @hl @hn @hu @lr @ZaH @ZaT @hs @w0 @w2 @b2 @w3 @b3 @w4 @q2 @ZaZ) ?_;refine fB (aj16 @q1 @hl @hn @hu @lr @ZaH @ZaT @hs @w0 @w2 @b2 @w3 @b3 @w4 @q2 @ZaZ) ?_;have F:=aj16 @q1 @hl @hn @hu @lr @ZaH @ZaT @hs @w0 @w2 @b2 @w3 @b3 @w4 @q2 @ZaZ;refine gCP [1003] [1003] (hm1 (kk+1) (Es 0) u1 om om) ?_;clear F
   rintro r pm ⟨F1,rfl,rfl⟩;simp only [setA,retA,zipM,Taf,Tah];refine fR (aj16 @q1 @hl @hn @hu @lr @ZaH @ZaT @hs @w0 @w2 @b2 @w3 @b3 @w4 @q2 @ZaZ) ?_;refine fN 3 (aj16 @q1 @hl @hn @hu @lr @ZaH @ZaT @hs @w0 @w2 @b2 @w3 @b3 @w4 @q2 @ZaZ) ?_;obtain ⟨E6,hre⟩:∃ E6,Za2 [.set E3 (fun w=>Zap w (Zak k (rows.take i)) E3 (us.take i)),.set F1 (fun w=>Own w (.sl (Zak (kk+1) r1)) F1 u1)] [.set E6 (fun w=>Zap w (Zak k (rows.take (i+1))) E6 ((us.set i [.string (txt (kk)),u1,.bool ((kk+1+(cntRows r1:Int)) % 3==0),.bool ((kk+1+(cntRows r1:Int)+1) % 3==0),.int .i64 (kk+1+(cntRows r1:Int)+1+1)]).take (i+1)))]:=by
    have hz:=ZgP (E:=E3) (done:=Zak k (rows.take i)) (ud:=us.take i) (cs:=[.lit (.string (txt (kk))),.sl (Zak (kk+1) r1),.lit (.bool ((kk+1+(cntRows r1:Int)) % 3==0)),.lit (.bool ((kk+1+(cntRows r1:Int)+1) % 3==0)),.lit (.int .i64 (kk+1+(cntRows r1:Int)+1+1))]) (us:=[.string (txt (kk)),u1,.bool ((kk+1+(cntRows r1:Int)) % 3==0),.bool ((kk+1+(cntRows r1:Int)+1) % 3==0),.int .i64 (kk+1+(cntRows r1:Int)+1+1)]) (Es:=fun _=>F1) rfl ⟨rfl,rfl,rfl,rfl,trivial⟩
    rw [Zce hr,Zc2,hkk,ZeJ om];simp only [ZcZ,mkC,mkV,cntC,Int.natCast_one];exact ⟨_,hz⟩
   refine pE [1002,1003] [1002] hre ?_;have e1:((us.set i [.string (txt (kk)),u1,.bool ((kk+1+(cntRows r1:Int)) % 3==0),.bool ((kk+1+(cntRows r1:Int)+1) % 3==0),.int .i64 (kk+1+(cntRows r1:Int)+1+1)]).map Zag)=(us.map Zag).set i [.lit (.string (txt (kk))),.lit (u1),.lit (.bool ((kk+1+(cntRows r1:Int)) % 3==0)),.lit (.bool ((kk+1+(cntRows r1:Int)+1) % 3==0)),.lit (.int .i64 (kk+1+(cntRows r1:Int)+1+1))]:=by rw [List.map_set];rfl
   have e2:=ZeK us i [.string (txt (kk)),u1,.bool ((kk+1+(cntRows r1:Int)) % 3==0),.bool ((kk+1+(cntRows r1:Int)+1) % 3==0),.int .i64 (kk+1+(cntRows r1:Int)+1+1)];have e5:k+(cntRows (rows.take (i+1)):Int)=kk+1+(cntRows r1:Int)+1+1+1:=by rw [hc1];omega
   have hn2:(us.set i [.string (txt (kk)),u1,.bool ((kk+1+(cntRows r1:Int)) % 3==0),.bool ((kk+1+(cntRows r1:Int)+1) % 3==0),.int .i64 (kk+1+(cntRows r1:Int)+1+1)]).length=rows.length:=by rw [ZaT,hn]
   generalize us.set i [.string (txt (kk)),u1,.bool ((kk+1+(cntRows r1:Int)) % 3==0),.bool ((kk+1+(cntRows r1:Int)+1) % 3==0),.int .i64 (kk+1+(cntRows r1:Int)+1+1)]=us2 at e1 e2 hn2 ⊢;rw [<- e1,<- e2];have F:=aj10 @wi @e5 @hl @w0 @w2 @b2 @w3 @b3 @w4 @hn;refine gG ?_;exact ⟨(i+1,us2,E4,E6),⟨hlt,hn2⟩,gw,gw,om⟩
  ·obtain rfl:i=rows.length:=by omega
   have q1:=lF rows.length rows.length;rw [Tap,List.take_of_length_le (Nat.le_of_eq hn)];refine fG (aj3 @q1 @hl @hn) ?_;obtain ⟨E6,hre⟩:∃ E6,Za2 [.buf (some (a,cap)) ety 5 (us.map Zag),.set E3 (fun w=>Zap w (Zak k rows) E3 us)] [.set E6 (fun w=>Own w (.sl (Zak k rows)) E6 (.slice a uss.length cap))]:=by
    rw [hl,<- hn];exact ⟨_,Zb7 (fun w h=>h) (Own.stable _ _ _)⟩
   refine pE [1000,1002] [1000] hre ?_;have F:=hk;exact gTP (R:=fun r pm=>∃ E',r=[.one (.lit (.int .i64 (k+(cntRows rows:Nat))))]∧pm=[.set E' (fun w=>Own w (.sl (Zak k rows)) E' (.slice a uss.length cap))]) [1000] ⟨E6,rfl,rfl⟩
theorem Zrh {rows:List (List C)} (hok:Zam (Zaf .op) rows):Zdx 37 rows:=Zrg hok
theorem Zj9 {row:List C} (hok:Zal (sigF) row):ZoF 12 row:=by
 obtain ⟨r0,r1,r2,rfl,g0,g1,g2⟩:=Zdf hok;intro kk E us hl hc hk hb;obtain ⟨u0,u1,u2,rfl⟩:=len3 hl;have kc:Zaj (.lit u0)=true∧Zaj (.lit u1)=true∧Zaj (.lit u2)=true:=by simpa [Zag,Tar,and_assoc] using hc
 obtain ⟨k0,k1,k2⟩:=kc;simp only [cntTop,Nat.add_zero] at hb ⊢;have lr:Zag [u0,u1,u2]=[.lit u0,.lit u1,.lit u2]:=rfl;rw [lr];refine gIP (ts:=[.slot 4]) [1000] 23 Tryz.func12 ?_;refine pEx (f:=fun (x:Nat->Nat->Prop)=>[.set (x 0) (fun w=>Own w (.sl r0) (x 0) u0),.set (x 1) (fun w=>Own w (.sl r1) (x 1) u1),.set (x 2) (fun w=>Own w (.sl r2) (x 2) u2)]) [1000] [1003,1004,1005] (ZeL rfl) ?_;rintro Es -
 try dsimp only
 obtain ⟨G0,hre0⟩:∃ G,Za2 [.set (Es 0) (fun w=>Own w (.sl r0) (Es 0) u0),.set (Es 1) (fun w=>Own w (.sl r1) (Es 1) u1)] [.set G (fun w=>Zae w [.sl r0,.sl r1] G [u0,u1])]:=⟨_,ZeM (cs:=[.sl r0,.sl r1]) (us:=[u0,u1]) (Es:=fun k=>Es (k+0)) rfl trivial⟩;refine pE [1003,1004] [1003] hre0 ?_;have lr0:Zag [u0,u1]=[.lit u0,.lit u1]:=rfl;have hm0:=Zof (row:=[.sl r0,.sl r1]) (Zft g0 g1) (kk) G0 [u0,u1] rfl (by rw [lr0];simp only [List.all_cons,List.all_nil,k0,k1,Bool.and_self]) om (by simp only [cntTop];omega)
 rw [lr0] at hm0;simp only [cntTop,Zcq,Nat.add_zero,Int.natCast_add,<- Int.add_assoc] at hm0;refine fB (aj4 @lr @k0 @k1 @k2) ?_;have F:=aj4 @lr @k0 @k1 @k2;refine gCP [1003] [1003] (hm0) ?_;clear F;rintro r pm ⟨G0',rfl,rfl⟩;simp only [setA,retA,zipM,Taf,Tah];refine fR (aj4 @lr @k0 @k1 @k2) ?_;refine pEx (f:=fun (x:Nat->Nat->Prop)=>[.set (x 0) (fun w=>Own w (.sl (Zak (kk) r0)) (x 0) u0),.set (x 1) (fun w=>Own w (.sl (Zak (kk+(cntRows r0:Int)) r1)) (x 1) u1)]) [1003] [1003,1004] (ZeL (r:=[.sl (Zak (kk) r0),.sl (Zak (kk+(cntRows r0:Int)) r1)]) rfl) ?_
 rintro Fs0 -
 try dsimp only
 refine fB (aj4 @lr @k0 @k1 @k2) ?_;have F:=aj4 @lr @k0 @k1 @k2;refine gCP [1005] [1005] (Zrh g2 (kk+(cntRows r0:Int)+(cntRows r1:Int)) (Es 2) u2 om om) ?_;clear F;rintro r pm ⟨F2,rfl,rfl⟩;simp only [setA,retA,zipM,Taf,Tah];refine fR (aj4 @lr @k0 @k1 @k2) ?_;refine fG (aj4 @lr @k0 @k1 @k2) ?_;obtain ⟨E6,hre⟩:∃ E6,Za2 [.set (Fs0 0) (fun w=>Own w (.sl (Zak (kk) r0)) (Fs0 0) u0),.set (Fs0 1) (fun w=>Own w (.sl (Zak (kk+(cntRows r0:Int)) r1)) (Fs0 1) u1),.set F2 (fun w=>Own w (.sl (Zak (kk+(cntRows r0:Int)+(cntRows r1:Int)) r2)) F2 u2)] [.set E6 (fun w=>Zae w [.sl (Zak (kk) r0),.sl (Zak (kk+(cntRows r0:Int)) r1),.sl (Zak (kk+(cntRows r0:Int)+(cntRows r1:Int)) r2)] E6 [u0,u1,u2])]:=⟨_,ZeM (cs:=[.sl (Zak (kk) r0),.sl (Zak (kk+(cntRows r0:Int)) r1),.sl (Zak (kk+(cntRows r0:Int)+(cntRows r1:Int)) r2)]) (us:=[u0,u1,u2]) (Es:=fun k=>match k with | 0=>Fs0 0 | 1=>Fs0 1 | _=>F2) rfl trivial⟩
 refine pE [1003,1004,1005] [1000] hre ?_;have F:=hk;have ee:kk+(cntRows r0:Int)+(cntRows r1:Int)+(cntRows r2:Int)=kk+((cntRows r0+(cntRows r1+(cntRows r2)):Nat):Int):=om;rw [ee];exact gTP (R:=fun r pm=>∃ E',r=[.one (.lit (.int .i64 (kk+((cntRows r0+(cntRows r1+(cntRows r2)):Nat):Int))))]∧pm=[.set E' (fun w=>Zae w (Zcq kk [.sl r0,.sl r1,.sl r2]) E' [u0,u1,u2])]) [1000] ⟨E6,rfl,by simp only [Zcq];rfl⟩
theorem ZjA {rows:List (List C)} (hok:Zam (Zaf .cond) rows):Zdx 39 rows:=by
 intro k E v hk hb;refine gIP (ts:=[.slot 4]) [1000] 563 Tryz.func39 ?_;refine fG @e0P ?_;by_cases hne:rows=[]
 ·subst hne;refine pEx [1000] [1000] ZgM ?_;rintro ⟨a,cap⟩ rfl;have F:=@hk;refine gL (ι:=Unit) [1,5,9] [] (fun x=>[(5,.d (.one (.lit (.int .i64 0)))),(1,.d (.one (.lit (.int .i64 k))))]) (fun x=>[]) (fun x=>True) (fun x=>0) (()) (trivial) (fun x hx=>?_);clear F;have q1:((0:Int) < 0)=False:=eq_false (by decide);have q2:((0:Int) < ((0:Nat):Int))=False:=eq_false (by decide);refine fG (ai @q1 @q2) ?_;have F:=hk
  refine gTP (R:=fun r pm=>∃ E',r=[.one (.lit (.int .i64 (k+(cntRows []:Nat))))]∧pm=[.set E' (fun w=>Own w (.sl (Zak k [])) E' (.slice a 0 cap))]) [1000] ⟨E,by simp only [cntRows,Int.natCast_zero,Int.add_zero];rfl,by simp only [Zak];rfl⟩
 ·have hrl:rowsLen 8 rows:=Zam.rowsLen hok;refine pEx [1000] [1000,1001] (Zfj hne hrl) ?_;rintro ⟨a,cap,ety,uss,E1⟩ ⟨rfl,hl,hmx⟩;simp only at hl ⊢;unfold maxLen at hmx;refine pE [] [1002] Zcv ?_;have F:=aj4 @Zc0 @Zek @Int.add_zero @Int.natCast_zero;refine gL (ι:=Nat × List (List Value) × (Nat->Prop) × (Nat->Prop)) [1,5,9] [1000,1001,1002] (fun x=>[(5,.d (.one (.lit (.int .i64 (x.1:Int))))),(1,.d (.one (.lit (.int .i64 (k+(cntRows (rows.take x.1):Nat))))))]) (fun x=>[(1000,.buf (some (a,cap)) ety 8 (x.2.1.map Zag)),(1001,.set x.2.2.1 (fun w=>Zap w (rows.drop x.1) x.2.2.1 (x.2.1.drop x.1))),(1002,.set x.2.2.2 (fun w=>Zap w (Zak k (rows.take x.1)) x.2.2.2 (x.2.1.take x.1)))]) (fun x=>x.1<=rows.length∧x.2.1.length=rows.length) (fun x=>rows.length - x.1) ((0,uss,E1,fun _=>False)) (⟨Taj _,hl⟩) (fun x hx=>?_);clear F
  obtain ⟨i,us,E2,E3⟩:=x;obtain ⟨hi,hn⟩:=hx;simp only at hi hn;dsimp only;by_cases hlt:i < rows.length
  ·obtain ⟨r,hr⟩:∃ r,rows[i]?=some r:=⟨_,Taa hlt⟩;obtain ⟨u,hu⟩:∃ u,us[i]?=some u:=⟨_,Taa om⟩;obtain ⟨i0,t1,i2,r3,i4,t5,i6,r7,rfl,g0,g1,g2,g3,g4,g5,g6,g7⟩:=ZcN (hok.get hr);have hm3:=ZfR g3;have hm7:=ZfR g7;have hc1:cntRows (rows.take (i+1))=cntRows (rows.take i)+(6+cntRows r3+cntRows r7):=by
    rw [Zce hr,Zdp];simp only [ZcG,cntC];try omega
   have hc2:=Zcf rows (i+1);rw [Zck hr,Zck hu];refine pEx [1001] [1001] (Zfk rfl) ?_;rintro ⟨⟩ hlit;obtain ⟨u3,u7,rfl⟩:∃ u3 u7,u=[.int .i64 i0,.string t1,.int .i64 i2,u3,.int .i64 i4,.string t5,.int .i64 i6,u7]:=by
    match u,hlit with
    | [_,_,_,u3,_,_,_,u7],⟨rfl,rfl,rfl,rfl,rfl,rfl,_⟩=>exact ⟨u3,u7,rfl⟩
   refine pEx (f:=fun (x:(Nat->Prop) × (Nat->Nat->Prop))=>[.set x.1 (fun w=>Zap w (rows.drop (i+1)) x.1 (us.drop (i+1))),.set (x.2 0) (fun w=>Own w (.sl r3) (x.2 0) u3),.set (x.2 1) (fun w=>Own w (.sl r7) (x.2 1) u7)]) [1001] [1001,1003,1004] (ZgO rfl) ?_;rintro ⟨E4,Es⟩ -;dsimp only;have hkk0:0<=k+(cntRows (rows.take i):Int):=om;have hkk1:k+(cntRows (rows.take i):Int)+((6+cntRows r3+cntRows r7:Nat):Int)<=1000000000:=om
   generalize hkk:k+(cntRows (rows.take i):Int)=kk at hkk0 hkk1 ⊢;have q1:=lT i rows.length;have q2:i < rows.length:=hlt;have hs:∀ X:List C,((us.map Zag).set i X)[i]?=some X:=fun X=>Zgk (by rw [ZaH,hn];omega) X;have lr:Zag [.int .i64 i0,.string t1,.int .i64 i2,u3,.int .i64 i4,.string t5,.int .i64 i6,u7]=[.lit (.int .i64 i0),.lit (.string t1),.lit (.int .i64 i2),.lit (u3),.lit (.int .i64 i4),.lit (.string t5),.lit (.int .i64 i6),.lit (u7)]:=rfl
   have w0:IntKind.i64.wrap (kk+1)=kk+1:=IntWalk.i64_in _ om;have w1:IntKind.i64.wrap (kk+1+1)=kk+1+1:=IntWalk.i64_in _ om;have w2:IntKind.i64.wrap (kk+1+1+1)=kk+1+1+1:=IntWalk.i64_in _ om;have w4:IntKind.i64.wrap (kk+1+1+1+(cntRows r3:Int)+1)=kk+1+1+1+(cntRows r3:Int)+1:=IntWalk.i64_in _ om;have w5:IntKind.i64.wrap (kk+1+1+1+(cntRows r3:Int)+1+1)=kk+1+1+1+(cntRows r3:Int)+1+1:=IntWalk.i64_in _ om
   have w6:IntKind.i64.wrap (kk+1+1+1+(cntRows r3:Int)+1+1+1)=kk+1+1+1+(cntRows r3:Int)+1+1+1:=IntWalk.i64_in _ om;have wi:IntKind.i64.wrap ((i:Int)+1)=(i:Int)+1:=IntWalk.i64_in _ om;refine fB (aj16 @q1 @hl @hn @hu @lr @ZaH @ZaT @hs @w0 @w1 @w2 @w4 @w5 @w6 @q2 @ZaZ) ?_;refine fC (aj16 @q1 @hl @hn @hu @lr @ZaH @ZaT @hs @w0 @w1 @w2 @w4 @w5 @w6 @q2 @ZaZ) (ZcF (kk+1) om om) ?_;refine fR (aj16 @q1 @hl @hn @hu @lr @ZaH @ZaT @hs @w0 @w1 @w2 @w4 @w5 @w6 @q2 @ZaZ) ?_
   refine fB (aj16 @q1 @hl @hn @hu @lr @ZaH @ZaT @hs @w0 @w1 @w2 @w4 @w5 @w6 @q2 @ZaZ) ?_;have F:=aj16 @q1 @hl @hn @hu @lr @ZaH @ZaT @hs @w0 @w1 @w2 @w4 @w5 @w6 @q2 @ZaZ;refine gCP [1003] [1003] (hm3 (kk+1+1+1) (Es 0) u3 om om) ?_;clear F;rintro r pm ⟨F3,rfl,rfl⟩;simp only [setA,retA,zipM,Taf,Tah];refine fR (aj16 @q1 @hl @hn @hu @lr @ZaH @ZaT @hs @w0 @w1 @w2 @w4 @w5 @w6 @q2 @ZaZ) ?_;refine fB (aj16 @q1 @hl @hn @hu @lr @ZaH @ZaT @hs @w0 @w1 @w2 @w4 @w5 @w6 @q2 @ZaZ) ?_
   refine fC (aj16 @q1 @hl @hn @hu @lr @ZaH @ZaT @hs @w0 @w1 @w2 @w4 @w5 @w6 @q2 @ZaZ) (ZcF (kk+1+1+1+(cntRows r3:Int)+1) om om) ?_;refine fR (aj16 @q1 @hl @hn @hu @lr @ZaH @ZaT @hs @w0 @w1 @w2 @w4 @w5 @w6 @q2 @ZaZ) ?_;refine fB (aj16 @q1 @hl @hn @hu @lr @ZaH @ZaT @hs @w0 @w1 @w2 @w4 @w5 @w6 @q2 @ZaZ) ?_;have F:=aj16 @q1 @hl @hn @hu @lr @ZaH @ZaT @hs @w0 @w1 @w2 @w4 @w5 @w6 @q2 @ZaZ;refine gCP [1004] [1004] (hm7 (kk+1+1+1+(cntRows r3:Int)+1+1+1) (Es 1) u7 om om) ?_;clear F
   rintro r pm ⟨F7,rfl,rfl⟩;simp only [setA,retA,zipM,Taf,Tah];refine fR (aj16 @q1 @hl @hn @hu @lr @ZaH @ZaT @hs @w0 @w1 @w2 @w4 @w5 @w6 @q2 @ZaZ) ?_;obtain ⟨E6,hre⟩:∃ E6,Za2 [.set E3 (fun w=>Zap w (Zak k (rows.take i)) E3 (us.take i)),.set F3 (fun w=>Own w (.sl (Zak (kk+1+1+1) r3)) F3 u3),.set F7 (fun w=>Own w (.sl (Zak (kk+1+1+1+(cntRows r3:Int)+1+1+1) r7)) F7 u7)] [.set E6 (fun w=>Zap w (Zak k (rows.take (i+1))) E6 ((us.set i [.int .i64 (kk),.string (txt (kk+1)),.int .i64 (kk+1+1),u3,.int .i64 (kk+1+1+1+(cntRows r3:Int)),.string (txt (kk+1+1+1+(cntRows r3:Int)+1)),.int .i64 (kk+1+1+1+(cntRows r3:Int)+1+1),u7]).take (i+1)))]:=by
    have hz:=ZgP (E:=E3) (done:=Zak k (rows.take i)) (ud:=us.take i) (cs:=[.lit (.int .i64 (kk)),.lit (.string (txt (kk+1))),.lit (.int .i64 (kk+1+1)),.sl (Zak (kk+1+1+1) r3),.lit (.int .i64 (kk+1+1+1+(cntRows r3:Int))),.lit (.string (txt (kk+1+1+1+(cntRows r3:Int)+1))),.lit (.int .i64 (kk+1+1+1+(cntRows r3:Int)+1+1)),.sl (Zak (kk+1+1+1+(cntRows r3:Int)+1+1+1) r7)]) (us:=[.int .i64 (kk),.string (txt (kk+1)),.int .i64 (kk+1+1),u3,.int .i64 (kk+1+1+1+(cntRows r3:Int)),.string (txt (kk+1+1+1+(cntRows r3:Int)+1)),.int .i64 (kk+1+1+1+(cntRows r3:Int)+1+1),u7]) (Es:=fun k=>match k with | 0=>F3 | _=>F7) rfl ⟨rfl,rfl,rfl,rfl,rfl,rfl,trivial⟩
    rw [Zce hr,Zc2,hkk,ZeJ om];simp only [ZcZ,mkC,mkV,cntC,Int.natCast_one];exact ⟨_,hz⟩
   refine pE [1002,1003,1004] [1002] hre ?_;have e1:((us.set i [.int .i64 (kk),.string (txt (kk+1)),.int .i64 (kk+1+1),u3,.int .i64 (kk+1+1+1+(cntRows r3:Int)),.string (txt (kk+1+1+1+(cntRows r3:Int)+1)),.int .i64 (kk+1+1+1+(cntRows r3:Int)+1+1),u7]).map Zag)=(us.map Zag).set i [.lit (.int .i64 (kk)),.lit (.string (txt (kk+1))),.lit (.int .i64 (kk+1+1)),.lit (u3),.lit (.int .i64 (kk+1+1+1+(cntRows r3:Int))),.lit (.string (txt (kk+1+1+1+(cntRows r3:Int)+1))),.lit (.int .i64 (kk+1+1+1+(cntRows r3:Int)+1+1)),.lit (u7)]:=by rw [List.map_set];rfl
   have e2:=ZeK us i [.int .i64 (kk),.string (txt (kk+1)),.int .i64 (kk+1+1),u3,.int .i64 (kk+1+1+1+(cntRows r3:Int)),.string (txt (kk+1+1+1+(cntRows r3:Int)+1)),.int .i64 (kk+1+1+1+(cntRows r3:Int)+1+1),u7];have e5:k+(cntRows (rows.take (i+1)):Int)=kk+1+1+1+(cntRows r3:Int)+1+1+1+(cntRows r7:Int):=by rw [hc1];omega
   have hn2:(us.set i [.int .i64 (kk),.string (txt (kk+1)),.int .i64 (kk+1+1),u3,.int .i64 (kk+1+1+1+(cntRows r3:Int)),.string (txt (kk+1+1+1+(cntRows r3:Int)+1)),.int .i64 (kk+1+1+1+(cntRows r3:Int)+1+1),u7]).length=rows.length:=by rw [ZaT,hn]
   generalize us.set i [.int .i64 (kk),.string (txt (kk+1)),.int .i64 (kk+1+1),u3,.int .i64 (kk+1+1+1+(cntRows r3:Int)),.string (txt (kk+1+1+1+(cntRows r3:Int)+1)),.int .i64 (kk+1+1+1+(cntRows r3:Int)+1+1),u7]=us2 at e1 e2 hn2 ⊢;rw [<- e1,<- e2];have F:=aj10 @wi @e5 @hl @w0 @w1 @w2 @w4 @w5 @w6 @hn;refine gG ?_;exact ⟨(i+1,us2,E4,E6),⟨hlt,hn2⟩,gw,gw,om⟩
  ·obtain rfl:i=rows.length:=by omega
   have q1:=lF rows.length rows.length;rw [Tap,List.take_of_length_le (Nat.le_of_eq hn)];refine fG (aj3 @q1 @hl @hn) ?_;obtain ⟨E6,hre⟩:∃ E6,Za2 [.buf (some (a,cap)) ety 8 (us.map Zag),.set E3 (fun w=>Zap w (Zak k rows) E3 us)] [.set E6 (fun w=>Own w (.sl (Zak k rows)) E6 (.slice a uss.length cap))]:=by
    rw [hl,<- hn];exact ⟨_,Zb7 (fun w h=>h) (Own.stable _ _ _)⟩
   refine pE [1000,1002] [1000] hre ?_;have F:=hk;exact gTP (R:=fun r pm=>∃ E',r=[.one (.lit (.int .i64 (k+(cntRows rows:Nat))))]∧pm=[.set E' (fun w=>Own w (.sl (Zak k rows)) E' (.slice a uss.length cap))]) [1000] ⟨E6,rfl,rfl⟩
theorem ZjB {rows:List (List C)} (hok:Zam (Zaf .cond) rows):Zdx 39 rows:=ZjA hok
theorem ZjC {rows:List (List C)} (hok:Zam (Zaf .cond) rows) (hmx:rows.length+bulkRows rows<=1048576):Zj6 41 rows:=by
 intro k hk hb;have hrb:ZaA 8 (Zak k rows)=true:=Zud k hok.rowsLen;have hml:=Zin k rows;refine gI (ts:=[.slot 4]) 9905940528262939097185124915 Tryz.func41 ?_;refine fG @e0P ?_;have F:=aj4 @Zc0 @Zek @Int.add_zero @Int.natCast_zero;refine gL (ι:=Nat) [1,4,5,9,19,30,40,52,60,71,81,93] [] (fun x=>[(5,.d (.one (.lit (.int .i64 (x:Int))))),(1,.d (.one (.lit (.int .i64 (k+(cntRows (rows.take x):Nat))))))]) (fun x=>[]) (fun x=>x<=rows.length) (fun x=>rows.length - x) (0) (Taj _) (fun x hx=>?_);clear F
 by_cases hlt:x < rows.length
 ·obtain ⟨r,hr⟩:∃ r,rows[x]?=some r:=⟨_,Taa hlt⟩;have hbr:=Zcg hr;have hnd:=Zb9 hr;obtain ⟨i0,t1,i2,r3,i4,t5,i6,r7,rfl,g0,g1,g2,g3,g4,g5,g6,g7⟩:=ZcN (hok.get hr);simp only [bulkRow,Za6] at hbr;simp only [Zba,Zdb] at hnd;have hm3:=ZfS g3 om;have hm7:=ZfS g7 om;have hc1:cntRows (rows.take (x+1))=cntRows (rows.take x)+(6+cntRows r3+cntRows r7):=by
   rw [Zce hr,Zdp];simp only [ZcG,cntC];try omega
  have hc2:=Zcf rows (x+1);have hg:=Zis k hr;simp only [ZcZ,mkC,mkV,cntC,Int.natCast_one] at hg;have e5:k+(cntRows (rows.take (x+1)):Int)=k+(cntRows (rows.take x):Int)+1+1+1+(cntRows r3:Int)+1+1+1+(cntRows r7:Int):=by rw [hc1];omega
  have b1:k+(cntRows (rows.take x):Int)+((6+cntRows r3+cntRows r7:Nat):Int)<=1000000000:=om;have b0:0<=k+(cntRows (rows.take x):Int):=om;generalize k+(cntRows (rows.take x):Int)=kk at hg e5 b1 b0 ⊢;have q1:=lT x rows.length;have wx:IntKind.i64.wrap ((x:Int)+1)=(x:Int)+1:=IntWalk.i64_in _ om;have w0:IntKind.i64.wrap (kk+1)=kk+1:=IntWalk.i64_in _ om;have w1:IntKind.i64.wrap (kk+1+1)=kk+1+1:=IntWalk.i64_in _ om
  have w2:IntKind.i64.wrap (kk+1+1+1)=kk+1+1+1:=IntWalk.i64_in _ om;have q3a:(kk+1+1+1+(cntRows r3:Int) < 0)=False:=eq_false om;have w4:IntKind.i64.wrap (kk+1+1+1+(cntRows r3:Int)+1)=kk+1+1+1+(cntRows r3:Int)+1:=IntWalk.i64_in _ om;have w5:IntKind.i64.wrap (kk+1+1+1+(cntRows r3:Int)+1+1)=kk+1+1+1+(cntRows r3:Int)+1+1:=IntWalk.i64_in _ om;have w6:IntKind.i64.wrap (kk+1+1+1+(cntRows r3:Int)+1+1+1)=kk+1+1+1+(cntRows r3:Int)+1+1+1:=IntWalk.i64_in _ om
  have q7a:(kk+1+1+1+(cntRows r3:Int)+1+1+1+(cntRows r7:Int) < 0)=False:=eq_false om;refine fB (aj13 @q1 @hml @hrb @hg @beq_self_eq_true.{0} @w0 @w1 @w2 @q3a @w4 @w5 @w6 @q7a) ?_;refine fC (aj13 @q1 @hml @hrb @hg @beq_self_eq_true.{0} @w0 @w1 @w2 @q3a @w4 @w5 @w6 @q7a) (ZcF (kk+1) om om) ?_;refine fR (aj13 @q1 @hml @hrb @hg @beq_self_eq_true.{0} @w0 @w1 @w2 @q3a @w4 @w5 @w6 @q7a) ?_;refine fB (aj13 @q1 @hml @hrb @hg @beq_self_eq_true.{0} @w0 @w1 @w2 @q3a @w4 @w5 @w6 @q7a) ?_
  refine fC (aj13 @q1 @hml @hrb @hg @beq_self_eq_true.{0} @w0 @w1 @w2 @q3a @w4 @w5 @w6 @q7a) (hm3 (kk+1+1+1) om om) ?_;refine fR (aj13 @q1 @hml @hrb @hg @beq_self_eq_true.{0} @w0 @w1 @w2 @q3a @w4 @w5 @w6 @q7a) ?_;refine fB (aj13 @q1 @hml @hrb @hg @beq_self_eq_true.{0} @w0 @w1 @w2 @q3a @w4 @w5 @w6 @q7a) ?_;refine fC (aj13 @q1 @hml @hrb @hg @beq_self_eq_true.{0} @w0 @w1 @w2 @q3a @w4 @w5 @w6 @q7a) (ZcF (kk+1+1+1+(cntRows r3:Int)+1) om om) ?_
  refine fR (aj13 @q1 @hml @hrb @hg @beq_self_eq_true.{0} @w0 @w1 @w2 @q3a @w4 @w5 @w6 @q7a) ?_;refine fB (aj13 @q1 @hml @hrb @hg @beq_self_eq_true.{0} @w0 @w1 @w2 @q3a @w4 @w5 @w6 @q7a) ?_;refine fC (aj13 @q1 @hml @hrb @hg @beq_self_eq_true.{0} @w0 @w1 @w2 @q3a @w4 @w5 @w6 @q7a) (hm7 (kk+1+1+1+(cntRows r3:Int)+1+1+1) om om) ?_;refine fR (aj13 @q1 @hml @hrb @hg @beq_self_eq_true.{0} @w0 @w1 @w2 @q3a @w4 @w5 @w6 @q7a) ?_
  have F:=aj15 @wx @e5 @q1 @hml @hrb @hg @beq_self_eq_true.{0} @w0 @w1 @w2 @q3a @w4 @w5 @w6 @q7a;refine gG ?_;exact ⟨x+1,hlt,gw,gw,om⟩
 ·obtain rfl:x=rows.length:=by omega
  have q1:=lF rows.length rows.length;rw [Tap];exact fD (ai @q1 @hml)
theorem ZjD {rows:List (List C)} (hok:Zam (Zaf .cond) rows) (hmx:rows.length+bulkRows rows<=1048576):Zj6 41 rows:=ZjC hok hmx
theorem ZgR {row:List C} (hok:Zal (Zaf .eqn) row):ZoF 13 row:=by
 obtain ⟨i0,t1,i2,r3,i4,t5,i6,r7,r8,rfl,g0,g1,g2,g3,g4,g5,g6,g7,g8⟩:=Zc4 hok;intro kk E us hl hc hk hb;obtain ⟨u0,u1,u2,u3,u4,u5,u6,u7,u8,rfl⟩:=len9 hl;have kc:Zaj (.lit u0)=true∧Zaj (.lit u1)=true∧Zaj (.lit u2)=true∧Zaj (.lit u3)=true∧Zaj (.lit u4)=true∧Zaj (.lit u5)=true∧Zaj (.lit u6)=true∧Zaj (.lit u7)=true∧Zaj (.lit u8)=true:=by simpa [Zag,Tar,and_assoc] using hc
 obtain ⟨k0,k1,k2,k3,k4,k5,k6,k7,k8⟩:=kc;simp only [cntTop,Nat.add_zero] at hb ⊢;have lr:Zag [u0,u1,u2,u3,u4,u5,u6,u7,u8]=[.lit u0,.lit u1,.lit u2,.lit u3,.lit u4,.lit u5,.lit u6,.lit u7,.lit u8]:=rfl;rw [lr];refine gIP (ts:=[.slot 4]) [1000] 23 Tryz.func13 ?_;refine pEx [1000] [1000] (Zs9 rfl) ?_;rintro ⟨⟩ hlit;obtain ⟨rfl,rfl,rfl,rfl,rfl,rfl,_⟩:=hlit;refine pEx (f:=fun (x:Nat->Nat->Prop)=>[.set (x 0) (fun w=>Own w (.sl r3) (x 0) u3),.set (x 1) (fun w=>Own w (.sl r7) (x 1) u7),.set (x 2) (fun w=>Own w (.sl r8) (x 2) u8)]) [1000] [1003,1004,1005] (ZeL rfl) ?_
 rintro Es -
 try dsimp only
 obtain ⟨G0,hre0⟩:∃ G,Za2 [.set (Es 0) (fun w=>Own w (.sl r3) (Es 0) u3)] [.set G (fun w=>Zae w [.lit (.int .i64 i0),.lit (.string t1),.lit (.int .i64 i2),.sl r3] G [.int .i64 i0,.string t1,.int .i64 i2,u3])]:=⟨_,ZeM (cs:=[.lit (.int .i64 i0),.lit (.string t1),.lit (.int .i64 i2),.sl r3]) (us:=[.int .i64 i0,.string t1,.int .i64 i2,u3]) (Es:=fun k=>Es (k+0)) rfl ⟨rfl,rfl,rfl,trivial⟩⟩;refine pE [1003] [1003] hre0 ?_
 have lr0:Zag [.int .i64 i0,.string t1,.int .i64 i2,u3]=[.lit (.int .i64 i0),.lit (.string t1),.lit (.int .i64 i2),.lit (u3)]:=rfl;have hm0:=Zjy (row:=[.lit (.int .i64 i0),.lit (.string t1),.lit (.int .i64 i2),.sl r3]) (Zbz g0 g1 g2 g3) (kk) G0 [.int .i64 i0,.string t1,.int .i64 i2,u3] rfl (by rw [lr0];simp only [List.all_cons,List.all_nil,k0,k1,k2,k3,Bool.and_self]) om (by simp only [cntTop];omega)
 rw [lr0] at hm0;simp only [cntTop,Zcq,Nat.add_zero,Int.natCast_add,<- Int.add_assoc] at hm0;refine fB (aj10 @lr @k0 @k1 @k2 @k3 @k4 @k5 @k6 @k7 @k8) ?_;have F:=aj10 @lr @k0 @k1 @k2 @k3 @k4 @k5 @k6 @k7 @k8;refine gCP [1003] [1003] (hm0) ?_;clear F;rintro r pm ⟨G0',rfl,rfl⟩;simp only [setA,retA,zipM,Taf,Tah];refine fR (aj10 @lr @k0 @k1 @k2 @k3 @k4 @k5 @k6 @k7 @k8) ?_;refine pEx (f:=fun (x:Nat->Nat->Prop)=>[.set (x 0) (fun w=>Own w (.sl (Zak (kk) r3)) (x 0) u3)]) [1003] [1003] (ZeL (r:=[.lit (.int .i64 i0),.lit (.string t1),.lit (.int .i64 i2),.sl (Zak (kk) r3)]) rfl) ?_
 rintro Fs0 -
 try dsimp only
 obtain ⟨G1,hre1⟩:∃ G,Za2 [.set (Es 1) (fun w=>Own w (.sl r7) (Es 1) u7)] [.set G (fun w=>Zae w [.lit (.int .i64 i4),.lit (.string t5),.lit (.int .i64 i6),.sl r7] G [.int .i64 i4,.string t5,.int .i64 i6,u7])]:=⟨_,ZeM (cs:=[.lit (.int .i64 i4),.lit (.string t5),.lit (.int .i64 i6),.sl r7]) (us:=[.int .i64 i4,.string t5,.int .i64 i6,u7]) (Es:=fun k=>Es (k+1)) rfl ⟨rfl,rfl,rfl,trivial⟩⟩;refine pE [1004] [1004] hre1 ?_
 have lr1:Zag [.int .i64 i4,.string t5,.int .i64 i6,u7]=[.lit (.int .i64 i4),.lit (.string t5),.lit (.int .i64 i6),.lit (u7)]:=rfl;have hm1:=Zjy (row:=[.lit (.int .i64 i4),.lit (.string t5),.lit (.int .i64 i6),.sl r7]) (Zbz g4 g5 g6 g7) (kk+(cntRows r3:Int)) G1 [.int .i64 i4,.string t5,.int .i64 i6,u7] rfl (by rw [lr1];simp only [List.all_cons,List.all_nil,k4,k5,k6,k7,Bool.and_self]) om (by simp only [cntTop];omega)
 rw [lr1] at hm1;simp only [cntTop,Zcq,Nat.add_zero,Int.natCast_add,<- Int.add_assoc] at hm1;refine fB (aj10 @lr @k0 @k1 @k2 @k3 @k4 @k5 @k6 @k7 @k8) ?_;have F:=aj10 @lr @k0 @k1 @k2 @k3 @k4 @k5 @k6 @k7 @k8;refine gCP [1004] [1004] (hm1) ?_;clear F;rintro r pm ⟨G1',rfl,rfl⟩;simp only [setA,retA,zipM,Taf,Tah];refine fR (aj10 @lr @k0 @k1 @k2 @k3 @k4 @k5 @k6 @k7 @k8) ?_;refine pEx (f:=fun (x:Nat->Nat->Prop)=>[.set (x 0) (fun w=>Own w (.sl (Zak (kk+(cntRows r3:Int)) r7)) (x 0) u7)]) [1004] [1004] (ZeL (r:=[.lit (.int .i64 i4),.lit (.string t5),.lit (.int .i64 i6),.sl (Zak (kk+(cntRows r3:Int)) r7)]) rfl) ?_
 rintro Fs1 -
 try dsimp only
 refine fB (aj10 @lr @k0 @k1 @k2 @k3 @k4 @k5 @k6 @k7 @k8) ?_;have F:=aj10 @lr @k0 @k1 @k2 @k3 @k4 @k5 @k6 @k7 @k8;refine gCP [1005] [1005] (ZjB g8 (kk+(cntRows r3:Int)+(cntRows r7:Int)) (Es 2) u8 om om) ?_;clear F;rintro r pm ⟨F8,rfl,rfl⟩;simp only [setA,retA,zipM,Taf,Tah];refine fR (aj10 @lr @k0 @k1 @k2 @k3 @k4 @k5 @k6 @k7 @k8) ?_;refine fG (aj10 @lr @k0 @k1 @k2 @k3 @k4 @k5 @k6 @k7 @k8) ?_;obtain ⟨E6,hre⟩:∃ E6,Za2 [.set (Fs0 0) (fun w=>Own w (.sl (Zak (kk) r3)) (Fs0 0) u3),.set (Fs1 0) (fun w=>Own w (.sl (Zak (kk+(cntRows r3:Int)) r7)) (Fs1 0) u7),.set (F8) (fun w=>Own w (.sl (Zak (kk+(cntRows r3:Int)+(cntRows r7:Int)) r8)) (F8) u8)] [.set E6 (fun w=>Zae w [.lit (.int .i64 i0),.lit (.string t1),.lit (.int .i64 i2),.sl (Zak (kk) r3),.lit (.int .i64 i4),.lit (.string t5),.lit (.int .i64 i6),.sl (Zak (kk+(cntRows r3:Int)) r7),.sl (Zak (kk+(cntRows r3:Int)+(cntRows r7:Int)) r8)] E6 [.int .i64 i0,.string t1,.int .i64 i2,u3,.int .i64 i4,.string t5,.int .i64 i6,u7,u8])]:=⟨_,ZeM (cs:=[.lit (.int .i64 i0),.lit (.string t1),.lit (.int .i64 i2),.sl (Zak (kk) r3),.lit (.int .i64 i4),.lit (.string t5),.lit (.int .i64 i6),.sl (Zak (kk+(cntRows r3:Int)) r7),.sl (Zak (kk+(cntRows r3:Int)+(cntRows r7:Int)) r8)]) (us:=[.int .i64 i0,.string t1,.int .i64 i2,u3,.int .i64 i4,.string t5,.int .i64 i6,u7,u8]) (Es:=fun k=>match k with | 0=>Fs0 0 | 1=>Fs1 0 | _=>F8) rfl ⟨rfl,rfl,rfl,rfl,rfl,rfl,trivial⟩⟩
 refine pE [1003,1004,1005] [1000] hre ?_;have F:=hk;have ee:kk+(cntRows r3:Int)+(cntRows r7:Int)+(cntRows r8:Int)=kk+((cntRows r3+(cntRows r7+(cntRows r8)):Nat):Int):=om;rw [ee];exact gTP (R:=fun r pm=>∃ E',r=[.one (.lit (.int .i64 (kk+((cntRows r3+(cntRows r7+(cntRows r8)):Nat):Int))))]∧pm=[.set E' (fun w=>Zae w (Zcq kk [.lit (.int .i64 i0),.lit (.string t1),.lit (.int .i64 i2),.sl r3,.lit (.int .i64 i4),.lit (.string t5),.lit (.int .i64 i6),.sl r7,.sl r8]) E' [.int .i64 i0,.string t1,.int .i64 i2,u3,.int .i64 i4,.string t5,.int .i64 i6,u7,u8])]) [1000] ⟨E6,rfl,by simp only [Zcq,<- Int.add_assoc,Int.natCast_add];rfl⟩
theorem Zk7 {row:List C} (hok:Zal (Zaf .eqn) row) (hB:bulkRow row<=1048576) (kk:Int) (hk:0<=kk) (hb:kk+cntTop row<=1000000000):Con e0 14 [.agg (Zcq kk row),.one (.lit (.int .i64 kk))] [.one (.lit (.int .i64 (kk+cntTop row)))]:=by
 obtain ⟨i0,t1,i2,r3,i4,t5,i6,r7,r8,rfl,g0,g1,g2,g3,g4,g5,g6,g7,g8⟩:=Zc4 hok;simp only [cntTop,Nat.add_zero] at hb ⊢;simp only [bulkRow,Za6] at hB;simp only [Zcq];have ee:kk+((cntRows r3+(cntRows r7+(cntRows r8)):Nat):Int)=kk+(cntRows r3:Int)+(cntRows r7:Int)+(cntRows r8:Int):=om;rw [ee];have c0:=Zjz (row:=[.lit (.int .i64 i0),.lit (.string t1),.lit (.int .i64 i2),.sl r3]) (Zbz g0 g1 g2 g3) (by simp only [bulkRow,Za6];omega) (kk) om (by simp only [cntTop];omega)
 simp only [Zcq,cntTop,Nat.add_zero] at c0;have q0:(kk+(cntRows r3:Int) < 0)=False:=eq_false om;have c1:=Zjz (row:=[.lit (.int .i64 i4),.lit (.string t5),.lit (.int .i64 i6),.sl r7]) (Zbz g4 g5 g6 g7) (by simp only [bulkRow,Za6];omega) (kk+(cntRows r3:Int)) om (by simp only [cntTop];omega);simp only [Zcq,cntTop,Nat.add_zero] at c1;have q1:(kk+(cntRows r3:Int)+(cntRows r7:Int) < 0)=False:=eq_false om
 have c2:=ZjD g8 om (kk+(cntRows r3:Int)+(cntRows r7:Int)) om om;have q2:(kk+(cntRows r3:Int)+(cntRows r7:Int)+(cntRows r8:Int) < 0)=False:=eq_false om;refine gI (ts:=[.slot 4]) 4260887 Tryz.func14 ?_;refine fB (aj3 @q0 @q1 @q2) ?_;refine fC (aj3 @q0 @q1 @q2) (c0) ?_;refine fR (aj3 @q0 @q1 @q2) ?_;refine fB (aj3 @q0 @q1 @q2) ?_;refine fC (aj3 @q0 @q1 @q2) (c1) ?_;refine fR (aj3 @q0 @q1 @q2) ?_;refine fB (aj3 @q0 @q1 @q2) ?_
 refine fC (aj3 @q0 @q1 @q2) (c2) ?_;refine fR (aj3 @q0 @q1 @q2) ?_;exact fD (aj3 @q0 @q1 @q2)
theorem ZnW (t:TN):(Zaf t).length<=16:=by cases t <;> decide
mutual
theorem ZBI:∀ (f:F) (c:C),okC f c->cntC c<=1+16 * Za6 c
 | f,.lit v,_=>by simp only [cntC];omega
 | .sl t,.sl rows,h=>by
  have:=Zit (Zaf t) rows (ZnW t) (by simpa [okC] using h);simp only [cntC,Za6];omega
 | .int,.sl _,h=>by simp [okC] at h
 | .str,.sl _,h=>by simp [okC] at h
 | .bool,.sl _,h=>by simp [okC] at h
 | f,.ptr _,_=>by simp [cntC]
 | f,.fn _ _,_=>by simp [cntC]
theorem Zit:∀ (fs:List F) (rows:List (List C)),fs.length<=16->Zam fs rows->cntRows rows<=16 * (rows.length+bulkRows rows)
 | fs,[],_,_=>by simp [cntRows]
 | fs,r::rs,hl,h=>by
  simp only [Zam] at h;have h1:=ZnX fs r h.1;have h2:=Zit fs rs hl h.2;simp only [cntRows,bulkRows,Tag];omega
theorem ZnX:∀ (fs:List F) (cs:List C),Zal fs cs->ZcG cs<=fs.length+16 * bulkRow cs
 | [],[],_=>by simp [ZcG]
 | f::fs,c::cs,h=>by
  simp only [Zal] at h;have h1:=ZBI f c h.1;have h2:=ZnX fs cs h.2;simp only [ZcG,bulkRow,Tag];omega
 | [],_::_,h=>by simp [Zal] at h
 | _::_,[],h=>by simp [Zal] at h
end
theorem Zha:∀ (fs:List F) (cs:List C),Zal fs cs->cntTop cs<=16 * bulkRow cs
 | [],[],_=>by simp [cntTop]
 | f::fs,c::cs,h=>by
  simp only [Zal] at h;have h2:=Zha fs cs h.2
  cases c with
  | lit v=>simp only [cntTop,bulkRow];omega
  | sl rows =>
   cases f with
   | sl t =>
    have:=Zit (Zaf t) rows (ZnW t) (by simpa [okC] using h.1);simp only [cntTop,bulkRow,Za6];omega
   | _=>simp [okC] at h
  | ptr _=>simp only [cntTop,bulkRow];omega
  | fn _ _=>simp only [cntTop,bulkRow];omega
 | [],_::_,h=>by simp [Zal] at h
 | _::_,[],h=>by simp [Zal] at h
theorem Zk8 {us:List Value} {n:Nat} (h:us.length=n):(Zag us).length=n∧(Zag us).take n=Zag us∧(Zag us).drop n=[]:=by
 have hl:(Zag us).length=n:=by unfold Zag;rw [Tay];exact h
 exact ⟨hl,List.take_of_length_le (Nat.le_of_eq hl),List.drop_of_length_le (Nat.le_of_eq hl)⟩
inductive Seg
 | lits (us:List Value)
 | sl (E:Nat->Prop) (rows:List (List C)) (u:Value)
 | st (E:Nat->Prop) (cs:List C) (us:List Value)
def segB:List Seg->List Bk
 | []=>[]
 | .lits _::r=>segB r
 | .sl E rows u::r=>.set E (fun w=>Own w (.sl rows) E u)::segB r
 | .st E cs us::r=>.set E (fun w=>Zae w cs E us)::segB r
def segC:List Seg->List C
 | []=>[]
 | .lits us::r=>Zag us++segC r
 | .sl _ rows _::r=>.sl rows::segC r
 | .st _ cs _::r=>cs++segC r
def segV:List Seg->List Value
 | []=>[]
 | .lits us::r=>us++segV r
 | .sl _ _ u::r=>u::segV r
 | .st _ _ us::r=>us++segV r
theorem Zae.app {w:World} {S S1 S2:Nat->Prop} {ds:List C} {vs:List Value} (h2:Zae w ds S2 vs) (i2:∀ x,S2 x->S x):∀ {cs:List C} {us:List Value} {S1:Nat->Prop},Zae w cs S1 us->(∀ x,S1 x->S x)->(∀ x,S1 x->S2 x->False)->Zae w (cs++ds) S (us++vs)
 | [],[],_,_,_,_=>Zae.keep (Tai _) ds S2 S vs (fun _ _=>rfl) i2 h2
 | c::cs,u::us,T,h,i1,hd=>by
  simp only [Zae] at h;obtain ⟨T1,T2,a1,a2,a3,a4,a5⟩:=h;have h3:Zae w (cs++ds) (fun x=>T2 x∨S2 x) (us++vs):=Zae.app (S:=fun x=>T2 x∨S2 x) (S1:=T2) h2 (fun _ h=>.inr h) a5 (fun _ h=>.inl h) fun x hx=>hd x (a2 x hx);exact Zae.cons T1 (fun x=>T2 x∨S2 x) a4 h3 (fun x hx=>i1 x (a1 x hx)) (fun x hx=>hx.elim (fun q=>i1 x (a2 x q)) (i2 x)) fun x hx hy=>hy.elim (a3 x hx) (hd x (a1 x hx))
 | [],_::_,_,h,_,_=>by simp [Zae] at h
 | _::_,[],_,h,_,_=>by simp [Zae] at h
theorem Zae.lits {w:World}:∀ {us:List Value},Zae w (Zag us) (fun _=>False) us
 | []=>Zae.nil
 | u::us=>Zae.lit Zae.lits
theorem Ziu {w:World} {S:Nat->Prop}:∀ {ss:List Seg},(∀ x∈segB ss,ZbY w S x)->Zcw (segB ss)->Zae w (segC ss) (ZaR (segB ss)) (segV ss)
 | [],_,_=>Zae.nil
 | .lits us::r,h,ha=>Zae.app (S1:=fun _=>False) (Ziu (ss:=r) h ha) (fun _ q=>q) Zae.lits (fun _ q=>q.elim) fun _ q=>q.elim
 | .sl E rows u::r,h,⟨a1,a2⟩=>Zae.cons E (ZaR (segB r)) (h _ Tas).2.1 (Ziu (fun x hx=>h x (Tal _ hx)) a2) (fun b q=>⟨_,Tas,q⟩) (fun b ⟨x,hx,q⟩=>⟨x,Tal _ hx,q⟩) fun b q ⟨x,hx,q2⟩=>a1 x hx b q q2
 | .st E cs us::r,h,⟨a1,a2⟩=>Zae.app (S1:=E) (Ziu (fun x hx=>h x (Tal _ hx)) a2) (fun b ⟨x,hx,q⟩=>⟨x,Tal _ hx,q⟩) (h _ Tas).2.1 (fun b q=>⟨_,Tas,q⟩) fun b q ⟨x,hx,q2⟩=>a1 x hx b q q2
theorem Ziv:∀ {ss:List Seg} {y:Bk},y∈segB ss->∃ E G,y=.set E G
 | .lits _::r,y,h=>Ziv (ss:=r) h
 | .sl _ _ _::r,y,h=>by
  rcases Tbg.1 h with rfl | h
  ·exact ⟨_,_,rfl⟩
  ·exact Ziv h
 | .st _ _ _::r,y,h=>by
  rcases Tbg.1 h with rfl | h
  ·exact ⟨_,_,rfl⟩
  ·exact Ziv h
 | [],_,h=>by cases h
theorem ZeV (ss:List Seg):Za2 (segB ss) [.set (ZaR (segB ss)) (fun w=>Zae w (segC ss) (ZaR (segB ss)) (segV ss))]:=fun w S h ha=>by
 have hv:=Ziu (w:=w) (S:=S) h ha;refine ⟨fun x hx=>?_,ZdX _,fun g ⟨x,hx,hg⟩=>?_⟩
 ·simp only [Tbg,List.not_mem_nil,or_false] at hx;subst hx;refine ⟨fun b ⟨y,hy,hg⟩=>?_,hv,Zae.stable _ _ _⟩;obtain ⟨E',G',rfl⟩:=Ziv hy;exact (h _ hy).1 b hg
 ·simp only [Tbg,List.not_mem_nil,or_false] at hx;subst hx;exact hg
theorem Zfm {α:Type} (A:List α) (z x:α) (k:Nat) (i:Nat) (hi:i=A.length):(A++List.replicate (k+1) z).set i x=(A++[x])++List.replicate k z:=by
 subst hi;rw [List.set_append_right _ _ (Tai _),Nat.sub_self,List.replicate_succ,List.set_cons_zero,Tbf];rfl
theorem tks {α:Type} {l:List α} {i:Nat} {x:α} (h:l[i]?=some x):l.take (i+1)=l.take i++[x]:=by simp [List.take_add_one,h]
theorem tk0 (l:List (List C)):l.take 0=[]:=rfl
theorem nla (l:List (List C)):[]++l=l:=rfl
theorem ZA4 (u:Value):Zag [u]=[.lit u]:=rfl
theorem ZcP {e:Env} {f:FuncId} {rows:List (List C)} {post r:List D} (hb:Zcm e.P f=true) (h:rows.length<=maxLen->Con e f (.one (.sl rows)::post) r):Con e f (.one (.sl rows)::post) r:=⟨hb,fun w S vs hS hE hG hv=>by
 match vs,hv with
 | v::vs,⟨h1,h2⟩ =>
  have h1':Rep w S (.sl rows) v:=h1;obtain ⟨A,n,cap,rfl,hn,hc,hm⟩:=h1'.form;exact (h om).2 w S _ hS hE hG ⟨h1,h2⟩⟩
theorem Zfn:bulkRows []=0:=by simp [bulkRows]
def ZoG:F->Bool
 | .int=>true
 | .bool=>true
 | _=>false
theorem ZCj {fs:List F}:∀ {r:List C},fs.all ZoG=true->Zal fs r->bulkRow r=0:=by
 induction fs with
 | nil=>intro r _ h;cases r with
  | nil=>simp [bulkRow]
  | cons _ _=>simp [Zal] at h
 | cons f fs ih =>
  intro r hf h
  cases r with
  | nil=>simp [Zal] at h
  | cons c cs =>
   simp only [Zal] at h;simp only [List.all_cons,Tar] at hf;have h2:=ih hf.2 h.2
   cases f with
   | int=>obtain ⟨n,rfl,_⟩:=Zcl h.1;simp [bulkRow,Za6,h2]
   | bool=>obtain ⟨n,rfl⟩:=ZkC h.1;simp [bulkRow,Za6,h2]
   | str=>simp [ZoG] at hf
   | sl t=>simp [ZoG] at hf
theorem Zuf {fs:List F} (hf:fs.all ZoG=true):∀ {rows:List (List C)},Zam fs rows->bulkRows rows=0
 | [],_=>Zfn
 | r::rs,h=>by
  simp only [Zam] at h;simp [bulkRows,ZCj hf h.1,Zuf hf h.2]
theorem ZiG {row:List C} (hok:Zal (Zaf .term) row) (HTerm:∀ (rows:List (List C)),ZbS rows < Zba row->Zam (Zaf .term) rows->∀ {left:Int},0<=left->left<=1048576->Con e0 45 [.one (.sl rows),.one (.lit (.int .i64 left))] [.one (.lit (.int .i64 (sub left (rows.length+bulkRows rows))))]) {left:Int} (h0:0<=left) (h1:left<=1048576):Con e0 17 [.agg row,.one (.lit (.int .i64 left))] [.one (.lit (.int .i64 (sub left (bulkRow row))))]:=by
 obtain ⟨i0,t1,i2,r3,rfl,g0,g1,g2,g3⟩:=Zcy hok;rw [show bulkRow [.lit (.int .i64 i0),.lit (.string t1),.lit (.int .i64 i2),.sl r3]=t1.size+(r3.length+bulkRows r3) by simp only [bulkRow,Za6];omega];refine gI 133143 Tryz.func17 ?_;have hs:=g1;unfold maxLen at hs;have w:IntKind.i64.wrap (left - (t1.size:Int))=left - (t1.size:Int):=IntWalk.i64_in _ om;clear hs;by_cases q:left < (t1.size:Int)
 ·rw [ZaJ om];have q':(left - (t1.size:Int) < 0)=True:=eq_true om;exact fT (ai @w @q')
 have q':(left - (t1.size:Int) < 0)=False:=eq_false om;refine fG (ai @w @q') ?_;obtain ⟨L0,e0⟩:∃ x,x=left - (t1.size:Int):=⟨_,rfl⟩;rw [<- e0];clear w q';refine fB @e0P ?_;refine fC @e0P (HTerm r3 (by simp only [Zba,Zdb];omega) g3 (left:=L0) om om) ?_;refine fR @e0P ?_;by_cases q:L0 < (((r3.length+bulkRows r3):Nat):Int)
 ·rw [ZaJ (b:=(r3.length+bulkRows r3)) q]
  try rw [ZaJ om]
  have q':=lT (-1) 0;exact fT @q'
 rw [Za8 (b:=(r3.length+bulkRows r3)) om];have q':(L0 - (((r3.length+bulkRows r3):Nat):Int) < 0)=False:=eq_false om;refine fG @q' ?_;obtain ⟨L1,e1⟩:∃ x,x=L0 - (((r3.length+bulkRows r3):Nat):Int):=⟨_,rfl⟩;rw [<- e1];clear q'
 try rw [Za8 om,show left - ((t1.size+(r3.length+bulkRows r3):Nat):Int)=L1 by omega]
 exact fT @e0P
theorem ZiH {row:List C} (hok:Zal (Zaf .term) row) (HTerm:∀ (rows:List (List C)),ZbS rows < Zba row->Zam (Zaf .term) rows->Con e0 71 [.one (.sl rows),.one (.sl rows)] [.one (.lit (.bool true))]):Con e0 32 [.agg row,.agg row] [.one (.lit (.bool true))]:=by
 obtain ⟨i0,t1,i2,r3,rfl,g0,g1,g2,g3⟩:=Zcy hok;refine gI 34095647 Tryz.func32 ?_;refine fB (@beq_self_eq_true.{0}) ?_;refine fC @e0P (HTerm r3 (by simp only [Zba,Zdb];omega) g3) ?_;refine fR @e0P ?_;exact fT (@beq_self_eq_true.{0})
theorem ZhI {row:List C} (hok:Zal (Zaf .term) row) (HTerm:∀ (rows:List (List C)),ZbS rows < Zba row->Zam (Zaf .term) rows->rows.length+bulkRows rows<=1048576->ConP e0 59 [.one (.sl rows)] [] (Zcs rows)) (hb:bulkRow row<=1048576):ConP e0 25 [.agg row] [] (Zbv row):=by
 obtain ⟨i0,t1,i2,r3,rfl,g0,g1,g2,g3⟩:=Zcy hok;simp only [bulkRow,Za6] at hb;refine gIP (ts:=[.cell 2 39]) [] 15 Tryz.func25 ?_;refine fB @e0P ?_;have F:=@e0P;refine gCP [] [1000] (HTerm r3 (by simp only [Zba,Zdb];omega) g3 om) ?_;clear F;rintro r pm ⟨u3,E3,rfl,k3,rfl⟩;simp only [setA,retA,zipM,Taf,Tah];refine fR @k3 ?_;refine fG @k3 ?_;obtain ⟨E,hre⟩:∃ E,Za2 [.set E3 (fun w=>Own w (.sl r3) E3 u3)] [.set E (fun w=>Zae w [.lit (.int .i64 i0),.lit (.string t1),.lit (.int .i64 i2),.sl r3] E [.int .i64 i0,.string t1,.int .i64 i2,u3])]:=⟨_,ZeV [.lits [.int .i64 i0,.string t1,.int .i64 i2],.sl E3 r3 u3]⟩
 refine pE [1000] [1000] hre ?_;have hm:=Zbv.mk (row:=[.lit (.int .i64 i0),.lit (.string t1),.lit (.int .i64 i2),.sl r3]) (us:=[.int .i64 i0,.string t1,.int .i64 i2,u3]) (E:=E) rfl (by simp only [Zag,Tbt,List.map_nil,List.all_cons,List.all_nil,Bool.and_true,Tar];exact ⟨rfl,rfl,rfl,k3⟩);exact (have F:=e0P;gTP (R:=Zbv [.lit (.int .i64 i0),.lit (.string t1),.lit (.int .i64 i2),.sl r3]) [1000] hm)
theorem ZmV {rows:List (List C)} (hok:Zam (Zaf .term) rows) (h:∀ (i:Nat) r,rows[i]?=some r->∀ {left:Int},0<=left->left<=1048576->Con e0 17 [.agg r,.one (.lit (.int .i64 left))] [.one (.lit (.int .i64 (sub left (bulkRow r))))]) {left:Int} (h0:0<=left) (h1:left<=1048576):Con e0 45 [.one (.sl rows),.one (.lit (.int .i64 left))] [.one (.lit (.int .i64 (sub left (rows.length+bulkRows rows))))]:=by
 refine ZcP (by kernel_rfl) fun hm=>?_;unfold maxLen at hm;have w:IntKind.i64.wrap (left - (rows.length:Int))=left - (rows.length:Int):=IntWalk.i64_in _ om;have hrb:ZaA 4 rows=true:=Za7.2 hok.rowsLen;refine gI 33589299 Tryz.func45 ?_;by_cases q:left < (rows.length:Int)
 ·rw [ZaJ om];have q':(left - (rows.length:Int) < 0)=True:=eq_true om;exact fT (ai @w @q')
 have q':(left - (rows.length:Int) < 0)=False:=eq_false om;refine fG (ai @w @q') ?_;have F:=aj4 @tk0 @Zfn @Int.natCast_zero @Int.sub_zero;refine gL (ι:=Nat) [1,4,5,15,25] [] (fun x=>[(5,.d (.one (.lit (.int .i64 (x:Int))))),(1,.d (.one (.lit (.int .i64 (left - (rows.length:Int) - (bulkRows (rows.take x):Int))))))]) (fun x=>[]) (fun x=>x<=rows.length∧0<=left - (rows.length:Int) - (bulkRows (rows.take x):Int)) (fun x=>rows.length - x) (0) (⟨Taj _,by simp [bulkRows];omega⟩) (fun x hx=>?_);clear F
 obtain ⟨hx,hl⟩:=hx;by_cases hlt:x < rows.length
 ·obtain ⟨r,hr⟩:∃ r,rows[x]?=some r:=⟨_,Taa hlt⟩;have hq:=hok.get hr;obtain ⟨ln,tk,dr⟩:=hq.take (n:=4) rfl;have okc:=hq.cells;have q1:=lT x rows.length;have wi:=Zau (k:=x) om;have hbt:=ZeN hr;have hbl:=Zdz rows (x+1)
  skip
  have fe:=aj10 hr hlt ZaC hrb q1 okc ln tk dr (@Zaz C);obtain ⟨l,hle⟩:∃ l,l=left - (rows.length:Int) - (bulkRows (rows.take x):Int):=⟨_,rfl⟩;rw [<- hle];refine fB @fe ?_;refine fC @fe (h x _ hr (left:=l) om om) ?_;refine fR @fe ?_;by_cases q:l < ((bulkRow r:Nat):Int)
  ·rw [ZaJ (b:=bulkRow r) q,ZaJ om];have q':=lT (-1) 0;exact fT @q'
  rw [Za8 (b:=bulkRow r) om];have q':(l - ((bulkRow r:Nat):Int) < 0)=False:=eq_false om;have e:left - (rows.length:Int) - (bulkRows (rows.take (x+1)):Int)=l - ((bulkRow r:Nat):Int):=om;have F:=aj3 @q' @wi @e;refine gG ?_;exact ⟨x+1,⟨hlt,om⟩,gw,gw,om⟩
 ·obtain rfl:x=rows.length:=by omega
  have q1:=lF rows.length rows.length;rw [Tap] at hl ⊢;rw [Za8 om,show left - ((rows.length+bulkRows rows:Nat):Int)=left - (rows.length:Int) - (bulkRows rows:Int) by omega];exact fT @q1
theorem ZmW {rows:List (List C)} (hok:Zam (Zaf .term) rows) (h:∀ (i:Nat) r,rows[i]?=some r->Con e0 32 [.agg r,.agg r] [.one (.lit (.bool true))]):Con e0 71 [.one (.sl rows),.one (.sl rows)] [.one (.lit (.bool true))]:=by
 refine ZcP (by kernel_rfl) fun hm=>?_;unfold maxLen at hm;have hrb:ZaA 4 rows=true:=Za7.2 hok.rowsLen;refine gI 67126323 Tryz.func71 ?_;refine fG (@beq_self_eq_true.{0}) ?_;have F:=@e0P;refine gL (ι:=Nat) [4,5,14,26] [] (fun x=>[(5,.d (.one (.lit (.int .i64 (x:Int)))))]) (fun x=>[]) (fun x=>x<=rows.length) (fun x=>rows.length - x) (0) (Taj _) (fun x hx=>?_);clear F;by_cases hlt:x < rows.length
 ·obtain ⟨r,hr⟩:∃ r,rows[x]?=some r:=⟨_,Taa hlt⟩;have hq:=hok.get hr;obtain ⟨ln,tk,dr⟩:=hq.take (n:=4) rfl;have okc:=hq.cells;have q1:=lT x rows.length;have wi:=Zau (k:=x) om;have fe:=aj10 hr hlt ZaC hrb q1 okc ln tk dr (@Zaz C);refine fB @fe ?_;refine fC @fe (h x _ hr) ?_;refine fR @fe ?_;have F:=@wi;refine gG ?_;exact ⟨x+1,hlt,gw,gw,om⟩
 ·obtain rfl:x=rows.length:=by omega
  have q1:=lF rows.length rows.length;exact fT @q1
theorem Zmo {rows:List (List C)} (hok:Zam (Zaf .term) rows) (h:∀ (i:Nat) r,rows[i]?=some r->bulkRow r<=1048576->ConP e0 25 [.agg r] [] (Zbv r)) (hb:rows.length+bulkRows rows<=1048576):ConP e0 59 [.one (.sl rows)] [] (Zcs rows):=by
 have hrb:ZaA 4 rows=true:=Za7.2 hok.rowsLen;have hmx:((rows.length:Int)<=(maxApp:Int))=True:=eq_true (by unfold maxApp;omega);refine gIP (ts:=[.slot 2]) [] 2077 Tryz.func59 ?_;refine fG (ai @hmx @Tbx) ?_;refine pE [] [1000] Zcv ?_;have F:=aj3 @nla @Nat.sub_zero @tk0;refine gL (ι:=Nat × List (List Value) × (Nat->Prop)) [3,4,11] [3,1000] (fun x=>[(4,.d (.one (.lit (.int .i64 (x.1:Int))))),(3,.buf 3)]) (fun x=>[(3,.buf none 39 4 (x.2.1.map Zag++List.replicate (rows.length - x.1) [C.lit (.int .i64 0),C.lit (.string .empty),C.lit (.int .i64 0),C.sl []])),(1000,.set x.2.2 (fun w=>Zap w (rows.take x.1) x.2.2 x.2.1))]) (fun x=>x.1<=rows.length∧x.2.1.length=x.1) (fun x=>rows.length - x.1) ((0,[],fun _=>False)) (⟨Taj _,rfl⟩) (fun x hx=>?_);clear F
 obtain ⟨i,uss,E⟩:=x;obtain ⟨hi,hn⟩:=hx;simp only at hi hn;dsimp only;by_cases hlt:i < rows.length
 ·obtain ⟨r,hr⟩:∃ r,rows[i]?=some r:=⟨_,Taa hlt⟩;have hq:=hok.get hr;obtain ⟨ln,tk,dr⟩:=hq.take (n:=4) rfl;have okc:=hq.cells;have q1:=lT i rows.length;have wi:=Zau (k:=i) om;have fe:=aj10 hr hlt ZaC hrb q1 okc ln tk dr (@Zaz C);obtain ⟨k,hk⟩:∃ k,rows.length - i=k+1:=⟨rows.length - i - 1,om⟩;have hk2:rows.length - (i+1)=k:=om;rw [hk];have bl:(uss.map Zag++List.replicate (k+1) [C.lit (.int .i64 0),C.lit (.string .empty),C.lit (.int .i64 0),C.sl []]).length=rows.length:=by simp;omega
  have bs:∀ X,(uss.map Zag++List.replicate (k+1) [C.lit (.int .i64 0),C.lit (.string .empty),C.lit (.int .i64 0),C.sl []]).set i X=(uss.map Zag++[X])++List.replicate k [C.lit (.int .i64 0),C.lit (.string .empty),C.lit (.int .i64 0),C.sl []]:=fun X=>Zfm _ _ _ _ _ (by simp [hn]);have bg:(uss.map Zag++List.replicate (k+1) [C.lit (.int .i64 0),C.lit (.string .empty),C.lit (.int .i64 0),C.sl []])[i]?=some [C.lit (.int .i64 0),C.lit (.string .empty),C.lit (.int .i64 0),C.sl []]:=by rw [Tbq (by simp;omega),Tbr,if_pos (by simp;omega)]
  have hbr:=Zcg hr;refine fB (ai @fe @bl) ?_;have F:=ai @fe @bl;refine gCP [] [1001] (h i _ hr om) ?_;clear F;rintro r' pm ⟨us,E2,rfl,hu,hok2,rfl⟩;rw [ln] at hu;obtain ⟨u0,u1,u2,u3,rfl⟩:=len4 hu;have hok2:Zaj (.lit u0)=true∧Zaj (.lit u1)=true∧Zaj (.lit u2)=true∧Zaj (.lit u3)=true:=by simpa [Zag,Tar,and_assoc] using hok2
  obtain ⟨k0,k1,k2,k3⟩:=hok2;have lr:Zag [u0,u1,u2,u3]=[.lit u0,.lit u1,.lit u2,.lit u3]:=rfl;rw [lr];simp only [setA,retA,zipM,Taf,Tah];refine fR (aj8 @hlt @bl @bs @bg @k0 @k1 @k2 @k3) ?_;refine pE [1000,1001] [1000] (ZgJ (G':=fun w=>Zap w (rows.take (i+1)) (fun b=>E b∨E2 b) (uss++[[u0,u1,u2,u3]])) (fun w h1 h2 hd=>?_) (Zap.stable _ _ _)) ?_
  ·rw [tks hr];exact Zap.snoc h1 h2 (fun _ h=>.inl h) (fun _ h=>.inr h) hd
  have F:=aj5 @bs @wi @hk2 @lr ((@Tbu.{0,0}));refine gG ?_;exact ⟨(i+1,uss++[[u0,u1,u2,u3]],fun b=>E b∨E2 b),⟨hlt,by simp [hn]⟩,gw,gw,om⟩
 ·obtain rfl:i=rows.length:=by omega
  have q1:=lF rows.length rows.length;rw [Nat.sub_self,List.replicate_zero,List.append_nil,Tap];refine fG @q1 ?_;refine pS 2 fun a cap=>?_;refine pE [2,1000] [1000] (Zb7 (fun w h=>h) (Own.stable _ _ _)) ?_;exact (have F:=e0P;gTP (R:=Zcs rows) [1000] ⟨.slice a uss.length cap,_,rfl,rfl,rfl⟩)
theorem Zug (n:Nat):(∀ rows,ZbS rows < n->Zam (Zaf .term) rows->∀ {left:Int},0<=left->left<=1048576->Con e0 45 [.one (.sl rows),.one (.lit (.int .i64 left))] [.one (.lit (.int .i64 (sub left (rows.length+bulkRows rows))))]):=by
 induction n with
 | zero=>exact fun rows h=>absurd h om
 | succ n ih =>
  exact fun rows hn hok {left} h0 h1=>ZmV hok (fun i r hr left h0 h1=>ZiG (hok.get hr) (fun rows2 h2 ok2=>ih rows2 (by have:=Zb9 hr;omega) ok2) h0 h1) h0 h1
theorem Zgc {row:List C} (hok:Zal (Zaf .term) row) {left:Int} (h0:0<=left) (h1:left<=1048576):Con e0 17 [.agg row,.one (.lit (.int .i64 left))] [.one (.lit (.int .i64 (sub left (bulkRow row))))]:=ZiG hok (fun rows _ ok=>(Zug _) rows (Tan _) ok) h0 h1
theorem Zuh (n:Nat):(∀ rows,ZbS rows < n->Zam (Zaf .term) rows->Con e0 71 [.one (.sl rows),.one (.sl rows)] [.one (.lit (.bool true))]):=by
 induction n with
 | zero=>exact fun rows h=>absurd h om
 | succ n ih =>
  exact fun rows hn hok=>ZmW hok (fun i r hr=>ZiH (hok.get hr) (fun rows2 h2 ok2=>ih rows2 (by have:=Zb9 hr;omega) ok2))
theorem Zgd {row:List C} (hok:Zal (Zaf .term) row):Con e0 32 [.agg row,.agg row] [.one (.lit (.bool true))]:=ZiH hok (fun rows _ ok=>(Zuh _) rows (Tan _) ok)
theorem Zui (n:Nat):(∀ rows,ZbS rows < n->Zam (Zaf .term) rows->rows.length+bulkRows rows<=1048576->ConP e0 59 [.one (.sl rows)] [] (Zcs rows)):=by
 induction n with
 | zero=>exact fun rows h=>absurd h om
 | succ n ih =>
  exact fun rows hn hok hb=>Zmo hok (fun i r hr hb=>ZhI (hok.get hr) (fun rows2 h2 ok2=>ih rows2 (by have:=Zb9 hr;omega) ok2) hb) hb
theorem ZfD {row:List C} (hok:Zal (Zaf .term) row) (hb:bulkRow row<=1048576):ConP e0 25 [.agg row] [] (Zbv row):=ZhI hok (fun rows _ ok=>(Zui _) rows (Tan _) ok) hb
theorem Zuj {rows:List (List C)} (hok:Zam (Zaf .int) rows) {left:Int} (h0:0<=left) (h1:left<=1048576):Con e0 145 [.one (.sl rows),.one (.lit (.int .i64 left))] [.one (.lit (.int .i64 (sub left (rows.length+bulkRows rows))))]:=by
 refine ZcP (by kernel_rfl) fun hm=>?_;unfold maxLen at hm;have w:IntKind.i64.wrap (left - (rows.length:Int))=left - (rows.length:Int):=IntWalk.i64_in _ om;rw [Zuf (fs:=Zaf .int) (by rfl) hok,Nat.add_zero];refine gI 1043 Tryz.func145 ?_;by_cases q:left < (rows.length:Int)
 ·rw [ZaJ om];have q':(left - (rows.length:Int) < 0)=True:=eq_true om;exact fT (ai @w @q')
 have q':(left - (rows.length:Int) < 0)=False:=eq_false om;rw [Za8 om];exact fT (ai @w @q')
theorem Zuk {rows:List (List C)} (hok:Zam (Zaf .int) rows):Con e0 158 [.one (.sl rows),.one (.sl rows)] [.one (.lit (.bool true))]:=by
 refine ZcP (by kernel_rfl) fun hm=>?_;unfold maxLen at hm;have hrb:ZaA 1 rows=true:=Za7.2 hok.rowsLen;refine gI 33571891 Tryz.func158 ?_;refine fG (@beq_self_eq_true.{0}) ?_;have F:=@e0P;refine gL (ι:=Nat) [4,5,14,25] [] (fun x=>[(5,.d (.one (.lit (.int .i64 (x:Int)))))]) (fun x=>[]) (fun x=>x<=rows.length) (fun x=>rows.length - x) (0) (Taj _) (fun x hx=>?_);clear F;by_cases hlt:x < rows.length
 ·obtain ⟨r,hr⟩:∃ r,rows[x]?=some r:=⟨_,Taa hlt⟩;obtain ⟨x0,rfl,g0⟩:=ZgX (hok.get hr);have q1:=lT x rows.length;have wi:=Zau (k:=x) om;have fe:=aj5 hr hlt ZaC hrb q1;have F:=aj3 @beq_self_eq_true.{0} @wi @fe;refine gG ?_;exact ⟨x+1,hlt,gw,gw,om⟩
 ·obtain rfl:x=rows.length:=by omega
  have q1:=lF rows.length rows.length;exact fT @q1
theorem Zri {rows:List (List C)} (hok:Zam (Zaf .int) rows) (hb:rows.length+bulkRows rows<=1048576):ConP e0 149 [.one (.sl rows)] [] (Zcs rows):=by
 have hrb:ZaA 1 rows=true:=Za7.2 hok.rowsLen;have hmx:((rows.length:Int)<=(maxApp:Int))=True:=eq_true (by unfold maxApp;omega);refine gIP (ts:=[.slot 2]) [] 2077 Tryz.func149 ?_;refine fG (ai @hmx @Tbx) ?_;refine pE [] [1000] Zcv ?_;have F:=aj3 @nla @Nat.sub_zero @tk0;refine gL (ι:=Nat × List (List Value) × (Nat->Prop)) [3,4,11] [3,1000] (fun x=>[(4,.d (.one (.lit (.int .i64 (x.1:Int))))),(3,.buf 3)]) (fun x=>[(3,.buf none 3 1 (x.2.1.map Zag++List.replicate (rows.length - x.1) [C.lit (.int .i64 0)])),(1000,.set x.2.2 (fun w=>Zap w (rows.take x.1) x.2.2 x.2.1))]) (fun x=>x.1<=rows.length∧x.2.1.length=x.1) (fun x=>rows.length - x.1) ((0,[],fun _=>False)) (⟨Taj _,rfl⟩) (fun x hx=>?_);clear F
 obtain ⟨i,uss,E⟩:=x;obtain ⟨hi,hn⟩:=hx;simp only at hi hn;dsimp only;by_cases hlt:i < rows.length
 ·obtain ⟨r,hr⟩:∃ r,rows[i]?=some r:=⟨_,Taa hlt⟩;obtain ⟨x0,rfl,g0⟩:=ZgX (hok.get hr);have q1:=lT i rows.length;have wi:=Zau (k:=i) om;have fe:=aj5 hr hlt ZaC hrb q1;obtain ⟨k,hk⟩:∃ k,rows.length - i=k+1:=⟨rows.length - i - 1,om⟩;have hk2:rows.length - (i+1)=k:=om;rw [hk];have bl:(uss.map Zag++List.replicate (k+1) [C.lit (.int .i64 0)]).length=rows.length:=by simp;omega
  have bs:∀ X,(uss.map Zag++List.replicate (k+1) [C.lit (.int .i64 0)]).set i X=(uss.map Zag++[X])++List.replicate k [C.lit (.int .i64 0)]:=fun X=>Zfm _ _ _ _ _ (by simp [hn]);have bg:(uss.map Zag++List.replicate (k+1) [C.lit (.int .i64 0)])[i]?=some [C.lit (.int .i64 0)]:=by rw [Tbq (by simp;omega),Tbr,if_pos (by simp;omega)]
  refine pE [1000] [1000] (ZxB (G':=fun w=>Zap w (rows.take (i+1)) E (uss++[[.int .i64 x0]])) (fun w h=>?_) (Zap.stable _ _ _)) ?_
  ·rw [tks hr];exact Zap.snoc (S2:=fun _=>False) h (Zae.lits (us:=[.int .i64 x0])) (fun _ h=>h) (fun _ h=>h.elim) (fun _ _ h=>h)
  have F:=aj8 @fe @bl @bs @bg @wi @hk2 @ZA4 ((@Tbu.{0,0}));refine gG ?_;exact ⟨(i+1,uss++[[.int .i64 x0]],E),⟨hlt,by simp [hn]⟩,gw,gw,om⟩
 ·obtain rfl:i=rows.length:=by omega
  have q1:=lF rows.length rows.length;rw [Nat.sub_self,List.replicate_zero,List.append_nil,Tap];refine fG @q1 ?_;refine pS 2 fun a cap=>?_;refine pE [2,1000] [1000] (Zb7 (fun w h=>h) (Own.stable _ _ _)) ?_;exact (have F:=e0P;gTP (R:=Zcs rows) [1000] ⟨.slice a uss.length cap,_,rfl,rfl,rfl⟩)
theorem Zul {row:List C} (hok:Zal (Zaf .decl) row) {left:Int} (h0:0<=left) (h1:left<=1048576):Con e0 116 [.agg row,.one (.lit (.int .i64 left))] [.one (.lit (.int .i64 (sub left (bulkRow row))))]:=by
 obtain ⟨r0,i1,rfl,g0,g1⟩:=Ze2 hok;rw [show bulkRow [.sl r0,.lit (.int .i64 i1)]=(r0.length+bulkRows r0) by simp only [bulkRow,Za6];omega];refine gI 1047 Tryz.func116 ?_;refine fB @e0P ?_;refine fC @e0P (Zuj g0 (left:=left) om om) ?_;refine fR @e0P ?_;by_cases q:left < (((r0.length+bulkRows r0):Nat):Int)
 ·rw [ZaJ (b:=(r0.length+bulkRows r0)) q]
  try rw [ZaJ om]
  have q':=lT (-1) 0;exact fT @q'
 rw [Za8 (b:=(r0.length+bulkRows r0)) om];have q':(left - (((r0.length+bulkRows r0):Nat):Int) < 0)=False:=eq_false om;refine fG @q' ?_;obtain ⟨L0,e0⟩:∃ x,x=left - (((r0.length+bulkRows r0):Nat):Int):=⟨_,rfl⟩;rw [<- e0];clear q'
 try rw [Za8 om,show left - (((r0.length+bulkRows r0):Nat):Int)=L0 by omega]
 exact fT @e0P
theorem Zum {row:List C} (hok:Zal (Zaf .decl) row):Con e0 144 [.agg row,.agg row] [.one (.lit (.bool true))]:=by
 obtain ⟨r0,i1,rfl,g0,g1⟩:=Ze2 hok;refine gI 33823 Tryz.func144 ?_;refine fB (@beq_self_eq_true.{0}) ?_;refine fC @e0P (Zuk g0) ?_;refine fR @e0P ?_;exact fT (@beq_self_eq_true.{0})
theorem Zrj {row:List C} (hok:Zal (Zaf .decl) row) (hb:bulkRow row<=1048576):ConP e0 131 [.agg row] [] (Zbv row):=by
 obtain ⟨r0,i1,rfl,g0,g1⟩:=Ze2 hok;simp only [bulkRow,Za6] at hb;refine gIP (ts:=[.cell 2 159]) [] 15 Tryz.func131 ?_;refine fB @e0P ?_;have F:=@e0P;refine gCP [] [1000] (Zri g0 om) ?_;clear F;rintro r pm ⟨u0,E0,rfl,k0,rfl⟩;simp only [setA,retA,zipM,Taf,Tah];refine fR @k0 ?_;refine fG @k0 ?_;obtain ⟨E,hre⟩:∃ E,Za2 [.set E0 (fun w=>Own w (.sl r0) E0 u0)] [.set E (fun w=>Zae w [.sl r0,.lit (.int .i64 i1)] E [u0,.int .i64 i1])]:=⟨_,ZeV [.sl E0 r0 u0,.lits [.int .i64 i1]]⟩
 refine pE [1000] [1000] hre ?_;have hm:=Zbv.mk (row:=[.sl r0,.lit (.int .i64 i1)]) (us:=[u0,.int .i64 i1]) (E:=E) rfl (by simp only [Zag,Tbt,List.map_nil,List.all_cons,List.all_nil,Bool.and_true,Tar];exact ⟨k0,rfl⟩);exact (have F:=e0P;gTP (R:=Zbv [.sl r0,.lit (.int .i64 i1)]) [1000] hm)
theorem Zrk {rows:List (List C)} (hok:Zam (Zaf .decl) rows) {left:Int} (h0:0<=left) (h1:left<=1048576):Con e0 82 [.one (.sl rows),.one (.lit (.int .i64 left))] [.one (.lit (.int .i64 (sub left (rows.length+bulkRows rows))))]:=by
 refine ZcP (by kernel_rfl) fun hm=>?_;unfold maxLen at hm;have w:IntKind.i64.wrap (left - (rows.length:Int))=left - (rows.length:Int):=IntWalk.i64_in _ om;have hrb:ZaA 2 rows=true:=Za7.2 hok.rowsLen;refine gI 33589299 Tryz.func82 ?_;by_cases q:left < (rows.length:Int)
 ·rw [ZaJ om];have q':(left - (rows.length:Int) < 0)=True:=eq_true om;exact fT (ai @w @q')
 have q':(left - (rows.length:Int) < 0)=False:=eq_false om;refine fG (ai @w @q') ?_;have F:=aj4 @tk0 @Zfn @Int.natCast_zero @Int.sub_zero;refine gL (ι:=Nat) [1,4,5,15,25] [] (fun x=>[(5,.d (.one (.lit (.int .i64 (x:Int))))),(1,.d (.one (.lit (.int .i64 (left - (rows.length:Int) - (bulkRows (rows.take x):Int))))))]) (fun x=>[]) (fun x=>x<=rows.length∧0<=left - (rows.length:Int) - (bulkRows (rows.take x):Int)) (fun x=>rows.length - x) (0) (⟨Taj _,by simp [bulkRows];omega⟩) (fun x hx=>?_);clear F
 obtain ⟨hx,hl⟩:=hx;by_cases hlt:x < rows.length
 ·obtain ⟨r,hr⟩:∃ r,rows[x]?=some r:=⟨_,Taa hlt⟩;have hq:=hok.get hr;obtain ⟨ln,tk,dr⟩:=hq.take (n:=2) rfl;have okc:=hq.cells;have q1:=lT x rows.length;have wi:=Zau (k:=x) om;have hbt:=ZeN hr;have hbl:=Zdz rows (x+1)
  skip
  have fe:=aj10 hr hlt ZaC hrb q1 okc ln tk dr (@Zaz C);obtain ⟨l,hle⟩:∃ l,l=left - (rows.length:Int) - (bulkRows (rows.take x):Int):=⟨_,rfl⟩;rw [<- hle];refine fB @fe ?_;refine fC @fe (Zul hq (left:=l) om om) ?_;refine fR @fe ?_;by_cases q:l < ((bulkRow r:Nat):Int)
  ·rw [ZaJ (b:=bulkRow r) q,ZaJ om];have q':=lT (-1) 0;exact fT @q'
  rw [Za8 (b:=bulkRow r) om];have q':(l - ((bulkRow r:Nat):Int) < 0)=False:=eq_false om;have e:left - (rows.length:Int) - (bulkRows (rows.take (x+1)):Int)=l - ((bulkRow r:Nat):Int):=om;have F:=aj3 @q' @wi @e;refine gG ?_;exact ⟨x+1,⟨hlt,om⟩,gw,gw,om⟩
 ·obtain rfl:x=rows.length:=by omega
  have q1:=lF rows.length rows.length;rw [Tap] at hl ⊢;rw [Za8 om,show left - ((rows.length+bulkRows rows:Nat):Int)=left - (rows.length:Int) - (bulkRows rows:Int) by omega];exact fT @q1
theorem Zrl {rows:List (List C)} (hok:Zam (Zaf .decl) rows):Con e0 114 [.one (.sl rows),.one (.sl rows)] [.one (.lit (.bool true))]:=by
 refine ZcP (by kernel_rfl) fun hm=>?_;unfold maxLen at hm;have hrb:ZaA 2 rows=true:=Za7.2 hok.rowsLen;refine gI 67126323 Tryz.func114 ?_;refine fG (@beq_self_eq_true.{0}) ?_;have F:=@e0P;refine gL (ι:=Nat) [4,5,14,26] [] (fun x=>[(5,.d (.one (.lit (.int .i64 (x:Int)))))]) (fun x=>[]) (fun x=>x<=rows.length) (fun x=>rows.length - x) (0) (Taj _) (fun x hx=>?_);clear F;by_cases hlt:x < rows.length
 ·obtain ⟨r,hr⟩:∃ r,rows[x]?=some r:=⟨_,Taa hlt⟩;have hq:=hok.get hr;obtain ⟨ln,tk,dr⟩:=hq.take (n:=2) rfl;have okc:=hq.cells;have q1:=lT x rows.length;have wi:=Zau (k:=x) om;have fe:=aj10 hr hlt ZaC hrb q1 okc ln tk dr (@Zaz C);refine fB @fe ?_;refine fC @fe (Zum hq) ?_;refine fR @fe ?_;have F:=@wi;refine gG ?_;exact ⟨x+1,hlt,gw,gw,om⟩
 ·obtain rfl:x=rows.length:=by omega
  have q1:=lF rows.length rows.length;exact fT @q1
theorem Zqq {rows:List (List C)} (hok:Zam (Zaf .decl) rows) (hb:rows.length+bulkRows rows<=1048576):ConP e0 95 [.one (.sl rows)] [] (Zcs rows):=by
 have hrb:ZaA 2 rows=true:=Za7.2 hok.rowsLen;have hmx:((rows.length:Int)<=(maxApp:Int))=True:=eq_true (by unfold maxApp;omega);refine gIP (ts:=[.slot 2]) [] 2077 Tryz.func95 ?_;refine fG (ai @hmx @Tbx) ?_;refine pE [] [1000] Zcv ?_;have F:=aj3 @nla @Nat.sub_zero @tk0;refine gL (ι:=Nat × List (List Value) × (Nat->Prop)) [3,4,11] [3,1000] (fun x=>[(4,.d (.one (.lit (.int .i64 (x.1:Int))))),(3,.buf 3)]) (fun x=>[(3,.buf none 159 2 (x.2.1.map Zag++List.replicate (rows.length - x.1) [C.sl [],C.lit (.int .i64 0)])),(1000,.set x.2.2 (fun w=>Zap w (rows.take x.1) x.2.2 x.2.1))]) (fun x=>x.1<=rows.length∧x.2.1.length=x.1) (fun x=>rows.length - x.1) ((0,[],fun _=>False)) (⟨Taj _,rfl⟩) (fun x hx=>?_);clear F
 obtain ⟨i,uss,E⟩:=x;obtain ⟨hi,hn⟩:=hx;simp only at hi hn;dsimp only;by_cases hlt:i < rows.length
 ·obtain ⟨r,hr⟩:∃ r,rows[i]?=some r:=⟨_,Taa hlt⟩;have hq:=hok.get hr;obtain ⟨ln,tk,dr⟩:=hq.take (n:=2) rfl;have okc:=hq.cells;have q1:=lT i rows.length;have wi:=Zau (k:=i) om;have fe:=aj10 hr hlt ZaC hrb q1 okc ln tk dr (@Zaz C);obtain ⟨k,hk⟩:∃ k,rows.length - i=k+1:=⟨rows.length - i - 1,om⟩;have hk2:rows.length - (i+1)=k:=om;rw [hk];have bl:(uss.map Zag++List.replicate (k+1) [C.sl [],C.lit (.int .i64 0)]).length=rows.length:=by simp;omega
  have bs:∀ X,(uss.map Zag++List.replicate (k+1) [C.sl [],C.lit (.int .i64 0)]).set i X=(uss.map Zag++[X])++List.replicate k [C.sl [],C.lit (.int .i64 0)]:=fun X=>Zfm _ _ _ _ _ (by simp [hn]);have bg:(uss.map Zag++List.replicate (k+1) [C.sl [],C.lit (.int .i64 0)])[i]?=some [C.sl [],C.lit (.int .i64 0)]:=by rw [Tbq (by simp;omega),Tbr,if_pos (by simp;omega)]
  have hbr:=Zcg hr;refine fB (ai @fe @bl) ?_;have F:=ai @fe @bl;refine gCP [] [1001] (Zrj hq om) ?_;clear F;rintro r' pm ⟨us,E2,rfl,hu,hok2,rfl⟩;rw [ln] at hu;obtain ⟨u0,u1,rfl⟩:=len2 hu;have hok2:Zaj (.lit u0)=true∧Zaj (.lit u1)=true:=by simpa [Zag,Tar,and_assoc] using hok2
  obtain ⟨k0,k1⟩:=hok2;have lr:Zag [u0,u1]=[.lit u0,.lit u1]:=rfl;rw [lr];simp only [setA,retA,zipM,Taf,Tah];refine fR (aj6 @hlt @bl @bs @bg @k0 @k1) ?_;refine pE [1000,1001] [1000] (ZgJ (G':=fun w=>Zap w (rows.take (i+1)) (fun b=>E b∨E2 b) (uss++[[u0,u1]])) (fun w h1 h2 hd=>?_) (Zap.stable _ _ _)) ?_
  ·rw [tks hr];exact Zap.snoc h1 h2 (fun _ h=>.inl h) (fun _ h=>.inr h) hd
  have F:=aj5 @bs @wi @hk2 @lr ((@Tbu.{0,0}));refine gG ?_;exact ⟨(i+1,uss++[[u0,u1]],fun b=>E b∨E2 b),⟨hlt,by simp [hn]⟩,gw,gw,om⟩
 ·obtain rfl:i=rows.length:=by omega
  have q1:=lF rows.length rows.length;rw [Nat.sub_self,List.replicate_zero,List.append_nil,Tap];refine fG @q1 ?_;refine pS 2 fun a cap=>?_;refine pE [2,1000] [1000] (Zb7 (fun w h=>h) (Own.stable _ _ _)) ?_;exact (have F:=e0P;gTP (R:=Zcs rows) [1000] ⟨.slice a uss.length cap,_,rfl,rfl,rfl⟩)
theorem Zzw {row:List C} (hok:Zal (Zaf .op) row) {left:Int} (h0:0<=left) (h1:left<=1048576):Con e0 44 [.agg row,.one (.lit (.int .i64 left))] [.one (.lit (.int .i64 (sub left (bulkRow row))))]:=by
 obtain ⟨t0,r1,p2,p3,i4,rfl,g0,g1,g2,g3,g4⟩:=Zgv hok;rw [show bulkRow [.lit (.string t0),.sl r1,.lit (.bool p2),.lit (.bool p3),.lit (.int .i64 i4)]=t0.size+(r1.length+bulkRows r1) by simp only [bulkRow,Za6];omega];refine gI 133143 Tryz.func44 ?_;have hs:=g0;unfold maxLen at hs;have w:IntKind.i64.wrap (left - (t0.size:Int))=left - (t0.size:Int):=IntWalk.i64_in _ om;clear hs;by_cases q:left < (t0.size:Int)
 ·rw [ZaJ om];have q':(left - (t0.size:Int) < 0)=True:=eq_true om;exact fT (ai @w @q')
 have q':(left - (t0.size:Int) < 0)=False:=eq_false om;refine fG (ai @w @q') ?_;obtain ⟨L0,e0⟩:∃ x,x=left - (t0.size:Int):=⟨_,rfl⟩;rw [<- e0];clear w q';refine fB @e0P ?_;refine fC @e0P (Zrk g1 (left:=L0) om om) ?_;refine fR @e0P ?_;by_cases q:L0 < (((r1.length+bulkRows r1):Nat):Int)
 ·rw [ZaJ (b:=(r1.length+bulkRows r1)) q]
  try rw [ZaJ om]
  have q':=lT (-1) 0;exact fT @q'
 rw [Za8 (b:=(r1.length+bulkRows r1)) om];have q':(L0 - (((r1.length+bulkRows r1):Nat):Int) < 0)=False:=eq_false om;refine fG @q' ?_;obtain ⟨L1,e1⟩:∃ x,x=L0 - (((r1.length+bulkRows r1):Nat):Int):=⟨_,rfl⟩;rw [<- e1];clear q'
 try rw [Za8 om,show left - ((t0.size+(r1.length+bulkRows r1):Nat):Int)=L1 by omega]
 exact fT @e0P
theorem Zzx {row:List C} (hok:Zal (Zaf .op) row):Con e0 75 [.agg row,.agg row] [.one (.lit (.bool true))]:=by
 obtain ⟨t0,r1,p2,p3,i4,rfl,g0,g1,g2,g3,g4⟩:=Zgv hok;refine gI 1108378143 Tryz.func75 ?_;refine fB (@beq_self_eq_true.{0}) ?_;refine fC @e0P (Zrl g1) ?_;refine fR @e0P ?_;exact fT (@beq_self_eq_true.{0})
theorem Zyc {row:List C} (hok:Zal (Zaf .op) row) (hb:bulkRow row<=1048576):ConP e0 58 [.agg row] [] (Zbv row):=by
 obtain ⟨t0,r1,p2,p3,i4,rfl,g0,g1,g2,g3,g4⟩:=Zgv hok;simp only [bulkRow,Za6] at hb;refine gIP (ts:=[.cell 2 110]) [] 15 Tryz.func58 ?_;refine fB @e0P ?_;have F:=@e0P;refine gCP [] [1000] (Zqq g1 om) ?_;clear F;rintro r pm ⟨u1,E1,rfl,k1,rfl⟩;simp only [setA,retA,zipM,Taf,Tah];refine fR @k1 ?_;refine fG @k1 ?_;obtain ⟨E,hre⟩:∃ E,Za2 [.set E1 (fun w=>Own w (.sl r1) E1 u1)] [.set E (fun w=>Zae w [.lit (.string t0),.sl r1,.lit (.bool p2),.lit (.bool p3),.lit (.int .i64 i4)] E [.string t0,u1,.bool p2,.bool p3,.int .i64 i4])]:=⟨_,ZeV [.lits [.string t0],.sl E1 r1 u1,.lits [.bool p2,.bool p3,.int .i64 i4]]⟩
 refine pE [1000] [1000] hre ?_;have hm:=Zbv.mk (row:=[.lit (.string t0),.sl r1,.lit (.bool p2),.lit (.bool p3),.lit (.int .i64 i4)]) (us:=[.string t0,u1,.bool p2,.bool p3,.int .i64 i4]) (E:=E) rfl (by simp only [Zag,Tbt,List.map_nil,List.all_cons,List.all_nil,Bool.and_true,Tar];exact ⟨rfl,k1,rfl,rfl,rfl⟩);exact (have F:=e0P;gTP (R:=Zbv [.lit (.string t0),.sl r1,.lit (.bool p2),.lit (.bool p3),.lit (.int .i64 i4)]) [1000] hm)
theorem Zyd {rows:List (List C)} (hok:Zam (Zaf .op) rows) {left:Int} (h0:0<=left) (h1:left<=1048576):Con e0 16 [.one (.sl rows),.one (.lit (.int .i64 left))] [.one (.lit (.int .i64 (sub left (rows.length+bulkRows rows))))]:=by
 refine ZcP (by kernel_rfl) fun hm=>?_;unfold maxLen at hm;have w:IntKind.i64.wrap (left - (rows.length:Int))=left - (rows.length:Int):=IntWalk.i64_in _ om;have hrb:ZaA 5 rows=true:=Za7.2 hok.rowsLen;refine gI 33589299 Tryz.func16 ?_;by_cases q:left < (rows.length:Int)
 ·rw [ZaJ om];have q':(left - (rows.length:Int) < 0)=True:=eq_true om;exact fT (ai @w @q')
 have q':(left - (rows.length:Int) < 0)=False:=eq_false om;refine fG (ai @w @q') ?_;have F:=aj4 @tk0 @Zfn @Int.natCast_zero @Int.sub_zero;refine gL (ι:=Nat) [1,4,5,15,25] [] (fun x=>[(5,.d (.one (.lit (.int .i64 (x:Int))))),(1,.d (.one (.lit (.int .i64 (left - (rows.length:Int) - (bulkRows (rows.take x):Int))))))]) (fun x=>[]) (fun x=>x<=rows.length∧0<=left - (rows.length:Int) - (bulkRows (rows.take x):Int)) (fun x=>rows.length - x) (0) (⟨Taj _,by simp [bulkRows];omega⟩) (fun x hx=>?_);clear F
 obtain ⟨hx,hl⟩:=hx;by_cases hlt:x < rows.length
 ·obtain ⟨r,hr⟩:∃ r,rows[x]?=some r:=⟨_,Taa hlt⟩;have hq:=hok.get hr;obtain ⟨ln,tk,dr⟩:=hq.take (n:=5) rfl;have okc:=hq.cells;have q1:=lT x rows.length;have wi:=Zau (k:=x) om;have hbt:=ZeN hr;have hbl:=Zdz rows (x+1)
  skip
  have fe:=aj10 hr hlt ZaC hrb q1 okc ln tk dr (@Zaz C);obtain ⟨l,hle⟩:∃ l,l=left - (rows.length:Int) - (bulkRows (rows.take x):Int):=⟨_,rfl⟩;rw [<- hle];refine fB @fe ?_;refine fC @fe (Zzw hq (left:=l) om om) ?_;refine fR @fe ?_;by_cases q:l < ((bulkRow r:Nat):Int)
  ·rw [ZaJ (b:=bulkRow r) q,ZaJ om];have q':=lT (-1) 0;exact fT @q'
  rw [Za8 (b:=bulkRow r) om];have q':(l - ((bulkRow r:Nat):Int) < 0)=False:=eq_false om;have e:left - (rows.length:Int) - (bulkRows (rows.take (x+1)):Int)=l - ((bulkRow r:Nat):Int):=om;have F:=aj3 @q' @wi @e;refine gG ?_;exact ⟨x+1,⟨hlt,om⟩,gw,gw,om⟩
 ·obtain rfl:x=rows.length:=by omega
  have q1:=lF rows.length rows.length;rw [Tap] at hl ⊢;rw [Za8 om,show left - ((rows.length+bulkRows rows:Nat):Int)=left - (rows.length:Int) - (bulkRows rows:Int) by omega];exact fT @q1
theorem Zye {rows:List (List C)} (hok:Zam (Zaf .op) rows):Con e0 35 [.one (.sl rows),.one (.sl rows)] [.one (.lit (.bool true))]:=by
 refine ZcP (by kernel_rfl) fun hm=>?_;unfold maxLen at hm;have hrb:ZaA 5 rows=true:=Za7.2 hok.rowsLen;refine gI 67126323 Tryz.func35 ?_;refine fG (@beq_self_eq_true.{0}) ?_;have F:=@e0P;refine gL (ι:=Nat) [4,5,14,26] [] (fun x=>[(5,.d (.one (.lit (.int .i64 (x:Int)))))]) (fun x=>[]) (fun x=>x<=rows.length) (fun x=>rows.length - x) (0) (Taj _) (fun x hx=>?_);clear F;by_cases hlt:x < rows.length
 ·obtain ⟨r,hr⟩:∃ r,rows[x]?=some r:=⟨_,Taa hlt⟩;have hq:=hok.get hr;obtain ⟨ln,tk,dr⟩:=hq.take (n:=5) rfl;have okc:=hq.cells;have q1:=lT x rows.length;have wi:=Zau (k:=x) om;have fe:=aj10 hr hlt ZaC hrb q1 okc ln tk dr (@Zaz C);refine fB @fe ?_;refine fC @fe (Zzx hq) ?_;refine fR @fe ?_;have F:=@wi;refine gG ?_;exact ⟨x+1,hlt,gw,gw,om⟩
 ·obtain rfl:x=rows.length:=by omega
  have q1:=lF rows.length rows.length;exact fT @q1
theorem Zun {rows:List (List C)} (hok:Zam (Zaf .op) rows) (hb:rows.length+bulkRows rows<=1048576):ConP e0 24 [.one (.sl rows)] [] (Zcs rows):=by
 have hrb:ZaA 5 rows=true:=Za7.2 hok.rowsLen;have hmx:((rows.length:Int)<=(maxApp:Int))=True:=eq_true (by unfold maxApp;omega);refine gIP (ts:=[.slot 2]) [] 2077 Tryz.func24 ?_;refine fG (ai @hmx @Tbx) ?_;refine pE [] [1000] Zcv ?_;have F:=aj3 @nla @Nat.sub_zero @tk0;refine gL (ι:=Nat × List (List Value) × (Nat->Prop)) [3,4,11] [3,1000] (fun x=>[(4,.d (.one (.lit (.int .i64 (x.1:Int))))),(3,.buf 3)]) (fun x=>[(3,.buf none 110 5 (x.2.1.map Zag++List.replicate (rows.length - x.1) [C.lit (.string .empty),C.sl [],C.lit (.bool false),C.lit (.bool false),C.lit (.int .i64 0)])),(1000,.set x.2.2 (fun w=>Zap w (rows.take x.1) x.2.2 x.2.1))]) (fun x=>x.1<=rows.length∧x.2.1.length=x.1) (fun x=>rows.length - x.1) ((0,[],fun _=>False)) (⟨Taj _,rfl⟩) (fun x hx=>?_);clear F
 obtain ⟨i,uss,E⟩:=x;obtain ⟨hi,hn⟩:=hx;simp only at hi hn;dsimp only;by_cases hlt:i < rows.length
 ·obtain ⟨r,hr⟩:∃ r,rows[i]?=some r:=⟨_,Taa hlt⟩;have hq:=hok.get hr;obtain ⟨ln,tk,dr⟩:=hq.take (n:=5) rfl;have okc:=hq.cells;have q1:=lT i rows.length;have wi:=Zau (k:=i) om;have fe:=aj10 hr hlt ZaC hrb q1 okc ln tk dr (@Zaz C);obtain ⟨k,hk⟩:∃ k,rows.length - i=k+1:=⟨rows.length - i - 1,om⟩;have hk2:rows.length - (i+1)=k:=om;rw [hk];have bl:(uss.map Zag++List.replicate (k+1) [C.lit (.string .empty),C.sl [],C.lit (.bool false),C.lit (.bool false),C.lit (.int .i64 0)]).length=rows.length:=by simp;omega
  have bs:∀ X,(uss.map Zag++List.replicate (k+1) [C.lit (.string .empty),C.sl [],C.lit (.bool false),C.lit (.bool false),C.lit (.int .i64 0)]).set i X=(uss.map Zag++[X])++List.replicate k [C.lit (.string .empty),C.sl [],C.lit (.bool false),C.lit (.bool false),C.lit (.int .i64 0)]:=fun X=>Zfm _ _ _ _ _ (by simp [hn]);have bg:(uss.map Zag++List.replicate (k+1) [C.lit (.string .empty),C.sl [],C.lit (.bool false),C.lit (.bool false),C.lit (.int .i64 0)])[i]?=some [C.lit (.string .empty),C.sl [],C.lit (.bool false),C.lit (.bool false),C.lit (.int .i64 0)]:=by rw [Tbq (by simp;omega),Tbr,if_pos (by simp;omega)]
  have hbr:=Zcg hr;refine fB (ai @fe @bl) ?_;have F:=ai @fe @bl;refine gCP [] [1001] (Zyc hq om) ?_;clear F;rintro r' pm ⟨us,E2,rfl,hu,hok2,rfl⟩;rw [ln] at hu;obtain ⟨u0,u1,u2,u3,u4,rfl⟩:=len5 hu;have hok2:Zaj (.lit u0)=true∧Zaj (.lit u1)=true∧Zaj (.lit u2)=true∧Zaj (.lit u3)=true∧Zaj (.lit u4)=true:=by simpa [Zag,Tar,and_assoc] using hok2
  obtain ⟨k0,k1,k2,k3,k4⟩:=hok2;have lr:Zag [u0,u1,u2,u3,u4]=[.lit u0,.lit u1,.lit u2,.lit u3,.lit u4]:=rfl;rw [lr];simp only [setA,retA,zipM,Taf,Tah];refine fR (aj9 @hlt @bl @bs @bg @k0 @k1 @k2 @k3 @k4) ?_;refine pE [1000,1001] [1000] (ZgJ (G':=fun w=>Zap w (rows.take (i+1)) (fun b=>E b∨E2 b) (uss++[[u0,u1,u2,u3,u4]])) (fun w h1 h2 hd=>?_) (Zap.stable _ _ _)) ?_
  ·rw [tks hr];exact Zap.snoc h1 h2 (fun _ h=>.inl h) (fun _ h=>.inr h) hd
  have F:=aj5 @bs @wi @hk2 @lr ((@Tbu.{0,0}));refine gG ?_;exact ⟨(i+1,uss++[[u0,u1,u2,u3,u4]],fun b=>E b∨E2 b),⟨hlt,by simp [hn]⟩,gw,gw,om⟩
 ·obtain rfl:i=rows.length:=by omega
  have q1:=lF rows.length rows.length;rw [Nat.sub_self,List.replicate_zero,List.append_nil,Tap];refine fG @q1 ?_;refine pS 2 fun a cap=>?_;refine pE [2,1000] [1000] (Zb7 (fun w h=>h) (Own.stable _ _ _)) ?_;exact (have F:=e0P;gTP (R:=Zcs rows) [1000] ⟨.slice a uss.length cap,_,rfl,rfl,rfl⟩)
theorem Zoi {rows:List (List C)} (hok:Zam (Zaf .str) rows) {left:Int} (h0:0<=left) (h1:left<=1048576):Con e0 42 [.one (.sl rows),.one (.lit (.int .i64 left))] [.one (.lit (.int .i64 (sub left (rows.length+bulkRows rows))))]:=by
 refine ZcP (by kernel_rfl) fun hm=>?_;unfold maxLen at hm;have w:IntKind.i64.wrap (left - (rows.length:Int))=left - (rows.length:Int):=IntWalk.i64_in _ om;have hrb:ZaA 1 rows=true:=Za7.2 hok.rowsLen;refine gI 67143731 Tryz.func42 ?_;by_cases q:left < (rows.length:Int)
 ·rw [ZaJ om];have q':(left - (rows.length:Int) < 0)=True:=eq_true om;exact fT (ai @w @q')
 have q':(left - (rows.length:Int) < 0)=False:=eq_false om;refine fG (ai @w @q') ?_;have F:=aj4 @tk0 @Zfn @Int.natCast_zero @Int.sub_zero;refine gL (ι:=Nat) [1,4,5,15,26] [] (fun x=>[(5,.d (.one (.lit (.int .i64 (x:Int))))),(1,.d (.one (.lit (.int .i64 (left - (rows.length:Int) - (bulkRows (rows.take x):Int))))))]) (fun x=>[]) (fun x=>x<=rows.length∧0<=left - (rows.length:Int) - (bulkRows (rows.take x):Int)) (fun x=>rows.length - x) (0) (⟨Taj _,by simp [bulkRows];omega⟩) (fun x hx=>?_);clear F
 obtain ⟨hx,hl⟩:=hx;by_cases hlt:x < rows.length
 ·obtain ⟨r,hr⟩:∃ r,rows[x]?=some r:=⟨_,Taa hlt⟩;obtain ⟨x0,rfl,g0⟩:=Zd5 (hok.get hr);have q1:=lT x rows.length;have wi:=Zau (k:=x) om;have hbt:=ZeN hr;have hbl:=Zdz rows (x+1);have hbe:bulkRow [.lit (.string x0)]=x0.size:=by simp [bulkRow,Za6]
  have fe:=aj5 hr hlt ZaC hrb q1;obtain ⟨l,hle⟩:∃ l,l=left - (rows.length:Int) - (bulkRows (rows.take x):Int):=⟨_,rfl⟩;rw [<- hle];have hs:=g0;unfold maxLen at hs;have w:IntKind.i64.wrap (l - (x0.size:Int))=l - (x0.size:Int):=IntWalk.i64_in _ om;by_cases q:l < (x0.size:Int)
  ·rw [ZaJ om];have q':(l - (x0.size:Int) < 0)=True:=eq_true om;exact fT (aj3 @w @q' @fe)
  have q':(l - (x0.size:Int) < 0)=False:=eq_false om;refine fG (aj3 @w @q' @fe) ?_;have e:left - (rows.length:Int) - (bulkRows (rows.take (x+1)):Int)=l - ((x0.size:Nat):Int):=om;have F:=aj3 @q' @wi @e;refine gG ?_;exact ⟨x+1,⟨hlt,om⟩,gw,gw,om⟩
 ·obtain rfl:x=rows.length:=by omega
  have q1:=lF rows.length rows.length;rw [Tap] at hl ⊢;rw [Za8 om,show left - ((rows.length+bulkRows rows:Nat):Int)=left - (rows.length:Int) - (bulkRows rows:Int) by omega];exact fT @q1
theorem Zoj {rows:List (List C)} (hok:Zam (Zaf .str) rows):Con e0 73 [.one (.sl rows),.one (.sl rows)] [.one (.lit (.bool true))]:=by
 refine ZcP (by kernel_rfl) fun hm=>?_;unfold maxLen at hm;have hrb:ZaA 1 rows=true:=Za7.2 hok.rowsLen;refine gI 33571891 Tryz.func73 ?_;refine fG (@beq_self_eq_true.{0}) ?_;have F:=@e0P;refine gL (ι:=Nat) [4,5,14,25] [] (fun x=>[(5,.d (.one (.lit (.int .i64 (x:Int)))))]) (fun x=>[]) (fun x=>x<=rows.length) (fun x=>rows.length - x) (0) (Taj _) (fun x hx=>?_);clear F;by_cases hlt:x < rows.length
 ·obtain ⟨r,hr⟩:∃ r,rows[x]?=some r:=⟨_,Taa hlt⟩;obtain ⟨x0,rfl,g0⟩:=Zd5 (hok.get hr);have q1:=lT x rows.length;have wi:=Zau (k:=x) om;have fe:=aj5 hr hlt ZaC hrb q1;have F:=aj3 @beq_self_eq_true.{0} @wi @fe;refine gG ?_;exact ⟨x+1,hlt,gw,gw,om⟩
 ·obtain rfl:x=rows.length:=by omega
  have q1:=lF rows.length rows.length;exact fT @q1
theorem ZmX {rows:List (List C)} (hok:Zam (Zaf .str) rows) (hb:rows.length+bulkRows rows<=1048576):ConP e0 56 [.one (.sl rows)] [] (Zcs rows):=by
 have hrb:ZaA 1 rows=true:=Za7.2 hok.rowsLen;have hmx:((rows.length:Int)<=(maxApp:Int))=True:=eq_true (by unfold maxApp;omega);refine gIP (ts:=[.slot 2]) [] 2077 Tryz.func56 ?_;refine fG (ai @hmx @Tbx) ?_;refine pE [] [1000] Zcv ?_;have F:=aj3 @nla @Nat.sub_zero @tk0;refine gL (ι:=Nat × List (List Value) × (Nat->Prop)) [3,4,11] [3,1000] (fun x=>[(4,.d (.one (.lit (.int .i64 (x.1:Int))))),(3,.buf 3)]) (fun x=>[(3,.buf none 9 1 (x.2.1.map Zag++List.replicate (rows.length - x.1) [C.lit (.string .empty)])),(1000,.set x.2.2 (fun w=>Zap w (rows.take x.1) x.2.2 x.2.1))]) (fun x=>x.1<=rows.length∧x.2.1.length=x.1) (fun x=>rows.length - x.1) ((0,[],fun _=>False)) (⟨Taj _,rfl⟩) (fun x hx=>?_);clear F
 obtain ⟨i,uss,E⟩:=x;obtain ⟨hi,hn⟩:=hx;simp only at hi hn;dsimp only;by_cases hlt:i < rows.length
 ·obtain ⟨r,hr⟩:∃ r,rows[i]?=some r:=⟨_,Taa hlt⟩;obtain ⟨x0,rfl,g0⟩:=Zd5 (hok.get hr);have q1:=lT i rows.length;have wi:=Zau (k:=i) om;have fe:=aj5 hr hlt ZaC hrb q1;obtain ⟨k,hk⟩:∃ k,rows.length - i=k+1:=⟨rows.length - i - 1,om⟩;have hk2:rows.length - (i+1)=k:=om;rw [hk];have bl:(uss.map Zag++List.replicate (k+1) [C.lit (.string .empty)]).length=rows.length:=by simp;omega
  have bs:∀ X,(uss.map Zag++List.replicate (k+1) [C.lit (.string .empty)]).set i X=(uss.map Zag++[X])++List.replicate k [C.lit (.string .empty)]:=fun X=>Zfm _ _ _ _ _ (by simp [hn]);have bg:(uss.map Zag++List.replicate (k+1) [C.lit (.string .empty)])[i]?=some [C.lit (.string .empty)]:=by rw [Tbq (by simp;omega),Tbr,if_pos (by simp;omega)]
  refine pE [1000] [1000] (ZxB (G':=fun w=>Zap w (rows.take (i+1)) E (uss++[[.string x0]])) (fun w h=>?_) (Zap.stable _ _ _)) ?_
  ·rw [tks hr];exact Zap.snoc (S2:=fun _=>False) h (Zae.lits (us:=[.string x0])) (fun _ h=>h) (fun _ h=>h.elim) (fun _ _ h=>h)
  have F:=aj8 @fe @bl @bs @bg @wi @hk2 @ZA4 ((@Tbu.{0,0}));refine gG ?_;exact ⟨(i+1,uss++[[.string x0]],E),⟨hlt,by simp [hn]⟩,gw,gw,om⟩
 ·obtain rfl:i=rows.length:=by omega
  have q1:=lF rows.length rows.length;rw [Nat.sub_self,List.replicate_zero,List.append_nil,Tap];refine fG @q1 ?_;refine pS 2 fun a cap=>?_;refine pE [2,1000] [1000] (Zb7 (fun w h=>h) (Own.stable _ _ _)) ?_;exact (have F:=e0P;gTP (R:=Zcs rows) [1000] ⟨.slice a uss.length cap,_,rfl,rfl,rfl⟩)
theorem Zyf {row:List C} (hok:Zal (Zaf .sub) row):Con e0 113 [.agg row,.agg row] [.one (.lit (.bool true))]:=by
 obtain ⟨i0,i1,rfl,g0,g1⟩:=ZgY hok;refine gI 16927 Tryz.func113 ?_;exact fT (@beq_self_eq_true.{0})
theorem Zuo {row:List C} (hok:Zal (Zaf .sub) row) (hb:bulkRow row<=1048576):ConP e0 94 [.agg row] [] (Zbv row):=by
 obtain ⟨i0,i1,rfl,g0,g1⟩:=ZgY hok;simp only [bulkRow,Za6] at hb;refine gIP (ts:=[.cell 2 149]) [] 15 Tryz.func94 ?_;refine fG @e0P ?_;obtain ⟨E,hre⟩:∃ E,Za2 [] [.set E (fun w=>Zae w [.lit (.int .i64 i0),.lit (.int .i64 i1)] E [.int .i64 i0,.int .i64 i1])]:=⟨_,ZeV [.lits [.int .i64 i0,.int .i64 i1]]⟩;refine pE [] [1000] hre ?_;have hm:=Zbv.mk (row:=[.lit (.int .i64 i0),.lit (.int .i64 i1)]) (us:=[.int .i64 i0,.int .i64 i1]) (E:=E) rfl (by simp only [Zag,Tbt,List.map_nil,List.all_cons,List.all_nil,Bool.and_true,Tar];exact ⟨rfl,rfl⟩)
 exact (have F:=e0P;gTP (R:=Zbv [.lit (.int .i64 i0),.lit (.int .i64 i1)]) [1000] hm)
theorem Zup {rows:List (List C)} (hok:Zam (Zaf .sub) rows) {left:Int} (h0:0<=left) (h1:left<=1048576):Con e0 43 [.one (.sl rows),.one (.lit (.int .i64 left))] [.one (.lit (.int .i64 (sub left (rows.length+bulkRows rows))))]:=by
 refine ZcP (by kernel_rfl) fun hm=>?_;unfold maxLen at hm;have w:IntKind.i64.wrap (left - (rows.length:Int))=left - (rows.length:Int):=IntWalk.i64_in _ om;rw [Zuf (fs:=Zaf .sub) (by rfl) hok,Nat.add_zero];refine gI 1043 Tryz.func43 ?_;by_cases q:left < (rows.length:Int)
 ·rw [ZaJ om];have q':(left - (rows.length:Int) < 0)=True:=eq_true om;exact fT (ai @w @q')
 have q':(left - (rows.length:Int) < 0)=False:=eq_false om;rw [Za8 om];exact fT (ai @w @q')
theorem Zuq {rows:List (List C)} (hok:Zam (Zaf .sub) rows):Con e0 74 [.one (.sl rows),.one (.sl rows)] [.one (.lit (.bool true))]:=by
 refine ZcP (by kernel_rfl) fun hm=>?_;unfold maxLen at hm;have hrb:ZaA 2 rows=true:=Za7.2 hok.rowsLen;refine gI 67126323 Tryz.func74 ?_;refine fG (@beq_self_eq_true.{0}) ?_;have F:=@e0P;refine gL (ι:=Nat) [4,5,14,26] [] (fun x=>[(5,.d (.one (.lit (.int .i64 (x:Int)))))]) (fun x=>[]) (fun x=>x<=rows.length) (fun x=>rows.length - x) (0) (Taj _) (fun x hx=>?_);clear F;by_cases hlt:x < rows.length
 ·obtain ⟨r,hr⟩:∃ r,rows[x]?=some r:=⟨_,Taa hlt⟩;have hq:=hok.get hr;obtain ⟨ln,tk,dr⟩:=hq.take (n:=2) rfl;have okc:=hq.cells;have q1:=lT x rows.length;have wi:=Zau (k:=x) om;have fe:=aj10 hr hlt ZaC hrb q1 okc ln tk dr (@Zaz C);refine fB @fe ?_;refine fC @fe (Zyf hq) ?_;refine fR @fe ?_;have F:=@wi;refine gG ?_;exact ⟨x+1,hlt,gw,gw,om⟩
 ·obtain rfl:x=rows.length:=by omega
  have q1:=lF rows.length rows.length;exact fT @q1
theorem Zrm {rows:List (List C)} (hok:Zam (Zaf .sub) rows) (hb:rows.length+bulkRows rows<=1048576):ConP e0 57 [.one (.sl rows)] [] (Zcs rows):=by
 have hrb:ZaA 2 rows=true:=Za7.2 hok.rowsLen;have hmx:((rows.length:Int)<=(maxApp:Int))=True:=eq_true (by unfold maxApp;omega);refine gIP (ts:=[.slot 2]) [] 2077 Tryz.func57 ?_;refine fG (ai @hmx @Tbx) ?_;refine pE [] [1000] Zcv ?_;have F:=aj3 @nla @Nat.sub_zero @tk0;refine gL (ι:=Nat × List (List Value) × (Nat->Prop)) [3,4,11] [3,1000] (fun x=>[(4,.d (.one (.lit (.int .i64 (x.1:Int))))),(3,.buf 3)]) (fun x=>[(3,.buf none 149 2 (x.2.1.map Zag++List.replicate (rows.length - x.1) [C.lit (.int .i64 0),C.lit (.int .i64 0)])),(1000,.set x.2.2 (fun w=>Zap w (rows.take x.1) x.2.2 x.2.1))]) (fun x=>x.1<=rows.length∧x.2.1.length=x.1) (fun x=>rows.length - x.1) ((0,[],fun _=>False)) (⟨Taj _,rfl⟩) (fun x hx=>?_);clear F
 obtain ⟨i,uss,E⟩:=x;obtain ⟨hi,hn⟩:=hx;simp only at hi hn;dsimp only;by_cases hlt:i < rows.length
 ·obtain ⟨r,hr⟩:∃ r,rows[i]?=some r:=⟨_,Taa hlt⟩;have hq:=hok.get hr;obtain ⟨ln,tk,dr⟩:=hq.take (n:=2) rfl;have okc:=hq.cells;have q1:=lT i rows.length;have wi:=Zau (k:=i) om;have fe:=aj10 hr hlt ZaC hrb q1 okc ln tk dr (@Zaz C);obtain ⟨k,hk⟩:∃ k,rows.length - i=k+1:=⟨rows.length - i - 1,om⟩;have hk2:rows.length - (i+1)=k:=om;rw [hk];have bl:(uss.map Zag++List.replicate (k+1) [C.lit (.int .i64 0),C.lit (.int .i64 0)]).length=rows.length:=by simp;omega
  have bs:∀ X,(uss.map Zag++List.replicate (k+1) [C.lit (.int .i64 0),C.lit (.int .i64 0)]).set i X=(uss.map Zag++[X])++List.replicate k [C.lit (.int .i64 0),C.lit (.int .i64 0)]:=fun X=>Zfm _ _ _ _ _ (by simp [hn]);have bg:(uss.map Zag++List.replicate (k+1) [C.lit (.int .i64 0),C.lit (.int .i64 0)])[i]?=some [C.lit (.int .i64 0),C.lit (.int .i64 0)]:=by rw [Tbq (by simp;omega),Tbr,if_pos (by simp;omega)]
  have hbr:=Zcg hr;refine fB (ai @fe @bl) ?_;have F:=ai @fe @bl;refine gCP [] [1001] (Zuo hq om) ?_;clear F;rintro r' pm ⟨us,E2,rfl,hu,hok2,rfl⟩;rw [ln] at hu;obtain ⟨u0,u1,rfl⟩:=len2 hu;have hok2:Zaj (.lit u0)=true∧Zaj (.lit u1)=true:=by simpa [Zag,Tar,and_assoc] using hok2
  obtain ⟨k0,k1⟩:=hok2;have lr:Zag [u0,u1]=[.lit u0,.lit u1]:=rfl;rw [lr];simp only [setA,retA,zipM,Taf,Tah];refine fR (aj6 @hlt @bl @bs @bg @k0 @k1) ?_;refine pE [1000,1001] [1000] (ZgJ (G':=fun w=>Zap w (rows.take (i+1)) (fun b=>E b∨E2 b) (uss++[[u0,u1]])) (fun w h1 h2 hd=>?_) (Zap.stable _ _ _)) ?_
  ·rw [tks hr];exact Zap.snoc h1 h2 (fun _ h=>.inl h) (fun _ h=>.inr h) hd
  have F:=aj5 @bs @wi @hk2 @lr ((@Tbu.{0,0}));refine gG ?_;exact ⟨(i+1,uss++[[u0,u1]],fun b=>E b∨E2 b),⟨hlt,by simp [hn]⟩,gw,gw,om⟩
 ·obtain rfl:i=rows.length:=by omega
  have q1:=lF rows.length rows.length;rw [Nat.sub_self,List.replicate_zero,List.append_nil,Tap];refine fG @q1 ?_;refine pS 2 fun a cap=>?_;refine pE [2,1000] [1000] (Zb7 (fun w h=>h) (Own.stable _ _ _)) ?_;exact (have F:=e0P;gTP (R:=Zcs rows) [1000] ⟨.slice a uss.length cap,_,rfl,rfl,rfl⟩)
theorem Zrn {row:List C} (hok:Zal (Zb8) row) {left:Int} (h0:0<=left) (h1:left<=1048576):Con e0 15 [.agg row,.one (.lit (.int .i64 left))] [.one (.lit (.int .i64 (sub left (bulkRow row))))]:=by
 obtain ⟨r0,r1,rfl,g0,g1⟩:=Zfs hok;rw [show bulkRow [.sl r0,.sl r1]=(r0.length+bulkRows r0)+(r1.length+bulkRows r1) by simp only [bulkRow,Za6];omega];refine gI 66583 Tryz.func15 ?_;refine fB @e0P ?_;refine fC @e0P (Zoi g0 (left:=left) om om) ?_;refine fR @e0P ?_;by_cases q:left < (((r0.length+bulkRows r0):Nat):Int)
 ·rw [ZaJ (b:=(r0.length+bulkRows r0)) q]
  try rw [ZaJ om]
  have q':=lT (-1) 0;exact fT @q'
 rw [Za8 (b:=(r0.length+bulkRows r0)) om];have q':(left - (((r0.length+bulkRows r0):Nat):Int) < 0)=False:=eq_false om;refine fG @q' ?_;obtain ⟨L0,e0⟩:∃ x,x=left - (((r0.length+bulkRows r0):Nat):Int):=⟨_,rfl⟩;rw [<- e0];clear q';refine fB @e0P ?_;refine fC @e0P (Zup g1 (left:=L0) om om) ?_;refine fR @e0P ?_;by_cases q:L0 < (((r1.length+bulkRows r1):Nat):Int)
 ·rw [ZaJ (b:=(r1.length+bulkRows r1)) q]
  try rw [ZaJ om]
  have q':=lT (-1) 0;exact fT @q'
 rw [Za8 (b:=(r1.length+bulkRows r1)) om];have q':(L0 - (((r1.length+bulkRows r1):Nat):Int) < 0)=False:=eq_false om;refine fG @q' ?_;obtain ⟨L1,e1⟩:∃ x,x=L0 - (((r1.length+bulkRows r1):Nat):Int):=⟨_,rfl⟩;rw [<- e1];clear q'
 try rw [Za8 om,show left - (((r0.length+bulkRows r0)+(r1.length+bulkRows r1):Nat):Int)=L1 by omega]
 exact fT @e0P
theorem Zro {row:List C} (hok:Zal (Zb8) row):Con e0 34 [.agg row,.agg row] [.one (.lit (.bool true))]:=by
 obtain ⟨r0,r1,rfl,g0,g1⟩:=Zfs hok;refine gI 66591 Tryz.func34 ?_;refine fB (@beq_self_eq_true.{0}) ?_;refine fC @e0P (Zoj g0) ?_;refine fR @e0P ?_;refine fB (@beq_self_eq_true.{0}) ?_;refine fC @e0P (Zuq g1) ?_;refine fR @e0P ?_;exact fT (@beq_self_eq_true.{0})
theorem Zqr {row:List C} (hok:Zal (Zb8) row) (hb:bulkRow row<=1048576):ConP e0 23 [.agg row] [] (Zbv row):=by
 obtain ⟨r0,r1,rfl,g0,g1⟩:=Zfs hok;simp only [bulkRow,Za6] at hb;refine gIP (ts:=[.cell 2 47]) [] 15 Tryz.func23 ?_;refine fB @e0P ?_;have F:=@e0P;refine gCP [] [1000] (ZmX g0 om) ?_;clear F;rintro r pm ⟨u0,E0,rfl,k0,rfl⟩;simp only [setA,retA,zipM,Taf,Tah];refine fR @k0 ?_;refine fB @e0P ?_;have F:=@e0P;refine gCP [] [1001] (Zrm g1 om) ?_;clear F;rintro r pm ⟨u1,E1,rfl,k1,rfl⟩;simp only [setA,retA,zipM,Taf,Tah]
 refine fR @k1 ?_;refine fG (ai @k0 @k1) ?_;obtain ⟨E,hre⟩:∃ E,Za2 [.set E0 (fun w=>Own w (.sl r0) E0 u0),.set E1 (fun w=>Own w (.sl r1) E1 u1)] [.set E (fun w=>Zae w [.sl r0,.sl r1] E [u0,u1])]:=⟨_,ZeV [.sl E0 r0 u0,.sl E1 r1 u1]⟩;refine pE [1000,1001] [1000] hre ?_;have hm:=Zbv.mk (row:=[.sl r0,.sl r1]) (us:=[u0,u1]) (E:=E) rfl (by simp only [Zag,Tbt,List.map_nil,List.all_cons,List.all_nil,Bool.and_true,Tar];exact ⟨k0,k1⟩)
 exact (have F:=e0P;gTP (R:=Zbv [.sl r0,.sl r1]) [1000] hm)
theorem Zmp {row:List C} (hok:Zal (sigF) row) {left:Int} (h0:0<=left) (h1:left<=1048576):Con e0 4 [.agg row,.one (.lit (.int .i64 left))] [.one (.lit (.int .i64 (sub left (bulkRow row))))]:=by
 obtain ⟨r0,r1,r2,rfl,g0,g1,g2⟩:=Zdf hok;rw [show bulkRow [.sl r0,.sl r1,.sl r2]=bulkRow [.sl r0,.sl r1]+(r2.length+bulkRows r2) by simp only [bulkRow,Za6];omega];refine gI 66583 Tryz.func4 ?_;refine fB @e0P ?_;refine fC @e0P (Zrn (Zft g0 g1) (left:=left) om om) ?_;refine fR @e0P ?_;by_cases q:left < ((bulkRow [.sl r0,.sl r1]:Nat):Int)
 ·rw [ZaJ (b:=bulkRow [.sl r0,.sl r1]) q]
  try rw [ZaJ om]
  have q':=lT (-1) 0;exact fT @q'
 rw [Za8 (b:=bulkRow [.sl r0,.sl r1]) om];have q':(left - ((bulkRow [.sl r0,.sl r1]:Nat):Int) < 0)=False:=eq_false om;refine fG @q' ?_;obtain ⟨L0,e0⟩:∃ x,x=left - ((bulkRow [.sl r0,.sl r1]:Nat):Int):=⟨_,rfl⟩;rw [<- e0];clear q';refine fB @e0P ?_;refine fC @e0P (Zyd g2 (left:=L0) om om) ?_;refine fR @e0P ?_;by_cases q:L0 < (((r2.length+bulkRows r2):Nat):Int)
 ·rw [ZaJ (b:=(r2.length+bulkRows r2)) q]
  try rw [ZaJ om]
  have q':=lT (-1) 0;exact fT @q'
 rw [Za8 (b:=(r2.length+bulkRows r2)) om];have q':(L0 - (((r2.length+bulkRows r2):Nat):Int) < 0)=False:=eq_false om;refine fG @q' ?_;obtain ⟨L1,e1⟩:∃ x,x=L0 - (((r2.length+bulkRows r2):Nat):Int):=⟨_,rfl⟩;rw [<- e1];clear q'
 try rw [Za8 om,show left - ((bulkRow [.sl r0,.sl r1]+(r2.length+bulkRows r2):Nat):Int)=L1 by omega]
 exact fT @e0P
theorem Zmq {row:List C} (hok:Zal (sigF) row):Con e0 11 [.agg row,.agg row] [.one (.lit (.bool true))]:=by
 obtain ⟨r0,r1,r2,rfl,g0,g1,g2⟩:=Zdf hok;refine gI 66591 Tryz.func11 ?_;refine fB (@beq_self_eq_true.{0}) ?_;refine fC @e0P (Zro (Zft g0 g1)) ?_;refine fR @e0P ?_;refine fB (@beq_self_eq_true.{0}) ?_;refine fC @e0P (Zye g2) ?_;refine fR @e0P ?_;exact fT (@beq_self_eq_true.{0})
theorem ZgS {row:List C} (hok:Zal (sigF) row) (hb:bulkRow row<=1048576):ConP e0 7 [.agg row] [] (Zbv row):=by
 obtain ⟨r0,r1,r2,rfl,g0,g1,g2⟩:=Zdf hok;simp only [bulkRow,Za6] at hb;refine gIP (ts:=[.cell 2 50]) [] 15 Tryz.func7 ?_;refine fB @e0P ?_;have F:=@e0P;refine gCP [] [1000] (Zqr (Zft g0 g1) (by simp only [bulkRow,Za6];omega)) ?_;clear F;rintro r pm ⟨us,E0,rfl,hu,hc,rfl⟩;obtain ⟨u0,u1,rfl⟩:=len2 hu;have hc:Zaj (.lit u0)=true∧Zaj (.lit u1)=true:=by simpa [Zag,Tar,and_assoc] using hc
 obtain ⟨k0,k1⟩:=hc;have lr0:Zag [u0,u1]=[.lit u0,.lit u1]:=rfl;rw [lr0];simp only [setA,retA,zipM,Taf,Tah];refine fR (ai @k0 @k1) ?_;refine fB @e0P ?_;have F:=@e0P;refine gCP [] [1001] (Zun g2 om) ?_;clear F;rintro r pm ⟨u2,E2,rfl,k2,rfl⟩;simp only [setA,retA,zipM,Taf,Tah];refine fR @k2 ?_;refine fG (aj3 @k2 @k0 @k1) ?_;obtain ⟨E,hre⟩:∃ E,Za2 [.set E0 (fun w=>Zae w [.sl r0,.sl r1] E0 [u0,u1]),.set E2 (fun w=>Own w (.sl r2) E2 u2)] [.set E (fun w=>Zae w [.sl r0,.sl r1,.sl r2] E [u0,u1,u2])]:=⟨_,ZeV [.st E0 [.sl r0,.sl r1] [u0,u1],.sl E2 r2 u2]⟩
 refine pE [1000,1001] [1000] hre ?_;have hm:=Zbv.mk (row:=[.sl r0,.sl r1,.sl r2]) (us:=[u0,u1,u2]) (E:=E) rfl (by simp only [Zag,Tbt,List.map_nil,List.all_cons,List.all_nil,Bool.and_true,Tar];exact ⟨k0,k1,k2⟩);exact (have F:=e0P;gTP (R:=Zbv [.sl r0,.sl r1,.sl r2]) [1000] hm)
theorem Zmr {row:List C} (hok:Zal (sigF) row) (hb:bulkRow row<=1048576):Con e0 7 [.agg row] [.agg row]:=Zqm (ZgS hok hb)
end Go.Proofs.YtjoaefnnnbpflaaGreatDoor
