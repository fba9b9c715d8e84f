/-
  Part of a proof: Sw2, Sw3, Sw4, Zt, Bw, As, Ot, Sc, Lc, Sf, Bf, Rl, Rk, M6, Qv, QcModule.
-/
import Derived.Test.YtffmjghcpgpfpaaGreatDoorBIsSortDecreasingCard0
import Derived.Test.YtffmjghcpgpfpaaGreatDoorBIsSortDecreasingCard1
import Derived.Test.YtffmjghcpgpfpaaGreatDoorBIsSortDecreasingCard2
import Derived.Test.YtffmjghcpgpfpaaGreatDoorBIsSortDecreasingCard3
set_option linter.unusedSimpArgs false
set_option linter.unusedVariables false
set_option maxHeartbeats 400000000
set_option maxRecDepth 100000
namespace Go.Proofs.YtffmjghcpgpfpaaGreatDoor
open Go.RowKit
theorem Zno {M:List Tm} {k:Nat} {x:Tm} (h:M[k]?=some x):M.take k++[x]=M.take (k+1):=(Zch h).symm
theorem Zrg (P M Q:List Tm) {A B N:Nat} (hA:A=P.length) (hB:B=P.length+M.length) (hN:N=P.length+M.length+Q.length) (hmx:N<=4000000) (a:Option Addr) (cap:Nat) :
  ConP e0 250 [.one (.lit (.slice a N cap)),.one (.lit (.int .i64 A)),.one (.lit (.int .i64 B)),.one (.fn 82 [])] [.buf (some (a,cap)) 46 4 (Zab (P++M++Q))] (RBuf a cap (P++Zat M++Q)):=by
 have wA:=Zap (k:=A) om
 obtain ⟨A1,hA1⟩:∃ A1,A1=A+1:=⟨_,rfl⟩
 rw [<- hA1] at wA
 have h0:P++M++Q=P++Zat (M.take (A1 - A))++(M.drop (A1 - A)++Q):=by
  have:Zat (M.take 1)=M.take 1:=Zew (by cases M with | nil=>exact List.Pairwise.nil | cons x M=>simp only [Tbc,List.take_zero];exact List.pairwise_singleton _ _)
  rw [hA1,Nat.add_sub_cancel_left,this]
  simp only [Tbf]
  rw [<- Tbf (M.take 1),Tbm]
 refine gIP (ts:=[]) [1000] 17179886351 Tryz.func250 ?_
 (have F:=ai @wA @tmz;refine gG ?_;clear F)
 (have F:=@tmz;refine gL (ι:=Nat × List Tm) [8,9,14,34] [1000] (fun x=>[(8,.d (.one (.lit (.int .i64 (x.1:Int)))))]) (fun x=>[(1000,.buf (some (a,cap)) 46 4 (Zab x.2))]) (fun x=>A1<=x.1∧(x.1<=B∨x.1=A1)∧x.2=P++Zat (M.take (x.1 - A))++(M.drop (x.1 - A)++Q)) (fun x=>B+1 - x.1) ((A1,P++M++Q)) (⟨Tah _,.inr rfl,h0⟩) (fun x hx=>?_);clear F)
 obtain ⟨i,us⟩:=x
 obtain ⟨hi1,hi2,hus⟩:=hx
 simp only at hi1 hi2 hus
 dsimp only
 by_cases hlt:i < B
 rotate_left
 ·have q1:((i:Int) < (B:Int))=False:=eq_false om
  have e1:M.take (i - A)=M:=List.take_of_length_le om
  have e2:M.drop (i - A)=[]:=List.drop_of_length_le om
  rw [e1,e2,Tag] at hus
  subst hus
  (have F:=ai @q1 @tmz;refine gG ?_;clear F)
  first | exact (have F:=@e0P;gTPe (R:=RBuf a cap (P++Zat M++Q)) [1000] ⟨rfl,rfl⟩) | exact (have F:=@e0P;gTP (R:=RBuf a cap (P++Zat M++Q)) [1000] ⟨rfl,rfl⟩)
 have q1:((i:Int) < (B:Int))=True:=eq_true om
 obtain ⟨k,hk⟩:∃ k,k=i - A:=⟨_,rfl⟩
 rw [<- hk] at hus
 obtain ⟨x,hx⟩:∃ t,M[k]?=some t:=⟨_,Taa om⟩
 have hL:(Zat (M.take k)).length=k:=by rw [ZcQ,Tav];omega
 rw [Zdu hx] at hus
 have wi:=Zap (k:=i) om
 have hR:(M.drop (k+1)++Q).length+i+1=N:=by rw [Tad,Taw];omega
 have hnext:∀ M1 M2,M1++M2=Zat (M.take k)->(∀ y∈M2,Zak x y<=0)->(∀ y,M1.getLast?=some y->Zak y x<=0)->P++M1++x::(M2++(M.drop (k+1)++Q))=P++Zat (M.take (i+1 - A))++(M.drop (i+1 - A)++Q):=fun M1 M2 e h2 h1=>by
  have:=Zqj e h2 h1
  rw [Zno hx] at this
  rw [show i+1 - A=k+1 by omega,<- this]
  simp
 obtain ⟨T,hT⟩:∃ T,T=P++Zat (M.take (i+1 - A))++(M.drop (i+1 - A)++Q):=⟨_,rfl⟩
 rw [<- hT] at hnext
 (have F:=ai @q1 @tmz;refine gG ?_;clear F)
 (have F:=@tmz;refine gL (ι:=Nat × List Tm) [9,34] [1000] (fun z=>[(9,.d (.one (.lit (.int .i64 (z.1:Int)))))]) (fun z=>[(1000,.buf (some (a,cap)) 46 4 (Zab z.2))]) (fun z=>∃ M1 M2,z.2=P++M1++x::(M2++(M.drop (k+1)++Q))∧z.1=A+M1.length∧M1++M2=Zat (M.take k)∧∀ y∈M2,Zak x y<=0) (fun z=>z.1) ((i,us)) (⟨Zat (M.take k),[],by rw [hus];simp,by rw [hL];omega,List.append_nil _,fun y h=>by simp at h⟩) (fun z hz=>?_);clear F)
 obtain ⟨j,vs⟩:=z
 obtain ⟨M1,M2,hvs,hj,he,h2⟩:=hz
 simp only at hvs hj
 dsimp only
 have hml:M1.length+M2.length=k:=by rw [<- Tad,he,hL]
 have hvl:vs.length=N:=by rw [hvs];simp only [Tad,Taf] at hR ⊢;omega
 rcases List.eq_nil_or_concat M1 with h1 | ⟨M0,y,h1⟩
 ·subst h1
  have hn:=hnext [] M2 he h2 (fun y h=>by simp at h)
  obtain rfl:j=A:=by simpa using hj
  have q2:((j:Int) < (j:Int))=False:=eq_false om
  rw [hn] at hvs
  subst hvs
  (have F:=ai @q2 @tmz;refine gG ?_;clear F)
  (have F:=@wi;refine gG ?_;exact ⟨(i+1,vs),⟨by omega,.inl hlt,hT⟩,gw,gw,by omega⟩)
 ·rw [List.concat_eq_append] at h1
  subst h1
  simp only [Tad,Taf,Taj] at hj hml
  obtain ⟨p,hp⟩:∃ p,p=A+M0.length:=⟨_,rfl⟩
  have hjp:j=p+1:=by omega
  have q2:((A:Int) < (j:Int))=True:=eq_true om
  have w1:IntKind.i64.wrap ((j:Int) - 1)=(p:Int):=ZaQ om om om
  have hPl:(P++M0).length=p:=by rw [Tad];omega
  have hvs2:vs=(P++M0)++y::x::(M2++(M.drop (k+1)++Q)):=by rw [hvs];simp
  have g1:vs[p]?=some y:=by rw [hvs2];exact ZhP hPl
  have g2:vs[j]?=some x:=by rw [hvs2,hjp];exact Zm0 hPl
  have l1:p < N:=by omega
  have l2:j < N:=by omega
  (have F:=ai @q2 @tmz;refine gG ?_;clear F)
  refine gB ?_
  (have F:=ai @q2 (ai @tmz (ai @g1 (ai @g2 (ai @w1 (ai @l1 (ai @l2 (ai @hvl @Zac)))))));refine gC (ZlK (Zff x y)) ?_;clear F)
  by_cases hc:Zak x y < 0
  ·have z1:(Zak x y < 0)=True:=eq_true hc
   obtain ⟨U,hU⟩:∃ U,U=(P++M0)++x::y::(M2++(M.drop (k+1)++Q)):=⟨_,rfl⟩
   have g3:(vs.set j y).set p x=U:=by rw [hU,hvs2,hjp];exact ZuJ hPl
   have hls:∀ q (t:Tm),(vs.set q t).length=N:=fun q t=>by rw [Tay,hvl]
   (have F:=ai @z1 (ai @q2 @tmz);refine gR ?_;clear F)
   have hM2:∀ u∈y::M2,Zak x u<=0:=fun u hu=>by
    rcases Tbg.1 hu with rfl | hu
    ·omega
    ·exact h2 u hu
   obtain ⟨z,g4⟩:∃ z,(vs.set j y)[p]?=some z:=⟨_,Taa (by rw [Tay];omega)⟩
   (have F:=ai @z1 @tmz;have NN:Zag 6:=trivial;refine gGn ?_;clear F NN)
   refine gF0 ?_
   refine gFm 0 ?_
   refine gFm 1 ?_
   refine gFm 2 ?_
   refine gFm 3 ?_
   refine (have F:=(ai w1 (ai l1 (ai l2 (ai hvl (ai g1 (ai g2 (ai g4 (ai hls (ai @Zac (ai @Zaq tmz))))))))));gFb 4 ?_)
   refine gFm 5 ?_
   refine gFm 6 ?_
   refine (have F:=(ai w1 (ai l1 (ai l2 (ai hvl (ai g1 (ai g2 (ai g4 (ai hls (ai @Zac (ai @Zaq tmz))))))))));gFb 7 ?_)
   refine (have F:=(ai w1 (ai l1 (ai l2 (ai hvl (ai g1 (ai g2 (ai g4 (ai hls (ai @Zac (ai @Zaq tmz))))))))));gFi (rows:=Zab vs) 8 p (by rw [Zac];omega) ?_)
   refine gFm 10 ?_
   refine gFm 11 ?_
   refine (have F:=(ai w1 (ai l1 (ai l2 (ai hvl (ai g1 (ai g2 (ai g4 (ai hls (ai @Zac (ai @Zaq tmz))))))))));gFi (rows:=Zab vs) 12 j (by rw [Zac];omega) ?_)
   refine gFT ?_
   refine gO2 9 13 ?_ ?_
   ·refine (have F:=(ai w1 (ai l1 (ai l2 (ai hvl (ai g1 (ai g2 (ai g4 (ai hls (ai @Zac (ai @Zaq tmz))))))))));gO3 ?_)
    refine gO1 13 ?_
    refine (have F:=(ai w1 (ai l1 (ai l2 (ai hvl (ai g1 (ai g2 (ai g4 (ai hls (ai @Zac (ai @Zaq tmz))))))))));gO3 ?_)
    refine gO1 14 ?_
    refine (have F:=(ai w1 (ai l1 (ai l2 (ai hvl (ai g1 (ai g2 (ai g4 (ai hls (ai @Zac (ai @Zaq tmz))))))))));gO3 ?_)
    refine gO1 15 ?_
    refine (have F:=(ai w1 (ai l1 (ai l2 (ai hvl (ai g1 (ai g2 (ai g4 (ai hls (ai @Zac (ai @Zaq tmz))))))))));gO3 ?_)
    refine gO1 16 ?_
    refine (have F:=(ai w1 (ai l1 (ai l2 (ai hvl (ai g1 (ai g2 (ai g4 (ai hls (ai @Zac (ai @Zaq tmz))))))))));gO3 ?_)
    refine gO1 17 ?_
    refine (have F:=(ai w1 (ai l1 (ai l2 (ai hvl (ai g1 (ai g2 (ai g4 (ai hls (ai @Zac (ai @Zaq tmz))))))))));gO3 ?_)
    refine (have F:=tmz;gT0 ?_)
    refine Exists.intro _ (ai (Wk.refl _) ?_)
    rw [g3]
    (have F:=@w1;refine gG ?_;exact ⟨(p,U),⟨M0,y::M2,by rw [hU];simp,hp,by rw [<- he];simp,hM2⟩,gw,gw,by omega⟩)
   ·refine (have F:=(ai w1 (ai l1 (ai l2 (ai hvl (ai g1 (ai g2 (ai g4 (ai hls (ai @Zac (ai @Zaq tmz))))))))));gO3 ?_)
    refine gO1 9 ?_
    refine (have F:=(ai w1 (ai l1 (ai l2 (ai hvl (ai g1 (ai g2 (ai g4 (ai hls (ai @Zac (ai @Zaq tmz))))))))));gO3 ?_)
    refine gO1 14 ?_
    refine (have F:=(ai w1 (ai l1 (ai l2 (ai hvl (ai g1 (ai g2 (ai g4 (ai hls (ai @Zac (ai @Zaq tmz))))))))));gO3 ?_)
    refine gO1 15 ?_
    refine (have F:=(ai w1 (ai l1 (ai l2 (ai hvl (ai g1 (ai g2 (ai g4 (ai hls (ai @Zac (ai @Zaq tmz))))))))));gO3 ?_)
    refine gO1 16 ?_
    refine (have F:=(ai w1 (ai l1 (ai l2 (ai hvl (ai g1 (ai g2 (ai g4 (ai hls (ai @Zac (ai @Zaq tmz))))))))));gO3 ?_)
    refine gO1 17 ?_
    refine (have F:=(ai w1 (ai l1 (ai l2 (ai hvl (ai g1 (ai g2 (ai g4 (ai hls (ai @Zac (ai @Zaq tmz))))))))));gO3 ?_)
    refine (have F:=tmz;gT0 ?_)
    refine Exists.intro _ (ai (Wk.refl _) ?_)
    rw [g3]
    (have F:=@w1;refine gG ?_;exact ⟨(p,U),⟨M0,y::M2,by rw [hU];simp,hp,by rw [<- he];simp,hM2⟩,gw,gw,by omega⟩)
  ·have z1:(Zak x y < 0)=False:=eq_false hc
   have hn:=hnext (M0++[y]) M2 he h2 (fun u h=>by
    simp only [List.getLast?_append,List.getLast?_singleton,Option.some_or,Tap] at h
    subst h
    exact Zo6 hc)
   rw [hn] at hvs
   subst hvs
   (have F:=ai @z1 (ai @q2 @tmz);refine gR ?_;clear F)
   (have F:=ai @z1 @tmz;refine gG ?_;clear F)
   (have F:=@wi;refine gG ?_;exact ⟨(i+1,vs),⟨by omega,.inl hlt,hT⟩,gw,gw,by omega⟩)
theorem Zww {P A B Q:List Tm} {i k:Nat} {x:Tm} (h:A[i]?=some x) (hk:k=P.length+i):(P++A++B++Q)[k]?=some x:=by
 have hi:=(Tac.1 h).1
 subst hk
 rw [Tbf,Tbf,Tbq om,Nat.add_sub_cancel_left,Tbp hi,h]
theorem Zwx {P A B Q:List Tm} {i k:Nat} {x:Tm} (h:B[i]?=some x) (hk:k=P.length+A.length+i):(P++A++B++Q)[k]?=some x:=by
 have hi:=(Tac.1 h).1
 subst hk
 rw [Tbf,Tbq (by rw [Tad];omega),Tad,Nat.add_sub_cancel_left,Tbp hi,h]
theorem Zrh {B:List Tm} {x:Tm} (hB:Up B) {s:Nat} (h1:0 < s->∃ y,B[s - 1]?=some y∧Zak y x<=0) (h2:s < B.length->∃ y,B[s]?=some y∧Zak x y<=0):Zat ([x]++B)=B.take s++x::B.drop s:=(ZfO (ZB4 s) (hB.put h1 h2)).symm
def SymL (A B:List Tm) (lo mid st i:Nat):Prop:=st < i->∃ u v,A[i - 1 - lo]?=some u∧B[mid - i]?=some v∧Zak u v<=0
def SymR (A B:List Tm) (lo mid r0 j:Nat):Prop:=j < r0->∃ u v,B[mid - 1 - j]?=some u∧A[j - lo]?=some v∧Zak u v<=0
theorem Zri:∀ (n:Nat) (P A B Q:List Tm),A.length+B.length<=n->0 < A.length->0 < B.length->Up A->Up B->∀ {lo mi hi N:Nat},lo=P.length->mi=P.length+A.length->hi=P.length+A.length+B.length->N=P.length+A.length+B.length+Q.length->N<=4000000->∀ (a:Option Addr) (cap:Nat),
  ConP e0 251 [.one (.lit (.slice a N cap)),.one (.lit (.int .i64 lo)),.one (.lit (.int .i64 mi)),.one (.lit (.int .i64 hi)),.one (.fn 82 [])] [.buf (some (a,cap)) 46 4 (Zab (P++A++B++Q))] (RBuf a cap (P++Zat (A++B)++Q)):=by
 intro n
 induction n with
 | zero=>intro P A B Q h1 h2;omega
 | succ n ih =>
 intro P A B Q hsz hA0 hB0 hA hB lo mi hi N hlo hmi hhi hN hmx a cap
 have hU:∃ U,U=P++A++B++Q:=⟨_,rfl⟩
 obtain ⟨U,hU⟩:=hU
 have hUl:U.length=N:=by rw [hU];simp only [Tad];omega
 rw [<- hU]
 have w0:IntKind.i64.wrap ((mi:Int) - (lo:Int))=(A.length:Int):=ZaQ om om om
 have w1:IntKind.i64.wrap ((hi:Int) - (mi:Int))=(B.length:Int):=ZaQ om om om
 refine gIP (ts:=[]) [1000] 13164839976634628298295110780136696778032692856359452003713154079 Tryz.func251 ?_
 by_cases hA1:A.length=1
 ·have q1:((A.length:Int)=1)=True:=eq_true om
  obtain ⟨x,hx⟩:∃ x,A=[x]:=List.length_eq_one_iff.1 hA1
  have gx:U[lo]?=some x:=by rw [hU];exact Zww (i:=0) (by rw [hx];rfl) om
  have l0:lo < N:=by omega
  (have F:=ai @w0 (ai @q1 @tmz);refine gG ?_;clear F)
  clear q1
  (have F:=@tmz;refine gL (ι:=Nat × Nat) [10,11,12,33,50] [] (fun z=>[(10,.d (.one (.lit (.int .i64 (z.1:Int))))),(11,.d (.one (.lit (.int .i64 (z.2:Int)))))]) (fun z=>[]) (fun z=>mi<=z.1∧z.1<=z.2∧z.2<=hi∧(mi < z.1->∃ y,B[z.1 - mi - 1]?=some y∧Zak y x<=0)∧(z.2 < hi->∃ y,B[z.2 - mi]?=some y∧Zak x y<=0)) (fun z=>z.2 - z.1) ((mi,hi)) (⟨Tah _,by omega,Tah _,fun h=>by omega,fun h=>by omega⟩) (fun z hz=>?_);clear F)
  obtain ⟨i,j⟩:=z
  obtain ⟨h1,h2,h3,h4,h5⟩:=hz
  simp only at h1 h2 h3 h4 h5
  dsimp only
  by_cases hij:i < j
  ·have q2:((i:Int) < (j:Int))=True:=eq_true om
   obtain ⟨s,h,u1,u2,u3,u4,hh⟩:=Zkb i j om
   obtain ⟨y,hy⟩:∃ y,B[h - mi]?=some y:=⟨_,Taa om⟩
   have gy:U[h]?=some y:=by rw [hU];exact Zwx hy om
   have lh:h < N:=by omega
   have wh:=Zap (k:=h) om
   (have F:=ai @q2 (ai @u1 (ai @u2 (ai @u3 (ai @u4 (ai @ZfM (ai @Zka (ai @Zfg (ai @Zip (ai @Zeg (ai @ZhT (ai @toNat_one (ai @ZlF @tmz))))))))))));refine gG ?_;clear F)
   refine gB ?_
   (have F:=ai @tmz (ai @gx (ai @gy (ai @l0 (ai @lh (ai @hUl @Zac)))));refine gC (ZlK (Zff y x)) ?_;clear F)
   by_cases hc:Zak y x < 0
   ·have z1:(Zak y x < 0)=True:=eq_true hc
    (have F:=ai @z1 @tmz;refine gR ?_;clear F)
    (have F:=ai @z1 @wh;refine gG ?_;exact ⟨(h+1,j),⟨by omega,by omega,h3,fun _=>⟨y,by rw [<- hy];congr 1;omega,by omega⟩,h5⟩,gw,gw,by omega⟩)
   ·have z1:(Zak y x < 0)=False:=eq_false hc
    (have F:=ai @z1 @tmz;refine gR ?_;clear F)
    (have F:=@z1;refine gG ?_;exact ⟨(i,h),⟨h1,by omega,by omega,h4,fun _=>⟨y,hy,Zo6 hc⟩⟩,gw,gw,by omega⟩)
  have q2:((i:Int) < (j:Int))=False:=eq_false om
  obtain rfl:i=j:=by omega
  obtain ⟨e,he⟩:∃ e,i=e+1:=⟨i - 1,by omega⟩
  have w2:IntKind.i64.wrap ((i:Int) - 1)=(e:Int):=ZaQ om om om
  have hout:Zat (A++B)=B.take (e - lo)++x::B.drop (e - lo):=by
   rw [hx]
   exact Zrh hB (fun h=>by obtain ⟨y,hy,hc⟩:=h4 om;exact ⟨y,by rw [<- hy];congr 1;omega,hc⟩) (fun h=>by obtain ⟨y,hy,hc⟩:=h5 om;exact ⟨y,by rw [<- hy];congr 1;omega,hc⟩)
  rw [hout]
  (have F:=ai @q2 @tmz;refine gG ?_;clear F)
  (have F:=@tmz;refine gL (ι:=Nat × List Tm) [13,58] [1000] (fun z=>[(13,.d (.one (.lit (.int .i64 (z.1:Int)))))]) (fun z=>[(1000,.buf (some (a,cap)) 46 4 (Zab z.2))]) (fun z=>lo<=z.1∧z.1<=e∧z.2=P++B.take (z.1 - lo)++x::(B.drop (z.1 - lo)++Q)) (fun z=>e - z.1) ((lo,U)) (⟨Tah _,by omega,by rw [hU,hx,Nat.sub_self];simp⟩) (fun z hz=>?_);clear F)
  obtain ⟨k,us⟩:=z
  obtain ⟨k1,k2,hus⟩:=hz
  simp only at k1 k2 hus
  dsimp only
  by_cases hk:k < e
  ·have q3:((k:Int) < (e:Int))=True:=eq_true om
   obtain ⟨y,hy⟩:∃ y,B[k - lo]?=some y:=⟨_,Taa om⟩
   have hPl:(P++B.take (k - lo)).length=k:=by rw [Tad,Tav];omega
   rw [Zdu hy] at hus
   have g1:us[k]?=some x:=by rw [hus];exact ZhP hPl
   have g2:us[k+1]?=some y:=by rw [hus];exact Zm0 hPl
   obtain ⟨V,hV⟩:∃ V,V=P++B.take (k+1 - lo)++x::(B.drop (k+1 - lo)++Q):=⟨_,rfl⟩
   have g3:(us.set k y).set (k+1) x=V:=by
    rw [hV,hus,Tae,ZB5 hPl,show k+1 - lo=k - lo+1 by omega,Zch hy];simp
   have hul:us.length=N:=by rw [hus];simp only [Tad,Taf,Tav,Taw];omega
   obtain ⟨k',hk'⟩:∃ k',k'=k+1:=⟨_,rfl⟩
   rw [<- hk'] at g2 g3 hV
   have wk:IntKind.i64.wrap ((k:Int)+1)=(k':Int):=ZaQ om om om
   have l1:k < N:=by omega
   have l2:k' < N:=by omega
   have hls:∀ q (t:Tm),(us.set q t).length=N:=fun q t=>by rw [Tay,hul]
   obtain ⟨z,g4⟩:∃ z,(us.set k y)[k']?=some z:=⟨_,Taa (by rw [Tay];omega)⟩
   (have F:=ai @q3 (ai @w2 @tmz);have NN:Zag 11:=trivial;refine gGn ?_;clear F NN)
   refine gF0 ?_
   refine gFm 0 ?_
   refine gFm 1 ?_
   refine gFm 2 ?_
   refine gFm 3 ?_
   refine (have F:=(ai wk (ai l1 (ai l2 (ai hul (ai g1 (ai g2 (ai g4 (ai hls (ai @Zac (ai @Zaq tmz))))))))));gFb 4 ?_)
   refine gFm 5 ?_
   refine gFm 6 ?_
   refine (have F:=(ai wk (ai l1 (ai l2 (ai hul (ai g1 (ai g2 (ai g4 (ai hls (ai @Zac (ai @Zaq tmz))))))))));gFb 7 ?_)
   refine (have F:=(ai wk (ai l1 (ai l2 (ai hul (ai g1 (ai g2 (ai g4 (ai hls (ai @Zac (ai @Zaq tmz))))))))));gFi (rows:=Zab us) 8 k' (by rw [Zac];omega) ?_)
   refine gFm 10 ?_
   refine gFm 11 ?_
   refine (have F:=(ai wk (ai l1 (ai l2 (ai hul (ai g1 (ai g2 (ai g4 (ai hls (ai @Zac (ai @Zaq tmz))))))))));gFi (rows:=Zab us) 12 k (by rw [Zac];omega) ?_)
   refine gFT ?_
   refine gO2 9 13 ?_ ?_
   ·refine (have F:=(ai wk (ai l1 (ai l2 (ai hul (ai g1 (ai g2 (ai g4 (ai hls (ai @Zac (ai @Zaq tmz))))))))));gO3 ?_)
    refine gO1 13 ?_
    refine (have F:=(ai wk (ai l1 (ai l2 (ai hul (ai g1 (ai g2 (ai g4 (ai hls (ai @Zac (ai @Zaq tmz))))))))));gO3 ?_)
    refine gO1 14 ?_
    refine (have F:=(ai wk (ai l1 (ai l2 (ai hul (ai g1 (ai g2 (ai g4 (ai hls (ai @Zac (ai @Zaq tmz))))))))));gO3 ?_)
    refine gO1 15 ?_
    refine (have F:=(ai wk (ai l1 (ai l2 (ai hul (ai g1 (ai g2 (ai g4 (ai hls (ai @Zac (ai @Zaq tmz))))))))));gO3 ?_)
    refine gO1 16 ?_
    refine (have F:=(ai wk (ai l1 (ai l2 (ai hul (ai g1 (ai g2 (ai g4 (ai hls (ai @Zac (ai @Zaq tmz))))))))));gO3 ?_)
    refine gO1 17 ?_
    refine (have F:=(ai wk (ai l1 (ai l2 (ai hul (ai g1 (ai g2 (ai g4 (ai hls (ai @Zac (ai @Zaq tmz))))))))));gO3 ?_)
    refine (have F:=tmz;gT0 ?_)
    refine Exists.intro _ (ai (Wk.refl _) ?_)
    rw [g3]
    (have F:=@wk;refine gG ?_;exact ⟨(k',V),⟨by omega,by omega,hV⟩,gw,gw,by omega⟩)
   ·refine (have F:=(ai wk (ai l1 (ai l2 (ai hul (ai g1 (ai g2 (ai g4 (ai hls (ai @Zac (ai @Zaq tmz))))))))));gO3 ?_)
    refine gO1 9 ?_
    refine (have F:=(ai wk (ai l1 (ai l2 (ai hul (ai g1 (ai g2 (ai g4 (ai hls (ai @Zac (ai @Zaq tmz))))))))));gO3 ?_)
    refine gO1 14 ?_
    refine (have F:=(ai wk (ai l1 (ai l2 (ai hul (ai g1 (ai g2 (ai g4 (ai hls (ai @Zac (ai @Zaq tmz))))))))));gO3 ?_)
    refine gO1 15 ?_
    refine (have F:=(ai wk (ai l1 (ai l2 (ai hul (ai g1 (ai g2 (ai g4 (ai hls (ai @Zac (ai @Zaq tmz))))))))));gO3 ?_)
    refine gO1 16 ?_
    refine (have F:=(ai wk (ai l1 (ai l2 (ai hul (ai g1 (ai g2 (ai g4 (ai hls (ai @Zac (ai @Zaq tmz))))))))));gO3 ?_)
    refine gO1 17 ?_
    refine (have F:=(ai wk (ai l1 (ai l2 (ai hul (ai g1 (ai g2 (ai g4 (ai hls (ai @Zac (ai @Zaq tmz))))))))));gO3 ?_)
    refine (have F:=tmz;gT0 ?_)
    refine Exists.intro _ (ai (Wk.refl _) ?_)
    rw [g3]
    (have F:=@wk;refine gG ?_;exact ⟨(k',V),⟨by omega,by omega,hV⟩,gw,gw,by omega⟩)
  have q3:((k:Int) < (e:Int))=False:=eq_false om
  obtain rfl:k=e:=by omega
  subst hus
  rw [show P++B.take (k - lo)++x::(B.drop (k - lo)++Q)=P++(B.take (k - lo)++x::B.drop (k - lo))++Q by simp]
  (have F:=ai @q3 (ai @w2 @tmz);refine gG ?_;clear F)
  first | exact (have F:=@e0P;gTPe (R:=RBuf a cap (P++(B.take (k - lo)++x::B.drop (k - lo))++Q)) [1000] ⟨rfl,rfl⟩) | exact (have F:=@e0P;gTP (R:=RBuf a cap (P++(B.take (k - lo)++x::B.drop (k - lo))++Q)) [1000] ⟨rfl,rfl⟩)
 have q1:((A.length:Int)=1)=False:=eq_false om
 by_cases hB1:B.length=1
 ·have q1':((B.length:Int)=1)=True:=eq_true om
  obtain ⟨x,hx⟩:∃ x,B=[x]:=List.length_eq_one_iff.1 hB1
  have gx:U[mi]?=some x:=by rw [hU];exact Zwx (i:=0) (by rw [hx];rfl) om
  have l0:mi < N:=by omega
  (have F:=ai @w0 (ai @w1 (ai @q1 (ai @q1' @tmz)));refine gG ?_;clear F)
  clear q1 q1'
  (have F:=@tmz;refine gL (ι:=Nat × Nat) [14,15,16,85,103] [] (fun z=>[(14,.d (.one (.lit (.int .i64 (z.1:Int))))),(15,.d (.one (.lit (.int .i64 (z.2:Int)))))]) (fun z=>[]) (fun z=>lo<=z.1∧z.1<=z.2∧z.2<=mi∧(lo < z.1->∃ y,A[z.1 - lo - 1]?=some y∧Zak y x<=0)∧(z.2 < mi->∃ y,A[z.2 - lo]?=some y∧Zak x y<=0)) (fun z=>z.2 - z.1) ((lo,mi)) (⟨Tah _,by omega,Tah _,fun h=>by omega,fun h=>by omega⟩) (fun z hz=>?_);clear F)
  obtain ⟨i,j⟩:=z
  obtain ⟨h1,h2,h3,h4,h5⟩:=hz
  simp only at h1 h2 h3 h4 h5
  dsimp only
  by_cases hij:i < j
  ·have q2:((i:Int) < (j:Int))=True:=eq_true om
   obtain ⟨s,h,u1,u2,u3,u4,hh⟩:=Zkb i j om
   obtain ⟨y,hy⟩:∃ y,A[h - lo]?=some y:=⟨_,Taa om⟩
   have gy:U[h]?=some y:=by rw [hU];exact Zww hy om
   have lh:h < N:=by omega
   have wh:=Zap (k:=h) om
   (have F:=ai @q2 (ai @u1 (ai @u2 (ai @u3 (ai @u4 (ai @ZfM (ai @Zka (ai @Zfg (ai @Zip (ai @Zeg (ai @ZhT (ai @toNat_one (ai @ZlF @tmz))))))))))));refine gG ?_;clear F)
   refine gB ?_
   (have F:=ai @tmz (ai @gx (ai @gy (ai @l0 (ai @lh (ai @hUl @Zac)))));refine gC (ZlK (Zff x y)) ?_;clear F)
   by_cases hc:Zak x y < 0
   ·have z1:(Zak x y < 0)=True:=eq_true hc
    (have F:=ai @z1 @tmz;refine gR ?_;clear F)
    (have F:=@z1;refine gG ?_;exact ⟨(i,h),⟨h1,by omega,by omega,h4,fun _=>⟨y,hy,by omega⟩⟩,gw,gw,by omega⟩)
   ·have z1:(Zak x y < 0)=False:=eq_false hc
    (have F:=ai @z1 @tmz;refine gR ?_;clear F)
    (have F:=ai @z1 @wh;refine gG ?_;exact ⟨(h+1,j),⟨by omega,by omega,h3,fun _=>⟨y,by rw [<- hy];congr 1;omega,Zo6 hc⟩,h5⟩,gw,gw,by omega⟩)
  have q2:((i:Int) < (j:Int))=False:=eq_false om
  obtain rfl:i=j:=by omega
  have hout:Zat (A++B)=A.take (i - lo)++x::A.drop (i - lo):=by
   rw [hx,Zqi (List.perm_append_comm (l₁:=A) (l₂:=[x]))]
   exact Zrh hA (fun h=>by obtain ⟨y,hy,hc⟩:=h4 om;exact ⟨y,hy,hc⟩) (fun h=>by obtain ⟨y,hy,hc⟩:=h5 om;exact ⟨y,hy,hc⟩)
  rw [hout]
  (have F:=ai @q2 @tmz;refine gG ?_;clear F)
  (have F:=@tmz;refine gL (ι:=Nat × List Tm) [17,110] [1000] (fun z=>[(17,.d (.one (.lit (.int .i64 (z.1:Int)))))]) (fun z=>[(1000,.buf (some (a,cap)) 46 4 (Zab z.2))]) (fun z=>i<=z.1∧z.1<=mi∧z.2=P++A.take (z.1 - lo)++x::(A.drop (z.1 - lo)++Q)) (fun z=>z.1) ((mi,U)) (⟨h3,Tah _,by rw [hU,hx,show mi - lo=A.length by omega,Tao,List.drop_length];simp⟩) (fun z hz=>?_);clear F)
  obtain ⟨k,us⟩:=z
  obtain ⟨k1,k2,hus⟩:=hz
  simp only at k1 k2 hus
  dsimp only
  by_cases hk:i < k
  ·have q3:((i:Int) < (k:Int))=True:=eq_true om
   obtain ⟨p,hp⟩:∃ p,k=p+1:=⟨k - 1,by omega⟩
   obtain ⟨y,hy⟩:∃ y,A[p - lo]?=some y:=⟨_,Taa om⟩
   have hPl:(P++A.take (p - lo)).length=p:=by rw [Tad,Tav];omega
   have hus2:us=(P++A.take (p - lo))++y::x::(A.drop (k - lo)++Q):=by rw [hus,show k - lo=p - lo+1 by omega,Zch hy];simp
   have g1:us[p]?=some y:=by rw [hus2];exact ZhP hPl
   have g2:us[k]?=some x:=by rw [hus2,hp];exact Zm0 hPl
   obtain ⟨V,hV⟩:∃ V,V=P++A.take (p - lo)++x::(A.drop (p - lo)++Q):=⟨_,rfl⟩
   have g3:(us.set k y).set p x=V:=by
    rw [hV,hus2,hp,ZuJ hPl,Zdu hy,show p+1 - lo=p - lo+1 by omega];simp
   have hul:us.length=N:=by rw [hus];simp only [Tad,Taf,Tav,Taw];omega
   have wk:IntKind.i64.wrap ((k:Int) - 1)=(p:Int):=ZaQ om om om
   have l1:k < N:=by omega
   have l2:p < N:=by omega
   have hls:∀ q (t:Tm),(us.set q t).length=N:=fun q t=>by rw [Tay,hul]
   obtain ⟨z,g4⟩:∃ z,(us.set k y)[p]?=some z:=⟨_,Taa (by rw [Tay];omega)⟩
   (have F:=ai @q3 @tmz;have NN:Zag 23:=trivial;refine gGn ?_;clear F NN)
   refine gF0 ?_
   refine gFm 0 ?_
   refine gFm 1 ?_
   refine gFm 2 ?_
   refine gFm 3 ?_
   refine (have F:=(ai wk (ai l1 (ai l2 (ai hul (ai g1 (ai g2 (ai g4 (ai hls (ai @Zac (ai @Zaq tmz))))))))));gFb 4 ?_)
   refine gFm 5 ?_
   refine gFm 6 ?_
   refine (have F:=(ai wk (ai l1 (ai l2 (ai hul (ai g1 (ai g2 (ai g4 (ai hls (ai @Zac (ai @Zaq tmz))))))))));gFb 7 ?_)
   refine (have F:=(ai wk (ai l1 (ai l2 (ai hul (ai g1 (ai g2 (ai g4 (ai hls (ai @Zac (ai @Zaq tmz))))))))));gFi (rows:=Zab us) 8 p (by rw [Zac];omega) ?_)
   refine gFm 10 ?_
   refine gFm 11 ?_
   refine (have F:=(ai wk (ai l1 (ai l2 (ai hul (ai g1 (ai g2 (ai g4 (ai hls (ai @Zac (ai @Zaq tmz))))))))));gFi (rows:=Zab us) 12 k (by rw [Zac];omega) ?_)
   refine gFT ?_
   refine gO2 9 13 ?_ ?_
   ·refine (have F:=(ai wk (ai l1 (ai l2 (ai hul (ai g1 (ai g2 (ai g4 (ai hls (ai @Zac (ai @Zaq tmz))))))))));gO3 ?_)
    refine gO1 13 ?_
    refine (have F:=(ai wk (ai l1 (ai l2 (ai hul (ai g1 (ai g2 (ai g4 (ai hls (ai @Zac (ai @Zaq tmz))))))))));gO3 ?_)
    refine gO1 14 ?_
    refine (have F:=(ai wk (ai l1 (ai l2 (ai hul (ai g1 (ai g2 (ai g4 (ai hls (ai @Zac (ai @Zaq tmz))))))))));gO3 ?_)
    refine gO1 15 ?_
    refine (have F:=(ai wk (ai l1 (ai l2 (ai hul (ai g1 (ai g2 (ai g4 (ai hls (ai @Zac (ai @Zaq tmz))))))))));gO3 ?_)
    refine gO1 16 ?_
    refine (have F:=(ai wk (ai l1 (ai l2 (ai hul (ai g1 (ai g2 (ai g4 (ai hls (ai @Zac (ai @Zaq tmz))))))))));gO3 ?_)
    refine gO1 17 ?_
    refine (have F:=(ai wk (ai l1 (ai l2 (ai hul (ai g1 (ai g2 (ai g4 (ai hls (ai @Zac (ai @Zaq tmz))))))))));gO3 ?_)
    refine (have F:=tmz;gT0 ?_)
    refine Exists.intro _ (ai (Wk.refl _) ?_)
    rw [g3]
    (have F:=@wk;refine gG ?_;exact ⟨(p,V),⟨by omega,by omega,hV⟩,gw,gw,by omega⟩)
   ·refine (have F:=(ai wk (ai l1 (ai l2 (ai hul (ai g1 (ai g2 (ai g4 (ai hls (ai @Zac (ai @Zaq tmz))))))))));gO3 ?_)
    refine gO1 9 ?_
    refine (have F:=(ai wk (ai l1 (ai l2 (ai hul (ai g1 (ai g2 (ai g4 (ai hls (ai @Zac (ai @Zaq tmz))))))))));gO3 ?_)
    refine gO1 14 ?_
    refine (have F:=(ai wk (ai l1 (ai l2 (ai hul (ai g1 (ai g2 (ai g4 (ai hls (ai @Zac (ai @Zaq tmz))))))))));gO3 ?_)
    refine gO1 15 ?_
    refine (have F:=(ai wk (ai l1 (ai l2 (ai hul (ai g1 (ai g2 (ai g4 (ai hls (ai @Zac (ai @Zaq tmz))))))))));gO3 ?_)
    refine gO1 16 ?_
    refine (have F:=(ai wk (ai l1 (ai l2 (ai hul (ai g1 (ai g2 (ai g4 (ai hls (ai @Zac (ai @Zaq tmz))))))))));gO3 ?_)
    refine gO1 17 ?_
    refine (have F:=(ai wk (ai l1 (ai l2 (ai hul (ai g1 (ai g2 (ai g4 (ai hls (ai @Zac (ai @Zaq tmz))))))))));gO3 ?_)
    refine (have F:=tmz;gT0 ?_)
    refine Exists.intro _ (ai (Wk.refl _) ?_)
    rw [g3]
    (have F:=@wk;refine gG ?_;exact ⟨(p,V),⟨by omega,by omega,hV⟩,gw,gw,by omega⟩)
  have q3:((i:Int) < (k:Int))=False:=eq_false om
  obtain rfl:i=k:=by omega
  subst hus
  rw [show P++A.take (i - lo)++x::(A.drop (i - lo)++Q)=P++(A.take (i - lo)++x::A.drop (i - lo))++Q by simp]
  (have F:=ai @q3 @tmz;refine gG ?_;clear F)
  first | exact (have F:=@e0P;gTPe (R:=RBuf a cap (P++(A.take (i - lo)++x::A.drop (i - lo))++Q)) [1000] ⟨rfl,rfl⟩) | exact (have F:=@e0P;gTP (R:=RBuf a cap (P++(A.take (i - lo)++x::A.drop (i - lo))++Q)) [1000] ⟨rfl,rfl⟩)
 have q1':((B.length:Int)=1)=False:=eq_false om
 obtain ⟨s0,mid,u1,u2,u3,u4,hmid⟩:=Zkb lo hi om
 obtain ⟨nn,hnn⟩:∃ nn,nn=mid+mi:=⟨_,rfl⟩
 obtain ⟨p,hp⟩:∃ p,nn=p+1:=⟨nn - 1,by omega⟩
 have w2:IntKind.i64.wrap ((mid:Int)+(mi:Int))=(nn:Int):=ZaQ om om om
 have w3:IntKind.i64.wrap ((nn:Int) - 1)=(p:Int):=ZaQ om om om
 (have F:=ai @w0 (ai @w1 (ai @q1 (ai @q1' (ai @u1 (ai @u2 (ai @u3 (ai @u4 (ai @ZfM (ai @Zka (ai @Zfg (ai @Zip (ai @Zeg (ai @ZhT (ai @toNat_one (ai @ZlF (ai @w2 @tmz))))))))))))))));refine gG ?_;clear F)
 clear q1 q1' u1 u2 u3 u4
 refine gM (ι:=Nat × Nat) [20,21] [] (fun z=>[(20,.d (.one (.lit (.int .i64 (z.1:Int))))),(21,.d (.one (.lit (.int .i64 (z.2:Int)))))]) (fun z=>[]) (fun z=>mid < mi∧z.1+hi=nn∧z.2=mid∨mi<=mid∧z.1=lo∧z.2=mi) ?_ (fun z hz=>Exists.intro _ (ai (Wk.refl _) ?_))
 ·by_cases hgt:mid < mi
  ·have q2:decide ((mid:Int) < (mi:Int))=true:=decide_eq_true om
   have w4:IntKind.i64.wrap ((nn:Int) - (hi:Int))=((nn - hi:Nat):Int):=ZaQ om om om
   generalize hv:nn - hi=v at w4
   have q2':(mid < mi)=True:=eq_true hgt
   (have F:=ai @q2 (ai @q2' (ai @w4 @tmz));refine gG ?_;exact ⟨(v,mid),.inl ⟨hgt,by simp only;omega,rfl⟩,gw,gw⟩)
  ·have q2:decide ((mid:Int) < (mi:Int))=false:=decide_eq_false om
   have q2':(mi<=mid)=True:=eq_true om
   (have F:=ai @q2 (ai @q2' @tmz);refine gG ?_;exact ⟨(lo,mi),.inr ⟨by omega,rfl,rfl⟩,gw,gw⟩)
 obtain ⟨st,r0⟩:=z
 simp only at hz
 dsimp only
 (have F:=ai @w3 @tmz;refine gG ?_;clear F)
 (have F:=@tmz;refine gL (ι:=Nat × Nat) [20,21,23,151,171] [] (fun z=>[(20,.d (.one (.lit (.int .i64 (z.1:Int))))),(21,.d (.one (.lit (.int .i64 (z.2:Int)))))]) (fun z=>[]) (fun z=>st<=z.1∧z.1<=z.2∧z.2<=r0∧SymL A B lo mid st z.1∧SymR A B lo mid r0 z.2) (fun z=>z.2 - z.1) ((st,r0)) (⟨Tah _,by omega,Tah _,fun h=>by omega,fun h=>by omega⟩) (fun z hz=>?_);clear F)
 obtain ⟨i,j⟩:=z
 rename_i hcase
 obtain ⟨h1,h2,h3,h4,h5⟩:=hz
 simp only at h1 h2 h3 h4 h5
 dsimp only
 by_cases hij:i < j
 ·have q2:((i:Int) < (j:Int))=True:=eq_true om
  obtain ⟨s,c,u1,u2,u3,u4,hc⟩:=Zkb i j om
  obtain ⟨y,hy⟩:∃ y,A[c - lo]?=some y:=⟨_,Taa om⟩
  obtain ⟨x,hx⟩:∃ x,B[mid - 1 - c]?=some x:=⟨_,Taa om⟩
  obtain ⟨d,hd⟩:∃ d,d+c=p:=⟨p - c,by omega⟩
  have gy:U[c]?=some y:=by rw [hU];exact Zww hy om
  have gx:U[d]?=some x:=by rw [hU];exact Zwx hx om
  have lc:c < N:=by omega
  have ld:d < N:=by omega
  have wc:=Zap (k:=c) om
  have wd:IntKind.i64.wrap ((p:Int) - (c:Int))=(d:Int):=ZaQ om om om
  (have F:=ai @q2 (ai @u1 (ai @u2 (ai @u3 (ai @u4 (ai @ZfM (ai @Zka (ai @Zfg (ai @Zip (ai @Zeg (ai @ZhT (ai @toNat_one (ai @ZlF @tmz))))))))))));refine gG ?_;clear F)
  refine gB ?_
  (have F:=ai @tmz (ai @gx (ai @gy (ai @lc (ai @ld (ai @wd (ai @hUl @Zac))))));refine gC (ZlK (Zff x y)) ?_;clear F)
  by_cases hcc:Zak x y < 0
  ·have z1:(Zak x y < 0)=True:=eq_true hcc
   (have F:=ai @z1 @tmz;refine gR ?_;clear F)
   (have F:=@z1;refine gG ?_;exact ⟨(i,c),⟨h1,by omega,by omega,h4,fun _=>⟨x,y,hx,hy,by omega⟩⟩,gw,gw,by omega⟩)
  ·have z1:(Zak x y < 0)=False:=eq_false hcc
   (have F:=ai @z1 @tmz;refine gR ?_;clear F)
   (have F:=ai @z1 @wc;refine gG ?_;exact ⟨(c+1,j),⟨by omega,by omega,h3,fun _=>⟨y,x,by rw [<- hy];congr 1,by rw [<- hx];congr 1;omega,Zo6 hcc⟩,h5⟩,gw,gw,by omega⟩)
 have q2:((i:Int) < (j:Int))=False:=eq_false om
 obtain rfl:i=j:=by omega
 have hcut:=ZGi hA hB (s:=i - lo) (e:=mid - i) (fun e1 e2=>by
  obtain ⟨u,v,k1,k2,k3⟩:=h4 om
  exact ⟨u,v,by rw [<- k1];congr 1;omega,k2,k3⟩) (fun e1 e2=>by
  obtain ⟨u,v,k1,k2,k3⟩:=h5 om
  exact ⟨u,v,by rw [<- k1];congr 1;omega,k2,k3⟩)
 have eA:A=A.take (i - lo)++A.drop (i - lo):=(Tbm _ _).symm
 have eB:B=B.take (mid - i)++B.drop (mid - i):=(Tbm _ _).symm
 have lA1:(A.take (i - lo)).length=i - lo:=by rw [Tav];omega
 have lA2:(A.drop (i - lo)).length=mi - i:=by rw [Taw];omega
 have lB1:(B.take (mid - i)).length=mid - i:=by rw [Tav];omega
 have lB2:(B.drop (mid - i)).length=hi+i - mi - mid:=by rw [Taw];omega
 have uA1:=hA.take (i - lo)
 have uA2:=hA.drop (i - lo)
 have uB1:=hB.take (mid - i)
 have uB2:=hB.drop (mid - i)
 generalize A.take (i - lo)=A1 at hcut eA lA1 uA1
 generalize A.drop (i - lo)=A2 at hcut eA lA2 uA2
 generalize B.take (mid - i)=B1 at hcut eB lB1 uB1
 generalize B.drop (mid - i)=B2 at hcut eB lB2 uB2
 have hsort:=Zv4 hcut
 rw [<- eA,<- eB] at hsort
 rw [<- hsort]
 obtain ⟨ed,hed⟩:∃ ed,ed+i=nn:=⟨nn - i,by omega⟩
 have w5:IntKind.i64.wrap ((nn:Int) - (i:Int))=(ed:Int):=ZaQ om om om
 clear h4 h5 hcut hsort hA hB
 (have F:=ai @q2 (ai @w5 @tmz);refine gG ?_;clear F)
 refine gM (ι:=Bool) [185] [] (fun b=>[(185,.d (.one (.lit (.bool b))))]) (fun b=>[]) (fun b=>b=decide (i < mi∧mi < ed)) ?_ (fun b hb=>Exists.intro _ (ai (Wk.refl _) ?_))
 ·by_cases hr1:i < mi
  ·have q3:((i:Int) < (mi:Int))=True:=eq_true om
   by_cases hr2:mi < ed
   ·have q4:((mi:Int) < (ed:Int))=True:=eq_true om
    (have F:=ai @q3 (ai @q4 @tmz);refine gG ?_;exact ⟨true,(decide_eq_true (ai hr1 hr2)).symm,gw,gw⟩)
   ·have q4:((mi:Int) < (ed:Int))=False:=eq_false om
    (have F:=ai @q3 (ai @q4 @tmz);refine gG ?_;exact ⟨false,(decide_eq_false fun h=>hr2 h.2).symm,gw,gw⟩)
  ·have q3:((i:Int) < (mi:Int))=False:=eq_false om
   (have F:=ai @q3 @tmz;refine gG ?_;exact ⟨false,(decide_eq_false fun h=>hr1 h.1).symm,gw,gw⟩)
 subst hb
 refine gM (ι:=Unit) [] [1000] (fun z=>[]) (fun z=>[(1000,.buf (some (a,cap)) 46 4 (Zab (P++A1++B1++(A2++B2++Q))))]) (fun z=>True) ?_ (fun z hz=>Exists.intro _ (ai (Wk.refl _) ?_))
 ·by_cases hr:i < mi∧mi < ed
  ·rw [decide_eq_true hr]
   obtain ⟨hr1,hr2⟩:=hr
   have c:=ZCe (P++A1) A2 B1 (B2++Q) om om (A:=i) (M:=mi) (B:=ed) (N:=N) (by rw [Tad];omega) (by rw [Tad];omega) (by rw [Tad];omega) (by rw [Tad,Tad];omega) hmx a cap
   rw [show P++A1++A2++B1++(B2++Q)=U by rw [hU,eA,eB];simp,show P++A1++B1++A2++(B2++Q)=P++A1++B1++(A2++B2++Q) by simp] at c
   generalize P++A1++B1++(A2++B2++Q)=V at c ⊢
   (have F:=@tmz;have NN:Zag 40:=trivial;refine gGn ?_;clear F NN)
   refine gB ?_
   (have F:=@tmz;refine gCP [1000] [1000] (c) ?_;clear F)
   rintro r pm ⟨rfl,rfl⟩
   simp only [setA,retA,zipM,Tae,Tag]
   (have F:=@tmz;refine gR ?_;clear F)
   exact ⟨(),trivial,gw,gw⟩
  ·have hUU:U=P++A1++B1++(A2++B2++Q):=by
    rw [hU,eA,eB]
    rcases (show mi<=i∨mid<=i by omega) with h | h
    ·have:A2=[]:=Tan om
     subst this;simp
    ·have:B1=[]:=Tan om
     subst this;simp
   rw [<- hUU,decide_eq_false hr]
   (have F:=@tmz;refine gG ?_;exact ⟨(),trivial,gw,gw⟩)
 clear hU hUl U
 refine Zd3 ?_
 refine Zd3 ?_
 refine gM (ι:=Bool) [199] [] (fun b=>[(199,.d (.one (.lit (.bool b))))]) (fun b=>[]) (fun b=>b=decide (lo < i∧i < mid)) ?_ (fun b hb=>Exists.intro _ (ai (Wk.refl _) ?_))
 ·by_cases hr1:lo < i
  ·have q3:((lo:Int) < (i:Int))=True:=eq_true om
   by_cases hr2:i < mid
   ·have q4:((i:Int) < (mid:Int))=True:=eq_true om
    (have F:=ai @q3 (ai @q4 @tmz);refine gG ?_;exact ⟨true,(decide_eq_true (ai hr1 hr2)).symm,gw,gw⟩)
   ·have q4:((i:Int) < (mid:Int))=False:=eq_false om
    (have F:=ai @q3 (ai @q4 @tmz);refine gG ?_;exact ⟨false,(decide_eq_false fun h=>hr2 h.2).symm,gw,gw⟩)
  ·have q3:((lo:Int) < (i:Int))=False:=eq_false om
   (have F:=ai @q3 @tmz;refine gG ?_;exact ⟨false,(decide_eq_false fun h=>hr1 h.1).symm,gw,gw⟩)
 subst hb
 refine gM (ι:=Unit) [] [1000] (fun z=>[]) (fun z=>[(1000,.buf (some (a,cap)) 46 4 (Zab (P++Zat (A1++B1)++(A2++B2++Q))))]) (fun z=>True) ?_ (fun z hz=>Exists.intro _ (ai (Wk.refl _) ?_))
 ·by_cases hr:lo < i∧i < mid
  ·rw [decide_eq_true hr]
   obtain ⟨hr1,hr2⟩:=hr
   have c:=ih P A1 B1 (A2++B2++Q) om om om uA1 uB1 (lo:=lo) (mi:=i) (hi:=mid) (N:=N) hlo om om (by simp only [Tad];omega) hmx a cap
   generalize P++Zat (A1++B1)++(A2++B2++Q)=V at c ⊢
   generalize P++A1++B1++(A2++B2++Q)=V' at c ⊢
   (have F:=@tmz;have NN:Zag 42:=trivial;refine gGn ?_;clear F NN)
   refine gB ?_
   (have F:=@tmz;refine gCP [1000] [1000] (c) ?_;clear F)
   rintro r pm ⟨rfl,rfl⟩
   simp only [setA,retA,zipM,Tae,Tag]
   (have F:=@tmz;refine gR ?_;clear F)
   exact ⟨(),trivial,gw,gw⟩
  ·have hs:Zat (A1++B1)=A1++B1:=by
    rcases (show i<=lo∨mid<=i by omega) with h | h
    ·have:A1=[]:=Tan om
     subst this;exact Zew uB1
    ·have:B1=[]:=Tan om
     subst this;rw [List.append_nil];exact Zew uA1
   rw [hs,<- Tbf P,decide_eq_false hr]
   generalize P++A1++B1++(A2++B2++Q)=V
   (have F:=@tmz;refine gG ?_;exact ⟨(),trivial,gw,gw⟩)
 have hsl:(Zat (A1++B1)).length=mid - lo:=by rw [ZcQ,Tad];omega
 generalize Zat (A1++B1)=S1 at hsl ⊢
 rw [show P++S1++(A2++B2++Q)=P++S1++A2++B2++Q by simp,show P++(S1++Zat (A2++B2))++Q=P++S1++Zat (A2++B2)++Q by simp]
 refine Zd3 ?_
 refine gM (ι:=Bool) [213] [] (fun b=>[(213,.d (.one (.lit (.bool b))))]) (fun b=>[]) (fun b=>b=decide (mid < ed∧ed < hi)) ?_ (fun b hb=>Exists.intro _ (ai (Wk.refl _) ?_))
 ·by_cases hr1:mid < ed
  ·have q3:((mid:Int) < (ed:Int))=True:=eq_true om
   by_cases hr2:ed < hi
   ·have q4:((ed:Int) < (hi:Int))=True:=eq_true om
    (have F:=ai @q3 (ai @q4 @tmz);refine gG ?_;exact ⟨true,(decide_eq_true (ai hr1 hr2)).symm,gw,gw⟩)
   ·have q4:((ed:Int) < (hi:Int))=False:=eq_false om
    (have F:=ai @q3 (ai @q4 @tmz);refine gG ?_;exact ⟨false,(decide_eq_false fun h=>hr2 h.2).symm,gw,gw⟩)
  ·have q3:((mid:Int) < (ed:Int))=False:=eq_false om
   (have F:=ai @q3 @tmz;refine gG ?_;exact ⟨false,(decide_eq_false fun h=>hr1 h.1).symm,gw,gw⟩)
 subst hb
 by_cases hr:mid < ed∧ed < hi
 ·rw [decide_eq_true hr]
  obtain ⟨hr1,hr2⟩:=hr
  have c:=ih (P++S1) A2 B2 Q om om om uA2 uB2 (lo:=mid) (mi:=ed) (hi:=hi) (N:=N) (by rw [Tad];omega) (by rw [Tad];omega) (by rw [Tad];omega) (by simp only [Tad];omega) hmx a cap
  generalize P++S1++Zat (A2++B2)++Q=V at c ⊢
  generalize P++S1++A2++B2++Q=V' at c ⊢
  (have F:=@tmz;have NN:Zag 44:=trivial;refine gGn ?_;clear F NN)
  refine gB ?_
  (have F:=@tmz;refine gCP [1000] [1000] (c) ?_;clear F)
  rintro r pm ⟨rfl,rfl⟩
  simp only [setA,retA,zipM,Tae,Tag]
  (have F:=@tmz;refine gR ?_;clear F)
  first | exact (have F:=@e0P;gTPe (R:=RBuf a cap V) [1000] ⟨rfl,rfl⟩) | exact (have F:=@e0P;gTP (R:=RBuf a cap V) [1000] ⟨rfl,rfl⟩)
 ·have hs:Zat (A2++B2)=A2++B2:=by
   rcases (show ed<=mid∨hi<=ed by omega) with h | h
   ·have:A2=[]:=Tan om
    subst this;exact Zew uB2
   ·have:B2=[]:=Tan om
    subst this;rw [List.append_nil];exact Zew uA2
  rw [hs,<- Tbf (P++S1),decide_eq_false hr]
  generalize P++S1++A2++B2++Q=V
  (have F:=@tmz;refine gG ?_;clear F)
  first | exact (have F:=@e0P;gTPe (R:=RBuf a cap V) [1000] ⟨rfl,rfl⟩) | exact (have F:=@e0P;gTP (R:=RBuf a cap V) [1000] ⟨rfl,rfl⟩)
theorem Zrj {X A B r ts:List Tm} (h:(X++A++r).Perm ts) (hB:B.Perm A):(X++B++r).Perm ts:=((List.Perm.append_left X hB).append_right r).trans h
theorem Zrk (ts:List Tm) {N:Nat} (hN:N=ts.length) (hmx:N<=4000000) (a:Option Addr) (cap:Nat) :
  ConP e0 232 [.one (.lit (.slice a N cap)),.one (.lit (.int .i64 N)),.one (.fn 82 [])] [.buf (some (a,cap)) 46 4 (Zab ts)] (RBuf a cap (Zat ts)):=by
 refine gIP (ts:=[]) [1000] 18014433942971335 Tryz.func232 ?_
 (have F:=@tmz;refine gG ?_;clear F)
 (have F:=@tmz;refine gL (ι:=(Nat × Nat) × List Tm) [7,8,13] [1000] (fun z=>[(7,.d (.one (.lit (.int .i64 (z.1.1:Int))))),(8,.d (.one (.lit (.int .i64 (z.1.2:Int)))))]) (fun z=>[(1000,.buf (some (a,cap)) 46 4 (Zab z.2))]) (fun z=>z.1.2=z.1.1+20∧z.1.1<=N∧∃ X,z.2=X++ts.drop z.1.1∧X.length=z.1.1∧Full 20 X∧X.Perm (ts.take z.1.1)) (fun z=>N - z.1.1) (((0,20),ts)) (⟨rfl,Tai _,[],rfl,rfl,.nil,List.Perm.refl _⟩) (fun z hz=>?_);clear F)
 obtain ⟨⟨i,j⟩,us⟩:=z
 obtain ⟨hj,hi,X,hus,hX,hF,hp⟩:=hz
 simp only at hj hi hus hX hp
 dsimp only
 by_cases hlt:j<=N
 ·have q1:((j:Int)<=(N:Int))=True:=eq_true om
  have hd:ts.drop i=(ts.drop i).take 20++ts.drop j:=by rw [hj,<- List.drop_drop,Tbm]
  have hl:((ts.drop i).take 20).length=20:=by rw [Tav,Taw];omega
  have ht:ts.take j=ts.take i++(ts.drop i).take 20:=by rw [hj,List.take_add]
  have c:=Zrg X ((ts.drop i).take 20) (ts.drop j) (A:=i) (B:=j) (N:=N) hX.symm om (by rw [Taw];omega) hmx a cap
  rw [Tbf X,<- hd,<- hus] at c
  have wj:IntKind.i64.wrap ((j:Int)+20)=((j+20:Nat):Int):=ZaQ om om om
  obtain ⟨V,hV⟩:∃ V,V=X++Zat ((ts.drop i).take 20)++ts.drop j:=⟨_,rfl⟩
  rw [<- hV] at c
  obtain ⟨j',hj'⟩:∃ j',j'=j+20:=⟨_,rfl⟩
  rw [<- hj'] at wj
  (have F:=ai @q1 @tmz;have NN:Zag 3:=trivial;refine gGn ?_;clear F NN)
  refine gB ?_
  (have F:=@tmz;refine gCP [1000] [1000] (c) ?_;clear F)
  rintro r pm ⟨rfl,rfl⟩
  simp only [setA,retA,zipM,Tae,Tag]
  (have F:=@tmz;refine gR ?_;clear F)
  (have F:=@wj;refine gG ?_;exact ⟨((j,j'),V),⟨hj',hlt,X++Zat ((ts.drop i).take 20),hV,by rw [Tad,ZcQ];simp only;omega,hF.snoc (by rw [ZcQ];exact hl) (Zb9 _),by simp only;rw [ht];exact hp.append (Za5 _)⟩,gw,gw,by dsimp only;omega⟩)
 have q1:((j:Int)<=(N:Int))=False:=eq_false om
 have c:=Zrg X (ts.drop i) [] (A:=i) (B:=N) (N:=N) hX.symm (by rw [Taw];omega) (by rw [Taw];simp;omega) hmx a cap
 rw [List.append_nil,List.append_nil,<- hus] at c
 have hB:Blks 20 (X++Zat (ts.drop i)):=hF.blks (by rw [ZcQ,Taw];omega) (Zb9 _)
 have hP:(X++Zat (ts.drop i)).Perm ts:=by
  have:=hp.append (Za5 (ts.drop i))
  rwa [Tbm] at this
 generalize X++Zat (ts.drop i)=vs at c hB hP
 (have F:=ai @q1 @tmz;have NN:Zag 6:=trivial;refine gGn ?_;clear F NN)
 refine gB ?_
 (have F:=@tmz;refine gCP [1000] [1000] (c) ?_;clear F)
 rintro r pm ⟨rfl,rfl⟩
 simp only [setA,retA,zipM,Tae,Tag]
 (have F:=@tmz;refine gR ?_;clear F)
 clear c q1 hus hF hp us X hX hi hj
 (have F:=@tmz;refine gG ?_;clear F)
 (have F:=@tmz;refine gL (ι:=Nat × List Tm) [6,7,8,9,30,35,54] [1000] (fun z=>[(6,.d (.one (.lit (.int .i64 (z.1:Int)))))]) (fun z=>[(1000,.buf (some (a,cap)) 46 4 (Zab z.2))]) (fun z=>0 < z.1∧z.1<=8000000∧Blks z.1 z.2∧z.2.Perm ts) (fun z=>N - z.1) ((20,vs)) (⟨by omega,by omega,hB,hP⟩) (fun z hz=>?_);clear F)
 clear hB hP vs hlt i j
 obtain ⟨k,us⟩:=z
 obtain ⟨hk0,hk8,hB,hP⟩:=hz
 simp only at hk0 hk8 hB hP
 dsimp only
 by_cases hlt:k < N
 rotate_left
 ·have q1:((k:Int) < (N:Int))=False:=eq_false om
  have e:us=Zat ts:=ZfO hP (hB.up (by rw [hP.length_eq];omega))
  subst e
  (have F:=ai @q1 @tmz;refine gG ?_;clear F)
  first | exact (have F:=@e0P;gTPe (R:=RBuf a cap (Zat ts)) [1000] ⟨rfl,rfl⟩) | exact (have F:=@e0P;gTP (R:=RBuf a cap (Zat ts)) [1000] ⟨rfl,rfl⟩)
 have q1:((k:Int) < (N:Int))=True:=eq_true om
 obtain ⟨k2,hk2⟩:∃ k2,k2=2 * k:=⟨_,rfl⟩
 have w1:IntKind.i64.wrap (2 * (k:Int))=(k2:Int):=ZaQ om om om
 have w2:IntKind.i64.wrap ((k:Int) * 2)=(k2:Int):=ZaQ om om om
 (have F:=ai @q1 (ai @w1 @tmz);refine gG ?_;clear F)
 (have F:=@tmz;refine gL (ι:=(Nat × Nat) × List Tm) [7,8,35] [1000] (fun z=>[(7,.d (.one (.lit (.int .i64 (z.1.1:Int))))),(8,.d (.one (.lit (.int .i64 (z.1.2:Int)))))]) (fun z=>[(1000,.buf (some (a,cap)) 46 4 (Zab z.2))]) (fun z=>z.1.2=z.1.1+k2∧z.1.1<=N∧∃ X Y,z.2=X++Y∧X.length=z.1.1∧Full k2 X∧Blks k Y∧(X++Y).Perm ts) (fun z=>N - z.1.1) (((0,k2),us)) (⟨(Nat.zero_add _).symm,Tai _,[],us,rfl,rfl,.nil,hB,hP⟩) (fun z hz=>?_);clear F)
 obtain ⟨⟨i,j⟩,vs⟩:=z
 obtain ⟨hj,hi,X,Y,hvs,hX,hF,hY,hp⟩:=hz
 simp only at hj hi hvs hX
 dsimp only
 have hpl:=hp.length_eq
 rw [Tad] at hpl
 obtain ⟨m,hm⟩:∃ m,m=i+k:=⟨_,rfl⟩
 have w3:IntKind.i64.wrap ((i:Int)+(k:Int))=(m:Int):=ZaQ om om om
 by_cases hjl:j<=N
 ·have q2:((j:Int)<=(N:Int))=True:=eq_true om
  obtain ⟨A,B,r,hY',hA,hB',uA,uB,hr⟩:=hY.two hk0 om
  have hYl:=congrArg List.length hY'
  simp only [Tad] at hYl
  have c:=Zri _ X A B r (Tah _) om om uA uB (lo:=i) (mi:=m) (hi:=j) (N:=N) hX.symm om om om hmx a cap
  have e1:X++A++B++r=vs:=by rw [hvs,hY'];simp
  rw [e1] at c
  have hp2:(X++Zat (A++B)++r).Perm ts:=Zrj (A:=A++B) (by rw [<- Tbf,e1,hvs];exact hp) (Za5 _)
  obtain ⟨V,hV⟩:∃ V,V=X++Zat (A++B)++r:=⟨_,rfl⟩
  rw [<- hV] at c
  obtain ⟨j',hj'⟩:∃ j',j'=j+k2:=⟨_,rfl⟩
  have wj:IntKind.i64.wrap ((j:Int)+(k2:Int))=(j':Int):=ZaQ om om om
  (have F:=ai @q2 @tmz;have NN:Zag 10:=trivial;refine gGn ?_;clear F NN)
  refine gB ?_
  (have F:=ai @tmz @w3;refine gCP [1000] [1000] (c) ?_;clear F)
  rintro r' pm ⟨rfl,rfl⟩
  simp only [setA,retA,zipM,Tae,Tag]
  (have F:=@tmz;refine gR ?_;clear F)
  (have F:=ai @w1 @wj;refine gG ?_;exact ⟨((j,j'),V),⟨hj',hjl,X++Zat (A++B),r,hV,by simp only;rw [Tad,ZcQ,Tad];omega,hF.snoc (by rw [ZcQ,Tad];omega) (Zb9 _),hr,hp2⟩,gw,gw,by dsimp only;omega⟩)
 have q2:((j:Int)<=(N:Int))=False:=eq_false om
 by_cases hmn:m < N
 ·have q3:((m:Int) < (N:Int))=True:=eq_true om
  obtain ⟨A,B,hY',hA,uA,hB'⟩:=hY.split om
  have hYl:=congrArg List.length hY'
  simp only [Tad] at hYl
  have uB:=hB'.up om
  have c:=Zri _ X A B [] (Tah _) om om uA uB (lo:=i) (mi:=m) (hi:=N) (N:=N) hX.symm om om (by simp only [Taj];omega) hmx a cap
  have e1:X++A++B++[]=vs:=by rw [hvs,hY'];simp
  rw [e1] at c
  have hp2:(X++Zat (A++B)++[]).Perm ts:=Zrj (A:=A++B) (by rw [<- Tbf,e1,hvs];exact hp) (Za5 _)
  rw [List.append_nil] at hp2
  obtain ⟨V,hV⟩:∃ V,V=X++Zat (A++B):=⟨_,rfl⟩
  rw [List.append_nil,<- hV] at c
  (have F:=ai @q2 (ai @q3 (ai @w3 @tmz));have NN:Zag 15:=trivial;refine gGn ?_;clear F NN)
  refine gB ?_
  (have F:=@tmz;refine gCP [1000] [1000] (c) ?_;clear F)
  rintro r' pm ⟨rfl,rfl⟩
  simp only [setA,retA,zipM,Tae,Tag]
  (have F:=@tmz;refine gR ?_;clear F)
  (have F:=@w2;refine gG ?_;exact ⟨(k2,V),⟨by omega,by omega,by rw [hV];exact hF.blks (by rw [ZcQ,Tad];omega) (Zb9 _),by rw [hV];exact hp2⟩,gw,gw,by omega⟩)
 have q3:((m:Int) < (N:Int))=False:=eq_false om
 (have F:=ai @q2 (ai @q3 (ai @w2 @w3));refine gG ?_;exact ⟨(k2,vs),⟨by omega,by omega,by rw [hvs];exact hF.blks om (hY.up om),by rw [hvs];exact hp⟩,gw,gw,by omega⟩)
theorem Zsp (ts:List Tm) (hmx:ts.length<=4000000) (a:Option Addr) (cap:Nat) :
  ConP e0 179 [.one (.lit (.slice a ts.length cap)),.one (.fn 82 [])] [.buf (some (a,cap)) 46 4 (Zab ts)] (RBuf a cap (Zat ts)):=by
 refine gIP (ts:=[]) [1000] 3 Tryz.func179 ?_
 refine gB ?_
 (have F:=@tmz;refine gCP [1000] [1000] (Zrk ts rfl hmx a cap) ?_;clear F)
 rintro r pm ⟨rfl,rfl⟩
 simp only [setA,retA,zipM,Tae,Tag]
 (have F:=@tmz;refine gR ?_;clear F)
 (have F:=@tmz;refine gG ?_;clear F)
 first | exact (have F:=@e0P;gTPe (R:=RBuf a cap (Zat ts)) [1000] ⟨rfl,rfl⟩) | exact (have F:=@e0P;gTP (R:=RBuf a cap (Zat ts)) [1000] ⟨rfl,rfl⟩)
def zTm:Tm:=.mk 0 ByteArray.empty 0 []
theorem Zmz:encTm zTm=[.lit (.int .i64 0),.lit (.string ByteArray.empty),.lit (.int .i64 0),.sl []]:=by simp [zTm,encTm,Zab]
theorem ZdH:Zab []=[]:=by simp [Zab]
theorem ZjN {g:Sgn} {o:Opr} {op:Int}:∀ {xs:List Tm},(∀ a∈xs,TermOk g a)->(Zar o op xs).length<=60 * xs.length∧sizeTms (Zar o op xs)<=60 * xs.length∧depthTms (Zar o op xs)<=20
 | [],_=>⟨Tah _,Tah _,by simp [Zar,depthTms]⟩
 | a::xs,h=>by
  obtain ⟨i1,i2,i3⟩:=ZjN (o:=o) (op:=op) fun x hx=>h x (Tak _ hx)
  have ha:=h a Tar
  have e:Zar o op (a::xs)=Zbs o op a++Zar o op xs:=rfl
  have s1:=ha.size
  have s2:=ha.depth
  rw [ZaX] at s1
  rw [Zde] at s2
  have sl:=ZbN a.args
  have hf:(Zbs o op a).length<=60∧sizeTms (Zbs o op a)<=60∧depthTms (Zbs o op a)<=20:=by
   unfold Zbs
   split
   ·exact ⟨by omega,by omega,by omega⟩
   ·split
    ·exact ⟨by simp,by simp [sizeTms],by simp [depthTms]⟩
    ·refine ⟨by simp,?_,?_⟩
     ·have:=ha.size;simp only [sizeTms];omega
     ·have:=ha.depth;simp only [depthTms];omega
  have happ:∀ (l m:List Tm),sizeTms (l++m)=sizeTms l+sizeTms m∧depthTms (l++m)=max (depthTms l) (depthTms m):=fun l m=>by
   induction l with
   | nil=>simp [sizeTms,depthTms]
   | cons x l ih=>simp only [Tae,sizeTms,depthTms,ih.1,ih.2];omega
  rw [e,Tad,(happ _ _).1,(happ _ _).2,Taf]
  omega
section
variable {g:Sgn} {mc:C}
theorem Zwy (hg:SgnOk g) {op:Int} {o:Opr} (h0:0<=op) (ho:g.ops[op.toNat]?=some o) (hu:o.unit≠0):Con e0 178 [.one (.ptr (encX g mc)),.one (.lit (.int .i64 op))] [.agg (encTm (ZbL o))]:=by
 have hax:=hg.axs o (Tab ho)
 have hlo:=hax.lo
 have hhi:=hax.hi
 have hln:=hg.len
 have hw:IntKind.i64.wrap (o.unit - 1)=o.unit - 1:=ZaQ rfl om om
 have em:encTm (ZbL o)=[.lit (.int .i64 (o.unit - 1)),.lit (.string ByteArray.empty),.lit (.int .i64 0),.sl []]:=by simp only [ZbL,if_neg hu,encTm,Zab]
 refine gI (ts:=[.cell 4 46]) 19 Tryz.func178 ?_
 (have F:=ai @Zbd (ai @h0 (ai @ho (ai @Zaj (ai @hw (ai @em @tmz)))));refine gG ?_;exact gTd)
open Classical in
theorem ZA0 (hg:SgnOk g) {op:Int} {o:Opr} {d:Dcl} (h0:0<=op) (ho:g.ops[op.toNat]?=some o) (hd:o.decls[0]?=some d) (xs:List Tm) (ha:∀ a∈xs,TermOk g a) (hl:xs.length<=1000):Con e0 118 [.one (.ptr (encX g mc)),.one (.lit (.int .i64 op)),.one (.sl (Zab xs))] [.agg (encTm ((mkO g o d op xs).getD zTm)),.one (.lit (.bool (mkO g o d op xs).isSome))]:=by
 have hz:=Zmz
 have hfb:=ZjN (o:=o) (op:=op) ha
 refine gI (ts:=[.cell 6 46,.slot 7]) 85070612101775940130758990405381922759 Tryz.func118 ?_
 by_cases hAr:ArB o d xs.length
 ·rw [show mkO g o d op xs=none by unfold mkO;rw [if_pos hAr]]
  rcases hAr with ⟨h1,h2⟩ | ⟨h1,h2⟩
  ·have q1:((xs.length:Int) < 2)=True:=eq_true om
   (have F:=ai @Zbd (ai @h0 (ai @ho (ai @Zaj (ai @h1 (ai @q1 (ai @hz @tmz))))));refine gG ?_;exact gTd)
  ·have q1:((xs.length:Int)=(d.args.length:Int))=False:=eq_false om
   (have F:=ai @Zbd (ai @h0 (ai @ho (ai @Zaj (ai @h1 (ai @hd (ai @ZaR (ai @q1 (ai @hz @tmz))))))));refine gG ?_;exact gTd)
 (have F:=ai @tmz (ai @Zbd (ai @h0 (ai @ho @Zaj)));refine gG ?_;clear F)
 refine gM (ι:=Unit) [43] [] (fun u=>[(43,A.d (.one (.lit (.bool false))))]) (fun u=>[]) (fun u=>True) ?_ (fun u hu=>Exists.intro _ (ai (Wk.refl _) ?_))
 ·cases ha:o.assoc with
  | true =>
   have c1:((xs.length:Int) < 2)=False:=eq_false fun c=>hAr (.inl ⟨ha,by omega⟩)
   (have F:=ai @tmz (ai @Zaj (ai @ha @c1));refine gG ?_;exact ⟨(),trivial,gw,gw⟩)
  | false =>
   have c3:((xs.length:Int)=(d.args.length:Int))=True:=eq_true (by have:¬ (xs.length≠d.args.length):=fun c=>hAr (.inr ⟨ha,c⟩);omega)
   (have F:=ai @tmz (ai @Zaj (ai @ha (ai @hd (ai @ZaR @c3))));refine gG ?_;exact ⟨(),trivial,gw,gw⟩)
 have hnas:o.assoc=false->xs.length=d.args.length:=fun h=>Classical.byContradiction fun c=>hAr (.inr ⟨h,c⟩)
 have hfl0:Zar o op []=[]:=rfl
 (have F:=@tmz;refine gG ?_;clear F)
 (have F:=ai @hfl0 (ai @ZdH @tmz);refine gL (ι:=Nat) [7,9,10,11,48,49,60,62,75] [9] (fun i=>[(48,A.d (.one (.lit (.int .i64 i)))),(9,.buf 9)]) (fun i=>[(9,.buf none 46 4 (Zab (Zar o op (xs.take i))))]) (fun i=>i<=xs.length∧∀ (j:Nat) a,j < i->xs[j]?=some a->KArg g o d j a) (fun i=>xs.length - i) (0) (⟨Tai _,fun j a h=>absurd h om⟩) (fun i hi=>?_);clear F)
 obtain ⟨hi,hall⟩:=hi
 by_cases hlt:i < xs.length
 ·obtain ⟨a,hai⟩:∃ a,xs[i]?=some a:=⟨_,Taa hlt⟩
  have hT:=ha a (Tab hai)
  have q1:((i:Int) < (xs.length:Int))=True:=eq_true om
  have hw1:=Zap (k:=i) om
  obtain ⟨k,hk⟩:=Zhf hg ho hd hnas hlt
  have hst:=ZkA (o:=o) (op:=op) hai
  have hle:=Zhh o op xs (i+1)
  rw [hst,Tad] at hle
  (have F:=ai @q1 (ai @hai @tmz);have NN:Zag 8:=trivial;refine gGn ?_;clear F NN)
  refine gB ?_
  (have F:=@tmz;refine gC (Zig hg hT.form.node) ?_;clear F)
  (have F:=@tmz;refine gC (Zkv hg h0 ho hd hk) ?_;clear F)
  by_cases hkd:ZaS g a=((kd g.sorts k:Nat):Int)
  rotate_left
  ·have e:mkO g o d op xs=none:=by
    unfold mkO
    rw [if_neg hAr,if_neg fun h=>by
     obtain ⟨k',hk',he⟩:=h i a hai
     rw [hk] at hk'
     injection hk' with hk'
     subst hk'
     exact hkd he]
   rw [e]
   (have F:=ai @tmz @hkd;refine gR ?_;clear F)
   (have F:=ai @hz @tmz;refine gG ?_;exact gTd)
  have hnext:i+1<=xs.length∧∀ (j:Nat) a,j < i+1->xs[j]?=some a->KArg g o d j a:=⟨hlt,fun j a' hj ha'=>by
   by_cases e:j=i
   ·subst e
    rw [hai] at ha'
    injection ha' with ha'
    subst ha'
    exact ⟨k,hk,hkd⟩
   ·exact hall j a' om ha'⟩
  have l1:ZaT 4 (Zab (Zar o op (xs.take i)))=true:=Zdd _
  have l5:ZaT 4 (Zab a.args)=true:=Zdd _
  by_cases hN:o.assoc=true∧a.op=op
  ·have e:Zbs o op a=a.args:=by unfold Zbs;rw [if_pos hN]
   rw [e] at hst hle
   have l3:((Zar o op (xs.take i)).length+a.args.length<=maxApp)=True:=eq_true (by unfold maxApp;omega)
   have l4:Zab (Zar o op (xs.take i))++Zab a.args=Zab (Zar o op (xs.take (i+1))):=by rw [hst,Zcg]
   obtain ⟨hN1,hN2⟩:=hN
   have q2:(a.op=op)=True:=eq_true hN2
   (have F:=ai @tmz @hkd;refine gR ?_;clear F)
   (have F:=ai @tmz (ai @Zaj (ai @hN1 (ai @q2 (ai @l1 (ai @l5 (ai @l3 (ai @l4 @hw1)))))));refine gG ?_;exact ⟨i+1,hnext,gw,gw,by omega⟩)
  ·have cU:=ZlZ (mc:=mc) hg h0 ho a
   have hne:o.assoc=true->(a.op=op)=False:=fun h1=>eq_false fun h2=>hN ⟨h1,h2⟩
   (have F:=ai @tmz @hkd;refine gR ?_;clear F)
   (have F:=ai @tmz (ai @Zaj @hne);have NN:Zag 12:=trivial;refine gGn ?_;clear F NN)
   by_cases hU:o.unit≠0∧a.op=o.unit - 1
   ·have e:Zbs o op a=[]:=by unfold Zbs;rw [if_neg hN,if_pos hU]
    rw [e,List.append_nil] at hst
    rw [decide_eq_true hU] at cU
    rw [<- hst]
    rcases Bool.eq_false_or_eq_true o.assoc with hac | hac
    ·have hq:=hne hac
     (have F:=ai @tmz (ai @Zaj (ai @hac @hq));have NN:Zag 12:=trivial;refine gGn ?_;clear F NN)
     refine gB ?_
     (have F:=@tmz;refine gC (cU) ?_;clear F)
     (have F:=@tmz;refine gR ?_;clear F)
     (have F:=ai @tmz (ai @hac @hw1);refine gG ?_;exact ⟨i+1,hnext,gw,gw,by omega⟩)
    ·(have F:=ai @tmz (ai @Zaj @hac);have NN:Zag 12:=trivial;refine gGn ?_;clear F NN)
     refine gB ?_
     (have F:=@tmz;refine gC (cU) ?_;clear F)
     (have F:=@tmz;refine gR ?_;clear F)
     (have F:=ai @tmz (ai @hac @hw1);refine gG ?_;exact ⟨i+1,hnext,gw,gw,by omega⟩)
   ·have e:Zbs o op a=[a]:=by unfold Zbs;rw [if_neg hN,if_neg hU]
    rw [e] at hst hle
    rw [decide_eq_false hU] at cU
    have l3:((Zar o op (xs.take i)).length+1<=maxApp)=True:=eq_true (by simp only [Taf,Taj] at hle;unfold maxApp;omega)
    have l4:Zab (Zar o op (xs.take i))++[encTm a]=Zab (Zar o op (xs.take (i+1))):=by rw [hst,Zcg,Zgf]
    rcases Bool.eq_false_or_eq_true o.assoc with hac | hac
    ·have hq:=hne hac
     (have F:=ai @tmz (ai @Zaj (ai @hac @hq));have NN:Zag 12:=trivial;refine gGn ?_;clear F NN)
     refine gB ?_
     (have F:=@tmz;refine gC (cU) ?_;clear F)
     (have F:=@tmz;refine gR ?_;clear F)
     (have F:=ai @tmz (ai @hac (ai @l1 (ai @l3 (ai @l4 @hw1))));refine gG ?_;exact ⟨i+1,hnext,gw,gw,by omega⟩)
    ·(have F:=ai @tmz (ai @Zaj @hac);have NN:Zag 12:=trivial;refine gGn ?_;clear F NN)
     refine gB ?_
     (have F:=@tmz;refine gC (cU) ?_;clear F)
     (have F:=@tmz;refine gR ?_;clear F)
     (have F:=ai @tmz (ai @hac (ai @l1 (ai @l3 (ai @l4 @hw1))));refine gG ?_;exact ⟨i+1,hnext,gw,gw,by omega⟩)
 ·obtain rfl:i=xs.length:=by omega
  have q1:((xs.length:Int) < (xs.length:Int))=False:=eq_false om
  rw [Tao]
  have hm:mkO g o d op xs=mkL o op (Zar o op xs):=by
   unfold mkO
   rw [if_neg hAr,if_pos fun j a h=>hall j a (Tac.1 h).1 h]
  rw [hm]
  clear hm hall hnas
  generalize hL:Zar o op xs=L at hfb ⊢
  obtain ⟨b1,b2,b3⟩:=hfb
  have hax:=hg.axs o (Tab ho)
  have hlo:=hax.lo
  have cUn:=fun hu=>Zwy (mc:=mc) hg h0 ho hu
  by_cases hu:o.unit≠0∧L.length < 2
  ·have e:mkL o op L=some (L.headD (ZbL o)):=by unfold mkL;rw [if_pos hu]
   rw [e]
   obtain ⟨hu1,hu2⟩:=hu
   have q2:(o.unit=0)=False:=eq_false hu1
   have q3:((L.length:Int) < 2)=True:=eq_true om
   cases L with
   | nil =>
    have z1:(((0:Nat):Int) < 2)=True:=eq_true om
    have z2:(((0:Nat):Int)=1)=False:=eq_false om
    (have F:=ai @q1 (ai @Zaj (ai @q2 (ai @z1 (ai @z2 @tmz))));have NN:Zag 18:=trivial;refine gGn ?_;clear F NN)
    refine gB ?_
    (have F:=@tmz;refine gC (cUn hu1) ?_;clear F)
    (have F:=@tmz;refine gR ?_;clear F)
    (have F:=@tmz;refine gG ?_;exact gTd)
   | cons b bs =>
    have hb:bs=[]:=Tan (by simp only [Taf] at hu2;omega)
    subst hb
    have z1:(((0+1:Nat):Int) < 2)=True:=eq_true om
    have z2:(((0+1:Nat):Int)=1)=True:=eq_true om
    have z3:(((1:Nat):Int) < 2)=True:=eq_true om
    have z4:(((1:Nat):Int)=1)=True:=eq_true om
    have q5:([b]:List Tm)[0]?=some b:=rfl
    have z5:(0 < 0+1)=True:=eq_true om
    have z6:((0:Nat) < 1)=True:=eq_true om
    have z7:Int.toNat 0=0:=rfl
    have q6:(0 < [b].length)=True:=eq_true (by simp)
    (have F:=ai @q1 (ai @Zaj (ai @q2 (ai @q3 (ai @z1 (ai @z2 (ai @z3 (ai @z4 (ai @z5 (ai @z6 (ai @z7 (ai @q5 (ai @q6 @tmz))))))))))));refine gG ?_;exact gTd)
  ·have hml:mkL o op L=if BigT o op (srtO o L) then none else some (appT op (srtO o L)):=by unfold mkL;rw [if_neg hu]
   rw [hml]
   clear hml cUn
   (have F:=ai @q1 @tmz;refine gG ?_;clear F)
   refine gM (ι:=Unit) [93] [] (fun u=>[(93,A.d (.one (.lit (.bool false))))]) (fun u=>[]) (fun u=>True) ?_ (fun u hu=>Exists.intro _ (ai (Wk.refl _) ?_))
   ·by_cases hu0:o.unit=0
    ·have q2:(o.unit=0)=True:=eq_true hu0
     (have F:=ai @Zaj (ai @q2 @tmz);refine gG ?_;exact ⟨(),trivial,gw,gw⟩)
    ·have q2:(o.unit=0)=False:=eq_false hu0
     have q3:((L.length:Int) < 2)=False:=eq_false fun h=>hu ⟨hu0,by omega⟩
     (have F:=ai @Zaj (ai @q2 (ai @q3 @tmz));refine gG ?_;exact ⟨(),trivial,gw,gw⟩)
   (have F:=@tmz;have NN:Zag 19:=trivial;refine gGn ?_;clear F NN)
   refine pS 9 fun a cap=>?_
   refine gB ?_
   (have F:=ai @Zaj @tmz;refine gR ?_;clear F)
   refine gM (ι:=Unit) [] [9] (fun u=>[]) (fun u=>[(9,.buf (some (a,cap)) 46 4 (Zab (srtO o L)))]) (fun u=>True) ?_ (fun u hu=>Exists.intro _ (ai (Wk.refl _) ?_))
   ·cases hcm:o.comm with
    | true =>
     rw [show srtO o L=Zat L by unfold srtO;rw [if_pos hcm]]
     (have F:=ai @hcm @tmz;have NN:Zag 20:=trivial;refine gGn ?_;clear F NN)
     refine gB ?_
     (have F:=@tmz;refine gCP [9] [9] (Zsp L om a cap) ?_;clear F)
     rintro r pm ⟨rfl,rfl⟩
     simp only [setA,retA,zipM,Tae,Tag]
     (have F:=@tmz;refine gR ?_;clear F)
     exact (have F:=tmz;⟨(),trivial,gw,gw⟩)
    | false =>
     rw [show srtO o L=L by unfold srtO;rw [if_neg (by rw [hcm];simp)]]
     (have F:=ai @hcm @tmz;refine gG ?_;exact ⟨(),trivial,gw,gw⟩)
   have hSl:=ZkY o L
   have sz1:=ZgO (Zd8 o L)
   have dz1:=ZfV (Zd8 o L)
   generalize srtO o L=S at hSl sz1 dz1 ⊢
   rw [<- hSl,<- Zac S]
   refine pD 9 [9] [] ?_
   have em:encTm (appT op S)=[.lit (.int .i64 op),.lit (.string ByteArray.empty),.lit (.int .i64 0),.sl (Zab S)]:=by simp only [appT,encTm]
   have zs:sizeTm (appT op S)=1+sizeTms S:=by rw [ZaX];rfl
   have zd:depthTm (appT op S)=1+depthTms S:=by rw [Zde];rfl
   have c1:=Zji (t:=appT op S) (by unfold big;omega)
   have c2:=ZiH (t:=appT op S) (by unfold big;omega)
   rw [em] at c1 c2
   (have F:=@tmz;have NN:Zag 22:=trivial;refine gGn ?_;clear F NN)
   by_cases h7:o.assoc=true∧7 < S.length
   ·rw [if_pos (show BigT o op S from .inl h7)]
    obtain ⟨hac,h7⟩:=h7
    have q2:(7 < (S.length:Int))=True:=eq_true om
    (have F:=ai @Zaj (ai @hac (ai @q2 (ai @hz @tmz)));refine gG ?_;exact gTd)
   have hac:o.assoc=true->(7 < (S.length:Int))=False:=fun h=>eq_false fun q=>h7 ⟨h,by omega⟩
   rcases Bool.eq_false_or_eq_true o.assoc with ha' | ha'
   ·have q2:=hac ha'
    refine gB ?_
    (have F:=ai @Zaj (ai @ha' (ai @q2 @tmz));refine gC (c1) ?_;clear F)
    by_cases hs:60 < sizeTm (appT op S)
    ·have z1:((60:Int) < (sizeTm (appT op S):Int))=True:=eq_true om
     rw [if_pos (show BigT o op S from .inr (.inl hs))]
     (have F:=ai @z1 @tmz;refine gR ?_;clear F)
     (have F:=ai @hz @tmz;refine gG ?_;exact gTd)
    have z1:((60:Int) < (sizeTm (appT op S):Int))=False:=eq_false om
    (have F:=ai @z1 @tmz;refine gC (c2) ?_;clear F)
    by_cases hd2:20 < depthTm (appT op S)
    ·have z2:((20:Int) < (depthTm (appT op S):Int))=True:=eq_true om
     rw [if_pos (show BigT o op S from .inr (.inr hd2))]
     (have F:=ai @z2 @tmz;refine gR ?_;clear F)
     (have F:=ai @hz @tmz;refine gG ?_;exact gTd)
    have z2:((20:Int) < (depthTm (appT op S):Int))=False:=eq_false om
    rw [if_neg (show ¬ BigT o op S from fun h=>h.elim h7 (fun h=>h.elim hs hd2))]
    (have F:=ai @z2 @tmz;refine gR ?_;clear F)
    (have F:=ai @em @tmz;refine gG ?_;exact gTd)
   ·refine gB ?_
    (have F:=ai @Zaj (ai @ha' @tmz);refine gC (c1) ?_;clear F)
    by_cases hs:60 < sizeTm (appT op S)
    ·have z1:((60:Int) < (sizeTm (appT op S):Int))=True:=eq_true om
     rw [if_pos (show BigT o op S from .inr (.inl hs))]
     (have F:=ai @z1 @tmz;refine gR ?_;clear F)
     (have F:=ai @hz @tmz;refine gG ?_;exact gTd)
    have z1:((60:Int) < (sizeTm (appT op S):Int))=False:=eq_false om
    (have F:=ai @z1 @tmz;refine gC (c2) ?_;clear F)
    by_cases hd2:20 < depthTm (appT op S)
    ·have z2:((20:Int) < (depthTm (appT op S):Int))=True:=eq_true om
     rw [if_pos (show BigT o op S from .inr (.inr hd2))]
     (have F:=ai @z2 @tmz;refine gR ?_;clear F)
     (have F:=ai @hz @tmz;refine gG ?_;exact gTd)
    have z2:((20:Int) < (depthTm (appT op S):Int))=False:=eq_false om
    rw [if_neg (show ¬ BigT o op S from fun h=>h.elim h7 (fun h=>h.elim hs hd2))]
    (have F:=ai @z2 @tmz;refine gR ?_;clear F)
    (have F:=ai @em @tmz;refine gG ?_;exact gTd)
end
section
variable {w:World} {S:Nat->Prop}
theorem Zwz {rows:List (List C)} {ety sz cap l h:Nat} {a:Option Addr} (hb:ZaP w S ety sz rows (.slice a rows.length cap)) (hl:l<=h∧h<=rows.length):∃ (b:Option Addr) (c:Nat) (news:List Value),sliced a l h cap sz=.slice b ((rows.take h).drop l).length c∧Zaa w S ((rows.take h).drop l).flatten news∧∀ (P:Program) (w':World),(∀ p,w'.cell? p=w.cell? p)->(Builtin.firstCells sz ((rows.take h).drop l).length (sliced a l h cap sz)).run P w'=.ok news.toArray w':=by
 have hln:((rows.take h).drop l).length=h - l:=by rw [Taw,Tav];omega
 obtain ⟨h1,hrl,h3⟩:=hb
 by_cases he:h=l
 ·have e0:((rows.take h).drop l).length=0:=by omega
  have e1:(rows.take h).drop l=[]:=Tan e0
  refine ⟨_,_,[],by rw [hln];exact rfl,by rw [e1];simp [Zaa],fun P w' _=>?_⟩
  rw [e0]
  simp only [sliced,he,Nat.sub_self]
  split
  ·cases a <;> simp [Builtin.firstCells,loadCells,loadCellsFrom]
  ·cases a <;> simp [Builtin.firstCells,loadCells,loadCellsFrom]
 ·rcases h3 with ⟨h4,p,h5⟩ | ⟨g,cap',cur,h4,h5,h6,h7,h8,h9,h10,h11,h12⟩
  ·rw [h4] at hl;simp only [Taj] at hl;omega
  ·injection h4 with e1 e2 e3
   subst e1 e3
   have hlc:¬ cap=l:=by omega
   have hval:sliced (some ⟨g,0,none⟩) l h cap sz=.slice (some ⟨g,l * sz,none⟩) (h - l) (cap - l):=by
    simp only [sliced,hlc,if_false,Option.map_some,Addr.add_at,Nat.zero_add]
   have hr:=Zan.sub hrl h12 l h
   rw [Nat.zero_add] at hr
   obtain ⟨news,q5,q6⟩:=hr.flat.vals
   have hsl:ZaN sz ((rows.take h).drop l):=fun r hr=>hrl r (List.mem_of_mem_take (List.mem_of_mem_drop hr))
   rw [hval]
   refine ⟨_,_,news,by rw [hln],q5,fun P w' hw=>?_⟩
   exact run_firstCells_some w' sz _ _ _ _ news (by rw [q5.len,ZbV hsl]) (fun j u hj=>by rw [hw,Addr.add_at];exact q6 j u hj)
end
section
variable {e:Env} {K:St->Prop} {ds:List (Option Nat)} {os:List Oper} {s:List (Nat × A)} {m:List (Nat × Bk)}
theorem Zsq {σ:St} {o:Oper} {x y:Operand} {t ety ety' sz by' k j d l h cap:Nat} {a0:Option Addr} {rows rj:List (List C)} {oa:Option (Option Addr × Nat)} (ho:o.op=.call ⟨.builtin .append,#[x,y],#[t,t]⟩) (hdd:o.dst=some d) (hb:Za1 e.P t=some (ety,sz,by'))
  (hx:evA σ.s x=.buf k) (hm:gm σ.m k=some (.buf oa ety sz rows)) (hy:evA σ.s y=.d (.one (.lit (sliced a0 l h cap sz)))) (hj:gm σ.m j=some (.buf (some (a0,cap)) ety' sz rj)) (hlh:l<=h∧h<=rj.length) (hle:rows.length+rj.length<=maxApp)
  (hK:K ⟨(d,.buf d)::Zau d (Zau k σ.s),(d,.buf none ety sz (rows++(rj.take h).drop l))::remM d (remM k σ.m)⟩):ZbC e o σ K:=by
 intro he U w0 S0 nt a w Q hd ⟨S,L,h0⟩
 have hx':a.eval x=L.v k:=by have:=h0.eval x;rw [hx] at this;exact this
 have hy':=h0.eval y
 rw [hy] at hy'
 have hy':=Zbk hy'
 have ho':ZaP w S ety sz rows (L.v k):=(h0.cls.own k _ hm).2
 obtain ⟨hpl,hbj⟩:=h0.cls.own j _ hj
 have hvj:L.v j=.slice a0 rj.length cap:=hpl (a0,cap) rfl
 rw [hvj] at hbj
 obtain ⟨yb,yc,news,y1,y2,y3⟩:=Zwz hbj hlh
 have hln:((rj.take h).drop l).length=h - l:=by rw [Taw,Tav];omega
 have hsl:ZaN sz ((rj.take h).drop l):=fun r hr=>hbj.2.1 r (List.mem_of_mem_take (List.mem_of_mem_drop hr))
 obtain ⟨v',w',hrun,hbuf,τ,hk,hτ,hblk⟩:=ZfZ (ty:=o.type) (ts:=#[t,t]) (v:=L.v k) (u:=sliced a0 l h cap sz) he h0.cls rfl rfl hb (.inl ho') ho'.2.1 hsl om ⟨yb,yc,news,y1,y2,y3⟩
 unfold Oper.wp
 have hr2:(execOp a.eval o).run e.P w=.ok (.value v') w':=by
  simp [execOp,ho,resolve,invoke,builtin,hx',hy',hrun,Result.andThen]
 rw [hr2,Oper.upon_value,hdd]
 refine ⟨_,hK,h0.born he (hd d hdd) (τ:=τ) (b':=0) (v':=v') (s1:=Zau k σ.s) (m1:=remM k σ.m) (fun _ h=>h) (fun _ h=>.inl h) (fun t=>?_) (fun k' x hx=>?_) (fun g hg=>?_) (fun k' x g hkd hx hg hb'=>?_) hk ?_ (fun g hg=>?_) (by simp [ARel])⟩
 ·rcases Zd0 k t σ.s with ⟨h1,_⟩ | h1
  ·exact .inl h1
  ·exact .inr h1
 ·rw [Za7] at hx
  split at hx
  ·cases hx
  ·exact hx
 ·have hg':=(hτ g hg).1
  exact ⟨(Own1.lt (k:=k) (L:=L) (bk:=.buf none ety sz rows) ⟨by simp,ho'⟩ hg').2,h0.cls.notE hm hg',h0.cls.mine k _ g hm hg'⟩
 ·have hg':=(hτ g hg).1
  rw [Za7] at hx
  split at hx
  ·cases hx
  ·rename_i hne'
   exact hne' (h0.cls.inj k' k x _ g hx hm hb' hg')
 ·simp only [Own1,if_true];exact ⟨by simp,hbuf⟩
 ·simp only [ZaB,if_true] at hg
  exact hblk g hg
theorem gAps {d t ty ety ety' by' sz l h cap:Nat} {p:String} {ed:Array Edge} {x y:Operand} {rows rj:List (List C)} {oa:Option (Option Addr × Nat)} {a0:Option Addr} {s2:List (Nat × A)} {m2:List (Nat × Bk)} (k j:Nat) (hlh:l<=h∧h<=rj.length) (hle:rows.length+rj.length<=maxApp) (hK:Runs e ds 0 os ⟨(d,.buf d)::s2,(d,.buf none ety sz (rows++(rj.take h).drop l))::m2⟩ K)
  (hb:Za1 e.P t=some (ety,sz,by'):=by exact sfx) (hx:evA s x=.buf k:=by exact sfx) (hm:gm m k=some (.buf oa ety sz rows):=by exact snx) (hy:evA s y=.d (.one (.lit (sliced a0 l h cap sz))):=by exact snx) (hj:gm m j=some (.buf (some (a0,cap)) ety' sz rj):=by exact snx)
  (hs:Zau d (Zau k s)=s2:=by exact snv) (hr:remM d (remM k m)=m2:=by exact snv):Runs e ds 0 (⟨some d,.call ⟨.builtin .append,#[x,y],#[t,t]⟩,ty,p,ed,none⟩::os) ⟨s,m⟩ K:=by
 subst hs hr
 simp only [Runs] at hK ⊢
 exact ZcM rfl (Zsq rfl rfl hb hx hm hy hj hlh hle hK)
end
theorem ZkJ (ts:List Tm) {i:Nat} {t:Tm} (h:ts[i]?=some t):Zab (ts.take (i+1))=Zab (ts.take i)++[encTm t]:=by
 simp only [Zbi,List.take_add_one,h,Option.toList,Tbw,Tbv,List.map_nil]
def tmsB (ts:List Tm):Prop:=ts.length+Zaf (Zab ts)<=1048576
theorem ZGL (pm:List Bk):ZlL pm pm:=fun w S h1 h2=>⟨h1,h2,fun _ h=>h⟩
theorem ZCw {ts:List Tm} {i:Nat} (h:i<=ts.length):(Zab (ts.take i)).length=i:=by rw [Zac,Tav];omega
theorem ZoQ (t:Tm) (hB:tmsB t.args) (h:∀ a∈t.args,Con e0 66 [.agg (encTm a)] [.agg (encTm a)]):Con e0 66 [.agg (encTm t)] [.agg (encTm t)]:=by
 obtain ⟨op,nm,so,args⟩:=t
 have hc:encTm (.mk op nm so args)=[.lit (.int .i64 op),.lit (.string nm),.lit (.int .i64 so),.sl (Zab args)]:=by simp only [encTm]
 simp only [Tm.args] at h hB
 have hl:args.length<=1048576:=Tbe (Nat.le_add_right _ _) hB
 refine gI (ts:=[.cell 2 46]) 65567 Tryz.func66 ?_
 (have F:=@hc;have NN:Zag 1:=trivial;refine gGn ?_;clear F NN)
 refine gB ?_
 refine gP 6 ?_
 refine gX ?_
 (have F:=@hc;refine gR ?_;clear F)
 refine pN 1000 46 4 ?_
 (have F:=@hc;refine gG ?_;clear F)
 (have F:=ai @hc @ZdH;refine gL (ι:=Nat × Option Addr × Nat) [4,16] [3,1000] (fun x=>[(4,.d (.one (.lit (.int .i64 (x.1:Int)))))]) (fun x=>[(1000,.buf (some (x.2.1,x.2.2)) 46 4 (Zab (args.take x.1))),(3,.var none [.lit (.int .i64 op),.lit (.string nm),.lit (.int .i64 so),.lit (.slice x.2.1 x.1 x.2.2)])]) (fun x=>x.1<=args.length) (fun x=>args.length - x.1) ((0,none,0)) (Tai _) (fun x hx=>?_);clear F)
 obtain ⟨i,p,cap⟩:=x
 simp only at hx
 by_cases hlt:i < args.length
 ·have hg:args[i]?=some args[i]:=Taa hlt
  have hcon:=h args[i] (List.getElem_mem hlt)
  generalize args[i]=a at hg hcon
  have q1:((i:Int) < (args.length:Int))=True:=eq_true om
  have q4:IntKind.i64.wrap ((i:Int)+1)=(i:Int)+1:=IntWalk.i64_in _ om
  have q2:i+1<=maxApp:=by unfold maxApp;omega
  have q3:=ZCw hx
  have q5:(args.take i).length=i:=by rw [Tav];omega
  (have F:=ai @hc (ai @Zac (ai @ZbH (ai @q1 (ai @hg @tmz))));refine gG ?_;clear F)
  refine gB ?_
  (have F:=ai @tmz (ai @ZbH @hg);refine gC (hcon) ?_;clear F)
  (have F:=ai @tmz (ai @q2 (ai @q3 @q5));refine gP 3 ?_;clear F)
  refine gS 28 fun p2 cap2=>?_
  (have F:=ai @tmz (ai @q3 @q5);refine gR ?_;clear F)
  refine pE [28] [1000] (ZGL _) ?_
  rw [<- ZkJ args hg]
  (have F:=ai @hc @q4;refine gG ?_;exact ⟨(i+1,p2,cap2),hlt,gw,gw,by omega⟩)
 ·obtain rfl:i=args.length:=by omega
  have q1:((args.length:Int) < (args.length:Int))=False:=eq_false om
  rw [Tao]
  (have F:=ai @hc (ai @Zac @q1);refine gG ?_;clear F)
  refine pD 1000 [] [2] ?_ (hs:=by exact snv)
  (have F:=ai @hc @Zac;refine gG ?_;exact gTd)
theorem ZA1 (n:Nat):(∀ t:Tm,ZbJ (encTm t) < n->Zae (encTm t)<=1048576->Con e0 66 [.agg (encTm t)] [.agg (encTm t)]):=by
 induction n with
 | zero=>exact fun _ h=>by omega
 | succ n ih =>
  intro t hn hb
  obtain ⟨op,nm,so,args⟩:=t
  simp only [encTm,ZbJ,ZeQ,Zae,Zbr] at hn hb
  refine ZoQ _ (by unfold tmsB;simp only [Tm.args];have:=Zac args;omega) fun a ha=>?_
  simp only [Tm.args] at ha
  obtain ⟨i,hi⟩:=Tbk ha
  have hi':(Zab args)[i]?=some (encTm a):=by rw [ZbH,hi];rfl
  have h1:=Zdw hi'
  have h2:=Zco hi'
  exact ih a om om
theorem ZmA (t:Tm) (hb:Zae (encTm t)<=1048576):Con e0 66 [.agg (encTm t)] [.agg (encTm t)]:=ZA1 _ t (Tam _) hb
theorem ZwA {ts:List Tm} {i:Nat} {t:Tm} (h:ts[i]?=some t):Zab (ts.take i)++[encTm t]=Zab (ts.take (i+1)):=(ZkJ ts h).symm
theorem ZjO (ts:List Tm) (hB:tmsB ts):Con e0 185 [.one (.sl (Zab ts))] [.one (.sl (Zab ts))]:=by
 unfold tmsB at hB
 refine gI (ts:=[.slot 2]) 541 Tryz.func185 ?_
 (have F:=@tmz;refine gG ?_;clear F)
 (have F:=@ZdH;refine gL (ι:=Nat) [3,4,9] [3] (fun i=>[(4,A.d (.one (.lit (.int .i64 i)))),(3,.buf 3)]) (fun i=>[(3,.buf none 46 4 (Zab (ts.take i)))]) (fun i=>i<=ts.length) (fun i=>ts.length - i) (0) (Tai _) (fun i hi=>?_);clear F)
 by_cases hlt:i < ts.length
 rotate_left
 ·obtain rfl:i=ts.length:=by omega
  have q2:((ts.length:Int) < (ts.length:Int))=False:=eq_false om
  rw [Tao]
  (have F:=ai @q2 @tmz;refine gG ?_;clear F)
  (have F:=@tmz;refine gG ?_;exact gTz [2])
 obtain ⟨t,ht⟩:∃ b,ts[i]?=some b:=⟨_,Taa hlt⟩
 have q2:((i:Int) < (ts.length:Int))=True:=eq_true om
 have q4:=Zap (k:=i) om
 have hi':(Zab ts)[i]?=some (encTm t):=by rw [ZbH,ht];rfl
 have hbt:=Zco hi'
 have cc:=ZmA t om
 have l1:ZaT 4 (Zab (ts.take i))=true:=Zdd _
 have l2:((Zab (ts.take i)).length+1<=maxApp)=True:=eq_true (by rw [Zac,Tav];unfold maxApp;omega)
 have l3:((ts.take i).length+1<=maxApp)=True:=eq_true (by rw [Tav];unfold maxApp;omega)
 have l4:min i ts.length+1<=maxApp:=by unfold maxApp;omega
 have e:=ZwA ht
 (have F:=ai @q2 @tmz;refine gG ?_;clear F)
 refine gB ?_
 (have F:=ai @q2 (ai @ht @tmz);refine gC (cc) ?_;clear F)
 (have F:=ai @l1 (ai @l2 (ai @l3 @tmz));refine gR ?_;clear F)
 (have F:=ai @q4 @e;refine gG ?_;exact ⟨i+1,hlt,gw,gw,by omega⟩)
theorem ZCx:Zab (Zat [])=[]:=by simp [Zat,Zab]
theorem ZwB {l:List Tm} (h:Zaz l):Zaz (Zat l):=by
 have:∀ {ts:List Tm},Zaz ts ↔ ∀ t∈ts,okTm t:=fun {ts}=>by
  induction ts with
  | nil=>simp [Zaz]
  | cons t ts ih=>simp [Zaz,ih]
 exact this.2 fun a ha=>this.1 h a ((Za5 l).mem_iff.1 ha)
theorem Zsr {l:List Tm} (h:Zaz l) (k:Nat):Zaz (l.take k):=by
 have:∀ {ts:List Tm},Zaz ts ↔ ∀ t∈ts,okTm t:=fun {ts}=>by
  induction ts with
  | nil=>simp [Zaz]
  | cons t ts ih=>simp [Zaz,ih]
 exact this.2 fun a ha=>this.1 h a (List.mem_of_mem_take ha)
theorem Zrl (ts:List Tm) (hok:Zaz ts) (hB:tmsB ts):Con e0 184 [.one (.sl (Zab ts))] [.one (.sl (Zab (Zat ts)))]:=by
 have hB0:=hB
 unfold tmsB at hB
 have hcc:=ZjO (Zat ts) (by
  have h1:=(Za5 ts).length_eq
  have h2:Zaf (Zab (Zat ts))=Zaf (Zab ts):=by
   have:∀ {l m:List Tm},l.Perm m->Zaf (Zab l)=Zaf (Zab m):=fun h=>by
    induction h with
    | nil=>rfl
    | cons x h ih=>simp only [Zab,Zaf,ih]
    | swap x y l=>simp only [Zab,Zaf];omega
    | trans h1 h2 a b=>rw [a,b]
   exact this (Za5 ts)
  unfold tmsB;omega)
 refine gI (ts:=[.slot 2]) 1073743997 Tryz.func184 ?_
 (have F:=@tmz;refine gG ?_;clear F)
 (have F:=ai @ZCx @tmz;refine gL (ι:=Nat) [3,4,5,6,11,30] [3] (fun i=>[(4,A.d (.one (.lit (.int .i64 i)))),(3,.buf 3)]) (fun i=>[(3,.buf none 46 4 (Zab (Zat (ts.take i))))]) (fun i=>i<=ts.length) (fun i=>ts.length - i) (0) (Tai _) (fun i hi=>?_);clear F)
 by_cases hlt:i < ts.length
 rotate_left
 ·obtain rfl:i=ts.length:=by omega
  have q2:((ts.length:Int) < (ts.length:Int))=False:=eq_false om
  rw [Tao]
  (have F:=ai @q2 @tmz;have NN:Zag 10:=trivial;refine gGn ?_;clear F NN)
  refine pS 3 fun a cap=>?_
  refine pD 3 [3] [] ?_
  refine gB ?_
  (have F:=@tmz;refine gC (hcc) ?_;clear F)
  (have F:=@tmz;refine gR ?_;clear F)
  (have F:=@tmz;refine gG ?_;exact gTd)
 obtain ⟨x,hx⟩:∃ b,ts[i]?=some b:=⟨_,Taa hlt⟩
 have q2:((i:Int) < (ts.length:Int))=True:=eq_true om
 have q4:=Zap (k:=i) om
 have hxo:=hok.mem (Tab hx)
 obtain ⟨M,hM⟩:∃ M,M=Zat (ts.take i):=⟨_,rfl⟩
 have hMl:M.length=i:=by rw [hM,ZcQ,Tav];omega
 have hMo:Zaz M:=by rw [hM];exact ZwB (Zsr hok i)
 have hMr:ts.take (i+1)=ts.take i++[x]:=Zch hx
 rw [<- hM]
 (have F:=ai @q2 (ai @hMl @tmz);have NN:Zag 5:=trivial;refine gGn ?_;clear F NN)
 refine gB ?_
 (have F:=ai @hMl @tmz;refine gR ?_;clear F)
 refine Zd3 ?_
 refine gM (ι:=Nat) [5] [] (fun k=>[(5,A.d (.one (.lit (.int .i64 k))))]) (fun k=>[]) (fun k=>k<=i∧(∀ y∈M.drop k,Zak x y<=0)∧(0 < k->∃ y,M[k - 1]?=some y∧Zak y x<=0)) ?_ (fun k hk=>Exists.intro _ (ai (Wk.refl _) ?_))
 ·(have F:=@tmz;refine gG ?_;clear F)
  (have F:=@tmz;refine gL (ι:=Nat) [5,30] [] (fun k=>[(5,A.d (.one (.lit (.int .i64 k))))]) (fun k=>[]) (fun k=>k<=i∧∀ y∈M.drop k,Zak x y<=0) (fun k=>k) (i) (⟨Tah _,by rw [<- hMl,List.drop_length];intro y hy;cases hy⟩) (fun k hk=>?_);clear F)
  obtain ⟨hk,h2⟩:=hk
  by_cases hk0:k=0
  ·have q0:(0 < (k:Int))=False:=eq_false om
   (have F:=ai @q0 @tmz;refine gG ?_;exact ⟨k,⟨hk,h2,fun h=>by omega⟩,gw,gw⟩)
  obtain ⟨j,rfl⟩:∃ j,k=j+1:=⟨k - 1,by omega⟩
  obtain ⟨y,hy⟩:∃ y,M[j]?=some y:=⟨_,Taa om⟩
  have q5:(0 < ((j+1:Nat):Int))=True:=eq_true om
  have wj:IntKind.i64.wrap (((j+1:Nat):Int) - 1)=(j:Int):=ZaQ om om om
  have lj:j < i:=by omega
  have hdr:M.drop j=y::M.drop (j+1):=Zdu hy
  generalize hk1:j+1=k1 at q5 wj h2 hk hdr ⊢
  (have F:=@tmz;refine gG ?_;clear F)
  refine gB ?_
  (have F:=ai @q5 (ai @wj (ai @hy (ai @hx (ai @hMl (ai @lj (ai @Zas @tmz))))));refine gC (Zfx (hMo.mem (Tab hy)) hxo) ?_;clear F)
  by_cases hc:0 < Zak y x
  ·have z:=eq_true hc
   (have F:=@z;refine gR ?_;clear F)
   have h2':∀ u∈M.drop j,Zak x u<=0:=fun u hu=>by
    rw [hdr] at hu
    rcases Tbg.1 hu with rfl | hu
    ·rw [Zck u x];omega
    ·exact h2 u hu
   (have F:=ai @z @wj;refine gG ?_;exact ⟨j,⟨by omega,h2'⟩,gw,gw,by omega⟩)
  have z:=eq_false hc
  (have F:=@z;refine gR ?_;clear F)
  (have F:=ai @z @tmz;refine gG ?_;exact ⟨k1,⟨hk,h2,fun _=>⟨y,by rw [<- hk1,Nat.add_sub_cancel];exact hy,by omega⟩⟩,gw,gw⟩)
 obtain ⟨hk,h2,h1⟩:=hk
 have hMs:M.take k++x::M.drop k=Zat (ts.take (i+1)):=by
  rw [hMr]
  refine Zqj (by rw [Tbm,hM]) h2 fun y hy=>?_
  have hk0:0 < k:=by
   rcases Nat.eq_zero_or_pos k with h | h
   ·subst h;simp at hy
   ·exact h
  obtain ⟨z,hz,hc⟩:=h1 hk0
  rw [List.getLast?_eq_getElem?,Tav,hMl,Nat.min_eq_left hk,List.getElem?_take,if_pos om,hz] at hy
  injection hy with hy
  subst hy
  exact hc
 have hdl:((Zab M).take (Zab M).length).drop k=Zab (M.drop k):=by rw [Tao,Zev]
 (have F:=@tmz;have NN:Zag 8:=trivial;refine gGn ?_;clear F NN)
 refine pS 3 fun a cap=>?_
 refine gB ?_
 (have F:=@tmz;refine gP 3 ?_;clear F)
 have hkl:k<=(Zab M).length:=by rw [Zac];omega
 refine (have F:=ai hMl tmz;gSub 3 k (Zab M).length ⟨hkl,Tah _⟩ ?_)
 refine gO 33 46 4 ?_
 refine (have F:=tmz;gAps (rows:=[]) (rj:=Zab M) 33 3 ⟨hkl,Tah _⟩ (by rw [Zac];simp only [Taj,maxApp];omega) ?_)
 rw [hdl,Tag]
 (have F:=@tmz;refine gR ?_;clear F)
 (have F:=@tmz;have NN:Zag 9:=trivial;refine gGn ?_;clear F NN)
 have hcl:(Zab M).take k=Zab (M.take k):=ZdN _ _
 have htl:(M.take k).length=k:=by rw [Tav];omega
 refine gF0 ?_
 refine gFm 0 ?_
 refine gFm 1 ?_
 refine (have F:=ai hMl tmz;gFs 2 3 0 k ⟨Tai _,hkl⟩ ?_)
 rw [ZkD]
 refine gFm 3 ?_
 refine gFm 4 ?_
 refine gFm 9 ?_
 refine gFT ?_
 have l1:(k+1<=maxApp)=True:=eq_true (by unfold maxApp;omega)
 have l2:((M.take k).length+1+(M.drop k).length<=maxApp)=True:=eq_true (by rw [htl,Taw];unfold maxApp;omega)
 have e1:Zab (M.take k)++[encTm x]=Zab (M.take k++[x]):=by rw [Zcg];rfl
 have e2:Zab (M.take k++[x])++Zab (M.drop k)=Zab (Zat (ts.take (i+1))):=by rw [<- Zcg,<- hMs];simp
 refine gO1 5 ?_
 refine (have F:=ai q2 (ai hx (ai Zas tmz));gO3 ?_)
 refine gO1 6 ?_
 refine (have F:=ai hx tmz;gO3 ?_)
 refine gO1 7 ?_
 refine (have F:=tmz;gO3 ?_)
 refine gO1 8 ?_
 refine gE [3] [3] (ZAx k hkl) ?_
 rw [hcl]
 refine (have F:=ai htl (ai l1 (ai e1 tmz));gO3 ?_)
 refine gO1 10 ?_
 refine (have F:=ai l2 (ai e2 tmz);gO3 ?_)
 refine gO1 11 ?_
 refine (have F:=tmz;gO3 ?_)
 refine (have F:=tmz;gT0 ?_)
 refine Exists.intro _ (ai (Wk.refl _) ?_)
 (have F:=@q4;refine gG ?_;exact ⟨i+1,hlt,gw,gw,by omega⟩)
theorem ZA2 {ts:List Tm}:Zaz ts ↔ ∀ t∈ts,okTm t:=by
 induction ts with
 | nil=>simp [Zaz]
 | cons t ts ih=>simp [Zaz,ih]
theorem ZGM (op so:Int) (nm:ByteArray) (args:List Tm):Zae (encTm (.mk op nm so args))=nm.size+(args.length+Zaf (Zab args)):=by
 simp only [encTm,Zae,Zbr,Zac];omega
section
variable {g:Sgn}
mutual
theorem Zop:∀ {t:Tm},ZaO g t->Zae (encTm t)+1<=13 * sizeTm t
 | .mk op nm so args,h=>by
  have h1:=Ziz (Zhv.2 (Zbh.1 h).2.1)
  simp only [Tm.args] at h1
  rw [ZGM]
  simp only [sizeTm]
  rcases h.node with hv | ⟨o,d,hA⟩
  ·have h2:Zbm nm=true:=hv.2.1
   have h3:args=[]:=hv.2.2.2.2
   subst h3
   have h4:¬ 12 < nm.size:=fun h=>by rw [Zcs (.inr (.inl h))] at h2;cases h2
   simp only [Zab,Zaf,sizeTms,Taj]
   omega
  ·have h2:nm=ByteArray.empty:=hA.nm
   subst h2
   have:ByteArray.empty.size=0:=rfl
   omega
theorem Ziz:∀ {ts:List Tm},ZcD g ts->Zaf (Zab ts)+ts.length<=13 * sizeTms ts
 | [],_=>by simp [Zab,Zaf]
 | t::ts,h=>by
  simp only [ZcD] at h
  have h1:=Zop h.1
  have h2:=Ziz h.2
  simp only [Zab,Zaf,sizeTms,Taf]
  omega
end
end
def addL (i:Nat):Nat->List Oper->List Oper
 | _,[]=>[]
 | 0,o::l=>{ o with after:=o.after.push ⟨i,.data⟩ }::l
 | k+1,o::l=>o::addL i k l
theorem ZgY (i:Nat):∀ (k:Nat) (l:List Oper) (j:Nat),(addL i k l)[j]?=if j=k then l[j]?.map fun o=>{ o with after:=o.after.push ⟨i,.data⟩ } else l[j]?
 | k,[],j=>by simp [addL]
 | 0,o::l,0=>by simp [addL]
 | 0,o::l,j+1=>by simp [addL]
 | k+1,o::l,0=>by simp [addL]
 | k+1,o::l,j+1=>by simp [addL,ZgY i k l j]
theorem Zlf (i:Nat):∀ (k:Nat) (l:List Oper),(addL i k l).length=l.length
 | k,[]=>by simp [addL]
 | 0,o::l=>by simp [addL]
 | k+1,o::l=>by simp [addL,Zlf i k l]
theorem Zlg (i:Nat):∀ (k:Nat) (l:List Oper),(addL i k l).map (·.dst)=l.map (·.dst)
 | k,[]=>by simp [addL]
 | 0,o::l=>by simp [addL]
 | k+1,o::l=>by simp [addL,Zlg i k l]
section
variable {P:Program} {l:List Oper} {i k:Nat} {oi ok:Oper}
theorem Zhn {Q:Exit->Act->World->Prop} {j:Nat} {K:Act->World->Prop} {a:Act} {w:World}:wpOp P (addL i k l).toArray Q j K a w ↔ wpOp P l.toArray Q j K a w:=by
 have hb:∀ g:Nat,((addL i k l)[g]?).bind (fun x=>x.dst)=(l[g]?).bind fun x=>x.dst:=fun g=>by
  rw [ZgY]
  by_cases h:g=k
  ·rw [if_pos h];cases l[g]? <;> rfl
  ·rw [if_neg h]
 have hy:yielded (addL i k l).toArray a.tmps=yielded l.toArray a.tmps:=by
  funext g
  unfold yielded
  simp only [List.getElem?_toArray,hb]
 unfold wpOp
 rw [hy]
 simp only [List.getElem?_toArray,ZgY]
 by_cases hjk:j=k
 ·rw [if_pos hjk]
  cases hj:l[j]? with
  | none=>exact Iff.rfl
  | some o=>exact Iff.rfl
 ·rw [if_neg hjk]
def ZA3 (ops:Array Oper) (i:Nat):Bool:=(List.range ops.size).all fun j=>j==i || match ops[i]?,ops[j]? with
 | some oi,some oj=>oi.after.any (fun e=>Region.binds .any e && e.on==j) || (oj.after.any (fun e=>Region.binds .any e && e.on==i) || oi.apart ops oj)
 | _,_=>true
def Zo9 (ops:Array Oper) (i k:Nat):Bool:=Zio ops && ZA3 ops i && i != k && match ops[i]?,ops[k]? with
 | some oi,some ok=>(match oi with
  | ⟨some _,.extract _ _,_,_,_,none⟩=>true
  | _=>false) && oi.after.all fun e=>!Region.binds .any e || ok.after.any fun e'=>Region.binds .any e' && e'.on==e.on
 | _,_=>false
theorem ZwC {Q:Exit->Act->World->Prop} (hQ:∀ ex a w,Q ex a w->ex=.normal) (hB:Zo9 l.toArray i k=true) :
  ∀ (f:Nat) (listed:Array Bool) (a:Act) (w:World),listed.size=l.length->wpAny P .any (addL i k l).toArray Q f listed a w->wpAny P .any l.toArray Q f listed a w:=by
 simp only [Zo9,Taq,bne_iff_ne,ne_eq] at hB
 obtain ⟨⟨⟨hsel,hap⟩,hik⟩,h4⟩:=hB
 split at h4
 rotate_left
 ·cases h4
 rename_i oi ok hoi hok
 simp only [Taq] at h4
 obtain ⟨h5,h6⟩:=h4
 have hpre:∀ e∈oi.after,Region.binds .any e=true->∃ e'∈ok.after,Region.binds .any e'=true∧e'.on=e.on:=fun e he hb=>by
  have:=Array.all_eq_true_iff_forall_mem.1 h6 e he
  simp only [hb,Bool.not_true,Bool.false_or,Array.any_eq_true',Taq,beq_iff_eq] at this
  obtain ⟨e',q1,q2,q3⟩:=this
  exact ⟨e',q1,q2,q3⟩
 have hrdy:∀ (listed:Array Bool) (j:Nat),j∈Region.ready .any (addL i k l).toArray listed ↔ j∈Region.ready .any l.toArray listed∧(j=k->listed.getD i false=true):=fun listed j=>by
  rw [mem_ready,mem_ready]
  simp only [List.getElem?_toArray,ZgY]
  by_cases hj:j=k
  ·subst hj
   simp only [if_true,true_implies]
   constructor
   ·rintro ⟨q1,o,q2,q3⟩
    cases hl:l[j]? with
    | none=>rw [hl] at q2;cases q2
    | some o' =>
     rw [hl] at q2
     injection q2 with q2
     subst q2
     exact ⟨⟨q1,o',rfl,fun e he hb=>q3 e (by simp [he]) hb⟩,q3 ⟨i,.data⟩ (by simp) rfl⟩
   ·rintro ⟨⟨q1,o,q2,q3⟩,q4⟩
    refine ⟨q1,_,by rw [q2];rfl,fun e he hb=>?_⟩
    rcases Array.mem_push.1 he with he | he
    ·exact q3 e he hb
    ·subst he;exact q4
  ·simp [hj]
 have hun:∀ (listed:Array Bool),listed.size=l.length->k∈Region.ready .any l.toArray listed->i∈Region.ready .any l.toArray listed∨listed.getD i false=true:=fun listed hs hk=>by
  by_cases h:listed.getD i false=true
  ·exact .inr h
  ·left
   rw [mem_ready] at hk ⊢
   obtain ⟨_,o,q2,q3⟩:=hk
   have:o=ok:=by rw [hok] at q2;injection q2 with q2;exact q2.symm
   subst this
   have hlt:i < l.length:=by have:=(Tbl.1 hoi).1;simpa using this
   refine ⟨?_,oi,hoi,fun e he hb=>?_⟩
   ·have hl:i < listed.size:=by omega
    rw [ZbY hl]
    simpa using h
   ·obtain ⟨e',r1,r2,r3⟩:=hpre e he hb
    rw [<- r3]
    exact q3 e' r1 r2
 have hap':=hap
 intro f
 induction f with
 | zero =>
  intro listed a w hs h
  refine ⟨?_,h.2⟩
  by_cases hk:k∈Region.ready .any l.toArray listed
  ·rcases hun listed hs hk with h1 | h1
   ·have:=(hrdy listed i).2 ⟨h1,fun e=>absurd e hik⟩
    rw [h.1] at this
    cases this
   ·have:=(hrdy listed k).2 ⟨hk,fun _=>h1⟩
    rw [h.1] at this
    cases this
  ·refine List.eq_nil_iff_forall_not_mem.2 fun j hj=>?_
   have:=(hrdy listed j).2 ⟨hj,fun e=>absurd (e ▸ hj) hk⟩
   rw [h.1] at this
   cases this
 | succ f ih =>
  intro listed a w hs h
  by_cases hi:i∈Region.ready .any l.toArray listed
  ·have h1:=h.2 i ((hrdy listed i).2 ⟨hi,fun e=>absurd e hik⟩)
   rw [Zhn] at h1
   have h1':∃ v,Yields P l.toArray oi v a∧wpAny P .any (addL i k l).toArray Q f (listed.setIfInBounds i true) (a.put oi.dst v) w:=by
    unfold wpOp at h1
    simp only [hoi] at h1
    split at h5
    rotate_left
    ·cases h5
    rename_i d x n ty pos af
    have hw:Region.wanted ⟨some d,.extract x n,ty,pos,af,none⟩ (yielded l.toArray a.tmps)=true:=by simp [Region.wanted]
    rw [if_pos hw] at h1
    rcases h1 with h1 | ⟨_,b,w',h1⟩
    rotate_left
    ·have:=hQ _ _ _ h1;cases this
    unfold Oper.wp at h1
    cases hx:a.eval x with
    | tuple vs =>
     cases hv:vs[n]? with
     | some v =>
      have hrun:∀ w',(execOp a.eval ⟨some d,.extract x n,ty,pos,af,none⟩).run P w'=.ok (.value v) w':=fun w'=>by
       simp [execOp,Instr.extract,hx,hv]
      rw [hrun,Oper.upon_value] at h1
      exact ⟨v,.inl ⟨hw,hrun⟩,h1⟩
     | none =>
      simp [execOp,Instr.extract,hx,hv,stuck,Oper.upon] at h1
    | _=>simp [execOp,Instr.extract,hx,stuck,Oper.upon] at h1
   obtain ⟨v,hv,h2⟩:=h1'
   refine wpAny_first (oi:=oi) (v:=v) hoi (fun j oj cs b hj hsl=>?_) (fun c a w hq=>?_) f listed a w (fun j oj hj hne hl hno=>?_) hi hv (ih _ _ _ (by simpa using hs) h2)
   ·have:=List.all_eq_true.1 hsel oj (Tab (by simpa using hj))
    rw [hsl] at this
    cases this
   ·have:=hQ _ _ _ hq;cases this
   ·have hjs:=(Tbl.1 hj).1
    have:=List.all_eq_true.1 hap j (List.mem_range.2 hjs)
    simp only [hoi,hj,Bool.or_eq_true,beq_iff_eq,List.any_eq_true,Array.any_eq_true',Taq] at this
    rcases this with h1 | h1 | h1 | h1
    ·exact absurd h1 hne
    ·obtain ⟨ed,h2,h3,h4⟩:=h1
     obtain ⟨_,o,q2,q3⟩:=mem_ready.1 hi
     rw [hoi] at q2
     injection q2 with q2
     subst q2
     have q4:=q3 ed h2 h3
     rw [h4,<- ZbY (by simpa [hs] using hjs)] at q4
     rw [hl] at q4
     cases q4
    ·obtain ⟨ed,h2,h3,h4⟩:=h1
     exact absurd h4 (hno ed h2 h3)
    ·exact h1
  ·refine ⟨fun h0=>h.1 ?_,fun j hj=>?_⟩
   ·refine List.eq_nil_iff_forall_not_mem.2 fun j hj=>?_
    have:=((hrdy listed j).1 hj).1
    rw [h0] at this
    cases this
   ·have hj':j∈Region.ready .any (addL i k l).toArray listed:=(hrdy listed j).2 ⟨hj,fun e=>by
     subst e
     rcases hun listed hs hj with h1 | h1
     ·exact absurd h1 hi
     ·exact h1⟩
    have h1:=h.2 j hj'
    rw [Zhn] at h1
    exact wpOp_mono (fun a w h=>ih _ a w (by simpa using hs) h) h1
end
section
variable {e:Env} {K:St->Prop} {mask:Nat} {Q:PX->St->Prop} {s:List (Nat × A)} {m:List (Nat × Bk)}
theorem ZwD {l:List Oper} {i k:Nat} {σ:St} (hB:Zo9 l.toArray i k=true) (h:ZcE e (addL i k l).toArray K l.length (Array.replicate l.length false) σ):ZcE e l.toArray K l.length (Array.replicate l.length false) σ:=by
 intro he U w0 S0 nt a w hd hs
 refine ZwC (fun ex a w hq=>hq.1) hB _ _ _ _ (by simp) (h he U w0 S0 nt a w (fun o ho d hdd=>?_) hs)
 have:some d∈(addL i k l).map (·.dst):=Tbi.2 ⟨o,by simpa using ho,hdd⟩
 rw [Zlg] at this
 obtain ⟨o',h1,h2⟩:=Tbi.1 this
 exact hd o' (by simpa using h1) d h2
theorem Zss {l:List Oper} {p:Nat} {σ:St} (hAl:ZeG l.toArray p=true) (hB:regB l.toArray (p+1)=true) (hp:Runs e (l.map (·.dst)) (p+1) l σ K):ZcE e l.toArray K l.length (Array.replicate l.length false) σ:=by
 intro he U w0 S0 nt a w hd hs
 have:=Zgy (ops:=l.toArray) he hAl hB (K:=K) (Q:=QN e U w0 S0 nt K) (fun a w σ' hK hs'=>⟨rfl,σ',hK,hs'⟩) hd hs (by simpa using hp)
 simpa using this
theorem gLt {id:Nat} {l l':List Oper} {ds:List (Option Nat)} (p i k:Nat) (hK:Runs e ds (p+1) l' ⟨s,m⟩ (ZcN mask Q)) (hl:addL i k l=l':=by simp only [addL];exact rfl) (hds:l'.map (·.dst)=ds:=by simp only [Tbv,List.map_nil];exact rfl) (hc:Zo9 l.toArray i k=true:=by decide +kernel) (hA:ZeG l'.toArray p=true:=by decide +kernel) (hr:regB l'.toArray (p+1)=true:=by decide +kernel):pwp e mask (.region id l.toArray true) ⟨s,m⟩ Q:=by
 subst hl hds
 have h1:=ZwD hc (by have:=Zss hA hr hK;rwa [Zlf] at this)
 exact Zjy (ops:=l.toArray) (by simpa using h1)
end
def ZFR (ops:Array Oper) (ok:Oper):List Nat:=(ok.after.toList.filter fun e=>Region.binds .any e).flatMap fun e=>e.on::match ops[e.on]? with
 | some o=>(o.after.toList.filter fun e=>Region.binds .any e).map (·.on)
 | none=>[]
def Zpa (ops:Array Oper) (i k:Nat):Bool:=Zio ops && ZA3 ops i && i != k && match ops[i]?,ops[k]? with
 | some oi,some ok=>(match oi with
  | ⟨some _,.pick _ _ _,_,_,_,none⟩=>true
  | _=>false) && oi.after.all fun e=>!Region.binds .any e || (ZFR ops ok).contains e.on
 | _,_=>false
section
variable {P:Program} {l:List Oper} {i k:Nat}
def ZhU (l:List Oper) (listed:Array Bool):Prop:=∀ (j:Nat) o,listed.getD j false=true->l[j]?=some o->∀ e∈o.after,Region.binds .any e=true->listed.getD e.on false=true
theorem ZhU.put {listed:Array Bool} {j:Nat} (hc:ZhU l listed) (hj:j∈Region.ready .any l.toArray listed):ZhU l (listed.setIfInBounds j true):=by
 intro q o hq ho e he hb
 obtain ⟨_,o',h2,h3⟩:=mem_ready.1 hj
 have hmono:∀ t,listed.getD t false=true->(listed.setIfInBounds j true).getD t false=true:=fun t ht=>by
  by_cases htj:t=j
  ·subst htj
   simp only [Array.getD_eq_getD_getElem?,Array.getElem?_setIfInBounds] at ht ⊢
   cases hl:listed[t]? with
   | none=>rw [hl] at ht;cases ht
   | some b =>
    have:t < listed.size:=(Tbl.1 hl).1
    simp [this]
  ·rw [getD_set_ne false (Ne.symm htj)];exact ht
 by_cases hqj:q=j
 ·subst hqj
  have:o'=o:=by
   rw [List.getElem?_toArray,ho] at h2
   injection h2 with h2
   exact h2.symm
  subst this
  exact hmono _ (h3 e he hb)
 ·rw [getD_set_ne false (Ne.symm hqj)] at hq
  exact hmono _ (hc q o hq ho e he hb)
theorem Zst {Q:Exit->Act->World->Prop} (hQ:∀ ex a w,Q ex a w->ex=.normal) (hB:Zpa l.toArray i k=true) :
  ∀ (f:Nat) (listed:Array Bool) (a:Act) (w:World),listed.size=l.length->ZhU l listed->wpAny P .any (addL i k l).toArray Q f listed a w->wpAny P .any l.toArray Q f listed a w:=by
 simp only [Zpa,Taq,bne_iff_ne,ne_eq] at hB
 obtain ⟨⟨⟨hsel,hap⟩,hik⟩,h4⟩:=hB
 split at h4
 rotate_left
 ·cases h4
 rename_i oi ok hoi hok
 simp only [Taq] at h4
 obtain ⟨h5,h6⟩:=h4
 have hrdy:∀ (listed:Array Bool) (j:Nat),j∈Region.ready .any (addL i k l).toArray listed ↔ j∈Region.ready .any l.toArray listed∧(j=k->listed.getD i false=true):=fun listed j=>by
  rw [mem_ready,mem_ready]
  simp only [List.getElem?_toArray,ZgY]
  by_cases hj:j=k
  ·subst hj
   simp only [if_true,true_implies]
   constructor
   ·rintro ⟨q1,o,q2,q3⟩
    cases hl:l[j]? with
    | none=>rw [hl] at q2;cases q2
    | some o' =>
     rw [hl] at q2
     injection q2 with q2
     subst q2
     exact ⟨⟨q1,o',rfl,fun e he hb=>q3 e (by simp [he]) hb⟩,q3 ⟨i,.data⟩ (by simp) rfl⟩
   ·rintro ⟨⟨q1,o,q2,q3⟩,q4⟩
    refine ⟨q1,_,by rw [q2];rfl,fun e he hb=>?_⟩
    rcases Array.mem_push.1 he with he | he
    ·exact q3 e he hb
    ·subst he;exact q4
  ·simp [hj]
 have hun:∀ (listed:Array Bool),listed.size=l.length->ZhU l listed->k∈Region.ready .any l.toArray listed->i∈Region.ready .any l.toArray listed∨listed.getD i false=true:=fun listed hs hcl hk=>by
  by_cases h:listed.getD i false=true
  ·exact .inr h
  ·left
   rw [mem_ready] at hk ⊢
   obtain ⟨_,o,q2,q3⟩:=hk
   have:o=ok:=by rw [hok] at q2;injection q2 with q2;exact q2.symm
   subst this
   have hlt:i < l.length:=by have:=(Tbl.1 hoi).1;simpa using this
   refine ⟨?_,oi,hoi,fun e he hb=>?_⟩
   ·have hl:i < listed.size:=by omega
    rw [ZbY hl]
    simpa using h
   ·have:=Array.all_eq_true_iff_forall_mem.1 h6 e he
    simp only [hb,Bool.not_true,Bool.false_or,List.contains_eq_mem,decide_eq_true_eq,ZFR,List.mem_flatMap,List.mem_filter,Tbg] at this
    obtain ⟨e',⟨r1,r2⟩,r3⟩:=this
    have hl':=q3 e' (Array.mem_toList_iff.1 r1) r2
    rcases r3 with r3 | r3
    ·rw [r3];exact hl'
    ·cases ho':l.toArray[e'.on]? with
     | none=>rw [ho'] at r3;simp at r3
     | some o' =>
      rw [ho'] at r3
      simp only [Tbi,List.mem_filter] at r3
      obtain ⟨e2,⟨r4,r5⟩,r6⟩:=r3
      rw [<- r6]
      exact hcl e'.on o' hl' (by simpa using ho') e2 (Array.mem_toList_iff.1 r4) r5
 intro f
 induction f with
 | zero =>
  intro listed a w hs hcl h
  refine ⟨?_,h.2⟩
  by_cases hk:k∈Region.ready .any l.toArray listed
  ·rcases hun listed hs hcl hk with h1 | h1
   ·have:=(hrdy listed i).2 ⟨h1,fun e=>absurd e hik⟩
    rw [h.1] at this
    cases this
   ·have:=(hrdy listed k).2 ⟨hk,fun _=>h1⟩
    rw [h.1] at this
    cases this
  ·refine List.eq_nil_iff_forall_not_mem.2 fun j hj=>?_
   have:=(hrdy listed j).2 ⟨hj,fun e=>absurd (e ▸ hj) hk⟩
   rw [h.1] at this
   cases this
 | succ f ih =>
  intro listed a w hs hcl h
  by_cases hi:i∈Region.ready .any l.toArray listed
  ·have h1:=h.2 i ((hrdy listed i).2 ⟨hi,fun e=>absurd e hik⟩)
   rw [Zhn] at h1
   have h1':∃ v,Yields P l.toArray oi v a∧wpAny P .any (addL i k l).toArray Q f (listed.setIfInBounds i true) (a.put oi.dst v) w:=by
    unfold wpOp at h1
    simp only [hoi] at h1
    split at h5
    rotate_left
    ·cases h5
    rename_i d x y z ty pos af
    have hw:Region.wanted ⟨some d,.pick x y z,ty,pos,af,none⟩ (yielded l.toArray a.tmps)=true:=by simp [Region.wanted]
    rw [if_pos hw] at h1
    rcases h1 with h1 | ⟨_,b,w',h1⟩
    rotate_left
    ·have:=hQ _ _ _ h1;cases this
    unfold Oper.wp at h1
    cases hx:a.eval x with
    | bool b =>
     have hrun:∀ w',(execOp a.eval ⟨some d,.pick x y z,ty,pos,af,none⟩).run P w'=.ok (.value (if b then a.eval y else a.eval z)) w':=fun w'=>by
      cases b <;> simp [execOp,hx,asBool]
     rw [hrun,Oper.upon_value] at h1
     exact ⟨_,.inl ⟨hw,hrun⟩,h1⟩
    | _=>simp [execOp,hx,asBool,stuck,Oper.upon,Result.andThen] at h1
   obtain ⟨v,hv,h2⟩:=h1'
   refine wpAny_first (oi:=oi) (v:=v) hoi (fun j oj cs b hj hsl=>?_) (fun c a w hq=>?_) f listed a w (fun j oj hj hne hl hno=>?_) hi hv (ih _ _ _ (by simpa using hs) (hcl.put hi) h2)
   ·have:=List.all_eq_true.1 hsel oj (Tab (by simpa using hj))
    rw [hsl] at this
    cases this
   ·have:=hQ _ _ _ hq;cases this
   ·have hjs:=(Tbl.1 hj).1
    have:=List.all_eq_true.1 hap j (List.mem_range.2 hjs)
    simp only [hoi,hj,Bool.or_eq_true,beq_iff_eq,List.any_eq_true,Array.any_eq_true',Taq] at this
    rcases this with h1 | h1 | h1 | h1
    ·exact absurd h1 hne
    ·obtain ⟨ed,h2,h3,h4⟩:=h1
     obtain ⟨_,o,q2,q3⟩:=mem_ready.1 hi
     rw [hoi] at q2
     injection q2 with q2
     subst q2
     have q4:=q3 ed h2 h3
     rw [h4,<- ZbY (by simpa [hs] using hjs)] at q4
     rw [hl] at q4
     cases q4
    ·obtain ⟨ed,h2,h3,h4⟩:=h1
     exact absurd h4 (hno ed h2 h3)
    ·exact h1
  ·refine ⟨fun h0=>h.1 ?_,fun j hj=>?_⟩
   ·refine List.eq_nil_iff_forall_not_mem.2 fun j hj=>?_
    have:=((hrdy listed j).1 hj).1
    rw [h0] at this
    cases this
   ·have hj':j∈Region.ready .any (addL i k l).toArray listed:=(hrdy listed j).2 ⟨hj,fun e=>by
     subst e
     rcases hun listed hs hcl hj with h1 | h1
     ·exact absurd h1 hi
     ·exact h1⟩
    have h1:=h.2 j hj'
    rw [Zhn] at h1
    exact wpOp_mono (fun a w h=>ih _ a w (by simpa using hs) (hcl.put hj) h) h1
end
section
variable {e:Env} {K:St->Prop} {mask:Nat} {Q:PX->St->Prop} {s:List (Nat × A)} {m:List (Nat × Bk)}
theorem Zsu {l:List Oper} {i k:Nat} {σ:St} (hB:Zpa l.toArray i k=true) (h:ZcE e (addL i k l).toArray K l.length (Array.replicate l.length false) σ):ZcE e l.toArray K l.length (Array.replicate l.length false) σ:=by
 intro he U w0 S0 nt a w hd hs
 refine Zst (fun ex a w hq=>hq.1) hB _ _ _ _ (by simp) (fun j o hj=>by rw [getD_replicate_false] at hj;cases hj) (h he U w0 S0 nt a w (fun o ho d hdd=>?_) hs)
 have:some d∈(addL i k l).map (·.dst):=Tbi.2 ⟨o,by simpa using ho,hdd⟩
 rw [Zlg] at this
 obtain ⟨o',h1,h2⟩:=Tbi.1 this
 exact hd o' (by simpa using h1) d h2
theorem ZmB (he:e.Ok) {U:Nat->Prop} {w0:World} {S0:Nat->Prop} {nt:Nat} {ops:Array Oper} {n:Nat} (hB:regB ops n=true) (hna:∀ o,(ops.toList.take n).getLast?=some o->isAl o=false) {Q:Exit->Act->World->Prop} (hQ:∀ a w σ',K σ'->SimE e U w0 S0 nt σ' a w->Q .normal a w) {σ:St} {a:Act} {w:World}
  (hd:∀ o∈ops.toList,∀ d,o.dst=some d->d < nt) (h:SimE e U w0 S0 nt σ a w) (hp:Runs e (ops.toList.map (·.dst)) n ops.toList σ K):wpAny e.P .any ops Q ops.size (Array.replicate ops.size false) a w:=by
 simp only [regB,Taq,Bool.or_eq_true,decide_eq_true_eq] at hB
 obtain ⟨⟨⟨hH,hn⟩,hs⟩,hsq⟩:=hB
 obtain ⟨S,L,h1⟩:=h
 have hsplit:ops.toList=ops.toList.take n++ops.toList.drop n:=(Tbm n _).symm
 have hlen:(ops.toList.take n).length=n:=by simp;omega
 have hp':Runs e (ops.toList.map (·.dst)) ((ops.toList.take n).length+0) (ops.toList.take n++ops.toList.drop n) σ K:=by rw [<- hsplit,hlen];exact hp
 obtain ⟨αs,hal,hch,hrest⟩:=Zec (U:=U) he w0.heap.size S0 ops.toList (ops.toList.drop n) 0 (ops.toList.take n) σ (fun _=>hna) hp'
 rw [hlen] at hal
 have inv0:InvA e U w0 S0 nt σ.m ops n σ.s αs L (Array.replicate ops.size false) a w S :=
  ⟨⟨by simp,fun j oj _ hl=>(by rw [getD_replicate_false] at hl;cases hl),fun t _ ht=>getD_in (by simpa using ht) (getD_replicate_false _ _)⟩,h1.size,h1.defers,h1.cls,h1.kept,fun t _=>h1.rel t,fun i o d α _ hl=>(by rw [getD_replicate_false] at hl;cases hl)⟩
 have H:=Zdm (e:=e) (L:=L) (Q:=Q) he hH hn (fun hlt=>by
   rcases hs with hs | hs
   ·omega
   ·exact hs) hsq (fun i o d hi ho hdd=>hd o (List.mem_iff_getElem?.2 ⟨i,by simpa using ho⟩) d hdd) hal hch (Zho hH Q) (fun _ _ _ _ _ _ _ _ _ _ _ _ _ _=>trivial) (fun listed a' w' S' hI _ hall=>?_) n _ a _ S inv0 trivial ?_
 ·rw [show n+(ops.size - n)=ops.size by omega] at H
  exact H
 ·have hsim:SimE e U w0 S0 nt ⟨after σ.s (ops.toList.take n) αs,σ.m⟩ a' w':=by
   refine ⟨S',L,hI.cls,fun t=>?_,hI.size,hI.defers,hI.kept⟩
   by_cases hex:∃ (j:Nat) (p:Oper),j < n∧ops[j]?=some p∧p.dst=some t
   ·obtain ⟨j,p,hj,hp,hpt⟩:=hex
    obtain ⟨p',d',hP⟩:=Zcr.get hH hj
    have hpp:p'=p:=by have:=hP.op;rw [hp] at this;injection this with this;exact this.symm
    subst hpp
    have hdt:d'=t:=by have:=hP.dst;rw [hpt] at this;injection this with this;exact this.symm
    subst hdt
    obtain ⟨α,hα⟩:∃ α,αs[j]?=some α:=⟨αs[j],Taa om⟩
    show ARel w' S' L (gs (after σ.s (ops.toList.take n) αs) d') _
    rw [ZdM (ops.toList.take n) αs σ.s j p' α (by rw [List.getElem?_take,if_pos hj];simpa using hp) hα hpt (fun k q hk hq=>by
     rw [List.getElem?_take] at hq
     split at hq
     ·exact (hP.dep k q om (by simpa using hq)).1 hk
     ·cases hq)]
    exact hI.done j p' d' α hj (hall j hj) hp hpt hα
   ·have hno:∀ (j:Nat) (p:Oper),j < n->ops[j]?=some p->p.dst≠some t:=fun j p hj hp hd=>hex ⟨j,p,hj,hp,hd⟩
    show ARel w' S' L (gs (after σ.s (ops.toList.take n) αs) t) _
    rw [ZcZ _ _ _ (fun p hp=>by
     obtain ⟨j,hj⟩:=List.mem_iff_getElem?.1 hp
     rw [List.getElem?_take] at hj
     split at hj
     ·exact hno j p om (by simpa using hj)
     ·cases hj)]
    exact hI.out t hno
  have:=ZmJ he ops.toList hQ (ops.toList.drop n) _ a' w' (fun o ho=>hd o (List.mem_of_mem_drop ho)) hsim hrest
  simpa using this
 ·rw [List.countP_eq_length.2]
  ·simp
  ·intro i hi
   have hi':=List.mem_range.1 hi
   have hsz:i < (Array.replicate ops.size false).size:=by simp;omega
   rw [ZbY hsz,getD_replicate_false]
   rfl
theorem ZwE {l:List Oper} {n:Nat} {σ:St} (hB:regB l.toArray n=true) (hna:∀ o,(l.take n).getLast?=some o->isAl o=false) (hp:Runs e (l.map (·.dst)) n l σ K):ZcE e l.toArray K l.length (Array.replicate l.length false) σ:=by
 intro he U w0 S0 nt a w hd hs
 have:=ZmB (ops:=l.toArray) (n:=n) he hB (by simpa using hna) (K:=K) (Q:=QN e U w0 S0 nt K) (fun a w σ' hK hs'=>⟨rfl,σ',hK,hs'⟩) hd hs (by simpa using hp)
 simpa using this
def ZA4 (l:List Oper) (n:Nat):Bool:=match (l.take n).getLast? with
 | some o=>!isAl o
 | none=>true
theorem gLp {id:Nat} {l l':List Oper} {ds:List (Option Nat)} (n i k:Nat) (hK:Runs e ds n l' ⟨s,m⟩ (ZcN mask Q)) (hl:addL i k l=l':=by simp only [addL];exact rfl) (hds:l'.map (·.dst)=ds:=by simp only [Tbv,List.map_nil];exact rfl) (hc:Zpa l.toArray i k=true:=by decide +kernel) (hA:ZA4 l' n=true:=by decide +kernel) (hr:regB l'.toArray n=true:=by decide +kernel):pwp e mask (.region id l.toArray true) ⟨s,m⟩ Q:=by
 subst hl hds
 have h1:=Zsu hc (by have:=ZwE hr (fun o ho=>by unfold ZA4 at hA;rw [ho] at hA;simpa using hA) hK;rwa [Zlf] at this)
 exact Zjy (ops:=l.toArray) (by simpa using h1)
end
end Go.Proofs.YtffmjghcpgpfpaaGreatDoor
namespace Go.Proofs.YtffmjghcpgpfpaaGreatDoor
open Go.RowKit
open Classical in
noncomputable def mk6 (g:Sgn) (o:Opr) (d:Dcl) (op:Int) (xs:List Tm):Tm:=(mkO g o d op xs).getD (if ¬ ArB o d xs.length∧∀ (i:Nat) a,xs[i]?=some a->KArg g o d i a then appT op (srtO o (Zar o op xs)) else zTm)
theorem Zrm {g:Sgn} {o:Opr} {op:Int} {xs:List Tm} (h:∀ a∈xs,TermOk g a):∀ b∈Zar o op xs,ZaO g b:=by
 intro b hb
 obtain ⟨a,h1,h2⟩:=List.mem_flatMap.1 hb
 have hf:=(h a h1).form
 unfold Zbs at h2
 split at h2
 ·exact (Zbh.1 hf).2.1 b h2
 ·split at h2
  ·cases h2
  ·rw [Tbj.1 h2];exact hf
theorem Zoq:∀ (l m:List Tm),sizeTms (l++m)=sizeTms l+sizeTms m
 | [],m=>by simp [sizeTms]
 | x::l,m=>by simp only [Tae,sizeTms,Zoq l m];omega
theorem Zlh {g:Sgn} {o:Opr} {op:Int}:∀ {xs:List Tm},(∀ a∈xs,TermOk g a)->sizeTms (Zar o op xs)<=60 * xs.length
 | [],_=>by simp [Zar,sizeTms]
 | a::xs,h=>by
  have ih:=Zlh (o:=o) (op:=op) (xs:=xs) fun x hx=>h x (Tak _ hx)
  have ha:=(h a Tar).size
  have e:Zar o op (a::xs)=Zbs o op a++Zar o op xs:=rfl
  have hz:=ZaX a
  have hf:sizeTms (Zbs o op a)<=sizeTm a:=by
   unfold Zbs
   split
   ·omega
   ·split
    ·simp [sizeTms]
    ·simp [sizeTms]
  rw [e,Zoq,Taf]
  omega
theorem ZGN {g:Sgn} {o:Opr} {op:Int} {xs:List Tm} (h:∀ a∈xs,TermOk g a) (hl:xs.length<=1000):tmsB (Zar o op xs):=by
 have h1:=Ziz (Zhv.2 (Zrm (o:=o) (op:=op) h))
 have h2:=Zlh (o:=o) (op:=op) h
 unfold tmsB
 omega
theorem ZwF {l m:List Tm} (h:l.Perm m):Zaf (Zab l)=Zaf (Zab m):=by
 induction h with
 | nil=>rfl
 | cons x h ih=>simp only [Zab,Zaf,ih]
 | swap x y l=>simp only [Zab,Zaf];omega
 | trans h1 h2 a b=>rw [a,b]
section
variable {g:Sgn}
open Classical in
theorem ZwG (hokg:Zdq g) (hg:SgnOk g) {op:Int} {o:Opr} {d:Dcl} (h0:0<=op) (ho:g.ops[op.toNat]?=some o) (hd:o.decls[0]?=some d) (xs:List Tm) (ha:∀ a∈xs,TermOk g a) (hl:xs.length<=1000):Con e0 121 [.agg (Zav g),.one (.lit (.int .i64 op)),.one (.sl (Zab xs))] [.agg (encTm (mk6 g o d op xs)),.one (.lit (.bool (mkO g o d op xs).isSome))]:=by
 have hz:=Zmz
 have hfb:=ZGN (o:=o) (op:=op) ha hl
 have hfo:Zaz (Zar o op xs):=ZA2.2 fun b hb=>ZaO.ok hg _ b (Tam _) (Zrm ha b hb)
 have hfs:=Zlh (o:=o) (op:=op) ha
 have hax:=hg.axs o (Tab ho)
 have hlo:=hax.lo
 have hhi:=hax.hi
 have hln:=hg.len
 obtain ⟨d',hd',hr0,hr1,hargs⟩:=hg.first ho
 rw [hd] at hd'
 injection hd' with hd'
 subst hd'
 have cK:=Zet hg.sorts
 rw [Za6] at cK
 have cUn:=Zl0 hg h0 ho
 rw [Zav] at cUn
 have cA:=Zfw hd
 rw [ZbK] at cA
 have hB:mkO g o d op xs=if ArB o d xs.length then none else if ∀ (i:Nat) a,xs[i]?=some a->KArg g o d i a then mkL o op (Zar o op xs) else none:=rfl
 have hM:mk6 g o d op xs=(mkO g o d op xs).getD (if ¬ ArB o d xs.length∧∀ (i:Nat) a,xs[i]?=some a->KArg g o d i a then appT op (srtO o (Zar o op xs)) else zTm):=rfl
 have har2:o.assoc=true->d.args.length=2:=fun h=>by
  obtain ⟨k1,k2,hk,_⟩:=Opr.two hg ho hd (.inl h)
  rw [hk];rfl
 refine gI (ts:=[.cell 6 46,.slot 7]) 691281634562849416457226259614436229071 Tryz.func121 ?_
 (have F:=ai @tmz (ai @ZaG (ai @h0 (ai @ho @Zaj)));have NN:Zag 2:=trivial;refine gGn ?_;clear F NN)
 refine gB ?_
 (have F:=@tmz;refine gC (cK) ?_;clear F)
 (have F:=@tmz;refine gR ?_;clear F)
 (have F:=@tmz;have NN:Zag 3:=trivial;refine gGn ?_;clear F NN)
 refine gM (ι:=Bool) [38] [] (fun b=>[(38,A.d (.one (.lit (.bool b))))]) (fun b=>[]) (fun b=>b=decide (ArB o d xs.length)) ?_ (fun b hb=>Exists.intro _ (ai (Wk.refl _) ?_))
 ·refine gB ?_
  (have F:=ai @tmz @Zaj;refine gC (cA) ?_;clear F)
  by_cases q:xs.length=d.args.length
  ·have q1:((xs.length:Int)=(d.args.length:Int))=True:=eq_true om
   have hA:¬ ArB o d xs.length:=fun h=>h.elim (fun h=>by have:=har2 h.1;omega) fun h=>h.2 q
   (have F:=ai @q1 @tmz;refine gR ?_;clear F)
   (have F:=@tmz;refine gG ?_;exact ⟨false,(decide_eq_false hA).symm,gw,gw⟩)
  have q1:((xs.length:Int)=(d.args.length:Int))=False:=eq_false om
  cases hac:o.assoc with
  | false =>
   have hA:ArB o d xs.length:=.inr ⟨hac,q⟩
   (have F:=ai @q1 (ai @hac @tmz);refine gR ?_;clear F)
   (have F:=@tmz;refine gG ?_;exact ⟨true,(decide_eq_true hA).symm,gw,gw⟩)
  | true =>
  by_cases q2:xs.length < 2
  ·have hA:ArB o d xs.length:=.inl ⟨hac,q2⟩
   have q3:((2:Int)<=(xs.length:Int))=False:=eq_false om
   (have F:=ai @q1 (ai @hac (ai @q3 @tmz));refine gR ?_;clear F)
   (have F:=@tmz;refine gG ?_;exact ⟨true,(decide_eq_true hA).symm,gw,gw⟩)
  ·have hA:¬ ArB o d xs.length:=fun h=>h.elim (fun h=>q2 h.2) fun h=>by rw [hac] at h;cases h.1
   have q3:((2:Int)<=(xs.length:Int))=True:=eq_true om
   (have F:=ai @q1 (ai @hac (ai @q3 @tmz));refine gR ?_;clear F)
   (have F:=@tmz;refine gG ?_;exact ⟨false,(decide_eq_false hA).symm,gw,gw⟩)
 by_cases hAr:ArB o d xs.length
 ·rw [decide_eq_true hAr] at hb
  subst hb
  rw [if_pos hAr] at hB
  rw [hB,if_neg fun h=>h.1 hAr] at hM
  rw [hM,hB]
  (have F:=ai @hz @tmz;refine gG ?_;exact gTd)
 rw [decide_eq_false hAr] at hb
 subst hb
 rw [if_neg hAr] at hB
 have hnas:o.assoc=false->xs.length=d.args.length:=fun h=>Classical.byContradiction fun c=>hAr (.inr ⟨h,c⟩)
 have hfl0:Zar o op []=[]:=rfl
 (have F:=@tmz;have NN:Zag 5:=trivial;refine gGn ?_;clear F NN)
 refine gB ?_
 (have F:=@tmz;refine gC (cUn) ?_;clear F)
 (have F:=@tmz;refine gR ?_;clear F)
 (have F:=@tmz;refine gG ?_;clear F)
 (have F:=ai @hfl0 (ai @ZdH @tmz);refine gL (ι:=Nat) [7,12,13,14,50,55,73,82,92] [12] (fun i=>[(13,A.d (.one (.lit (.int .i64 i)))),(12,.buf 12)]) (fun i=>[(12,.buf none 46 4 (Zab (Zar o op (xs.take i))))]) (fun i=>i<=xs.length∧∀ (j:Nat) a,j < i->xs[j]?=some a->KArg g o d j a) (fun i=>xs.length - i) (0) (⟨Tai _,fun j a h=>absurd h om⟩) (fun i hi=>?_);clear F)
 obtain ⟨hi,hall⟩:=hi
 by_cases hlt:i < xs.length
 ·obtain ⟨a,hai⟩:∃ a,xs[i]?=some a:=⟨_,Taa hlt⟩
  have hT:=ha a (Tab hai)
  have q1:((i:Int) < (xs.length:Int))=True:=eq_true om
  have hw1:=Zap (k:=i) om
  obtain ⟨k,hk⟩:=Zhf hg ho hd hnas hlt
  obtain ⟨hk0,hk1⟩:=hargs k (Tab hk)
  have hkd:=ZgI hg.sorts hk0 hk1
  have hkN:d.args[(argAt o i:Nat)]?=some k:=hk
  have cKa:=Zgd hokg hg hT.form.node
  rw [Zav] at cKa
  have cU:=Ze0 (hT.ok hg) (ZnY (o:=o) hlo om)
  have hUiff:o.unit≠0->(Zak a (ZbL o)=0 ↔ a.op=o.unit - 1):=fun hu=>by
   rw [ZeO]
   constructor
   ·rintro h;rw [h];simp [ZbL,Tm.op,hu]
   ·exact Zjo hg ho hu hT.form
  generalize hU:decide (Zak a (ZbL o)=0)=U at cU
  have hst:=ZkA (o:=o) (op:=op) hai
  have hle:=Zhh o op xs (i+1)
  rw [hst,Tad] at hle
  have hfl:=ZbN (Zar o op xs)
  have hnext:ZaS g a=((kd g.sorts k:Nat):Int)->i+1<=xs.length∧∀ (j:Nat) a,j < i+1->xs[j]?=some a->KArg g o d j a:=fun hkk=>⟨hlt,fun j a' hj ha'=>by
   by_cases e:j=i
   ·subst e
    rw [hai] at ha'
    injection ha' with ha'
    subst ha'
    exact ⟨k,hk,hkk⟩
   ·exact hall j a' om ha'⟩
  (have F:=ai @q1 @tmz;refine gG ?_;clear F)
  refine gM (ι:=Unit) [14] [] (fun u=>[(14,A.d (.one (.lit (.int .i64 (argAt o i:Nat)))))]) (fun u=>[]) (fun u=>True) ?_ (fun u hu=>Exists.intro _ (ai (Wk.refl _) ?_))
  ·rcases Bool.eq_false_or_eq_true o.assoc with hac | hac
   ·(have F:=ai @Zaj (ai @hac @Zj3);refine gG ?_;exact ⟨(),trivial,gw,gw⟩)
   ·(have F:=ai @Zaj (ai @hac (ai @Zj3 @if_false.{1}));refine gG ?_;exact ⟨(),trivial,gw,gw⟩)
  (have F:=@tmz;have NN:Zag 13:=trivial;refine gGn ?_;clear F NN)
  refine gB ?_
  (have F:=ai @hai @tmz;refine gC (cKa) ?_;clear F)
  by_cases hkk:ZaS g a=((kd g.sorts k:Nat):Int)
  rotate_left
  ·have hno:¬ ∀ (i:Nat) a,xs[i]?=some a->KArg g o d i a:=fun h=>by
    obtain ⟨k',hk',he⟩:=h i a hai
    rw [hk] at hk'
    injection hk' with hk'
    subst hk'
    exact hkk he
   rw [if_neg hno] at hB
   rw [hB,if_neg fun h=>hno h.2] at hM
   rw [hM,hB]
   (have F:=ai @tmz (ai @Zaj (ai @hd (ai @ZaR (ai @hkN (ai @hk0 (ai @hkd (ai @Za4 @hkk)))))));refine gR ?_;clear F)
   (have F:=ai @hz @tmz;refine gG ?_;exact gTd)
  have hnext:=hnext hkk
  have l1:ZaT 4 (Zab (Zar o op (xs.take i)))=true:=Zdd _
  have l5:ZaT 4 (Zab a.args)=true:=Zdd _
  (have F:=ai @tmz (ai @Zaj (ai @hd (ai @ZaR (ai @hkN (ai @hk0 (ai @hkd (ai @Za4 @hkk)))))));refine gR ?_;clear F)
  (have F:=@tmz;have NN:Zag 16:=trivial;refine gGn ?_;clear F NN)
  refine gM (ι:=Bool) [82] [] (fun b=>[(82,A.d (.one (.lit (.bool b))))]) (fun b=>[]) (fun b=>b=decide (o.unit≠0∧a.op=o.unit - 1)) ?_ (fun b hb=>Exists.intro _ (ai (Wk.refl _) ?_))
  ·by_cases hu:o.unit=0
   ·(have F:=ai @hu @tmz;refine gG ?_;exact ⟨false,(decide_eq_false fun h=>h.1 hu).symm,gw,gw⟩)
   ·refine gB ?_
    (have F:=ai @hu (ai @hai @tmz);refine gC (cU) ?_;clear F)
    (have F:=@tmz;refine gR ?_;clear F)
    have e:U=decide (o.unit≠0∧a.op=o.unit - 1):=by
     rw [<- hU]
     exact decide_eq_decide.2 ⟨fun h=>⟨hu,(hUiff hu).1 h⟩,fun h=>(hUiff hu).2 h.2⟩
    (have F:=ai @hu @tmz;refine gG ?_;exact ⟨U,e,gw,gw⟩)
  by_cases hUn:o.unit≠0∧a.op=o.unit - 1
  ·rw [decide_eq_true hUn] at hb
   subst hb
   have hN:¬ (o.assoc=true∧a.op=op):=fun h=>by
    have e:(ZbL o).args=[]:=by unfold ZbL;rfl
    have e2:=Zjo hg ho hUn.1 hT.form hUn.2
    obtain ⟨o',d',hA⟩:=hT.form.node.app om
    have:o'=o:=by have:=hA.at';rw [h.2,ho] at this;injection this with this;exact this.symm
    subst this
    have:=(hA.asc h.1).1
    rw [e2,e] at this
    simp at this
   have e:Zbs o op a=[]:=by unfold Zbs;rw [if_neg hN,if_pos hUn]
   rw [e,List.append_nil] at hst
   rw [<- hst]
   (have F:=ai @tmz @hw1;refine gG ?_;exact ⟨i+1,hnext,gw,gw,by omega⟩)
  rw [decide_eq_false hUn] at hb
  subst hb
  by_cases hN:o.assoc=true∧a.op=op
  ·have e:Zbs o op a=a.args:=by unfold Zbs;rw [if_pos hN]
   rw [e] at hst hle
   have l3:((Zar o op (xs.take i)).length+a.args.length<=maxApp)=True:=eq_true (by unfold maxApp;omega)
   have l4:Zab (Zar o op (xs.take i))++Zab a.args=Zab (Zar o op (xs.take (i+1))):=by rw [hst,Zcg]
   obtain ⟨hN1,hN2⟩:=hN
   have q2:(a.op=op)=True:=eq_true hN2
   (have F:=ai @tmz (ai @hai (ai @Zaj (ai @hN1 (ai @q2 (ai @l1 (ai @l5 (ai @l3 (ai @l4 @hw1))))))));refine gG ?_;exact ⟨i+1,hnext,gw,gw,by omega⟩)
  ·have e:Zbs o op a=[a]:=by unfold Zbs;rw [if_neg hN,if_neg hUn]
   rw [e] at hst hle
   have l3:((Zar o op (xs.take i)).length+1<=maxApp)=True:=eq_true (by simp only [Taf,Taj] at hle;unfold maxApp;omega)
   have l4:Zab (Zar o op (xs.take i))++[encTm a]=Zab (Zar o op (xs.take (i+1))):=by rw [hst,Zcg,Zgf]
   rcases Bool.eq_false_or_eq_true o.assoc with hac | hac
   ·have hq:(a.op=op)=False:=eq_false fun h=>hN ⟨hac,h⟩
    (have F:=ai @tmz (ai @hai (ai @Zaj (ai @hac (ai @hq (ai @l1 (ai @l3 (ai @l4 @hw1)))))));refine gG ?_;exact ⟨i+1,hnext,gw,gw,by omega⟩)
   ·(have F:=ai @tmz (ai @hai (ai @Zaj (ai @hac (ai @l1 (ai @l3 (ai @l4 @hw1))))));refine gG ?_;exact ⟨i+1,hnext,gw,gw,by omega⟩)
 ·obtain rfl:i=xs.length:=by omega
  have q1:((xs.length:Int) < (xs.length:Int))=False:=eq_false om
  rw [Tao]
  have hAll:∀ (i:Nat) a,xs[i]?=some a->KArg g o d i a:=fun j a h=>hall j a (Tac.1 h).1 h
  rw [if_pos hAll] at hB
  rw [hB,if_pos ⟨hAr,hAll⟩] at hM
  rw [hM,hB]
  clear hM hB hall hAll hnas
  generalize hL:Zar o op xs=L at hfb hfo hfs ⊢
  have hLb:L.length+Zaf (Zab L)<=1048576:=hfb
  (have F:=ai @q1 @tmz;have NN:Zag 19:=trivial;refine gGn ?_;clear F NN)
  refine pS 12 fun a cap=>?_
  refine pD 12 [12] [] ?_
  by_cases hu:o.unit≠0∧L.length < 2
  ·have e:mkL o op L=some (L.headD (ZbL o)):=by unfold mkL;rw [if_pos hu]
   rw [e]
   obtain ⟨hu1,hu2⟩:=hu
   have q2:(o.unit=0)=False:=eq_false hu1
   cases L with
   | nil =>
    have z2:(((0:Nat):Int)=0)=True:=eq_true om
    (have F:=ai @q1 (ai @Zaj (ai @q2 (ai @z2 @tmz)));refine gG ?_;exact gTd)
   | cons b bs =>
    have hbs:bs=[]:=Tan (by simp only [Taf] at hu2;omega)
    subst hbs
    have hbb:Zae (encTm b)<=1048576:=by simp only [Zab,Zaf] at hLb;omega
    have z1:(((0+1:Nat):Int)=0)=False:=eq_false om
    have z2:(((0+1:Nat):Int)=1)=True:=eq_true om
    have z3:(((1:Nat):Int)=0)=False:=eq_false om
    have z4:(((1:Nat):Int)=1)=True:=eq_true om
    have q5:([b]:List Tm)[0]?=some b:=rfl
    have z5:(0 < 0+1)=True:=eq_true om
    have z6:((0:Nat) < 1)=True:=eq_true om
    have z7:Int.toNat 0=0:=rfl
    (have F:=ai @q1 (ai @Zaj (ai @q2 (ai @z1 (ai @z2 (ai @z3 (ai @z4 (ai @z5 (ai @z6 (ai @z7 (ai @q5 @tmz))))))))));have NN:Zag 22:=trivial;refine gGn ?_;clear F NN)
    refine gB ?_
    (have F:=ai @z5 (ai @z6 (ai @z7 (ai @q5 @tmz)));refine gC (ZmA b hbb) ?_;clear F)
    (have F:=@tmz;refine gR ?_;clear F)
    (have F:=@tmz;refine gG ?_;exact gTd)
  ·have hml:mkL o op L=if BigT o op (srtO o L) then none else some (appT op (srtO o L)):=by unfold mkL;rw [if_neg hu]
   rw [hml]
   clear hml cUn cK cA
   have hSl:=ZkY o L
   have hSp:=Zd8 o L
   have sz1:=ZgO hSp
   have dz1:=ZfV hSp
   have sl1:=ZbN L
   have cSo:=Zrl L hfo hfb
   refine gM (ι:=Unit) [116] [] (fun v=>[(116,A.d (.one (.lit (.bool false))))]) (fun v=>[]) (fun v=>True) ?_ (fun v hv=>Exists.intro _ (ai (Wk.refl _) ?_))
   ·by_cases hu0:o.unit=0
    ·have q2:(o.unit=0)=True:=eq_true hu0
     (have F:=ai @q2 @tmz;refine gG ?_;exact ⟨(),trivial,gw,gw⟩)
    ·have q2:(o.unit=0)=False:=eq_false hu0
     have q3:((L.length:Int)=0)=False:=eq_false fun h=>hu ⟨hu0,by omega⟩
     (have F:=ai @q2 (ai @q3 @tmz);refine gG ?_;exact ⟨(),trivial,gw,gw⟩)
   (have F:=@tmz;have NN:Zag 21:=trivial;refine gGn ?_;clear F NN)
   refine gM (ι:=Unit) [123] [] (fun v=>[(123,A.d (.one (.lit (.bool false))))]) (fun v=>[]) (fun v=>True) ?_ (fun v hv=>Exists.intro _ (ai (Wk.refl _) ?_))
   ·by_cases hu0:o.unit=0
    ·have q2:(o.unit=0)=True:=eq_true hu0
     (have F:=ai @q2 @tmz;refine gG ?_;exact ⟨(),trivial,gw,gw⟩)
    ·have q2:(o.unit=0)=False:=eq_false hu0
     have q3:((L.length:Int)=1)=False:=eq_false fun h=>hu ⟨hu0,by omega⟩
     (have F:=ai @q2 (ai @q3 @tmz);refine gG ?_;exact ⟨(),trivial,gw,gw⟩)
   (have F:=@tmz;have NN:Zag 23:=trivial;refine gGn ?_;clear F NN)
   refine gB ?_
   (have F:=ai @Zaj @tmz;refine gR ?_;clear F)
   refine gM (ι:=Unit) [12] [] (fun v=>[(12,.d (.one (.sl (Zab (srtO o L)))))]) (fun v=>[]) (fun v=>True) ?_ (fun v hv=>Exists.intro _ (ai (Wk.refl _) ?_))
   ·cases hcm:o.comm with
    | true =>
     rw [show srtO o L=Zat L by unfold srtO;rw [if_pos hcm]]
     (have F:=ai @hcm @tmz;have NN:Zag 24:=trivial;refine gGn ?_;clear F NN)
     refine gB ?_
     (have F:=@tmz;refine gC (cSo) ?_;clear F)
     (have F:=@tmz;refine gR ?_;clear F)
     (have F:=@tmz;refine gG ?_;exact ⟨(),trivial,gw,gw⟩)
    | false =>
     rw [show srtO o L=L by unfold srtO;rw [if_neg (by rw [hcm];simp)]]
     (have F:=ai @hcm @tmz;refine gG ?_;exact ⟨(),trivial,gw,gw⟩)
   have hSB:tmsB (srtO o L):=by
    unfold tmsB at hfb ⊢
    rw [ZwF hSp,hSl];exact hfb
   generalize srtO o L=S at hSl sz1 dz1 hSB ⊢
   have em:encTm (appT op S)=[.lit (.int .i64 op),.lit (.string ByteArray.empty),.lit (.int .i64 0),.sl (Zab S)]:=by simp only [appT,encTm]
   have zs:sizeTm (appT op S)=1+sizeTms S:=by rw [ZaX];rfl
   have c1:=Zhz (t:=appT op S) (by unfold big;omega)
   rw [em] at c1
   (have F:=@tmz;have NN:Zag 25:=trivial;refine gGn ?_;clear F NN)
   refine gB ?_
   (have F:=@tmz;refine gC (ZjO S hSB) ?_;clear F)
   (have F:=@tmz;refine gR ?_;clear F)
   (have F:=@tmz;have NN:Zag 26:=trivial;refine gGn ?_;clear F NN)
   by_cases h7:o.assoc=true∧7 < S.length
   ·rw [if_pos (show BigT o op S from .inl h7)]
    obtain ⟨hac,h7⟩:=h7
    have q2:((S.length:Int)<=7)=False:=eq_false om
    refine gLp 13 12 13 ?_
    (have F:=ai @hac (ai @q2 @tmz);refine gR ?_;clear F)
    (have F:=ai @hz (ai @em @tmz);refine gG ?_;exact gTd)
   have hac:o.assoc=true->((S.length:Int)<=7)=True:=fun h=>eq_true (Int.not_lt.1 fun q=>h7 ⟨h,by omega⟩)
   have hres:(if BigT o op S then none else some (appT op S)).isSome=decide (sizeTm (appT op S)<=60∧depthTm (appT op S)<=20):=by
    by_cases hbg:BigT o op S
    ·rw [if_pos hbg]
     refine (decide_eq_false fun h=>?_).symm
     rcases hbg with h | h | h
     ·exact h7 h
     ·omega
     ·omega
    ·rw [if_neg hbg]
     refine (decide_eq_true ⟨?_,?_⟩).symm
     ·exact Nat.not_lt.1 fun h=>hbg (.inr (.inl h))
     ·exact Nat.not_lt.1 fun h=>hbg (.inr (.inr h))
   have hgd:(if BigT o op S then none else some (appT op S)).getD (appT op S)=appT op S:=by
    split <;> rfl
   rw [hres,hgd,em]
   rcases Bool.eq_false_or_eq_true o.assoc with ha' | ha'
   ·have q2:=hac ha'
    refine gLp 13 12 13 ?_
    (have F:=ai @ha' (ai @q2 @tmz);refine gC (c1) ?_;clear F)
    (have F:=@tmz;refine gR ?_;clear F)
    (have F:=@tmz;refine gG ?_;exact gTd)
   ·refine gLp 13 12 13 ?_
    (have F:=ai @ha' @tmz;refine gC (c1) ?_;clear F)
    (have F:=@tmz;refine gR ?_;clear F)
    (have F:=@tmz;refine gG ?_;exact gTd)
end
end Go.Proofs.YtffmjghcpgpfpaaGreatDoor
namespace Go.Proofs.YtffmjghcpgpfpaaGreatDoor
open Go.RowKit
def Env.plus (e:Env) (E2:Nat->Prop) (G2:World->Prop):Env:=⟨e.P,fun b=>e.E b∨E2 b,fun w=>e.G w∧G2 w,e.D⟩
structure Fits (e:Env) (E2:Nat->Prop) (G2:World->Prop):Prop where
 st:Zdz E2 G2
 dj:∀ w,G2 w->∀ b,E2 b->¬ e.E b
section
variable {e:Env} {E2:Nat->Prop} {G2:World->Prop}
theorem Fits.ok (h:Fits e E2 G2) (he:e.Ok):(e.plus E2 G2).Ok:=⟨fun w w' hz hb ⟨h1,h2⟩=>⟨he.keep w w' hz (fun b hb'=>hb b (.inl hb')) h1,h.st w w' hz (fun b hb'=>hb b (.inr hb')) h2⟩,he.mixed⟩
theorem Kept.up {D:Prop} {E E':Nat->Prop} {B:Nat} {w w':World} (h:Kept D E B w w') (hE:∀ b,E b->E' b):Kept D E' B w w':=⟨h.os,h.tape,h.output,h.drawn,h.size,fun k hk hn=>h.block k hk fun q=>hn (hE k q)⟩
theorem Fits.keep (h:Fits e E2 G2) {E:Nat->Prop} {w w':World} (hk:Kept e.D E w.heap.size w w') (hE:∀ b,(e.plus E2 G2).E b->b < w.heap.size) (hG:G2 w) (hn:∀ b,E2 b->¬ E b):G2 w':=h.st w w' hk.size (fun b hb=>hk.block b (hE b (.inr hb)) (hn b hb)) hG
theorem Con.up (h2:Fits e E2 G2) {f:FuncId} {args r:List D} (h:Con e f args r):Con (e.plus E2 G2) f args r :=
 ⟨h.1,fun w S vs hS hE hG hvs=>(h.2 w S vs (fun b hb=>⟨(hS b hb).1,fun q=>(hS b hb).2 (.inl q)⟩) (fun b hb=>hE b (.inl hb)) hG.1 hvs).mono fun en w' ⟨v,h1,hk,hg,ha⟩=>⟨v,h1,hk.up fun _=>.inl,⟨hg,h2.keep hk hE hG.2 (h2.dj w hG.2)⟩,ha⟩⟩
theorem ConE.up (h2:Fits e E2 G2) {f:FuncId} {args:List D} {R:List D->Prop} (h:ConE e f args R):ConE (e.plus E2 G2) f args R :=
 ⟨h.1,fun w S vs hS hE hG hvs=>(h.2 w S vs (fun b hb=>⟨(hS b hb).1,fun q=>(hS b hb).2 (.inl q)⟩) (fun b hb=>hE b (.inl hb)) hG.1 hvs).mono fun en w' ⟨v,r,h1,hr,hk,hg,ha⟩=>⟨v,r,h1,hr,hk.up fun _=>.inl,⟨hg,h2.keep hk hE hG.2 (h2.dj w hG.2)⟩,ha⟩⟩
theorem ConR.up (h2:Fits e E2 G2) {f:FuncId} {args:List D} {ty sz:Nat} {rows:List (List C)} (h:ConR e f args ty sz rows):ConR (e.plus E2 G2) f args ty sz rows :=
 ⟨h.1,fun w S vs hS hE hG hvs=>(h.2 w S vs (fun b hb=>⟨(hS b hb).1,fun q=>(hS b hb).2 (.inl q)⟩) (fun b hb=>hE b (.inl hb)) hG.1 hvs).mono fun en w' ⟨v,h1,hk,hg,ha⟩=>⟨v,h1,hk.up fun _=>.inl,⟨hg,h2.keep hk hE hG.2 (h2.dj w hG.2)⟩,ha⟩⟩
theorem ConI.up (h2:Fits e E2 G2) {f:FuncId} {ty sz:Nat} {rows rows':List (List C)} {args r:List D} (h:ConI e f ty sz rows args rows' r):ConI (e.plus E2 G2) f ty sz rows args rows' r :=
 ⟨h.1,fun w S v0 vs hS hE h0 hG hb hvs=>(h.2 w S v0 vs (fun b hb=>⟨(hS b hb).1,fun q=>(hS b hb).2 (.inl q)⟩) (fun b hb=>hE b (.inl hb)) (fun g hg q=>h0 g hg (.inl q)) hG.1 hb hvs).mono fun en w' ⟨v,h1,hk,hg,ha⟩=>⟨v,h1,hk.up fun _ q=>q.elim (fun q=>.inl (.inl q)) .inr,⟨hg,h2.keep hk hE hG.2 fun b hb q=>q.elim (h2.dj w hG.2 b hb) fun q=>h0 b q (.inr hb)⟩,ha⟩⟩
theorem ConT.up (h2:Fits e E2 G2) {f:FuncId} {ty sz:Nat} {rows rows':List (List C)} {args:List D} (h:ConT e f ty sz rows args rows'):ConT (e.plus E2 G2) f ty sz rows args rows' :=
 ⟨h.1,fun w S v0 vs hS hE h0 hG hb hvs=>(h.2 w S v0 vs (fun b hb=>⟨(hS b hb).1,fun q=>(hS b hb).2 (.inl q)⟩) (fun b hb=>hE b (.inl hb)) (fun g hg q=>h0 g hg (.inl q)) hG.1 hb hvs).mono fun en w' ⟨v,h1,hk,hg,ha⟩=>⟨v,h1,hk.up fun _ q=>q.elim (fun q=>.inl (.inl q)) .inr,⟨hg,h2.keep hk hE hG.2 fun b hb q=>q.elim (h2.dj w hG.2 b hb) fun q=>h0 b q (.inr hb)⟩,ha⟩⟩
theorem ConP.up (h2:Fits e E2 G2) {f:FuncId} {args:List D} {pm:List Bk} {R:List D->List Bk->Prop} (h:ConP e f args pm R):ConP (e.plus E2 G2) f args pm R :=
 ⟨h.1,fun w S vs hS hE hG hpm hap hvs=>(h.2 w S vs (fun b hb=>⟨(hS b hb).1,fun q=>(hS b hb).2 (.inl q)⟩) (fun b hb=>hE b (.inl hb)) hG.1 (fun x hx=>⟨(hpm x hx).1,fun g hg q=>(hpm x hx).2 g hg (.inl q)⟩) hap hvs).mono fun en w' ⟨v,r,pm',h1,hr,hk,hg,ha⟩=>⟨v,r,pm',h1,hr,hk.up fun _ q=>q.elim (fun q=>.inl (.inl q)) .inr,⟨hg,h2.keep hk hE hG.2 fun b hb q=>q.elim (h2.dj w hG.2 b hb) fun ⟨x,hx,hxg⟩=>(hpm x hx).2 b hxg (.inr hb)⟩,ha⟩⟩
theorem ZCz {ι:Type} {G:ι->World->Prop} {ok:ι->Prop} (h2:Fits e E2 G2) (hst:∀ i,Zdz E2 (G i)) (ho:∀ w,G2 w->∃ i,ok i∧G i w) (hi:∀ w i,(∀ b,E2 b->¬ e.E b)->ok i->G i w->G2 w) {f:FuncId} {xs r:List D} (hb:Zb3 e.P f=true)
  (h:∀ i,ok i->ConP e f xs [.set E2 (G i)] (fun r' pm=>r'=r∧∃ i',ok i'∧pm=[.set E2 (G i')])):Con (e.plus E2 G2) f xs r:=by
 refine ⟨hb,fun w S vs hS hE hG hvs=>?_⟩
 obtain ⟨i,hi1,hi2⟩:=ho w hG.2
 have hdj:=h2.dj w hG.2
 refine ((h i hi1).2 w S vs (fun b hb=>⟨(hS b hb).1,fun q=>(hS b hb).2 (.inl q)⟩) (fun b hb=>hE b (.inl hb)) hG.1 (fun x hx=>?_) ⟨fun y hy=>(by cases hy),trivial⟩ hvs).mono fun en w' ⟨v,r',pm,h1,⟨hr,i',hi1',hpm⟩,hk,hg,hp,_,ha⟩=>?_
 ·obtain rfl:=Tbj.1 hx
  exact ⟨⟨fun b hb=>⟨hE b (.inr hb),fun q=>(hS b q).2 (.inr hb)⟩,hi2,hst i⟩,fun g hg=>hdj g hg⟩
 ·subst hr hpm
  have hpb:∀ (G:World->Prop) (b:Nat),Zbx [.set E2 G] b ↔ E2 b:=fun G b=>⟨fun ⟨x,hx,hg⟩=>by obtain rfl:=Tbj.1 hx;exact hg,fun q=>⟨_,Tbj.2 rfl,q⟩⟩
  refine ⟨v,h1,hk.up fun b q=>q.elim .inl fun q=>.inr ((hpb _ b).1 q),⟨hg,hi w' i' hdj hi1' (hp _ (Tbj.2 rfl)).1.2.1⟩,ha.keep (Tah _) (fun _ _ _=>rfl) fun b hb=>?_⟩
  rcases hb.1 with q | q | q
  ·exact .inl q
  ·exact absurd ((hpb _ b).2 ((hpb _ b).1 q)) hb.2
  ·exact .inr q
theorem ZGP {mask:Nat} {c:Code} {s:List (Nat × A)} {m:List (Nat × Bk)} {Q:PX->St->Prop} {G1:World->Prop} (k:Nat) (hst:Zdz E2 G2) (hm:gm m k=some (.set E2 G1)) (h2:(∀ b,E2 b->¬ e.E b)->Fits e E2 G2∧∀ w,G1 w->G2 w) (h:Fits e E2 G2->pwp (e.plus E2 G2) mask c ⟨s,remM k m⟩ Q):pwp e mask c ⟨s,m⟩ Q:=by
 intro he U w0 S0 nt a w hok ⟨S,L,hs⟩
 have hc:=hs.cls
 have ho:=hc.own k _ hm
 obtain ⟨hF,hG⟩:=h2 fun b hb=>hc.notE hm (show ZaB L k (.set E2 G1) b from hb)
 have hlt:∀ b,e.E b∨E2 b->b < w.heap.size:=fun b hb=>hb.elim (fun q=>Tbd (hc.ein b q) hc.bsz) fun q=>(ho.1 b q).1
 have hsub:∀ k' bk,gm (remM k m) k'=some bk->k'≠k∧gm m k'=some bk:=fun k' bk hk'=>by
  rw [Za7] at hk'
  by_cases e:k'=k
  ·rw [if_pos e] at hk';cases hk'
  ·rw [if_neg e] at hk';exact ⟨e,hk'⟩
 have hs2:SimE (e.plus E2 G2) (fun g=>∃ k' bk,gm (remM k m) k'=some bk∧ZaB L k' bk g) w S nt ⟨s,remM k m⟩ a w:=by
  refine ⟨S,L,⟨fun b hb=>⟨(hc.sin b hb).1,fun q=>q.elim (hc.sin b hb).2 fun q=>(ho.1 b q).2 hb⟩,fun b hb=>.inl hb,hlt,?_,Tah _,fun k' bk g h1 h2=>.inr ⟨k',bk,h1,h2⟩,fun k' bk hk'=>hc.own k' bk (hsub k' bk hk').2,fun k1 k2 x1 x2 g h1 h2=>hc.inj k1 k2 x1 x2 g (hsub k1 x1 h1).2 (hsub k2 x2 h2).2,⟨hc.g,hG w ho.2.1⟩⟩,hs.rel,hs.size,hs.defers,Kept.refl _ _ _ _⟩
  rintro b ⟨k',bk,h1,h3⟩ q
  obtain ⟨hne,h1⟩:=hsub k' bk h1
  rcases q with q | q
  ·exact hc.notE h1 h3 q
  ·exact hne (hc.inj k' k bk _ b h1 hm h3 q)
 refine wp_mono (h hF (hF.ok he) _ _ _ _ _ w hok hs2) fun ex a' w' hq=>?_
 have back:∀ σ',SimE (e.plus E2 G2) (fun g=>∃ k' bk,gm (remM k m) k'=some bk∧ZaB L k' bk g) w S nt σ' a' w'->SimE e U w0 S0 nt σ' a' w':=fun σ' ⟨S1,L1,h1⟩=>by
  have c1:=h1.cls
  have hU:∀ b,(∃ k' bk,gm (remM k m) k'=some bk∧ZaB L k' bk b)->w0.heap.size<=b∨U b:=fun b ⟨k',bk,q1,q2⟩=>hc.mine k' bk b (hsub k' bk q1).2 q2
  refine ⟨S1,L1,⟨fun b hb=>⟨(c1.sin b hb).1,fun q=>(c1.sin b hb).2 (.inl q)⟩,fun b hb=>?_,hc.ein,hc.uin,Tbe hc.bsz c1.bsz,fun k' bk g q1 q2=>?_,c1.own,c1.inj,c1.g.1⟩,h1.rel,h1.size,h1.defers,⟨h1.kept.os.trans hs.kept.os,h1.kept.tape.trans hs.kept.tape,h1.kept.output.trans hs.kept.output,fun d=>Tbe (hs.kept.drawn d) (h1.kept.drawn d),Tbe hs.kept.size h1.kept.size,fun b hb hn=>?_⟩⟩
  ·rcases c1.sfr b hb with q | q | q
   ·exact hc.sfr b q
   ·exact .inr (.inl (Tbe hc.bsz q))
   ·exact .inr (hU b q)
  ·rcases c1.mine k' bk g q1 q2 with q | q
   ·exact .inl (Tbe hc.bsz q)
   ·exact hU g q
  ·refine (h1.kept.block b (Tbd hb hs.kept.size) fun q=>?_).trans (hs.kept.block b hb hn)
   rcases q with (q | q) | q
   ·exact hn (.inl q)
   ·rcases hc.mine k _ b hm (show ZaB L k (.set E2 G1) b from q) with q | q
    ·omega
    ·exact hn (.inr q)
   ·rcases hU b q with q | q
    ·omega
    ·exact hn (.inr q)
 cases ex with
 | normal=>exact hq.elim fun σ' hq=>⟨σ',hq.1,back σ' hq.2⟩
 | exit id=>exact hq.elim fun σ' hq=>⟨σ',hq.1,back σ' hq.2⟩
 | ret=>exact hq.elim fun σ' hq=>⟨σ',hq.1,back σ' hq.2⟩
 | goto l=>exact hq
 | panic ch=>exact hq
 | outgrown=>exact hq
end
theorem Zrp {row:List C} (hok:Zal (ZaW) row) {left:Int} (h0:0<=left) (h1:left<=1048576):Con e0 35 [.agg row,.one (.lit (.int .i64 left))] [.one (.lit (.int .i64 (sub left (Zae row))))]:=by
 refine Zhc Zhb (by kernel_rfl) fun w S vs h=>?_
 match vs,h with
 | [v,u],h =>
  obtain ⟨⟨us,rfl,hu⟩,h2,_⟩:=h
  have h2:u=.int .i64 left:=by simpa [DRel,Rep] using h2
  subst h2
  exact (Zq7 row S us left w hok hu h0 h1).mono fun e w' ⟨h1,h2⟩=>⟨_,h1,h2,by simp [retA,ARel,DRel,Rep]⟩
theorem Zrq {row:List C} (hok:Zal (ZaW) row) (hb:Zae row<=1048576):Con e0 37 [.agg row] [.agg row]:=by
 refine Zhc Zhb (by kernel_rfl) fun w S vs h=>?_
 match vs,h with
 | [v],h =>
  obtain ⟨⟨us,rfl,hu⟩,_⟩:=h
  exact (Zq9 row S us w hok hu hb).mono fun e w' ⟨us',h1,h2,h3⟩=>⟨_,h1,h3,us',rfl,Zai.rep row _ _ us' (fun x hx=>.inr hx) h2⟩
theorem Zrr {row:List C} (hok:Zal (ZaW) row):Con e0 39 [.agg row,.agg row] [.one (.lit (.bool true))]:=by
 refine Zhc Zhb (by kernel_rfl) fun w S vs h=>?_
 match vs,h with
 | [v,u],h =>
  obtain ⟨⟨us,rfl,hu⟩,⟨us',rfl,hu'⟩,_⟩:=h
  exact (Zq8 row S S us us' w hok hu hu').mono fun e w' ⟨h1,h2⟩=>⟨_,h1,h2,by simp [retA,ARel,DRel,Rep]⟩
end Go.Proofs.YtffmjghcpgpfpaaGreatDoor
