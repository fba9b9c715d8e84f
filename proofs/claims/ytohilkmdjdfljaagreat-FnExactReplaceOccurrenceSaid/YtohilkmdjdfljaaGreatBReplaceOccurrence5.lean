/-
  Part of a proof: Sw3, Sw4, Bw, Cl, Tq, Fk, Rv, Tz, Rw, Du, Mk, Hd, Os, Hb, Hu, KsString, KsSub, KtSorts, Mi, KsDecl, KsOp, KtSignature, KsBinding, KtOccurrence, Cn, QcSignature, QcTerm, QcOccurrence.
-/
import Derived.Test.YtohilkmdjdfljaaGreatBReplaceOccurrence0
import Derived.Test.YtohilkmdjdfljaaGreatBReplaceOccurrence1
import Derived.Test.YtohilkmdjdfljaaGreatBReplaceOccurrence2
import Derived.Test.YtohilkmdjdfljaaGreatBReplaceOccurrence3
import Derived.Test.YtohilkmdjdfljaaGreatBReplaceOccurrence4
import Derived.Lib.LazyBuf
set_option linter.unusedSimpArgs false
set_option linter.unusedVariables false
namespace Go.Proofs.YtohilkmdjdfljaaGreat
open Go.RowKit
theorem get_A {P A B Q:List Tm} {i k:Nat} {x:Tm} (h:A[i]?=some x) (hk:k=P.length+i):(P++A++B++Q)[k]?=some x:=by
 have hi:=(List.getElem?_eq_some_iff.1 h).1
 subst hk
 rw [List.append_assoc,List.append_assoc,List.getElem?_append_right (by omega),Nat.add_sub_cancel_left,List.getElem?_append_left hi,h]
theorem get_B {P A B Q:List Tm} {i k:Nat} {x:Tm} (h:B[i]?=some x) (hk:k=P.length+A.length+i):(P++A++B++Q)[k]?=some x:=by
 have hi:=(List.getElem?_eq_some_iff.1 h).1
 subst hk
 rw [List.append_assoc,List.getElem?_append_right (by rw [List.length_append];omega),List.length_append,Nat.add_sub_cancel_left,List.getElem?_append_left hi,h]
theorem sort_put {B:List Tm} {x:Tm} (hB:Up B) {s:Nat} (h1:0 < s->∃ y,B[s - 1]?=some y∧cmpTm y x<=0) (h2:s < B.length->∃ y,B[s]?=some y∧cmpTm x y<=0):sortTm ([x]++B)=B.take s++x::B.drop s:=(sortTm_of (put_perm s) (hB.put h1 h2)).symm
def SymL (A B:List Tm) (lo mid st i:Nat):Prop:=st < i->∃ u v,A[i - 1 - lo]?=some u∧B[mid - i]?=some v∧cmpTm u v<=0
def SymR (A B:List Tm) (lo mid r0 j:Nat):Prop:=j < r0->∃ u v,B[mid - 1 - j]?=some u∧A[j - lo]?=some v∧cmpTm u v<=0
set_option maxHeartbeats 40000000 in
set_option maxRecDepth 100000 in
theorem conP_sym:∀ (n:Nat) (P A B Q:List Tm),A.length+B.length<=n->0 < A.length->0 < B.length->Up A->Up B->∀ {lo mi hi N:Nat},lo=P.length->mi=P.length+A.length->hi=P.length+A.length+B.length->N=P.length+A.length+B.length+Q.length->N<=4000000->∀ (a:Option Addr) (cap:Nat),
  ConP e0 196 [.one (.lit (.slice a N cap)),.one (.lit (.int .i64 lo)),.one (.lit (.int .i64 mi)),.one (.lit (.int .i64 hi)),.one (.fn 140 [])] [.buf (some (a,cap)) 41 4 (encTms (P++A++B++Q))] (RBuf a cap (P++sortTm (A++B)++Q)):=by
 intro n
 induction n with
 | zero=>intro P A B Q h1 h2;omega
 | succ n ih =>
 intro P A B Q hsz hA0 hB0 hA hB lo mi hi N hlo hmi hhi hN hmx a cap
 have hU:∃ U,U=P++A++B++Q:=⟨_,rfl⟩
 obtain ⟨U,hU⟩:=hU
 have hUl:U.length=N:=by rw [hU];simp only [List.length_append];omega
 rw [<- hU]
 have w0:IntKind.i64.wrap ((mi:Int) - (lo:Int))=(A.length:Int):=wrapN (by omega) (by omega) (by omega)
 have w1:IntKind.i64.wrap ((hi:Int) - (mi:Int))=(B.length:Int):=wrapN (by omega) (by omega) (by omega)
 refine gIP (ts:=[]) [1000] 13164839976634628298295110780136696778032692856359452003713154079 Tryz.func196 ?_
 by_cases hA1:A.length=1
 ·have q1:((A.length:Int)=1)=True:=eq_true (by omega)
  obtain ⟨x,hx⟩:∃ x,A=[x]:=List.length_eq_one_iff.1 hA1
  have gx:U[lo]?=some x:=by rw [hU];exact get_A (i:=0) (by rw [hx];rfl) (by omega)
  have l0:lo < N:=by omega
  (have F:=ai @w0 (ai @q1 @tmz);refine gG ?_;clear F)
  clear q1
  (have F:=@tmz;refine gL (ι:=Nat × Nat) [10,11,12,33,50] [] (fun z=>[(10,.d (.one (.lit (.int .i64 (z.1:Int))))),(11,.d (.one (.lit (.int .i64 (z.2:Int)))))]) (fun z=>[]) (fun z=>mi<=z.1∧z.1<=z.2∧z.2<=hi∧(mi < z.1->∃ y,B[z.1 - mi - 1]?=some y∧cmpTm y x<=0)∧(z.2 < hi->∃ y,B[z.2 - mi]?=some y∧cmpTm x y<=0)) (fun z=>z.2 - z.1) ((mi,hi)) (⟨Nat.le_refl _,by omega,Nat.le_refl _,fun h=>by omega,fun h=>by omega⟩) (fun z hz=>?_);clear F)
  obtain ⟨i,j⟩:=z
  obtain ⟨h1,h2,h3,h4,h5⟩:=hz
  simp only at h1 h2 h3 h4 h5
  dsimp only
  by_cases hij:i < j
  ·have q2:((i:Int) < (j:Int))=True:=eq_true (by omega)
   obtain ⟨s,h,u1,u2,u3,u4,hh⟩:=half_of i j (by omega)
   obtain ⟨y,hy⟩:∃ y,B[h - mi]?=some y:=⟨_,List.getElem?_eq_getElem (by omega)⟩
   have gy:U[h]?=some y:=by rw [hU];exact get_B hy (by omega)
   have lh:h < N:=by omega
   have wh:=wrap1 (k:=h) (by omega)
   (have F:=ai @q2 (ai @u1 (ai @u2 (ai @u3 (ai @u4 (ai @un_int (ai @un_intK (ai @un_uint (ai @un_uintK (ai @cv_uint (ai @cv_intU (ai @toNat_one (ai @bx_shr @tmz))))))))))));refine gG ?_;clear F)
   refine gB ?_
   (have F:=ai @tmz (ai @gx (ai @gy (ai @l0 (ai @lh (ai @hUl @encTms_len)))));refine gC (con_1 (con_cmp1 y x)) ?_;clear F)
   by_cases hc:cmpTm y x < 0
   ·have z1:(cmpTm y x < 0)=True:=eq_true hc
    (have F:=ai @z1 @tmz;refine gR ?_;clear F)
    (have F:=ai @z1 @wh;refine gG ?_;exact ⟨(h+1,j),⟨by omega,by omega,h3,fun _=>⟨y,by rw [<- hy];congr 1;omega,by omega⟩,h5⟩,gw,gw,by omega⟩)
   ·have z1:(cmpTm y x < 0)=False:=eq_false hc
    (have F:=ai @z1 @tmz;refine gR ?_;clear F)
    (have F:=@z1;refine gG ?_;exact ⟨(i,h),⟨h1,by omega,by omega,h4,fun _=>⟨y,hy,le_ge hc⟩⟩,gw,gw,by omega⟩)
  have q2:((i:Int) < (j:Int))=False:=eq_false (by omega)
  obtain rfl:i=j:=by omega
  obtain ⟨e,he⟩:∃ e,i=e+1:=⟨i - 1,by omega⟩
  have w2:IntKind.i64.wrap ((i:Int) - 1)=(e:Int):=wrapN (by omega) (by omega) (by omega)
  have hout:sortTm (A++B)=B.take (e - lo)++x::B.drop (e - lo):=by
   rw [hx]
   exact sort_put hB (fun h=>by obtain ⟨y,hy,hc⟩:=h4 (by omega);exact ⟨y,by rw [<- hy];congr 1;omega,hc⟩) (fun h=>by obtain ⟨y,hy,hc⟩:=h5 (by omega);exact ⟨y,by rw [<- hy];congr 1;omega,hc⟩)
  rw [hout]
  (have F:=ai @q2 @tmz;refine gG ?_;clear F)
  (have F:=@tmz;refine gL (ι:=Nat × List Tm) [13,58] [1000] (fun z=>[(13,.d (.one (.lit (.int .i64 (z.1:Int)))))]) (fun z=>[(1000,.buf (some (a,cap)) 41 4 (encTms z.2))]) (fun z=>lo<=z.1∧z.1<=e∧z.2=P++B.take (z.1 - lo)++x::(B.drop (z.1 - lo)++Q)) (fun z=>e - z.1) ((lo,U)) (⟨Nat.le_refl _,by omega,by rw [hU,hx,Nat.sub_self];simp⟩) (fun z hz=>?_);clear F)
  obtain ⟨k,us⟩:=z
  obtain ⟨k1,k2,hus⟩:=hz
  simp only at k1 k2 hus
  dsimp only
  by_cases hk:k < e
  ·have q3:((k:Int) < (e:Int))=True:=eq_true (by omega)
   obtain ⟨y,hy⟩:∃ y,B[k - lo]?=some y:=⟨_,List.getElem?_eq_getElem (by omega)⟩
   have hPl:(P++B.take (k - lo)).length=k:=by rw [List.length_append,List.length_take];omega
   rw [drop_cons_of hy] at hus
   have g1:us[k]?=some x:=by rw [hus];exact get_at hPl
   have g2:us[k+1]?=some y:=by rw [hus];exact get_at1 hPl
   obtain ⟨V,hV⟩:∃ V,V=P++B.take (k+1 - lo)++x::(B.drop (k+1 - lo)++Q):=⟨_,rfl⟩
   have g3:(us.set k y).set (k+1) x=V:=by
    rw [hV,hus,List.cons_append,swap_at' hPl,show k+1 - lo=k - lo+1 by omega,take_snoc_of hy];simp
   have hul:us.length=N:=by rw [hus];simp only [List.length_append,List.length_cons,List.length_take,List.length_drop];omega
   obtain ⟨k',hk'⟩:∃ k',k'=k+1:=⟨_,rfl⟩
   rw [<- hk'] at g2 g3 hV
   have wk:IntKind.i64.wrap ((k:Int)+1)=(k':Int):=wrapN (by omega) (by omega) (by omega)
   have l1:k < N:=by omega
   have l2:k' < N:=by omega
   have hls:∀ q (t:Tm),(us.set q t).length=N:=fun q t=>by rw [List.length_set,hul]
   obtain ⟨z,g4⟩:∃ z,(us.set k y)[k']?=some z:=⟨_,List.getElem?_eq_getElem (by rw [List.length_set];omega)⟩
   (have F:=ai @q3 (ai @w2 @tmz);have NN:StopAt 11:=trivial;refine gGn ?_;clear F NN)
   refine gF0 ?_
   refine gFm 0 ?_
   refine gFm 1 ?_
   refine gFm 2 ?_
   refine gFm 3 ?_
   refine (have F:=(ai wk (ai l1 (ai l2 (ai hul (ai g1 (ai g2 (ai g4 (ai hls (ai @encTms_len (ai @tms_set tmz))))))))));gFb 4 ?_)
   refine gFm 5 ?_
   refine gFm 6 ?_
   refine (have F:=(ai wk (ai l1 (ai l2 (ai hul (ai g1 (ai g2 (ai g4 (ai hls (ai @encTms_len (ai @tms_set tmz))))))))));gFb 7 ?_)
   refine (have F:=(ai wk (ai l1 (ai l2 (ai hul (ai g1 (ai g2 (ai g4 (ai hls (ai @encTms_len (ai @tms_set tmz))))))))));gFi (rows:=encTms us) 8 k' (by rw [encTms_len];omega) ?_)
   refine gFm 10 ?_
   refine gFm 11 ?_
   refine (have F:=(ai wk (ai l1 (ai l2 (ai hul (ai g1 (ai g2 (ai g4 (ai hls (ai @encTms_len (ai @tms_set tmz))))))))));gFi (rows:=encTms us) 12 k (by rw [encTms_len];omega) ?_)
   refine gFT ?_
   refine gO2 9 13 ?_ ?_
   ·refine (have F:=(ai wk (ai l1 (ai l2 (ai hul (ai g1 (ai g2 (ai g4 (ai hls (ai @encTms_len (ai @tms_set tmz))))))))));gO3 ?_)
    refine gO1 13 ?_
    refine (have F:=(ai wk (ai l1 (ai l2 (ai hul (ai g1 (ai g2 (ai g4 (ai hls (ai @encTms_len (ai @tms_set tmz))))))))));gO3 ?_)
    refine gO1 14 ?_
    refine (have F:=(ai wk (ai l1 (ai l2 (ai hul (ai g1 (ai g2 (ai g4 (ai hls (ai @encTms_len (ai @tms_set tmz))))))))));gO3 ?_)
    refine gO1 15 ?_
    refine (have F:=(ai wk (ai l1 (ai l2 (ai hul (ai g1 (ai g2 (ai g4 (ai hls (ai @encTms_len (ai @tms_set tmz))))))))));gO3 ?_)
    refine gO1 16 ?_
    refine (have F:=(ai wk (ai l1 (ai l2 (ai hul (ai g1 (ai g2 (ai g4 (ai hls (ai @encTms_len (ai @tms_set tmz))))))))));gO3 ?_)
    refine gO1 17 ?_
    refine (have F:=(ai wk (ai l1 (ai l2 (ai hul (ai g1 (ai g2 (ai g4 (ai hls (ai @encTms_len (ai @tms_set tmz))))))))));gO3 ?_)
    refine (have F:=tmz;gT0 ?_)
    refine Exists.intro _ (ai (Wk.refl _) ?_)
    rw [g3]
    (have F:=@wk;refine gG ?_;exact ⟨(k',V),⟨by omega,by omega,hV⟩,gw,gw,by omega⟩)
   ·refine (have F:=(ai wk (ai l1 (ai l2 (ai hul (ai g1 (ai g2 (ai g4 (ai hls (ai @encTms_len (ai @tms_set tmz))))))))));gO3 ?_)
    refine gO1 9 ?_
    refine (have F:=(ai wk (ai l1 (ai l2 (ai hul (ai g1 (ai g2 (ai g4 (ai hls (ai @encTms_len (ai @tms_set tmz))))))))));gO3 ?_)
    refine gO1 14 ?_
    refine (have F:=(ai wk (ai l1 (ai l2 (ai hul (ai g1 (ai g2 (ai g4 (ai hls (ai @encTms_len (ai @tms_set tmz))))))))));gO3 ?_)
    refine gO1 15 ?_
    refine (have F:=(ai wk (ai l1 (ai l2 (ai hul (ai g1 (ai g2 (ai g4 (ai hls (ai @encTms_len (ai @tms_set tmz))))))))));gO3 ?_)
    refine gO1 16 ?_
    refine (have F:=(ai wk (ai l1 (ai l2 (ai hul (ai g1 (ai g2 (ai g4 (ai hls (ai @encTms_len (ai @tms_set tmz))))))))));gO3 ?_)
    refine gO1 17 ?_
    refine (have F:=(ai wk (ai l1 (ai l2 (ai hul (ai g1 (ai g2 (ai g4 (ai hls (ai @encTms_len (ai @tms_set tmz))))))))));gO3 ?_)
    refine (have F:=tmz;gT0 ?_)
    refine Exists.intro _ (ai (Wk.refl _) ?_)
    rw [g3]
    (have F:=@wk;refine gG ?_;exact ⟨(k',V),⟨by omega,by omega,hV⟩,gw,gw,by omega⟩)
  have q3:((k:Int) < (e:Int))=False:=eq_false (by omega)
  obtain rfl:k=e:=by omega
  subst hus
  rw [show P++B.take (k - lo)++x::(B.drop (k - lo)++Q)=P++(B.take (k - lo)++x::B.drop (k - lo))++Q by simp]
  (have F:=ai @q3 (ai @w2 @tmz);refine gG ?_;clear F)
  first | exact (have F:=@e0P;gTPe (R:=RBuf a cap (P++(B.take (k - lo)++x::B.drop (k - lo))++Q)) [1000] ⟨rfl,rfl⟩) | exact (have F:=@e0P;gTP (R:=RBuf a cap (P++(B.take (k - lo)++x::B.drop (k - lo))++Q)) [1000] ⟨rfl,rfl⟩)
 have q1:((A.length:Int)=1)=False:=eq_false (by omega)
 by_cases hB1:B.length=1
 ·have q1':((B.length:Int)=1)=True:=eq_true (by omega)
  obtain ⟨x,hx⟩:∃ x,B=[x]:=List.length_eq_one_iff.1 hB1
  have gx:U[mi]?=some x:=by rw [hU];exact get_B (i:=0) (by rw [hx];rfl) (by omega)
  have l0:mi < N:=by omega
  (have F:=ai @w0 (ai @w1 (ai @q1 (ai @q1' @tmz)));refine gG ?_;clear F)
  clear q1 q1'
  (have F:=@tmz;refine gL (ι:=Nat × Nat) [14,15,16,85,103] [] (fun z=>[(14,.d (.one (.lit (.int .i64 (z.1:Int))))),(15,.d (.one (.lit (.int .i64 (z.2:Int)))))]) (fun z=>[]) (fun z=>lo<=z.1∧z.1<=z.2∧z.2<=mi∧(lo < z.1->∃ y,A[z.1 - lo - 1]?=some y∧cmpTm y x<=0)∧(z.2 < mi->∃ y,A[z.2 - lo]?=some y∧cmpTm x y<=0)) (fun z=>z.2 - z.1) ((lo,mi)) (⟨Nat.le_refl _,by omega,Nat.le_refl _,fun h=>by omega,fun h=>by omega⟩) (fun z hz=>?_);clear F)
  obtain ⟨i,j⟩:=z
  obtain ⟨h1,h2,h3,h4,h5⟩:=hz
  simp only at h1 h2 h3 h4 h5
  dsimp only
  by_cases hij:i < j
  ·have q2:((i:Int) < (j:Int))=True:=eq_true (by omega)
   obtain ⟨s,h,u1,u2,u3,u4,hh⟩:=half_of i j (by omega)
   obtain ⟨y,hy⟩:∃ y,A[h - lo]?=some y:=⟨_,List.getElem?_eq_getElem (by omega)⟩
   have gy:U[h]?=some y:=by rw [hU];exact get_A hy (by omega)
   have lh:h < N:=by omega
   have wh:=wrap1 (k:=h) (by omega)
   (have F:=ai @q2 (ai @u1 (ai @u2 (ai @u3 (ai @u4 (ai @un_int (ai @un_intK (ai @un_uint (ai @un_uintK (ai @cv_uint (ai @cv_intU (ai @toNat_one (ai @bx_shr @tmz))))))))))));refine gG ?_;clear F)
   refine gB ?_
   (have F:=ai @tmz (ai @gx (ai @gy (ai @l0 (ai @lh (ai @hUl @encTms_len)))));refine gC (con_1 (con_cmp1 x y)) ?_;clear F)
   by_cases hc:cmpTm x y < 0
   ·have z1:(cmpTm x y < 0)=True:=eq_true hc
    (have F:=ai @z1 @tmz;refine gR ?_;clear F)
    (have F:=@z1;refine gG ?_;exact ⟨(i,h),⟨h1,by omega,by omega,h4,fun _=>⟨y,hy,by omega⟩⟩,gw,gw,by omega⟩)
   ·have z1:(cmpTm x y < 0)=False:=eq_false hc
    (have F:=ai @z1 @tmz;refine gR ?_;clear F)
    (have F:=ai @z1 @wh;refine gG ?_;exact ⟨(h+1,j),⟨by omega,by omega,h3,fun _=>⟨y,by rw [<- hy];congr 1;omega,le_ge hc⟩,h5⟩,gw,gw,by omega⟩)
  have q2:((i:Int) < (j:Int))=False:=eq_false (by omega)
  obtain rfl:i=j:=by omega
  have hout:sortTm (A++B)=A.take (i - lo)++x::A.drop (i - lo):=by
   rw [hx,sortTm_congr (List.perm_append_comm (l₁:=A) (l₂:=[x]))]
   exact sort_put hA (fun h=>by obtain ⟨y,hy,hc⟩:=h4 (by omega);exact ⟨y,hy,hc⟩) (fun h=>by obtain ⟨y,hy,hc⟩:=h5 (by omega);exact ⟨y,hy,hc⟩)
  rw [hout]
  (have F:=ai @q2 @tmz;refine gG ?_;clear F)
  (have F:=@tmz;refine gL (ι:=Nat × List Tm) [17,110] [1000] (fun z=>[(17,.d (.one (.lit (.int .i64 (z.1:Int)))))]) (fun z=>[(1000,.buf (some (a,cap)) 41 4 (encTms z.2))]) (fun z=>i<=z.1∧z.1<=mi∧z.2=P++A.take (z.1 - lo)++x::(A.drop (z.1 - lo)++Q)) (fun z=>z.1) ((mi,U)) (⟨h3,Nat.le_refl _,by rw [hU,hx,show mi - lo=A.length by omega,List.take_length,List.drop_length];simp⟩) (fun z hz=>?_);clear F)
  obtain ⟨k,us⟩:=z
  obtain ⟨k1,k2,hus⟩:=hz
  simp only at k1 k2 hus
  dsimp only
  by_cases hk:i < k
  ·have q3:((i:Int) < (k:Int))=True:=eq_true (by omega)
   obtain ⟨p,hp⟩:∃ p,k=p+1:=⟨k - 1,by omega⟩
   obtain ⟨y,hy⟩:∃ y,A[p - lo]?=some y:=⟨_,List.getElem?_eq_getElem (by omega)⟩
   have hPl:(P++A.take (p - lo)).length=p:=by rw [List.length_append,List.length_take];omega
   have hus2:us=(P++A.take (p - lo))++y::x::(A.drop (k - lo)++Q):=by rw [hus,show k - lo=p - lo+1 by omega,take_snoc_of hy];simp
   have g1:us[p]?=some y:=by rw [hus2];exact get_at hPl
   have g2:us[k]?=some x:=by rw [hus2,hp];exact get_at1 hPl
   obtain ⟨V,hV⟩:∃ V,V=P++A.take (p - lo)++x::(A.drop (p - lo)++Q):=⟨_,rfl⟩
   have g3:(us.set k y).set p x=V:=by
    rw [hV,hus2,hp,swap_at hPl,drop_cons_of hy,show p+1 - lo=p - lo+1 by omega];simp
   have hul:us.length=N:=by rw [hus];simp only [List.length_append,List.length_cons,List.length_take,List.length_drop];omega
   have wk:IntKind.i64.wrap ((k:Int) - 1)=(p:Int):=wrapN (by omega) (by omega) (by omega)
   have l1:k < N:=by omega
   have l2:p < N:=by omega
   have hls:∀ q (t:Tm),(us.set q t).length=N:=fun q t=>by rw [List.length_set,hul]
   obtain ⟨z,g4⟩:∃ z,(us.set k y)[p]?=some z:=⟨_,List.getElem?_eq_getElem (by rw [List.length_set];omega)⟩
   (have F:=ai @q3 @tmz;have NN:StopAt 23:=trivial;refine gGn ?_;clear F NN)
   refine gF0 ?_
   refine gFm 0 ?_
   refine gFm 1 ?_
   refine gFm 2 ?_
   refine gFm 3 ?_
   refine (have F:=(ai wk (ai l1 (ai l2 (ai hul (ai g1 (ai g2 (ai g4 (ai hls (ai @encTms_len (ai @tms_set tmz))))))))));gFb 4 ?_)
   refine gFm 5 ?_
   refine gFm 6 ?_
   refine (have F:=(ai wk (ai l1 (ai l2 (ai hul (ai g1 (ai g2 (ai g4 (ai hls (ai @encTms_len (ai @tms_set tmz))))))))));gFb 7 ?_)
   refine (have F:=(ai wk (ai l1 (ai l2 (ai hul (ai g1 (ai g2 (ai g4 (ai hls (ai @encTms_len (ai @tms_set tmz))))))))));gFi (rows:=encTms us) 8 p (by rw [encTms_len];omega) ?_)
   refine gFm 10 ?_
   refine gFm 11 ?_
   refine (have F:=(ai wk (ai l1 (ai l2 (ai hul (ai g1 (ai g2 (ai g4 (ai hls (ai @encTms_len (ai @tms_set tmz))))))))));gFi (rows:=encTms us) 12 k (by rw [encTms_len];omega) ?_)
   refine gFT ?_
   refine gO2 9 13 ?_ ?_
   ·refine (have F:=(ai wk (ai l1 (ai l2 (ai hul (ai g1 (ai g2 (ai g4 (ai hls (ai @encTms_len (ai @tms_set tmz))))))))));gO3 ?_)
    refine gO1 13 ?_
    refine (have F:=(ai wk (ai l1 (ai l2 (ai hul (ai g1 (ai g2 (ai g4 (ai hls (ai @encTms_len (ai @tms_set tmz))))))))));gO3 ?_)
    refine gO1 14 ?_
    refine (have F:=(ai wk (ai l1 (ai l2 (ai hul (ai g1 (ai g2 (ai g4 (ai hls (ai @encTms_len (ai @tms_set tmz))))))))));gO3 ?_)
    refine gO1 15 ?_
    refine (have F:=(ai wk (ai l1 (ai l2 (ai hul (ai g1 (ai g2 (ai g4 (ai hls (ai @encTms_len (ai @tms_set tmz))))))))));gO3 ?_)
    refine gO1 16 ?_
    refine (have F:=(ai wk (ai l1 (ai l2 (ai hul (ai g1 (ai g2 (ai g4 (ai hls (ai @encTms_len (ai @tms_set tmz))))))))));gO3 ?_)
    refine gO1 17 ?_
    refine (have F:=(ai wk (ai l1 (ai l2 (ai hul (ai g1 (ai g2 (ai g4 (ai hls (ai @encTms_len (ai @tms_set tmz))))))))));gO3 ?_)
    refine (have F:=tmz;gT0 ?_)
    refine Exists.intro _ (ai (Wk.refl _) ?_)
    rw [g3]
    (have F:=@wk;refine gG ?_;exact ⟨(p,V),⟨by omega,by omega,hV⟩,gw,gw,by omega⟩)
   ·refine (have F:=(ai wk (ai l1 (ai l2 (ai hul (ai g1 (ai g2 (ai g4 (ai hls (ai @encTms_len (ai @tms_set tmz))))))))));gO3 ?_)
    refine gO1 9 ?_
    refine (have F:=(ai wk (ai l1 (ai l2 (ai hul (ai g1 (ai g2 (ai g4 (ai hls (ai @encTms_len (ai @tms_set tmz))))))))));gO3 ?_)
    refine gO1 14 ?_
    refine (have F:=(ai wk (ai l1 (ai l2 (ai hul (ai g1 (ai g2 (ai g4 (ai hls (ai @encTms_len (ai @tms_set tmz))))))))));gO3 ?_)
    refine gO1 15 ?_
    refine (have F:=(ai wk (ai l1 (ai l2 (ai hul (ai g1 (ai g2 (ai g4 (ai hls (ai @encTms_len (ai @tms_set tmz))))))))));gO3 ?_)
    refine gO1 16 ?_
    refine (have F:=(ai wk (ai l1 (ai l2 (ai hul (ai g1 (ai g2 (ai g4 (ai hls (ai @encTms_len (ai @tms_set tmz))))))))));gO3 ?_)
    refine gO1 17 ?_
    refine (have F:=(ai wk (ai l1 (ai l2 (ai hul (ai g1 (ai g2 (ai g4 (ai hls (ai @encTms_len (ai @tms_set tmz))))))))));gO3 ?_)
    refine (have F:=tmz;gT0 ?_)
    refine Exists.intro _ (ai (Wk.refl _) ?_)
    rw [g3]
    (have F:=@wk;refine gG ?_;exact ⟨(p,V),⟨by omega,by omega,hV⟩,gw,gw,by omega⟩)
  have q3:((i:Int) < (k:Int))=False:=eq_false (by omega)
  obtain rfl:i=k:=by omega
  subst hus
  rw [show P++A.take (i - lo)++x::(A.drop (i - lo)++Q)=P++(A.take (i - lo)++x::A.drop (i - lo))++Q by simp]
  (have F:=ai @q3 @tmz;refine gG ?_;clear F)
  first | exact (have F:=@e0P;gTPe (R:=RBuf a cap (P++(A.take (i - lo)++x::A.drop (i - lo))++Q)) [1000] ⟨rfl,rfl⟩) | exact (have F:=@e0P;gTP (R:=RBuf a cap (P++(A.take (i - lo)++x::A.drop (i - lo))++Q)) [1000] ⟨rfl,rfl⟩)
 have q1':((B.length:Int)=1)=False:=eq_false (by omega)
 obtain ⟨s0,mid,u1,u2,u3,u4,hmid⟩:=half_of lo hi (by omega)
 obtain ⟨nn,hnn⟩:∃ nn,nn=mid+mi:=⟨_,rfl⟩
 obtain ⟨p,hp⟩:∃ p,nn=p+1:=⟨nn - 1,by omega⟩
 have w2:IntKind.i64.wrap ((mid:Int)+(mi:Int))=(nn:Int):=wrapN (by omega) (by omega) (by omega)
 have w3:IntKind.i64.wrap ((nn:Int) - 1)=(p:Int):=wrapN (by omega) (by omega) (by omega)
 (have F:=ai @w0 (ai @w1 (ai @q1 (ai @q1' (ai @u1 (ai @u2 (ai @u3 (ai @u4 (ai @un_int (ai @un_intK (ai @un_uint (ai @un_uintK (ai @cv_uint (ai @cv_intU (ai @toNat_one (ai @bx_shr (ai @w2 @tmz))))))))))))))));refine gG ?_;clear F)
 clear q1 q1' u1 u2 u3 u4
 refine gM (ι:=Nat × Nat) [20,21] [] (fun z=>[(20,.d (.one (.lit (.int .i64 (z.1:Int))))),(21,.d (.one (.lit (.int .i64 (z.2:Int)))))]) (fun z=>[]) (fun z=>mid < mi∧z.1+hi=nn∧z.2=mid∨mi<=mid∧z.1=lo∧z.2=mi) ?_ (fun z hz=>Exists.intro _ (ai (Wk.refl _) ?_))
 ·by_cases hgt:mid < mi
  ·have q2:decide ((mid:Int) < (mi:Int))=true:=decide_eq_true (by omega)
   have w4:IntKind.i64.wrap ((nn:Int) - (hi:Int))=((nn - hi:Nat):Int):=wrapN (by omega) (by omega) (by omega)
   generalize hv:nn - hi=v at w4
   have q2':(mid < mi)=True:=eq_true hgt
   (have F:=ai @q2 (ai @q2' (ai @w4 @tmz));refine gG ?_;exact ⟨(v,mid),.inl ⟨hgt,by simp only;omega,rfl⟩,gw,gw⟩)
  ·have q2:decide ((mid:Int) < (mi:Int))=false:=decide_eq_false (by omega)
   have q2':(mi<=mid)=True:=eq_true (by omega)
   (have F:=ai @q2 (ai @q2' @tmz);refine gG ?_;exact ⟨(lo,mi),.inr ⟨by omega,rfl,rfl⟩,gw,gw⟩)
 obtain ⟨st,r0⟩:=z
 simp only at hz
 dsimp only
 (have F:=ai @w3 @tmz;refine gG ?_;clear F)
 (have F:=@tmz;refine gL (ι:=Nat × Nat) [20,21,23,151,171] [] (fun z=>[(20,.d (.one (.lit (.int .i64 (z.1:Int))))),(21,.d (.one (.lit (.int .i64 (z.2:Int)))))]) (fun z=>[]) (fun z=>st<=z.1∧z.1<=z.2∧z.2<=r0∧SymL A B lo mid st z.1∧SymR A B lo mid r0 z.2) (fun z=>z.2 - z.1) ((st,r0)) (⟨Nat.le_refl _,by omega,Nat.le_refl _,fun h=>by omega,fun h=>by omega⟩) (fun z hz=>?_);clear F)
 obtain ⟨i,j⟩:=z
 rename_i hcase
 obtain ⟨h1,h2,h3,h4,h5⟩:=hz
 simp only at h1 h2 h3 h4 h5
 dsimp only
 by_cases hij:i < j
 ·have q2:((i:Int) < (j:Int))=True:=eq_true (by omega)
  obtain ⟨s,c,u1,u2,u3,u4,hc⟩:=half_of i j (by omega)
  obtain ⟨y,hy⟩:∃ y,A[c - lo]?=some y:=⟨_,List.getElem?_eq_getElem (by omega)⟩
  obtain ⟨x,hx⟩:∃ x,B[mid - 1 - c]?=some x:=⟨_,List.getElem?_eq_getElem (by omega)⟩
  obtain ⟨d,hd⟩:∃ d,d+c=p:=⟨p - c,by omega⟩
  have gy:U[c]?=some y:=by rw [hU];exact get_A hy (by omega)
  have gx:U[d]?=some x:=by rw [hU];exact get_B hx (by omega)
  have lc:c < N:=by omega
  have ld:d < N:=by omega
  have wc:=wrap1 (k:=c) (by omega)
  have wd:IntKind.i64.wrap ((p:Int) - (c:Int))=(d:Int):=wrapN (by omega) (by omega) (by omega)
  (have F:=ai @q2 (ai @u1 (ai @u2 (ai @u3 (ai @u4 (ai @un_int (ai @un_intK (ai @un_uint (ai @un_uintK (ai @cv_uint (ai @cv_intU (ai @toNat_one (ai @bx_shr @tmz))))))))))));refine gG ?_;clear F)
  refine gB ?_
  (have F:=ai @tmz (ai @gx (ai @gy (ai @lc (ai @ld (ai @wd (ai @hUl @encTms_len))))));refine gC (con_1 (con_cmp1 x y)) ?_;clear F)
  by_cases hcc:cmpTm x y < 0
  ·have z1:(cmpTm x y < 0)=True:=eq_true hcc
   (have F:=ai @z1 @tmz;refine gR ?_;clear F)
   (have F:=@z1;refine gG ?_;exact ⟨(i,c),⟨h1,by omega,by omega,h4,fun _=>⟨x,y,hx,hy,by omega⟩⟩,gw,gw,by omega⟩)
  ·have z1:(cmpTm x y < 0)=False:=eq_false hcc
   (have F:=ai @z1 @tmz;refine gR ?_;clear F)
   (have F:=ai @z1 @wc;refine gG ?_;exact ⟨(c+1,j),⟨by omega,by omega,h3,fun _=>⟨y,x,by rw [<- hy];congr 1,by rw [<- hx];congr 1;omega,le_ge hcc⟩,h5⟩,gw,gw,by omega⟩)
 have q2:((i:Int) < (j:Int))=False:=eq_false (by omega)
 obtain rfl:i=j:=by omega
 have hcut:=sym_cut hA hB (s:=i - lo) (e:=mid - i) (fun e1 e2=>by
  obtain ⟨u,v,k1,k2,k3⟩:=h4 (by omega)
  exact ⟨u,v,by rw [<- k1];congr 1;omega,k2,k3⟩) (fun e1 e2=>by
  obtain ⟨u,v,k1,k2,k3⟩:=h5 (by omega)
  exact ⟨u,v,by rw [<- k1];congr 1;omega,k2,k3⟩)
 have eA:A=A.take (i - lo)++A.drop (i - lo):=(List.take_append_drop _ _).symm
 have eB:B=B.take (mid - i)++B.drop (mid - i):=(List.take_append_drop _ _).symm
 have lA1:(A.take (i - lo)).length=i - lo:=by rw [List.length_take];omega
 have lA2:(A.drop (i - lo)).length=mi - i:=by rw [List.length_drop];omega
 have lB1:(B.take (mid - i)).length=mid - i:=by rw [List.length_take];omega
 have lB2:(B.drop (mid - i)).length=hi+i - mi - mid:=by rw [List.length_drop];omega
 have uA1:=hA.take (i - lo)
 have uA2:=hA.drop (i - lo)
 have uB1:=hB.take (mid - i)
 have uB2:=hB.drop (mid - i)
 generalize A.take (i - lo)=A1 at hcut eA lA1 uA1
 generalize A.drop (i - lo)=A2 at hcut eA lA2 uA2
 generalize B.take (mid - i)=B1 at hcut eB lB1 uB1
 generalize B.drop (mid - i)=B2 at hcut eB lB2 uB2
 have hsort:=sort_split hcut
 rw [<- eA,<- eB] at hsort
 rw [<- hsort]
 obtain ⟨ed,hed⟩:∃ ed,ed+i=nn:=⟨nn - i,by omega⟩
 have w5:IntKind.i64.wrap ((nn:Int) - (i:Int))=(ed:Int):=wrapN (by omega) (by omega) (by omega)
 clear h4 h5 hcut hsort hA hB
 (have F:=ai @q2 (ai @w5 @tmz);refine gG ?_;clear F)
 refine gM (ι:=Bool) [185] [] (fun b=>[(185,.d (.one (.lit (.bool b))))]) (fun b=>[]) (fun b=>b=decide (i < mi∧mi < ed)) ?_ (fun b hb=>Exists.intro _ (ai (Wk.refl _) ?_))
 ·by_cases hr1:i < mi
  ·have q3:((i:Int) < (mi:Int))=True:=eq_true (by omega)
   by_cases hr2:mi < ed
   ·have q4:((mi:Int) < (ed:Int))=True:=eq_true (by omega)
    (have F:=ai @q3 (ai @q4 @tmz);refine gG ?_;exact ⟨true,(decide_eq_true (ai hr1 hr2)).symm,gw,gw⟩)
   ·have q4:((mi:Int) < (ed:Int))=False:=eq_false (by omega)
    (have F:=ai @q3 (ai @q4 @tmz);refine gG ?_;exact ⟨false,(decide_eq_false fun h=>hr2 h.2).symm,gw,gw⟩)
  ·have q3:((i:Int) < (mi:Int))=False:=eq_false (by omega)
   (have F:=ai @q3 @tmz;refine gG ?_;exact ⟨false,(decide_eq_false fun h=>hr1 h.1).symm,gw,gw⟩)
 subst hb
 refine gM (ι:=Unit) [] [1000] (fun z=>[]) (fun z=>[(1000,.buf (some (a,cap)) 41 4 (encTms (P++A1++B1++(A2++B2++Q))))]) (fun z=>True) ?_ (fun z hz=>Exists.intro _ (ai (Wk.refl _) ?_))
 ·by_cases hr:i < mi∧mi < ed
  ·rw [decide_eq_true hr]
   obtain ⟨hr1,hr2⟩:=hr
   have c:=conP_rot (P++A1) A2 B1 (B2++Q) (by omega) (by omega) (A:=i) (M:=mi) (B:=ed) (N:=N) (by rw [List.length_append];omega) (by rw [List.length_append];omega) (by rw [List.length_append];omega) (by rw [List.length_append,List.length_append];omega) hmx a cap
   rw [show P++A1++A2++B1++(B2++Q)=U by rw [hU,eA,eB];simp,show P++A1++B1++A2++(B2++Q)=P++A1++B1++(A2++B2++Q) by simp] at c
   generalize P++A1++B1++(A2++B2++Q)=V at c ⊢
   (have F:=@tmz;have NN:StopAt 40:=trivial;refine gGn ?_;clear F NN)
   refine gB ?_
   (have F:=@tmz;refine gCP [1000] [1000] (c) ?_;clear F)
   rintro r pm ⟨rfl,rfl⟩
   simp only [setA,retA,zipM,List.cons_append,List.nil_append]
   (have F:=@tmz;refine gR ?_;clear F)
   exact ⟨(),trivial,gw,gw⟩
  ·have hUU:U=P++A1++B1++(A2++B2++Q):=by
    rw [hU,eA,eB]
    rcases (show mi<=i∨mid<=i by omega) with h | h
    ·have:A2=[]:=List.eq_nil_of_length_eq_zero (by omega)
     subst this;simp
    ·have:B1=[]:=List.eq_nil_of_length_eq_zero (by omega)
     subst this;simp
   rw [<- hUU,decide_eq_false hr]
   (have F:=@tmz;refine gG ?_;exact ⟨(),trivial,gw,gw⟩)
 clear hU hUl U
 refine pwp_seqW ?_
 refine pwp_seqW ?_
 refine gM (ι:=Bool) [199] [] (fun b=>[(199,.d (.one (.lit (.bool b))))]) (fun b=>[]) (fun b=>b=decide (lo < i∧i < mid)) ?_ (fun b hb=>Exists.intro _ (ai (Wk.refl _) ?_))
 ·by_cases hr1:lo < i
  ·have q3:((lo:Int) < (i:Int))=True:=eq_true (by omega)
   by_cases hr2:i < mid
   ·have q4:((i:Int) < (mid:Int))=True:=eq_true (by omega)
    (have F:=ai @q3 (ai @q4 @tmz);refine gG ?_;exact ⟨true,(decide_eq_true (ai hr1 hr2)).symm,gw,gw⟩)
   ·have q4:((i:Int) < (mid:Int))=False:=eq_false (by omega)
    (have F:=ai @q3 (ai @q4 @tmz);refine gG ?_;exact ⟨false,(decide_eq_false fun h=>hr2 h.2).symm,gw,gw⟩)
  ·have q3:((lo:Int) < (i:Int))=False:=eq_false (by omega)
   (have F:=ai @q3 @tmz;refine gG ?_;exact ⟨false,(decide_eq_false fun h=>hr1 h.1).symm,gw,gw⟩)
 subst hb
 refine gM (ι:=Unit) [] [1000] (fun z=>[]) (fun z=>[(1000,.buf (some (a,cap)) 41 4 (encTms (P++sortTm (A1++B1)++(A2++B2++Q))))]) (fun z=>True) ?_ (fun z hz=>Exists.intro _ (ai (Wk.refl _) ?_))
 ·by_cases hr:lo < i∧i < mid
  ·rw [decide_eq_true hr]
   obtain ⟨hr1,hr2⟩:=hr
   have c:=ih P A1 B1 (A2++B2++Q) (by omega) (by omega) (by omega) uA1 uB1 (lo:=lo) (mi:=i) (hi:=mid) (N:=N) hlo (by omega) (by omega) (by simp only [List.length_append];omega) hmx a cap
   generalize P++sortTm (A1++B1)++(A2++B2++Q)=V at c ⊢
   generalize P++A1++B1++(A2++B2++Q)=V' at c ⊢
   (have F:=@tmz;have NN:StopAt 42:=trivial;refine gGn ?_;clear F NN)
   refine gB ?_
   (have F:=@tmz;refine gCP [1000] [1000] (c) ?_;clear F)
   rintro r pm ⟨rfl,rfl⟩
   simp only [setA,retA,zipM,List.cons_append,List.nil_append]
   (have F:=@tmz;refine gR ?_;clear F)
   exact ⟨(),trivial,gw,gw⟩
  ·have hs:sortTm (A1++B1)=A1++B1:=by
    rcases (show i<=lo∨mid<=i by omega) with h | h
    ·have:A1=[]:=List.eq_nil_of_length_eq_zero (by omega)
     subst this;exact sortTm_self uB1
    ·have:B1=[]:=List.eq_nil_of_length_eq_zero (by omega)
     subst this;rw [List.append_nil];exact sortTm_self uA1
   rw [hs,<- List.append_assoc P,decide_eq_false hr]
   generalize P++A1++B1++(A2++B2++Q)=V
   (have F:=@tmz;refine gG ?_;exact ⟨(),trivial,gw,gw⟩)
 have hsl:(sortTm (A1++B1)).length=mid - lo:=by rw [sortTm_len,List.length_append];omega
 generalize sortTm (A1++B1)=S1 at hsl ⊢
 rw [show P++S1++(A2++B2++Q)=P++S1++A2++B2++Q by simp,show P++(S1++sortTm (A2++B2))++Q=P++S1++sortTm (A2++B2)++Q by simp]
 refine pwp_seqW ?_
 refine gM (ι:=Bool) [213] [] (fun b=>[(213,.d (.one (.lit (.bool b))))]) (fun b=>[]) (fun b=>b=decide (mid < ed∧ed < hi)) ?_ (fun b hb=>Exists.intro _ (ai (Wk.refl _) ?_))
 ·by_cases hr1:mid < ed
  ·have q3:((mid:Int) < (ed:Int))=True:=eq_true (by omega)
   by_cases hr2:ed < hi
   ·have q4:((ed:Int) < (hi:Int))=True:=eq_true (by omega)
    (have F:=ai @q3 (ai @q4 @tmz);refine gG ?_;exact ⟨true,(decide_eq_true (ai hr1 hr2)).symm,gw,gw⟩)
   ·have q4:((ed:Int) < (hi:Int))=False:=eq_false (by omega)
    (have F:=ai @q3 (ai @q4 @tmz);refine gG ?_;exact ⟨false,(decide_eq_false fun h=>hr2 h.2).symm,gw,gw⟩)
  ·have q3:((mid:Int) < (ed:Int))=False:=eq_false (by omega)
   (have F:=ai @q3 @tmz;refine gG ?_;exact ⟨false,(decide_eq_false fun h=>hr1 h.1).symm,gw,gw⟩)
 subst hb
 by_cases hr:mid < ed∧ed < hi
 ·rw [decide_eq_true hr]
  obtain ⟨hr1,hr2⟩:=hr
  have c:=ih (P++S1) A2 B2 Q (by omega) (by omega) (by omega) uA2 uB2 (lo:=mid) (mi:=ed) (hi:=hi) (N:=N) (by rw [List.length_append];omega) (by rw [List.length_append];omega) (by rw [List.length_append];omega) (by simp only [List.length_append];omega) hmx a cap
  generalize P++S1++sortTm (A2++B2)++Q=V at c ⊢
  generalize P++S1++A2++B2++Q=V' at c ⊢
  (have F:=@tmz;have NN:StopAt 44:=trivial;refine gGn ?_;clear F NN)
  refine gB ?_
  (have F:=@tmz;refine gCP [1000] [1000] (c) ?_;clear F)
  rintro r pm ⟨rfl,rfl⟩
  simp only [setA,retA,zipM,List.cons_append,List.nil_append]
  (have F:=@tmz;refine gR ?_;clear F)
  first | exact (have F:=@e0P;gTPe (R:=RBuf a cap V) [1000] ⟨rfl,rfl⟩) | exact (have F:=@e0P;gTP (R:=RBuf a cap V) [1000] ⟨rfl,rfl⟩)
 ·have hs:sortTm (A2++B2)=A2++B2:=by
   rcases (show ed<=mid∨hi<=ed by omega) with h | h
   ·have:A2=[]:=List.eq_nil_of_length_eq_zero (by omega)
    subst this;exact sortTm_self uB2
   ·have:B2=[]:=List.eq_nil_of_length_eq_zero (by omega)
    subst this;rw [List.append_nil];exact sortTm_self uA2
  rw [hs,<- List.append_assoc (P++S1),decide_eq_false hr]
  generalize P++S1++A2++B2++Q=V
  (have F:=@tmz;refine gG ?_;clear F)
  first | exact (have F:=@e0P;gTPe (R:=RBuf a cap V) [1000] ⟨rfl,rfl⟩) | exact (have F:=@e0P;gTP (R:=RBuf a cap V) [1000] ⟨rfl,rfl⟩)
end Go.Proofs.YtohilkmdjdfljaaGreat
namespace Go.Proofs.YtohilkmdjdfljaaGreat
open Go.RowKit
theorem perm_mid {X A B r ts:List Tm} (h:(X++A++r).Perm ts) (hB:B.Perm A):(X++B++r).Perm ts:=((List.Perm.append_left X hB).append_right r).trans h
set_option maxHeartbeats 16000000 in
set_option maxRecDepth 100000 in
theorem conP_stableC (ts:List Tm) {N:Nat} (hN:N=ts.length) (hmx:N<=4000000) (a:Option Addr) (cap:Nat) :
  ConP e0 179 [.one (.lit (.slice a N cap)),.one (.lit (.int .i64 N)),.one (.fn 140 [])] [.buf (some (a,cap)) 41 4 (encTms ts)] (RBuf a cap (sortTm ts)):=by
 refine gIP (ts:=[]) [1000] 18014433942971335 Tryz.func179 ?_
 (have F:=@tmz;refine gG ?_;clear F)
 (have F:=@tmz;refine gL (ι:=(Nat × Nat) × List Tm) [7,8,13] [1000] (fun z=>[(7,.d (.one (.lit (.int .i64 (z.1.1:Int))))),(8,.d (.one (.lit (.int .i64 (z.1.2:Int)))))]) (fun z=>[(1000,.buf (some (a,cap)) 41 4 (encTms z.2))]) (fun z=>z.1.2=z.1.1+20∧z.1.1<=N∧∃ X,z.2=X++ts.drop z.1.1∧X.length=z.1.1∧Full 20 X∧X.Perm (ts.take z.1.1)) (fun z=>N - z.1.1) (((0,20),ts)) (⟨rfl,Nat.zero_le _,[],rfl,rfl,.nil,List.Perm.refl _⟩) (fun z hz=>?_);clear F)
 obtain ⟨⟨i,j⟩,us⟩:=z
 obtain ⟨hj,hi,X,hus,hX,hF,hp⟩:=hz
 simp only at hj hi hus hX hp
 dsimp only
 by_cases hlt:j<=N
 ·have q1:((j:Int)<=(N:Int))=True:=eq_true (by omega)
  have hd:ts.drop i=(ts.drop i).take 20++ts.drop j:=by rw [hj,<- List.drop_drop,List.take_append_drop]
  have hl:((ts.drop i).take 20).length=20:=by rw [List.length_take,List.length_drop];omega
  have ht:ts.take j=ts.take i++(ts.drop i).take 20:=by rw [hj,List.take_add]
  have c:=conP_ins X ((ts.drop i).take 20) (ts.drop j) (A:=i) (B:=j) (N:=N) hX.symm (by omega) (by rw [List.length_drop];omega) hmx a cap
  rw [List.append_assoc X,<- hd,<- hus] at c
  have wj:IntKind.i64.wrap ((j:Int)+20)=((j+20:Nat):Int):=wrapN (by omega) (by omega) (by omega)
  obtain ⟨V,hV⟩:∃ V,V=X++sortTm ((ts.drop i).take 20)++ts.drop j:=⟨_,rfl⟩
  rw [<- hV] at c
  obtain ⟨j',hj'⟩:∃ j',j'=j+20:=⟨_,rfl⟩
  rw [<- hj'] at wj
  (have F:=ai @q1 @tmz;have NN:StopAt 3:=trivial;refine gGn ?_;clear F NN)
  refine gB ?_
  (have F:=@tmz;refine gCP [1000] [1000] (c) ?_;clear F)
  rintro r pm ⟨rfl,rfl⟩
  simp only [setA,retA,zipM,List.cons_append,List.nil_append]
  (have F:=@tmz;refine gR ?_;clear F)
  (have F:=@wj;refine gG ?_;exact ⟨((j,j'),V),⟨hj',hlt,X++sortTm ((ts.drop i).take 20),hV,by rw [List.length_append,sortTm_len];simp only;omega,hF.snoc (by rw [sortTm_len];exact hl) (sortTm_up _),by simp only;rw [ht];exact hp.append (sortTm_perm _)⟩,gw,gw,by dsimp only;omega⟩)
 have q1:((j:Int)<=(N:Int))=False:=eq_false (by omega)
 have c:=conP_ins X (ts.drop i) [] (A:=i) (B:=N) (N:=N) hX.symm (by rw [List.length_drop];omega) (by rw [List.length_drop];simp;omega) hmx a cap
 rw [List.append_nil,List.append_nil,<- hus] at c
 have hB:Blks 20 (X++sortTm (ts.drop i)):=hF.blks (by rw [sortTm_len,List.length_drop];omega) (sortTm_up _)
 have hP:(X++sortTm (ts.drop i)).Perm ts:=by
  have:=hp.append (sortTm_perm (ts.drop i))
  rwa [List.take_append_drop] at this
 generalize X++sortTm (ts.drop i)=vs at c hB hP
 (have F:=ai @q1 @tmz;have NN:StopAt 6:=trivial;refine gGn ?_;clear F NN)
 refine gB ?_
 (have F:=@tmz;refine gCP [1000] [1000] (c) ?_;clear F)
 rintro r pm ⟨rfl,rfl⟩
 simp only [setA,retA,zipM,List.cons_append,List.nil_append]
 (have F:=@tmz;refine gR ?_;clear F)
 clear c q1 hus hF hp us X hX hi hj
 (have F:=@tmz;refine gG ?_;clear F)
 (have F:=@tmz;refine gL (ι:=Nat × List Tm) [6,7,8,9,30,35,54] [1000] (fun z=>[(6,.d (.one (.lit (.int .i64 (z.1:Int)))))]) (fun z=>[(1000,.buf (some (a,cap)) 41 4 (encTms z.2))]) (fun z=>0 < z.1∧z.1<=8000000∧Blks z.1 z.2∧z.2.Perm ts) (fun z=>N - z.1) ((20,vs)) (⟨by omega,by omega,hB,hP⟩) (fun z hz=>?_);clear F)
 clear hB hP vs hlt i j
 obtain ⟨k,us⟩:=z
 obtain ⟨hk0,hk8,hB,hP⟩:=hz
 simp only at hk0 hk8 hB hP
 dsimp only
 by_cases hlt:k < N
 rotate_left
 ·have q1:((k:Int) < (N:Int))=False:=eq_false (by omega)
  have e:us=sortTm ts:=sortTm_of hP (hB.up (by rw [hP.length_eq];omega))
  subst e
  (have F:=ai @q1 @tmz;refine gG ?_;clear F)
  first | exact (have F:=@e0P;gTPe (R:=RBuf a cap (sortTm ts)) [1000] ⟨rfl,rfl⟩) | exact (have F:=@e0P;gTP (R:=RBuf a cap (sortTm ts)) [1000] ⟨rfl,rfl⟩)
 have q1:((k:Int) < (N:Int))=True:=eq_true (by omega)
 obtain ⟨k2,hk2⟩:∃ k2,k2=2 * k:=⟨_,rfl⟩
 have w1:IntKind.i64.wrap (2 * (k:Int))=(k2:Int):=wrapN (by omega) (by omega) (by omega)
 have w2:IntKind.i64.wrap ((k:Int) * 2)=(k2:Int):=wrapN (by omega) (by omega) (by omega)
 (have F:=ai @q1 (ai @w1 @tmz);refine gG ?_;clear F)
 (have F:=@tmz;refine gL (ι:=(Nat × Nat) × List Tm) [7,8,35] [1000] (fun z=>[(7,.d (.one (.lit (.int .i64 (z.1.1:Int))))),(8,.d (.one (.lit (.int .i64 (z.1.2:Int)))))]) (fun z=>[(1000,.buf (some (a,cap)) 41 4 (encTms z.2))]) (fun z=>z.1.2=z.1.1+k2∧z.1.1<=N∧∃ X Y,z.2=X++Y∧X.length=z.1.1∧Full k2 X∧Blks k Y∧(X++Y).Perm ts) (fun z=>N - z.1.1) (((0,k2),us)) (⟨(Nat.zero_add _).symm,Nat.zero_le _,[],us,rfl,rfl,.nil,hB,hP⟩) (fun z hz=>?_);clear F)
 obtain ⟨⟨i,j⟩,vs⟩:=z
 obtain ⟨hj,hi,X,Y,hvs,hX,hF,hY,hp⟩:=hz
 simp only at hj hi hvs hX
 dsimp only
 have hpl:=hp.length_eq
 rw [List.length_append] at hpl
 obtain ⟨m,hm⟩:∃ m,m=i+k:=⟨_,rfl⟩
 have w3:IntKind.i64.wrap ((i:Int)+(k:Int))=(m:Int):=wrapN (by omega) (by omega) (by omega)
 by_cases hjl:j<=N
 ·have q2:((j:Int)<=(N:Int))=True:=eq_true (by omega)
  obtain ⟨A,B,r,hY',hA,hB',uA,uB,hr⟩:=hY.two hk0 (by omega)
  have hYl:=congrArg List.length hY'
  simp only [List.length_append] at hYl
  have c:=conP_sym _ X A B r (Nat.le_refl _) (by omega) (by omega) uA uB (lo:=i) (mi:=m) (hi:=j) (N:=N) hX.symm (by omega) (by omega) (by omega) hmx a cap
  have e1:X++A++B++r=vs:=by rw [hvs,hY'];simp
  rw [e1] at c
  have hp2:(X++sortTm (A++B)++r).Perm ts:=perm_mid (A:=A++B) (by rw [<- List.append_assoc,e1,hvs];exact hp) (sortTm_perm _)
  obtain ⟨V,hV⟩:∃ V,V=X++sortTm (A++B)++r:=⟨_,rfl⟩
  rw [<- hV] at c
  obtain ⟨j',hj'⟩:∃ j',j'=j+k2:=⟨_,rfl⟩
  have wj:IntKind.i64.wrap ((j:Int)+(k2:Int))=(j':Int):=wrapN (by omega) (by omega) (by omega)
  (have F:=ai @q2 @tmz;have NN:StopAt 10:=trivial;refine gGn ?_;clear F NN)
  refine gB ?_
  (have F:=ai @tmz @w3;refine gCP [1000] [1000] (c) ?_;clear F)
  rintro r' pm ⟨rfl,rfl⟩
  simp only [setA,retA,zipM,List.cons_append,List.nil_append]
  (have F:=@tmz;refine gR ?_;clear F)
  (have F:=ai @w1 @wj;refine gG ?_;exact ⟨((j,j'),V),⟨hj',hjl,X++sortTm (A++B),r,hV,by simp only;rw [List.length_append,sortTm_len,List.length_append];omega,hF.snoc (by rw [sortTm_len,List.length_append];omega) (sortTm_up _),hr,hp2⟩,gw,gw,by dsimp only;omega⟩)
 have q2:((j:Int)<=(N:Int))=False:=eq_false (by omega)
 by_cases hmn:m < N
 ·have q3:((m:Int) < (N:Int))=True:=eq_true (by omega)
  obtain ⟨A,B,hY',hA,uA,hB'⟩:=hY.split (by omega)
  have hYl:=congrArg List.length hY'
  simp only [List.length_append] at hYl
  have uB:=hB'.up (by omega)
  have c:=conP_sym _ X A B [] (Nat.le_refl _) (by omega) (by omega) uA uB (lo:=i) (mi:=m) (hi:=N) (N:=N) hX.symm (by omega) (by omega) (by simp only [List.length_nil];omega) hmx a cap
  have e1:X++A++B++[]=vs:=by rw [hvs,hY'];simp
  rw [e1] at c
  have hp2:(X++sortTm (A++B)++[]).Perm ts:=perm_mid (A:=A++B) (by rw [<- List.append_assoc,e1,hvs];exact hp) (sortTm_perm _)
  rw [List.append_nil] at hp2
  obtain ⟨V,hV⟩:∃ V,V=X++sortTm (A++B):=⟨_,rfl⟩
  rw [List.append_nil,<- hV] at c
  (have F:=ai @q2 (ai @q3 (ai @w3 @tmz));have NN:StopAt 15:=trivial;refine gGn ?_;clear F NN)
  refine gB ?_
  (have F:=@tmz;refine gCP [1000] [1000] (c) ?_;clear F)
  rintro r' pm ⟨rfl,rfl⟩
  simp only [setA,retA,zipM,List.cons_append,List.nil_append]
  (have F:=@tmz;refine gR ?_;clear F)
  (have F:=@w2;refine gG ?_;exact ⟨(k2,V),⟨by omega,by omega,by rw [hV];exact hF.blks (by rw [sortTm_len,List.length_append];omega) (sortTm_up _),by rw [hV];exact hp2⟩,gw,gw,by omega⟩)
 have q3:((m:Int) < (N:Int))=False:=eq_false (by omega)
 (have F:=ai @q2 (ai @q3 (ai @w2 @w3));refine gG ?_;exact ⟨(k2,vs),⟨by omega,by omega,by rw [hvs];exact hF.blks (by omega) (hY.up (by omega)),by rw [hvs];exact hp⟩,gw,gw,by omega⟩)
set_option maxHeartbeats 8000000 in
set_option maxRecDepth 100000 in
theorem conP_stable (ts:List Tm) (hmx:ts.length<=4000000) (a:Option Addr) (cap:Nat) :
  ConP e0 149 [.one (.lit (.slice a ts.length cap)),.one (.fn 140 [])] [.buf (some (a,cap)) 41 4 (encTms ts)] (RBuf a cap (sortTm ts)):=by
 refine gIP (ts:=[]) [1000] 3 Tryz.func149 ?_
 refine gB ?_
 (have F:=@tmz;refine gCP [1000] [1000] (conP_stableC ts rfl hmx a cap) ?_;clear F)
 rintro r pm ⟨rfl,rfl⟩
 simp only [setA,retA,zipM,List.cons_append,List.nil_append]
 (have F:=@tmz;refine gR ?_;clear F)
 (have F:=@tmz;refine gG ?_;clear F)
 first | exact (have F:=@e0P;gTPe (R:=RBuf a cap (sortTm ts)) [1000] ⟨rfl,rfl⟩) | exact (have F:=@e0P;gTP (R:=RBuf a cap (sortTm ts)) [1000] ⟨rfl,rfl⟩)
end Go.Proofs.YtohilkmdjdfljaaGreat
namespace Go.Proofs.YtohilkmdjdfljaaGreat
open Go.RowKit
theorem flArgs_bound {g:Sgn} {o:Opr} {op:Int}:∀ {xs:List Tm},(∀ a∈xs,TermOk g a)->(flArgs o op xs).length<=60 * xs.length∧sizeTms (flArgs o op xs)<=60 * xs.length∧depthTms (flArgs o op xs)<=20
 | [],_=>⟨Nat.le_refl _,Nat.le_refl _,by simp [flArgs,depthTms]⟩
 | a::xs,h=>by
  obtain ⟨i1,i2,i3⟩:=flArgs_bound (o:=o) (op:=op) fun x hx=>h x (List.mem_cons_of_mem _ hx)
  have ha:=h a List.mem_cons_self
  have e:flArgs o op (a::xs)=flArg o op a++flArgs o op xs:=rfl
  have s1:=ha.size
  have s2:=ha.depth
  rw [sizeTm_eq] at s1
  rw [depthTm_eq] at s2
  have sl:=sizeTms_len a.args
  have hf:(flArg o op a).length<=60∧sizeTms (flArg o op a)<=60∧depthTms (flArg o op a)<=20:=by
   unfold flArg
   split
   ·exact ⟨by omega,by omega,by omega⟩
   ·split
    ·exact ⟨by simp,by simp [sizeTms],by simp [depthTms]⟩
    ·refine ⟨by simp,?_,?_⟩
     ·have:=ha.size;simp only [sizeTms];omega
     ·have:=ha.depth;simp only [depthTms];omega
  have happ:∀ (l m:List Tm),sizeTms (l++m)=sizeTms l+sizeTms m∧depthTms (l++m)=max (depthTms l) (depthTms m):=fun l m=>by
   induction l with
   | nil=>simp [sizeTms,depthTms]
   | cons x l ih=>simp only [List.cons_append,sizeTms,depthTms,ih.1,ih.2];omega
  rw [e,List.length_append,(happ _ _).1,(happ _ _).2,List.length_cons]
  omega
section
variable {g:Sgn} {mc:C}
set_option maxHeartbeats 4000000 in
set_option maxRecDepth 100000 in
theorem con_unitOf (hg:SgnOk g) {op:Int} {o:Opr} (h0:0<=op) (ho:g.ops[op.toNat]?=some o) (hu:o.unit≠0):Con e0 148 [.one (.ptr (encX g mc)),.one (.lit (.int .i64 op))] [.agg (encTm (unitTm o))]:=by
 have hax:=hg.axs o (List.mem_of_getElem? ho)
 have hlo:=hax.lo
 have hhi:=hax.hi
 have hln:=hg.len
 have hw:IntKind.i64.wrap (o.unit - 1)=o.unit - 1:=wrapN rfl (by omega) (by omega)
 have em:encTm (unitTm o)=[.lit (.int .i64 (o.unit - 1)),.lit (.string ByteArray.empty),.lit (.int .i64 0),.sl []]:=by simp only [unitTm,if_neg hu,encTm,encTms]
 refine gI (ts:=[.cell 4 41]) 19 Tryz.func148 ?_
 (have F:=ai @encX_u (ai @h0 (ai @ho (ai @encOpr_u (ai @hw (ai @em @tmz)))));refine gG ?_;exact gTd)
open Classical in
set_option maxHeartbeats 32000000 in
set_option maxRecDepth 100000 in
theorem con_build (hg:SgnOk g) {op:Int} {o:Opr} {d:Dcl} (h0:0<=op) (ho:g.ops[op.toNat]?=some o) (hd:o.decls[0]?=some d) (xs:List Tm) (ha:∀ a∈xs,TermOk g a) (hl:xs.length<=1000):Con e0 110 [.one (.ptr (encX g mc)),.one (.lit (.int .i64 op)),.one (.sl (encTms xs))] [.agg (encTm ((mkO g o d op xs).getD zTm)),.one (.lit (.bool (mkO g o d op xs).isSome))]:=by
 have hz:=zTm_u
 have hfb:=flArgs_bound (o:=o) (op:=op) ha
 refine gI (ts:=[.cell 6 41,.slot 7]) 85070612101775940130758990405381922759 Tryz.func110 ?_
 by_cases hAr:ArB o d xs.length
 ·rw [show mkO g o d op xs=none by unfold mkO;rw [if_pos hAr]]
  rcases hAr with ⟨h1,h2⟩ | ⟨h1,h2⟩
  ·have q1:((xs.length:Int) < 2)=True:=eq_true (by omega)
   (have F:=ai @encX_u (ai @h0 (ai @ho (ai @encOpr_u (ai @h1 (ai @q1 (ai @hz @tmz))))));refine gG ?_;exact gTd)
  ·have q1:((xs.length:Int)=(d.args.length:Int))=False:=eq_false (by omega)
   (have F:=ai @encX_u (ai @h0 (ai @ho (ai @encOpr_u (ai @h1 (ai @hd (ai @encDcl_u (ai @q1 (ai @hz @tmz))))))));refine gG ?_;exact gTd)
 (have F:=ai @tmz (ai @encX_u (ai @h0 (ai @ho @encOpr_u)));refine gG ?_;clear F)
 refine gM (ι:=Unit) [43] [] (fun u=>[(43,A.d (.one (.lit (.bool false))))]) (fun u=>[]) (fun u=>True) ?_ (fun u hu=>Exists.intro _ (ai (Wk.refl _) ?_))
 ·cases ha:o.assoc with
  | true =>
   have c1:((xs.length:Int) < 2)=False:=eq_false fun c=>hAr (.inl ⟨ha,by omega⟩)
   (have F:=ai @tmz (ai @encOpr_u (ai @ha @c1));refine gG ?_;exact ⟨(),trivial,gw,gw⟩)
  | false =>
   have c3:((xs.length:Int)=(d.args.length:Int))=True:=eq_true (by have:¬ (xs.length≠d.args.length):=fun c=>hAr (.inr ⟨ha,c⟩);omega)
   (have F:=ai @tmz (ai @encOpr_u (ai @ha (ai @hd (ai @encDcl_u @c3))));refine gG ?_;exact ⟨(),trivial,gw,gw⟩)
 have hnas:o.assoc=false->xs.length=d.args.length:=fun h=>Classical.byContradiction fun c=>hAr (.inr ⟨h,c⟩)
 have hfl0:flArgs o op []=[]:=rfl
 (have F:=@tmz;refine gG ?_;clear F)
 (have F:=ai @hfl0 (ai @encTms_nil @tmz);refine gL (ι:=Nat) [7,9,10,11,48,49,60,62,75] [9] (fun i=>[(48,A.d (.one (.lit (.int .i64 i)))),(9,.buf 9)]) (fun i=>[(9,.buf none 41 4 (encTms (flArgs o op (xs.take i))))]) (fun i=>i<=xs.length∧∀ (j:Nat) a,j < i->xs[j]?=some a->KArg g o d j a) (fun i=>xs.length - i) (0) (⟨Nat.zero_le _,fun j a h=>absurd h (by omega)⟩) (fun i hi=>?_);clear F)
 obtain ⟨hi,hall⟩:=hi
 by_cases hlt:i < xs.length
 ·obtain ⟨a,hai⟩:∃ a,xs[i]?=some a:=⟨_,List.getElem?_eq_getElem hlt⟩
  have hT:=ha a (List.mem_of_getElem? hai)
  have q1:((i:Int) < (xs.length:Int))=True:=eq_true (by omega)
  have hw1:=wrap1 (k:=i) (by omega)
  obtain ⟨k,hk⟩:=argAt_get hg ho hd hnas hlt
  have hst:=flArgs_snoc (o:=o) (op:=op) hai
  have hle:=flArgs_len_take o op xs (i+1)
  rw [hst,List.length_append] at hle
  (have F:=ai @q1 (ai @hai @tmz);have NN:StopAt 8:=trivial;refine gGn ?_;clear F NN)
  refine gB ?_
  (have F:=@tmz;refine gC (con_kindOf hg hT.form.node) ?_;clear F)
  (have F:=@tmz;refine gC (con_argKind hg h0 ho hd hk) ?_;clear F)
  by_cases hkd:kindTm g a=((kd g.sorts k:Nat):Int)
  rotate_left
  ·have e:mkO g o d op xs=none:=by
    unfold mkO
    rw [if_neg hAr,if_neg fun h=>by
     obtain ⟨k',hk',he⟩:=h i a hai
     rw [hk] at hk'
     injection hk' with hk'
     subst hk'
     exact hkd he]
   rw [e]
   (have F:=ai @tmz @hkd;refine gR ?_;clear F)
   (have F:=ai @hz @tmz;refine gG ?_;exact gTd)
  have hnext:i+1<=xs.length∧∀ (j:Nat) a,j < i+1->xs[j]?=some a->KArg g o d j a:=⟨hlt,fun j a' hj ha'=>by
   by_cases e:j=i
   ·subst e
    rw [hai] at ha'
    injection ha' with ha'
    subst ha'
    exact ⟨k,hk,hkd⟩
   ·exact hall j a' (by omega) ha'⟩
  have l1:rowsB 4 (encTms (flArgs o op (xs.take i)))=true:=rb_tm _
  have l5:rowsB 4 (encTms a.args)=true:=rb_tm _
  by_cases hN:o.assoc=true∧a.op=op
  ·have e:flArg o op a=a.args:=by unfold flArg;rw [if_pos hN]
   rw [e] at hst hle
   have l3:((flArgs o op (xs.take i)).length+a.args.length<=maxApp)=True:=eq_true (by unfold maxApp;omega)
   have l4:encTms (flArgs o op (xs.take i))++encTms a.args=encTms (flArgs o op (xs.take (i+1))):=by rw [hst,encTms_app]
   obtain ⟨hN1,hN2⟩:=hN
   have q2:(a.op=op)=True:=eq_true hN2
   (have F:=ai @tmz @hkd;refine gR ?_;clear F)
   (have F:=ai @tmz (ai @encOpr_u (ai @hN1 (ai @q2 (ai @l1 (ai @l5 (ai @l3 (ai @l4 @hw1)))))));refine gG ?_;exact ⟨i+1,hnext,gw,gw,by omega⟩)
  ·have cU:=con_isUnit (mc:=mc) hg h0 ho a
   have hne:o.assoc=true->(a.op=op)=False:=fun h1=>eq_false fun h2=>hN ⟨h1,h2⟩
   (have F:=ai @tmz @hkd;refine gR ?_;clear F)
   (have F:=ai @tmz (ai @encOpr_u @hne);have NN:StopAt 12:=trivial;refine gGn ?_;clear F NN)
   by_cases hU:o.unit≠0∧a.op=o.unit - 1
   ·have e:flArg o op a=[]:=by unfold flArg;rw [if_neg hN,if_pos hU]
    rw [e,List.append_nil] at hst
    rw [decide_eq_true hU] at cU
    rw [<- hst]
    rcases Bool.eq_false_or_eq_true o.assoc with hac | hac
    ·have hq:=hne hac
     (have F:=ai @tmz (ai @encOpr_u (ai @hac @hq));have NN:StopAt 12:=trivial;refine gGn ?_;clear F NN)
     refine gB ?_
     (have F:=@tmz;refine gC (cU) ?_;clear F)
     (have F:=@tmz;refine gR ?_;clear F)
     (have F:=ai @tmz (ai @hac @hw1);refine gG ?_;exact ⟨i+1,hnext,gw,gw,by omega⟩)
    ·(have F:=ai @tmz (ai @encOpr_u @hac);have NN:StopAt 12:=trivial;refine gGn ?_;clear F NN)
     refine gB ?_
     (have F:=@tmz;refine gC (cU) ?_;clear F)
     (have F:=@tmz;refine gR ?_;clear F)
     (have F:=ai @tmz (ai @hac @hw1);refine gG ?_;exact ⟨i+1,hnext,gw,gw,by omega⟩)
   ·have e:flArg o op a=[a]:=by unfold flArg;rw [if_neg hN,if_neg hU]
    rw [e] at hst hle
    rw [decide_eq_false hU] at cU
    have l3:((flArgs o op (xs.take i)).length+1<=maxApp)=True:=eq_true (by simp only [List.length_cons,List.length_nil] at hle;unfold maxApp;omega)
    have l4:encTms (flArgs o op (xs.take i))++[encTm a]=encTms (flArgs o op (xs.take (i+1))):=by rw [hst,encTms_app,encTms_one]
    rcases Bool.eq_false_or_eq_true o.assoc with hac | hac
    ·have hq:=hne hac
     (have F:=ai @tmz (ai @encOpr_u (ai @hac @hq));have NN:StopAt 12:=trivial;refine gGn ?_;clear F NN)
     refine gB ?_
     (have F:=@tmz;refine gC (cU) ?_;clear F)
     (have F:=@tmz;refine gR ?_;clear F)
     (have F:=ai @tmz (ai @hac (ai @l1 (ai @l3 (ai @l4 @hw1))));refine gG ?_;exact ⟨i+1,hnext,gw,gw,by omega⟩)
    ·(have F:=ai @tmz (ai @encOpr_u @hac);have NN:StopAt 12:=trivial;refine gGn ?_;clear F NN)
     refine gB ?_
     (have F:=@tmz;refine gC (cU) ?_;clear F)
     (have F:=@tmz;refine gR ?_;clear F)
     (have F:=ai @tmz (ai @hac (ai @l1 (ai @l3 (ai @l4 @hw1))));refine gG ?_;exact ⟨i+1,hnext,gw,gw,by omega⟩)
 ·obtain rfl:i=xs.length:=by omega
  have q1:((xs.length:Int) < (xs.length:Int))=False:=eq_false (by omega)
  rw [List.take_length]
  have hm:mkO g o d op xs=mkL o op (flArgs o op xs):=by
   unfold mkO
   rw [if_neg hAr,if_pos fun j a h=>hall j a (List.getElem?_eq_some_iff.1 h).1 h]
  rw [hm]
  clear hm hall hnas
  generalize hL:flArgs o op xs=L at hfb ⊢
  obtain ⟨b1,b2,b3⟩:=hfb
  have hax:=hg.axs o (List.mem_of_getElem? ho)
  have hlo:=hax.lo
  have cUn:=fun hu=>con_unitOf (mc:=mc) hg h0 ho hu
  by_cases hu:o.unit≠0∧L.length < 2
  ·have e:mkL o op L=some (L.headD (unitTm o)):=by unfold mkL;rw [if_pos hu]
   rw [e]
   obtain ⟨hu1,hu2⟩:=hu
   have q2:(o.unit=0)=False:=eq_false hu1
   have q3:((L.length:Int) < 2)=True:=eq_true (by omega)
   cases L with
   | nil =>
    have z1:(((0:Nat):Int) < 2)=True:=eq_true (by omega)
    have z2:(((0:Nat):Int)=1)=False:=eq_false (by omega)
    (have F:=ai @q1 (ai @encOpr_u (ai @q2 (ai @z1 (ai @z2 @tmz))));have NN:StopAt 18:=trivial;refine gGn ?_;clear F NN)
    refine gB ?_
    (have F:=@tmz;refine gC (cUn hu1) ?_;clear F)
    (have F:=@tmz;refine gR ?_;clear F)
    (have F:=@tmz;refine gG ?_;exact gTd)
   | cons b bs =>
    have hb:bs=[]:=List.eq_nil_of_length_eq_zero (by simp only [List.length_cons] at hu2;omega)
    subst hb
    have z1:(((0+1:Nat):Int) < 2)=True:=eq_true (by omega)
    have z2:(((0+1:Nat):Int)=1)=True:=eq_true (by omega)
    have z3:(((1:Nat):Int) < 2)=True:=eq_true (by omega)
    have z4:(((1:Nat):Int)=1)=True:=eq_true (by omega)
    have q5:([b]:List Tm)[0]?=some b:=rfl
    have z5:(0 < 0+1)=True:=eq_true (by omega)
    have z6:((0:Nat) < 1)=True:=eq_true (by omega)
    have z7:Int.toNat 0=0:=rfl
    have q6:(0 < [b].length)=True:=eq_true (by simp)
    (have F:=ai @q1 (ai @encOpr_u (ai @q2 (ai @q3 (ai @z1 (ai @z2 (ai @z3 (ai @z4 (ai @z5 (ai @z6 (ai @z7 (ai @q5 (ai @q6 @tmz))))))))))));refine gG ?_;exact gTd)
  ·have hml:mkL o op L=if BigT o op (srtO o L) then none else some (appT op (srtO o L)):=by unfold mkL;rw [if_neg hu]
   rw [hml]
   clear hml cUn
   (have F:=ai @q1 @tmz;refine gG ?_;clear F)
   refine gM (ι:=Unit) [93] [] (fun u=>[(93,A.d (.one (.lit (.bool false))))]) (fun u=>[]) (fun u=>True) ?_ (fun u hu=>Exists.intro _ (ai (Wk.refl _) ?_))
   ·by_cases hu0:o.unit=0
    ·have q2:(o.unit=0)=True:=eq_true hu0
     (have F:=ai @encOpr_u (ai @q2 @tmz);refine gG ?_;exact ⟨(),trivial,gw,gw⟩)
    ·have q2:(o.unit=0)=False:=eq_false hu0
     have q3:((L.length:Int) < 2)=False:=eq_false fun h=>hu ⟨hu0,by omega⟩
     (have F:=ai @encOpr_u (ai @q2 (ai @q3 @tmz));refine gG ?_;exact ⟨(),trivial,gw,gw⟩)
   (have F:=@tmz;have NN:StopAt 19:=trivial;refine gGn ?_;clear F NN)
   refine pS 9 fun a cap=>?_
   refine gB ?_
   (have F:=ai @encOpr_u @tmz;refine gR ?_;clear F)
   refine gM (ι:=Unit) [] [9] (fun u=>[]) (fun u=>[(9,.buf (some (a,cap)) 41 4 (encTms (srtO o L)))]) (fun u=>True) ?_ (fun u hu=>Exists.intro _ (ai (Wk.refl _) ?_))
   ·cases hcm:o.comm with
    | true =>
     rw [show srtO o L=sortTm L by unfold srtO;rw [if_pos hcm]]
     (have F:=ai @hcm @tmz;have NN:StopAt 20:=trivial;refine gGn ?_;clear F NN)
     refine gB ?_
     (have F:=@tmz;refine gCP [9] [9] (conP_stable L (by omega) a cap) ?_;clear F)
     rintro r pm ⟨rfl,rfl⟩
     simp only [setA,retA,zipM,List.cons_append,List.nil_append]
     (have F:=@tmz;refine gR ?_;clear F)
     exact (have F:=tmz;⟨(),trivial,gw,gw⟩)
    | false =>
     rw [show srtO o L=L by unfold srtO;rw [if_neg (by rw [hcm];simp)]]
     (have F:=ai @hcm @tmz;refine gG ?_;exact ⟨(),trivial,gw,gw⟩)
   have hSl:=srtO_len o L
   have sz1:=sizeTms_perm (srtO_perm o L)
   have dz1:=depthTms_perm (srtO_perm o L)
   generalize srtO o L=S at hSl sz1 dz1 ⊢
   rw [<- hSl,<- encTms_len S]
   refine pD 9 [9] [] ?_
   have em:encTm (appT op S)=[.lit (.int .i64 op),.lit (.string ByteArray.empty),.lit (.int .i64 0),.sl (encTms S)]:=by simp only [appT,encTm]
   have zs:sizeTm (appT op S)=1+sizeTms S:=by rw [sizeTm_eq];rfl
   have zd:depthTm (appT op S)=1+depthTms S:=by rw [depthTm_eq];rfl
   have c1:=con_implSize (t:=appT op S) (by unfold big;omega)
   have c2:=con_implDepth (t:=appT op S) (by unfold big;omega)
   rw [em] at c1 c2
   (have F:=@tmz;have NN:StopAt 22:=trivial;refine gGn ?_;clear F NN)
   by_cases h7:o.assoc=true∧7 < S.length
   ·rw [if_pos (show BigT o op S from .inl h7)]
    obtain ⟨hac,h7⟩:=h7
    have q2:(7 < (S.length:Int))=True:=eq_true (by omega)
    (have F:=ai @encOpr_u (ai @hac (ai @q2 (ai @hz @tmz)));refine gG ?_;exact gTd)
   have hac:o.assoc=true->(7 < (S.length:Int))=False:=fun h=>eq_false fun q=>h7 ⟨h,by omega⟩
   rcases Bool.eq_false_or_eq_true o.assoc with ha' | ha'
   ·have q2:=hac ha'
    refine gB ?_
    (have F:=ai @encOpr_u (ai @ha' (ai @q2 @tmz));refine gC (c1) ?_;clear F)
    by_cases hs:60 < sizeTm (appT op S)
    ·have z1:((60:Int) < (sizeTm (appT op S):Int))=True:=eq_true (by omega)
     rw [if_pos (show BigT o op S from .inr (.inl hs))]
     (have F:=ai @z1 @tmz;refine gR ?_;clear F)
     (have F:=ai @hz @tmz;refine gG ?_;exact gTd)
    have z1:((60:Int) < (sizeTm (appT op S):Int))=False:=eq_false (by omega)
    (have F:=ai @z1 @tmz;refine gC (c2) ?_;clear F)
    by_cases hd2:20 < depthTm (appT op S)
    ·have z2:((20:Int) < (depthTm (appT op S):Int))=True:=eq_true (by omega)
     rw [if_pos (show BigT o op S from .inr (.inr hd2))]
     (have F:=ai @z2 @tmz;refine gR ?_;clear F)
     (have F:=ai @hz @tmz;refine gG ?_;exact gTd)
    have z2:((20:Int) < (depthTm (appT op S):Int))=False:=eq_false (by omega)
    rw [if_neg (show ¬ BigT o op S from fun h=>h.elim h7 (fun h=>h.elim hs hd2))]
    (have F:=ai @z2 @tmz;refine gR ?_;clear F)
    (have F:=ai @em @tmz;refine gG ?_;exact gTd)
   ·refine gB ?_
    (have F:=ai @encOpr_u (ai @ha' @tmz);refine gC (c1) ?_;clear F)
    by_cases hs:60 < sizeTm (appT op S)
    ·have z1:((60:Int) < (sizeTm (appT op S):Int))=True:=eq_true (by omega)
     rw [if_pos (show BigT o op S from .inr (.inl hs))]
     (have F:=ai @z1 @tmz;refine gR ?_;clear F)
     (have F:=ai @hz @tmz;refine gG ?_;exact gTd)
    have z1:((60:Int) < (sizeTm (appT op S):Int))=False:=eq_false (by omega)
    (have F:=ai @z1 @tmz;refine gC (c2) ?_;clear F)
    by_cases hd2:20 < depthTm (appT op S)
    ·have z2:((20:Int) < (depthTm (appT op S):Int))=True:=eq_true (by omega)
     rw [if_pos (show BigT o op S from .inr (.inr hd2))]
     (have F:=ai @z2 @tmz;refine gR ?_;clear F)
     (have F:=ai @hz @tmz;refine gG ?_;exact gTd)
    have z2:((20:Int) < (depthTm (appT op S):Int))=False:=eq_false (by omega)
    rw [if_neg (show ¬ BigT o op S from fun h=>h.elim h7 (fun h=>h.elim hs hd2))]
    (have F:=ai @z2 @tmz;refine gR ?_;clear F)
    (have F:=ai @em @tmz;refine gG ?_;exact gTd)
end
end Go.Proofs.YtohilkmdjdfljaaGreat
namespace Go.Proofs.YtohilkmdjdfljaaGreat
open Go.RowKit
section
variable {e:Env} {σ:St} {o:Oper} {K:St->Prop}
theorem step_isNil {t t' el:TypeId} {x:Operand} (ho:o.op=.binOp .eql t x (.const (.slice none 0 0)) t') (ht:e.P.underlying t=some (.slice el)) {rows:List (List C)} (hx:evA σ.s x=.d (.one (.sl rows))) (hK:∀ b:Bool,(b=true->rows=[])->K ⟨setA σ.s o.dst (.d (.one (.lit (.bool b)))),σ.m⟩):StepOk e o σ K:=by
 intro he U w0 S0 nt a w Q hd ⟨S,L,h1⟩
 have hx':=h1.eval x
 rw [hx] at hx'
 simp only [ARel,DRel,Rep] at hx'
 obtain ⟨A,n,cap,hv,hn,_,_,hp⟩:=hx'
 unfold Oper.wp
 have hrun:(execOp a.eval o).run e.P w=.ok (.value (.bool A.isNone)) w:=by
  have hc:a.eval (.const (.slice none 0 0))=.slice none 0 0:=rfl
  simp only [execOp,ho,hv,hc,eqGuard]
  simp [Result.andThen]
  rw [Lib.run_eql_slice_nil w t el A n cap 0 0 ht]
 rw [hrun,Oper.upon_value]
 refine ⟨_,hK A.isNone (fun hb=>?_),S,L,h1.put (by simp [ARel,DRel,Rep]) hd⟩
 rcases Nat.eq_zero_or_pos n with h0 | h0
 ·exact List.eq_nil_of_length_eq_zero (by omega)
 ·obtain ⟨b,off,rfl,_⟩:=hp h0
  cases hb
end
section
variable {e:Env} {K:St->Prop} {ds:List (Option Nat)} {os:List Oper} {s:List (Nat × A)} {m:List (Nat × Bk)}
theorem gNil {d t t' ty:Nat} {p:String} {ed:Array Edge} {x:Operand} {rows:List (List C)} {el:TypeId} (ht:e.P.underlying t=some (.slice el)) (hK:∀ b:Bool,(b=true->rows=[])->Runs e ds 0 os ⟨(d,.d (.one (.lit (.bool b))))::s,m⟩ K)
  (hx:evA s x=.d (.one (.sl rows)):=by exact sfx):Runs e ds 0 (⟨some d,.binOp .eql t x (.const (.slice none 0 0)) t',ty,p,ed,none⟩::os) ⟨s,m⟩ K :=
 runs_step0 rfl (step_isNil rfl ht hx hK)
end
def RNew (ty sz:Nat) (rows:List (List C)) (r:List D) (pm:List Bk):Prop:=∃ a cap,r=[.one (.lit (.slice a rows.length cap))]∧pm=[.buf (some (a,cap)) ty sz rows]
theorem encTms_nilE {ts:List Tm} (h:encTms ts=[]):ts=[]:=by
 cases ts with
 | nil=>rfl
 | cons t ts=>simp [encTms] at h
set_option maxHeartbeats 8000000 in
set_option maxRecDepth 100000 in
theorem conP_clone (ts:List Tm) (hl:ts.length<=1048576):ConP e0 109 [.one (.sl (encTms ts))] [] (RNew 41 4 (encTms ts)):=by
 have l1:(ts.length<=maxApp)=True:=eq_true (by unfold maxApp;omega)
 refine gIP (ts:=[.slot 2]) [] 21 Tryz.func109 ?_
 (have F:=@tmz;have NN:StopAt 1:=trivial;refine gGn ?_;clear F NN)
 refine gB ?_
 (have F:=@tmz;refine gP 1 ?_;clear F)
 refine (have F:=tmz;gNil (rows:=encTms ts) (el:=41) (by kernel_rfl) fun b hb=>?_)
 cases b with
 | true =>
  have hb:=encTms_nilE (hb rfl)
  subst hb
  (have F:=@tmz;refine gR ?_;clear F)
  (have F:=@tmz;refine gG ?_;clear F)
  refine pS 2 fun a cap=>?_
  exact (have F:=encTms_len;gTP (R:=RNew 41 4 (encTms [])) [2] ⟨a,cap,rfl,rfl⟩)
 | false =>
  (have F:=@tmz;refine gR ?_;clear F)
  (have F:=@tmz;have NN:StopAt 3:=trivial;refine gGn ?_;clear F NN)
  refine gB ?_
  (have F:=@tmz;refine gP 1 ?_;clear F)
  refine gO 5 41 4 ?_
  (have F:=ai @l1 @tmz;refine gP 2 ?_;clear F)
  refine gS 7 fun a cap=>?_
  (have F:=@tmz;refine gR ?_;clear F)
  (have F:=@tmz;refine gG ?_;clear F)
  exact (have F:=encTms_len;gTP (R:=RNew 41 4 (encTms ts)) [7] ⟨a,cap,rfl,rfl⟩)
end Go.Proofs.YtohilkmdjdfljaaGreat
namespace Go.Proofs.YtohilkmdjdfljaaGreat
open Go.RowKit
end Go.Proofs.YtohilkmdjdfljaaGreat
namespace Go.Proofs.YtohilkmdjdfljaaGreat
open Go.RowKit
section
variable {e:Env} {K:St->Prop} {s:List (Nat × A)} {m:List (Nat × Bk)}
theorem gFa {ops:Array Oper} {f d ty t n fi k off:Nat} {ft:TypeId} {p:String} {ed:Array Edge} {x:Operand} {listed:Array Bool} (i:Nat) (hK:AnyOk e ops K f (listed.setIfInBounds i true) ⟨(d,.ref k (off+n))::s,m⟩)
  (hi:ops[i]?=some ⟨some d,.fieldAddr t x fi,ty,p,ed,none⟩:=by simp only [List.getElem?_toArray,List.getElem?_cons_succ,List.getElem?_cons_zero];exact rfl) (hx:evA s x=.ref k off:=by exact snv) (ht:offT e.P t fi=some (n,ft):=by exact snx) (hsel:noSel ops=true:=by decide +kernel) (hap:apartB ops listed i=true:=by decide +kernel) (hr:(Region.ready .any ops listed).contains i=true:=by decide +kernel):AnyOk e ops K (f+1) listed ⟨s,m⟩:=by
 refine anyOk_first (o:=⟨some d,.fieldAddr t x fi,ty,p,ed,none⟩) hi rfl rfl hsel hap hr (α:=.ref k (off+n)) (fun _ U w0 S0 nt ac w S L h=>⟨.pointer (some ⟨L.b k,off+n,none⟩),fun w2=>?_,rfl⟩) hK
 have h1:=h.eval x
 rw [hx] at h1
 have h1:ac.eval x=.pointer (some ⟨L.b k,off,none⟩):=h1
 have:=fieldAt_run (P:=e.P) ht (L.b k) off w2
 simp [execOp,h1,this]
theorem gFx {ops:Array Oper} {f d n ty:Nat} {p:String} {ed:Array Edge} {x:Operand} {xs:List D} {y:D} {listed:Array Bool} (i:Nat) (hK:AnyOk e ops K f (listed.setIfInBounds i true) ⟨(d,.d y)::s,m⟩)
  (hi:ops[i]?=some ⟨some d,.extract x n,ty,p,ed,none⟩:=by simp only [List.getElem?_toArray,List.getElem?_cons_succ,List.getElem?_cons_zero];exact rfl) (hx:evA s x=.tup xs:=by exact snv) (hy:xs[n]?=some y:=by exact rfl) (hsel:noSel ops=true:=by decide +kernel) (hap:apartB ops listed i=true:=by decide +kernel) (hr:(Region.ready .any ops listed).contains i=true:=by decide +kernel):AnyOk e ops K (f+1) listed ⟨s,m⟩:=by
 refine anyOk_first (α:=.d y) (o:=⟨some d,.extract x n,ty,p,ed,none⟩) hi rfl rfl hsel hap hr (fun _ U w0 S0 nt ac w S L h=>?_) hK
 have h1:=h.eval x
 rw [hx] at h1
 obtain ⟨vs,hv,hr⟩:=h1
 obtain ⟨v,h1,h2⟩:=hr.get hy
 exact ⟨v,fun w2=>by simp [execOp,hv,Instr.extract,h1,Result.andThen],h2⟩
theorem anyOk_step {ds:List (Option Nat)} {ops:Array Oper} {f:Nat} {listed:Array Bool} {σ:St} (hne:Region.ready .any ops listed≠[]) (hds:ops.toList.map (·.dst)=ds) (h:∀ i∈Region.ready .any ops listed,∃ o,ops[i]?=some o∧o.guard=none∧Runs e ds 0 [o] σ (fun σ'=>AnyOk e ops K f (listed.setIfInBounds i true) σ')):AnyOk e ops K (f+1) listed σ:=by
 subst hds
 intro he U w0 S0 nt a w hd hs
 refine ⟨fun h0=>absurd h0 hne,fun i hi=>?_⟩
 obtain ⟨o,ho,hg,hr⟩:=h i hi
 unfold wpOp
 simp only [ho]
 have hw:Region.wanted o (yielded ops a.tmps)=true:=by simp [Region.wanted,hg]
 rw [if_pos hw]
 have hmem:o∈ops.toList:=List.mem_of_getElem? (by simpa using ho)
 refine .inl (Oper.wp_mono (fun a' w' ⟨σ',hr,hs'⟩=>?_) (stepOk_of_runs hg hr he U w0 S0 nt a w _ (hd o hmem) hs))
 exact hr he U w0 S0 nt a' w' ops.toList (fun _ a w=>wpAny e.P .any ops (QN e U w0 S0 nt K) f (listed.setIfInBounds i true) a w) rfl (fun o ho=>by simp at ho) (fun a w σ'' hK hs''=>hK he U w0 S0 nt a w hd hs'') hs'
theorem gA1 {ds:List (Option Nat)} {ops:Array Oper} {f:Nat} {listed:Array Bool} {o:Oper} {σ:St} (i:Nat) (hK:Runs e ds 0 [o] σ (AnyOk e ops K f (listed.setIfInBounds i true))) (hds:ops.toList.map (·.dst)=ds:=by exact rfl) (hr:Region.ready .any ops listed=[i]:=by decide +kernel) (ho:ops[i]?=some o:=by simp only [List.getElem?_toArray,List.getElem?_cons_succ,List.getElem?_cons_zero];exact rfl) (hg:o.guard=none:=by exact rfl):AnyOk e ops K (f+1) listed σ:=by
 refine anyOk_step (by rw [hr];simp) hds fun j hj=>?_
 rw [hr] at hj
 have hji:j=i:=by simpa using hj
 subst hji
 exact ⟨o,ho,hg,hK⟩
theorem gA2 {ds:List (Option Nat)} {ops:Array Oper} {f:Nat} {listed:Array Bool} {o o':Oper} {σ:St} (i j:Nat) (hK:Runs e ds 0 [o] σ (AnyOk e ops K f (listed.setIfInBounds i true))) (hK':Runs e ds 0 [o'] σ (AnyOk e ops K f (listed.setIfInBounds j true))) (hds:ops.toList.map (·.dst)=ds:=by exact rfl) (hr:Region.ready .any ops listed=[i,j]:=by decide +kernel) (ho:ops[i]?=some o:=by simp only [List.getElem?_toArray,List.getElem?_cons_succ,List.getElem?_cons_zero];exact rfl) (hg:o.guard=none:=by exact rfl) (ho':ops[j]?=some o':=by simp only [List.getElem?_toArray,List.getElem?_cons_succ,List.getElem?_cons_zero];exact rfl) (hg':o'.guard=none:=by exact rfl):AnyOk e ops K (f+1) listed σ:=by
 refine anyOk_step (by rw [hr];simp) hds fun k hk=>?_
 rw [hr] at hk
 have hk:k=i∨k=j:=by simpa using hk
 rcases hk with rfl | rfl
 ·exact ⟨o,ho,hg,hK⟩
 ·exact ⟨o',ho',hg',hK'⟩
theorem gA3 {ds:List (Option Nat)} {ops:Array Oper} {f:Nat} {listed:Array Bool} {o o' o2:Oper} {σ:St} (i j l:Nat) (hK:Runs e ds 0 [o] σ (AnyOk e ops K f (listed.setIfInBounds i true))) (hK':Runs e ds 0 [o'] σ (AnyOk e ops K f (listed.setIfInBounds j true))) (hK2:Runs e ds 0 [o2] σ (AnyOk e ops K f (listed.setIfInBounds l true))) (hds:ops.toList.map (·.dst)=ds:=by exact rfl) (hr:Region.ready .any ops listed=[i,j,l]:=by decide +kernel) (ho:ops[i]?=some o:=by simp only [List.getElem?_toArray,List.getElem?_cons_succ,List.getElem?_cons_zero];exact rfl) (hg:o.guard=none:=by exact rfl) (ho':ops[j]?=some o':=by simp only [List.getElem?_toArray,List.getElem?_cons_succ,List.getElem?_cons_zero];exact rfl) (hg':o'.guard=none:=by exact rfl) (ho2:ops[l]?=some o2:=by simp only [List.getElem?_toArray,List.getElem?_cons_succ,List.getElem?_cons_zero];exact rfl) (hg2:o2.guard=none:=by exact rfl):AnyOk e ops K (f+1) listed σ:=by
 refine anyOk_step (by rw [hr];simp) hds fun k hk=>?_
 rw [hr] at hk
 have hk:k=i∨k=j∨k=l:=by simpa using hk
 rcases hk with rfl | rfl | rfl
 ·exact ⟨o,ho,hg,hK⟩
 ·exact ⟨o',ho',hg',hK'⟩
 ·exact ⟨o2,ho2,hg2,hK2⟩
end
end Go.Proofs.YtohilkmdjdfljaaGreat
namespace Go.Proofs.YtohilkmdjdfljaaGreat
open Go.RowKit
theorem con_buildT {g:Sgn} {mc:C} (hg:SgnOk g) {op:Int} {o:Opr} (h0:0<=op) (ho:g.ops[op.toNat]?=some o) (xs:List Tm) (ha:∀ a∈xs,TermOk g a) (hl:xs.length<=1000):Con e0 110 [.one (.ptr (encX g mc)),.one (.lit (.int .i64 op)),.one (.sl (encTms xs))] [.agg (encTm ((mkT g op xs).getD zTm)),.one (.lit (.bool (mkT g op xs).isSome))]:=by
 obtain ⟨d,hd,_⟩:=hg.first ho
 rw [mkT_eq ho hd]
 exact con_build hg h0 ho hd xs ha hl
set_option maxHeartbeats 16000000 in
set_option maxRecDepth 100000 in
theorem con_rebuilt {g:Sgn} {mc:C} (hg:SgnOk g) {u:Tm} (hu:TermOk g u):∀ (ps:List Int) {t:Tm},TermOk g t->(subAt t ps).2=true->ps.length<=1048576->Con e0 111 [.one (.ptr (encX g mc)),.agg (encTm t),.one (.sl (ps.map encInt)),.agg (encTm u)] [.agg (encTm ((rbT g t ps u).getD zTm)),.one (.lit (.bool (rbT g t ps u).isSome))]:=by
 intro ps
 induction ps with
 | nil =>
  intro t ht hs hl
  have hz:=zTm_u
  have e:rbT g t [] u=some u:=rfl
  rw [e]
  have z1:((([]:List (List C)).length:Int)=0)=True:=eq_true rfl
  have z2:(((0:Nat):Int)=0)=True:=eq_true rfl
  rw [List.map_nil]
  refine gI (ts:=[.cell 8 41,.slot 9]) 8589975471 Tryz.func111 ?_
  (have F:=ai @z1 (ai @z2 @tmz);refine gG ?_;exact gTd)
 | cons p ps ih =>
  intro t ht hs hl
  have hz:=zTm_u
  obtain ⟨hp0,a,hpa,hs'⟩:=sub_step hs
  have hm:=List.mem_of_getElem? hpa
  obtain ⟨o,d,hA⟩:=ht.app hm
  have hal:=args_len ht
  have hlt:=(List.getElem?_eq_some_iff.1 hpa).1
  have hc:=ih (ht.arg hm) hs' (by simp only [List.length_cons] at hl;omega)
  have e:rbT g t (p::ps) u=(rbT g a ps u).bind fun x=>mkT g t.op (t.args.set p.toNat x):=by simp only [rbT,hpa]
  have hok:=fun x=>rbT_ok hg ps (x:=x) (ht.arg hm) hu
  rw [e]
  clear ih hs hs' e
  generalize hr:rbT g a ps u=r at hc hok ⊢
  have l0:((p::ps).map encInt).length=ps.length+1:=by simp
  have l1:((((p::ps).map encInt).length:Int)=0)=False:=eq_false (by rw [l0];omega)
  have l2:((p::ps).map encInt)[0]?=some [.lit (.int .i64 p)]:=rfl
  have l3:rowsB 1 ((p::ps).map encInt)=true:=rb_int _
  have l4:((p::ps).map encInt).drop 1=ps.map encInt:=rfl
  have l5:((p::ps).map encInt).take ((p::ps).map encInt).length=(p::ps).map encInt:=List.take_length
  have l6:((1:Int)<=(((p::ps).map encInt).length:Int))=True:=eq_true (by rw [l0];omega)
  generalize (p::ps).map encInt=rows at l0 l1 l2 l3 l4 l5 l6 ⊢
  have l7:((rows.length:Int)<=(rows.length:Int))=True:=eq_true (Int.le_refl _)
  have l8:(0 < rows.length)=True:=eq_true (by omega)
  have t0:Int.toNat 0=0:=rfl
  have t1:Int.toNat 1=1:=rfl
  refine gI (ts:=[.cell 8 41,.slot 9]) 8589975471 Tryz.func111 ?_
  (have F:=ai @l1 @tmz;refine gG ?_;clear F)
  refine gLt 15 14 16 ?_
  (have F:=ai @l2 (ai @l3 (ai @l4 (ai @l5 (ai @l6 (ai @l7 (ai @l8 (ai @t0 (ai @t1 (ai @hp0 (ai @hpa (ai @natInt @tmz)))))))))));refine gC (hc) ?_;clear F)
  cases r with
  | none =>
   (have F:=@tmz;refine gR ?_;clear F)
   (have F:=ai @hz @tmz;refine gG ?_;exact gTd)
  | some x =>
   have hx:=hok x rfl
   simp only [Option.getD_some,Option.isSome_some,Option.bind_some]
   (have F:=@tmz;refine gR ?_;clear F)
   (have F:=@tmz;have NN:StopAt 6:=trivial;refine gGn ?_;clear F NN)
   refine gB ?_
   (have F:=@tmz;refine gCP [] [1001] (conP_clone t.args (by omega)) ?_;clear F)
   rintro r pm ⟨b,cap,rfl,rfl⟩
   simp only [setA,retA,zipM,List.cons_append,List.nil_append]
   (have F:=@tmz;refine gR ?_;clear F)
   refine pwp_seqW ?_
   refine gB ?_
   (have F:=ai @hp0 (ai @l2 (ai @l3 (ai @l8 (ai @t0 (ai @hlt (ai @hpa (ai @encTms_len (ai @tms_set (ai @natInt @tmz)))))))));refine gR ?_;clear F)
   have cB:=con_buildT (mc:=mc) hg hA.lo hA.at' (t.args.set p.toNat x) (set_all (fun b hb=>ht.arg hb) hx) (by rw [List.length_set];omega)
   have hls:t.args.length=(encTms (t.args.set p.toNat x)).length:=by rw [encTms_len,List.length_set]
   generalize t.args.set p.toNat x=S at cB hls ⊢
   rw [hls]
   refine pD 1001 [12] [] ?_
   (have F:=@tmz;have NN:StopAt 8:=trivial;refine gGn ?_;clear F NN)
   refine gB ?_
   (have F:=@tmz;refine gC (cB) ?_;clear F)
   (have F:=@tmz;refine gR ?_;clear F)
   (have F:=@tmz;refine gG ?_;exact gTd)
set_option maxHeartbeats 16000000 in
set_option maxRecDepth 100000 in
theorem con_replace {g:Sgn} {mc:C} (hg:SgnOk g) {t u:Tm} (ht:okTm t) (hb:bulkRow (encTm t)<=1048576) (hu:TermOk g u) {o:Occ} (hop:o.path.length<=1048576) (hol:o.left.length<=1048576) (hor:o.right.length<=1048576):Con e0 64 [.one (.ptr (encX g mc)),.agg (encTm t),.agg (encOcc o),.agg (encTm u)] [.agg (encTm ((rpT g t o u).getD zTm)),.one (.lit (.bool (rpT g t o u).isSome))]:=by
 have hz:=zTm_u
 have cT:=con_taken (mc:=mc) hg ht hb hop hol hor
 generalize hk:(if isTerm g t=true then tkIn g t o else (zTm,false))=k at cT
 obtain ⟨kt,kb⟩:=k
 rw [encOcc_u] at cT ⊢
 refine gI (ts:=[.cell 8 41,.slot 9]) 1152921521820392431 Tryz.func64 ?_
 (have F:=@tmz;refine gG ?_;clear F)
 refine gB ?_
 (have F:=@tmz;refine gC (cT) ?_;clear F)
 cases kb with
 | false =>
  have e:rpT g t o u=none:=by
   unfold rpT
   rw [if_neg]
   rintro ⟨_,h2,_,h4⟩
   rw [if_pos (isTerm_true h2)] at hk
   rw [hk] at h4;cases h4
  rw [e]
  (have F:=@tmz;refine gR ?_;clear F)
  (have F:=ai @hz @tmz;refine gG ?_;exact gTd)
 | true =>
 have hT:TermOk g t:=Classical.byContradiction fun h=>by
  rw [isTerm_false h] at hk
  simp at hk
 rw [if_pos (isTerm_true hT)] at hk
 have hk2:(tkIn g t o).2=true:=by rw [hk]
 have hat:=tk_at hk2
 have hs:=sub_term o.path t hT hat
 have e:rpT g t o u=if o.left.length+o.right.length=0 then rbT g t o.path u else (mkT g (subAt t o.path).1.op (o.left++[u]++o.right)).bind fun c=>rbT g t o.path c:=by
  unfold rpT
  rw [if_pos ⟨hg,hT,hu,hk2⟩]
 rw [e]
 clear e hk cT
 have hws:IntKind.i64.wrap ((o.left.length:Int)+(o.right.length:Int))=(o.left.length:Int)+(o.right.length:Int):=IntWalk.i64_in _ (by omega)
 (have F:=@tmz;refine gR ?_;clear F)
 by_cases hn:o.left.length+o.right.length=0
 ·rw [if_pos hn]
  have z0:(0 < (o.left.length:Int)+(o.right.length:Int))=False:=eq_false (by omega)
  have cR:=con_rebuilt (mc:=mc) hg hu o.path hT hat hop
  (have F:=ai @z0 (ai @hws @tmz);have NN:StopAt 11:=trivial;refine gGn ?_;clear F NN)
  refine gB ?_
  (have F:=@tmz;refine gC (cR) ?_;clear F)
  (have F:=@tmz;refine gR ?_;clear F)
  (have F:=@tmz;refine gG ?_;exact gTd)
 rw [if_neg hn]
 have z0:(0 < (o.left.length:Int)+(o.right.length:Int))=True:=eq_true (by omega)
 obtain ⟨x,d,hA,hac,hle,hL,hR⟩:=tk_around hT hk2 hn
 have hal:=args_len hs
 have cS:=con_treeB (con_implAt t o.path hop hb)
 generalize hq:subAt t o.path=q at cS hs hA hal hle ⊢
 obtain ⟨p,pb⟩:=q
 simp only at cS hs hA hal hle ⊢
 have hall:∀ a∈o.left++[u]++o.right,TermOk g a:=fun a ha=>by
  simp only [List.mem_append,List.mem_singleton] at ha
  rcases ha with (ha | rfl) | ha
  ·exact hL a ha
  ·exact hu
  ·exact hR a ha
 have cB:=con_buildT (mc:=mc) hg hA.lo hA.at' (o.left++[u]++o.right) hall (by simp only [List.length_append,List.length_cons,List.length_nil];omega)
 have hok:=fun c=>mkT_ok hg (t:=c) hA.lo hall
 generalize hm:mkT g p.op (o.left++[u]++o.right)=m at cB hok ⊢
 (have F:=ai @z0 (ai @hws @tmz);have NN:StopAt 5:=trivial;refine gGn ?_;clear F NN)
 refine gB ?_
 (have F:=@tmz;refine gC (cS) ?_;clear F)
 (have F:=@tmz;refine gR ?_;clear F)
 (have F:=@tmz;have NN:StopAt 6:=trivial;refine gGn ?_;clear F NN)
 have l1:∀ l:List Tm,rowsB 4 (encTms l)=true:=fun l=>rb_tm l
 have l2:(o.left.length+1<=maxApp)=True:=eq_true (by unfold maxApp;omega)
 have l3:encTms o.left++[encTm u]=encTms (o.left++[u]):=by rw [encTms_app,encTms_one]
 have l4:((o.left++[u]).length+o.right.length<=maxApp)=True:=eq_true (by rw [List.length_append,List.length_cons,List.length_nil];unfold maxApp;omega)
 have l5:encTms (o.left++[u])++encTms o.right=encTms (o.left++[u]++o.right):=(encTms_app _ _).symm
 generalize o.left++[u]++o.right=L2 at l5 cB
 generalize o.left++[u]=L1 at l3 l4 l5
 refine gM (ι:=Option Addr × Nat) [14] [47] (fun z=>[(14,.d (.one (.lit (.slice z.1 L1.length z.2))))]) (fun z=>[(47,.buf (some (z.1,z.2)) 41 4 (encTms L1))]) (fun z=>True) ?_ (fun z hz=>Exists.intro _ (ai (Wk.refl _) ?_))
 ·refine gF0 ?_
  refine gFa 0 ?_
  refine gFT ?_
  refine gO2 1 3 ?_ ?_
  ·refine (have F:=(ai @l1 (ai l2 (ai l3 tmz)));gO3 ?_)
   refine gO2 2 3 ?_ ?_
   ·(have F:=tmz;refine gCP [] [1001] (conP_clone o.left (by omega)) ?_)
    rintro r pm ⟨b,cap,rfl,rfl⟩
    simp only [setA,retA,zipM,List.cons_append,List.nil_append]
    refine runs_nil ?_
    refine gO1 3 ?_
    refine (have F:=(ai @l1 (ai l2 (ai l3 tmz)));gO3 ?_)
    refine gO1 4 ?_
    refine (have F:=(ai @l1 (ai l2 (ai l3 tmz)));gO3 ?_)
    refine gO1 5 ?_
    refine (have F:=(ai @l1 (ai l2 (ai l3 tmz)));gO3 ?_)
    refine gO1 6 ?_
    refine gS 47 fun b2 cap2=>?_
    refine (have F:=(ai @l1 (ai l2 (ai l3 tmz)));gO3 ?_)
    refine (have F:=tmz;gT0 ?_)
    exact (have F:=tmz;⟨(b2,cap2),trivial,gw,gw⟩)
   ·refine (have F:=(ai @l1 (ai l2 (ai l3 tmz)));gO3 ?_)
    refine gO2 2 4 ?_ ?_
    ·(have F:=tmz;refine gCP [] [1001] (conP_clone o.left (by omega)) ?_)
     rintro r pm ⟨b,cap,rfl,rfl⟩
     simp only [setA,retA,zipM,List.cons_append,List.nil_append]
     refine runs_nil ?_
     refine gO1 4 ?_
     refine (have F:=(ai @l1 (ai l2 (ai l3 tmz)));gO3 ?_)
     refine gO1 5 ?_
     refine (have F:=(ai @l1 (ai l2 (ai l3 tmz)));gO3 ?_)
     refine gO1 6 ?_
     refine gS 47 fun b2 cap2=>?_
     refine (have F:=(ai @l1 (ai l2 (ai l3 tmz)));gO3 ?_)
     refine (have F:=tmz;gT0 ?_)
     exact (have F:=tmz;⟨(b2,cap2),trivial,gw,gw⟩)
    ·refine (have F:=(ai @l1 (ai l2 (ai l3 tmz)));gO3 ?_)
     refine gO1 2 ?_
     (have F:=tmz;refine gCP [] [1001] (conP_clone o.left (by omega)) ?_)
     rintro r pm ⟨b,cap,rfl,rfl⟩
     simp only [setA,retA,zipM,List.cons_append,List.nil_append]
     refine runs_nil ?_
     refine gO1 5 ?_
     refine (have F:=(ai @l1 (ai l2 (ai l3 tmz)));gO3 ?_)
     refine gO1 6 ?_
     refine gS 47 fun b2 cap2=>?_
     refine (have F:=(ai @l1 (ai l2 (ai l3 tmz)));gO3 ?_)
     refine (have F:=tmz;gT0 ?_)
     exact (have F:=tmz;⟨(b2,cap2),trivial,gw,gw⟩)
  ·refine (have F:=(ai @l1 (ai l2 (ai l3 tmz)));gO3 ?_)
   refine gO2 1 4 ?_ ?_
   ·refine (have F:=(ai @l1 (ai l2 (ai l3 tmz)));gO3 ?_)
    refine gO2 2 4 ?_ ?_
    ·(have F:=tmz;refine gCP [] [1001] (conP_clone o.left (by omega)) ?_)
     rintro r pm ⟨b,cap,rfl,rfl⟩
     simp only [setA,retA,zipM,List.cons_append,List.nil_append]
     refine runs_nil ?_
     refine gO1 4 ?_
     refine (have F:=(ai @l1 (ai l2 (ai l3 tmz)));gO3 ?_)
     refine gO1 5 ?_
     refine (have F:=(ai @l1 (ai l2 (ai l3 tmz)));gO3 ?_)
     refine gO1 6 ?_
     refine gS 47 fun b2 cap2=>?_
     refine (have F:=(ai @l1 (ai l2 (ai l3 tmz)));gO3 ?_)
     refine (have F:=tmz;gT0 ?_)
     exact (have F:=tmz;⟨(b2,cap2),trivial,gw,gw⟩)
    ·refine (have F:=(ai @l1 (ai l2 (ai l3 tmz)));gO3 ?_)
     refine gO1 2 ?_
     (have F:=tmz;refine gCP [] [1001] (conP_clone o.left (by omega)) ?_)
     rintro r pm ⟨b,cap,rfl,rfl⟩
     simp only [setA,retA,zipM,List.cons_append,List.nil_append]
     refine runs_nil ?_
     refine gO1 5 ?_
     refine (have F:=(ai @l1 (ai l2 (ai l3 tmz)));gO3 ?_)
     refine gO1 6 ?_
     refine gS 47 fun b2 cap2=>?_
     refine (have F:=(ai @l1 (ai l2 (ai l3 tmz)));gO3 ?_)
     refine (have F:=tmz;gT0 ?_)
     exact (have F:=tmz;⟨(b2,cap2),trivial,gw,gw⟩)
   ·refine (have F:=(ai @l1 (ai l2 (ai l3 tmz)));gO3 ?_)
    refine gO1 1 ?_
    refine (have F:=(ai @l1 (ai l2 (ai l3 tmz)));gO3 ?_)
    refine gO1 2 ?_
    (have F:=tmz;refine gCP [] [1001] (conP_clone o.left (by omega)) ?_)
    rintro r pm ⟨b,cap,rfl,rfl⟩
    simp only [setA,retA,zipM,List.cons_append,List.nil_append]
    refine runs_nil ?_
    refine gO1 5 ?_
    refine (have F:=(ai @l1 (ai l2 (ai l3 tmz)));gO3 ?_)
    refine gO1 6 ?_
    refine gS 47 fun b2 cap2=>?_
    refine (have F:=(ai @l1 (ai l2 (ai l3 tmz)));gO3 ?_)
    refine (have F:=tmz;gT0 ?_)
    exact (have F:=tmz;⟨(b2,cap2),trivial,gw,gw⟩)
 obtain ⟨b1,cap1⟩:=z
 dsimp only
 refine pwp_seqW ?_
 refine gM (ι:=Unit) [14,15,16] [15,47] (fun z=>[(15,.ref 15 0),(16,A.d (.one (.lit (.bool m.isSome))))]) (fun z=>[(15,.var none (encTm (m.getD zTm)))]) (fun z=>True) ?_ (fun z hz=>Exists.intro _ (ai (Wk.refl _) ?_))
 ·refine gF0 ?_
  refine gFm 0 ?_
  refine gFa 1 ?_
  refine gFm 3 ?_
  refine gFa 4 ?_
  refine gA3 2 5 11 ?_ ?_ ?_
  ·refine (have F:=tmz;gO3 ?_)
   refine gA2 5 11 ?_ ?_
   ·refine (have F:=tmz;gO3 ?_)
    refine gA2 6 11 ?_ ?_
    ·refine (have F:=ai @l1 (ai l4 (ai l5 tmz));gO3 ?_)
     refine gA2 7 11 ?_ ?_
     ·refine gS 55 fun b2 cap2=>?_
      refine gD 55 [55] [] ?_
      refine (have F:=tmz;gC cB ?_)
      refine runs_nil ?_
      refine gFm 8 ?_
      refine gFx 9 ?_
      refine gFx 10 ?_
      refine gA1 11 ?_
      refine (have F:=tmz;gO3 ?_)
      refine gA1 12 ?_
      refine (have F:=tmz;gO3 ?_)
      refine gA1 13 ?_
      refine (have F:=tmz;gO3 ?_)
      refine gFT ?_
      refine (have F:=tmz;gT0 ?_)
      exact (have F:=tmz;⟨(),trivial,gw,gw⟩)
     ·refine (have F:=tmz;gO3 ?_)
      refine gA1 7 ?_
      refine gS 55 fun b2 cap2=>?_
      refine gD 55 [55] [] ?_
      refine (have F:=tmz;gC cB ?_)
      refine runs_nil ?_
      refine gFm 8 ?_
      refine gFx 9 ?_
      refine gFx 10 ?_
      refine gA1 12 ?_
      refine (have F:=tmz;gO3 ?_)
      refine gA1 13 ?_
      refine (have F:=tmz;gO3 ?_)
      refine gFT ?_
      refine (have F:=tmz;gT0 ?_)
      exact (have F:=tmz;⟨(),trivial,gw,gw⟩)
    ·refine (have F:=tmz;gO3 ?_)
     refine gA1 6 ?_
     refine (have F:=ai @l1 (ai l4 (ai l5 tmz));gO3 ?_)
     refine gA1 7 ?_
     refine gS 55 fun b2 cap2=>?_
     refine gD 55 [55] [] ?_
     refine (have F:=tmz;gC cB ?_)
     refine runs_nil ?_
     refine gFm 8 ?_
     refine gFx 9 ?_
     refine gFx 10 ?_
     refine gA1 12 ?_
     refine (have F:=tmz;gO3 ?_)
     refine gA1 13 ?_
     refine (have F:=tmz;gO3 ?_)
     refine gFT ?_
     refine (have F:=tmz;gT0 ?_)
     exact (have F:=tmz;⟨(),trivial,gw,gw⟩)
   ·refine (have F:=tmz;gO3 ?_)
    refine gA1 5 ?_
    refine (have F:=tmz;gO3 ?_)
    refine gA1 6 ?_
    refine (have F:=ai @l1 (ai l4 (ai l5 tmz));gO3 ?_)
    refine gA1 7 ?_
    refine gS 55 fun b2 cap2=>?_
    refine gD 55 [55] [] ?_
    refine (have F:=tmz;gC cB ?_)
    refine runs_nil ?_
    refine gFm 8 ?_
    refine gFx 9 ?_
    refine gFx 10 ?_
    refine gA1 12 ?_
    refine (have F:=tmz;gO3 ?_)
    refine gA1 13 ?_
    refine (have F:=tmz;gO3 ?_)
    refine gFT ?_
    refine (have F:=tmz;gT0 ?_)
    exact (have F:=tmz;⟨(),trivial,gw,gw⟩)
  ·refine (have F:=tmz;gO3 ?_)
   refine gA3 2 6 11 ?_ ?_ ?_
   ·refine (have F:=tmz;gO3 ?_)
    refine gA2 6 11 ?_ ?_
    ·refine (have F:=ai @l1 (ai l4 (ai l5 tmz));gO3 ?_)
     refine gA2 7 11 ?_ ?_
     ·refine gS 55 fun b2 cap2=>?_
      refine gD 55 [55] [] ?_
      refine (have F:=tmz;gC cB ?_)
      refine runs_nil ?_
      refine gFm 8 ?_
      refine gFx 9 ?_
      refine gFx 10 ?_
      refine gA1 11 ?_
      refine (have F:=tmz;gO3 ?_)
      refine gA1 12 ?_
      refine (have F:=tmz;gO3 ?_)
      refine gA1 13 ?_
      refine (have F:=tmz;gO3 ?_)
      refine gFT ?_
      refine (have F:=tmz;gT0 ?_)
      exact (have F:=tmz;⟨(),trivial,gw,gw⟩)
     ·refine (have F:=tmz;gO3 ?_)
      refine gA1 7 ?_
      refine gS 55 fun b2 cap2=>?_
      refine gD 55 [55] [] ?_
      refine (have F:=tmz;gC cB ?_)
      refine runs_nil ?_
      refine gFm 8 ?_
      refine gFx 9 ?_
      refine gFx 10 ?_
      refine gA1 12 ?_
      refine (have F:=tmz;gO3 ?_)
      refine gA1 13 ?_
      refine (have F:=tmz;gO3 ?_)
      refine gFT ?_
      refine (have F:=tmz;gT0 ?_)
      exact (have F:=tmz;⟨(),trivial,gw,gw⟩)
    ·refine (have F:=tmz;gO3 ?_)
     refine gA1 6 ?_
     refine (have F:=ai @l1 (ai l4 (ai l5 tmz));gO3 ?_)
     refine gA1 7 ?_
     refine gS 55 fun b2 cap2=>?_
     refine gD 55 [55] [] ?_
     refine (have F:=tmz;gC cB ?_)
     refine runs_nil ?_
     refine gFm 8 ?_
     refine gFx 9 ?_
     refine gFx 10 ?_
     refine gA1 12 ?_
     refine (have F:=tmz;gO3 ?_)
     refine gA1 13 ?_
     refine (have F:=tmz;gO3 ?_)
     refine gFT ?_
     refine (have F:=tmz;gT0 ?_)
     exact (have F:=tmz;⟨(),trivial,gw,gw⟩)
   ·refine (have F:=ai @l1 (ai l4 (ai l5 tmz));gO3 ?_)
    refine gA2 2 11 ?_ ?_
    ·refine (have F:=tmz;gO3 ?_)
     refine gA2 7 11 ?_ ?_
     ·refine gS 55 fun b2 cap2=>?_
      refine gD 55 [55] [] ?_
      refine (have F:=tmz;gC cB ?_)
      refine runs_nil ?_
      refine gFm 8 ?_
      refine gFx 9 ?_
      refine gFx 10 ?_
      refine gA1 11 ?_
      refine (have F:=tmz;gO3 ?_)
      refine gA1 12 ?_
      refine (have F:=tmz;gO3 ?_)
      refine gA1 13 ?_
      refine (have F:=tmz;gO3 ?_)
      refine gFT ?_
      refine (have F:=tmz;gT0 ?_)
      exact (have F:=tmz;⟨(),trivial,gw,gw⟩)
     ·refine (have F:=tmz;gO3 ?_)
      refine gA1 7 ?_
      refine gS 55 fun b2 cap2=>?_
      refine gD 55 [55] [] ?_
      refine (have F:=tmz;gC cB ?_)
      refine runs_nil ?_
      refine gFm 8 ?_
      refine gFx 9 ?_
      refine gFx 10 ?_
      refine gA1 12 ?_
      refine (have F:=tmz;gO3 ?_)
      refine gA1 13 ?_
      refine (have F:=tmz;gO3 ?_)
      refine gFT ?_
      refine (have F:=tmz;gT0 ?_)
      exact (have F:=tmz;⟨(),trivial,gw,gw⟩)
    ·refine (have F:=tmz;gO3 ?_)
     refine gA1 2 ?_
     refine (have F:=tmz;gO3 ?_)
     refine gA1 7 ?_
     refine gS 55 fun b2 cap2=>?_
     refine gD 55 [55] [] ?_
     refine (have F:=tmz;gC cB ?_)
     refine runs_nil ?_
     refine gFm 8 ?_
     refine gFx 9 ?_
     refine gFx 10 ?_
     refine gA1 12 ?_
     refine (have F:=tmz;gO3 ?_)
     refine gA1 13 ?_
     refine (have F:=tmz;gO3 ?_)
     refine gFT ?_
     refine (have F:=tmz;gT0 ?_)
     exact (have F:=tmz;⟨(),trivial,gw,gw⟩)
   ·refine (have F:=tmz;gO3 ?_)
    refine gA2 2 6 ?_ ?_
    ·refine (have F:=tmz;gO3 ?_)
     refine gA1 6 ?_
     refine (have F:=ai @l1 (ai l4 (ai l5 tmz));gO3 ?_)
     refine gA1 7 ?_
     refine gS 55 fun b2 cap2=>?_
     refine gD 55 [55] [] ?_
     refine (have F:=tmz;gC cB ?_)
     refine runs_nil ?_
     refine gFm 8 ?_
     refine gFx 9 ?_
     refine gFx 10 ?_
     refine gA1 12 ?_
     refine (have F:=tmz;gO3 ?_)
     refine gA1 13 ?_
     refine (have F:=tmz;gO3 ?_)
     refine gFT ?_
     refine (have F:=tmz;gT0 ?_)
     exact (have F:=tmz;⟨(),trivial,gw,gw⟩)
    ·refine (have F:=ai @l1 (ai l4 (ai l5 tmz));gO3 ?_)
     refine gA1 2 ?_
     refine (have F:=tmz;gO3 ?_)
     refine gA1 7 ?_
     refine gS 55 fun b2 cap2=>?_
     refine gD 55 [55] [] ?_
     refine (have F:=tmz;gC cB ?_)
     refine runs_nil ?_
     refine gFm 8 ?_
     refine gFx 9 ?_
     refine gFx 10 ?_
     refine gA1 12 ?_
     refine (have F:=tmz;gO3 ?_)
     refine gA1 13 ?_
     refine (have F:=tmz;gO3 ?_)
     refine gFT ?_
     refine (have F:=tmz;gT0 ?_)
     exact (have F:=tmz;⟨(),trivial,gw,gw⟩)
  ·refine (have F:=tmz;gO3 ?_)
   refine gA2 2 5 ?_ ?_
   ·refine (have F:=tmz;gO3 ?_)
    refine gA1 5 ?_
    refine (have F:=tmz;gO3 ?_)
    refine gA1 6 ?_
    refine (have F:=ai @l1 (ai l4 (ai l5 tmz));gO3 ?_)
    refine gA1 7 ?_
    refine gS 55 fun b2 cap2=>?_
    refine gD 55 [55] [] ?_
    refine (have F:=tmz;gC cB ?_)
    refine runs_nil ?_
    refine gFm 8 ?_
    refine gFx 9 ?_
    refine gFx 10 ?_
    refine gA1 12 ?_
    refine (have F:=tmz;gO3 ?_)
    refine gA1 13 ?_
    refine (have F:=tmz;gO3 ?_)
    refine gFT ?_
    refine (have F:=tmz;gT0 ?_)
    exact (have F:=tmz;⟨(),trivial,gw,gw⟩)
   ·refine (have F:=tmz;gO3 ?_)
    refine gA2 2 6 ?_ ?_
    ·refine (have F:=tmz;gO3 ?_)
     refine gA1 6 ?_
     refine (have F:=ai @l1 (ai l4 (ai l5 tmz));gO3 ?_)
     refine gA1 7 ?_
     refine gS 55 fun b2 cap2=>?_
     refine gD 55 [55] [] ?_
     refine (have F:=tmz;gC cB ?_)
     refine runs_nil ?_
     refine gFm 8 ?_
     refine gFx 9 ?_
     refine gFx 10 ?_
     refine gA1 12 ?_
     refine (have F:=tmz;gO3 ?_)
     refine gA1 13 ?_
     refine (have F:=tmz;gO3 ?_)
     refine gFT ?_
     refine (have F:=tmz;gT0 ?_)
     exact (have F:=tmz;⟨(),trivial,gw,gw⟩)
    ·refine (have F:=ai @l1 (ai l4 (ai l5 tmz));gO3 ?_)
     refine gA1 2 ?_
     refine (have F:=tmz;gO3 ?_)
     refine gA1 7 ?_
     refine gS 55 fun b2 cap2=>?_
     refine gD 55 [55] [] ?_
     refine (have F:=tmz;gC cB ?_)
     refine runs_nil ?_
     refine gFm 8 ?_
     refine gFx 9 ?_
     refine gFx 10 ?_
     refine gA1 12 ?_
     refine (have F:=tmz;gO3 ?_)
     refine gA1 13 ?_
     refine (have F:=tmz;gO3 ?_)
     refine gFT ?_
     refine (have F:=tmz;gT0 ?_)
     exact (have F:=tmz;⟨(),trivial,gw,gw⟩)
 cases m with
 | none =>
  (have F:=ai @hz @tmz;refine gG ?_;exact gTd)
 | some c =>
  have cR:=con_rebuilt (mc:=mc) hg (hok c rfl) o.path hT hat hop
  simp only [Option.getD_some,Option.isSome_some,Option.bind_some]
  (have F:=@tmz;have NN:StopAt 11:=trivial;refine gGn ?_;clear F NN)
  refine gB ?_
  (have F:=@tmz;refine gC (cR) ?_;clear F)
  (have F:=@tmz;refine gR ?_;clear F)
  (have F:=@tmz;refine gG ?_;exact gTd)
end Go.Proofs.YtohilkmdjdfljaaGreat
namespace Go.Proofs.YtohilkmdjdfljaaGreat
open Go.RowKit
theorem occ_bulk {o:Occ} (h:bulkRow (encOcc o)<=1048576):o.path.length<=1048576∧tmsB o.left∧tmsB o.right:=by
 simp only [encOcc,bulkRow,bulkC,encTms_len,List.length_map] at h
 unfold tmsB
 omega
end Go.Proofs.YtohilkmdjdfljaaGreat
namespace Go.Proofs.YtohilkmdjdfljaaGreat
open Go.RowKit
section
variable {g:Sgn}
noncomputable def pt6 (g:Sgn) (t:Tm) (o:Occ) (u:Tm):Tm:=if o.left.length+o.right.length=0 then rb6 g t o.path u else match mkT g (subAt t o.path).1.op (o.left++[u]++o.right) with
 | none=>zTm
 | some c=>rb6 g t o.path c
noncomputable def ptT (g:Sgn) (t:Tm) (o:Occ) (u:Tm):Option Tm:=if o.left.length+o.right.length=0 then rbT g t o.path u else (mkT g (subAt t o.path).1.op (o.left++[u]++o.right)).bind fun c=>rbT g t o.path c
theorem pt6_of {t u x:Tm} {o:Occ} (h:ptT g t o u=some x):pt6 g t o u=x:=by
 unfold ptT at h
 unfold pt6
 split at h
 ·rename_i hn
  rw [if_pos hn]
  exact rb6_of _ h
 ·rename_i hn
  rw [if_neg hn]
  cases hm:mkT g (subAt t o.path).1.op (o.left++[u]++o.right) with
  | none=>rw [hm] at h;cases h
  | some c =>
   rw [hm] at h
   exact rb6_of _ h
set_option maxHeartbeats 16000000 in
set_option maxRecDepth 100000 in
theorem con_l12Put (hokg:okSgn g) (hg:SgnOk g) {t u:Tm} (hT:TermOk g t) (hb:bulkRow (encTm t)<=1048576) (hu:TermOk g u) {o:Occ} (hf:(tkIn g t o).2=true) (hop:o.path.length<=1048576) (hol:o.left.length<=1048576) (hor:o.right.length<=1048576):Con e0 62 [.agg (encSgn g),.agg (encTm t),.agg (encOcc o),.agg (encTm u)] [.agg (encTm (pt6 g t o u)),.one (.lit (.bool (ptT g t o u).isSome))]:=by
 have hz:=zTm_u
 have hat:=tk_at hf
 have c2:=con_l12At t o.path hop hb
 have hs:=sub_term o.path t hT hat
 unfold pt6 ptT
 by_cases hn:o.left.length+o.right.length=0
 ·rw [if_pos hn,if_pos hn]
  have cA:=fun op=>con_around0 (g:=g) (op:=op) (u:=u) hn
  have cR:=con_l12Replace hokg hg hu o.path hT hat hop
  rw [encOcc_u] at cA ⊢
  rw [encSgn_u] at cR cA ⊢
  rw [hat] at c2
  refine gI (ts:=[.cell 8 41,.slot 9]) 2147497983 Tryz.func62 ?_
  (have F:=@tmz;refine gG ?_;clear F)
  refine gB ?_
  (have F:=@tmz;refine gC (c2) ?_;clear F)
  (have F:=@tmz;refine gR ?_;clear F)
  (have F:=@tmz;have NN:StopAt 2:=trivial;refine gGn ?_;clear F NN)
  refine gB ?_
  (have F:=@tmz;refine gC (cA _) ?_;clear F)
  (have F:=@tmz;refine gR ?_;clear F)
  (have F:=@tmz;have NN:StopAt 5:=trivial;refine gGn ?_;clear F NN)
  refine gB ?_
  (have F:=@tmz;refine gC (cR) ?_;clear F)
  (have F:=@tmz;refine gR ?_;clear F)
  (have F:=@tmz;refine gG ?_;exact gTd)
 rw [if_neg hn,if_neg hn]
 obtain ⟨x,d,hA,hac,hle,hL,hR⟩:=tk_around hT hf hn
 have hal:=args_len hs
 have hall:∀ a∈o.left++[u]++o.right,TermOk g a:=fun a ha=>by
  simp only [List.mem_append,List.mem_singleton] at ha
  rcases ha with (ha | rfl) | ha
  ·exact hL a ha
  ·exact hu
  ·exact hR a ha
 have cM:=con_l6MakeT hokg hg hA.lo hA.at' (o.left++[u]++o.right) hall (by simp only [List.length_append,List.length_cons,List.length_nil];omega)
 have hok:=fun c=>mkT_ok hg (t:=c) hA.lo hall
 have hof:=fun c=>mk6T_of (g:=g) (op:=(subAt t o.path).1.op) (xs:=o.left++[u]++o.right) (t:=c)
 have cA:=con_around (g:=g) (op:=(subAt t o.path).1.op) (o:=o) (u:=u) hn hol hor cM
 clear cM
 generalize mk6T g (subAt t o.path).1.op (o.left++[u]++o.right)=q at cA hof
 generalize mkT g (subAt t o.path).1.op (o.left++[u]++o.right)=m at cA hok hof ⊢
 rw [encOcc_u] at cA ⊢
 rw [encSgn_u] at cA ⊢
 rw [hat] at c2
 generalize (subAt t o.path).1=p at c2 cA
 refine gI (ts:=[.cell 8 41,.slot 9]) 2147497983 Tryz.func62 ?_
 (have F:=@tmz;refine gG ?_;clear F)
 refine gB ?_
 (have F:=@tmz;refine gC (c2) ?_;clear F)
 (have F:=@tmz;refine gR ?_;clear F)
 (have F:=@tmz;have NN:StopAt 2:=trivial;refine gGn ?_;clear F NN)
 refine gB ?_
 (have F:=@tmz;refine gC (cA) ?_;clear F)
 cases m with
 | none =>
  (have F:=@tmz;refine gR ?_;clear F)
  (have F:=ai @hz @tmz;refine gG ?_;exact gTd)
 | some c =>
  have hq:=hof c rfl
  subst hq
  have cR:=con_l12Replace hokg hg (hok q rfl) o.path hT hat hop
  rw [encSgn_u] at cR
  simp only [Option.isSome_some,Option.bind_some]
  (have F:=@tmz;refine gR ?_;clear F)
  (have F:=@tmz;have NN:StopAt 5:=trivial;refine gGn ?_;clear F NN)
  refine gB ?_
  (have F:=@tmz;refine gC (cR) ?_;clear F)
  (have F:=@tmz;refine gR ?_;clear F)
  (have F:=@tmz;refine gG ?_;exact gTd)
theorem rpT_no {t u:Tm} {o:Occ} (h:¬ (SgnOk g∧TermOk g t∧TermOk g u∧(tkIn g t o).2=true)):rpT g t o u=none:=by unfold rpT;rw [if_neg h]
theorem rpT_yes {t u:Tm} {o:Occ} (h:SgnOk g∧TermOk g t∧TermOk g u∧(tkIn g t o).2=true):rpT g t o u=ptT g t o u:=by unfold rpT ptT;rw [if_pos h]
theorem rpT_bulk {t u x:Tm} {o:Occ} (h:rpT g t o u=some x):bulkRow (encTm x)<=1048576:=by
 have h1:=rpT_ok h
 have h2:=bulk_form h1.form
 have h3:=h1.size
 omega
set_option maxHeartbeats 16000000 in
set_option maxRecDepth 100000 in
theorem con_specRp (hok:okSgn g) {t u:Tm} (ht:okTm t) (hb:bulkRow (encTm t)<=1048576) (hu:okTm u) (hbu:bulkRow (encTm u)<=1048576) {o:Occ} (ho:okOcc o) (hbo:bulkRow (encOcc o)<=1048576):Con e0 21 [.agg (encSgn g),.agg (encTm t),.agg (encOcc o),.agg (encTm u)] [.agg (encTm ((rpT g t o u).getD zTm)),.one (.lit (.bool (rpT g t o u).isSome))]:=by
 obtain ⟨hop,h2,h3⟩:=occ_bulk hbo
 have h2':=h2
 unfold tmsB at h2' h3
 have cT:=con_specIsTerm hok ht (big_of_bulk hb)
 have cU:=con_specIsTerm hok hu (big_of_bulk hbu)
 have hz:=zTm_u
 by_cases hg:SgnOk g
 rotate_left
 ·have h1:(isSgn g && isTerm g t)=false:=by rw [isSgn_false hg,Bool.false_and]
  rw [rpT_no fun h=>hg h.1]
  rw [encOcc_u,encSgn_u]
  rw [encSgn_u] at cT
  refine gI (ts:=[.cell 8 41,.slot 9]) 550024253439 Tryz.func21 ?_
  (have F:=@tmz;refine gG ?_;clear F)
  refine gB ?_
  (have F:=@tmz;refine gC (cT) ?_;clear F)
  (have F:=ai @h1 @tmz;refine gR ?_;clear F)
  (have F:=ai @h1 (ai @tmz @hz);refine gG ?_;exact gTd)
 rw [isSgn_true hg,Bool.true_and] at cT cU
 by_cases hT:TermOk g t
 rotate_left
 ·rw [rpT_no fun h=>hT h.2.1]
  rw [isTerm_false hT] at cT
  rw [encOcc_u,encSgn_u]
  rw [encSgn_u] at cT
  refine gI (ts:=[.cell 8 41,.slot 9]) 550024253439 Tryz.func21 ?_
  (have F:=@tmz;refine gG ?_;clear F)
  refine gB ?_
  (have F:=@tmz;refine gC (cT) ?_;clear F)
  (have F:=@tmz;refine gR ?_;clear F)
  (have F:=ai @tmz @hz;refine gG ?_;exact gTd)
 rw [isTerm_true hT] at cT
 by_cases hU:TermOk g u
 rotate_left
 ·rw [rpT_no fun h=>hU h.2.2.1]
  rw [isTerm_false hU] at cU
  rw [encOcc_u,encSgn_u]
  rw [encSgn_u] at cT cU
  refine gI (ts:=[.cell 8 41,.slot 9]) 550024253439 Tryz.func21 ?_
  (have F:=@tmz;refine gG ?_;clear F)
  refine gB ?_
  (have F:=@tmz;refine gC (cT) ?_;clear F)
  (have F:=@tmz;refine gC (cU) ?_;clear F)
  (have F:=@tmz;refine gR ?_;clear F)
  (have F:=ai @tmz @hz;refine gG ?_;exact gTd)
 rw [isTerm_true hU] at cU
 have cF:=con_l12Fits hg hT ht hb hop (by omega) (by omega) ho.2.1 ho.2.2.1 h2
 have cP:=fun hf=>con_l12Put hok hg hT hb hU (o:=o) hf hop (by omega) (by omega)
 have hrp:=fun hf=>rpT_yes (g:=g) (t:=t) (u:=u) (o:=o) ⟨hg,hT,hU,hf⟩
 have hrn:=fun hf:¬ _=>rpT_no (g:=g) (t:=t) (u:=u) (o:=o) fun h=>hf h.2.2.2
 have hrb:=fun x=>rpT_bulk (g:=g) (t:=t) (u:=u) (o:=o) (x:=x)
 have hof:=fun x=>pt6_of (g:=g) (t:=t) (u:=u) (o:=o) (x:=x)
 rw [encOcc_u] at cF cP ⊢
 rw [encSgn_u] at cT cU cF cP ⊢
 generalize (tkIn g t o).2=f at cF cP hrp hrn
 generalize pt6 g t o u=q at cP hof
 generalize ptT g t o u=m at cP hrp hof
 generalize rpT g t o u=r at hrp hrn hrb ⊢
 refine gI (ts:=[.cell 8 41,.slot 9]) 550024253439 Tryz.func21 ?_
 (have F:=@tmz;refine gG ?_;clear F)
 refine gB ?_
 (have F:=@tmz;refine gC (cT) ?_;clear F)
 (have F:=@tmz;refine gC (cU) ?_;clear F)
 (have F:=@tmz;refine gC (cF) ?_;clear F)
 cases f with
 | false =>
  rw [hrn (by simp)]
  (have F:=@tmz;refine gR ?_;clear F)
  (have F:=ai @tmz @hz;refine gG ?_;exact gTd)
 | true =>
 have cP:=cP rfl
 have hrp:=hrp rfl
 subst hrp
 clear hrn
 (have F:=@tmz;refine gR ?_;clear F)
 (have F:=@tmz;have NN:StopAt 3:=trivial;refine gGn ?_;clear F NN)
 refine gB ?_
 (have F:=@tmz;refine gC (cP) ?_;clear F)
 cases r with
 | none =>
  (have F:=@tmz;refine gR ?_;clear F)
  (have F:=ai @tmz @hz;refine gG ?_;exact gTd)
 | some x =>
  have hq:=hof x rfl
  subst hq
  (have F:=@tmz;refine gR ?_;clear F)
  (have F:=@tmz;have NN:StopAt 6:=trivial;refine gGn ?_;clear F NN)
  refine gB ?_
  (have F:=@tmz;refine gC (con_l5Copy q (hrb q rfl)) ?_;clear F)
  (have F:=@tmz;refine gR ?_;clear F)
  (have F:=@tmz;refine gG ?_;exact gTd)
set_option maxHeartbeats 16000000 in
set_option maxRecDepth 100000 in
theorem conP_implRp (hok:okSgn g) {t u:Tm} (ht:okTm t) (hb:bulkRow (encTm t)<=1048576) (hu:okTm u) (hbu:bulkRow (encTm u)<=1048576) {o:Occ} (hbo:bulkRow (encOcc o)<=1048576):ConP e0 22 [.agg (encSgn g),.agg (encTm t),.agg (encOcc o),.agg (encTm u)] [] (RTreeF (encTm ((rpT g t o u).getD zTm)) (rpT g t o u).isSome):=by
 obtain ⟨hop,h2,h3⟩:=occ_bulk hbo
 unfold tmsB at h2 h3
 by_cases hg:SgnOk g
 rotate_left
 ·rw [rpT_no fun h=>hg h.1]
  have c:=con_newAlg_not hok hg
  rw [encSgn_u] at c
  rw [encSgn_u,encOcc_u]
  refine gIP (ts:=[.cell 8 41,.slot 9]) [] 33562623 Tryz.func22 ?_
  (have F:=@tmz;refine gG ?_;clear F)
  refine gB ?_
  (have F:=@tmz;refine gC (c) ?_;clear F)
  (have F:=@tmz;refine gR ?_;clear F)
  (have F:=@tmz;have NN:StopAt 3:=trivial;refine gGn ?_;clear F NN)
  refine gB ?_
  refine gX ?_
  (have F:=@e0P;refine gR ?_;clear F)
  (have F:=@tmz;refine gG ?_;clear F)
  refine pE [] [1001] re_zTm ?_
  exact (have F:=@e0P;gTP (R:=RTreeF (encTm zTm) false) [1001] ⟨[.int .i64 0,.string ByteArray.empty,.int .i64 0,.slice none 0 0],_,rfl,by rw [zTm_u];rfl,rfl,rfl⟩)
 have c:=conE_newAlg hok hg
 rw [encSgn_u] at c
 rw [encSgn_u]
 have hrb:bulkRow (encTm ((rpT g t o u).getD zTm))<=1048576:=by
  cases hr:rpT g t o u with
  | none=>rw [Option.getD_none,zTm_u];simp [bulkRow,bulkC,bulkRows]
  | some x=>exact rpT_bulk hr
 have hcp:=con_copyTerm ((rpT g t o u).getD zTm) hrb
 have cI:=fun mc=>con_implIsT (mc:=mc) hg hu (big_of_bulk hbu)
 by_cases hU:TermOk g u
 rotate_left
 ·rw [rpT_no fun h=>hU h.2.2.1]
  rw [isTerm_false hU] at cI
  rw [encOcc_u]
  refine gIP (ts:=[.cell 8 41,.slot 9]) [] 33562623 Tryz.func22 ?_
  (have F:=@tmz;refine gG ?_;clear F)
  refine gB ?_
  (have F:=@tmz;refine gCE (c) ?_;clear F)
  rintro r ⟨b,rfl⟩
  have cI:=cI (.lit (.map (some b)))
  generalize C.lit (.map (some b))=mc at cI ⊢
  (have F:=ai @retA_u @sa_some;refine gR ?_;clear F)
  (have F:=@tmz;refine gG ?_;clear F)
  refine gB ?_
  (have F:=@tmz;refine gC (cI) ?_;clear F)
  (have F:=@tmz;refine gR ?_;clear F)
  (have F:=@tmz;have NN:StopAt 3:=trivial;refine gGn ?_;clear F NN)
  refine gB ?_
  refine gX ?_
  (have F:=@e0P;refine gR ?_;clear F)
  (have F:=@tmz;refine gG ?_;clear F)
  refine pE [] [1001] re_zTm ?_
  exact (have F:=@e0P;gTP (R:=RTreeF (encTm zTm) false) [1001] ⟨[.int .i64 0,.string ByteArray.empty,.int .i64 0,.slice none 0 0],_,rfl,by rw [zTm_u];rfl,rfl,rfl⟩)
 rw [isTerm_true hU] at cI
 have cR:=fun mc=>con_replace (mc:=mc) hg ht hb hU hop (o:=o) (by omega) (by omega)
 rw [encOcc_u] at cR ⊢
 generalize rpT g t o u=px at cR hcp ⊢
 refine gIP (ts:=[.cell 8 41,.slot 9]) [] 33562623 Tryz.func22 ?_
 (have F:=@tmz;refine gG ?_;clear F)
 refine gB ?_
 (have F:=@tmz;refine gCE (c) ?_;clear F)
 rintro r ⟨b,rfl⟩
 have cI:=cI (.lit (.map (some b)))
 have cR:=cR (.lit (.map (some b)))
 generalize C.lit (.map (some b))=mc at cI cR ⊢
 (have F:=ai @retA_u @sa_some;refine gR ?_;clear F)
 (have F:=@tmz;refine gG ?_;clear F)
 refine gB ?_
 (have F:=@tmz;refine gC (cI) ?_;clear F)
 (have F:=@tmz;refine gR ?_;clear F)
 (have F:=@tmz;refine gG ?_;clear F)
 refine gB ?_
 (have F:=@tmz;refine gC (cR) ?_;clear F)
 (have F:=@tmz;refine gR ?_;clear F)
 (have F:=@tmz;refine gG ?_;clear F)
 refine gB ?_
 (have F:=@tmz;refine gCP [] [1001] (hcp) ?_;clear F)
 rintro r pm ⟨us,E2,rfl,hu',hok,rfl⟩
 have hu'':=hu'
 rw [tm_len] at hu'
 obtain ⟨u0,u1,u2,u3,rfl⟩:=len4 hu'
 obtain ⟨k0,k1,k2,k3⟩:=okc4 hok
 simp only [litRow4,setA,retA,zipM,List.cons_append,List.nil_append]
 (have F:=ai @tmz (ai @k0 (ai @k1 (ai @k2 @k3)));refine gR ?_;clear F)
 (have F:=@tmz;refine gG ?_;clear F)
 exact (have F:=@e0P;gTP (R:=RTreeF (encTm (px.getD zTm)) px.isSome) [1001] ⟨[u0,u1,u2,u3],E2,rfl,hu'',hok,rfl⟩)
theorem big_rp {t u:Tm} {o:Occ}:bulkRow (encTm ((rpT g t o u).getD zTm))<=1048576:=by
 cases hr:rpT g t o u with
 | none=>rw [Option.getD_none,zTm_u];simp [bulkRow,bulkC,bulkRows]
 | some x=>exact rpT_bulk hr
theorem okRow_rp {t u:Tm} {o:Occ}:okRow (fieldsOf .term) (encTm ((rpT g t o u).getD zTm)):=by
 refine okRow_enc _ ?_
 cases hr:rpT g t o u with
 | none=>exact zTm_ok
 | some x =>
  have hg:SgnOk g:=Classical.byContradiction fun h=>by rw [rpT_no fun q=>h q.1] at hr;cases hr
  exact (rpT_ok hr).ok hg
end
end Go.Proofs.YtohilkmdjdfljaaGreat
namespace Go.Proofs.YtohilkmdjdfljaaGreat
open Go.RowKit
theorem con_treeF {e:Env} {f:FuncId} {args:List D} {row:List C} {b:Bool} (h:ConP e f args [] (RTreeF row b)):Con e f args [.agg row,.one (.lit (.bool b))]:=by
 refine ⟨h.1,fun w S vs hS hE hG hv=>(h.2 w S vs hS hE hG (fun x hx=>by cases hx) trivial hv).mono ?_⟩
 rintro en w' ⟨v,r,pm',h1,⟨us,E,rfl,hl,hok,rfl⟩,h3,h4,h5,h6,h7⟩
 obtain ⟨⟨q1,q2,q3⟩,p2⟩:=h5 _ List.mem_cons_self
 obtain ⟨vs',hvs,hd⟩:=h7
 match vs',hd with
 | [u0,u1],⟨⟨us0,hu0,hr⟩,hb,_⟩ =>
  have e1:=RepVals_lits_inv hr
  subst e1
  refine ⟨v,h1,h3.noPin,h4,[u0,u1],hvs,⟨us0,hu0,OwnVals.rep _ _ _ _ (fun g hg=>.inr ⟨?_,(q1 g hg).1⟩) q2⟩,hb,trivial⟩
  exact (p2 g hg).elim (fun ⟨x,hx,_⟩=>by cases hx) id
end Go.Proofs.YtohilkmdjdfljaaGreat
namespace Go.Proofs.YtohilkmdjdfljaaGreat
open Go.RowKit
def MarkS (f:FuncId) (rows:List (List C)):Prop:=∀ (k:Int) (E:Nat->Prop) (v:Value),0<=k->k+cntRows rows<=1000000000->ConP e0 f [.one (.lit v),.one (.lit (.int .i64 k))] [.set E (fun w=>Own w (.sl rows) E v)] (fun r pm=>∃ E',r=[.one (.lit (.int .i64 (k+cntRows rows)))]∧pm=[.set E' (fun w=>Own w (.sl (mkRows k rows)) E' v)])
theorem okRows.rowsLen {fs:List F} {rows:List (List C)} (h:okRows fs rows):rowsLen fs.length rows:=fun r hr=>by
 obtain ⟨i,hi⟩:=List.getElem?_of_mem hr
 exact ⟨(h.get hi).len,(h.get hi).cells⟩
theorem mkRows_nil (k:Int):mkRows k []=[]:=by simp only [mkRows]
theorem cnt_nil:cntRows []=0:=by simp only [cntRows]
theorem set_get {α:Type} {l:List α} {i:Nat} (h:i < l.length) (x:α):(l.set i x)[i]?=some x:=by simp [h]
theorem set_len {α:Type} (l:List α) (i:Nat) (x:α):(l.set i x).length=l.length:=List.length_set
theorem set_set' {α:Type} (l:List α) (i:Nat) (x y:α):(l.set i x).set i y=l.set i y:=List.set_set ..
theorem set_take {α:Type} {l:List α} {i:Nat} {x:α} (h:i < l.length):(l.set i x).take (i+1)=l.take i++[x]:=by
 rw [tk_snoc (x:=x) (by simp [h]),List.take_set_of_le (Nat.le_refl _)]
theorem set_drop {α:Type} (l:List α) (i:Nat) (x:α):(l.set i x).drop (i+1)=l.drop (i+1):=List.drop_set_of_lt (by omega)
set_option maxHeartbeats 8000000 in
set_option maxRecDepth 100000 in
theorem mark_TermS (rows:List (List C)) (hok:okRows (fieldsOf .term) rows) (h:∀ r∈rows,∀ i0 t1 i2 r3,r=[.lit (.int .i64 i0),.lit (.string t1),.lit (.int .i64 i2),.sl r3]->MarkS 58 r3):MarkS 58 rows:=by
 intro k E v hk hb
 refine gIP (ts:=[.slot 4]) [1000] 563 Tryz.func58 ?_
 (have F:=@e0P;refine gG ?_;clear F)
 by_cases hne:rows=[]
 ·subst hne
  refine pEx [1000] [1000] fd_nil ?_
  rintro ⟨a,cap⟩ rfl
  (have F:=@hk;refine gL (ι:=Unit) [1,5,9] [] (fun x=>[(5,.d (.one (.lit (.int .i64 0)))),(1,.d (.one (.lit (.int .i64 k))))]) (fun x=>[]) (fun x=>True) (fun x=>0) (()) (trivial) (fun x hx=>?_);clear F)
  have q1:((0:Int) < 0)=False:=eq_false (by decide)
  have q2:((0:Int) < ((0:Nat):Int))=False:=eq_false (by decide)
  (have F:=ai @q1 @q2;refine gG ?_;clear F)
  have F:=hk
  refine gTP (R:=fun r pm=>∃ E',r=[.one (.lit (.int .i64 (k+(cntRows []:Nat))))]∧pm=[.set E' (fun w=>Own w (.sl (mkRows k [])) E' (.slice a 0 cap))]) [1000] ⟨E,by simp only [cntRows,Int.natCast_zero,Int.add_zero];rfl,by simp only [mkRows];rfl⟩
 ·have hrl:rowsLen 4 rows:=okRows.rowsLen hok
  refine pEx [1000] [1000,1001] (fd_open hne hrl) ?_
  rintro ⟨a,cap,ety,uss,E1⟩ ⟨rfl,hl,hmx⟩
  simp only at hl ⊢
  unfold maxLen at hmx
  refine pE [] [1002] re_none ?_
  (have F:=ai @mkRows_nil (ai @cnt_nil (ai @Int.add_zero @Int.natCast_zero));refine gL (ι:=Nat × List (List Value) × (Nat->Prop) × (Nat->Prop)) [1,5,9] [1000,1001,1002] (fun x=>[(5,.d (.one (.lit (.int .i64 (x.1:Int))))),(1,.d (.one (.lit (.int .i64 (k+(cntRows (rows.take x.1):Nat))))))]) (fun x=>[(1000,.buf (some (a,cap)) ety 4 (x.2.1.map litRow)),(1001,.set x.2.2.1 (fun w=>OwnVs w (rows.drop x.1) x.2.2.1 (x.2.1.drop x.1))),(1002,.set x.2.2.2 (fun w=>OwnVs w (mkRows k (rows.take x.1)) x.2.2.2 (x.2.1.take x.1)))]) (fun x=>x.1<=rows.length∧x.2.1.length=rows.length) (fun x=>rows.length - x.1) ((0,uss,E1,fun _=>False)) (⟨Nat.zero_le _,hl⟩) (fun x hx=>?_);clear F)
  obtain ⟨i,us,E2,E3⟩:=x
  obtain ⟨hi,hn⟩:=hx
  simp only at hi hn
  dsimp only
  by_cases hlt:i < rows.length
  ·obtain ⟨r,hr⟩:∃ r,rows[i]?=some r:=⟨_,List.getElem?_eq_getElem hlt⟩
   obtain ⟨u,hu⟩:∃ u,us[i]?=some u:=⟨_,List.getElem?_eq_getElem (by omega)⟩
   obtain ⟨i0,t1,i2,r3,rfl,_,_,_,g3⟩:=okRow_Term (hok.get hr)
   have hm:=h _ (List.mem_of_getElem? hr) i0 t1 i2 r3 rfl
   have hc1:cntRows (rows.take (i+1))=cntRows (rows.take i)+(3+cntRows r3):=by
    rw [tk_snoc hr,cnt_snoc];simp only [cntRow,cntC];omega
   have hc2:=cnt_take_le rows (i+1)
   rw [drop_get hr,drop_get hu]
   refine pEx [1001] [1001] (fd_lits rfl) ?_
   rintro ⟨⟩ hlit
   obtain ⟨u3,rfl⟩:∃ u3,u=[.int .i64 i0,.string t1,.int .i64 i2,u3]:=by
    match u,hlit with
    | [_,_,_,u3],⟨rfl,rfl,rfl,_⟩=>exact ⟨u3,rfl⟩
   refine pEx (f:=fun (x:(Nat->Prop) × (Nat->Nat->Prop))=>[.set x.1 (fun w=>OwnVs w (rows.drop (i+1)) x.1 (us.drop (i+1))),.set (x.2 0) (fun w=>Own w (.sl r3) (x.2 0) u3)]) [1001] [1001,1003] (fd_row rfl) ?_
   rintro ⟨E4,Es⟩ -
   dsimp only
   generalize hkk:k+(cntRows (rows.take i):Int)=kk
   have q1:((i:Int) < (rows.length:Int))=True:=eq_true (by omega)
   have q2:i < rows.length:=hlt
   have hs:∀ X:List C,((us.map litRow).set i X)[i]?=some X:=fun X=>set_get (by rw [len_lits,hn];omega) X
   have w1:IntKind.i64.wrap (kk+1)=kk+1:=IntWalk.i64_in _ (by omega)
   have w2:IntKind.i64.wrap (kk+1+1)=kk+1+1:=IntWalk.i64_in _ (by omega)
   have w3:IntKind.i64.wrap (kk+1+1+1)=kk+1+1+1:=IntWalk.i64_in _ (by omega)
   have w4:IntKind.i64.wrap ((i:Int)+1)=(i:Int)+1:=IntWalk.i64_in _ (by omega)
   (have F:=ai @q1 (ai @hl (ai @hn (ai @hu (ai @litRow4 (ai @len_lits (ai @set_len (ai @hs (ai @w1 (ai @w2 (ai @w3 (ai @q2 @set_set')))))))))));refine gG ?_;clear F)
   refine gB ?_
   (have F:=@q1;refine gC (con_markText (kk+1) (by omega) (by omega)) ?_;clear F)
   (have F:=ai @hl (ai @hn (ai @hu (ai @litRow4 (ai @len_lits (ai @set_len (ai @hs (ai @q2 @set_set')))))));refine gR ?_;clear F)
   (have F:=ai @q1 (ai @hl (ai @hn (ai @hu (ai @litRow4 (ai @len_lits (ai @set_len (ai @hs (ai @w1 (ai @w2 (ai @w3 (ai @q2 @set_set')))))))))));refine gG ?_;clear F)
   refine gB ?_
   (have F:=ai @q1 (ai @hl (ai @hn (ai @hu (ai @litRow4 (ai @len_lits (ai @set_len (ai @hs (ai @w1 (ai @w2 (ai @w3 (ai @q2 @set_set')))))))))));refine gCP [1003] [1003] (hm (kk+1+1+1) (Es 0) u3 (by omega) (by omega)) ?_;clear F)
   rintro r pm ⟨E5,rfl,rfl⟩
   simp only [setA,retA,zipM,List.cons_append,List.nil_append]
   (have F:=@q1;refine gR ?_;clear F)
   obtain ⟨E6,hre⟩:∃ E6,Retold [.set E3 (fun w=>OwnVs w (mkRows k (rows.take i)) E3 (us.take i)),.set E5 (fun w=>Own w (.sl (mkRows (kk+1+1+1) r3)) E5 u3)] [.set E6 (fun w=>OwnVs w (mkRows k (rows.take (i+1))) E6 ((us.set i [.int .i64 kk,.string (txt (kk+1)),.int .i64 (kk+1+1),u3]).take (i+1)))]:=by
    have hz:=re_row (E:=E3) (done:=mkRows k (rows.take i)) (ud:=us.take i) (cs:=[.lit (.int .i64 kk),.lit (.string (txt (kk+1))),.lit (.int .i64 (kk+1+1)),.sl (mkRows (kk+1+1+1) r3)]) (us:=[.int .i64 kk,.string (txt (kk+1)),.int .i64 (kk+1+1),u3]) (Es:=fun _=>E5) rfl ⟨rfl,rfl,rfl,trivial⟩
    rw [tk_snoc hr,mkRows_snoc,hkk,set_take (by omega)]
    simp only [mkRow,mkC,mkV,cntC,Int.natCast_one]
    exact ⟨_,hz⟩
   refine pE [1002,1003] [1002] hre ?_
   have e1:((us.set i [.int .i64 kk,.string (txt (kk+1)),.int .i64 (kk+1+1),u3]).map litRow)=(us.map litRow).set i [.lit (.int .i64 kk),.lit (.string (txt (kk+1))),.lit (.int .i64 (kk+1+1)),.lit u3]:=by rw [List.map_set,litRow4]
   have e2:=set_drop us i [.int .i64 kk,.string (txt (kk+1)),.int .i64 (kk+1+1),u3]
   have e5:k+(cntRows (rows.take (i+1)):Int)=kk+1+1+1+(cntRows r3:Int):=by rw [hc1];omega
   have hn2:(us.set i [.int .i64 kk,.string (txt (kk+1)),.int .i64 (kk+1+1),u3]).length=rows.length:=by rw [set_len,hn]
   generalize us.set i [.int .i64 kk,.string (txt (kk+1)),.int .i64 (kk+1+1),u3]=us2 at e1 e2 hn2 ⊢
   rw [<- e1,<- e2]
   (have F:=ai @w4 (ai @e5 @hl);refine gG ?_;exact ⟨(i+1,us2,E4,E6),⟨hlt,hn2⟩,gw,gw,by omega⟩)
  ·obtain rfl:i=rows.length:=by omega
   have q1:((rows.length:Int) < (rows.length:Int))=False:=eq_false (by omega)
   rw [List.take_length,List.take_of_length_le (Nat.le_of_eq hn)]
   (have F:=ai @q1 (ai @hl @hn);refine gG ?_;clear F)
   obtain ⟨E6,hre⟩:∃ E6,Retold [.buf (some (a,cap)) ety 4 (us.map litRow),.set E3 (fun w=>OwnVs w (mkRows k rows) E3 us)] [.set E6 (fun w=>Own w (.sl (mkRows k rows)) E6 (.slice a uss.length cap))]:=by
    rw [hl,<- hn]
    exact ⟨_,re_close (fun w h=>h) (Own.stable _ _ _)⟩
   refine pE [1000,1002] [1000] hre ?_
   have F:=hk
   exact gTP (R:=fun r pm=>∃ E',r=[.one (.lit (.int .i64 (k+(cntRows rows:Nat))))]∧pm=[.set E' (fun w=>Own w (.sl (mkRows k rows)) E' (.slice a uss.length cap))]) [1000] ⟨E6,rfl,rfl⟩
theorem markTermS_n (n:Nat):∀ rows,nodesRows rows < n->okRows (fieldsOf .term) rows->MarkS 58 rows:=by
 induction n with
 | zero=>exact fun _ h=>by omega
 | succ n ih =>
  intro rows hn hok
  refine mark_TermS rows hok fun r hr i0 t1 i2 r3 he=>?_
  subst he
  obtain ⟨i,hi⟩:=List.getElem?_of_mem hr
  have h1:=nodes_get hi
  obtain ⟨_,_,_,_,he,_,_,_,g3⟩:=okRow_Term (hok.get hi)
  injection he with _ he;injection he with _ he;injection he with _ he;injection he with he _;injection he with he;subst he
  simp only [nodesRow,nodesC] at h1
  exact ih _ (by omega) g3
theorem markTermS_all {rows:List (List C)} (hok:okRows (fieldsOf .term) rows):MarkS 58 rows:=markTermS_n _ rows (Nat.lt_succ_self _) hok
def mkTop:Int->List C->List C
 | _,[]=>[]
 | k,.sl rows::cs=>.sl (mkRows k rows)::mkTop (k+cntRows rows) cs
 | k,c::cs=>c::mkTop k cs
def cntTop:List C->Nat
 | []=>0
 | .sl rows::cs=>cntRows rows+cntTop cs
 | _::cs=>cntTop cs
def MarkV (f:FuncId) (row:List C):Prop:=∀ (k:Int) (E:Nat->Prop) (us:List Value),us.length=row.length->(litRow us).all okCell=true->0<=k->k+cntTop row<=1000000000->ConP e0 f [.agg (litRow us),.one (.lit (.int .i64 k))] [.set E (fun w=>OwnVals w row E us)] (fun r pm=>∃ E',r=[.one (.lit (.int .i64 (k+cntTop row)))]∧pm=[.set E' (fun w=>OwnVals w (mkTop k row) E' us)])
theorem fd_vals {E:Nat->Prop} {r:List C} {us:List Value} (hp:r.all plainC=true):Found (ι:=Unit) [.set E (fun w=>OwnVals w r E us)] (fun _=>litsOk r us) (fun _=>[.set E (fun w=>OwnVals w r E us)]):=fun w S h ha=>by
 obtain ⟨h1,h2,h3⟩:(∀ b,E b->b < w.heap.size∧¬ S b)∧OwnVals w r E us∧_:=h (.set E (fun w=>OwnVals w r E us)) (by simp)
 obtain ⟨Es,hl,_⟩:=cells_of (S:=S) hp h2 h1
 exact ⟨(),hl,h,ha,fun _ h=>h⟩
theorem fd_cells {E:Nat->Prop} {r:List C} {us:List Value} (hp:r.all plainC=true):Found (ι:=Nat->Nat->Prop) [.set E (fun w=>OwnVals w r E us)] (fun _=>True) (fun i=>cellSets r us i):=fun w S h ha=>by
 obtain ⟨h1,h2,h3⟩:(∀ b,E b->b < w.heap.size∧¬ S b)∧OwnVals w r E us∧_:=h (.set E (fun w=>OwnVals w r E us)) (by simp)
 obtain ⟨Es,hl,q1,q2,q3⟩:=cells_of (S:=S) hp h2 h1
 exact ⟨Es,trivial,q1,q2,fun g hg=>⟨_,List.mem_cons_self,q3 g hg⟩⟩
theorem re_cells {cs:List C} {us:List Value} {Es:Nat->Nat->Prop} (hp:cs.all plainC=true) (hl:litsOk cs us):Retold (cellSets cs us Es) [.set (pblks (cellSets cs us Es)) (fun w=>OwnVals w cs (pblks (cellSets cs us Es)) us)]:=fun w S h ha=>by
 have hv:=OwnVals.of_cells (w:=w) (S:=S) hp hl h ha
 refine ⟨fun x hx=>?_,apart_1 _,fun g ⟨x,hx,hg⟩=>?_⟩
 ·simp only [List.mem_cons,List.not_mem_nil,or_false] at hx
  subst hx
  refine ⟨fun b ⟨y,hy,hg⟩=>?_,hv,OwnVals.stable _ _ _⟩
  obtain ⟨E',G',rfl⟩:=cellSets_set y hy
  exact (h _ hy).1 b hg
 ·simp only [List.mem_cons,List.not_mem_nil,or_false] at hx
  subst hx
  exact hg
set_option maxHeartbeats 8000000 in
theorem markTerm_all {row:List C} (hok:okRow (fieldsOf .term) row):MarkV 18 row:=by
 obtain ⟨i0,t1,i2,r3,rfl,_,_,_,g3⟩:=okRow_Term hok
 intro k E us hl hc hk hb
 obtain ⟨u0,u1,u2,u3,rfl⟩:=len4 hl
 obtain ⟨k0,k1,k2,k3⟩:=okc4 hc
 simp only [cntTop,Nat.add_zero] at hb ⊢
 rw [litRow4]
 refine gIP (ts:=[.slot 4]) [1000] 23 Tryz.func18 ?_
 refine pEx [1000] [1000] (fd_vals rfl) ?_
 rintro ⟨⟩ ⟨rfl,rfl,rfl,_⟩
 refine pEx (f:=fun (x:Nat->Nat->Prop)=>[.set (x 0) (fun w=>Own w (.sl r3) (x 0) u3)]) [1000] [1000] (fd_cells rfl) ?_
 rintro Es -
 (have F:=ai @k0 (ai @k1 (ai @k2 @k3));refine gG ?_;clear F)
 refine gB ?_
 (have F:=ai @k0 (ai @k1 (ai @k2 @k3));refine gCP [1000] [1000] (markTermS_all g3 k (Es 0) u3 hk hb) ?_;clear F)
 rintro r pm ⟨E5,rfl,rfl⟩
 simp only [setA,retA,zipM,List.cons_append,List.nil_append]
 (have F:=ai @k0 (ai @k1 (ai @k2 @k3));refine gR ?_;clear F)
 (have F:=ai @k0 (ai @k1 (ai @k2 @k3));refine gG ?_;clear F)
 obtain ⟨E6,hre⟩:∃ E6,Retold [.set E5 (fun w=>Own w (.sl (mkRows k r3)) E5 u3)] [.set E6 (fun w=>OwnVals w [.lit (.int .i64 i0),.lit (.string t1),.lit (.int .i64 i2),.sl (mkRows k r3)] E6 [.int .i64 i0,.string t1,.int .i64 i2,u3])] :=
  ⟨_,re_cells (cs:=[.lit (.int .i64 i0),.lit (.string t1),.lit (.int .i64 i2),.sl (mkRows k r3)]) (us:=[.int .i64 i0,.string t1,.int .i64 i2,u3]) (Es:=fun _=>E5) rfl ⟨rfl,rfl,rfl,trivial⟩⟩
 refine pE [1000] [1000] hre ?_
 have F:=hk
 exact gTP (R:=fun r pm=>∃ E',r=[.one (.lit (.int .i64 (k+(cntRows r3:Nat))))]∧pm=[.set E' (fun w=>OwnVals w (mkTop k [.lit (.int .i64 i0),.lit (.string t1),.lit (.int .i64 i2),.sl r3]) E' [.int .i64 i0,.string t1,.int .i64 i2,u3])]) [1000] ⟨E6,rfl,by simp only [mkTop];rfl⟩
end Go.Proofs.YtohilkmdjdfljaaGreat
namespace Go.Proofs.YtohilkmdjdfljaaGreat
open Go.RowKit
def HeldS (f:FuncId) (rows:List (List C)):Prop:=∀ (k:Int),0<=k->k+cntRows rows<=1000000000->Con e0 f [.one (.sl (mkRows k rows)),.one (.lit (.int .i64 k))] [.one (.lit (.int .i64 (k+cntRows rows)))]
theorem mkRows_get:∀ {rows:List (List C)} {i:Nat} {r:List C} (k:Int),rows[i]?=some r->(mkRows k rows)[i]?=some (mkRow (k+cntRows (rows.take i)) r)
 | q::rows,0,r,k,h=>by simp at h;subst h;simp [mkRows,cntRows]
 | q::rows,i+1,r,k,h=>by
  simp only [List.getElem?_cons_succ] at h
  simp only [mkRows,List.getElem?_cons_succ,List.take_succ_cons,cntRows]
  rw [mkRows_get _ h]
  congr 2
  omega
 | [],_,_,_,h=>by simp at h
theorem mkV_ok {v:Value} {k:Int} (h:okCell (.lit v)=true):okCell (.lit (mkV k v))=true:=by
 cases v <;> first | rfl | exact h
theorem mkRow_cells:∀ (cs:List C) (k:Int),cs.all okCell=true->(mkRow k cs).all okCell=true
 | [],_,_=>by simp [mkRow]
 | c::cs,k,h=>by
  simp only [List.all_cons,Bool.and_eq_true] at h
  simp only [mkRow,List.all_cons,Bool.and_eq_true]
  refine ⟨?_,mkRow_cells cs _ h.2⟩
  cases c with
  | lit v=>simp only [mkC];exact mkV_ok h.1
  | _=>simp [mkC,okCell]
theorem rb_mk {n:Nat}:∀ {rows:List (List C)} (k:Int),rowsLen n rows->rowsB n (mkRows k rows)=true
 | [],k,_=>by simp [mkRows,rowsB]
 | r::rows,k,h=>by
  have h1:=h r List.mem_cons_self
  have h2:=rb_mk (k+cntRow r) (fun x hx=>h x (List.mem_cons_of_mem _ hx):rowsLen n rows)
  unfold rowsB at h2 ⊢
  simp only [mkRows,List.all_cons,Bool.and_eq_true]
  exact ⟨⟨by rw [mkRow_len,h1.1];exact beq_self_eq_true n,mkRow_cells _ _ h1.2⟩,h2⟩
set_option maxHeartbeats 8000000 in
set_option maxRecDepth 100000 in
theorem held_TermS (rows:List (List C)) (hok:okRows (fieldsOf .term) rows) (hmx:rows.length<=1048576) (h:∀ r∈rows,∀ i0 t1 i2 r3,r=[.lit (.int .i64 i0),.lit (.string t1),.lit (.int .i64 i2),.sl r3]->HeldS 61 r3):HeldS 61 rows:=by
 intro k hk hb
 have hrb:rowsB 4 (mkRows k rows)=true:=rb_mk k hok.rowsLen
 have hml:=mkRows_len k rows
 refine gI (ts:=[.slot 4]) 281612684362291 Tryz.func61 ?_
 (have F:=@e0P;refine gG ?_;clear F)
 (have F:=ai @mkRows_nil (ai @cnt_nil (ai @Int.add_zero @Int.natCast_zero));refine gL (ι:=Nat) [1,4,5,9,18,28,37,48] [] (fun x=>[(5,.d (.one (.lit (.int .i64 (x:Int))))),(1,.d (.one (.lit (.int .i64 (k+(cntRows (rows.take x):Nat))))))]) (fun x=>[]) (fun x=>x<=rows.length) (fun x=>rows.length - x) (0) (Nat.zero_le _) (fun x hx=>?_);clear F)
 by_cases hlt:x < rows.length
 ·obtain ⟨r,hr⟩:∃ r,rows[x]?=some r:=⟨_,List.getElem?_eq_getElem hlt⟩
  obtain ⟨i0,t1,i2,r3,rfl,_,_,_,g3⟩:=okRow_Term (hok.get hr)
  have hm:=h _ (List.mem_of_getElem? hr) i0 t1 i2 r3 rfl
  have hc1:cntRows (rows.take (x+1))=cntRows (rows.take x)+(3+cntRows r3):=by
   rw [tk_snoc hr,cnt_snoc];simp only [cntRow,cntC];omega
  have hc2:=cnt_take_le rows (x+1)
  have hg:=mkRows_get k hr
  simp only [mkRow,mkC,mkV,cntC,Int.natCast_one] at hg
  have e5:k+(cntRows (rows.take (x+1)):Int)=k+(cntRows (rows.take x):Int)+1+1+1+(cntRows r3:Int):=by rw [hc1];omega
  have b1:k+(cntRows (rows.take x):Int)+3+cntRows r3<=1000000000:=by omega
  have b0:0<=k+(cntRows (rows.take x):Int):=by omega
  generalize k+(cntRows (rows.take x):Int)=kk at hg e5 b1 b0 ⊢
  have q1:((x:Int) < (rows.length:Int))=True:=eq_true (by omega)
  have w1:IntKind.i64.wrap (kk+1)=kk+1:=IntWalk.i64_in _ (by omega)
  have w2:IntKind.i64.wrap (kk+1+1)=kk+1+1:=IntWalk.i64_in _ (by omega)
  have w3:IntKind.i64.wrap (kk+1+1+1)=kk+1+1+1:=IntWalk.i64_in _ (by omega)
  have w4:IntKind.i64.wrap ((x:Int)+1)=(x:Int)+1:=IntWalk.i64_in _ (by omega)
  (have F:=ai @q1 (ai @hml (ai @hrb (ai @hg (ai @beq_self_eq_true.{0} @w1))));refine gG ?_;clear F)
  refine gB ?_
  (have F:=ai @q1 (ai @hml (ai @hrb @hg));refine gC (con_markText (kk+1) (by omega) (by omega)) ?_;clear F)
  (have F:=ai @q1 (ai @hml (ai @hrb (ai @hg @beq_self_eq_true.{0})));refine gR ?_;clear F)
  (have F:=ai @q1 (ai @hml (ai @hrb (ai @hg (ai @beq_self_eq_true.{0} (ai @w1 (ai @w2 @w3))))));refine gG ?_;clear F)
  refine gB ?_
  (have F:=ai @q1 (ai @hml (ai @hrb @hg));refine gC (hm (kk+1+1+1) (by omega) (by omega)) ?_;clear F)
  (have F:=@q1;refine gR ?_;clear F)
  have q5:(kk+1+1+1+(cntRows r3:Int) < 0)=False:=eq_false (by omega)
  (have F:=ai @q5 (ai @w4 @e5);refine gG ?_;exact ⟨x+1,hlt,gw,gw,by omega⟩)
 ·obtain rfl:x=rows.length:=by omega
  have q1:((rows.length:Int) < (rows.length:Int))=False:=eq_false (by omega)
  rw [List.take_length]
  (have F:=ai @q1 @hml;refine gG ?_;exact gTd)
theorem heldTermS_n (n:Nat):∀ rows,nodesRows rows < n->okRows (fieldsOf .term) rows->rows.length+bulkRows rows<=1048576->HeldS 61 rows:=by
 induction n with
 | zero=>exact fun _ h=>by omega
 | succ n ih =>
  intro rows hn hok hB
  refine held_TermS rows hok (by omega) fun r hr i0 t1 i2 r3 he=>?_
  subst he
  obtain ⟨i,hi⟩:=List.getElem?_of_mem hr
  have h1:=nodes_get hi
  have h2:=bulk_get hi
  obtain ⟨_,_,_,_,he,_,_,_,g3⟩:=okRow_Term (hok.get hi)
  injection he with _ he;injection he with _ he;injection he with _ he;injection he with he _;injection he with he;subst he
  simp only [nodesRow,nodesC] at h1
  simp only [bulkRow,bulkC] at h2
  exact ih _ (by omega) g3 (by omega)
theorem heldTermS_all {rows:List (List C)} (hok:okRows (fieldsOf .term) rows) (hB:rows.length+bulkRows rows<=1048576):HeldS 61 rows:=heldTermS_n _ rows (Nat.lt_succ_self _) hok hB
theorem heldTerm_all {row:List C} (hok:okRow (fieldsOf .term) row) (hB:bulkRow row<=1048576) (k:Int) (hk:0<=k) (hb:k+cntTop row<=1000000000):Con e0 20 [.agg (mkTop k row),.one (.lit (.int .i64 k))] [.one (.lit (.int .i64 (k+cntTop row)))]:=by
 obtain ⟨i0,t1,i2,r3,rfl,_,_,_,g3⟩:=okRow_Term hok
 simp only [cntTop,Nat.add_zero] at hb ⊢
 simp only [bulkRow,bulkC] at hB
 simp only [mkTop]
 have q5:(k+(cntRows r3:Int) < 0)=False:=eq_false (by omega)
 refine gI (ts:=[.slot 4]) 1047 Tryz.func20 ?_
 (have F:=@e0P;refine gG ?_;clear F)
 refine gB ?_
 (have F:=@q5;refine gC (heldTermS_all g3 (by omega) k hk hb) ?_;clear F)
 (have F:=@q5;refine gR ?_;clear F)
 (have F:=@q5;refine gG ?_;exact gTd)
end Go.Proofs.YtohilkmdjdfljaaGreat
namespace Go.Proofs.YtohilkmdjdfljaaGreat
open Go.RowKit
theorem conP_toTerm {row:List C} (hok:okRow (fieldsOf .term) row) (hb:bulkRow row<=1048576):ConP e0 11 [.agg row] [] (RTree row) :=
 conP_tree (by kernel_rfl) hok.cells fun w S vs h=>by
  match vs,h with
  | [v],h =>
   obtain ⟨⟨us,rfl,hu⟩,_⟩:=h
   exact toTerm_any row S us w hok hu hb
end Go.Proofs.YtohilkmdjdfljaaGreat
namespace Go.Proofs.YtohilkmdjdfljaaGreat
open Go.RowKit
theorem conP_toSignature {row:List C} (hok:okRow (sigF) row) (hb:bulkRow row<=1048576):ConP e0 10 [.agg row] [] (RTree row) :=
 conP_tree (by kernel_rfl) hok.cells fun w S vs h=>by
  match vs,h with
  | [v],h =>
   obtain ⟨⟨us,rfl,hu⟩,_⟩:=h
   exact toSignature_any row S us w hok hu hb
end Go.Proofs.YtohilkmdjdfljaaGreat
namespace Go.Proofs.YtohilkmdjdfljaaGreat
open Go.RowKit
theorem conP_toOccurrence {row:List C} (hok:okRow occF row) (hb:bulkRow row<=1048576):ConP e0 12 [.agg row] [] (RTree row) :=
 conP_tree (by kernel_rfl) hok.cells fun w S vs h=>by
  match vs,h with
  | [v],h =>
   obtain ⟨⟨us,rfl,hu⟩,_⟩:=h
   exact toOccurrence_any row S us w hok hu hb
end Go.Proofs.YtohilkmdjdfljaaGreat
namespace Go.Proofs.YtohilkmdjdfljaaGreat
open Go.RowKit
set_option maxHeartbeats 16000000 in
set_option maxRecDepth 100000 in
theorem mark_StringS_of {rows:List (List C)} (hok:okRows (fieldsOf .str) rows):MarkS 30 rows:=by
 intro k E v hk hb
 refine gIP (ts:=[.slot 4]) [1000] 563 Tryz.func30 ?_
 (have F:=@e0P;refine gG ?_;clear F)
 by_cases hne:rows=[]
 ·subst hne
  refine pEx [1000] [1000] fd_nil ?_
  rintro ⟨a,cap⟩ rfl
  (have F:=@hk;refine gL (ι:=Unit) [1,5,9] [] (fun x=>[(5,.d (.one (.lit (.int .i64 0)))),(1,.d (.one (.lit (.int .i64 k))))]) (fun x=>[]) (fun x=>True) (fun x=>0) (()) (trivial) (fun x hx=>?_);clear F)
  have q1:((0:Int) < 0)=False:=eq_false (by decide)
  have q2:((0:Int) < ((0:Nat):Int))=False:=eq_false (by decide)
  (have F:=ai @q1 @q2;refine gG ?_;clear F)
  have F:=hk
  refine gTP (R:=fun r pm=>∃ E',r=[.one (.lit (.int .i64 (k+(cntRows []:Nat))))]∧pm=[.set E' (fun w=>Own w (.sl (mkRows k [])) E' (.slice a 0 cap))]) [1000] ⟨E,by simp only [cntRows,Int.natCast_zero,Int.add_zero];rfl,by simp only [mkRows];rfl⟩
 ·have hrl:rowsLen 1 rows:=okRows.rowsLen hok
  refine pEx [1000] [1000,1001] (fd_open hne hrl) ?_
  rintro ⟨a,cap,ety,uss,E1⟩ ⟨rfl,hl,hmx⟩
  simp only at hl ⊢
  unfold maxLen at hmx
  refine pE [] [1002] re_none ?_
  (have F:=ai @mkRows_nil (ai @cnt_nil (ai @Int.add_zero @Int.natCast_zero));refine gL (ι:=Nat × List (List Value) × (Nat->Prop) × (Nat->Prop)) [1,5,9] [1000,1001,1002] (fun x=>[(5,.d (.one (.lit (.int .i64 (x.1:Int))))),(1,.d (.one (.lit (.int .i64 (k+(cntRows (rows.take x.1):Nat))))))]) (fun x=>[(1000,.buf (some (a,cap)) ety 1 (x.2.1.map litRow)),(1001,.set x.2.2.1 (fun w=>OwnVs w (rows.drop x.1) x.2.2.1 (x.2.1.drop x.1))),(1002,.set x.2.2.2 (fun w=>OwnVs w (mkRows k (rows.take x.1)) x.2.2.2 (x.2.1.take x.1)))]) (fun x=>x.1<=rows.length∧x.2.1.length=rows.length) (fun x=>rows.length - x.1) ((0,uss,E1,fun _=>False)) (⟨Nat.zero_le _,hl⟩) (fun x hx=>?_);clear F)
  obtain ⟨i,us,E2,E3⟩:=x
  obtain ⟨hi,hn⟩:=hx
  simp only at hi hn
  dsimp only
  by_cases hlt:i < rows.length
  ·obtain ⟨r,hr⟩:∃ r,rows[i]?=some r:=⟨_,List.getElem?_eq_getElem hlt⟩
   obtain ⟨u,hu⟩:∃ u,us[i]?=some u:=⟨_,List.getElem?_eq_getElem (by omega)⟩
   obtain ⟨t0,rfl,g0⟩:=okRow_String (hok.get hr)
   have hc1:cntRows (rows.take (i+1))=cntRows (rows.take i)+(1):=by
    rw [tk_snoc hr,cnt_snoc];simp only [cntRow,cntC];try omega
   have hc2:=cnt_take_le rows (i+1)
   rw [drop_get hr,drop_get hu]
   refine pEx [1001] [1001] (fd_lits rfl) ?_
   rintro ⟨⟩ hlit
   obtain rfl:u=[.string t0]:=by
    match u,hlit with
    | [_],⟨rfl,_⟩=>rfl
   refine pEx (f:=fun (x:(Nat->Prop) × (Nat->Nat->Prop))=>[.set x.1 (fun w=>OwnVs w (rows.drop (i+1)) x.1 (us.drop (i+1)))]) [1001] [1001] (fd_row rfl) ?_
   rintro ⟨E4,Es⟩ -
   dsimp only
   have hkk0:0<=k+(cntRows (rows.take i):Int):=by omega
   have hkk1:k+(cntRows (rows.take i):Int)+((1:Nat):Int)<=1000000000:=by omega
   generalize hkk:k+(cntRows (rows.take i):Int)=kk at hkk0 hkk1 ⊢
   have q1:((i:Int) < (rows.length:Int))=True:=eq_true (by omega)
   have q2:i < rows.length:=hlt
   have hs:∀ X:List C,((us.map litRow).set i X)[i]?=some X:=fun X=>set_get (by rw [len_lits,hn];omega) X
   have lr:litRow [.string t0]=[.lit (.string t0)]:=rfl
   have w0:IntKind.i64.wrap (kk+1)=kk+1:=IntWalk.i64_in _ (by omega)
   have wi:IntKind.i64.wrap ((i:Int)+1)=(i:Int)+1:=IntWalk.i64_in _ (by omega)
   (have F:=ai @q1 (ai @hl (ai @hn (ai @hu (ai @lr (ai @len_lits (ai @set_len (ai @hs (ai @w0 (ai @q2 @set_set')))))))));refine gG ?_;clear F)
   refine gB ?_
   (have F:=ai @q1 (ai @hl (ai @hn (ai @hu (ai @lr (ai @len_lits (ai @set_len (ai @hs (ai @w0 (ai @q2 @set_set')))))))));refine gC (con_markText (kk) (by omega) (by omega)) ?_;clear F)
   (have F:=ai @q1 (ai @hl (ai @hn (ai @hu (ai @lr (ai @len_lits (ai @set_len (ai @hs (ai @w0 (ai @q2 @set_set')))))))));refine gR ?_;clear F)
   obtain ⟨E6,hre⟩:∃ E6,Retold [.set E3 (fun w=>OwnVs w (mkRows k (rows.take i)) E3 (us.take i))] [.set E6 (fun w=>OwnVs w (mkRows k (rows.take (i+1))) E6 ((us.set i [.string (txt (kk))]).take (i+1)))]:=by
    have hz:=re_row (E:=E3) (done:=mkRows k (rows.take i)) (ud:=us.take i) (cs:=[.lit (.string (txt (kk)))]) (us:=[.string (txt (kk))]) (Es:=fun _ _=>False) rfl ⟨rfl,trivial⟩
    rw [tk_snoc hr,mkRows_snoc,hkk,set_take (by omega)]
    simp only [mkRow,mkC,mkV,cntC,Int.natCast_one]
    exact ⟨_,hz⟩
   refine pE [1002] [1002] hre ?_
   have e1:((us.set i [.string (txt (kk))]).map litRow)=(us.map litRow).set i [.lit (.string (txt (kk)))]:=by rw [List.map_set];rfl
   have e2:=set_drop us i [.string (txt (kk))]
   have e5:k+(cntRows (rows.take (i+1)):Int)=kk+1:=by rw [hc1];omega
   have hn2:(us.set i [.string (txt (kk))]).length=rows.length:=by rw [set_len,hn]
   generalize us.set i [.string (txt (kk))]=us2 at e1 e2 hn2 ⊢
   rw [<- e1,<- e2]
   (have F:=ai @wi (ai @e5 (ai @hl (ai @w0 @hn)));refine gG ?_;exact ⟨(i+1,us2,E4,E6),⟨hlt,hn2⟩,gw,gw,by omega⟩)
  ·obtain rfl:i=rows.length:=by omega
   have q1:((rows.length:Int) < (rows.length:Int))=False:=eq_false (by omega)
   rw [List.take_length,List.take_of_length_le (Nat.le_of_eq hn)]
   (have F:=ai @q1 (ai @hl @hn);refine gG ?_;clear F)
   obtain ⟨E6,hre⟩:∃ E6,Retold [.buf (some (a,cap)) ety 1 (us.map litRow),.set E3 (fun w=>OwnVs w (mkRows k rows) E3 us)] [.set E6 (fun w=>Own w (.sl (mkRows k rows)) E6 (.slice a uss.length cap))]:=by
    rw [hl,<- hn]
    exact ⟨_,re_close (fun w h=>h) (Own.stable _ _ _)⟩
   refine pE [1000,1002] [1000] hre ?_
   have F:=hk
   exact gTP (R:=fun r pm=>∃ E',r=[.one (.lit (.int .i64 (k+(cntRows rows:Nat))))]∧pm=[.set E' (fun w=>Own w (.sl (mkRows k rows)) E' (.slice a uss.length cap))]) [1000] ⟨E6,rfl,rfl⟩
theorem markStringS_all {rows:List (List C)} (hok:okRows (fieldsOf .str) rows):MarkS 30 rows:=mark_StringS_of hok
end Go.Proofs.YtohilkmdjdfljaaGreat
namespace Go.Proofs.YtohilkmdjdfljaaGreat
open Go.RowKit
set_option maxHeartbeats 16000000 in
set_option maxRecDepth 100000 in
theorem mark_SubS_of {rows:List (List C)} (hok:okRows (fieldsOf .sub) rows):MarkS 102 rows:=by
 intro k E v hk hb
 refine gIP (ts:=[.slot 4]) [1000] 563 Tryz.func102 ?_
 (have F:=@e0P;refine gG ?_;clear F)
 by_cases hne:rows=[]
 ·subst hne
  refine pEx [1000] [1000] fd_nil ?_
  rintro ⟨a,cap⟩ rfl
  (have F:=@hk;refine gL (ι:=Unit) [1,5,9] [] (fun x=>[(5,.d (.one (.lit (.int .i64 0)))),(1,.d (.one (.lit (.int .i64 k))))]) (fun x=>[]) (fun x=>True) (fun x=>0) (()) (trivial) (fun x hx=>?_);clear F)
  have q1:((0:Int) < 0)=False:=eq_false (by decide)
  have q2:((0:Int) < ((0:Nat):Int))=False:=eq_false (by decide)
  (have F:=ai @q1 @q2;refine gG ?_;clear F)
  have F:=hk
  refine gTP (R:=fun r pm=>∃ E',r=[.one (.lit (.int .i64 (k+(cntRows []:Nat))))]∧pm=[.set E' (fun w=>Own w (.sl (mkRows k [])) E' (.slice a 0 cap))]) [1000] ⟨E,by simp only [cntRows,Int.natCast_zero,Int.add_zero];rfl,by simp only [mkRows];rfl⟩
 ·have hrl:rowsLen 2 rows:=okRows.rowsLen hok
  refine pEx [1000] [1000,1001] (fd_open hne hrl) ?_
  rintro ⟨a,cap,ety,uss,E1⟩ ⟨rfl,hl,hmx⟩
  simp only at hl ⊢
  unfold maxLen at hmx
  refine pE [] [1002] re_none ?_
  (have F:=ai @mkRows_nil (ai @cnt_nil (ai @Int.add_zero @Int.natCast_zero));refine gL (ι:=Nat × List (List Value) × (Nat->Prop) × (Nat->Prop)) [1,5,9] [1000,1001,1002] (fun x=>[(5,.d (.one (.lit (.int .i64 (x.1:Int))))),(1,.d (.one (.lit (.int .i64 (k+(cntRows (rows.take x.1):Nat))))))]) (fun x=>[(1000,.buf (some (a,cap)) ety 2 (x.2.1.map litRow)),(1001,.set x.2.2.1 (fun w=>OwnVs w (rows.drop x.1) x.2.2.1 (x.2.1.drop x.1))),(1002,.set x.2.2.2 (fun w=>OwnVs w (mkRows k (rows.take x.1)) x.2.2.2 (x.2.1.take x.1)))]) (fun x=>x.1<=rows.length∧x.2.1.length=rows.length) (fun x=>rows.length - x.1) ((0,uss,E1,fun _=>False)) (⟨Nat.zero_le _,hl⟩) (fun x hx=>?_);clear F)
  obtain ⟨i,us,E2,E3⟩:=x
  obtain ⟨hi,hn⟩:=hx
  simp only at hi hn
  dsimp only
  by_cases hlt:i < rows.length
  ·obtain ⟨r,hr⟩:∃ r,rows[i]?=some r:=⟨_,List.getElem?_eq_getElem hlt⟩
   obtain ⟨u,hu⟩:∃ u,us[i]?=some u:=⟨_,List.getElem?_eq_getElem (by omega)⟩
   obtain ⟨i0,i1,rfl,g0,g1⟩:=okRow_Sub (hok.get hr)
   have hc1:cntRows (rows.take (i+1))=cntRows (rows.take i)+(2):=by
    rw [tk_snoc hr,cnt_snoc];simp only [cntRow,cntC];try omega
   have hc2:=cnt_take_le rows (i+1)
   rw [drop_get hr,drop_get hu]
   refine pEx [1001] [1001] (fd_lits rfl) ?_
   rintro ⟨⟩ hlit
   obtain rfl:u=[.int .i64 i0,.int .i64 i1]:=by
    match u,hlit with
    | [_,_],⟨rfl,rfl,_⟩=>rfl
   refine pEx (f:=fun (x:(Nat->Prop) × (Nat->Nat->Prop))=>[.set x.1 (fun w=>OwnVs w (rows.drop (i+1)) x.1 (us.drop (i+1)))]) [1001] [1001] (fd_row rfl) ?_
   rintro ⟨E4,Es⟩ -
   dsimp only
   have hkk0:0<=k+(cntRows (rows.take i):Int):=by omega
   have hkk1:k+(cntRows (rows.take i):Int)+((2:Nat):Int)<=1000000000:=by omega
   generalize hkk:k+(cntRows (rows.take i):Int)=kk at hkk0 hkk1 ⊢
   have q1:((i:Int) < (rows.length:Int))=True:=eq_true (by omega)
   have q2:i < rows.length:=hlt
   have hs:∀ X:List C,((us.map litRow).set i X)[i]?=some X:=fun X=>set_get (by rw [len_lits,hn];omega) X
   have lr:litRow [.int .i64 i0,.int .i64 i1]=[.lit (.int .i64 i0),.lit (.int .i64 i1)]:=rfl
   have w0:IntKind.i64.wrap (kk+1)=kk+1:=IntWalk.i64_in _ (by omega)
   have w1:IntKind.i64.wrap (kk+1+1)=kk+1+1:=IntWalk.i64_in _ (by omega)
   have wi:IntKind.i64.wrap ((i:Int)+1)=(i:Int)+1:=IntWalk.i64_in _ (by omega)
   (have F:=ai @q1 (ai @hl (ai @hn (ai @hu (ai @lr (ai @len_lits (ai @set_len (ai @hs (ai @w0 (ai @w1 (ai @q2 @set_set'))))))))));have NN:StopAt 3:=trivial;refine gGn ?_;clear F NN)
   obtain ⟨E6,hre⟩:∃ E6,Retold [.set E3 (fun w=>OwnVs w (mkRows k (rows.take i)) E3 (us.take i))] [.set E6 (fun w=>OwnVs w (mkRows k (rows.take (i+1))) E6 ((us.set i [.int .i64 (kk),.int .i64 (kk+1)]).take (i+1)))]:=by
    have hz:=re_row (E:=E3) (done:=mkRows k (rows.take i)) (ud:=us.take i) (cs:=[.lit (.int .i64 (kk)),.lit (.int .i64 (kk+1))]) (us:=[.int .i64 (kk),.int .i64 (kk+1)]) (Es:=fun _ _=>False) rfl ⟨rfl,rfl,trivial⟩
    rw [tk_snoc hr,mkRows_snoc,hkk,set_take (by omega)]
    simp only [mkRow,mkC,mkV,cntC,Int.natCast_one]
    exact ⟨_,hz⟩
   refine pE [1002] [1002] hre ?_
   have e1:((us.set i [.int .i64 (kk),.int .i64 (kk+1)]).map litRow)=(us.map litRow).set i [.lit (.int .i64 (kk)),.lit (.int .i64 (kk+1))]:=by rw [List.map_set];rfl
   have e2:=set_drop us i [.int .i64 (kk),.int .i64 (kk+1)]
   have e5:k+(cntRows (rows.take (i+1)):Int)=kk+1+1:=by rw [hc1];omega
   have hn2:(us.set i [.int .i64 (kk),.int .i64 (kk+1)]).length=rows.length:=by rw [set_len,hn]
   generalize us.set i [.int .i64 (kk),.int .i64 (kk+1)]=us2 at e1 e2 hn2 ⊢
   rw [<- e1,<- e2]
   (have F:=ai @wi (ai @e5 (ai @hl (ai @w0 (ai @w1 @hn))));refine gG ?_;exact ⟨(i+1,us2,E4,E6),⟨hlt,hn2⟩,gw,gw,by omega⟩)
  ·obtain rfl:i=rows.length:=by omega
   have q1:((rows.length:Int) < (rows.length:Int))=False:=eq_false (by omega)
   rw [List.take_length,List.take_of_length_le (Nat.le_of_eq hn)]
   (have F:=ai @q1 (ai @hl @hn);refine gG ?_;clear F)
   obtain ⟨E6,hre⟩:∃ E6,Retold [.buf (some (a,cap)) ety 2 (us.map litRow),.set E3 (fun w=>OwnVs w (mkRows k rows) E3 us)] [.set E6 (fun w=>Own w (.sl (mkRows k rows)) E6 (.slice a uss.length cap))]:=by
    rw [hl,<- hn]
    exact ⟨_,re_close (fun w h=>h) (Own.stable _ _ _)⟩
   refine pE [1000,1002] [1000] hre ?_
   have F:=hk
   exact gTP (R:=fun r pm=>∃ E',r=[.one (.lit (.int .i64 (k+(cntRows rows:Nat))))]∧pm=[.set E' (fun w=>Own w (.sl (mkRows k rows)) E' (.slice a uss.length cap))]) [1000] ⟨E6,rfl,rfl⟩
theorem markSubS_all {rows:List (List C)} (hok:okRows (fieldsOf .sub) rows):MarkS 102 rows:=mark_SubS_of hok
end Go.Proofs.YtohilkmdjdfljaaGreat
namespace Go.Proofs.YtohilkmdjdfljaaGreat
open Go.RowKit
set_option maxHeartbeats 16000000 in
set_option maxRecDepth 100000 in
theorem markSorts_all {row:List C} (hok:okRow (sortsF) row):MarkV 56 row:=by
 obtain ⟨r0,r1,rfl,g0,g1⟩:=okRow_Sorts hok
 intro kk E us hl hc hk hb
 obtain ⟨u0,u1,rfl⟩:=len2 hl
 have kc:okCell (.lit u0)=true∧okCell (.lit u1)=true:=by simpa [litRow,Bool.and_eq_true,and_assoc] using hc
 obtain ⟨k0,k1⟩:=kc
 simp only [cntTop,Nat.add_zero] at hb ⊢
 have lr:litRow [u0,u1]=[.lit u0,.lit u1]:=rfl
 rw [lr]
 refine gIP (ts:=[.slot 4]) [1000] 23 Tryz.func56 ?_
 refine pEx (f:=fun (x:Nat->Nat->Prop)=>[.set (x 0) (fun w=>Own w (.sl r0) (x 0) u0),.set (x 1) (fun w=>Own w (.sl r1) (x 1) u1)]) [1000] [1003,1004] (fd_cells rfl) ?_
 rintro Es -
 try dsimp only
 (have F:=ai @lr (ai @k0 @k1);refine gG ?_;clear F)
 refine gB ?_
 (have F:=ai @lr (ai @k0 @k1);refine gCP [1003] [1003] (markStringS_all g0 (kk) (Es 0) u0 (by omega) (by omega)) ?_;clear F)
 rintro r pm ⟨F0,rfl,rfl⟩
 simp only [setA,retA,zipM,List.cons_append,List.nil_append]
 (have F:=ai @lr (ai @k0 @k1);refine gR ?_;clear F)
 (have F:=ai @lr (ai @k0 @k1);refine gG ?_;clear F)
 refine gB ?_
 (have F:=ai @lr (ai @k0 @k1);refine gCP [1004] [1004] (markSubS_all g1 (kk+(cntRows r0:Int)) (Es 1) u1 (by omega) (by omega)) ?_;clear F)
 rintro r pm ⟨F1,rfl,rfl⟩
 simp only [setA,retA,zipM,List.cons_append,List.nil_append]
 (have F:=ai @lr (ai @k0 @k1);refine gR ?_;clear F)
 (have F:=ai @lr (ai @k0 @k1);refine gG ?_;clear F)
 obtain ⟨E6,hre⟩:∃ E6,Retold [.set F0 (fun w=>Own w (.sl (mkRows (kk) r0)) F0 u0),.set F1 (fun w=>Own w (.sl (mkRows (kk+(cntRows r0:Int)) r1)) F1 u1)] [.set E6 (fun w=>OwnVals w [.sl (mkRows (kk) r0),.sl (mkRows (kk+(cntRows r0:Int)) r1)] E6 [u0,u1])]:=⟨_,re_cells (cs:=[.sl (mkRows (kk) r0),.sl (mkRows (kk+(cntRows r0:Int)) r1)]) (us:=[u0,u1]) (Es:=fun k=>match k with | 0=>F0 | _=>F1) rfl trivial⟩
 refine pE [1003,1004] [1000] hre ?_
 have F:=hk
 have ee:kk+(cntRows r0:Int)+(cntRows r1:Int)=kk+((cntRows r0+(cntRows r1):Nat):Int):=by omega
 rw [ee]
 exact gTP (R:=fun r pm=>∃ E',r=[.one (.lit (.int .i64 (kk+((cntRows r0+(cntRows r1):Nat):Int))))]∧pm=[.set E' (fun w=>OwnVals w (mkTop kk [.sl r0,.sl r1]) E' [u0,u1])]) [1000] ⟨E6,rfl,by simp only [mkTop];rfl⟩
end Go.Proofs.YtohilkmdjdfljaaGreat
namespace Go.Proofs.YtohilkmdjdfljaaGreat
open Go.RowKit
theorem litRow1 (u0:Value):litRow [u0]=[.lit u0]:=rfl
set_option maxHeartbeats 8000000 in
set_option maxRecDepth 100000 in
theorem mark_IntS {rows:List (List C)} (hok:okRows (fieldsOf .int) rows):MarkS 59 rows:=by
 intro k E v hk hb
 refine gIP (ts:=[.slot 4]) [1000] 563 Tryz.func59 ?_
 (have F:=@e0P;refine gG ?_;clear F)
 by_cases hne:rows=[]
 ·subst hne
  refine pEx [1000] [1000] fd_nil ?_
  rintro ⟨a,cap⟩ rfl
  (have F:=@hk;refine gL (ι:=Unit) [1,5,9] [] (fun x=>[(5,.d (.one (.lit (.int .i64 0)))),(1,.d (.one (.lit (.int .i64 k))))]) (fun x=>[]) (fun x=>True) (fun x=>0) (()) (trivial) (fun x hx=>?_);clear F)
  have q1:((0:Int) < 0)=False:=eq_false (by decide)
  have q2:((0:Int) < ((0:Nat):Int))=False:=eq_false (by decide)
  (have F:=ai @q1 @q2;refine gG ?_;clear F)
  have F:=hk
  refine gTP (R:=fun r pm=>∃ E',r=[.one (.lit (.int .i64 (k+(cntRows []:Nat))))]∧pm=[.set E' (fun w=>Own w (.sl (mkRows k [])) E' (.slice a 0 cap))]) [1000] ⟨E,by simp only [cntRows,Int.natCast_zero,Int.add_zero];rfl,by simp only [mkRows];rfl⟩
 ·have hrl:rowsLen 1 rows:=okRows.rowsLen hok
  refine pEx [1000] [1000,1001] (fd_open hne hrl) ?_
  rintro ⟨a,cap,ety,uss,E1⟩ ⟨rfl,hl,hmx⟩
  simp only at hl ⊢
  unfold maxLen at hmx
  refine pE [] [1002] re_none ?_
  (have F:=ai @mkRows_nil (ai @cnt_nil (ai @Int.add_zero @Int.natCast_zero));refine gL (ι:=Nat × List (List Value) × (Nat->Prop) × (Nat->Prop)) [1,5,9] [1000,1001,1002] (fun x=>[(5,.d (.one (.lit (.int .i64 (x.1:Int))))),(1,.d (.one (.lit (.int .i64 (k+(cntRows (rows.take x.1):Nat))))))]) (fun x=>[(1000,.buf (some (a,cap)) ety 1 (x.2.1.map litRow)),(1001,.set x.2.2.1 (fun w=>OwnVs w (rows.drop x.1) x.2.2.1 (x.2.1.drop x.1))),(1002,.set x.2.2.2 (fun w=>OwnVs w (mkRows k (rows.take x.1)) x.2.2.2 (x.2.1.take x.1)))]) (fun x=>x.1<=rows.length∧x.2.1.length=rows.length) (fun x=>rows.length - x.1) ((0,uss,E1,fun _=>False)) (⟨Nat.zero_le _,hl⟩) (fun x hx=>?_);clear F)
  obtain ⟨i,us,E2,E3⟩:=x
  obtain ⟨hi,hn⟩:=hx
  simp only at hi hn
  dsimp only
  by_cases hlt:i < rows.length
  ·obtain ⟨r,hr⟩:∃ r,rows[i]?=some r:=⟨_,List.getElem?_eq_getElem hlt⟩
   obtain ⟨u,hu⟩:∃ u,us[i]?=some u:=⟨_,List.getElem?_eq_getElem (by omega)⟩
   obtain ⟨i0,rfl,_⟩:=okRow_Int (hok.get hr)
   have hc1:cntRows (rows.take (i+1))=cntRows (rows.take i)+1:=by
    rw [tk_snoc hr,cnt_snoc];simp only [cntRow,cntC]
   have hc2:=cnt_take_le rows (i+1)
   rw [drop_get hr,drop_get hu]
   refine pEx [1001] [1001] (fd_lits rfl) ?_
   rintro ⟨⟩ hlit
   obtain rfl:u=[.int .i64 i0]:=by
    match u,hlit with
    | [_],⟨rfl,_⟩=>rfl
   refine pEx (f:=fun (x:(Nat->Prop) × (Nat->Nat->Prop))=>[.set x.1 (fun w=>OwnVs w (rows.drop (i+1)) x.1 (us.drop (i+1)))]) [1001] [1001] (fd_row rfl) ?_
   rintro ⟨E4,Es⟩ -
   dsimp only
   generalize hkk:k+(cntRows (rows.take i):Int)=kk
   have q1:((i:Int) < (rows.length:Int))=True:=eq_true (by omega)
   have q2:i < rows.length:=hlt
   have w1:IntKind.i64.wrap (kk+1)=kk+1:=IntWalk.i64_in _ (by omega)
   have w4:IntKind.i64.wrap ((i:Int)+1)=(i:Int)+1:=IntWalk.i64_in _ (by omega)
   (have F:=ai @q1 (ai @hl (ai @hn (ai @hu (ai @litRow1 (ai @len_lits (ai @set_len (ai @w1 @q2)))))));have NN:StopAt 3:=trivial;refine gGn ?_;clear F NN)
   obtain ⟨E6,hre⟩:∃ E6,Retold [.set E3 (fun w=>OwnVs w (mkRows k (rows.take i)) E3 (us.take i))] [.set E6 (fun w=>OwnVs w (mkRows k (rows.take (i+1))) E6 ((us.set i [.int .i64 kk]).take (i+1)))]:=by
    have hz:=re_row (E:=E3) (done:=mkRows k (rows.take i)) (ud:=us.take i) (cs:=[.lit (.int .i64 kk)]) (us:=[.int .i64 kk]) (Es:=fun _ _=>False) rfl ⟨rfl,trivial⟩
    rw [tk_snoc hr,mkRows_snoc,hkk,set_take (by omega)]
    simp only [mkRow,mkC,mkV]
    exact ⟨_,hz⟩
   refine pE [1002] [1002] hre ?_
   have e1:((us.set i [.int .i64 kk]).map litRow)=(us.map litRow).set i [.lit (.int .i64 kk)]:=by rw [List.map_set,litRow1]
   have e2:=set_drop us i [.int .i64 kk]
   have e5:k+(cntRows (rows.take (i+1)):Int)=kk+1:=by rw [hc1];omega
   have hn2:(us.set i [.int .i64 kk]).length=rows.length:=by rw [set_len,hn]
   generalize us.set i [.int .i64 kk]=us2 at e1 e2 hn2 ⊢
   rw [<- e1,<- e2]
   (have F:=ai @w4 (ai @e5 @hl);refine gG ?_;exact ⟨(i+1,us2,E4,E6),⟨hlt,hn2⟩,gw,gw,by omega⟩)
  ·obtain rfl:i=rows.length:=by omega
   have q1:((rows.length:Int) < (rows.length:Int))=False:=eq_false (by omega)
   rw [List.take_length,List.take_of_length_le (Nat.le_of_eq hn)]
   (have F:=ai @q1 (ai @hl @hn);refine gG ?_;clear F)
   obtain ⟨E6,hre⟩:∃ E6,Retold [.buf (some (a,cap)) ety 1 (us.map litRow),.set E3 (fun w=>OwnVs w (mkRows k rows) E3 us)] [.set E6 (fun w=>Own w (.sl (mkRows k rows)) E6 (.slice a uss.length cap))]:=by
    rw [hl,<- hn]
    exact ⟨_,re_close (fun w h=>h) (Own.stable _ _ _)⟩
   refine pE [1000,1002] [1000] hre ?_
   have F:=hk
   exact gTP (R:=fun r pm=>∃ E',r=[.one (.lit (.int .i64 (k+(cntRows rows:Nat))))]∧pm=[.set E' (fun w=>Own w (.sl (mkRows k rows)) E' (.slice a uss.length cap))]) [1000] ⟨E6,rfl,rfl⟩
theorem markIntS_all {rows:List (List C)} (hok:okRows (fieldsOf .int) rows):MarkS 59 rows:=mark_IntS hok
end Go.Proofs.YtohilkmdjdfljaaGreat
namespace Go.Proofs.YtohilkmdjdfljaaGreat
open Go.RowKit
set_option maxHeartbeats 16000000 in
set_option maxRecDepth 100000 in
theorem mark_DeclS_of {rows:List (List C)} (hok:okRows (fieldsOf .decl) rows):MarkS 103 rows:=by
 intro k E v hk hb
 refine gIP (ts:=[.slot 4]) [1000] 563 Tryz.func103 ?_
 (have F:=@e0P;refine gG ?_;clear F)
 by_cases hne:rows=[]
 ·subst hne
  refine pEx [1000] [1000] fd_nil ?_
  rintro ⟨a,cap⟩ rfl
  (have F:=@hk;refine gL (ι:=Unit) [1,5,9] [] (fun x=>[(5,.d (.one (.lit (.int .i64 0)))),(1,.d (.one (.lit (.int .i64 k))))]) (fun x=>[]) (fun x=>True) (fun x=>0) (()) (trivial) (fun x hx=>?_);clear F)
  have q1:((0:Int) < 0)=False:=eq_false (by decide)
  have q2:((0:Int) < ((0:Nat):Int))=False:=eq_false (by decide)
  (have F:=ai @q1 @q2;refine gG ?_;clear F)
  have F:=hk
  refine gTP (R:=fun r pm=>∃ E',r=[.one (.lit (.int .i64 (k+(cntRows []:Nat))))]∧pm=[.set E' (fun w=>Own w (.sl (mkRows k [])) E' (.slice a 0 cap))]) [1000] ⟨E,by simp only [cntRows,Int.natCast_zero,Int.add_zero];rfl,by simp only [mkRows];rfl⟩
 ·have hrl:rowsLen 2 rows:=okRows.rowsLen hok
  refine pEx [1000] [1000,1001] (fd_open hne hrl) ?_
  rintro ⟨a,cap,ety,uss,E1⟩ ⟨rfl,hl,hmx⟩
  simp only at hl ⊢
  unfold maxLen at hmx
  refine pE [] [1002] re_none ?_
  (have F:=ai @mkRows_nil (ai @cnt_nil (ai @Int.add_zero @Int.natCast_zero));refine gL (ι:=Nat × List (List Value) × (Nat->Prop) × (Nat->Prop)) [1,5,9] [1000,1001,1002] (fun x=>[(5,.d (.one (.lit (.int .i64 (x.1:Int))))),(1,.d (.one (.lit (.int .i64 (k+(cntRows (rows.take x.1):Nat))))))]) (fun x=>[(1000,.buf (some (a,cap)) ety 2 (x.2.1.map litRow)),(1001,.set x.2.2.1 (fun w=>OwnVs w (rows.drop x.1) x.2.2.1 (x.2.1.drop x.1))),(1002,.set x.2.2.2 (fun w=>OwnVs w (mkRows k (rows.take x.1)) x.2.2.2 (x.2.1.take x.1)))]) (fun x=>x.1<=rows.length∧x.2.1.length=rows.length) (fun x=>rows.length - x.1) ((0,uss,E1,fun _=>False)) (⟨Nat.zero_le _,hl⟩) (fun x hx=>?_);clear F)
  obtain ⟨i,us,E2,E3⟩:=x
  obtain ⟨hi,hn⟩:=hx
  simp only at hi hn
  dsimp only
  by_cases hlt:i < rows.length
  ·obtain ⟨r,hr⟩:∃ r,rows[i]?=some r:=⟨_,List.getElem?_eq_getElem hlt⟩
   obtain ⟨u,hu⟩:∃ u,us[i]?=some u:=⟨_,List.getElem?_eq_getElem (by omega)⟩
   obtain ⟨r0,i1,rfl,g0,g1⟩:=okRow_Decl (hok.get hr)
   have hm0:=markIntS_all g0
   have hc1:cntRows (rows.take (i+1))=cntRows (rows.take i)+(1+cntRows r0):=by
    rw [tk_snoc hr,cnt_snoc];simp only [cntRow,cntC];try omega
   have hc2:=cnt_take_le rows (i+1)
   rw [drop_get hr,drop_get hu]
   refine pEx [1001] [1001] (fd_lits rfl) ?_
   rintro ⟨⟩ hlit
   obtain ⟨u0,rfl⟩:∃ u0,u=[u0,.int .i64 i1]:=by
    match u,hlit with
    | [u0,_],⟨rfl,_⟩=>exact ⟨u0,rfl⟩
   refine pEx (f:=fun (x:(Nat->Prop) × (Nat->Nat->Prop))=>[.set x.1 (fun w=>OwnVs w (rows.drop (i+1)) x.1 (us.drop (i+1))),.set (x.2 0) (fun w=>Own w (.sl r0) (x.2 0) u0)]) [1001] [1001,1003] (fd_row rfl) ?_
   rintro ⟨E4,Es⟩ -
   dsimp only
   have hkk0:0<=k+(cntRows (rows.take i):Int):=by omega
   have hkk1:k+(cntRows (rows.take i):Int)+((1+cntRows r0:Nat):Int)<=1000000000:=by omega
   generalize hkk:k+(cntRows (rows.take i):Int)=kk at hkk0 hkk1 ⊢
   have q1:((i:Int) < (rows.length:Int))=True:=eq_true (by omega)
   have q2:i < rows.length:=hlt
   have hs:∀ X:List C,((us.map litRow).set i X)[i]?=some X:=fun X=>set_get (by rw [len_lits,hn];omega) X
   have lr:litRow [u0,.int .i64 i1]=[.lit (u0),.lit (.int .i64 i1)]:=rfl
   have w1:IntKind.i64.wrap (kk+(cntRows r0:Int)+1)=kk+(cntRows r0:Int)+1:=IntWalk.i64_in _ (by omega)
   have wi:IntKind.i64.wrap ((i:Int)+1)=(i:Int)+1:=IntWalk.i64_in _ (by omega)
   (have F:=ai @q1 (ai @hl (ai @hn (ai @hu (ai @lr (ai @len_lits (ai @set_len (ai @hs (ai @w1 (ai @q2 @set_set')))))))));refine gG ?_;clear F)
   refine gB ?_
   (have F:=ai @q1 (ai @hl (ai @hn (ai @hu (ai @lr (ai @len_lits (ai @set_len (ai @hs (ai @w1 (ai @q2 @set_set')))))))));refine gCP [1003] [1003] (hm0 (kk) (Es 0) u0 (by omega) (by omega)) ?_;clear F)
   rintro r pm ⟨F0,rfl,rfl⟩
   simp only [setA,retA,zipM,List.cons_append,List.nil_append]
   (have F:=ai @q1 (ai @hl (ai @hn (ai @hu (ai @lr (ai @len_lits (ai @set_len (ai @hs (ai @w1 (ai @q2 @set_set')))))))));refine gR ?_;clear F)
   (have F:=ai @q1 (ai @hl (ai @hn (ai @hu (ai @lr (ai @len_lits (ai @set_len (ai @hs (ai @w1 (ai @q2 @set_set')))))))));have NN:StopAt 3:=trivial;refine gGn ?_;clear F NN)
   obtain ⟨E6,hre⟩:∃ E6,Retold [.set E3 (fun w=>OwnVs w (mkRows k (rows.take i)) E3 (us.take i)),.set F0 (fun w=>Own w (.sl (mkRows (kk) r0)) F0 u0)] [.set E6 (fun w=>OwnVs w (mkRows k (rows.take (i+1))) E6 ((us.set i [u0,.int .i64 (kk+(cntRows r0:Int))]).take (i+1)))]:=by
    have hz:=re_row (E:=E3) (done:=mkRows k (rows.take i)) (ud:=us.take i) (cs:=[.sl (mkRows (kk) r0),.lit (.int .i64 (kk+(cntRows r0:Int)))]) (us:=[u0,.int .i64 (kk+(cntRows r0:Int))]) (Es:=fun _=>F0) rfl ⟨rfl,trivial⟩
    rw [tk_snoc hr,mkRows_snoc,hkk,set_take (by omega)]
    simp only [mkRow,mkC,mkV,cntC,Int.natCast_one]
    exact ⟨_,hz⟩
   refine pE [1002,1003] [1002] hre ?_
   have e1:((us.set i [u0,.int .i64 (kk+(cntRows r0:Int))]).map litRow)=(us.map litRow).set i [.lit (u0),.lit (.int .i64 (kk+(cntRows r0:Int)))]:=by rw [List.map_set];rfl
   have e2:=set_drop us i [u0,.int .i64 (kk+(cntRows r0:Int))]
   have e5:k+(cntRows (rows.take (i+1)):Int)=kk+(cntRows r0:Int)+1:=by rw [hc1];omega
   have hn2:(us.set i [u0,.int .i64 (kk+(cntRows r0:Int))]).length=rows.length:=by rw [set_len,hn]
   generalize us.set i [u0,.int .i64 (kk+(cntRows r0:Int))]=us2 at e1 e2 hn2 ⊢
   rw [<- e1,<- e2]
   (have F:=ai @wi (ai @e5 (ai @hl (ai @w1 @hn)));refine gG ?_;exact ⟨(i+1,us2,E4,E6),⟨hlt,hn2⟩,gw,gw,by omega⟩)
  ·obtain rfl:i=rows.length:=by omega
   have q1:((rows.length:Int) < (rows.length:Int))=False:=eq_false (by omega)
   rw [List.take_length,List.take_of_length_le (Nat.le_of_eq hn)]
   (have F:=ai @q1 (ai @hl @hn);refine gG ?_;clear F)
   obtain ⟨E6,hre⟩:∃ E6,Retold [.buf (some (a,cap)) ety 2 (us.map litRow),.set E3 (fun w=>OwnVs w (mkRows k rows) E3 us)] [.set E6 (fun w=>Own w (.sl (mkRows k rows)) E6 (.slice a uss.length cap))]:=by
    rw [hl,<- hn]
    exact ⟨_,re_close (fun w h=>h) (Own.stable _ _ _)⟩
   refine pE [1000,1002] [1000] hre ?_
   have F:=hk
   exact gTP (R:=fun r pm=>∃ E',r=[.one (.lit (.int .i64 (k+(cntRows rows:Nat))))]∧pm=[.set E' (fun w=>Own w (.sl (mkRows k rows)) E' (.slice a uss.length cap))]) [1000] ⟨E6,rfl,rfl⟩
theorem markDeclS_all {rows:List (List C)} (hok:okRows (fieldsOf .decl) rows):MarkS 103 rows:=mark_DeclS_of hok
end Go.Proofs.YtohilkmdjdfljaaGreat
namespace Go.Proofs.YtohilkmdjdfljaaGreat
open Go.RowKit
theorem tmod3Op {k:Int} (h:0<=k):decide (k.tmod 3=0)=(k % 3==0):=by rw [Int.tmod_eq_emod_of_nonneg h,Bool.eq_iff_iff];simp
set_option maxHeartbeats 16000000 in
set_option maxRecDepth 100000 in
theorem mark_OpS_of {rows:List (List C)} (hok:okRows (fieldsOf .op) rows):MarkS 57 rows:=by
 intro k E v hk hb
 refine gIP (ts:=[.slot 4]) [1000] 563 Tryz.func57 ?_
 (have F:=@e0P;refine gG ?_;clear F)
 by_cases hne:rows=[]
 ·subst hne
  refine pEx [1000] [1000] fd_nil ?_
  rintro ⟨a,cap⟩ rfl
  (have F:=@hk;refine gL (ι:=Unit) [1,5,9] [] (fun x=>[(5,.d (.one (.lit (.int .i64 0)))),(1,.d (.one (.lit (.int .i64 k))))]) (fun x=>[]) (fun x=>True) (fun x=>0) (()) (trivial) (fun x hx=>?_);clear F)
  have q1:((0:Int) < 0)=False:=eq_false (by decide)
  have q2:((0:Int) < ((0:Nat):Int))=False:=eq_false (by decide)
  (have F:=ai @q1 @q2;refine gG ?_;clear F)
  have F:=hk
  refine gTP (R:=fun r pm=>∃ E',r=[.one (.lit (.int .i64 (k+(cntRows []:Nat))))]∧pm=[.set E' (fun w=>Own w (.sl (mkRows k [])) E' (.slice a 0 cap))]) [1000] ⟨E,by simp only [cntRows,Int.natCast_zero,Int.add_zero];rfl,by simp only [mkRows];rfl⟩
 ·have hrl:rowsLen 5 rows:=okRows.rowsLen hok
  refine pEx [1000] [1000,1001] (fd_open hne hrl) ?_
  rintro ⟨a,cap,ety,uss,E1⟩ ⟨rfl,hl,hmx⟩
  simp only at hl ⊢
  unfold maxLen at hmx
  refine pE [] [1002] re_none ?_
  (have F:=ai @mkRows_nil (ai @cnt_nil (ai @Int.add_zero @Int.natCast_zero));refine gL (ι:=Nat × List (List Value) × (Nat->Prop) × (Nat->Prop)) [1,5,9] [1000,1001,1002] (fun x=>[(5,.d (.one (.lit (.int .i64 (x.1:Int))))),(1,.d (.one (.lit (.int .i64 (k+(cntRows (rows.take x.1):Nat))))))]) (fun x=>[(1000,.buf (some (a,cap)) ety 5 (x.2.1.map litRow)),(1001,.set x.2.2.1 (fun w=>OwnVs w (rows.drop x.1) x.2.2.1 (x.2.1.drop x.1))),(1002,.set x.2.2.2 (fun w=>OwnVs w (mkRows k (rows.take x.1)) x.2.2.2 (x.2.1.take x.1)))]) (fun x=>x.1<=rows.length∧x.2.1.length=rows.length) (fun x=>rows.length - x.1) ((0,uss,E1,fun _=>False)) (⟨Nat.zero_le _,hl⟩) (fun x hx=>?_);clear F)
  obtain ⟨i,us,E2,E3⟩:=x
  obtain ⟨hi,hn⟩:=hx
  simp only at hi hn
  dsimp only
  by_cases hlt:i < rows.length
  ·obtain ⟨r,hr⟩:∃ r,rows[i]?=some r:=⟨_,List.getElem?_eq_getElem hlt⟩
   obtain ⟨u,hu⟩:∃ u,us[i]?=some u:=⟨_,List.getElem?_eq_getElem (by omega)⟩
   obtain ⟨t0,r1,p2,p3,i4,rfl,g0,g1,g2,g3,g4⟩:=okRow_Op (hok.get hr)
   have hm1:=markDeclS_all g1
   have hc1:cntRows (rows.take (i+1))=cntRows (rows.take i)+(4+cntRows r1):=by
    rw [tk_snoc hr,cnt_snoc];simp only [cntRow,cntC];try omega
   have hc2:=cnt_take_le rows (i+1)
   rw [drop_get hr,drop_get hu]
   refine pEx [1001] [1001] (fd_lits rfl) ?_
   rintro ⟨⟩ hlit
   obtain ⟨u1,rfl⟩:∃ u1,u=[.string t0,u1,.bool p2,.bool p3,.int .i64 i4]:=by
    match u,hlit with
    | [_,u1,_,_,_],⟨rfl,rfl,rfl,rfl,_⟩=>exact ⟨u1,rfl⟩
   refine pEx (f:=fun (x:(Nat->Prop) × (Nat->Nat->Prop))=>[.set x.1 (fun w=>OwnVs w (rows.drop (i+1)) x.1 (us.drop (i+1))),.set (x.2 0) (fun w=>Own w (.sl r1) (x.2 0) u1)]) [1001] [1001,1003] (fd_row rfl) ?_
   rintro ⟨E4,Es⟩ -
   dsimp only
   have hkk0:0<=k+(cntRows (rows.take i):Int):=by omega
   have hkk1:k+(cntRows (rows.take i):Int)+((4+cntRows r1:Nat):Int)<=1000000000:=by omega
   generalize hkk:k+(cntRows (rows.take i):Int)=kk at hkk0 hkk1 ⊢
   have q1:((i:Int) < (rows.length:Int))=True:=eq_true (by omega)
   have q2:i < rows.length:=hlt
   have hs:∀ X:List C,((us.map litRow).set i X)[i]?=some X:=fun X=>set_get (by rw [len_lits,hn];omega) X
   have lr:litRow [.string t0,u1,.bool p2,.bool p3,.int .i64 i4]=[.lit (.string t0),.lit (u1),.lit (.bool p2),.lit (.bool p3),.lit (.int .i64 i4)]:=rfl
   have w0:IntKind.i64.wrap (kk+1)=kk+1:=IntWalk.i64_in _ (by omega)
   have w2:IntKind.i64.wrap (kk+1+(cntRows r1:Int)+1)=kk+1+(cntRows r1:Int)+1:=IntWalk.i64_in _ (by omega)
   have b2:decide (((kk+1+(cntRows r1:Int)).tmod 3)=0)=((kk+1+(cntRows r1:Int)) % 3==0):=tmod3Op (by omega)
   have w3:IntKind.i64.wrap (kk+1+(cntRows r1:Int)+1+1)=kk+1+(cntRows r1:Int)+1+1:=IntWalk.i64_in _ (by omega)
   have b3:decide (((kk+1+(cntRows r1:Int)+1).tmod 3)=0)=((kk+1+(cntRows r1:Int)+1) % 3==0):=tmod3Op (by omega)
   have w4:IntKind.i64.wrap (kk+1+(cntRows r1:Int)+1+1+1)=kk+1+(cntRows r1:Int)+1+1+1:=IntWalk.i64_in _ (by omega)
   have wi:IntKind.i64.wrap ((i:Int)+1)=(i:Int)+1:=IntWalk.i64_in _ (by omega)
   (have F:=ai @q1 (ai @hl (ai @hn (ai @hu (ai @lr (ai @len_lits (ai @set_len (ai @hs (ai @w0 (ai @w2 (ai @b2 (ai @w3 (ai @b3 (ai @w4 (ai @q2 @set_set'))))))))))))));refine gG ?_;clear F)
   refine gB ?_
   (have F:=ai @q1 (ai @hl (ai @hn (ai @hu (ai @lr (ai @len_lits (ai @set_len (ai @hs (ai @w0 (ai @w2 (ai @b2 (ai @w3 (ai @b3 (ai @w4 (ai @q2 @set_set'))))))))))))));refine gC (con_markText (kk) (by omega) (by omega)) ?_;clear F)
   (have F:=ai @q1 (ai @hl (ai @hn (ai @hu (ai @lr (ai @len_lits (ai @set_len (ai @hs (ai @w0 (ai @w2 (ai @b2 (ai @w3 (ai @b3 (ai @w4 (ai @q2 @set_set'))))))))))))));refine gR ?_;clear F)
   (have F:=ai @q1 (ai @hl (ai @hn (ai @hu (ai @lr (ai @len_lits (ai @set_len (ai @hs (ai @w0 (ai @w2 (ai @b2 (ai @w3 (ai @b3 (ai @w4 (ai @q2 @set_set'))))))))))))));refine gG ?_;clear F)
   refine gB ?_
   (have F:=ai @q1 (ai @hl (ai @hn (ai @hu (ai @lr (ai @len_lits (ai @set_len (ai @hs (ai @w0 (ai @w2 (ai @b2 (ai @w3 (ai @b3 (ai @w4 (ai @q2 @set_set'))))))))))))));refine gCP [1003] [1003] (hm1 (kk+1) (Es 0) u1 (by omega) (by omega)) ?_;clear F)
   rintro r pm ⟨F1,rfl,rfl⟩
   simp only [setA,retA,zipM,List.cons_append,List.nil_append]
   (have F:=ai @q1 (ai @hl (ai @hn (ai @hu (ai @lr (ai @len_lits (ai @set_len (ai @hs (ai @w0 (ai @w2 (ai @b2 (ai @w3 (ai @b3 (ai @w4 (ai @q2 @set_set'))))))))))))));refine gR ?_;clear F)
   (have F:=ai @q1 (ai @hl (ai @hn (ai @hu (ai @lr (ai @len_lits (ai @set_len (ai @hs (ai @w0 (ai @w2 (ai @b2 (ai @w3 (ai @b3 (ai @w4 (ai @q2 @set_set'))))))))))))));have NN:StopAt 3:=trivial;refine gGn ?_;clear F NN)
   obtain ⟨E6,hre⟩:∃ E6,Retold [.set E3 (fun w=>OwnVs w (mkRows k (rows.take i)) E3 (us.take i)),.set F1 (fun w=>Own w (.sl (mkRows (kk+1) r1)) F1 u1)] [.set E6 (fun w=>OwnVs w (mkRows k (rows.take (i+1))) E6 ((us.set i [.string (txt (kk)),u1,.bool ((kk+1+(cntRows r1:Int)) % 3==0),.bool ((kk+1+(cntRows r1:Int)+1) % 3==0),.int .i64 (kk+1+(cntRows r1:Int)+1+1)]).take (i+1)))]:=by
    have hz:=re_row (E:=E3) (done:=mkRows k (rows.take i)) (ud:=us.take i) (cs:=[.lit (.string (txt (kk))),.sl (mkRows (kk+1) r1),.lit (.bool ((kk+1+(cntRows r1:Int)) % 3==0)),.lit (.bool ((kk+1+(cntRows r1:Int)+1) % 3==0)),.lit (.int .i64 (kk+1+(cntRows r1:Int)+1+1))]) (us:=[.string (txt (kk)),u1,.bool ((kk+1+(cntRows r1:Int)) % 3==0),.bool ((kk+1+(cntRows r1:Int)+1) % 3==0),.int .i64 (kk+1+(cntRows r1:Int)+1+1)]) (Es:=fun _=>F1) rfl ⟨rfl,rfl,rfl,rfl,trivial⟩
    rw [tk_snoc hr,mkRows_snoc,hkk,set_take (by omega)]
    simp only [mkRow,mkC,mkV,cntC,Int.natCast_one]
    exact ⟨_,hz⟩
   refine pE [1002,1003] [1002] hre ?_
   have e1:((us.set i [.string (txt (kk)),u1,.bool ((kk+1+(cntRows r1:Int)) % 3==0),.bool ((kk+1+(cntRows r1:Int)+1) % 3==0),.int .i64 (kk+1+(cntRows r1:Int)+1+1)]).map litRow)=(us.map litRow).set i [.lit (.string (txt (kk))),.lit (u1),.lit (.bool ((kk+1+(cntRows r1:Int)) % 3==0)),.lit (.bool ((kk+1+(cntRows r1:Int)+1) % 3==0)),.lit (.int .i64 (kk+1+(cntRows r1:Int)+1+1))]:=by rw [List.map_set];rfl
   have e2:=set_drop us i [.string (txt (kk)),u1,.bool ((kk+1+(cntRows r1:Int)) % 3==0),.bool ((kk+1+(cntRows r1:Int)+1) % 3==0),.int .i64 (kk+1+(cntRows r1:Int)+1+1)]
   have e5:k+(cntRows (rows.take (i+1)):Int)=kk+1+(cntRows r1:Int)+1+1+1:=by rw [hc1];omega
   have hn2:(us.set i [.string (txt (kk)),u1,.bool ((kk+1+(cntRows r1:Int)) % 3==0),.bool ((kk+1+(cntRows r1:Int)+1) % 3==0),.int .i64 (kk+1+(cntRows r1:Int)+1+1)]).length=rows.length:=by rw [set_len,hn]
   generalize us.set i [.string (txt (kk)),u1,.bool ((kk+1+(cntRows r1:Int)) % 3==0),.bool ((kk+1+(cntRows r1:Int)+1) % 3==0),.int .i64 (kk+1+(cntRows r1:Int)+1+1)]=us2 at e1 e2 hn2 ⊢
   rw [<- e1,<- e2]
   (have F:=ai @wi (ai @e5 (ai @hl (ai @w0 (ai @w2 (ai @b2 (ai @w3 (ai @b3 (ai @w4 @hn))))))));refine gG ?_;exact ⟨(i+1,us2,E4,E6),⟨hlt,hn2⟩,gw,gw,by omega⟩)
  ·obtain rfl:i=rows.length:=by omega
   have q1:((rows.length:Int) < (rows.length:Int))=False:=eq_false (by omega)
   rw [List.take_length,List.take_of_length_le (Nat.le_of_eq hn)]
   (have F:=ai @q1 (ai @hl @hn);refine gG ?_;clear F)
   obtain ⟨E6,hre⟩:∃ E6,Retold [.buf (some (a,cap)) ety 5 (us.map litRow),.set E3 (fun w=>OwnVs w (mkRows k rows) E3 us)] [.set E6 (fun w=>Own w (.sl (mkRows k rows)) E6 (.slice a uss.length cap))]:=by
    rw [hl,<- hn]
    exact ⟨_,re_close (fun w h=>h) (Own.stable _ _ _)⟩
   refine pE [1000,1002] [1000] hre ?_
   have F:=hk
   exact gTP (R:=fun r pm=>∃ E',r=[.one (.lit (.int .i64 (k+(cntRows rows:Nat))))]∧pm=[.set E' (fun w=>Own w (.sl (mkRows k rows)) E' (.slice a uss.length cap))]) [1000] ⟨E6,rfl,rfl⟩
theorem markOpS_all {rows:List (List C)} (hok:okRows (fieldsOf .op) rows):MarkS 57 rows:=mark_OpS_of hok
end Go.Proofs.YtohilkmdjdfljaaGreat
namespace Go.Proofs.YtohilkmdjdfljaaGreat
open Go.RowKit
set_option maxHeartbeats 16000000 in
set_option maxRecDepth 100000 in
theorem markSignature_all {row:List C} (hok:okRow (sigF) row):MarkV 17 row:=by
 obtain ⟨r0,r1,r2,rfl,g0,g1,g2⟩:=okRow_Signature hok
 intro kk E us hl hc hk hb
 obtain ⟨u0,u1,u2,rfl⟩:=len3 hl
 have kc:okCell (.lit u0)=true∧okCell (.lit u1)=true∧okCell (.lit u2)=true:=by simpa [litRow,Bool.and_eq_true,and_assoc] using hc
 obtain ⟨k0,k1,k2⟩:=kc
 simp only [cntTop,Nat.add_zero] at hb ⊢
 have lr:litRow [u0,u1,u2]=[.lit u0,.lit u1,.lit u2]:=rfl
 rw [lr]
 refine gIP (ts:=[.slot 4]) [1000] 23 Tryz.func17 ?_
 refine pEx (f:=fun (x:Nat->Nat->Prop)=>[.set (x 0) (fun w=>Own w (.sl r0) (x 0) u0),.set (x 1) (fun w=>Own w (.sl r1) (x 1) u1),.set (x 2) (fun w=>Own w (.sl r2) (x 2) u2)]) [1000] [1003,1004,1005] (fd_cells rfl) ?_
 rintro Es -
 try dsimp only
 obtain ⟨G0,hre0⟩:∃ G,Retold [.set (Es 0) (fun w=>Own w (.sl r0) (Es 0) u0),.set (Es 1) (fun w=>Own w (.sl r1) (Es 1) u1)] [.set G (fun w=>OwnVals w [.sl r0,.sl r1] G [u0,u1])]:=⟨_,re_cells (cs:=[.sl r0,.sl r1]) (us:=[u0,u1]) (Es:=fun k=>Es (k+0)) rfl trivial⟩
 refine pE [1003,1004] [1003] hre0 ?_
 have lr0:litRow [u0,u1]=[.lit u0,.lit u1]:=rfl
 have hm0:=markSorts_all (row:=[.sl r0,.sl r1]) (mkRow_Sorts g0 g1) (kk) G0 [u0,u1] rfl (by rw [lr0];simp only [List.all_cons,List.all_nil,k0,k1,Bool.and_self]) (by omega) (by simp only [cntTop];omega)
 rw [lr0] at hm0
 simp only [cntTop,mkTop,Nat.add_zero,Int.natCast_add,<- Int.add_assoc] at hm0
 (have F:=ai @lr (ai @k0 (ai @k1 @k2));refine gG ?_;clear F)
 refine gB ?_
 (have F:=ai @lr (ai @k0 (ai @k1 @k2));refine gCP [1003] [1003] (hm0) ?_;clear F)
 rintro r pm ⟨G0',rfl,rfl⟩
 simp only [setA,retA,zipM,List.cons_append,List.nil_append]
 (have F:=ai @lr (ai @k0 (ai @k1 @k2));refine gR ?_;clear F)
 refine pEx (f:=fun (x:Nat->Nat->Prop)=>[.set (x 0) (fun w=>Own w (.sl (mkRows (kk) r0)) (x 0) u0),.set (x 1) (fun w=>Own w (.sl (mkRows (kk+(cntRows r0:Int)) r1)) (x 1) u1)]) [1003] [1003,1004] (fd_cells (r:=[.sl (mkRows (kk) r0),.sl (mkRows (kk+(cntRows r0:Int)) r1)]) rfl) ?_
 rintro Fs0 -
 try dsimp only
 (have F:=ai @lr (ai @k0 (ai @k1 @k2));refine gG ?_;clear F)
 refine gB ?_
 (have F:=ai @lr (ai @k0 (ai @k1 @k2));refine gCP [1005] [1005] (markOpS_all g2 (kk+(cntRows r0:Int)+(cntRows r1:Int)) (Es 2) u2 (by omega) (by omega)) ?_;clear F)
 rintro r pm ⟨F2,rfl,rfl⟩
 simp only [setA,retA,zipM,List.cons_append,List.nil_append]
 (have F:=ai @lr (ai @k0 (ai @k1 @k2));refine gR ?_;clear F)
 (have F:=ai @lr (ai @k0 (ai @k1 @k2));refine gG ?_;clear F)
 obtain ⟨E6,hre⟩:∃ E6,Retold [.set (Fs0 0) (fun w=>Own w (.sl (mkRows (kk) r0)) (Fs0 0) u0),.set (Fs0 1) (fun w=>Own w (.sl (mkRows (kk+(cntRows r0:Int)) r1)) (Fs0 1) u1),.set F2 (fun w=>Own w (.sl (mkRows (kk+(cntRows r0:Int)+(cntRows r1:Int)) r2)) F2 u2)] [.set E6 (fun w=>OwnVals w [.sl (mkRows (kk) r0),.sl (mkRows (kk+(cntRows r0:Int)) r1),.sl (mkRows (kk+(cntRows r0:Int)+(cntRows r1:Int)) r2)] E6 [u0,u1,u2])]:=⟨_,re_cells (cs:=[.sl (mkRows (kk) r0),.sl (mkRows (kk+(cntRows r0:Int)) r1),.sl (mkRows (kk+(cntRows r0:Int)+(cntRows r1:Int)) r2)]) (us:=[u0,u1,u2]) (Es:=fun k=>match k with | 0=>Fs0 0 | 1=>Fs0 1 | _=>F2) rfl trivial⟩
 refine pE [1003,1004,1005] [1000] hre ?_
 have F:=hk
 have ee:kk+(cntRows r0:Int)+(cntRows r1:Int)+(cntRows r2:Int)=kk+((cntRows r0+(cntRows r1+(cntRows r2)):Nat):Int):=by omega
 rw [ee]
 exact gTP (R:=fun r pm=>∃ E',r=[.one (.lit (.int .i64 (kk+((cntRows r0+(cntRows r1+(cntRows r2)):Nat):Int))))]∧pm=[.set E' (fun w=>OwnVals w (mkTop kk [.sl r0,.sl r1,.sl r2]) E' [u0,u1,u2])]) [1000] ⟨E6,rfl,by simp only [mkTop];rfl⟩
end Go.Proofs.YtohilkmdjdfljaaGreat
namespace Go.Proofs.YtohilkmdjdfljaaGreat
open Go.RowKit
set_option maxHeartbeats 16000000 in
set_option maxRecDepth 100000 in
theorem mark_BindingS_of {rows:List (List C)} (hok:okRows (fieldsOf .binding) rows):MarkS 60 rows:=by
 intro k E v hk hb
 refine gIP (ts:=[.slot 4]) [1000] 563 Tryz.func60 ?_
 (have F:=@e0P;refine gG ?_;clear F)
 by_cases hne:rows=[]
 ·subst hne
  refine pEx [1000] [1000] fd_nil ?_
  rintro ⟨a,cap⟩ rfl
  (have F:=@hk;refine gL (ι:=Unit) [1,5,9] [] (fun x=>[(5,.d (.one (.lit (.int .i64 0)))),(1,.d (.one (.lit (.int .i64 k))))]) (fun x=>[]) (fun x=>True) (fun x=>0) (()) (trivial) (fun x hx=>?_);clear F)
  have q1:((0:Int) < 0)=False:=eq_false (by decide)
  have q2:((0:Int) < ((0:Nat):Int))=False:=eq_false (by decide)
  (have F:=ai @q1 @q2;refine gG ?_;clear F)
  have F:=hk
  refine gTP (R:=fun r pm=>∃ E',r=[.one (.lit (.int .i64 (k+(cntRows []:Nat))))]∧pm=[.set E' (fun w=>Own w (.sl (mkRows k [])) E' (.slice a 0 cap))]) [1000] ⟨E,by simp only [cntRows,Int.natCast_zero,Int.add_zero];rfl,by simp only [mkRows];rfl⟩
 ·have hrl:rowsLen 8 rows:=okRows.rowsLen hok
  refine pEx [1000] [1000,1001] (fd_open hne hrl) ?_
  rintro ⟨a,cap,ety,uss,E1⟩ ⟨rfl,hl,hmx⟩
  simp only at hl ⊢
  unfold maxLen at hmx
  refine pE [] [1002] re_none ?_
  (have F:=ai @mkRows_nil (ai @cnt_nil (ai @Int.add_zero @Int.natCast_zero));refine gL (ι:=Nat × List (List Value) × (Nat->Prop) × (Nat->Prop)) [1,5,9] [1000,1001,1002] (fun x=>[(5,.d (.one (.lit (.int .i64 (x.1:Int))))),(1,.d (.one (.lit (.int .i64 (k+(cntRows (rows.take x.1):Nat))))))]) (fun x=>[(1000,.buf (some (a,cap)) ety 8 (x.2.1.map litRow)),(1001,.set x.2.2.1 (fun w=>OwnVs w (rows.drop x.1) x.2.2.1 (x.2.1.drop x.1))),(1002,.set x.2.2.2 (fun w=>OwnVs w (mkRows k (rows.take x.1)) x.2.2.2 (x.2.1.take x.1)))]) (fun x=>x.1<=rows.length∧x.2.1.length=rows.length) (fun x=>rows.length - x.1) ((0,uss,E1,fun _=>False)) (⟨Nat.zero_le _,hl⟩) (fun x hx=>?_);clear F)
  obtain ⟨i,us,E2,E3⟩:=x
  obtain ⟨hi,hn⟩:=hx
  simp only at hi hn
  dsimp only
  by_cases hlt:i < rows.length
  ·obtain ⟨r,hr⟩:∃ r,rows[i]?=some r:=⟨_,List.getElem?_eq_getElem hlt⟩
   obtain ⟨u,hu⟩:∃ u,us[i]?=some u:=⟨_,List.getElem?_eq_getElem (by omega)⟩
   obtain ⟨i0,t1,i2,r3,i4,t5,i6,r7,rfl,g0,g1,g2,g3,g4,g5,g6,g7⟩:=okRow_Binding (hok.get hr)
   have hm3:=markTermS_all g3
   have hm7:=markTermS_all g7
   have hc1:cntRows (rows.take (i+1))=cntRows (rows.take i)+(6+cntRows r3+cntRows r7):=by
    rw [tk_snoc hr,cnt_snoc];simp only [cntRow,cntC];try omega
   have hc2:=cnt_take_le rows (i+1)
   rw [drop_get hr,drop_get hu]
   refine pEx [1001] [1001] (fd_lits rfl) ?_
   rintro ⟨⟩ hlit
   obtain ⟨u3,u7,rfl⟩:∃ u3 u7,u=[.int .i64 i0,.string t1,.int .i64 i2,u3,.int .i64 i4,.string t5,.int .i64 i6,u7]:=by
    match u,hlit with
    | [_,_,_,u3,_,_,_,u7],⟨rfl,rfl,rfl,rfl,rfl,rfl,_⟩=>exact ⟨u3,u7,rfl⟩
   refine pEx (f:=fun (x:(Nat->Prop) × (Nat->Nat->Prop))=>[.set x.1 (fun w=>OwnVs w (rows.drop (i+1)) x.1 (us.drop (i+1))),.set (x.2 0) (fun w=>Own w (.sl r3) (x.2 0) u3),.set (x.2 1) (fun w=>Own w (.sl r7) (x.2 1) u7)]) [1001] [1001,1003,1004] (fd_row rfl) ?_
   rintro ⟨E4,Es⟩ -
   dsimp only
   have hkk0:0<=k+(cntRows (rows.take i):Int):=by omega
   have hkk1:k+(cntRows (rows.take i):Int)+((6+cntRows r3+cntRows r7:Nat):Int)<=1000000000:=by omega
   generalize hkk:k+(cntRows (rows.take i):Int)=kk at hkk0 hkk1 ⊢
   have q1:((i:Int) < (rows.length:Int))=True:=eq_true (by omega)
   have q2:i < rows.length:=hlt
   have hs:∀ X:List C,((us.map litRow).set i X)[i]?=some X:=fun X=>set_get (by rw [len_lits,hn];omega) X
   have lr:litRow [.int .i64 i0,.string t1,.int .i64 i2,u3,.int .i64 i4,.string t5,.int .i64 i6,u7]=[.lit (.int .i64 i0),.lit (.string t1),.lit (.int .i64 i2),.lit (u3),.lit (.int .i64 i4),.lit (.string t5),.lit (.int .i64 i6),.lit (u7)]:=rfl
   have w0:IntKind.i64.wrap (kk+1)=kk+1:=IntWalk.i64_in _ (by omega)
   have w1:IntKind.i64.wrap (kk+1+1)=kk+1+1:=IntWalk.i64_in _ (by omega)
   have w2:IntKind.i64.wrap (kk+1+1+1)=kk+1+1+1:=IntWalk.i64_in _ (by omega)
   have w4:IntKind.i64.wrap (kk+1+1+1+(cntRows r3:Int)+1)=kk+1+1+1+(cntRows r3:Int)+1:=IntWalk.i64_in _ (by omega)
   have w5:IntKind.i64.wrap (kk+1+1+1+(cntRows r3:Int)+1+1)=kk+1+1+1+(cntRows r3:Int)+1+1:=IntWalk.i64_in _ (by omega)
   have w6:IntKind.i64.wrap (kk+1+1+1+(cntRows r3:Int)+1+1+1)=kk+1+1+1+(cntRows r3:Int)+1+1+1:=IntWalk.i64_in _ (by omega)
   have wi:IntKind.i64.wrap ((i:Int)+1)=(i:Int)+1:=IntWalk.i64_in _ (by omega)
   (have F:=ai @q1 (ai @hl (ai @hn (ai @hu (ai @lr (ai @len_lits (ai @set_len (ai @hs (ai @w0 (ai @w1 (ai @w2 (ai @w4 (ai @w5 (ai @w6 (ai @q2 @set_set'))))))))))))));refine gG ?_;clear F)
   refine gB ?_
   (have F:=ai @q1 (ai @hl (ai @hn (ai @hu (ai @lr (ai @len_lits (ai @set_len (ai @hs (ai @w0 (ai @w1 (ai @w2 (ai @w4 (ai @w5 (ai @w6 (ai @q2 @set_set'))))))))))))));refine gC (con_markText (kk+1) (by omega) (by omega)) ?_;clear F)
   (have F:=ai @q1 (ai @hl (ai @hn (ai @hu (ai @lr (ai @len_lits (ai @set_len (ai @hs (ai @w0 (ai @w1 (ai @w2 (ai @w4 (ai @w5 (ai @w6 (ai @q2 @set_set'))))))))))))));refine gR ?_;clear F)
   (have F:=ai @q1 (ai @hl (ai @hn (ai @hu (ai @lr (ai @len_lits (ai @set_len (ai @hs (ai @w0 (ai @w1 (ai @w2 (ai @w4 (ai @w5 (ai @w6 (ai @q2 @set_set'))))))))))))));refine gG ?_;clear F)
   refine gB ?_
   (have F:=ai @q1 (ai @hl (ai @hn (ai @hu (ai @lr (ai @len_lits (ai @set_len (ai @hs (ai @w0 (ai @w1 (ai @w2 (ai @w4 (ai @w5 (ai @w6 (ai @q2 @set_set'))))))))))))));refine gCP [1003] [1003] (hm3 (kk+1+1+1) (Es 0) u3 (by omega) (by omega)) ?_;clear F)
   rintro r pm ⟨F3,rfl,rfl⟩
   simp only [setA,retA,zipM,List.cons_append,List.nil_append]
   (have F:=ai @q1 (ai @hl (ai @hn (ai @hu (ai @lr (ai @len_lits (ai @set_len (ai @hs (ai @w0 (ai @w1 (ai @w2 (ai @w4 (ai @w5 (ai @w6 (ai @q2 @set_set'))))))))))))));refine gR ?_;clear F)
   (have F:=ai @q1 (ai @hl (ai @hn (ai @hu (ai @lr (ai @len_lits (ai @set_len (ai @hs (ai @w0 (ai @w1 (ai @w2 (ai @w4 (ai @w5 (ai @w6 (ai @q2 @set_set'))))))))))))));refine gG ?_;clear F)
   refine gB ?_
   (have F:=ai @q1 (ai @hl (ai @hn (ai @hu (ai @lr (ai @len_lits (ai @set_len (ai @hs (ai @w0 (ai @w1 (ai @w2 (ai @w4 (ai @w5 (ai @w6 (ai @q2 @set_set'))))))))))))));refine gC (con_markText (kk+1+1+1+(cntRows r3:Int)+1) (by omega) (by omega)) ?_;clear F)
   (have F:=ai @q1 (ai @hl (ai @hn (ai @hu (ai @lr (ai @len_lits (ai @set_len (ai @hs (ai @w0 (ai @w1 (ai @w2 (ai @w4 (ai @w5 (ai @w6 (ai @q2 @set_set'))))))))))))));refine gR ?_;clear F)
   (have F:=ai @q1 (ai @hl (ai @hn (ai @hu (ai @lr (ai @len_lits (ai @set_len (ai @hs (ai @w0 (ai @w1 (ai @w2 (ai @w4 (ai @w5 (ai @w6 (ai @q2 @set_set'))))))))))))));refine gG ?_;clear F)
   refine gB ?_
   (have F:=ai @q1 (ai @hl (ai @hn (ai @hu (ai @lr (ai @len_lits (ai @set_len (ai @hs (ai @w0 (ai @w1 (ai @w2 (ai @w4 (ai @w5 (ai @w6 (ai @q2 @set_set'))))))))))))));refine gCP [1004] [1004] (hm7 (kk+1+1+1+(cntRows r3:Int)+1+1+1) (Es 1) u7 (by omega) (by omega)) ?_;clear F)
   rintro r pm ⟨F7,rfl,rfl⟩
   simp only [setA,retA,zipM,List.cons_append,List.nil_append]
   (have F:=ai @q1 (ai @hl (ai @hn (ai @hu (ai @lr (ai @len_lits (ai @set_len (ai @hs (ai @w0 (ai @w1 (ai @w2 (ai @w4 (ai @w5 (ai @w6 (ai @q2 @set_set'))))))))))))));refine gR ?_;clear F)
   obtain ⟨E6,hre⟩:∃ E6,Retold [.set E3 (fun w=>OwnVs w (mkRows k (rows.take i)) E3 (us.take i)),.set F3 (fun w=>Own w (.sl (mkRows (kk+1+1+1) r3)) F3 u3),.set F7 (fun w=>Own w (.sl (mkRows (kk+1+1+1+(cntRows r3:Int)+1+1+1) r7)) F7 u7)] [.set E6 (fun w=>OwnVs w (mkRows k (rows.take (i+1))) E6 ((us.set i [.int .i64 (kk),.string (txt (kk+1)),.int .i64 (kk+1+1),u3,.int .i64 (kk+1+1+1+(cntRows r3:Int)),.string (txt (kk+1+1+1+(cntRows r3:Int)+1)),.int .i64 (kk+1+1+1+(cntRows r3:Int)+1+1),u7]).take (i+1)))]:=by
    have hz:=re_row (E:=E3) (done:=mkRows k (rows.take i)) (ud:=us.take i) (cs:=[.lit (.int .i64 (kk)),.lit (.string (txt (kk+1))),.lit (.int .i64 (kk+1+1)),.sl (mkRows (kk+1+1+1) r3),.lit (.int .i64 (kk+1+1+1+(cntRows r3:Int))),.lit (.string (txt (kk+1+1+1+(cntRows r3:Int)+1))),.lit (.int .i64 (kk+1+1+1+(cntRows r3:Int)+1+1)),.sl (mkRows (kk+1+1+1+(cntRows r3:Int)+1+1+1) r7)]) (us:=[.int .i64 (kk),.string (txt (kk+1)),.int .i64 (kk+1+1),u3,.int .i64 (kk+1+1+1+(cntRows r3:Int)),.string (txt (kk+1+1+1+(cntRows r3:Int)+1)),.int .i64 (kk+1+1+1+(cntRows r3:Int)+1+1),u7]) (Es:=fun k=>match k with | 0=>F3 | _=>F7) rfl ⟨rfl,rfl,rfl,rfl,rfl,rfl,trivial⟩
    rw [tk_snoc hr,mkRows_snoc,hkk,set_take (by omega)]
    simp only [mkRow,mkC,mkV,cntC,Int.natCast_one]
    exact ⟨_,hz⟩
   refine pE [1002,1003,1004] [1002] hre ?_
   have e1:((us.set i [.int .i64 (kk),.string (txt (kk+1)),.int .i64 (kk+1+1),u3,.int .i64 (kk+1+1+1+(cntRows r3:Int)),.string (txt (kk+1+1+1+(cntRows r3:Int)+1)),.int .i64 (kk+1+1+1+(cntRows r3:Int)+1+1),u7]).map litRow)=(us.map litRow).set i [.lit (.int .i64 (kk)),.lit (.string (txt (kk+1))),.lit (.int .i64 (kk+1+1)),.lit (u3),.lit (.int .i64 (kk+1+1+1+(cntRows r3:Int))),.lit (.string (txt (kk+1+1+1+(cntRows r3:Int)+1))),.lit (.int .i64 (kk+1+1+1+(cntRows r3:Int)+1+1)),.lit (u7)]:=by rw [List.map_set];rfl
   have e2:=set_drop us i [.int .i64 (kk),.string (txt (kk+1)),.int .i64 (kk+1+1),u3,.int .i64 (kk+1+1+1+(cntRows r3:Int)),.string (txt (kk+1+1+1+(cntRows r3:Int)+1)),.int .i64 (kk+1+1+1+(cntRows r3:Int)+1+1),u7]
   have e5:k+(cntRows (rows.take (i+1)):Int)=kk+1+1+1+(cntRows r3:Int)+1+1+1+(cntRows r7:Int):=by rw [hc1];omega
   have hn2:(us.set i [.int .i64 (kk),.string (txt (kk+1)),.int .i64 (kk+1+1),u3,.int .i64 (kk+1+1+1+(cntRows r3:Int)),.string (txt (kk+1+1+1+(cntRows r3:Int)+1)),.int .i64 (kk+1+1+1+(cntRows r3:Int)+1+1),u7]).length=rows.length:=by rw [set_len,hn]
   generalize us.set i [.int .i64 (kk),.string (txt (kk+1)),.int .i64 (kk+1+1),u3,.int .i64 (kk+1+1+1+(cntRows r3:Int)),.string (txt (kk+1+1+1+(cntRows r3:Int)+1)),.int .i64 (kk+1+1+1+(cntRows r3:Int)+1+1),u7]=us2 at e1 e2 hn2 ⊢
   rw [<- e1,<- e2]
   (have F:=ai @wi (ai @e5 (ai @hl (ai @w0 (ai @w1 (ai @w2 (ai @w4 (ai @w5 (ai @w6 @hn))))))));refine gG ?_;exact ⟨(i+1,us2,E4,E6),⟨hlt,hn2⟩,gw,gw,by omega⟩)
  ·obtain rfl:i=rows.length:=by omega
   have q1:((rows.length:Int) < (rows.length:Int))=False:=eq_false (by omega)
   rw [List.take_length,List.take_of_length_le (Nat.le_of_eq hn)]
   (have F:=ai @q1 (ai @hl @hn);refine gG ?_;clear F)
   obtain ⟨E6,hre⟩:∃ E6,Retold [.buf (some (a,cap)) ety 8 (us.map litRow),.set E3 (fun w=>OwnVs w (mkRows k rows) E3 us)] [.set E6 (fun w=>Own w (.sl (mkRows k rows)) E6 (.slice a uss.length cap))]:=by
    rw [hl,<- hn]
    exact ⟨_,re_close (fun w h=>h) (Own.stable _ _ _)⟩
   refine pE [1000,1002] [1000] hre ?_
   have F:=hk
   exact gTP (R:=fun r pm=>∃ E',r=[.one (.lit (.int .i64 (k+(cntRows rows:Nat))))]∧pm=[.set E' (fun w=>Own w (.sl (mkRows k rows)) E' (.slice a uss.length cap))]) [1000] ⟨E6,rfl,rfl⟩
theorem markBindingS_all {rows:List (List C)} (hok:okRows (fieldsOf .binding) rows):MarkS 60 rows:=mark_BindingS_of hok
end Go.Proofs.YtohilkmdjdfljaaGreat
namespace Go.Proofs.YtohilkmdjdfljaaGreat
open Go.RowKit
set_option maxHeartbeats 16000000 in
set_option maxRecDepth 100000 in
theorem markOccurrence_all {row:List C} (hok:okRow (fieldsOf .occ) row):MarkV 19 row:=by
 obtain ⟨r0,r1,r2,r3,rfl,g0,g1,g2,g3⟩:=okRow_Occurrence hok
 intro kk E us hl hc hk hb
 obtain ⟨u0,u1,u2,u3,rfl⟩:=len4 hl
 have kc:okCell (.lit u0)=true∧okCell (.lit u1)=true∧okCell (.lit u2)=true∧okCell (.lit u3)=true:=by simpa [litRow,Bool.and_eq_true,and_assoc] using hc
 obtain ⟨k0,k1,k2,k3⟩:=kc
 simp only [cntTop,Nat.add_zero] at hb ⊢
 have lr:litRow [u0,u1,u2,u3]=[.lit u0,.lit u1,.lit u2,.lit u3]:=rfl
 rw [lr]
 refine gIP (ts:=[.slot 4]) [1000] 23 Tryz.func19 ?_
 refine pEx (f:=fun (x:Nat->Nat->Prop)=>[.set (x 0) (fun w=>Own w (.sl r0) (x 0) u0),.set (x 1) (fun w=>Own w (.sl r1) (x 1) u1),.set (x 2) (fun w=>Own w (.sl r2) (x 2) u2),.set (x 3) (fun w=>Own w (.sl r3) (x 3) u3)]) [1000] [1003,1004,1005,1006] (fd_cells rfl) ?_
 rintro Es -
 try dsimp only
 (have F:=ai @lr (ai @k0 (ai @k1 (ai @k2 @k3)));refine gG ?_;clear F)
 refine gB ?_
 (have F:=ai @lr (ai @k0 (ai @k1 (ai @k2 @k3)));refine gCP [1003] [1003] (markIntS_all g0 (kk) (Es 0) u0 (by omega) (by omega)) ?_;clear F)
 rintro r pm ⟨F0,rfl,rfl⟩
 simp only [setA,retA,zipM,List.cons_append,List.nil_append]
 (have F:=ai @lr (ai @k0 (ai @k1 (ai @k2 @k3)));refine gR ?_;clear F)
 (have F:=ai @lr (ai @k0 (ai @k1 (ai @k2 @k3)));refine gG ?_;clear F)
 refine gB ?_
 (have F:=ai @lr (ai @k0 (ai @k1 (ai @k2 @k3)));refine gCP [1004] [1004] (markTermS_all g1 (kk+(cntRows r0:Int)) (Es 1) u1 (by omega) (by omega)) ?_;clear F)
 rintro r pm ⟨F1,rfl,rfl⟩
 simp only [setA,retA,zipM,List.cons_append,List.nil_append]
 (have F:=ai @lr (ai @k0 (ai @k1 (ai @k2 @k3)));refine gR ?_;clear F)
 (have F:=ai @lr (ai @k0 (ai @k1 (ai @k2 @k3)));refine gG ?_;clear F)
 refine gB ?_
 (have F:=ai @lr (ai @k0 (ai @k1 (ai @k2 @k3)));refine gCP [1005] [1005] (markTermS_all g2 (kk+(cntRows r0:Int)+(cntRows r1:Int)) (Es 2) u2 (by omega) (by omega)) ?_;clear F)
 rintro r pm ⟨F2,rfl,rfl⟩
 simp only [setA,retA,zipM,List.cons_append,List.nil_append]
 (have F:=ai @lr (ai @k0 (ai @k1 (ai @k2 @k3)));refine gR ?_;clear F)
 (have F:=ai @lr (ai @k0 (ai @k1 (ai @k2 @k3)));refine gG ?_;clear F)
 refine gB ?_
 (have F:=ai @lr (ai @k0 (ai @k1 (ai @k2 @k3)));refine gCP [1006] [1006] (markBindingS_all g3 (kk+(cntRows r0:Int)+(cntRows r1:Int)+(cntRows r2:Int)) (Es 3) u3 (by omega) (by omega)) ?_;clear F)
 rintro r pm ⟨F3,rfl,rfl⟩
 simp only [setA,retA,zipM,List.cons_append,List.nil_append]
 (have F:=ai @lr (ai @k0 (ai @k1 (ai @k2 @k3)));refine gR ?_;clear F)
 (have F:=ai @lr (ai @k0 (ai @k1 (ai @k2 @k3)));refine gG ?_;clear F)
 obtain ⟨E6,hre⟩:∃ E6,Retold [.set F0 (fun w=>Own w (.sl (mkRows (kk) r0)) F0 u0),.set F1 (fun w=>Own w (.sl (mkRows (kk+(cntRows r0:Int)) r1)) F1 u1),.set F2 (fun w=>Own w (.sl (mkRows (kk+(cntRows r0:Int)+(cntRows r1:Int)) r2)) F2 u2),.set F3 (fun w=>Own w (.sl (mkRows (kk+(cntRows r0:Int)+(cntRows r1:Int)+(cntRows r2:Int)) r3)) F3 u3)] [.set E6 (fun w=>OwnVals w [.sl (mkRows (kk) r0),.sl (mkRows (kk+(cntRows r0:Int)) r1),.sl (mkRows (kk+(cntRows r0:Int)+(cntRows r1:Int)) r2),.sl (mkRows (kk+(cntRows r0:Int)+(cntRows r1:Int)+(cntRows r2:Int)) r3)] E6 [u0,u1,u2,u3])]:=⟨_,re_cells (cs:=[.sl (mkRows (kk) r0),.sl (mkRows (kk+(cntRows r0:Int)) r1),.sl (mkRows (kk+(cntRows r0:Int)+(cntRows r1:Int)) r2),.sl (mkRows (kk+(cntRows r0:Int)+(cntRows r1:Int)+(cntRows r2:Int)) r3)]) (us:=[u0,u1,u2,u3]) (Es:=fun k=>match k with | 0=>F0 | 1=>F1 | 2=>F2 | _=>F3) rfl trivial⟩
 refine pE [1003,1004,1005,1006] [1000] hre ?_
 have F:=hk
 have ee:kk+(cntRows r0:Int)+(cntRows r1:Int)+(cntRows r2:Int)+(cntRows r3:Int)=kk+((cntRows r0+(cntRows r1+(cntRows r2+(cntRows r3))):Nat):Int):=by omega
 rw [ee]
 exact gTP (R:=fun r pm=>∃ E',r=[.one (.lit (.int .i64 (kk+((cntRows r0+(cntRows r1+(cntRows r2+(cntRows r3))):Nat):Int))))]∧pm=[.set E' (fun w=>OwnVals w (mkTop kk [.sl r0,.sl r1,.sl r2,.sl r3]) E' [u0,u1,u2,u3])]) [1000] ⟨E6,rfl,by simp only [mkTop];rfl⟩
end Go.Proofs.YtohilkmdjdfljaaGreat
namespace Go.Proofs.YtohilkmdjdfljaaGreat
open Go.RowKit
theorem fields_le (t:TN):(fieldsOf t).length<=16:=by cases t <;> decide
mutual
theorem cnt_okC:∀ (f:F) (c:C),okC f c->cntC c<=1+16 * bulkC c
 | f,.lit v,_=>by simp only [cntC];omega
 | .sl t,.sl rows,h=>by
  have:=cnt_okRows (fieldsOf t) rows (fields_le t) (by simpa [okC] using h)
  simp only [cntC,bulkC]
  omega
 | .int,.sl _,h=>by simp [okC] at h
 | .str,.sl _,h=>by simp [okC] at h
 | .bool,.sl _,h=>by simp [okC] at h
 | f,.ptr _,_=>by simp [cntC]
 | f,.fn _ _,_=>by simp [cntC]
theorem cnt_okRows:∀ (fs:List F) (rows:List (List C)),fs.length<=16->okRows fs rows->cntRows rows<=16 * (rows.length+bulkRows rows)
 | fs,[],_,_=>by simp [cntRows]
 | fs,r::rs,hl,h=>by
  simp only [okRows] at h
  have h1:=cnt_okRow fs r h.1
  have h2:=cnt_okRows fs rs hl h.2
  simp only [cntRows,bulkRows,List.length_cons]
  omega
theorem cnt_okRow:∀ (fs:List F) (cs:List C),okRow fs cs->cntRow cs<=fs.length+16 * bulkRow cs
 | [],[],_=>by simp [cntRow]
 | f::fs,c::cs,h=>by
  simp only [okRow] at h
  have h1:=cnt_okC f c h.1
  have h2:=cnt_okRow fs cs h.2
  simp only [cntRow,bulkRow,List.length_cons]
  omega
 | [],_::_,h=>by simp [okRow] at h
 | _::_,[],h=>by simp [okRow] at h
end
theorem cntTop_ok:∀ (fs:List F) (cs:List C),okRow fs cs->cntTop cs<=16 * bulkRow cs
 | [],[],_=>by simp [cntTop]
 | f::fs,c::cs,h=>by
  simp only [okRow] at h
  have h2:=cntTop_ok fs cs h.2
  cases c with
  | lit v=>simp only [cntTop,bulkRow];omega
  | sl rows =>
   cases f with
   | sl t =>
    have:=cnt_okRows (fieldsOf t) rows (fields_le t) (by simpa [okC] using h.1)
    simp only [cntTop,bulkRow,bulkC]
    omega
   | _=>simp [okC] at h
  | ptr _=>simp only [cntTop,bulkRow];omega
  | fn _ _=>simp only [cntTop,bulkRow];omega
 | [],_::_,h=>by simp [okRow] at h
 | _::_,[],h=>by simp [okRow] at h
theorem lits_len {us:List Value} {n:Nat} (h:us.length=n):(litRow us).length=n∧(litRow us).take n=litRow us∧(litRow us).drop n=[]:=by
 have hl:(litRow us).length=n:=by unfold litRow;rw [List.length_map];exact h
 exact ⟨hl,List.take_of_length_le (Nat.le_of_eq hl),List.drop_of_length_le (Nat.le_of_eq hl)⟩
end Go.Proofs.YtohilkmdjdfljaaGreat
namespace Go.Proofs.YtohilkmdjdfljaaGreat
open Go.RowKit
theorem con_szSignature {row:List C} (hok:okRow (sigF) row) {left:Int} (h0:0<=left) (h1:left<=1048576):Con e0 6 [.agg row,.one (.lit (.int .i64 left))] [.one (.lit (.int .i64 (sub left (bulkRow row))))]:=by
 refine con_below e0_ok (by kernel_rfl) fun w S vs h=>?_
 match vs,h with
 | [v,u],h =>
  obtain ⟨⟨us,rfl,hu⟩,h2,_⟩:=h
  have h2:u=.int .i64 left:=by simpa [DRel,Rep] using h2
  subst h2
  exact (szSignature_any row S us left w hok hu h0 h1).mono fun e w' ⟨h1,h2⟩=>⟨_,h1,h2,by simp [retA,ARel,DRel,Rep]⟩
theorem con_toSignature {row:List C} (hok:okRow (sigF) row) (hb:bulkRow row<=1048576):Con e0 10 [.agg row] [.agg row]:=by
 refine con_below e0_ok (by kernel_rfl) fun w S vs h=>?_
 match vs,h with
 | [v],h =>
  obtain ⟨⟨us,rfl,hu⟩,_⟩:=h
  exact (toSignature_any row S us w hok hu hb).mono fun e w' ⟨us',h1,h2,h3⟩=>⟨_,h1,h3,us',rfl,OwnVals.rep row _ _ us' (fun x hx=>.inr hx) h2⟩
theorem con_eqSignature {row:List C} (hok:okRow (sigF) row):Con e0 15 [.agg row,.agg row] [.one (.lit (.bool true))]:=by
 refine con_below e0_ok (by kernel_rfl) fun w S vs h=>?_
 match vs,h with
 | [v,u],h =>
  obtain ⟨⟨us,rfl,hu⟩,⟨us',rfl,hu'⟩,_⟩:=h
  exact (eqSignature_any row S S us us' w hok hu hu').mono fun e w' ⟨h1,h2⟩=>⟨_,h1,h2,by simp [retA,ARel,DRel,Rep]⟩
end Go.Proofs.YtohilkmdjdfljaaGreat
namespace Go.Proofs.YtohilkmdjdfljaaGreat
open Go.RowKit
theorem con_szTerm {row:List C} (hok:okRow (fieldsOf .term) row) {left:Int} (h0:0<=left) (h1:left<=1048576):Con e0 7 [.agg row,.one (.lit (.int .i64 left))] [.one (.lit (.int .i64 (sub left (bulkRow row))))]:=by
 refine con_below e0_ok (by kernel_rfl) fun w S vs h=>?_
 match vs,h with
 | [v,u],h =>
  obtain ⟨⟨us,rfl,hu⟩,h2,_⟩:=h
  have h2:u=.int .i64 left:=by simpa [DRel,Rep] using h2
  subst h2
  exact (szTerm_any row S us left w hok hu h0 h1).mono fun e w' ⟨h1,h2⟩=>⟨_,h1,h2,by simp [retA,ARel,DRel,Rep]⟩
theorem con_toTerm {row:List C} (hok:okRow (fieldsOf .term) row) (hb:bulkRow row<=1048576):Con e0 11 [.agg row] [.agg row]:=by
 refine con_below e0_ok (by kernel_rfl) fun w S vs h=>?_
 match vs,h with
 | [v],h =>
  obtain ⟨⟨us,rfl,hu⟩,_⟩:=h
  exact (toTerm_any row S us w hok hu hb).mono fun e w' ⟨us',h1,h2,h3⟩=>⟨_,h1,h3,us',rfl,OwnVals.rep row _ _ us' (fun x hx=>.inr hx) h2⟩
theorem con_eqTerm {row:List C} (hok:okRow (fieldsOf .term) row):Con e0 14 [.agg row,.agg row] [.one (.lit (.bool true))]:=by
 refine con_below e0_ok (by kernel_rfl) fun w S vs h=>?_
 match vs,h with
 | [v,u],h =>
  obtain ⟨⟨us,rfl,hu⟩,⟨us',rfl,hu'⟩,_⟩:=h
  exact (eqTerm_any row S S us us' w hok hu hu').mono fun e w' ⟨h1,h2⟩=>⟨_,h1,h2,by simp [retA,ARel,DRel,Rep]⟩
end Go.Proofs.YtohilkmdjdfljaaGreat
namespace Go.Proofs.YtohilkmdjdfljaaGreat
open Go.RowKit
theorem con_szOccurrence {row:List C} (hok:okRow (fieldsOf .occ) row) {left:Int} (h0:0<=left) (h1:left<=1048576):Con e0 8 [.agg row,.one (.lit (.int .i64 left))] [.one (.lit (.int .i64 (sub left (bulkRow row))))]:=by
 refine con_below e0_ok (by kernel_rfl) fun w S vs h=>?_
 match vs,h with
 | [v,u],h =>
  obtain ⟨⟨us,rfl,hu⟩,h2,_⟩:=h
  have h2:u=.int .i64 left:=by simpa [DRel,Rep] using h2
  subst h2
  exact (szOccurrence_any row S us left w hok hu h0 h1).mono fun e w' ⟨h1,h2⟩=>⟨_,h1,h2,by simp [retA,ARel,DRel,Rep]⟩
theorem con_toOccurrence {row:List C} (hok:okRow (fieldsOf .occ) row) (hb:bulkRow row<=1048576):Con e0 12 [.agg row] [.agg row]:=by
 refine con_below e0_ok (by kernel_rfl) fun w S vs h=>?_
 match vs,h with
 | [v],h =>
  obtain ⟨⟨us,rfl,hu⟩,_⟩:=h
  exact (toOccurrence_any row S us w hok hu hb).mono fun e w' ⟨us',h1,h2,h3⟩=>⟨_,h1,h3,us',rfl,OwnVals.rep row _ _ us' (fun x hx=>.inr hx) h2⟩
theorem con_eqOccurrence {row:List C} (hok:okRow (fieldsOf .occ) row):Con e0 16 [.agg row,.agg row] [.one (.lit (.bool true))]:=by
 refine con_below e0_ok (by kernel_rfl) fun w S vs h=>?_
 match vs,h with
 | [v,u],h =>
  obtain ⟨⟨us,rfl,hu⟩,⟨us',rfl,hu'⟩,_⟩:=h
  exact (eqOccurrence_any row S S us us' w hok hu hu').mono fun e w' ⟨h1,h2⟩=>⟨_,h1,h2,by simp [retA,ARel,DRel,Rep]⟩
end Go.Proofs.YtohilkmdjdfljaaGreat
