/-
  Part of a proof: Sf, St, Ss, Bf, Rl, Rk, M6, Gk, Fj, Sw, Or, Dt, LBinding, LOccurrence, Oq, Tn, By, Mt, Om, Sl, Rd, Cf, To, Rb, Tp, Tr, Rs, Sw2.
-/
import Derived.Test.YtohilkmdjdfljaaGreatBReplaceOccurrence0
import Derived.Test.YtohilkmdjdfljaaGreatBReplaceOccurrence1
import Derived.Test.YtohilkmdjdfljaaGreatBReplaceOccurrence2
import Derived.Test.YtohilkmdjdfljaaGreatBReplaceOccurrence3
import Derived.Test.YtohilkmdjdfljaaGreatRows
import Derived.Deep.RegionHeld3
set_option linter.unusedSimpArgs false
set_option linter.unusedVariables false
namespace Go.Proofs.YtohilkmdjdfljaaGreat
open Go.RowKit
theorem sort_nil:encTms (sortTm [])=[]:=by simp [sortTm,encTms]
theorem okTms_sort {l:List Tm} (h:okTms l):okTms (sortTm l):=by
 have:∀ {ts:List Tm},okTms ts ↔ ∀ t∈ts,okTm t:=fun {ts}=>by
  induction ts with
  | nil=>simp [okTms]
  | cons t ts ih=>simp [okTms,ih]
 exact this.2 fun a ha=>this.1 h a ((sortTm_perm l).mem_iff.1 ha)
theorem okTms_take {l:List Tm} (h:okTms l) (k:Nat):okTms (l.take k):=by
 have:∀ {ts:List Tm},okTms ts ↔ ∀ t∈ts,okTm t:=fun {ts}=>by
  induction ts with
  | nil=>simp [okTms]
  | cons t ts ih=>simp [okTms,ih]
 exact this.2 fun a ha=>this.1 h a (List.mem_of_mem_take ha)
set_option maxHeartbeats 16000000 in
set_option maxRecDepth 100000 in
theorem con_specSort (ts:List Tm) (hok:okTms ts) (hB:tmsB ts):Con e0 84 [.one (.sl (encTms ts))] [.one (.sl (encTms (sortTm ts)))]:=by
 have hB0:=hB
 unfold tmsB at hB
 have hcc:=con_l5Copies (sortTm ts) (by
  have h1:=(sortTm_perm ts).length_eq
  have h2:bulkRows (encTms (sortTm ts))=bulkRows (encTms ts):=by
   have:∀ {l m:List Tm},l.Perm m->bulkRows (encTms l)=bulkRows (encTms m):=fun h=>by
    induction h with
    | nil=>rfl
    | cons x h ih=>simp only [encTms,bulkRows,ih]
    | swap x y l=>simp only [encTms,bulkRows];omega
    | trans h1 h2 a b=>rw [a,b]
   exact this (sortTm_perm ts)
  unfold tmsB;omega)
 refine gI (ts:=[.slot 2]) 1073743997 Tryz.func84 ?_
 (have F:=@tmz;refine gG ?_;clear F)
 (have F:=ai @sort_nil @tmz;refine gL (ι:=Nat) [3,4,5,6,11,30] [3] (fun i=>[(4,A.d (.one (.lit (.int .i64 i)))),(3,.buf 3)]) (fun i=>[(3,.buf none 41 4 (encTms (sortTm (ts.take i))))]) (fun i=>i<=ts.length) (fun i=>ts.length - i) (0) (Nat.zero_le _) (fun i hi=>?_);clear F)
 by_cases hlt:i < ts.length
 rotate_left
 ·obtain rfl:i=ts.length:=by omega
  have q2:((ts.length:Int) < (ts.length:Int))=False:=eq_false (by omega)
  rw [List.take_length]
  (have F:=ai @q2 @tmz;have NN:StopAt 10:=trivial;refine gGn ?_;clear F NN)
  refine pS 3 fun a cap=>?_
  refine pD 3 [3] [] ?_
  refine gB ?_
  (have F:=@tmz;refine gC (hcc) ?_;clear F)
  (have F:=@tmz;refine gR ?_;clear F)
  (have F:=@tmz;refine gG ?_;exact gTd)
 obtain ⟨x,hx⟩:∃ b,ts[i]?=some b:=⟨_,List.getElem?_eq_getElem hlt⟩
 have q2:((i:Int) < (ts.length:Int))=True:=eq_true (by omega)
 have q4:=wrap1 (k:=i) (by omega)
 have hxo:=hok.mem (List.mem_of_getElem? hx)
 obtain ⟨M,hM⟩:∃ M,M=sortTm (ts.take i):=⟨_,rfl⟩
 have hMl:M.length=i:=by rw [hM,sortTm_len,List.length_take];omega
 have hMo:okTms M:=by rw [hM];exact okTms_sort (okTms_take hok i)
 have hMr:ts.take (i+1)=ts.take i++[x]:=take_snoc_of hx
 rw [<- hM]
 (have F:=ai @q2 (ai @hMl @tmz);have NN:StopAt 5:=trivial;refine gGn ?_;clear F NN)
 refine gB ?_
 (have F:=ai @hMl @tmz;refine gR ?_;clear F)
 refine pwp_seqW ?_
 refine gM (ι:=Nat) [5] [] (fun k=>[(5,A.d (.one (.lit (.int .i64 k))))]) (fun k=>[]) (fun k=>k<=i∧(∀ y∈M.drop k,cmpTm x y<=0)∧(0 < k->∃ y,M[k - 1]?=some y∧cmpTm y x<=0)) ?_ (fun k hk=>Exists.intro _ (ai (Wk.refl _) ?_))
 ·(have F:=@tmz;refine gG ?_;clear F)
  (have F:=@tmz;refine gL (ι:=Nat) [5,30] [] (fun k=>[(5,A.d (.one (.lit (.int .i64 k))))]) (fun k=>[]) (fun k=>k<=i∧∀ y∈M.drop k,cmpTm x y<=0) (fun k=>k) (i) (⟨Nat.le_refl _,by rw [<- hMl,List.drop_length];intro y hy;cases hy⟩) (fun k hk=>?_);clear F)
  obtain ⟨hk,h2⟩:=hk
  by_cases hk0:k=0
  ·have q0:(0 < (k:Int))=False:=eq_false (by omega)
   (have F:=ai @q0 @tmz;refine gG ?_;exact ⟨k,⟨hk,h2,fun h=>by omega⟩,gw,gw⟩)
  obtain ⟨j,rfl⟩:∃ j,k=j+1:=⟨k - 1,by omega⟩
  obtain ⟨y,hy⟩:∃ y,M[j]?=some y:=⟨_,List.getElem?_eq_getElem (by omega)⟩
  have q5:(0 < ((j+1:Nat):Int))=True:=eq_true (by omega)
  have wj:IntKind.i64.wrap (((j+1:Nat):Int) - 1)=(j:Int):=wrapN (by omega) (by omega) (by omega)
  have lj:j < i:=by omega
  have hdr:M.drop j=y::M.drop (j+1):=drop_cons_of hy
  generalize hk1:j+1=k1 at q5 wj h2 hk hdr ⊢
  (have F:=@tmz;refine gG ?_;clear F)
  refine gB ?_
  (have F:=ai @q5 (ai @wj (ai @hy (ai @hx (ai @hMl (ai @lj (ai @natInt @tmz))))));refine gC (con_specCmp (hMo.mem (List.mem_of_getElem? hy)) hxo) ?_;clear F)
  by_cases hc:0 < cmpTm y x
  ·have z:=eq_true hc
   (have F:=@z;refine gR ?_;clear F)
   have h2':∀ u∈M.drop j,cmpTm x u<=0:=fun u hu=>by
    rw [hdr] at hu
    rcases List.mem_cons.1 hu with rfl | hu
    ·rw [cmpTm_neg u x];omega
    ·exact h2 u hu
   (have F:=ai @z @wj;refine gG ?_;exact ⟨j,⟨by omega,h2'⟩,gw,gw,by omega⟩)
  have z:=eq_false hc
  (have F:=@z;refine gR ?_;clear F)
  (have F:=ai @z @tmz;refine gG ?_;exact ⟨k1,⟨hk,h2,fun _=>⟨y,by rw [<- hk1,Nat.add_sub_cancel];exact hy,by omega⟩⟩,gw,gw⟩)
 obtain ⟨hk,h2,h1⟩:=hk
 have hMs:M.take k++x::M.drop k=sortTm (ts.take (i+1)):=by
  rw [hMr]
  refine ins_sort (by rw [List.take_append_drop,hM]) h2 fun y hy=>?_
  have hk0:0 < k:=by
   rcases Nat.eq_zero_or_pos k with h | h
   ·subst h;simp at hy
   ·exact h
  obtain ⟨z,hz,hc⟩:=h1 hk0
  rw [List.getLast?_eq_getElem?,List.length_take,hMl,Nat.min_eq_left hk,List.getElem?_take,if_pos (by omega),hz] at hy
  injection hy with hy
  subst hy
  exact hc
 have hdl:((encTms M).take (encTms M).length).drop k=encTms (M.drop k):=by rw [List.take_length,encTms_drop]
 (have F:=@tmz;have NN:StopAt 8:=trivial;refine gGn ?_;clear F NN)
 refine pS 3 fun a cap=>?_
 refine gB ?_
 (have F:=@tmz;refine gP 3 ?_;clear F)
 have hkl:k<=(encTms M).length:=by rw [encTms_len];omega
 refine (have F:=ai hMl tmz;gSub 3 k (encTms M).length ⟨hkl,Nat.le_refl _⟩ ?_)
 refine gO 33 41 4 ?_
 refine (have F:=tmz;gAps (rows:=[]) (rj:=encTms M) 33 3 ⟨hkl,Nat.le_refl _⟩ (by rw [encTms_len];simp only [List.length_nil,maxApp];omega) ?_)
 rw [hdl,List.nil_append]
 (have F:=@tmz;refine gR ?_;clear F)
 (have F:=@tmz;have NN:StopAt 9:=trivial;refine gGn ?_;clear F NN)
 have hcl:(encTms M).take k=encTms (M.take k):=encTms_take _ _
 have htl:(M.take k).length=k:=by rw [List.length_take];omega
 refine gF0 ?_
 refine gFm 0 ?_
 refine gFm 1 ?_
 refine (have F:=ai hMl tmz;gFs 2 3 0 k ⟨Nat.zero_le _,hkl⟩ ?_)
 rw [sliced_zero]
 refine gFm 3 ?_
 refine gFm 4 ?_
 refine gFm 9 ?_
 refine gFT ?_
 have l1:(k+1<=maxApp)=True:=eq_true (by unfold maxApp;omega)
 have l2:((M.take k).length+1+(M.drop k).length<=maxApp)=True:=eq_true (by rw [htl,List.length_drop];unfold maxApp;omega)
 have e1:encTms (M.take k)++[encTm x]=encTms (M.take k++[x]):=by rw [encTms_app];rfl
 have e2:encTms (M.take k++[x])++encTms (M.drop k)=encTms (sortTm (ts.take (i+1))):=by rw [<- encTms_app,<- hMs];simp
 refine gO1 5 ?_
 refine (have F:=ai q2 (ai hx (ai natInt tmz));gO3 ?_)
 refine gO1 6 ?_
 refine (have F:=ai hx tmz;gO3 ?_)
 refine gO1 7 ?_
 refine (have F:=tmz;gO3 ?_)
 refine gO1 8 ?_
 refine gE [3] [3] (re_cut k hkl) ?_
 rw [hcl]
 refine (have F:=ai htl (ai l1 (ai e1 tmz));gO3 ?_)
 refine gO1 10 ?_
 refine (have F:=ai l2 (ai e2 tmz);gO3 ?_)
 refine gO1 11 ?_
 refine (have F:=tmz;gO3 ?_)
 refine (have F:=tmz;gT0 ?_)
 refine Exists.intro _ (ai (Wk.refl _) ?_)
 (have F:=@q4;refine gG ?_;exact ⟨i+1,hlt,gw,gw,by omega⟩)
end Go.Proofs.YtohilkmdjdfljaaGreat
namespace Go.Proofs.YtohilkmdjdfljaaGreat
open Go.RowKit
def zTm:Tm:=.mk 0 ByteArray.empty 0 []
def subAt:Tm->List Int->Tm × Bool
 | t,[]=>(t,true)
 | t,p::ps=>if p < 0 then (zTm,false) else match t.args[p.toNat]? with
  | some a=>subAt a ps
  | none=>(zTm,false)
def RTreeB (x:Tm × Bool) (r:List D) (pm:List Bk):Prop:=∃ us E,r=[.agg (litRow us),.one (.lit (.bool x.2))]∧us.length=4∧(litRow us).all okCell=true∧pm=[.set E (fun w=>OwnVals w (encTm x.1) E us)]
theorem RTreeB.mk {x:Tm × Bool} {b:Bool} {u0 u1 u2 u3:Value} {E:Nat->Prop} (hok:(litRow [u0,u1,u2,u3]).all okCell=true) (hb:b=x.2):RTreeB x [.agg [.lit u0,.lit u1,.lit u2,.lit u3],.one (.lit (.bool b))] [.set E (fun w=>OwnVals w (encTm x.1) E [u0,u1,u2,u3])]:=⟨[u0,u1,u2,u3],E,by rw [hb];rfl,rfl,hok,rfl⟩
theorem own_nil {w:World} {E:Nat->Prop}:Own w (.sl []) E (.slice none 0 0):=by
 simp only [Own]
 exact ⟨none,0,0,rfl,rfl,Nat.le_refl _,by decide,fun h=>absurd h (by decide)⟩
theorem re_zTm:Retold [] [.set (fun _=>False) (fun w=>OwnVals w (encTm zTm) (fun _=>False) [.int .i64 0,.string ByteArray.empty,.int .i64 0,.slice none 0 0])]:=fun w S _ _ =>
 ⟨fun x hx=>by simp at hx;subst hx;exact ⟨fun b h=>h.elim,own_tm (args:=[]) (by simp only [encTms];exact own_nil),OwnVals.stable _ _ _⟩,apart_1 _,fun g ⟨x,hx,hg⟩=>by simp at hx;subst hx;exact hg.elim⟩
theorem subAt_drop {t:Tm} {ps:List Int} {i:Nat} {p:Int} (h:ps[i]?=some p):subAt t (ps.drop i)=if p < 0 then (zTm,false) else match t.args[p.toNat]? with
  | some a=>subAt a (ps.drop (i+1))
  | none=>(zTm,false):=by
 obtain ⟨hl,rfl⟩:=List.getElem?_eq_some_iff.1 h
 rw [List.drop_eq_getElem_cons hl,subAt]
theorem zTm_u:encTm zTm=[.lit (.int .i64 0),.lit (.string ByteArray.empty),.lit (.int .i64 0),.sl []]:=by simp [zTm,encTm,encTms]
theorem bulk_arg {a b:Tm} {i:Nat} (h:a.args[i]?=some b):bulkRow (encTm b)<=bulkRow (encTm a):=by
 obtain ⟨op,nm,so,args⟩:=a
 have hi':(encTms args)[i]?=some (encTm b):=by rw [encTms_get];simp only [Tm.args] at h;rw [h];rfl
 have h2:=bulk_get hi'
 simp only [encTm,bulkRow,bulkC]
 omega
set_option maxHeartbeats 4000000 in
theorem con_implAt (t:Tm) (ps:List Int) (hl:ps.length<=1048576) (hb:bulkRow (encTm t)<=1048576):ConP e0 94 [.agg (encTm t),.one (.sl (ps.map encInt))] [] (RTreeB (subAt t ps)):=by
 refine gIP (ts:=[.cell 4 41,.slot 5]) [] 4198327 Tryz.func94 ?_
 (have F:=@tmz;refine gG ?_;clear F)
 (have F:=@tmz;refine gL (ι:=Nat × Tm) [5,7,10,11,22] [2] (fun x=>[(10,.d (.one (.lit (.int .i64 (x.1:Int)))))]) (fun x=>[(2,.var none (encTm x.2))]) (fun x=>x.1<=ps.length∧subAt t ps=subAt x.2 (ps.drop x.1)∧bulkRow (encTm x.2)<=1048576) (fun x=>ps.length - x.1) ((0,t)) (⟨Nat.zero_le _,rfl,hb⟩) (fun x hx=>?_);clear F)
 obtain ⟨i,a⟩:=x
 obtain ⟨hi,hs,ha⟩:=hx
 simp only at hi hs ha
 rw [hs]
 clear hs
 by_cases hlt:i < ps.length
 ·obtain ⟨p,hp⟩:∃ p,ps[i]?=some p:=⟨_,List.getElem?_eq_getElem hlt⟩
  have q1:((i:Int) < (ps.length:Int))=True:=eq_true (by omega)
  rw [subAt_drop hp]
  by_cases hp0:p < 0
  ·have q2:(p < 0)=True:=eq_true hp0
   rw [if_pos hp0]
   (have F:=ai @q1 (ai @hp (ai @encInt_u @q2));have NN:StopAt 5:=trivial;refine gGn ?_;clear F NN)
   refine gB ?_
   refine gX ?_
   (have F:=@e0P;refine gR ?_;clear F)
   (have F:=@tmz;refine gG ?_;clear F)
   refine pE [] [1001] re_zTm ?_
   exact (have F:=@e0P;gTP [1001] (RTreeB.mk (x:=(zTm,false)) rfl rfl))
  ·have q2:(p < 0)=False:=eq_false hp0
   rw [if_neg hp0]
   cases hg:a.args[p.toNat]? with
   | none =>
    have hle:=List.getElem?_eq_none_iff.1 hg
    have q3:(p ≥ (a.args.length:Int))=True:=eq_true (by omega)
    (have F:=ai @q1 (ai @hp (ai @encInt_u (ai @q2 (ai @tmz @q3))));have NN:StopAt 5:=trivial;refine gGn ?_;clear F NN)
    refine gB ?_
    refine gX ?_
    (have F:=@e0P;refine gR ?_;clear F)
    (have F:=@tmz;refine gG ?_;clear F)
    refine pE [] [1001] re_zTm ?_
    exact (have F:=@e0P;gTP [1001] (RTreeB.mk (x:=(zTm,false)) rfl rfl))
   | some b =>
    have hlt2:=(List.getElem?_eq_some_iff.1 hg).1
    have q3:(p ≥ (a.args.length:Int))=False:=eq_false (by omega)
    have q5:(0<=p)=True:=eq_true (by omega)
    (have F:=ai @q1 (ai @hp (ai @encInt_u (ai @q2 (ai @tmz (ai @q3 (ai @hg @q5))))));refine gG ?_;clear F)
    have hbb:bulkRow (encTm b)<=1048576:=Nat.le_trans (bulk_arg hg) ha
    have q4:IntKind.i64.wrap ((i:Int)+1)=(i:Int)+1:=IntWalk.i64_in _ (by omega)
    (have F:=@q4;refine gG ?_;exact ⟨(i+1,b),⟨hlt,rfl,hbb⟩,gw,gw,by omega⟩)
 ·obtain rfl:i=ps.length:=by omega
  have q1:((ps.length:Int) < (ps.length:Int))=False:=eq_false (by omega)
  rw [List.drop_length,subAt]
  (have F:=@q1;refine gG ?_;clear F)
  refine gB ?_
  (have F:=@tmz;refine gCP [] [1001] (con_copyTerm a ha) ?_;clear F)
  rintro r pm ⟨us,E2,rfl,hu,hok,rfl⟩
  rw [tm_len] at hu
  obtain ⟨u0,u1,u2,u3,rfl⟩:=len4 hu
  obtain ⟨k0,k1,k2,k3⟩:=okc4 hok
  simp only [litRow4,setA,retA,zipM,List.cons_append,List.nil_append]
  (have F:=ai @tmz (ai @k0 (ai @k1 (ai @k2 @k3)));refine gR ?_;clear F)
  (have F:=@tmz;refine gG ?_;clear F)
  exact (have F:=@e0P;gTP [1001] (RTreeB.mk hok rfl))
end Go.Proofs.YtohilkmdjdfljaaGreat
namespace Go.Proofs.YtohilkmdjdfljaaGreat
open Go.RowKit
set_option maxHeartbeats 4000000 in
theorem con_l1InA (x lo hi:Int):Con e0 85 [.one (.lit (.int .i64 x)),.one (.lit (.int .i64 lo)),.one (.lit (.int .i64 hi))] [.one (.lit (.bool (decide (lo<=x∧x<=hi))))]:=by
 refine gI 71 Tryz.func85 ?_
 by_cases h1:lo<=x
 ·by_cases h2:x<=hi
  ·(have F:=ai @h1 @h2;refine gG ?_;exact gT)
  ·(have F:=ai @h1 @h2;refine gG ?_;exact gT)
 ·(have F:=@h1;refine gG ?_;exact gT)
theorem subAt_bad {t:Tm} {ps:List Int} {i:Nat} {p:Int} (h:ps[i]?=some p) (hin:¬ (0<=p∧p<=(t.args.length:Int) - 1)):subAt t (ps.drop i)=(zTm,false):=by
 rw [subAt_drop h]
 split
 ·rfl
 ·rw [List.getElem?_eq_none (by omega)]
theorem args_le {a:Tm} (ha:bulkRow (encTm a)<=1048576):a.args.length<=1048576:=by
 obtain ⟨op,nm,so,args⟩:=a
 simp only [encTm,bulkRow,bulkC,encTms_len] at ha
 simp only [Tm.args]
 omega
set_option maxHeartbeats 4000000 in
theorem con_l12At (t:Tm) (ps:List Int) (hl:ps.length<=1048576) (hb:bulkRow (encTm t)<=1048576):Con e0 39 [.agg (encTm t),.one (.sl (ps.map encInt))] [.agg (encTm (subAt t ps).1),.one (.lit (.bool (subAt t ps).2))]:=by
 refine gI (ts:=[.cell 4 41,.slot 5]) 4195447 Tryz.func39 ?_
 (have F:=@tmz;refine gG ?_;clear F)
 (have F:=@tmz;refine gL (ι:=Nat × Tm) [5,6,10,22] [2] (fun x=>[(6,.d (.one (.lit (.int .i64 (x.1:Int)))))]) (fun x=>[(2,.var none (encTm x.2))]) (fun x=>x.1<=ps.length∧subAt t ps=subAt x.2 (ps.drop x.1)∧bulkRow (encTm x.2)<=1048576) (fun x=>ps.length - x.1) ((0,t)) (⟨Nat.zero_le _,rfl,hb⟩) (fun x hx=>?_);clear F)
 obtain ⟨i,a⟩:=x
 obtain ⟨hi,hs,ha⟩:=hx
 simp only at hi hs ha
 rw [hs]
 clear hs
 by_cases hlt:i < ps.length
 ·obtain ⟨p,hp⟩:∃ p,ps[i]?=some p:=⟨_,List.getElem?_eq_getElem hlt⟩
  have q1:((i:Int) < (ps.length:Int))=True:=eq_true (by omega)
  have hal:=args_le ha
  have q2:IntKind.i64.wrap ((a.args.length:Int) - 1)=(a.args.length:Int) - 1:=IntWalk.i64_in _ (by omega)
  have q4:IntKind.i64.wrap ((i:Int)+1)=(i:Int)+1:=IntWalk.i64_in _ (by omega)
  by_cases hin:0<=p∧p<=(a.args.length:Int) - 1
  ·obtain ⟨b,hg⟩:∃ b,a.args[p.toNat]?=some b:=⟨_,List.getElem?_eq_getElem (by omega)⟩
   have q3:decide (0<=p∧p<=(a.args.length:Int) - 1)=true:=decide_eq_true hin
   have q5:(0<=p)=True:=eq_true hin.1
   rw [subAt_drop hp,if_neg (by omega),hg]
   (have F:=ai @q1 (ai @hp (ai @encInt_u (ai @q2 @tmz)));refine gG ?_;clear F)
   refine gB ?_
   (have F:=ai @q1 (ai @hp (ai @encInt_u (ai @q2 @tmz)));refine gC (con_l1InA p 0 _) ?_;clear F)
   (have F:=@q3;refine gR ?_;clear F)
   (have F:=ai @q1 (ai @hp (ai @encInt_u (ai @q2 (ai @tmz (ai @q3 (ai @q5 @hg))))));refine gG ?_;clear F)
   have hbb:bulkRow (encTm b)<=1048576:=Nat.le_trans (bulk_arg hg) ha
   (have F:=@q4;refine gG ?_;exact ⟨(i+1,b),⟨hlt,rfl,hbb⟩,gw,gw,by omega⟩)
  ·have q3:decide (0<=p∧p<=(a.args.length:Int) - 1)=false:=decide_eq_false hin
   rw [subAt_bad hp hin]
   (have F:=ai @q1 (ai @hp (ai @encInt_u (ai @q2 @tmz)));refine gG ?_;clear F)
   refine gB ?_
   (have F:=ai @q1 (ai @hp (ai @encInt_u (ai @q2 @tmz)));refine gC (con_l1InA p 0 _) ?_;clear F)
   (have F:=@q3;refine gR ?_;clear F)
   (have F:=ai @q1 (ai @hp (ai @encInt_u (ai @q2 (ai @tmz (ai @q3 @zTm_u)))));refine gG ?_;exact gTd)
 ·obtain rfl:i=ps.length:=by omega
  have q1:((ps.length:Int) < (ps.length:Int))=False:=eq_false (by omega)
  rw [List.drop_length,subAt]
  (have F:=ai @q1 @tmz;refine gG ?_;exact gTd)
end Go.Proofs.YtohilkmdjdfljaaGreat
namespace Go.Proofs.YtohilkmdjdfljaaGreat
open Go.RowKit
theorem okTms_iff {ts:List Tm}:okTms ts ↔ ∀ t∈ts,okTm t:=by
 induction ts with
 | nil=>simp [okTms]
 | cons t ts ih=>simp [okTms,ih]
theorem bulk_mk (op so:Int) (nm:ByteArray) (args:List Tm):bulkRow (encTm (.mk op nm so args))=nm.size+(args.length+bulkRows (encTms args)):=by
 simp only [encTm,bulkRow,bulkC,encTms_len];omega
section
variable {g:Sgn}
mutual
theorem bulk_form:∀ {t:Tm},FormOk g t->bulkRow (encTm t)+1<=13 * sizeTm t
 | .mk op nm so args,h=>by
  have h1:=bulks_form (FormOks_iff.2 (FormOk_iff.1 h).2.1)
  simp only [Tm.args] at h1
  rw [bulk_mk]
  simp only [sizeTm]
  rcases h.node with hv | ⟨o,d,hA⟩
  ·have h2:isName nm=true:=hv.2.1
   have h3:args=[]:=hv.2.2.2.2
   subst h3
   have h4:¬ 12 < nm.size:=fun h=>by rw [isName_bad (.inr (.inl h))] at h2;cases h2
   simp only [encTms,bulkRows,sizeTms,List.length_nil]
   omega
  ·have h2:nm=ByteArray.empty:=hA.nm
   subst h2
   have:ByteArray.empty.size=0:=rfl
   omega
theorem bulks_form:∀ {ts:List Tm},FormOks g ts->bulkRows (encTms ts)+ts.length<=13 * sizeTms ts
 | [],_=>by simp [encTms,bulkRows]
 | t::ts,h=>by
  simp only [FormOks] at h
  have h1:=bulk_form h.1
  have h2:=bulks_form h.2
  simp only [encTms,bulkRows,sizeTms,List.length_cons]
  omega
end
end
end Go.Proofs.YtohilkmdjdfljaaGreat
namespace Go.Proofs.YtohilkmdjdfljaaGreat
open Go.RowKit
def addL (i:Nat):Nat->List Oper->List Oper
 | _,[]=>[]
 | 0,o::l=>{ o with after:=o.after.push ⟨i,.data⟩ }::l
 | k+1,o::l=>o::addL i k l
theorem addL_get (i:Nat):∀ (k:Nat) (l:List Oper) (j:Nat),(addL i k l)[j]?=if j=k then l[j]?.map fun o=>{ o with after:=o.after.push ⟨i,.data⟩ } else l[j]?
 | k,[],j=>by simp [addL]
 | 0,o::l,0=>by simp [addL]
 | 0,o::l,j+1=>by simp [addL]
 | k+1,o::l,0=>by simp [addL]
 | k+1,o::l,j+1=>by simp [addL,addL_get i k l j]
theorem addL_len (i:Nat):∀ (k:Nat) (l:List Oper),(addL i k l).length=l.length
 | k,[]=>by simp [addL]
 | 0,o::l=>by simp [addL]
 | k+1,o::l=>by simp [addL,addL_len i k l]
theorem addL_dst (i:Nat):∀ (k:Nat) (l:List Oper),(addL i k l).map (·.dst)=l.map (·.dst)
 | k,[]=>by simp [addL]
 | 0,o::l=>by simp [addL]
 | k+1,o::l=>by simp [addL,addL_dst i k l]
section
variable {P:Program} {l:List Oper} {i k:Nat} {oi ok:Oper}
theorem wpOp_addL {Q:Exit->Act->World->Prop} {j:Nat} {K:Act->World->Prop} {a:Act} {w:World}:wpOp P (addL i k l).toArray Q j K a w ↔ wpOp P l.toArray Q j K a w:=by
 have hb:∀ g:Nat,((addL i k l)[g]?).bind (fun x=>x.dst)=(l[g]?).bind fun x=>x.dst:=fun g=>by
  rw [addL_get]
  by_cases h:g=k
  ·rw [if_pos h];cases l[g]? <;> rfl
  ·rw [if_neg h]
 have hy:yielded (addL i k l).toArray a.tmps=yielded l.toArray a.tmps:=by
  funext g
  unfold yielded
  simp only [List.getElem?_toArray,hb]
 unfold wpOp
 rw [hy]
 simp only [List.getElem?_toArray,addL_get]
 by_cases hjk:j=k
 ·rw [if_pos hjk]
  cases hj:l[j]? with
  | none=>exact Iff.rfl
  | some o=>exact Iff.rfl
 ·rw [if_neg hjk]
def apartL (ops:Array Oper) (i:Nat):Bool:=(List.range ops.size).all fun j=>j==i || match ops[i]?,ops[j]? with
 | some oi,some oj=>oi.after.any (fun e=>Region.binds .any e && e.on==j) || (oj.after.any (fun e=>Region.binds .any e && e.on==i) || oi.apart ops oj)
 | _,_=>true
def lateB (ops:Array Oper) (i k:Nat):Bool:=noSel ops && apartL ops i && i != k && match ops[i]?,ops[k]? with
 | some oi,some ok=>(match oi with
  | ⟨some _,.extract _ _,_,_,_,none⟩=>true
  | _=>false) && oi.after.all fun e=>!Region.binds .any e || ok.after.any fun e'=>Region.binds .any e' && e'.on==e.on
 | _,_=>false
theorem wpAny_late {Q:Exit->Act->World->Prop} (hQ:∀ ex a w,Q ex a w->ex=.normal) (hB:lateB l.toArray i k=true) :
  ∀ (f:Nat) (listed:Array Bool) (a:Act) (w:World),listed.size=l.length->wpAny P .any (addL i k l).toArray Q f listed a w->wpAny P .any l.toArray Q f listed a w:=by
 simp only [lateB,Bool.and_eq_true,bne_iff_ne,ne_eq] at hB
 obtain ⟨⟨⟨hsel,hap⟩,hik⟩,h4⟩:=hB
 split at h4
 rotate_left
 ·cases h4
 rename_i oi ok hoi hok
 simp only [Bool.and_eq_true] at h4
 obtain ⟨h5,h6⟩:=h4
 have hpre:∀ e∈oi.after,Region.binds .any e=true->∃ e'∈ok.after,Region.binds .any e'=true∧e'.on=e.on:=fun e he hb=>by
  have:=Array.all_eq_true_iff_forall_mem.1 h6 e he
  simp only [hb,Bool.not_true,Bool.false_or,Array.any_eq_true',Bool.and_eq_true,beq_iff_eq] at this
  obtain ⟨e',q1,q2,q3⟩:=this
  exact ⟨e',q1,q2,q3⟩
 have hrdy:∀ (listed:Array Bool) (j:Nat),j∈Region.ready .any (addL i k l).toArray listed ↔ j∈Region.ready .any l.toArray listed∧(j=k->listed.getD i false=true):=fun listed j=>by
  rw [mem_ready,mem_ready]
  simp only [List.getElem?_toArray,addL_get]
  by_cases hj:j=k
  ·subst hj
   simp only [if_true,true_implies]
   constructor
   ·rintro ⟨q1,o,q2,q3⟩
    cases hl:l[j]? with
    | none=>rw [hl] at q2;cases q2
    | some o' =>
     rw [hl] at q2
     injection q2 with q2
     subst q2
     exact ⟨⟨q1,o',rfl,fun e he hb=>q3 e (by simp [he]) hb⟩,q3 ⟨i,.data⟩ (by simp) rfl⟩
   ·rintro ⟨⟨q1,o,q2,q3⟩,q4⟩
    refine ⟨q1,_,by rw [q2];rfl,fun e he hb=>?_⟩
    rcases Array.mem_push.1 he with he | he
    ·exact q3 e he hb
    ·subst he;exact q4
  ·simp [hj]
 have hun:∀ (listed:Array Bool),listed.size=l.length->k∈Region.ready .any l.toArray listed->i∈Region.ready .any l.toArray listed∨listed.getD i false=true:=fun listed hs hk=>by
  by_cases h:listed.getD i false=true
  ·exact .inr h
  ·left
   rw [mem_ready] at hk ⊢
   obtain ⟨_,o,q2,q3⟩:=hk
   have:o=ok:=by rw [hok] at q2;injection q2 with q2;exact q2.symm
   subst this
   have hlt:i < l.length:=by have:=(Array.getElem?_eq_some_iff.1 hoi).1;simpa using this
   refine ⟨?_,oi,hoi,fun e he hb=>?_⟩
   ·have hl:i < listed.size:=by omega
    rw [getD_ftt hl]
    simpa using h
   ·obtain ⟨e',r1,r2,r3⟩:=hpre e he hb
    rw [<- r3]
    exact q3 e' r1 r2
 have hap':=hap
 intro f
 induction f with
 | zero =>
  intro listed a w hs h
  refine ⟨?_,h.2⟩
  by_cases hk:k∈Region.ready .any l.toArray listed
  ·rcases hun listed hs hk with h1 | h1
   ·have:=(hrdy listed i).2 ⟨h1,fun e=>absurd e hik⟩
    rw [h.1] at this
    cases this
   ·have:=(hrdy listed k).2 ⟨hk,fun _=>h1⟩
    rw [h.1] at this
    cases this
  ·refine List.eq_nil_iff_forall_not_mem.2 fun j hj=>?_
   have:=(hrdy listed j).2 ⟨hj,fun e=>absurd (e ▸ hj) hk⟩
   rw [h.1] at this
   cases this
 | succ f ih =>
  intro listed a w hs h
  by_cases hi:i∈Region.ready .any l.toArray listed
  ·have h1:=h.2 i ((hrdy listed i).2 ⟨hi,fun e=>absurd e hik⟩)
   rw [wpOp_addL] at h1
   have h1':∃ v,Yields P l.toArray oi v a∧wpAny P .any (addL i k l).toArray Q f (listed.setIfInBounds i true) (a.put oi.dst v) w:=by
    unfold wpOp at h1
    simp only [hoi] at h1
    split at h5
    rotate_left
    ·cases h5
    rename_i d x n ty pos af
    have hw:Region.wanted ⟨some d,.extract x n,ty,pos,af,none⟩ (yielded l.toArray a.tmps)=true:=by simp [Region.wanted]
    rw [if_pos hw] at h1
    rcases h1 with h1 | ⟨_,b,w',h1⟩
    rotate_left
    ·have:=hQ _ _ _ h1;cases this
    unfold Oper.wp at h1
    cases hx:a.eval x with
    | tuple vs =>
     cases hv:vs[n]? with
     | some v =>
      have hrun:∀ w',(execOp a.eval ⟨some d,.extract x n,ty,pos,af,none⟩).run P w'=.ok (.value v) w':=fun w'=>by
       simp [execOp,Instr.extract,hx,hv]
      rw [hrun,Oper.upon_value] at h1
      exact ⟨v,.inl ⟨hw,hrun⟩,h1⟩
     | none =>
      simp [execOp,Instr.extract,hx,hv,stuck,Oper.upon] at h1
    | _=>simp [execOp,Instr.extract,hx,stuck,Oper.upon] at h1
   obtain ⟨v,hv,h2⟩:=h1'
   refine wpAny_first (oi:=oi) (v:=v) hoi (fun j oj cs b hj hsl=>?_) (fun c a w hq=>?_) f listed a w (fun j oj hj hne hl hno=>?_) hi hv (ih _ _ _ (by simpa using hs) h2)
   ·have:=List.all_eq_true.1 hsel oj (List.mem_of_getElem? (by simpa using hj))
    rw [hsl] at this
    cases this
   ·have:=hQ _ _ _ hq;cases this
   ·have hjs:=(Array.getElem?_eq_some_iff.1 hj).1
    have:=List.all_eq_true.1 hap j (List.mem_range.2 hjs)
    simp only [hoi,hj,Bool.or_eq_true,beq_iff_eq,List.any_eq_true,Array.any_eq_true',Bool.and_eq_true] at this
    rcases this with h1 | h1 | h1 | h1
    ·exact absurd h1 hne
    ·obtain ⟨ed,h2,h3,h4⟩:=h1
     obtain ⟨_,o,q2,q3⟩:=mem_ready.1 hi
     rw [hoi] at q2
     injection q2 with q2
     subst q2
     have q4:=q3 ed h2 h3
     rw [h4,<- getD_ftt (by simpa [hs] using hjs)] at q4
     rw [hl] at q4
     cases q4
    ·obtain ⟨ed,h2,h3,h4⟩:=h1
     exact absurd h4 (hno ed h2 h3)
    ·exact h1
  ·refine ⟨fun h0=>h.1 ?_,fun j hj=>?_⟩
   ·refine List.eq_nil_iff_forall_not_mem.2 fun j hj=>?_
    have:=((hrdy listed j).1 hj).1
    rw [h0] at this
    cases this
   ·have hj':j∈Region.ready .any (addL i k l).toArray listed:=(hrdy listed j).2 ⟨hj,fun e=>by
     subst e
     rcases hun listed hs hj with h1 | h1
     ·exact absurd h1 hi
     ·exact h1⟩
    have h1:=h.2 j hj'
    rw [wpOp_addL] at h1
    exact wpOp_mono (fun a w h=>ih _ a w (by simpa using hs) h) h1
end
section
variable {e:Env} {K:St->Prop} {mask:Nat} {Q:PX->St->Prop} {s:List (Nat × A)} {m:List (Nat × Bk)}
theorem anyOk_late {l:List Oper} {i k:Nat} {σ:St} (hB:lateB l.toArray i k=true) (h:AnyOk e (addL i k l).toArray K l.length (Array.replicate l.length false) σ):AnyOk e l.toArray K l.length (Array.replicate l.length false) σ:=by
 intro he U w0 S0 nt a w hd hs
 refine wpAny_late (fun ex a w hq=>hq.1) hB _ _ _ _ (by simp) (h he U w0 S0 nt a w (fun o ho d hdd=>?_) hs)
 have:some d∈(addL i k l).map (·.dst):=List.mem_map.2 ⟨o,by simpa using ho,hdd⟩
 rw [addL_dst] at this
 obtain ⟨o',h1,h2⟩:=List.mem_map.1 this
 exact hd o' (by simpa using h1) d h2
theorem anyOk_drawA {l:List Oper} {p:Nat} {σ:St} (hAl:isAllocB l.toArray p=true) (hB:regB l.toArray (p+1)=true) (hp:Runs e (l.map (·.dst)) (p+1) l σ K):AnyOk e l.toArray K l.length (Array.replicate l.length false) σ:=by
 intro he U w0 S0 nt a w hd hs
 have:=region_drawA_any (ops:=l.toArray) he hAl hB (K:=K) (Q:=QN e U w0 S0 nt K) (fun a w σ' hK hs'=>⟨rfl,σ',hK,hs'⟩) hd hs (by simpa using hp)
 simpa using this
theorem gLt {id:Nat} {l l':List Oper} {ds:List (Option Nat)} (p i k:Nat) (hK:Runs e ds (p+1) l' ⟨s,m⟩ (TrimK mask Q)) (hl:addL i k l=l':=by simp only [addL];exact rfl) (hds:l'.map (·.dst)=ds:=by simp only [List.map_cons,List.map_nil];exact rfl) (hc:lateB l.toArray i k=true:=by decide +kernel) (hA:isAllocB l'.toArray p=true:=by decide +kernel) (hr:regB l'.toArray (p+1)=true:=by decide +kernel):pwp e mask (.region id l.toArray true) ⟨s,m⟩ Q:=by
 subst hl hds
 have h1:=anyOk_late hc (by have:=anyOk_drawA hA hr hK;rwa [addL_len] at this)
 exact pwp_anyOk (ops:=l.toArray) (by simpa using h1)
end
end Go.Proofs.YtohilkmdjdfljaaGreat
namespace Go.Proofs.YtohilkmdjdfljaaGreat
open Go.RowKit
def preOf (ops:Array Oper) (ok:Oper):List Nat:=(ok.after.toList.filter fun e=>Region.binds .any e).flatMap fun e=>e.on::match ops[e.on]? with
 | some o=>(o.after.toList.filter fun e=>Region.binds .any e).map (·.on)
 | none=>[]
def lateP (ops:Array Oper) (i k:Nat):Bool:=noSel ops && apartL ops i && i != k && match ops[i]?,ops[k]? with
 | some oi,some ok=>(match oi with
  | ⟨some _,.pick _ _ _,_,_,_,none⟩=>true
  | _=>false) && oi.after.all fun e=>!Region.binds .any e || (preOf ops ok).contains e.on
 | _,_=>false
section
variable {P:Program} {l:List Oper} {i k:Nat}
def ClosedL (l:List Oper) (listed:Array Bool):Prop:=∀ (j:Nat) o,listed.getD j false=true->l[j]?=some o->∀ e∈o.after,Region.binds .any e=true->listed.getD e.on false=true
theorem ClosedL.put {listed:Array Bool} {j:Nat} (hc:ClosedL l listed) (hj:j∈Region.ready .any l.toArray listed):ClosedL l (listed.setIfInBounds j true):=by
 intro q o hq ho e he hb
 obtain ⟨_,o',h2,h3⟩:=mem_ready.1 hj
 have hmono:∀ t,listed.getD t false=true->(listed.setIfInBounds j true).getD t false=true:=fun t ht=>by
  by_cases htj:t=j
  ·subst htj
   simp only [Array.getD_eq_getD_getElem?,Array.getElem?_setIfInBounds] at ht ⊢
   cases hl:listed[t]? with
   | none=>rw [hl] at ht;cases ht
   | some b =>
    have:t < listed.size:=(Array.getElem?_eq_some_iff.1 hl).1
    simp [this]
  ·rw [getD_set_ne false (Ne.symm htj)];exact ht
 by_cases hqj:q=j
 ·subst hqj
  have:o'=o:=by
   rw [List.getElem?_toArray,ho] at h2
   injection h2 with h2
   exact h2.symm
  subst this
  exact hmono _ (h3 e he hb)
 ·rw [getD_set_ne false (Ne.symm hqj)] at hq
  exact hmono _ (hc q o hq ho e he hb)
theorem wpAny_lateP {Q:Exit->Act->World->Prop} (hQ:∀ ex a w,Q ex a w->ex=.normal) (hB:lateP l.toArray i k=true) :
  ∀ (f:Nat) (listed:Array Bool) (a:Act) (w:World),listed.size=l.length->ClosedL l listed->wpAny P .any (addL i k l).toArray Q f listed a w->wpAny P .any l.toArray Q f listed a w:=by
 simp only [lateP,Bool.and_eq_true,bne_iff_ne,ne_eq] at hB
 obtain ⟨⟨⟨hsel,hap⟩,hik⟩,h4⟩:=hB
 split at h4
 rotate_left
 ·cases h4
 rename_i oi ok hoi hok
 simp only [Bool.and_eq_true] at h4
 obtain ⟨h5,h6⟩:=h4
 have hrdy:∀ (listed:Array Bool) (j:Nat),j∈Region.ready .any (addL i k l).toArray listed ↔ j∈Region.ready .any l.toArray listed∧(j=k->listed.getD i false=true):=fun listed j=>by
  rw [mem_ready,mem_ready]
  simp only [List.getElem?_toArray,addL_get]
  by_cases hj:j=k
  ·subst hj
   simp only [if_true,true_implies]
   constructor
   ·rintro ⟨q1,o,q2,q3⟩
    cases hl:l[j]? with
    | none=>rw [hl] at q2;cases q2
    | some o' =>
     rw [hl] at q2
     injection q2 with q2
     subst q2
     exact ⟨⟨q1,o',rfl,fun e he hb=>q3 e (by simp [he]) hb⟩,q3 ⟨i,.data⟩ (by simp) rfl⟩
   ·rintro ⟨⟨q1,o,q2,q3⟩,q4⟩
    refine ⟨q1,_,by rw [q2];rfl,fun e he hb=>?_⟩
    rcases Array.mem_push.1 he with he | he
    ·exact q3 e he hb
    ·subst he;exact q4
  ·simp [hj]
 have hun:∀ (listed:Array Bool),listed.size=l.length->ClosedL l listed->k∈Region.ready .any l.toArray listed->i∈Region.ready .any l.toArray listed∨listed.getD i false=true:=fun listed hs hcl hk=>by
  by_cases h:listed.getD i false=true
  ·exact .inr h
  ·left
   rw [mem_ready] at hk ⊢
   obtain ⟨_,o,q2,q3⟩:=hk
   have:o=ok:=by rw [hok] at q2;injection q2 with q2;exact q2.symm
   subst this
   have hlt:i < l.length:=by have:=(Array.getElem?_eq_some_iff.1 hoi).1;simpa using this
   refine ⟨?_,oi,hoi,fun e he hb=>?_⟩
   ·have hl:i < listed.size:=by omega
    rw [getD_ftt hl]
    simpa using h
   ·have:=Array.all_eq_true_iff_forall_mem.1 h6 e he
    simp only [hb,Bool.not_true,Bool.false_or,List.contains_eq_mem,decide_eq_true_eq,preOf,List.mem_flatMap,List.mem_filter,List.mem_cons] at this
    obtain ⟨e',⟨r1,r2⟩,r3⟩:=this
    have hl':=q3 e' (Array.mem_toList_iff.1 r1) r2
    rcases r3 with r3 | r3
    ·rw [r3];exact hl'
    ·cases ho':l.toArray[e'.on]? with
     | none=>rw [ho'] at r3;simp at r3
     | some o' =>
      rw [ho'] at r3
      simp only [List.mem_map,List.mem_filter] at r3
      obtain ⟨e2,⟨r4,r5⟩,r6⟩:=r3
      rw [<- r6]
      exact hcl e'.on o' hl' (by simpa using ho') e2 (Array.mem_toList_iff.1 r4) r5
 intro f
 induction f with
 | zero =>
  intro listed a w hs hcl h
  refine ⟨?_,h.2⟩
  by_cases hk:k∈Region.ready .any l.toArray listed
  ·rcases hun listed hs hcl hk with h1 | h1
   ·have:=(hrdy listed i).2 ⟨h1,fun e=>absurd e hik⟩
    rw [h.1] at this
    cases this
   ·have:=(hrdy listed k).2 ⟨hk,fun _=>h1⟩
    rw [h.1] at this
    cases this
  ·refine List.eq_nil_iff_forall_not_mem.2 fun j hj=>?_
   have:=(hrdy listed j).2 ⟨hj,fun e=>absurd (e ▸ hj) hk⟩
   rw [h.1] at this
   cases this
 | succ f ih =>
  intro listed a w hs hcl h
  by_cases hi:i∈Region.ready .any l.toArray listed
  ·have h1:=h.2 i ((hrdy listed i).2 ⟨hi,fun e=>absurd e hik⟩)
   rw [wpOp_addL] at h1
   have h1':∃ v,Yields P l.toArray oi v a∧wpAny P .any (addL i k l).toArray Q f (listed.setIfInBounds i true) (a.put oi.dst v) w:=by
    unfold wpOp at h1
    simp only [hoi] at h1
    split at h5
    rotate_left
    ·cases h5
    rename_i d x y z ty pos af
    have hw:Region.wanted ⟨some d,.pick x y z,ty,pos,af,none⟩ (yielded l.toArray a.tmps)=true:=by simp [Region.wanted]
    rw [if_pos hw] at h1
    rcases h1 with h1 | ⟨_,b,w',h1⟩
    rotate_left
    ·have:=hQ _ _ _ h1;cases this
    unfold Oper.wp at h1
    cases hx:a.eval x with
    | bool b =>
     have hrun:∀ w',(execOp a.eval ⟨some d,.pick x y z,ty,pos,af,none⟩).run P w'=.ok (.value (if b then a.eval y else a.eval z)) w':=fun w'=>by
      cases b <;> simp [execOp,hx,asBool]
     rw [hrun,Oper.upon_value] at h1
     exact ⟨_,.inl ⟨hw,hrun⟩,h1⟩
    | _=>simp [execOp,hx,asBool,stuck,Oper.upon,Result.andThen] at h1
   obtain ⟨v,hv,h2⟩:=h1'
   refine wpAny_first (oi:=oi) (v:=v) hoi (fun j oj cs b hj hsl=>?_) (fun c a w hq=>?_) f listed a w (fun j oj hj hne hl hno=>?_) hi hv (ih _ _ _ (by simpa using hs) (hcl.put hi) h2)
   ·have:=List.all_eq_true.1 hsel oj (List.mem_of_getElem? (by simpa using hj))
    rw [hsl] at this
    cases this
   ·have:=hQ _ _ _ hq;cases this
   ·have hjs:=(Array.getElem?_eq_some_iff.1 hj).1
    have:=List.all_eq_true.1 hap j (List.mem_range.2 hjs)
    simp only [hoi,hj,Bool.or_eq_true,beq_iff_eq,List.any_eq_true,Array.any_eq_true',Bool.and_eq_true] at this
    rcases this with h1 | h1 | h1 | h1
    ·exact absurd h1 hne
    ·obtain ⟨ed,h2,h3,h4⟩:=h1
     obtain ⟨_,o,q2,q3⟩:=mem_ready.1 hi
     rw [hoi] at q2
     injection q2 with q2
     subst q2
     have q4:=q3 ed h2 h3
     rw [h4,<- getD_ftt (by simpa [hs] using hjs)] at q4
     rw [hl] at q4
     cases q4
    ·obtain ⟨ed,h2,h3,h4⟩:=h1
     exact absurd h4 (hno ed h2 h3)
    ·exact h1
  ·refine ⟨fun h0=>h.1 ?_,fun j hj=>?_⟩
   ·refine List.eq_nil_iff_forall_not_mem.2 fun j hj=>?_
    have:=((hrdy listed j).1 hj).1
    rw [h0] at this
    cases this
   ·have hj':j∈Region.ready .any (addL i k l).toArray listed:=(hrdy listed j).2 ⟨hj,fun e=>by
     subst e
     rcases hun listed hs hcl hj with h1 | h1
     ·exact absurd h1 hi
     ·exact h1⟩
    have h1:=h.2 j hj'
    rw [wpOp_addL] at h1
    exact wpOp_mono (fun a w h=>ih _ a w (by simpa using hs) (hcl.put hj) h) h1
end
section
variable {e:Env} {K:St->Prop} {mask:Nat} {Q:PX->St->Prop} {s:List (Nat × A)} {m:List (Nat × Bk)}
theorem anyOk_lateP {l:List Oper} {i k:Nat} {σ:St} (hB:lateP l.toArray i k=true) (h:AnyOk e (addL i k l).toArray K l.length (Array.replicate l.length false) σ):AnyOk e l.toArray K l.length (Array.replicate l.length false) σ:=by
 intro he U w0 S0 nt a w hd hs
 refine wpAny_lateP (fun ex a w hq=>hq.1) hB _ _ _ _ (by simp) (fun j o hj=>by rw [getD_replicate_false] at hj;cases hj) (h he U w0 S0 nt a w (fun o ho d hdd=>?_) hs)
 have:some d∈(addL i k l).map (·.dst):=List.mem_map.2 ⟨o,by simpa using ho,hdd⟩
 rw [addL_dst] at this
 obtain ⟨o',h1,h2⟩:=List.mem_map.1 this
 exact hd o' (by simpa using h1) d h2
theorem region_draw_any (he:e.Ok) {U:Nat->Prop} {w0:World} {S0:Nat->Prop} {nt:Nat} {ops:Array Oper} {n:Nat} (hB:regB ops n=true) (hna:∀ o,(ops.toList.take n).getLast?=some o->isAl o=false) {Q:Exit->Act->World->Prop} (hQ:∀ a w σ',K σ'->SimE e U w0 S0 nt σ' a w->Q .normal a w) {σ:St} {a:Act} {w:World}
  (hd:∀ o∈ops.toList,∀ d,o.dst=some d->d < nt) (h:SimE e U w0 S0 nt σ a w) (hp:Runs e (ops.toList.map (·.dst)) n ops.toList σ K):wpAny e.P .any ops Q ops.size (Array.replicate ops.size false) a w:=by
 simp only [regB,Bool.and_eq_true,Bool.or_eq_true,decide_eq_true_eq] at hB
 obtain ⟨⟨⟨hH,hn⟩,hs⟩,hsq⟩:=hB
 obtain ⟨S,L,h1⟩:=h
 have hsplit:ops.toList=ops.toList.take n++ops.toList.drop n:=(List.take_append_drop n _).symm
 have hlen:(ops.toList.take n).length=n:=by simp;omega
 have hp':Runs e (ops.toList.map (·.dst)) ((ops.toList.take n).length+0) (ops.toList.take n++ops.toList.drop n) σ K:=by rw [<- hsplit,hlen];exact hp
 obtain ⟨αs,hal,hch,hrest⟩:=runs_chain (U:=U) he w0.heap.size S0 ops.toList (ops.toList.drop n) 0 (ops.toList.take n) σ (fun _=>hna) hp'
 rw [hlen] at hal
 have inv0:InvA e U w0 S0 nt σ.m ops n σ.s αs L (Array.replicate ops.size false) a w S :=
  ⟨⟨by simp,fun j oj _ hl=>(by rw [getD_replicate_false] at hl;cases hl),fun t _ ht=>getD_in (by simpa using ht) (getD_replicate_false _ _)⟩,h1.size,h1.defers,h1.cls,h1.kept,fun t _=>h1.rel t,fun i o d α _ hl=>(by rw [getD_replicate_false] at hl;cases hl)⟩
 have H:=wpAny_headA (e:=e) (L:=L) (Q:=Q) he hH hn (fun hlt=>by
   rcases hs with hs | hs
   ·omega
   ·exact hs) hsq (fun i o d hi ho hdd=>hd o (List.mem_iff_getElem?.2 ⟨i,by simpa using ho⟩) d hdd) hal hch (goStep_true hH Q) (fun _ _ _ _ _ _ _ _ _ _ _ _ _ _=>trivial) (fun listed a' w' S' hI _ hall=>?_) n _ a _ S inv0 trivial ?_
 ·rw [show n+(ops.size - n)=ops.size by omega] at H
  exact H
 ·have hsim:SimE e U w0 S0 nt ⟨after σ.s (ops.toList.take n) αs,σ.m⟩ a' w':=by
   refine ⟨S',L,hI.cls,fun t=>?_,hI.size,hI.defers,hI.kept⟩
   by_cases hex:∃ (j:Nat) (p:Oper),j < n∧ops[j]?=some p∧p.dst=some t
   ·obtain ⟨j,p,hj,hp,hpt⟩:=hex
    obtain ⟨p',d',hP⟩:=headB.get hH hj
    have hpp:p'=p:=by have:=hP.op;rw [hp] at this;injection this with this;exact this.symm
    subst hpp
    have hdt:d'=t:=by have:=hP.dst;rw [hpt] at this;injection this with this;exact this.symm
    subst hdt
    obtain ⟨α,hα⟩:∃ α,αs[j]?=some α:=⟨αs[j],List.getElem?_eq_getElem (by omega)⟩
    show ARel w' S' L (gs (after σ.s (ops.toList.take n) αs) d') _
    rw [gs_after_in (ops.toList.take n) αs σ.s j p' α (by rw [List.getElem?_take,if_pos hj];simpa using hp) hα hpt (fun k q hk hq=>by
     rw [List.getElem?_take] at hq
     split at hq
     ·exact (hP.dep k q (by omega) (by simpa using hq)).1 hk
     ·cases hq)]
    exact hI.done j p' d' α hj (hall j hj) hp hpt hα
   ·have hno:∀ (j:Nat) (p:Oper),j < n->ops[j]?=some p->p.dst≠some t:=fun j p hj hp hd=>hex ⟨j,p,hj,hp,hd⟩
    show ARel w' S' L (gs (after σ.s (ops.toList.take n) αs) t) _
    rw [gs_after_out _ _ _ (fun p hp=>by
     obtain ⟨j,hj⟩:=List.mem_iff_getElem?.1 hp
     rw [List.getElem?_take] at hj
     split at hj
     ·exact hno j p (by omega) (by simpa using hj)
     ·cases hj)]
    exact hI.out t hno
  have:=Runs_wp he ops.toList hQ (ops.toList.drop n) _ a' w' (fun o ho=>hd o (List.mem_of_mem_drop ho)) hsim hrest
  simpa using this
 ·rw [List.countP_eq_length.2]
  ·simp
  ·intro i hi
   have hi':=List.mem_range.1 hi
   have hsz:i < (Array.replicate ops.size false).size:=by simp;omega
   rw [getD_ftt hsz,getD_replicate_false]
   rfl
theorem anyOk_draw {l:List Oper} {n:Nat} {σ:St} (hB:regB l.toArray n=true) (hna:∀ o,(l.take n).getLast?=some o->isAl o=false) (hp:Runs e (l.map (·.dst)) n l σ K):AnyOk e l.toArray K l.length (Array.replicate l.length false) σ:=by
 intro he U w0 S0 nt a w hd hs
 have:=region_draw_any (ops:=l.toArray) (n:=n) he hB (by simpa using hna) (K:=K) (Q:=QN e U w0 S0 nt K) (fun a w σ' hK hs'=>⟨rfl,σ',hK,hs'⟩) hd hs (by simpa using hp)
 simpa using this
def lastAl (l:List Oper) (n:Nat):Bool:=match (l.take n).getLast? with
 | some o=>!isAl o
 | none=>true
theorem gLp {id:Nat} {l l':List Oper} {ds:List (Option Nat)} (n i k:Nat) (hK:Runs e ds n l' ⟨s,m⟩ (TrimK mask Q)) (hl:addL i k l=l':=by simp only [addL];exact rfl) (hds:l'.map (·.dst)=ds:=by simp only [List.map_cons,List.map_nil];exact rfl) (hc:lateP l.toArray i k=true:=by decide +kernel) (hA:lastAl l' n=true:=by decide +kernel) (hr:regB l'.toArray n=true:=by decide +kernel):pwp e mask (.region id l.toArray true) ⟨s,m⟩ Q:=by
 subst hl hds
 have h1:=anyOk_lateP hc (by have:=anyOk_draw hr (fun o ho=>by unfold lastAl at hA;rw [ho] at hA;simpa using hA) hK;rwa [addL_len] at this)
 exact pwp_anyOk (ops:=l.toArray) (by simpa using h1)
end
end Go.Proofs.YtohilkmdjdfljaaGreat
namespace Go.Proofs.YtohilkmdjdfljaaGreat
open Go.RowKit
open Classical in
noncomputable def mk6 (g:Sgn) (o:Opr) (d:Dcl) (op:Int) (xs:List Tm):Tm:=(mkO g o d op xs).getD (if ¬ ArB o d xs.length∧∀ (i:Nat) a,xs[i]?=some a->KArg g o d i a then appT op (srtO o (flArgs o op xs)) else zTm)
theorem fl_forms {g:Sgn} {o:Opr} {op:Int} {xs:List Tm} (h:∀ a∈xs,TermOk g a):∀ b∈flArgs o op xs,FormOk g b:=by
 intro b hb
 obtain ⟨a,h1,h2⟩:=List.mem_flatMap.1 hb
 have hf:=(h a h1).form
 unfold flArg at h2
 split at h2
 ·exact (FormOk_iff.1 hf).2.1 b h2
 ·split at h2
  ·cases h2
  ·rw [List.mem_singleton.1 h2];exact hf
theorem sizes_app:∀ (l m:List Tm),sizeTms (l++m)=sizeTms l+sizeTms m
 | [],m=>by simp [sizeTms]
 | x::l,m=>by simp only [List.cons_append,sizeTms,sizes_app l m];omega
theorem fl_sizes {g:Sgn} {o:Opr} {op:Int}:∀ {xs:List Tm},(∀ a∈xs,TermOk g a)->sizeTms (flArgs o op xs)<=60 * xs.length
 | [],_=>by simp [flArgs,sizeTms]
 | a::xs,h=>by
  have ih:=fl_sizes (o:=o) (op:=op) (xs:=xs) fun x hx=>h x (List.mem_cons_of_mem _ hx)
  have ha:=(h a List.mem_cons_self).size
  have e:flArgs o op (a::xs)=flArg o op a++flArgs o op xs:=rfl
  have hz:=sizeTm_eq a
  have hf:sizeTms (flArg o op a)<=sizeTm a:=by
   unfold flArg
   split
   ·omega
   ·split
    ·simp [sizeTms]
    ·simp [sizeTms]
  rw [e,sizes_app,List.length_cons]
  omega
theorem fl_tmsB {g:Sgn} {o:Opr} {op:Int} {xs:List Tm} (h:∀ a∈xs,TermOk g a) (hl:xs.length<=1000):tmsB (flArgs o op xs):=by
 have h1:=bulks_form (FormOks_iff.2 (fl_forms (o:=o) (op:=op) h))
 have h2:=fl_sizes (o:=o) (op:=op) h
 unfold tmsB
 omega
theorem bulks_perm {l m:List Tm} (h:l.Perm m):bulkRows (encTms l)=bulkRows (encTms m):=by
 induction h with
 | nil=>rfl
 | cons x h ih=>simp only [encTms,bulkRows,ih]
 | swap x y l=>simp only [encTms,bulkRows];omega
 | trans h1 h2 a b=>rw [a,b]
section
variable {g:Sgn}
open Classical in
set_option maxHeartbeats 32000000 in
set_option maxRecDepth 100000 in
theorem con_l6Make (hokg:okSgn g) (hg:SgnOk g) {op:Int} {o:Opr} {d:Dcl} (h0:0<=op) (ho:g.ops[op.toNat]?=some o) (hd:o.decls[0]?=some d) (xs:List Tm) (ha:∀ a∈xs,TermOk g a) (hl:xs.length<=1000):Con e0 143 [.agg (encSgn g),.one (.lit (.int .i64 op)),.one (.sl (encTms xs))] [.agg (encTm (mk6 g o d op xs)),.one (.lit (.bool (mkO g o d op xs).isSome))]:=by
 have hz:=zTm_u
 have hfb:=fl_tmsB (o:=o) (op:=op) ha hl
 have hfo:okTms (flArgs o op xs):=okTms_iff.2 fun b hb=>FormOk.ok hg _ b (Nat.lt_succ_self _) (fl_forms ha b hb)
 have hfs:=fl_sizes (o:=o) (op:=op) ha
 have hax:=hg.axs o (List.mem_of_getElem? ho)
 have hlo:=hax.lo
 have hhi:=hax.hi
 have hln:=hg.len
 obtain ⟨d',hd',hr0,hr1,hargs⟩:=hg.first ho
 rw [hd] at hd'
 injection hd' with hd'
 subst hd'
 have cK:=con_l3Kinds hg.sorts
 rw [encSrt] at cK
 have cUn:=con_l6Unit hg h0 ho
 rw [encSgn] at cUn
 have cA:=con_l4Arity hd
 rw [encOpr] at cA
 have hB:mkO g o d op xs=if ArB o d xs.length then none else if ∀ (i:Nat) a,xs[i]?=some a->KArg g o d i a then mkL o op (flArgs o op xs) else none:=rfl
 have hM:mk6 g o d op xs=(mkO g o d op xs).getD (if ¬ ArB o d xs.length∧∀ (i:Nat) a,xs[i]?=some a->KArg g o d i a then appT op (srtO o (flArgs o op xs)) else zTm):=rfl
 have har2:o.assoc=true->d.args.length=2:=fun h=>by
  obtain ⟨k1,k2,hk,_⟩:=Opr.two hg ho hd (.inl h)
  rw [hk];rfl
 refine gI (ts:=[.cell 6 41,.slot 7]) 691281634562849416457226259614436229071 Tryz.func143 ?_
 (have F:=ai @tmz (ai @encSgn_u (ai @h0 (ai @ho @encOpr_u)));have NN:StopAt 2:=trivial;refine gGn ?_;clear F NN)
 refine gB ?_
 (have F:=@tmz;refine gC (cK) ?_;clear F)
 (have F:=@tmz;refine gR ?_;clear F)
 (have F:=@tmz;have NN:StopAt 3:=trivial;refine gGn ?_;clear F NN)
 refine gM (ι:=Bool) [38] [] (fun b=>[(38,A.d (.one (.lit (.bool b))))]) (fun b=>[]) (fun b=>b=decide (ArB o d xs.length)) ?_ (fun b hb=>Exists.intro _ (ai (Wk.refl _) ?_))
 ·refine gB ?_
  (have F:=ai @tmz @encOpr_u;refine gC (cA) ?_;clear F)
  by_cases q:xs.length=d.args.length
  ·have q1:((xs.length:Int)=(d.args.length:Int))=True:=eq_true (by omega)
   have hA:¬ ArB o d xs.length:=fun h=>h.elim (fun h=>by have:=har2 h.1;omega) fun h=>h.2 q
   (have F:=ai @q1 @tmz;refine gR ?_;clear F)
   (have F:=@tmz;refine gG ?_;exact ⟨false,(decide_eq_false hA).symm,gw,gw⟩)
  have q1:((xs.length:Int)=(d.args.length:Int))=False:=eq_false (by omega)
  cases hac:o.assoc with
  | false =>
   have hA:ArB o d xs.length:=.inr ⟨hac,q⟩
   (have F:=ai @q1 (ai @hac @tmz);refine gR ?_;clear F)
   (have F:=@tmz;refine gG ?_;exact ⟨true,(decide_eq_true hA).symm,gw,gw⟩)
  | true =>
  by_cases q2:xs.length < 2
  ·have hA:ArB o d xs.length:=.inl ⟨hac,q2⟩
   have q3:((2:Int)<=(xs.length:Int))=False:=eq_false (by omega)
   (have F:=ai @q1 (ai @hac (ai @q3 @tmz));refine gR ?_;clear F)
   (have F:=@tmz;refine gG ?_;exact ⟨true,(decide_eq_true hA).symm,gw,gw⟩)
  ·have hA:¬ ArB o d xs.length:=fun h=>h.elim (fun h=>q2 h.2) fun h=>by rw [hac] at h;cases h.1
   have q3:((2:Int)<=(xs.length:Int))=True:=eq_true (by omega)
   (have F:=ai @q1 (ai @hac (ai @q3 @tmz));refine gR ?_;clear F)
   (have F:=@tmz;refine gG ?_;exact ⟨false,(decide_eq_false hA).symm,gw,gw⟩)
 by_cases hAr:ArB o d xs.length
 ·rw [decide_eq_true hAr] at hb
  subst hb
  rw [if_pos hAr] at hB
  rw [hB,if_neg fun h=>h.1 hAr] at hM
  rw [hM,hB]
  (have F:=ai @hz @tmz;refine gG ?_;exact gTd)
 rw [decide_eq_false hAr] at hb
 subst hb
 rw [if_neg hAr] at hB
 have hnas:o.assoc=false->xs.length=d.args.length:=fun h=>Classical.byContradiction fun c=>hAr (.inr ⟨h,c⟩)
 have hfl0:flArgs o op []=[]:=rfl
 (have F:=@tmz;have NN:StopAt 5:=trivial;refine gGn ?_;clear F NN)
 refine gB ?_
 (have F:=@tmz;refine gC (cUn) ?_;clear F)
 (have F:=@tmz;refine gR ?_;clear F)
 (have F:=@tmz;refine gG ?_;clear F)
 (have F:=ai @hfl0 (ai @encTms_nil @tmz);refine gL (ι:=Nat) [7,12,13,14,50,55,73,82,92] [12] (fun i=>[(13,A.d (.one (.lit (.int .i64 i)))),(12,.buf 12)]) (fun i=>[(12,.buf none 41 4 (encTms (flArgs o op (xs.take i))))]) (fun i=>i<=xs.length∧∀ (j:Nat) a,j < i->xs[j]?=some a->KArg g o d j a) (fun i=>xs.length - i) (0) (⟨Nat.zero_le _,fun j a h=>absurd h (by omega)⟩) (fun i hi=>?_);clear F)
 obtain ⟨hi,hall⟩:=hi
 by_cases hlt:i < xs.length
 ·obtain ⟨a,hai⟩:∃ a,xs[i]?=some a:=⟨_,List.getElem?_eq_getElem hlt⟩
  have hT:=ha a (List.mem_of_getElem? hai)
  have q1:((i:Int) < (xs.length:Int))=True:=eq_true (by omega)
  have hw1:=wrap1 (k:=i) (by omega)
  obtain ⟨k,hk⟩:=argAt_get hg ho hd hnas hlt
  obtain ⟨hk0,hk1⟩:=hargs k (List.mem_of_getElem? hk)
  have hkd:=kd_get hg.sorts hk0 hk1
  have hkN:d.args[(argAt o i:Nat)]?=some k:=hk
  have cKa:=con_l6Kind hokg hg hT.form.node
  rw [encSgn] at cKa
  have cU:=con_l5Same (hT.ok hg) (okTm_unit (o:=o) hlo (by omega))
  have hUiff:o.unit≠0->(cmpTm a (unitTm o)=0 ↔ a.op=o.unit - 1):=fun hu=>by
   rw [cmpTm_iff]
   constructor
   ·rintro h;rw [h];simp [unitTm,Tm.op,hu]
   ·exact unit_form hg ho hu hT.form
  generalize hU:decide (cmpTm a (unitTm o)=0)=U at cU
  have hst:=flArgs_snoc (o:=o) (op:=op) hai
  have hle:=flArgs_len_take o op xs (i+1)
  rw [hst,List.length_append] at hle
  have hfl:=sizeTms_len (flArgs o op xs)
  have hnext:kindTm g a=((kd g.sorts k:Nat):Int)->i+1<=xs.length∧∀ (j:Nat) a,j < i+1->xs[j]?=some a->KArg g o d j a:=fun hkk=>⟨hlt,fun j a' hj ha'=>by
   by_cases e:j=i
   ·subst e
    rw [hai] at ha'
    injection ha' with ha'
    subst ha'
    exact ⟨k,hk,hkk⟩
   ·exact hall j a' (by omega) ha'⟩
  (have F:=ai @q1 @tmz;refine gG ?_;clear F)
  refine gM (ι:=Unit) [14] [] (fun u=>[(14,A.d (.one (.lit (.int .i64 (argAt o i:Nat)))))]) (fun u=>[]) (fun u=>True) ?_ (fun u hu=>Exists.intro _ (ai (Wk.refl _) ?_))
  ·rcases Bool.eq_false_or_eq_true o.assoc with hac | hac
   ·(have F:=ai @encOpr_u (ai @hac @argAt_u);refine gG ?_;exact ⟨(),trivial,gw,gw⟩)
   ·(have F:=ai @encOpr_u (ai @hac (ai @argAt_u @if_false.{1}));refine gG ?_;exact ⟨(),trivial,gw,gw⟩)
  (have F:=@tmz;have NN:StopAt 13:=trivial;refine gGn ?_;clear F NN)
  refine gB ?_
  (have F:=ai @hai @tmz;refine gC (cKa) ?_;clear F)
  by_cases hkk:kindTm g a=((kd g.sorts k:Nat):Int)
  rotate_left
  ·have hno:¬ ∀ (i:Nat) a,xs[i]?=some a->KArg g o d i a:=fun h=>by
    obtain ⟨k',hk',he⟩:=h i a hai
    rw [hk] at hk'
    injection hk' with hk'
    subst hk'
    exact hkk he
   rw [if_neg hno] at hB
   rw [hB,if_neg fun h=>hno h.2] at hM
   rw [hM,hB]
   (have F:=ai @tmz (ai @encOpr_u (ai @hd (ai @encDcl_u (ai @hkN (ai @hk0 (ai @hkd (ai @encInt_u @hkk)))))));refine gR ?_;clear F)
   (have F:=ai @hz @tmz;refine gG ?_;exact gTd)
  have hnext:=hnext hkk
  have l1:rowsB 4 (encTms (flArgs o op (xs.take i)))=true:=rb_tm _
  have l5:rowsB 4 (encTms a.args)=true:=rb_tm _
  (have F:=ai @tmz (ai @encOpr_u (ai @hd (ai @encDcl_u (ai @hkN (ai @hk0 (ai @hkd (ai @encInt_u @hkk)))))));refine gR ?_;clear F)
  (have F:=@tmz;have NN:StopAt 16:=trivial;refine gGn ?_;clear F NN)
  refine gM (ι:=Bool) [82] [] (fun b=>[(82,A.d (.one (.lit (.bool b))))]) (fun b=>[]) (fun b=>b=decide (o.unit≠0∧a.op=o.unit - 1)) ?_ (fun b hb=>Exists.intro _ (ai (Wk.refl _) ?_))
  ·by_cases hu:o.unit=0
   ·(have F:=ai @hu @tmz;refine gG ?_;exact ⟨false,(decide_eq_false fun h=>h.1 hu).symm,gw,gw⟩)
   ·refine gB ?_
    (have F:=ai @hu (ai @hai @tmz);refine gC (cU) ?_;clear F)
    (have F:=@tmz;refine gR ?_;clear F)
    have e:U=decide (o.unit≠0∧a.op=o.unit - 1):=by
     rw [<- hU]
     exact decide_eq_decide.2 ⟨fun h=>⟨hu,(hUiff hu).1 h⟩,fun h=>(hUiff hu).2 h.2⟩
    (have F:=ai @hu @tmz;refine gG ?_;exact ⟨U,e,gw,gw⟩)
  by_cases hUn:o.unit≠0∧a.op=o.unit - 1
  ·rw [decide_eq_true hUn] at hb
   subst hb
   have hN:¬ (o.assoc=true∧a.op=op):=fun h=>by
    have e:(unitTm o).args=[]:=by unfold unitTm;rfl
    have e2:=unit_form hg ho hUn.1 hT.form hUn.2
    obtain ⟨o',d',hA⟩:=hT.form.node.app (by omega)
    have:o'=o:=by have:=hA.at';rw [h.2,ho] at this;injection this with this;exact this.symm
    subst this
    have:=(hA.asc h.1).1
    rw [e2,e] at this
    simp at this
   have e:flArg o op a=[]:=by unfold flArg;rw [if_neg hN,if_pos hUn]
   rw [e,List.append_nil] at hst
   rw [<- hst]
   (have F:=ai @tmz @hw1;refine gG ?_;exact ⟨i+1,hnext,gw,gw,by omega⟩)
  rw [decide_eq_false hUn] at hb
  subst hb
  by_cases hN:o.assoc=true∧a.op=op
  ·have e:flArg o op a=a.args:=by unfold flArg;rw [if_pos hN]
   rw [e] at hst hle
   have l3:((flArgs o op (xs.take i)).length+a.args.length<=maxApp)=True:=eq_true (by unfold maxApp;omega)
   have l4:encTms (flArgs o op (xs.take i))++encTms a.args=encTms (flArgs o op (xs.take (i+1))):=by rw [hst,encTms_app]
   obtain ⟨hN1,hN2⟩:=hN
   have q2:(a.op=op)=True:=eq_true hN2
   (have F:=ai @tmz (ai @hai (ai @encOpr_u (ai @hN1 (ai @q2 (ai @l1 (ai @l5 (ai @l3 (ai @l4 @hw1))))))));refine gG ?_;exact ⟨i+1,hnext,gw,gw,by omega⟩)
  ·have e:flArg o op a=[a]:=by unfold flArg;rw [if_neg hN,if_neg hUn]
   rw [e] at hst hle
   have l3:((flArgs o op (xs.take i)).length+1<=maxApp)=True:=eq_true (by simp only [List.length_cons,List.length_nil] at hle;unfold maxApp;omega)
   have l4:encTms (flArgs o op (xs.take i))++[encTm a]=encTms (flArgs o op (xs.take (i+1))):=by rw [hst,encTms_app,encTms_one]
   rcases Bool.eq_false_or_eq_true o.assoc with hac | hac
   ·have hq:(a.op=op)=False:=eq_false fun h=>hN ⟨hac,h⟩
    (have F:=ai @tmz (ai @hai (ai @encOpr_u (ai @hac (ai @hq (ai @l1 (ai @l3 (ai @l4 @hw1)))))));refine gG ?_;exact ⟨i+1,hnext,gw,gw,by omega⟩)
   ·(have F:=ai @tmz (ai @hai (ai @encOpr_u (ai @hac (ai @l1 (ai @l3 (ai @l4 @hw1))))));refine gG ?_;exact ⟨i+1,hnext,gw,gw,by omega⟩)
 ·obtain rfl:i=xs.length:=by omega
  have q1:((xs.length:Int) < (xs.length:Int))=False:=eq_false (by omega)
  rw [List.take_length]
  have hAll:∀ (i:Nat) a,xs[i]?=some a->KArg g o d i a:=fun j a h=>hall j a (List.getElem?_eq_some_iff.1 h).1 h
  rw [if_pos hAll] at hB
  rw [hB,if_pos ⟨hAr,hAll⟩] at hM
  rw [hM,hB]
  clear hM hB hall hAll hnas
  generalize hL:flArgs o op xs=L at hfb hfo hfs ⊢
  have hLb:L.length+bulkRows (encTms L)<=1048576:=hfb
  (have F:=ai @q1 @tmz;have NN:StopAt 19:=trivial;refine gGn ?_;clear F NN)
  refine pS 12 fun a cap=>?_
  refine pD 12 [12] [] ?_
  by_cases hu:o.unit≠0∧L.length < 2
  ·have e:mkL o op L=some (L.headD (unitTm o)):=by unfold mkL;rw [if_pos hu]
   rw [e]
   obtain ⟨hu1,hu2⟩:=hu
   have q2:(o.unit=0)=False:=eq_false hu1
   cases L with
   | nil =>
    have z2:(((0:Nat):Int)=0)=True:=eq_true (by omega)
    (have F:=ai @q1 (ai @encOpr_u (ai @q2 (ai @z2 @tmz)));refine gG ?_;exact gTd)
   | cons b bs =>
    have hbs:bs=[]:=List.eq_nil_of_length_eq_zero (by simp only [List.length_cons] at hu2;omega)
    subst hbs
    have hbb:bulkRow (encTm b)<=1048576:=by simp only [encTms,bulkRows] at hLb;omega
    have z1:(((0+1:Nat):Int)=0)=False:=eq_false (by omega)
    have z2:(((0+1:Nat):Int)=1)=True:=eq_true (by omega)
    have z3:(((1:Nat):Int)=0)=False:=eq_false (by omega)
    have z4:(((1:Nat):Int)=1)=True:=eq_true (by omega)
    have q5:([b]:List Tm)[0]?=some b:=rfl
    have z5:(0 < 0+1)=True:=eq_true (by omega)
    have z6:((0:Nat) < 1)=True:=eq_true (by omega)
    have z7:Int.toNat 0=0:=rfl
    (have F:=ai @q1 (ai @encOpr_u (ai @q2 (ai @z1 (ai @z2 (ai @z3 (ai @z4 (ai @z5 (ai @z6 (ai @z7 (ai @q5 @tmz))))))))));have NN:StopAt 22:=trivial;refine gGn ?_;clear F NN)
    refine gB ?_
    (have F:=ai @z5 (ai @z6 (ai @z7 (ai @q5 @tmz)));refine gC (con_l5Copy b hbb) ?_;clear F)
    (have F:=@tmz;refine gR ?_;clear F)
    (have F:=@tmz;refine gG ?_;exact gTd)
  ·have hml:mkL o op L=if BigT o op (srtO o L) then none else some (appT op (srtO o L)):=by unfold mkL;rw [if_neg hu]
   rw [hml]
   clear hml cUn cK cA
   have hSl:=srtO_len o L
   have hSp:=srtO_perm o L
   have sz1:=sizeTms_perm hSp
   have dz1:=depthTms_perm hSp
   have sl1:=sizeTms_len L
   have cSo:=con_specSort L hfo hfb
   refine gM (ι:=Unit) [116] [] (fun v=>[(116,A.d (.one (.lit (.bool false))))]) (fun v=>[]) (fun v=>True) ?_ (fun v hv=>Exists.intro _ (ai (Wk.refl _) ?_))
   ·by_cases hu0:o.unit=0
    ·have q2:(o.unit=0)=True:=eq_true hu0
     (have F:=ai @q2 @tmz;refine gG ?_;exact ⟨(),trivial,gw,gw⟩)
    ·have q2:(o.unit=0)=False:=eq_false hu0
     have q3:((L.length:Int)=0)=False:=eq_false fun h=>hu ⟨hu0,by omega⟩
     (have F:=ai @q2 (ai @q3 @tmz);refine gG ?_;exact ⟨(),trivial,gw,gw⟩)
   (have F:=@tmz;have NN:StopAt 21:=trivial;refine gGn ?_;clear F NN)
   refine gM (ι:=Unit) [123] [] (fun v=>[(123,A.d (.one (.lit (.bool false))))]) (fun v=>[]) (fun v=>True) ?_ (fun v hv=>Exists.intro _ (ai (Wk.refl _) ?_))
   ·by_cases hu0:o.unit=0
    ·have q2:(o.unit=0)=True:=eq_true hu0
     (have F:=ai @q2 @tmz;refine gG ?_;exact ⟨(),trivial,gw,gw⟩)
    ·have q2:(o.unit=0)=False:=eq_false hu0
     have q3:((L.length:Int)=1)=False:=eq_false fun h=>hu ⟨hu0,by omega⟩
     (have F:=ai @q2 (ai @q3 @tmz);refine gG ?_;exact ⟨(),trivial,gw,gw⟩)
   (have F:=@tmz;have NN:StopAt 23:=trivial;refine gGn ?_;clear F NN)
   refine gB ?_
   (have F:=ai @encOpr_u @tmz;refine gR ?_;clear F)
   refine gM (ι:=Unit) [12] [] (fun v=>[(12,.d (.one (.sl (encTms (srtO o L)))))]) (fun v=>[]) (fun v=>True) ?_ (fun v hv=>Exists.intro _ (ai (Wk.refl _) ?_))
   ·cases hcm:o.comm with
    | true =>
     rw [show srtO o L=sortTm L by unfold srtO;rw [if_pos hcm]]
     (have F:=ai @hcm @tmz;have NN:StopAt 24:=trivial;refine gGn ?_;clear F NN)
     refine gB ?_
     (have F:=@tmz;refine gC (cSo) ?_;clear F)
     (have F:=@tmz;refine gR ?_;clear F)
     (have F:=@tmz;refine gG ?_;exact ⟨(),trivial,gw,gw⟩)
    | false =>
     rw [show srtO o L=L by unfold srtO;rw [if_neg (by rw [hcm];simp)]]
     (have F:=ai @hcm @tmz;refine gG ?_;exact ⟨(),trivial,gw,gw⟩)
   have hSB:tmsB (srtO o L):=by
    unfold tmsB at hfb ⊢
    rw [bulks_perm hSp,hSl];exact hfb
   generalize srtO o L=S at hSl sz1 dz1 hSB ⊢
   have em:encTm (appT op S)=[.lit (.int .i64 op),.lit (.string ByteArray.empty),.lit (.int .i64 0),.sl (encTms S)]:=by simp only [appT,encTm]
   have zs:sizeTm (appT op S)=1+sizeTms S:=by rw [sizeTm_eq];rfl
   have c1:=con_l6Small (t:=appT op S) (by unfold big;omega)
   rw [em] at c1
   (have F:=@tmz;have NN:StopAt 25:=trivial;refine gGn ?_;clear F NN)
   refine gB ?_
   (have F:=@tmz;refine gC (con_l5Copies S hSB) ?_;clear F)
   (have F:=@tmz;refine gR ?_;clear F)
   (have F:=@tmz;have NN:StopAt 26:=trivial;refine gGn ?_;clear F NN)
   by_cases h7:o.assoc=true∧7 < S.length
   ·rw [if_pos (show BigT o op S from .inl h7)]
    obtain ⟨hac,h7⟩:=h7
    have q2:((S.length:Int)<=7)=False:=eq_false (by omega)
    refine gLp 13 12 13 ?_
    (have F:=ai @hac (ai @q2 @tmz);refine gR ?_;clear F)
    (have F:=ai @hz (ai @em @tmz);refine gG ?_;exact gTd)
   have hac:o.assoc=true->((S.length:Int)<=7)=True:=fun h=>eq_true (Int.not_lt.1 fun q=>h7 ⟨h,by omega⟩)
   have hres:(if BigT o op S then none else some (appT op S)).isSome=decide (sizeTm (appT op S)<=60∧depthTm (appT op S)<=20):=by
    by_cases hbg:BigT o op S
    ·rw [if_pos hbg]
     refine (decide_eq_false fun h=>?_).symm
     rcases hbg with h | h | h
     ·exact h7 h
     ·omega
     ·omega
    ·rw [if_neg hbg]
     refine (decide_eq_true ⟨?_,?_⟩).symm
     ·exact Nat.not_lt.1 fun h=>hbg (.inr (.inl h))
     ·exact Nat.not_lt.1 fun h=>hbg (.inr (.inr h))
   have hgd:(if BigT o op S then none else some (appT op S)).getD (appT op S)=appT op S:=by
    split <;> rfl
   rw [hres,hgd,em]
   rcases Bool.eq_false_or_eq_true o.assoc with ha' | ha'
   ·have q2:=hac ha'
    refine gLp 13 12 13 ?_
    (have F:=ai @ha' (ai @q2 @tmz);refine gC (c1) ?_;clear F)
    (have F:=@tmz;refine gR ?_;clear F)
    (have F:=@tmz;refine gG ?_;exact gTd)
   ·refine gLp 13 12 13 ?_
    (have F:=ai @ha' @tmz;refine gC (c1) ?_;clear F)
    (have F:=@tmz;refine gR ?_;clear F)
    (have F:=@tmz;refine gG ?_;exact gTd)
end
end Go.Proofs.YtohilkmdjdfljaaGreat
namespace Go.Proofs.YtohilkmdjdfljaaGreat
open Go.RowKit
section
variable {e:Env} {mask:Nat} {Q:PX->St->Prop} {ds:List (Option Nat)}
def StepsK (e:Env) (ds:List (Option Nat)) (L:List Oper) (cons:Nat->Option Nat) (ini:List Nat) (B:St->Prop) (P:Nat->St->Prop):Nat->List Oper->Prop
 | _,[]=>True
 | i,o::os=>(∀ s m,B ⟨s,m⟩->(∀ j∈depsAt L i,(cons j=none∨cons j=some i)->P j ⟨s,m⟩)->(∀ j∈ini,cons j=some i->P j ⟨s,m⟩)->Runs e ds 0 [o] ⟨s,m⟩ (fun σ'=>B σ'∧P i σ'∧∀ j,j≠i->i ∉ depsAt L j->cons j≠some i->P j ⟨s,m⟩->P j σ'))∧StepsK e ds L cons ini B P (i+1) os
theorem StepsK.get {L:List Oper} {cons:Nat->Option Nat} {ini:List Nat} {B:St->Prop} {P:Nat->St->Prop}:∀ {l:List Oper} {k i:Nat} {o:Oper},StepsK e ds L cons ini B P k l->l[i]?=some o->∀ s m,B ⟨s,m⟩->(∀ j∈depsAt L (k+i),(cons j=none∨cons j=some (k+i))->P j ⟨s,m⟩)->(∀ j∈ini,cons j=some (k+i)->P j ⟨s,m⟩)->Runs e ds 0 [o] ⟨s,m⟩ (fun σ'=>B σ'∧P (k+i) σ'∧∀ j,j≠k+i->k+i ∉ depsAt L j->cons j≠some (k+i)->P j ⟨s,m⟩->P j σ')
 | [],k,i,o,_,h=>by simp at h
 | x::l,k,0,o,h,ho=>by
  simp only [List.getElem?_cons_zero,Option.some.injEq] at ho
  subst ho
  exact h.1
 | x::l,k,i+1,o,h,ho=>by
  have:=StepsK.get (l:=l) (k:=k+1) (i:=i) (o:=o) h.2 (by simpa using ho)
  rw [show k+1+i=k+(i+1) by omega] at this
  exact this
theorem runsT_goodK {l:List Oper} {cons:Nat->Option Nat} {ini:List Nat} {K B:St->Prop} {P:Nat->St->Prop} (hb:backB l=true) (hini:ini.all (fun j=>decide (l.length<=j))=true) (hstep:StepsK e ds l cons ini B P 0 l) (hK:∀ s m,B ⟨s,m⟩->(∀ i,i < l.length∨i∈ini->(∀ k,cons i=some k->l.length<=k)->P i ⟨s,m⟩)->K ⟨s,m⟩) :
  ∀ (f:Nat) (listed:Array Bool) (σ:St),listed.size=l.length->(List.range l.length).countP (fun i=>!listed.getD i true)=f->B σ->(∀ j,listed.getD j false=true->(P j σ∨∃ k,cons j=some k∧listed.getD k false=true)∧∀ q∈depsAt l j,listed.getD q false=true)->(∀ j∈ini,P j σ∨∃ k,cons j=some k∧listed.getD k false=true)->RunsT e ds l.toArray K f listed σ:=by
 have hback:∀ i o,l[i]?=some o->o.guard=none∧∀ e∈o.after,Region.binds .any e=true->e.on < i:=fun i o ho=>by
  have h1:=List.all_eq_true.1 hb i (List.mem_range.2 (List.getElem?_eq_some_iff.1 ho).1)
  rw [ho] at h1
  simp only [Bool.and_eq_true,Option.isNone_iff_eq_none,List.all_eq_true,Bool.or_eq_true,Bool.not_eq_true',decide_eq_true_eq] at h1
  refine ⟨h1.1,fun e he hbe=>?_⟩
  rcases h1.2 e (Array.mem_toList_iff.2 he) with h2 | h2
  ·rw [hbe] at h2;cases h2
  ·exact h2
 have hfirst:∀ (listed:Array Bool),listed.size=l.length->Region.ready .any l.toArray listed=[]->∀ i,i < l.length->listed.getD i false=true:=fun listed hsz h0 i=>by
  induction i using Nat.strongRecOn with
  | _ i ih =>
   intro hi
   rw [<- getD_ftt (by omega:i < listed.size)]
   cases hun:listed.getD i true with
   | true=>rfl
   | false =>
   obtain ⟨o,ho⟩:∃ o,l[i]?=some o:=⟨_,List.getElem?_eq_getElem hi⟩
   have:=(mem_ready (ops:=l.toArray) (md:=.any)).2 ⟨hun,o,by simpa using ho,fun e he hbe=>ih e.on ((hback i o ho).2 e he hbe) (by have:=(hback i o ho).2 e he hbe;omega)⟩
   rw [h0] at this
   cases this
 have hlt:∀ (listed:Array Bool) (k:Nat),listed.getD k false=true->k < listed.size:=fun listed k h=>Classical.byContradiction fun hn=>by
  rw [Array.getD_eq_getD_getElem?,Array.getElem?_eq_none (by omega)] at h
  cases h
 intro f
 induction f with
 | zero =>
  intro listed σ hsz hc hB hP hI
  have hall:∀ i,i < l.length->listed.getD i true=true:=fun i hi=>by
   have:=List.countP_eq_zero.1 hc i (List.mem_range.2 hi)
   simpa using this
  refine ⟨?_,hK σ.s σ.m hB fun i hio hk=>?_⟩
  ·cases hr:Region.ready .any l.toArray listed with
   | nil=>rfl
   | cons i r =>
    have hi:i∈Region.ready .any l.toArray listed:=by rw [hr];simp
    obtain ⟨hun,oi,hoi,_⟩:=mem_ready.1 hi
    have hil:i < l.length:=by
     have:=(Array.getElem?_eq_some_iff.1 hoi).1
     simpa using this
    rw [hall i hil] at hun
    cases hun
  ·have hno:¬ ∃ k,cons i=some k∧listed.getD k false=true:=fun ⟨k,h1,h2⟩=>by
    have:=hlt listed k h2
    have:=hk k h1
    omega
   rcases hio with hi | hi
   ·exact (hP i (by rw [<- getD_ftt (by omega)];exact hall i hi)).1.resolve_right hno
   ·exact (hI i hi).resolve_right hno
 | succ f ih =>
  intro listed σ hsz hc hB hP hI
  refine ⟨fun h0=>hK σ.s σ.m hB fun i hio hk=>?_,fun i hi=>?_⟩
  ·have hno:¬ ∃ k,cons i=some k∧listed.getD k false=true:=fun ⟨k,h1,h2⟩=>by
    have:=hlt listed k h2
    have:=hk k h1
    omega
   rcases hio with hi | hi
   ·exact (hP i (hfirst listed hsz h0 i hi)).1.resolve_right hno
   ·exact (hI i hi).resolve_right hno
  obtain ⟨hun,o,hoi,hall⟩:=mem_ready.1 hi
  have ho:l[i]?=some o:=by simpa using hoi
  have hil:i < l.length:=(List.getElem?_eq_some_iff.1 ho).1
  have hls:i < listed.size:=by omega
  have hda:depsAt l i=depsOf o:=by unfold depsAt;rw [ho]
  have hunf:listed.getD i false=false:=by rw [<- getD_ftt hls];exact hun
  refine ⟨o,hoi,(hback i o ho).1,stepOk_of_runs (hback i o ho).1 ?_⟩
  have h1:=StepsK.get hstep ho σ.s σ.m hB (fun j hj hcj=>by
   rw [Nat.zero_add] at hj hcj
   have hj':=hj
   rw [hda] at hj'
   simp only [depsOf,List.mem_map,List.mem_filter] at hj'
   obtain ⟨e,⟨he,hbe⟩,rfl⟩:=hj'
   refine (hP e.on (hall e (Array.mem_toList_iff.1 he) hbe)).1.resolve_right ?_
   rintro ⟨k,hk1,hk2⟩
   rcases hcj with hcj | hcj
   ·rw [hcj] at hk1;cases hk1
   ·rw [hcj] at hk1
    injection hk1 with hk1
    subst hk1
    rw [hunf] at hk2
    cases hk2) (fun j hj hc=>by
   rw [Nat.zero_add] at hc
   refine (hI j hj).resolve_right ?_
   rintro ⟨k,hk1,hk2⟩
   rw [hc] at hk1
   injection hk1 with hk1
   subst hk1
   rw [hunf] at hk2
   cases hk2)
  rw [Nat.zero_add] at h1
  refine runs0_mono h1 fun σ' ⟨k1,k2,k3⟩=>ih _ σ' (by simpa using hsz) ?_ k1 (fun j hj=>?_) fun j hj=>?_
  ·have h1:(List.range l.length).countP (fun j=>!(listed.setIfInBounds i true).getD j true)+1=(List.range l.length).countP (fun j=>!listed.getD j true):=by
    have hperm:=List.perm_cons_erase (List.mem_range.2 hil)
    rw [hperm.countP_eq,hperm.countP_eq,List.countP_cons,List.countP_cons]
    have hcong:((List.range l.length).erase i).countP (fun j=>!(listed.setIfInBounds i true).getD j true)=((List.range l.length).erase i).countP (fun j=>!listed.getD j true):=by
     refine List.countP_congr fun j hj=>?_
     have hne:j≠i:=fun e=>by
      subst e
      exact List.Nodup.not_mem_erase (List.nodup_range) hj
     rw [getD_set_ne true (Ne.symm hne)]
    rw [hcong,hun]
    simp [hls]
   omega
  ·by_cases hji:j=i
   ·subst hji
    refine ⟨.inl k2,fun q hq=>?_⟩
    rw [hda] at hq
    simp only [depsOf,List.mem_map,List.mem_filter] at hq
    obtain ⟨e,⟨he,hbe⟩,rfl⟩:=hq
    have hlt:=(hback j o ho).2 e (Array.mem_toList_iff.1 he) hbe
    rw [getD_set_ne false (by omega)]
    exact hall e (Array.mem_toList_iff.1 he) hbe
   ·rw [getD_set_ne false (Ne.symm hji)] at hj
    obtain ⟨p1,p2⟩:=hP j hj
    have hni:i ∉ depsAt l j:=fun hm=>by
     have h2:=p2 i hm
     rw [hunf] at h2
     cases h2
    refine ⟨?_,fun q hq=>?_⟩
    ·rcases p1 with p1 | ⟨k,hk1,hk2⟩
     ·by_cases hci:cons j=some i
      ·refine .inr ⟨i,hci,?_⟩
       rw [<- getD_ftt (by simpa using hls)]
       simp [Array.getD_eq_getD_getElem?,hls]
      ·exact .inl (k3 j hji hni hci p1)
     ·refine .inr ⟨k,hk1,?_⟩
      by_cases hki:k=i
      ·subst hki;rw [hunf] at hk2;cases hk2
      ·rw [getD_set_ne false (Ne.symm hki)];exact hk2
    ·by_cases hqi:q=i
     ·subst hqi;exact absurd hq hni
     ·rw [getD_set_ne false (Ne.symm hqi)];exact p2 q hq
  ·have hjl:l.length<=j:=by have:=List.all_eq_true.1 hini j hj;simpa using this
   have hji:j≠i:=by omega
   have hni:i ∉ depsAt l j:=fun hm=>by
    unfold depsAt at hm
    rw [List.getElem?_eq_none hjl] at hm
    cases hm
   rcases hI j hj with p1 | ⟨k,hk1,hk2⟩
   ·by_cases hci:cons j=some i
    ·refine .inr ⟨i,hci,?_⟩
     rw [<- getD_ftt (by simpa using hls)]
     simp [Array.getD_eq_getD_getElem?,hls]
    ·exact .inl (k3 j hji hni hci p1)
   ·refine .inr ⟨k,hk1,?_⟩
    by_cases hki:k=i
    ·subst hki;rw [hunf] at hk2;cases hk2
    ·rw [getD_set_ne false (Ne.symm hki)];exact hk2
def lkS:List (Nat × A)->List (Nat × A)->Prop
 | [],_=>True
 | (t,x)::r,s=>gs s t=x∧lkS r s
def lkM:List (Nat × Bk)->List (Nat × Bk)->Prop
 | [],_=>True
 | (t,x)::r,m=>gm m t=some x∧lkM r m
theorem lks_S {s:List (Nat × A)}:∀ {sb:List (Nat × A)},(∀ p∈sb,gs s p.1=p.2) ↔ lkS sb s
 | []=>by simp [lkS]
 | (t,x)::r=>by simp only [List.forall_mem_cons,lkS,lks_S (sb:=r)]
theorem lks_M {m:List (Nat × Bk)}:∀ {mb:List (Nat × Bk)},(∀ p∈mb,gm m p.1=some p.2) ↔ lkM mb m
 | []=>by simp [lkM]
 | (t,x)::r=>by simp only [List.forall_mem_cons,lkM,lks_M (mb:=r)]
theorem lks_iff {sb:List (Nat × A)} {mb:List (Nat × Bk)} {s:List (Nat × A)} {m:List (Nat × Bk)}:Lks sb mb ⟨s,m⟩ ↔ lkS sb s∧lkM mb m:=and_congr lks_S lks_M
abbrev Tab:=List (List (Nat × A) × List (Nat × Bk))
def tabP (T:Tab) (i:Nat) (σ:St):Prop:=Lks (T.getD i ([],[])).1 (T.getD i ([],[])).2 σ
theorem tabP_iff {T:Tab} {i:Nat} {s:List (Nat × A)} {m:List (Nat × Bk)}:tabP T i ⟨s,m⟩ ↔ lkS (T.getD i ([],[])).1 s∧lkM (T.getD i ([],[])).2 m:=lks_iff
def stayB (L:List Oper) (cons:Nat->Option Nat) (T:Tab) (i:Nat) (f:List (Nat × A)->List (Nat × Bk)->Bool):Bool:=(List.range T.length).all fun j=>j==i || ((depsAt L j).contains i || (cons j==some i || f (T.getD j ([],[])).1 (T.getD j ([],[])).2))
theorem stay_of {L:List Oper} {cons:Nat->Option Nat} {T:Tab} {i:Nat} {f:List (Nat × A)->List (Nat × Bk)->Bool} {σ σ':St} (h:stayB L cons T i f=true) (hf:∀ sb mb,f sb mb=true->Lks sb mb σ->Lks sb mb σ'):∀ j,j≠i->i ∉ depsAt L j->cons j≠some i->tabP T j σ->tabP T j σ':=fun j h1 h2 h3 hp=>by
 unfold tabP at hp ⊢
 by_cases hj:j < T.length
 ·have:=List.all_eq_true.1 h j (List.mem_range.2 hj)
  simp only [Bool.or_eq_true,beq_iff_eq,List.contains_eq_mem,decide_eq_true_eq] at this
  rcases this with q | q | q | q
  ·exact absurd q h1
  ·exact absurd q h2
  ·exact absurd q h3
  ·exact hf _ _ q hp
 ·have e:T.getD j ([],[])=([],[]):=by rw [List.getD_eq_getElem?_getD,List.getElem?_eq_none (by omega)];rfl
  rw [e]
  exact ⟨fun p hp=>(by cases hp),fun p hp=>by cases hp⟩
section
variable {sb:List (Nat × A)} {mb:List (Nat × Bk)} {s:List (Nat × A)} {m:List (Nat × Bk)} {d k:Nat} {α:A} {bk:Bk}
theorem Lks.kill (h:Lks sb mb ⟨s,m⟩) (hf:sb.all (fun p=>!keyB k p.2)=true):Lks sb mb ⟨killK k s,m⟩:=⟨fun p hp=>by
 have h1:=List.all_eq_true.1 hf p hp
 have h2:=h.1 p hp
 show gs (killK k s) p.1=p.2
 rw [gs_killK_keep _ _ _ (by rw [h2];simpa using h1)]
 exact h2,h.2⟩
theorem Lks.mrem (h:Lks sb mb ⟨s,m⟩) (hf:mb.all (fun p=>p.1 != k)=true):Lks sb mb ⟨s,remM k m⟩:=⟨h.1,fun p hp=>by
 have h1:=List.all_eq_true.1 hf p hp
 simp only [bne_iff_ne,ne_eq] at h1
 show gm (remM k m) p.1=some p.2
 rw [gm_remM,if_neg h1]
 exact h.2 p hp⟩
theorem frzA_keep {x:A} (h:keyB k x=false):frzA k bk x=x:=by
 cases x <;> simp_all [frzA,keyB]
theorem Lks.frz (h:Lks sb mb ⟨s,m⟩) (hf:sb.all (fun p=>!keyB k p.2)=true) (hm:mb.all (fun p=>p.1 != k)=true):Lks sb mb ⟨frzS k bk s,remM k m⟩:=by
 refine Lks.mrem (m:=m) ⟨fun p hp=>?_,h.2⟩ hm
 have h1:=List.all_eq_true.1 hf p hp
 have h2:=h.1 p hp
 show gs (frzS k bk s) p.1=p.2
 rw [gs_frzS,h2]
 exact frzA_keep (by simpa using h1)
def freeS (d:Nat) (sb:List (Nat × A)) (_:List (Nat × Bk)):Bool:=sb.all fun p=>p.1 != d
def freeM (d:Nat) (_:List (Nat × A)) (mb:List (Nat × Bk)):Bool:=mb.all fun p=>p.1 != d
def free2 (d k:Nat) (sb:List (Nat × A)) (mb:List (Nat × Bk)):Bool:=freeB d sb mb && freeB k sb mb
theorem Lks.ownE (h:Lks sb mb ⟨s,m⟩) (hf:free2 d k sb mb=true):Lks sb mb ⟨(d,α)::killK d (killK k s),(d,bk)::remM d (remM k m)⟩:=by
 simp only [free2,freeB,Bool.and_eq_true,List.all_eq_true,bne_iff_ne,ne_eq,Bool.not_eq_true'] at hf
 refine Lks.born (Lks.mrem (Lks.kill h ?_) ?_) ?_
 ·simp only [List.all_eq_true,Bool.not_eq_true'];exact fun p hp=>(hf.2.1 p hp).2
 ·simp only [List.all_eq_true,bne_iff_ne,ne_eq];exact fun p hp=>hf.2.2 p hp
 ·simp only [freeB,Bool.and_eq_true,List.all_eq_true,bne_iff_ne,ne_eq,Bool.not_eq_true'];exact hf.1
theorem Lks.ownF (h:Lks sb mb ⟨s,m⟩) (hf:free2 d k sb mb=true):Lks sb mb ⟨frzS d bk ((d,α)::killK d (killK k s)),remM d ((d,bk)::remM d (remM k m))⟩:=by
 have h1:=Lks.ownE (α:=α) (bk:=bk) h hf
 simp only [free2,freeB,Bool.and_eq_true,List.all_eq_true,bne_iff_ne,ne_eq,Bool.not_eq_true'] at hf
 refine Lks.frz h1 ?_ ?_
 ·simp only [List.all_eq_true,Bool.not_eq_true'];exact fun p hp=>(hf.1.1 p hp).2
 ·simp only [List.all_eq_true,bne_iff_ne,ne_eq];exact fun p hp=>hf.1.2 p hp
end
section
variable {L:List Oper} {cons:Nat->Option Nat} {T:Tab} {i:Nat} {sb:List (Nat × A)} {mb:List (Nat × Bk)} {s s2:List (Nat × A)} {m m2:List (Nat × Bk)} {d k:Nat} {α:A} {bk:Bk}
abbrev Did (L:List Oper) (cons:Nat->Option Nat) (T:Tab) (i:Nat) (sb:List (Nat × A)) (mb:List (Nat × Bk)) (s:List (Nat × A)) (m:List (Nat × Bk)) (σ':St):Prop:=Lks sb mb σ'∧tabP T i σ'∧∀ j,j≠i->i ∉ depsAt L j->cons j≠some i->tabP T j ⟨s,m⟩->tabP T j σ'
theorem kS (hB:Lks sb mb ⟨s,m⟩) (hp:tabP T i ⟨(d,α)::s,m⟩) (h1:freeS d sb mb=true:=by rfl) (h2:stayB L cons T i (freeS d)=true:=by rfl):Did L cons T i sb mb s m ⟨(d,α)::s,m⟩:=⟨hB.slot h1,hp,stay_of h2 fun _ _ h hl=>hl.slot h⟩
theorem kM (hB:Lks sb mb ⟨s,m⟩) (hp:tabP T i ⟨s,(d,bk)::remM d m⟩) (h1:freeM d sb mb=true:=by rfl) (h2:stayB L cons T i (freeM d)=true:=by rfl):Did L cons T i sb mb s m ⟨s,(d,bk)::remM d m⟩:=⟨hB.own h1,hp,stay_of h2 fun _ _ h hl=>hl.own h⟩
theorem kB (hB:Lks sb mb ⟨s,m⟩) (hp:tabP T i ⟨(d,α)::killK d s,(d,bk)::remM d m⟩) (h1:freeB d sb mb=true:=by rfl) (h2:stayB L cons T i (freeB d)=true:=by rfl):Did L cons T i sb mb s m ⟨(d,α)::killK d s,(d,bk)::remM d m⟩:=⟨hB.born h1,hp,stay_of h2 fun _ _ h hl=>hl.born h⟩
theorem kE (hB:Lks sb mb ⟨s,m⟩) (hp:tabP T i ⟨(d,α)::killK d (killK k s),(d,bk)::remM d (remM k m)⟩) (h1:free2 d k sb mb=true:=by rfl) (h2:stayB L cons T i (free2 d k)=true:=by rfl):Did L cons T i sb mb s m ⟨(d,α)::killK d (killK k s),(d,bk)::remM d (remM k m)⟩:=⟨hB.ownE h1,hp,stay_of h2 fun _ _ h hl=>hl.ownE h⟩
theorem kF (hB:Lks sb mb ⟨s,m⟩) (hp:tabP T i ⟨frzS d bk ((d,α)::killK d (killK k s)),remM d ((d,bk)::remM d (remM k m))⟩) (h1:free2 d k sb mb=true:=by rfl) (h2:stayB L cons T i (free2 d k)=true:=by rfl):Did L cons T i sb mb s m ⟨frzS d bk ((d,α)::killK d (killK k s)),remM d ((d,bk)::remM d (remM k m))⟩:=⟨hB.ownF h1,hp,stay_of h2 fun _ _ h hl=>hl.ownF h⟩
end
theorem gFz {os:List Oper} {K:St->Prop} {s:List (Nat × A)} {m:List (Nat × Bk)} {bk:Bk} (k:Nat) (hK:Runs e ds 0 os ⟨frzS k bk s,remM k m⟩ K) (hm:gm m k=some bk:=by exact snx):Runs e ds 0 os ⟨s,m⟩ K :=
 runs_turn (turn_frzs [k] rfl) fun σ' hσ=>by subst hσ;simp only [frzs,frz,hm,frzB];exact hK
theorem gGk {id:Nat} {l:List Oper} {s:List (Nat × A)} {m:List (Nat × Bk)} (sb:List (Nat × A)) (mb:List (Nat × Bk)) (T:Tab) (cons:Nat->Option Nat) (ini:List Nat) (hB:Lks sb mb ⟨s,m⟩) (hI:∀ j∈ini,tabP T j ⟨s,m⟩) (hS:StepsK e (l.map (·.dst)) l cons ini (Lks sb mb) (tabP T) 0 l) (hK:∀ s' m',Lks sb mb ⟨s',m'⟩->(∀ i,i < l.length∨i∈ini->(∀ k,cons i=some k->l.length<=k)->tabP T i ⟨s',m'⟩)->∃ sf mf,Lks sf mf ⟨s',m'⟩∧Q .normal ⟨sf,mf⟩)
  (hb:backB l=true:=by decide +kernel) (hini:ini.all (fun j=>decide (l.length<=j))=true:=by decide +kernel) (hT:regT l.toArray 0=true:=by decide +kernel):pwp e mask (.region id l.toArray true) ⟨s,m⟩ Q:=fun he U w0 S0 nt a w hok hs=>by
 refine region_T he hT (K:=fun σ'=>∃ sf mf,Lks sf mf σ'∧Q .normal ⟨sf,mf⟩) (fun a w σ' ⟨sf,mf,h1,h2⟩ h3=>⟨⟨sf,mf⟩,h2,h3.weak (fun t=>gs_lks t h1.1) (fun t bk=>gm_lks t bk h1.2)⟩) (okDst hok) hs ?_
 simp only [List.take_zero,Runs]
 have:=runsT_goodK (K:=fun σ'=>∃ sf mf,Lks sf mf σ'∧Q .normal ⟨sf,mf⟩) hb hini hS hK l.length (headArr l.length 0) ⟨s,m⟩ (by simp [headArr]) (by
  rw [List.countP_eq_length.2]
  ·simp
  ·intro i hi
   have hi':=List.mem_range.1 hi
   simp [headArr,hi']) hB (fun j hj=>by
   have h0:(headArr l.length 0).getD j false=false:=by
    by_cases hjl:j < l.length
    ·simp [headArr,hjl]
    ·simp [headArr,hjl]
   rw [h0] at hj
   cases hj) (fun j hj=>.inl (hI j hj))
 simpa using this
end
end Go.Proofs.YtohilkmdjdfljaaGreat
namespace Go.Proofs.YtohilkmdjdfljaaGreat
open Go.RowKit
section
variable {e:Env} {K:St->Prop} {s:List (Nat × A)} {m:List (Nat × Bk)}
theorem gFb {ops:Array Oper} {f d ty t t':Nat} {p:String} {ed:Array Edge} {op:BinOp} {x y:Operand} {a b v:Value} {listed:Array Bool} (i:Nat) (hK:AnyOk e ops K f (listed.setIfInBounds i true) ⟨(d,.d (.one (.lit v)))::s,m⟩)
  (hi:ops[i]?=some ⟨some d,.binOp op t x y t',ty,p,ed,none⟩:=by simp only [List.getElem?_toArray,List.getElem?_cons_succ,List.getElem?_cons_zero];exact rfl) (hx:evA s x=.d (.one (.lit a)):=by exact snv) (hy:evA s y=.d (.one (.lit b)):=by exact snv) (hv:binT e.P op t a b=some v:=by exact sfv) (hsel:noSel ops=true:=by decide +kernel) (hap:apartB ops listed i=true:=by decide +kernel) (hr:(Region.ready .any ops listed).contains i=true:=by decide +kernel):AnyOk e ops K (f+1) listed ⟨s,m⟩:=by
 refine anyOk_first (o:=⟨some d,.binOp op t x y t',ty,p,ed,none⟩) hi rfl rfl hsel hap hr (fun _ U w0 S0 nt ac w S L h=>⟨v,fun w2=>?_,by simp [ARel,DRel,Rep]⟩) hK
 have h1:=h.eval x
 have h2:=h.eval y
 rw [hx] at h1
 rw [hy] at h2
 have h1:=lit_val h1
 have h2:=lit_val h2
 have:=binT_run (x:=x) (y:=y) hv w2
 simp only [execOp,h1,h2]
 rw [Sem.run_bind,this]
 rfl
theorem gFi {ops:Array Oper} {f d ty t k ety sz:Nat} {p:String} {ed:Array Edge} {x y:Operand} {o:Option (Option Addr × Nat)} {rows:List (List C)} {kk:IntKind} {listed:Array Bool} (i j:Nat) (hlt:j < rows.length) (hK:AnyOk e ops K f (listed.setIfInBounds i true) ⟨(d,.row k j sz 0)::s,m⟩)
  (hi:ops[i]?=some ⟨some d,.indexAddr t x y,ty,p,ed,none⟩:=by simp only [List.getElem?_toArray,List.getElem?_cons_succ,List.getElem?_cons_zero];exact rfl) (hx:nrm m (evA s x)=.buf k:=by exact sfx) (hy:evA s y=.d (.one (.lit (.int kk (j:Int)))):=by exact snv) (hm:gm m k=some (.buf o ety sz rows):=by exact snv) (ht:elemT e.P t=some sz:=by exact snx) (hsel:noSel ops=true:=by decide +kernel) (hap:apartB ops listed i=true:=by decide +kernel) (hr:(Region.ready .any ops listed).contains i=true:=by decide +kernel):AnyOk e ops K (f+1) listed ⟨s,m⟩:=by
 refine anyOk_first (o:=⟨some d,.indexAddr t x y,ty,p,ed,none⟩) hi rfl rfl hsel hap hr (fun _ U w0 S0 nt ac w S L h=>?_) hK
 have hx':=nrm_rel h.cls (h.eval x)
 simp only at hx'
 rw [hx] at hx'
 have hx':ac.eval x=L.v k:=hx'
 have hy':=h.eval y
 rw [hy] at hy'
 have hy':=lit_val hy'
 obtain ⟨_,_,_,h4⟩:=h.cls.own k _ hm
 rcases h4 with ⟨h4,_⟩ | ⟨g,cap,cur,hv,hcp,_⟩
 ·rw [h4] at hlt;simp at hlt
 ·refine ⟨.pointer (some ⟨g,j * sz,none⟩),fun w2=>?_,g,?_,rfl⟩
  ·have:=indexBuf_run (P:=e.P) (j:=(j:Int)) ht (Int.natCast_nonneg _) (by rw [Int.toNat_natCast];exact hlt) (g:=g) (cap:=cap) (k:=kk) (w:=w2)
   rw [Int.toNat_natCast] at this
   simp [execOp,hy',hx',hv,this]
  ·rw [hv];simp only [vblk];rw [if_neg (by omega)]
end
end Go.Proofs.YtohilkmdjdfljaaGreat
namespace Go.Proofs.YtohilkmdjdfljaaGreat
open Go.RowKit
def RBuf (a:Option Addr) (cap:Nat) (us:List Tm) (r:List D) (pm:List Bk):Prop:=r=[]∧pm=[.buf (some (a,cap)) 41 4 (encTms us)]
theorem tms_set (l:List Tm) (i:Nat) (t:Tm):(encTms l).set i (encTm t)=encTms (l.set i t):=by
 rw [encTms_eq,encTms_eq,List.map_set]
theorem gTPe {X:Prop} {P:Program} {ts:List RS} {R:List D->List Bk->Prop} {σ:St} {r:List D} {pm:List Bk} (ks:List Nat) (hR:R r pm) (hx:retQP P ts R .normal σ->X:=by first | exact fun h=>h | exact fun h=>⟨_,Wk.refl _,h⟩) (hr:resD P σ ts=some r:=by exact sfy) (hg:getM σ.m ks=some pm:=by exact sny) (hn:ks.Nodup:=by decide) (hp:pm.all pinned=true:=by simp only [pz,↓reduceIte,Nat.reduceEqDiff,Nat.reduceAdd,Nat.reduceSub,Nat.reduceMul,Nat.reduceLeDiff,Nat.reduceBEq,Bool.false_eq_true,decide_true,decide_false,Int.reduceLE,Int.reduceToNat,Int.reduceLT,Int.reduceEq,eq_self,Nat.reduceShiftRight,Nat.reduceAnd,Nat.reduceBneDiff]):X :=
 hx ⟨r,ks,pm,hg,hn,hp,hR,resOk_of hr⟩
theorem un_intK:intKindT (Tryz.prog.underlying 3)=some .i64:=by kernel_rfl
theorem un_uintK:Tryz.prog.underlying 247=some (.int .u64):=by kernel_rfl
theorem cv_intU (j:Int):convX j (some (.int .u64)) (some .i64)=some (.d (.one (.lit (.int .i64 (IntKind.i64.wrap j))))):=rfl
theorem toNat_one:Int.toNat 1=1:=rfl
theorem half_of (i j:Nat) (h:i+j < 4611686018427387904):∃ s m:Nat,IntKind.i64.wrap ((i:Int)+(j:Int))=(s:Int)∧IntKind.u64.wrap (s:Int)=(s:Int)∧(s:Int).fdiv (2 ^ (min 1 64))=(m:Int)∧IntKind.i64.wrap (m:Int)=(m:Int)∧m=(i+j) / 2:=by
 refine ⟨i+j,(i+j) / 2,wrapN (by omega) (by omega) (by omega),?_,?_,IntWalk.i64_in _ ⟨by omega,by omega⟩,rfl⟩
 ·simp only [IntKind.wrap,IntKind.signed,IntKind.bits]
  simp
  omega
 ·simp only [show min 1 64=1 from rfl,Int.pow_succ,Int.pow_zero,Int.one_mul]
  rw [Int.fdiv_eq_ediv_of_nonneg _ (by decide)]
  omega
set_option maxHeartbeats 8000000 in
set_option maxRecDepth 100000 in
theorem conP_swap (P X Z Y Q:List Tm) (hl:X.length=Y.length) {A B n N:Nat} (hA:A=P.length) (hB:B=P.length+X.length+Z.length) (hn:n=X.length) (hN:N=P.length+X.length+Z.length+Y.length+Q.length) (hmx:N<=4000000) (a:Option Addr) (cap:Nat) :
  ConP e0 210 [.one (.lit (.slice a N cap)),.one (.lit (.int .i64 A)),.one (.lit (.int .i64 B)),.one (.lit (.int .i64 n)),.one (.fn 140 [])] [.buf (some (a,cap)) 41 4 (encTms (P++X++Z++Y++Q))] (RBuf a cap (P++Y++Z++X++Q)):=by
 refine gIP (ts:=[]) [1000] 9231 Tryz.func210 ?_
 (have F:=@tmz;refine gG ?_;clear F)
 (have F:=@tmz;refine gL (ι:=Nat × List Tm) [10,13] [1000] (fun x=>[(10,.d (.one (.lit (.int .i64 (x.1:Int)))))]) (fun x=>[(1000,.buf (some (a,cap)) 41 4 (encTms x.2))]) (fun x=>x.1<=n∧x.2=swR P X Z Y Q x.1) (fun x=>n - x.1) ((0,P++X++Z++Y++Q)) (⟨Nat.zero_le _,(swR_zero P X Z Y Q).symm⟩) (fun x hx=>?_);clear F)
 obtain ⟨i,us⟩:=x
 obtain ⟨hi,hus⟩:=hx
 simp only at hi hus
 dsimp only
 by_cases hlt:i < n
 rotate_left
 ·obtain rfl:i=n:=by omega
  have q1:((i:Int) < (i:Int))=False:=eq_false (by omega)
  rw [hn,swR_all hl] at hus
  subst hus
  (have F:=ai @q1 @tmz;refine gG ?_;clear F)
  first | exact (have F:=@e0P;gTPe (R:=RBuf a cap (P++Y++Z++X++Q)) [1000] ⟨rfl,rfl⟩) | exact (have F:=@e0P;gTP (R:=RBuf a cap (P++Y++Z++X++Q)) [1000] ⟨rfl,rfl⟩)
 have q1:((i:Int) < (n:Int))=True:=eq_true (by omega)
 obtain ⟨x,hx⟩:∃ t,X[i]?=some t:=⟨_,List.getElem?_eq_getElem (by omega)⟩
 obtain ⟨y,hy⟩:∃ t,Y[i]?=some t:=⟨_,List.getElem?_eq_getElem (by omega)⟩
 obtain ⟨g1,g2,g3⟩:=swR_get (P:=P) (Z:=Z) (Q:=Q) hl hx hy
 have hul:us.length=N:=by rw [hus,swR_len i hl,hN]
 rw [<- hus] at g1 g2 g3
 rw [<- hB] at g2 g3
 rw [<- hA] at g1 g3
 obtain ⟨p,hp⟩:∃ p,p=A+i:=⟨_,rfl⟩
 obtain ⟨q,hq⟩:∃ q,q=B+i:=⟨_,rfl⟩
 rw [<- hp] at g1 g3
 rw [<- hq] at g2 g3
 have w1:IntKind.i64.wrap ((A:Int)+(i:Int))=(p:Int):=wrapN (by omega) (by omega) (by omega)
 have w2:IntKind.i64.wrap ((B:Int)+(i:Int))=(q:Int):=wrapN (by omega) (by omega) (by omega)
 have w3:=wrap1 (k:=i) (by omega)
 have l1:p < N:=by omega
 have l2:q < N:=by omega
 have hls:∀ k (t:Tm),(us.set k t).length=N:=fun k t=>by rw [List.length_set,hul]
 (have F:=ai @q1 @tmz;have NN:StopAt 3:=trivial;refine gGn ?_;clear F NN)
 obtain ⟨z,g4⟩:∃ z,(us.set p y)[q]?=some z:=⟨_,List.getElem?_eq_getElem (by rw [List.length_set];omega)⟩
 refine gF0 ?_
 refine gFm 0 ?_
 refine gFm 1 ?_
 refine gFm 2 ?_
 refine (have F:=(ai q1 (ai w1 (ai w2 (ai l1 (ai l2 (ai hul (ai g1 (ai g2 (ai g4 (ai hls (ai @encTms_len (ai @tms_set tmz))))))))))));gFb 3 ?_)
 refine gFm 4 ?_
 refine gFm 5 ?_
 refine gFm 6 ?_
 refine (have F:=(ai q1 (ai w1 (ai w2 (ai l1 (ai l2 (ai hul (ai g1 (ai g2 (ai g4 (ai hls (ai @encTms_len (ai @tms_set tmz))))))))))));gFb 7 ?_)
 refine gFm 8 ?_
 refine gFm 9 ?_
 refine gFm 10 ?_
 refine (have F:=(ai q1 (ai w1 (ai w2 (ai l1 (ai l2 (ai hul (ai g1 (ai g2 (ai g4 (ai hls (ai @encTms_len (ai @tms_set tmz))))))))))));gFb 11 ?_)
 refine (have F:=(ai q1 (ai w1 (ai w2 (ai l1 (ai l2 (ai hul (ai g1 (ai g2 (ai g4 (ai hls (ai @encTms_len (ai @tms_set tmz))))))))))));gFi (rows:=encTms us) 12 q (by rw [encTms_len];omega) ?_)
 refine gFm 14 ?_
 refine gFm 15 ?_
 refine gFm 16 ?_
 refine (have F:=(ai q1 (ai w1 (ai w2 (ai l1 (ai l2 (ai hul (ai g1 (ai g2 (ai g4 (ai hls (ai @encTms_len (ai @tms_set tmz))))))))))));gFb 17 ?_)
 refine (have F:=(ai q1 (ai w1 (ai w2 (ai l1 (ai l2 (ai hul (ai g1 (ai g2 (ai g4 (ai hls (ai @encTms_len (ai @tms_set tmz))))))))))));gFi (rows:=encTms us) 18 p (by rw [encTms_len];omega) ?_)
 refine gFT ?_
 refine gO2 13 19 ?_ ?_
 ·refine (have F:=(ai q1 (ai w1 (ai w2 (ai l1 (ai l2 (ai hul (ai g1 (ai g2 (ai g4 (ai hls (ai @encTms_len (ai @tms_set tmz))))))))))));gO3 ?_)
  refine gO1 19 ?_
  refine (have F:=(ai q1 (ai w1 (ai w2 (ai l1 (ai l2 (ai hul (ai g1 (ai g2 (ai g4 (ai hls (ai @encTms_len (ai @tms_set tmz))))))))))));gO3 ?_)
  refine gO1 20 ?_
  refine (have F:=(ai q1 (ai w1 (ai w2 (ai l1 (ai l2 (ai hul (ai g1 (ai g2 (ai g4 (ai hls (ai @encTms_len (ai @tms_set tmz))))))))))));gO3 ?_)
  refine gO1 21 ?_
  refine (have F:=(ai q1 (ai w1 (ai w2 (ai l1 (ai l2 (ai hul (ai g1 (ai g2 (ai g4 (ai hls (ai @encTms_len (ai @tms_set tmz))))))))))));gO3 ?_)
  refine gO1 22 ?_
  refine (have F:=(ai q1 (ai w1 (ai w2 (ai l1 (ai l2 (ai hul (ai g1 (ai g2 (ai g4 (ai hls (ai @encTms_len (ai @tms_set tmz))))))))))));gO3 ?_)
  refine gO1 23 ?_
  refine (have F:=(ai q1 (ai w1 (ai w2 (ai l1 (ai l2 (ai hul (ai g1 (ai g2 (ai g4 (ai hls (ai @encTms_len (ai @tms_set tmz))))))))))));gO3 ?_)
  refine (have F:=tmz;gT0 ?_)
  refine Exists.intro _ (ai (Wk.refl _) ?_)
  rw [g3]
  (have F:=@w3;refine gG ?_;exact ⟨(i+1,swR P X Z Y Q (i+1)),⟨hlt,rfl⟩,gw,gw,by omega⟩)
 ·refine (have F:=(ai q1 (ai w1 (ai w2 (ai l1 (ai l2 (ai hul (ai g1 (ai g2 (ai g4 (ai hls (ai @encTms_len (ai @tms_set tmz))))))))))));gO3 ?_)
  refine gO1 13 ?_
  refine (have F:=(ai q1 (ai w1 (ai w2 (ai l1 (ai l2 (ai hul (ai g1 (ai g2 (ai g4 (ai hls (ai @encTms_len (ai @tms_set tmz))))))))))));gO3 ?_)
  refine gO1 20 ?_
  refine (have F:=(ai q1 (ai w1 (ai w2 (ai l1 (ai l2 (ai hul (ai g1 (ai g2 (ai g4 (ai hls (ai @encTms_len (ai @tms_set tmz))))))))))));gO3 ?_)
  refine gO1 21 ?_
  refine (have F:=(ai q1 (ai w1 (ai w2 (ai l1 (ai l2 (ai hul (ai g1 (ai g2 (ai g4 (ai hls (ai @encTms_len (ai @tms_set tmz))))))))))));gO3 ?_)
  refine gO1 22 ?_
  refine (have F:=(ai q1 (ai w1 (ai w2 (ai l1 (ai l2 (ai hul (ai g1 (ai g2 (ai g4 (ai hls (ai @encTms_len (ai @tms_set tmz))))))))))));gO3 ?_)
  refine gO1 23 ?_
  refine (have F:=(ai q1 (ai w1 (ai w2 (ai l1 (ai l2 (ai hul (ai g1 (ai g2 (ai g4 (ai hls (ai @encTms_len (ai @tms_set tmz))))))))))));gO3 ?_)
  refine (have F:=tmz;gT0 ?_)
  refine Exists.intro _ (ai (Wk.refl _) ?_)
  rw [g3]
  (have F:=@w3;refine gG ?_;exact ⟨(i+1,swR P X Z Y Q (i+1)),⟨hlt,rfl⟩,gw,gw,by omega⟩)
set_option maxHeartbeats 8000000 in
set_option maxRecDepth 100000 in
theorem conP_rot (P X Y Q:List Tm) (hX:0 < X.length) (hY:0 < Y.length) {A M B N:Nat} (hA:A=P.length) (hM:M=P.length+X.length) (hB:B=P.length+X.length+Y.length) (hN:N=P.length+X.length+Y.length+Q.length) (hmx:N<=4000000) (a:Option Addr) (cap:Nat) :
  ConP e0 205 [.one (.lit (.slice a N cap)),.one (.lit (.int .i64 A)),.one (.lit (.int .i64 M)),.one (.lit (.int .i64 B)),.one (.fn 140 [])] [.buf (some (a,cap)) 41 4 (encTms (P++X++Y++Q))] (RBuf a cap (P++Y++X++Q)):=by
 have w1:IntKind.i64.wrap ((M:Int) - (A:Int))=(X.length:Int):=wrapN (by omega) (by omega) (by omega)
 have w2:IntKind.i64.wrap ((B:Int) - (M:Int))=(Y.length:Int):=wrapN (by omega) (by omega) (by omega)
 refine gIP (ts:=[]) [1000] 9440287 Tryz.func205 ?_
 (have F:=ai @w1 (ai @w2 @tmz);refine gG ?_;clear F)
 (have F:=@tmz;refine gL (ι:=(Nat × Nat) × List Tm) [10,11,20,23] [1000] (fun x=>[(10,.d (.one (.lit (.int .i64 (x.1.1:Int))))),(11,.d (.one (.lit (.int .i64 (x.1.2:Int)))))]) (fun x=>[(1000,.buf (some (a,cap)) 41 4 (encTms x.2))]) (fun x=>∃ P' X' Y' Q',x.2=P'++X'++Y'++Q'∧x.1.1=X'.length∧x.1.2=Y'.length∧P'.length+X'.length=M∧0 < X'.length∧0 < Y'.length∧P'++Y'++X'++Q'=P++Y++X++Q) (fun x=>x.1.1+x.1.2) (((X.length,Y.length),P++X++Y++Q)) (⟨P,X,Y,Q,rfl,rfl,rfl,hM.symm,hX,hY,rfl⟩) (fun x hx=>?_);clear F)
 obtain ⟨⟨i,j⟩,us⟩:=x
 obtain ⟨P',X',Y',Q',hus,hi,hj,hM',hX',hY',hT⟩:=hx
 simp only at hus hi hj
 dsimp only
 have hlen:=congrArg List.length hT
 simp only [List.length_append] at hlen
 obtain ⟨z,hz⟩:∃ z,z=P'.length:=⟨_,rfl⟩
 have w3:IntKind.i64.wrap ((M:Int) - (i:Int))=(z:Int):=wrapN (by omega) (by omega) (by omega)
 by_cases hij:i=j
 ·have q1:((i:Int)=(j:Int))=True:=eq_true (by omega)
  have c:=conP_swap P' X' [] Y' Q' (by omega) (A:=z) (B:=M) (n:=i) (N:=N) hz (by simp;omega) hi (by simp;omega) hmx a cap
  rw [List.append_nil,List.append_nil,hT,<- hus] at c
  (have F:=ai @q1 @tmz;have NN:StopAt 8:=trivial;refine gGn ?_;clear F NN)
  refine gB ?_
  (have F:=ai @tmz @w3;refine gCP [1000] [1000] (c) ?_;clear F)
  rintro r pm ⟨rfl,rfl⟩
  simp only [setA,retA,zipM,List.cons_append,List.nil_append]
  (have F:=@tmz;refine gR ?_;clear F)
  (have F:=@tmz;refine gG ?_;clear F)
  first | exact (have F:=@e0P;gTPe (R:=RBuf a cap (P++Y++X++Q)) [1000] ⟨rfl,rfl⟩) | exact (have F:=@e0P;gTP (R:=RBuf a cap (P++Y++X++Q)) [1000] ⟨rfl,rfl⟩)
 have q1:((i:Int)=(j:Int))=False:=eq_false (by omega)
 by_cases hgt:j < i
 ·have q2:((j:Int) < (i:Int))=True:=eq_true (by omega)
  obtain ⟨d,hd⟩:∃ d,d=i - j:=⟨_,rfl⟩
  have w4:IntKind.i64.wrap ((i:Int) - (j:Int))=(d:Int):=wrapN (by omega) (by omega) (by omega)
  have hX12:X'=X'.take j++X'.drop j:=(List.take_append_drop j X').symm
  have l1:(X'.take j).length=j:=by rw [List.length_take];omega
  have l2:(X'.drop j).length=d:=by rw [List.length_drop];omega
  generalize X'.take j=X1 at hX12 l1
  generalize X'.drop j=X2 at hX12 l2
  subst hX12
  have c:=conP_swap P' X1 X2 Y' Q' (by omega) (A:=z) (B:=M) (n:=j) (N:=N) hz (by simp at hM';omega) l1.symm (by simp at hlen;omega) hmx a cap
  rw [show P'++X1++X2++Y'++Q'=us by rw [hus];simp] at c
  (have F:=ai @q1 (ai @q2 @tmz);have NN:StopAt 4:=trivial;refine gGn ?_;clear F NN)
  refine gB ?_
  (have F:=ai @tmz @w3;refine gCP [1000] [1000] (c) ?_;clear F)
  rintro r pm ⟨rfl,rfl⟩
  simp only [setA,retA,zipM,List.cons_append,List.nil_append]
  (have F:=@tmz;refine gR ?_;clear F)
  (have F:=@w4;refine gG ?_;exact ⟨((d,j),P'++Y'++X2++X1++Q'),⟨P'++Y',X2,X1,Q',rfl,l2.symm,l1.symm,by simp at hM' ⊢;omega,by omega,by omega,by rw [<- hT];simp⟩,gw,gw,by dsimp only;omega⟩)
 ·have q2:((j:Int) < (i:Int))=False:=eq_false (by omega)
  obtain ⟨d,hd⟩:∃ d,d=j - i:=⟨_,rfl⟩
  have w4:IntKind.i64.wrap ((j:Int) - (i:Int))=(d:Int):=wrapN (by omega) (by omega) (by omega)
  obtain ⟨u,hu⟩:∃ u,u=M+j:=⟨_,rfl⟩
  obtain ⟨v,hv⟩:∃ v,v=M+d:=⟨_,rfl⟩
  have w5:IntKind.i64.wrap ((M:Int)+(j:Int))=(u:Int):=wrapN (by omega) (by omega) (by omega)
  have w6:IntKind.i64.wrap ((u:Int) - (i:Int))=(v:Int):=wrapN (by omega) (by omega) (by omega)
  have hY12:Y'=Y'.take d++Y'.drop d:=(List.take_append_drop d Y').symm
  have l1:(Y'.take d).length=d:=by rw [List.length_take];omega
  have l2:(Y'.drop d).length=i:=by rw [List.length_drop];omega
  generalize Y'.take d=Y1 at hY12 l1
  generalize Y'.drop d=Y2 at hY12 l2
  subst hY12
  have c:=conP_swap P' X' Y1 Y2 Q' (by omega) (A:=z) (B:=v) (n:=i) (N:=N) hz (by omega) hi (by simp at hlen;omega) hmx a cap
  rw [show P'++X'++Y1++Y2++Q'=us by rw [hus];simp] at c
  (have F:=ai @q1 (ai @q2 @tmz);have NN:StopAt 6:=trivial;refine gGn ?_;clear F NN)
  refine gB ?_
  (have F:=ai @tmz (ai @w3 (ai @w5 @w6));refine gCP [1000] [1000] (c) ?_;clear F)
  rintro r pm ⟨rfl,rfl⟩
  simp only [setA,retA,zipM,List.cons_append,List.nil_append]
  (have F:=@tmz;refine gR ?_;clear F)
  (have F:=@w4;refine gG ?_;exact ⟨((i,d),P'++Y2++Y1++X'++Q'),⟨P',Y2,Y1,X'++Q',by simp,l2.symm,l1.symm,by omega,by omega,by omega,by rw [<- hT];simp⟩,gw,gw,by dsimp only;omega⟩)
end Go.Proofs.YtohilkmdjdfljaaGreat
namespace Go.Proofs.YtohilkmdjdfljaaGreat
open Go.RowKit
theorem conP_tree {f:FuncId} {args:List D} {row:List C} (hb:hasBody e0.P f=true) (hok:row.all okCell=true)
  (h:∀ (w:World) (S:Nat->Prop) (vs:List Value),DsRel w S args vs->Calls e0.P f vs.toArray w fun e w'=>∃ us':List Value,e=.returned (.agg us'.toArray)∧OwnVals w' row (fun x=>w.heap.size<=x∧x < w'.heap.size) us'∧Below w.heap.size w w'):ConP e0 f args [] (RTree row):=by
 refine ⟨hb,fun w S vs hS hE hG hpm ha hv=>(h w S vs hv).mono ?_⟩
 rintro en w' ⟨us,h1,h2,h3⟩
 obtain ⟨E,hE1,h2⟩:∃ E:Nat->Prop,(∀ b,E b->w.heap.size<=b∧b < w'.heap.size)∧OwnVals w' row E us:=⟨_,fun _ h=>h,h2⟩
 refine ⟨.agg us.toArray,[.agg (litRow us)],[.set E (fun w=>OwnVals w row E us)],h1,RTree.mk h2.len (h2.cells hok),Kept.of_below h3 (fun d=>d.elim),trivial,fun x hx=>?_,apart_1 _,us,rfl,RepVals_lits us⟩
 simp only [List.mem_cons,List.not_mem_nil,or_false] at hx
 subst hx
 exact ⟨⟨fun b hb=>⟨(hE1 b hb).2,fun hn=>hn.2 ⟨_,List.mem_cons_self,hb⟩⟩,h2,OwnVals.stable _ _ _⟩,fun g hg=>.inr (hE1 g hg).1⟩
def RTreeS (rows:List (List C)) (r:List D) (pm:List Bk):Prop:=∃ v E,r=[.one (.lit v)]∧okCell (.lit v)=true∧pm=[.set E (fun w=>Own w (.sl rows) E v)]
def isSet:Bk->Bool
 | .set _ _=>true
 | _=>false
def litC:C->Bool
 | .lit _=>true
 | _=>false
def litD:D->Bool
 | .one c=>litC c
 | .agg cs=>cs.all litC
 | _=>false
theorem RepVals_any {w:World} {S S':Nat->Prop}:∀ {cs:List C} {vs:List Value},cs.all litC=true->RepVals w S cs vs->RepVals w S' cs vs
 | [],[],_,_=>trivial
 | .lit x::cs,v::vs,hl,h=>by
  simp only [List.all_cons,Bool.and_eq_true] at hl
  exact ⟨h.1,RepVals_any hl.2 h.2⟩
 | .sl _::_,_::_,hl,_=>by simp [litC] at hl
 | .ptr _::_,_::_,hl,_=>by simp [litC] at hl
 | .fn _ _::_,_::_,hl,_=>by simp [litC] at hl
 | [],_::_,_,h=>h.elim
 | _::_,[],_,h=>h.elim
theorem DRel_any {w:World} {S S':Nat->Prop} {x:D} {v:Value} (hl:litD x=true) (h:DRel w S x v):DRel w S' x v:=by
 cases x with
 | one c=>cases c with
  | lit y=>exact h
  | _=>simp [litD,litC] at hl
 | agg cs=>obtain ⟨vs,h1,h2⟩:=h;exact ⟨vs,h1,RepVals_any hl h2⟩
 | clip _=>simp [litD] at hl
theorem DsRel_any {w:World} {S S':Nat->Prop}:∀ {r:List D} {vs:List Value},r.all litD=true->DsRel w S r vs->DsRel w S' r vs
 | [],[],_,_=>trivial
 | x::r,v::vs,hl,h=>by
  simp only [List.all_cons,Bool.and_eq_true] at hl
  exact ⟨DRel_any hl.1 h.1,DsRel_any hl.2 h.2⟩
 | [],_::_,_,h=>h.elim
 | _::_,[],_,h=>h.elim
theorem ARel_any {w:World} {S S':Nat->Prop} {L:Lay}:∀ {r:List D} {v:Value},r.all litD=true->ARel w S L (retA r) v->ARel w S' L (retA r) v
 | [],_,_,h=>by obtain ⟨vs,h1,h2⟩:=h;exact ⟨vs,h1,DsRel_any rfl h2⟩
 | [x],v,hl,h=>by
  simp only [List.all_cons,List.all_nil,Bool.and_true] at hl
  exact DRel_any (x:=x) (v:=v) hl h
 | x::y::z,_,hl,h=>by obtain ⟨vs,h1,h2⟩:=h;exact ⟨vs,h1,DsRel_any hl h2⟩
theorem con_P {e:Env} {f:FuncId} {args r:List D} (h:Con e f args r):ConP e f args [] (fun r' pm=>r'=r∧pm=[]):=by
 refine ⟨h.1,fun w S vs hS hE hG hpm ha hv=>(h.2 w S vs hS hE hG hv).mono ?_⟩
 rintro en w' ⟨v,h1,h2,h3,h4⟩
 refine ⟨v,r,[],h1,⟨rfl,rfl⟩,⟨h2.os,h2.tape,h2.output,h2.drawn,h2.size,fun k hk hn=>h2.block k hk (fun h=>hn (.inl h))⟩,h3,fun x hx=>by simp at hx,trivial,?_⟩
 exact ARel.keep (Nat.le_refl _) (fun _ _ _=>rfl) (fun b hb=>⟨hb.elim .inl (fun h=>.inr (.inr h)),fun ⟨x,hx,_⟩=>by simp at hx⟩) h4
theorem pin_lt {w:World} {S:Nat->Prop} {x:Bk} (hs:isSet x=true) (h:PinRel w S x) {g:Nat} (hg:pblk x g):g < w.heap.size∧¬ S g:=by
 cases x with
 | set E G=>exact h.1 g hg
 | _=>simp [isSet] at hs
theorem pin_move {w w':World} {S S':Nat->Prop} {x:Bk} (hs:isSet x=true) (h:PinRel w S x) (hz:w.heap.size<=w'.heap.size) (hk:∀ b,pblk x b->w'.heap[b]?=w.heap[b]?) (hS:∀ b,pblk x b->¬ S' b):PinRel w' S' x:=by
 cases x with
 | set E G=>exact ⟨fun b hb=>⟨Nat.lt_of_lt_of_le (h.1 b hb).1 hz,hS b hb⟩,h.2.2 w w' hz hk h.2.1,h.2.2⟩
 | _=>simp [isSet] at hs
theorem apart_app:∀ {a b:List Bk},Apart a->Apart b->(∀ x∈a,∀ y∈b,∀ g,pblk x g->¬ pblk y g)->Apart (a++b)
 | [],_,_,h,_=>h
 | x::a,b,⟨h1,h2⟩,h,hd=>⟨fun y hy g hx hg=>(List.mem_append.1 hy).elim (fun q=>h1 y q g hx hg) (fun q=>hd x List.mem_cons_self y q g hx hg),apart_app h2 h (fun z hz=>hd z (List.mem_cons_of_mem _ hz))⟩
theorem conP_read {e:Env} {f:FuncId} {data lits:List D} {R:List D->List Bk->Prop} (pm:List Bk) (h:ConP e f data [] R) (hset:pm.all isSet=true) (hR:∀ r q,R r q->r.all litD=true∧q.all isSet=true)
  (hx:∀ (w:World) (S:Nat->Prop) (vs:List Value),(∀ x∈pm,PinRel w S x)->DsRel w S lits vs->DsRel w (fun b=>S b∨pblks pm b) data vs):ConP e f lits pm (fun r q=>∃ q1,R r q1∧q=q1++pm):=by
 refine ⟨h.1,fun w S vs hS hE hG hpm ha hv=>?_⟩
 have hset':∀ x∈pm,isSet x=true:=fun x hx=>List.all_eq_true.1 hset x hx
 have hlt:∀ g,pblks pm g->g < w.heap.size∧¬ S g∧¬ e.E g:=fun g ⟨x,hxm,hg⟩=>⟨(pin_lt (hset' x hxm) (hpm x hxm).1 hg).1,(pin_lt (hset' x hxm) (hpm x hxm).1 hg).2,(hpm x hxm).2 g hg⟩
 refine (h.2 w (fun b=>S b∨pblks pm b) vs (fun b hb=>hb.elim (hS b) (fun q=>⟨(hlt b q).1,(hlt b q).2.2⟩)) hE hG (fun x hx=>by simp at hx) trivial (hx w S vs (fun x hx=>(hpm x hx).1) hv)).mono ?_
 rintro en w' ⟨v,r,q1,h1,h2,h3,h4,h5,h6,h7⟩
 obtain ⟨l1,l2⟩:=hR r q1 h2
 have l2':∀ x∈q1,isSet x=true:=fun x hx=>List.all_eq_true.1 l2 x hx
 have hnew:∀ x∈q1,∀ g,pblk x g->w.heap.size<=g:=fun x hx g hg=>((h5 x hx).2 g hg).elim (fun ⟨y,hy,_⟩=>by simp at hy) id
 have hnil:∀ b,¬ pblks [] b:=fun b ⟨y,hy,_⟩=>by simp at hy
 refine ⟨v,r,q1++pm,h1,⟨q1,h2,rfl⟩,⟨h3.os,h3.tape,h3.output,h3.drawn,h3.size,fun k hk hn=>h3.block k hk (fun q=>q.elim (fun q=>hn (.inl q)) (fun q=>hnil k q))⟩,h4,fun x hxm=>?_,apart_app h6 ha (fun x hx y hy g hg hg2=>?_),ARel_any l1 h7⟩
 ·rcases List.mem_append.1 hxm with hq | hq
  ·refine ⟨pin_move (l2' x hq) (h5 x hq).1 (Nat.le_refl _) (fun _ _=>rfl) (fun b hb hn=>hn.2 ⟨x,List.mem_append.2 (.inl hq),hb⟩),fun g hg=>.inr (hnew x hq g hg)⟩
  ·refine ⟨pin_move (hset' x hq) (hpm x hq).1 h3.size (fun b hb=>h3.block b (hlt b ⟨x,hq,hb⟩).1 (fun q=>q.elim (hlt b ⟨x,hq,hb⟩).2.2 (hnil b))) (fun b hb hn=>hn.2 ⟨x,List.mem_append.2 (.inr hq),hb⟩),fun g hg=>.inl ⟨x,hq,hg⟩⟩
 ·have:=hnew x hx g hg
  have:=(hlt g ⟨y,hy,hg2⟩).1
  omega
end Go.Proofs.YtohilkmdjdfljaaGreat
namespace Go.Proofs.YtohilkmdjdfljaaGreat
open Go.RowKit
theorem RepVals_lits_inv {w:World} {S:Nat->Prop}:∀ {us vs:List Value},RepVals w S (litRow us) vs->vs=us
 | [],[],_=>rfl
 | u::us,v::vs,h=>by
  obtain ⟨h1,h2⟩:=h
  have h1:v=u:=h1
  rw [h1,RepVals_lits_inv h2]
 | [],_::_,h=>h.elim
 | _::_,[],h=>h.elim
theorem Kept.noPin {D:Prop} {E:Nat->Prop} {B:Nat} {w w':World} (h:Kept D (fun b=>E b∨pblks [] b) B w w'):Kept D E B w w' :=
 ⟨h.os,h.tape,h.output,h.drawn,h.size,fun k hk hn=>h.block k hk fun h=>h.elim hn fun ⟨x,hx,_⟩=>by cases hx⟩
theorem con_treeB {e:Env} {f:FuncId} {args:List D} {x:Tm × Bool} (h:ConP e f args [] (RTreeB x)):Con e f args [.agg (encTm x.1),.one (.lit (.bool x.2))]:=by
 refine ⟨h.1,fun w S vs hS hE hG hv=>(h.2 w S vs hS hE hG (fun x hx=>by cases hx) trivial hv).mono ?_⟩
 rintro en w' ⟨v,r,pm',h1,⟨us,E,rfl,hl,hok,rfl⟩,h3,h4,h5,h6,h7⟩
 obtain ⟨⟨q1,q2,q3⟩,p2⟩:=h5 _ List.mem_cons_self
 obtain ⟨vs',hvs,hd⟩:=h7
 match vs',hd with
 | [u0,u1],⟨⟨us0,hu0,hr⟩,hb,_⟩ =>
  have e1:=RepVals_lits_inv hr
  subst e1
  refine ⟨v,h1,h3.noPin,h4,[u0,u1],hvs,⟨us0,hu0,OwnVals.rep _ _ _ _ (fun g hg=>.inr ⟨?_,(q1 g hg).1⟩) q2⟩,hb,trivial⟩
  exact (p2 g hg).elim (fun ⟨x,hx,_⟩=>by cases hx) id
end Go.Proofs.YtohilkmdjdfljaaGreat
namespace Go.Proofs.YtohilkmdjdfljaaGreat
open Go.RowKit
theorem okRow_Binding {r:List C} (h:okRow (fieldsOf .binding) r):∃ (i0:Int) (t1:ByteArray) (i2:Int) (r3:List (List C)) (i4:Int) (t5:ByteArray) (i6:Int) (r7:List (List C)),r=[.lit (.int .i64 i0),.lit (.string t1),.lit (.int .i64 i2),.sl r3,.lit (.int .i64 i4),.lit (.string t5),.lit (.int .i64 i6),.sl r7]∧I64 i0∧t1.size<=maxLen∧I64 i2∧okRows (fieldsOf .term) r3∧I64 i4∧t5.size<=maxLen∧I64 i6∧okRows (fieldsOf .term) r7:=by
 obtain ⟨c0,c1,c2,c3,c4,c5,c6,c7,rfl⟩:=len8 h.len
 simp only [fieldsOf,termF,occF,sortsF,sigF,moduleF,algF,List.cons_append,List.nil_append,okRow,and_true] at h
 obtain ⟨h0,h1,h2,h3,h4,h5,h6,h7⟩:=h
 obtain ⟨i0,rfl,g0⟩:=okC_int h0
 obtain ⟨t1,rfl,g1⟩:=okC_str h1
 obtain ⟨i2,rfl,g2⟩:=okC_int h2
 obtain ⟨r3,rfl,g3⟩:=okC_sl h3
 obtain ⟨i4,rfl,g4⟩:=okC_int h4
 obtain ⟨t5,rfl,g5⟩:=okC_str h5
 obtain ⟨i6,rfl,g6⟩:=okC_int h6
 obtain ⟨r7,rfl,g7⟩:=okC_sl h7
 exact ⟨i0,t1,i2,r3,i4,t5,i6,r7,rfl,g0,g1,g2,g3,g4,g5,g6,g7⟩
theorem repVals_Binding {w:World} {S:Nat->Prop} {i0:Int} {t1:ByteArray} {i2:Int} {r3:List (List C)} {i4:Int} {t5:ByteArray} {i6:Int} {r7:List (List C)} {us:List Value} (h:RepVals w S [.lit (.int .i64 i0),.lit (.string t1),.lit (.int .i64 i2),.sl r3,.lit (.int .i64 i4),.lit (.string t5),.lit (.int .i64 i6),.sl r7] us):∃ v3 v7,us=[.int .i64 i0,.string t1,.int .i64 i2,v3,.int .i64 i4,.string t5,.int .i64 i6,v7]∧Rep w S (.sl r3) v3∧Rep w S (.sl r7) v7:=by
 obtain ⟨u0,u1,u2,u3,u4,u5,u6,u7,rfl⟩:=len8 h.len
 simp only [RepVals,Rep.lit_iff,and_true] at h
 obtain ⟨rfl,rfl,rfl,e3,rfl,rfl,rfl,e7⟩:=h
 exact ⟨u3,u7,rfl,e3,e7⟩
def szBindingC (row:List C):Prop:=∀ (S:Nat->Prop) (us:List Value) (left:Int) (w:World),okRow (fieldsOf .binding) row->RepVals w S row us->0<=left->left<=1048576 ->
 Calls Tryz.prog 79 #[.agg us.toArray,.int .i64 left] w fun e w'=>e=.returned (.int .i64 (sub left (bulkRow row)))∧Below w.heap.size w w'
def eqBindingC (row:List C):Prop:=∀ (S S':Nat->Prop) (us us':List Value) (w:World),okRow (fieldsOf .binding) row->RepVals w S row us->RepVals w S' row us' ->
 Calls Tryz.prog 101 #[.agg us.toArray,.agg us'.toArray] w fun e w'=>e=.returned (.bool true)∧Below w.heap.size w w'
def toBindingC (row:List C):Prop:=∀ (S:Nat->Prop) (us:List Value) (w:World),okRow (fieldsOf .binding) row->RepVals w S row us->bulkRow row<=1048576 ->
 Calls Tryz.prog 91 #[.agg us.toArray] w fun e w'=>∃ us':List Value,e=.returned (.agg us'.toArray)∧OwnVals w' row (fun x=>w.heap.size<=x∧x < w'.heap.size) us'∧Below w.heap.size w w'
def szBindingSC (rows:List (List C)):Prop:=∀ (S:Nat->Prop) (v:Value) (left:Int) (w:World),okRows (fieldsOf .binding) rows->Rep w S (.sl rows) v->0<=left->left<=1048576 ->
 Calls Tryz.prog 36 #[v,.int .i64 left] w fun e w'=>e=.returned (.int .i64 (sub left (rows.length+bulkRows rows)))∧Below w.heap.size w w'
def eqBindingSC (rows:List (List C)):Prop:=∀ (S S':Nat->Prop) (v v':Value) (w:World),okRows (fieldsOf .binding) rows->Rep w S (.sl rows) v->Rep w S' (.sl rows) v' ->
 Calls Tryz.prog 55 #[v,v'] w fun e w'=>e=.returned (.bool true)∧Below w.heap.size w w'
def toBindingSC (rows:List (List C)):Prop:=∀ (S:Nat->Prop) (v:Value) (w:World),okRows (fieldsOf .binding) rows->Rep w S (.sl rows) v->rows.length+bulkRows rows<=1048576 ->
 Calls Tryz.prog 47 #[v] w fun e w'=>∃ v',e=.returned v'∧Own w' (.sl rows) (fun x=>w.heap.size<=x∧x < w'.heap.size) v'∧Below w.heap.size w w'
set_option maxHeartbeats 1000000 in
theorem szBinding_of (row:List C):szBindingC row:=by
 intro S us left w hok hv h0 h1
 obtain ⟨i0,t1,i2,r3,i4,t5,i6,r7,rfl,g0,g1,g2,g3,g4,g5,g6,g7⟩:=okRow_Binding hok
 obtain ⟨v3,v7,rfl,e3,e7⟩:=repVals_Binding hv
 have HC0:=Lib.hid (szTerm_any [.lit (.int .i64 i0),.lit (.string t1),.lit (.int .i64 i2),.sl r3])
 have HC4:=Lib.hid (szTerm_any [.lit (.int .i64 i4),.lit (.string t5),.lit (.int .i64 i6),.sl r7])
 have HB:=Lib.hid (show bulkRow [.lit (.int .i64 i0),.lit (.string t1),.lit (.int .i64 i2),.sl r3,.lit (.int .i64 i4),.lit (.string t5),.lit (.int .i64 i6),.sl r7]=(bulkRow [.lit (.int .i64 i0),.lit (.string t1),.lit (.int .i64 i2),.sl r3])+(bulkRow [.lit (.int .i64 i4),.lit (.string t5),.lit (.int .i64 i6),.sl r7]) from by simp only [bulkRow,bulkC];omega)
 have G0:=Lib.hid g0
 have G1:=Lib.hid g1
 have G2:=Lib.hid g2
 have G3:=Lib.hid g3
 have G4:=Lib.hid g4
 have G5:=Lib.hid g5
 have G6:=Lib.hid g6
 have G7:=Lib.hid g7
 clear g0 g1 g2 g3 g4 g5 g6 g7 hok
 have E3:=Lib.hid e3
 have E7:=Lib.hid e7
 clear hv e3 e7
 generalize hrow:bulkRow [.lit (.int .i64 i0),.lit (.string t1),.lit (.int .i64 i2),.sl r3,.lit (.int .i64 i4),.lit (.string t5),.lit (.int .i64 i6),.sl r7]=total at HB ⊢
 clear hrow
 have hbw:=(Below.refl w.heap.size w).alloc (Nat.le_refl _) (.cells #[.int .i64 i0,.string t1,.int .i64 i2,v3,.int .i64 i4,.string t5,.int .i64 i6,v7] 138)
 go_enter Tryz.func79,Tryz.ntmps79
 go_wp2_with fail
 by_cases q0:left < ((bulkRow [.lit (.int .i64 i0),.lit (.string t1),.lit (.int .i64 i2),.sl r3]):Nat)
 ·refine (HC0.out S _ _ _ (mkRow_Term G0.out G1.out G2.out G3.out) (mkVals_Term (E3.out.below hbw)) (by omega) (by omega)).mono ?_
  rw [sub_neg (by omega)]
  rintro e w1 ⟨rfl,hb1⟩
  go_wp2
  go_ret
  exact ⟨ret_int (a:=-1) (sub_neg (by have:=HB.out;omega)).symm,hbw.trans (hb1.mono hbw.size)⟩
 refine (HC0.out S _ _ _ (mkRow_Term G0.out G1.out G2.out G3.out) (mkVals_Term (E3.out.below hbw)) (by omega) (by omega)).mono ?_
 rw [sub_pos (by omega)]
 rintro e w1 ⟨rfl,hb1⟩
 obtain ⟨hc1,hf1⟩:=bcell hb1
 have hz1:w.heap.size < w1.heap.size:=(by have:=hb1.size;(try simp at this);omega)
 replace hbw:=hbw.trans (hb1.mono hbw.size)
 go_wp2_with fail
 by_cases q4:(left - (((bulkRow [.lit (.int .i64 i0),.lit (.string t1),.lit (.int .i64 i2),.sl r3]):Nat):Int)) < ((bulkRow [.lit (.int .i64 i4),.lit (.string t5),.lit (.int .i64 i6),.sl r7]):Nat)
 ·refine (HC4.out S _ _ _ (mkRow_Term G4.out G5.out G6.out G7.out) (mkVals_Term (E7.out.below hbw)) (by omega) (by omega)).mono ?_
  rw [sub_neg (by omega)]
  rintro e w2 ⟨rfl,hb2⟩
  go_wp2
  go_ret
  exact ⟨ret_int (a:=-1) (sub_neg (by have:=HB.out;omega)).symm,hbw.trans (hb2.mono hbw.size)⟩
 refine (HC4.out S _ _ _ (mkRow_Term G4.out G5.out G6.out G7.out) (mkVals_Term (E7.out.below hbw)) (by omega) (by omega)).mono ?_
 rw [sub_pos (by omega)]
 rintro e w2 ⟨rfl,hb2⟩
 obtain ⟨hc2,hf2⟩:=bcell hb2
 have hz2:w.heap.size < w2.heap.size:=(by have:=hb2.size;(try simp at this);omega)
 replace hbw:=hbw.trans (hb2.mono hbw.size)
 go_wp2
 go_ret
 exact ⟨ret_int (by have:=HB.out;rw [sub_pos (by omega)];omega),hbw⟩
set_option maxHeartbeats 1000000 in
theorem eqBinding_of (row:List C):eqBindingC row:=by
 intro S S' us us' w hok hv hv'
 obtain ⟨i0,t1,i2,r3,i4,t5,i6,r7,rfl,g0,g1,g2,g3,g4,g5,g6,g7⟩:=okRow_Binding hok
 obtain ⟨v3,v7,rfl,e3,e7⟩:=repVals_Binding hv
 obtain ⟨x3,x7,rfl,d3,d7⟩:=repVals_Binding hv'
 have HC0:=Lib.hid (eqTerm_any [.lit (.int .i64 i0),.lit (.string t1),.lit (.int .i64 i2),.sl r3])
 have HC4:=Lib.hid (eqTerm_any [.lit (.int .i64 i4),.lit (.string t5),.lit (.int .i64 i6),.sl r7])
 have G0:=Lib.hid g0
 have G1:=Lib.hid g1
 have G2:=Lib.hid g2
 have G3:=Lib.hid g3
 have G4:=Lib.hid g4
 have G5:=Lib.hid g5
 have G6:=Lib.hid g6
 have G7:=Lib.hid g7
 clear g0 g1 g2 g3 g4 g5 g6 g7 hok
 have E3:=Lib.hid e3
 have D3:=Lib.hid d3
 have E7:=Lib.hid e7
 have D7:=Lib.hid d7
 clear hv hv' e3 d3 e7 d7
 have hbw:=((Below.refl w.heap.size w).alloc (Nat.le_refl _) (.cells #[.int .i64 i0,.string t1,.int .i64 i2,v3,.int .i64 i4,.string t5,.int .i64 i6,v7] 148)).alloc (by simp) (.cells #[.int .i64 i0,.string t1,.int .i64 i2,x3,.int .i64 i4,.string t5,.int .i64 i6,x7] 148)
 go_enter Tryz.func101,Tryz.ntmps101
 go_wp2_with fail
 refine (HC0.out S S' _ _ _ (mkRow_Term G0.out G1.out G2.out G3.out) (mkVals_Term (E3.out.below hbw)) (mkVals_Term (D3.out.below hbw))).mono ?_
 rintro e w1 ⟨rfl,hb1⟩
 obtain ⟨hc1,hf1⟩:=bcell hb1
 have hz1:w.heap.size+1 < w1.heap.size:=(by have:=hb1.size;(try simp at this);omega)
 have ha1:w.heap.size < w1.heap.size:=by omega
 replace hbw:=hbw.trans (hb1.mono hbw.size)
 go_wp2_with fail
 refine (HC4.out S S' _ _ _ (mkRow_Term G4.out G5.out G6.out G7.out) (mkVals_Term (E7.out.below hbw)) (mkVals_Term (D7.out.below hbw))).mono ?_
 rintro e w2 ⟨rfl,hb2⟩
 obtain ⟨hc2,hf2⟩:=bcell hb2
 have hz2:w.heap.size+1 < w2.heap.size:=(by have:=hb2.size;(try simp at this);omega)
 have ha2:w.heap.size < w2.heap.size:=by omega
 replace hbw:=hbw.trans (hb2.mono hbw.size)
 go_wp2
 go_ret
 exact ⟨rfl,hbw⟩
set_option maxHeartbeats 2000000 in
theorem toBinding_of (row:List C):toBindingC row:=by
 intro S us w hok hv hlen
 obtain ⟨i0,t1,i2,r3,i4,t5,i6,r7,rfl,g0,g1,g2,g3,g4,g5,g6,g7⟩:=okRow_Binding hok
 obtain ⟨v3,v7,rfl,e3,e7⟩:=repVals_Binding hv
 have HC0:=Lib.hid (toTerm_any [.lit (.int .i64 i0),.lit (.string t1),.lit (.int .i64 i2),.sl r3])
 have HC4:=Lib.hid (toTerm_any [.lit (.int .i64 i4),.lit (.string t5),.lit (.int .i64 i6),.sl r7])
 have G0:=Lib.hid g0
 have G1:=Lib.hid g1
 have G2:=Lib.hid g2
 have G3:=Lib.hid g3
 have G4:=Lib.hid g4
 have G5:=Lib.hid g5
 have G6:=Lib.hid g6
 have G7:=Lib.hid g7
 clear g0 g1 g2 g3 g4 g5 g6 g7 hok
 have E3:=Lib.hid e3
 have E7:=Lib.hid e7
 clear hv e3 e7
 have hl0:(bulkRow [.lit (.int .i64 i0),.lit (.string t1),.lit (.int .i64 i2),.sl r3])<=1048576:=by
  have e:(bulkRow [.lit (.int .i64 i0),.lit (.string t1),.lit (.int .i64 i2),.sl r3])<=bulkRow [.lit (.int .i64 i0),.lit (.string t1),.lit (.int .i64 i2),.sl r3,.lit (.int .i64 i4),.lit (.string t5),.lit (.int .i64 i6),.sl r7]:=by simp only [bulkRow,bulkC];omega
  exact Nat.le_trans e hlen
 have hl4:(bulkRow [.lit (.int .i64 i4),.lit (.string t5),.lit (.int .i64 i6),.sl r7])<=1048576:=by
  have e:(bulkRow [.lit (.int .i64 i4),.lit (.string t5),.lit (.int .i64 i6),.sl r7])<=bulkRow [.lit (.int .i64 i0),.lit (.string t1),.lit (.int .i64 i2),.sl r3,.lit (.int .i64 i4),.lit (.string t5),.lit (.int .i64 i6),.sl r7]:=by simp only [bulkRow,bulkC];omega
  exact Nat.le_trans e hlen
 clear hlen
 go_enter Tryz.func91,Tryz.ntmps91
 go_wp2_with fail
 refine (HC0.out S _ _ (mkRow_Term G0.out G1.out G2.out G3.out) (by exact mkVals_Term (E3.out.below (by repeat (first | refine Below.alloc ?_ (by simp;try omega) _ | exact Below.refl _ _)))) hl0).mono ?_
 rintro e w1 ⟨ys0,rfl,hown0,hb1⟩
 obtain ⟨y3,rfl,f3⟩:=repVals_Term (OwnVals.rep _ _ (fun _=>True) _ (fun _ _=>trivial) hown0)
 obtain ⟨A3,n3,cap3,rfl,_,_,_⟩:=f3.form
 clear f3
 have hz1:=hb1.size
 simp at hz1 hown0
 have HOWN0:=Lib.hid hown0
 clear hown0
 have hbw1:Below w.heap.size w w1:=Below.trans (by repeat (first | refine Below.alloc ?_ (by simp;try omega) _ | exact Below.refl _ _)) (hb1.mono (by simp;try omega))
 obtain ⟨hc1,hf1⟩:=bcell hb1
 have ha1:w.heap.size < w1.heap.size:=by omega
 have hbb1:w.heap.size+1 < w1.heap.size:=by omega
 have hcc1:w.heap.size+1+1 < w1.heap.size:=by omega
 go_wp2_with fail
 refine (HC4.out S _ _ (mkRow_Term G4.out G5.out G6.out G7.out) (by exact mkVals_Term (E7.out.below (by repeat (first | refine Below.setCell ?_ (by simp;try omega) _ | exact hbw1)))) hl4).mono ?_
 rintro e w2 ⟨ys4,rfl,hown4,hb2⟩
 obtain ⟨y7,rfl,f7⟩:=repVals_Term (OwnVals.rep _ _ (fun _=>True) _ (fun _ _=>trivial) hown4)
 obtain ⟨A7,n7,cap7,rfl,_,_,_⟩:=f7.form
 clear f7
 have hz2:=hb2.size
 simp at hz2 hown4
 have HOWN4:=Lib.hid hown4
 clear hown4
 have hbw2:Below w.heap.size w w2:=Below.trans (by repeat (first | refine Below.setCell ?_ (by simp;try omega) _ | exact hbw1)) (hb2.mono (by simp;try omega))
 obtain ⟨hc2,hf2⟩:=bcell hb2
 have ha2:w.heap.size < w2.heap.size:=by omega
 have hbb2:w.heap.size+1 < w2.heap.size:=by omega
 have hcc2:w.heap.size+1+1 < w2.heap.size:=by omega
 go_wp2
 refine bodyPost_ret (v:=.agg #[.int .i64 i0,.string t1,.int .i64 i2,.slice A3 n3 cap3,.int .i64 i4,.string t5,.int .i64 i6,.slice A7 n7 cap7]) (by simp [results,Tryz.results91,go_sem,hc1,ha1,hbb1,hcc1,hc2,ha2,hbb2,hcc2]) rfl ⟨[.int .i64 i0,.string t1,.int .i64 i2,.slice A3 n3 cap3,.int .i64 i4,.string t5,.int .i64 i6,.slice A7 n7 cap7],rfl,?_,(by repeat (first | refine Below.setCell ?_ (by simp;try omega) _ | exact hbw2))⟩
 simp
 exact (OwnVals.append (cs:=[.lit (.int .i64 i0),.lit (.string t1),.lit (.int .i64 i2),.sl r3]) (ds:=[.lit (.int .i64 i4),.lit (.string t5),.lit (.int .i64 i6),.sl r7]) (us:=[.int .i64 i0,.string t1,.int .i64 i2,.slice A3 n3 cap3]) (vs:=[.int .i64 i4,.string t5,.int .i64 i6,.slice A7 n7 cap7]) (fun x=>w.heap.size+1+1+1<=x∧x < w1.heap.size) (fun x=>w1.heap.size<=x∧x < w2.heap.size) (HOWN0.out.same (by repeat (first | refine Same.trans ?_ (Same.setCell _ _ _ _ (by simp;try omega)) | refine Same.trans ?_ ((Same.below hb2).mono (fun x hx=>by simp at hx ⊢;omega)) | exact Same.refl _ _))) (OwnVals.append (cs:=[.lit (.int .i64 i4),.lit (.string t5),.lit (.int .i64 i6),.sl r7]) (ds:=[]) (us:=[.int .i64 i4,.string t5,.int .i64 i6,.slice A7 n7 cap7]) (vs:=[]) (fun x=>w1.heap.size<=x∧x < w2.heap.size) (fun x=>w2.heap.size<=x∧x < w2.heap.size) (HOWN4.out.same (by repeat (first | refine Same.trans ?_ (Same.setCell _ _ _ _ (by simp;try omega)) | exact Same.refl _ _))) OwnVals.nil (fun x hx=>⟨by omega,by omega⟩) (fun x hx=>⟨by omega,by omega⟩) (fun x hx hy=>by omega)) (fun x hx=>⟨by omega,by omega⟩) (fun x hx=>⟨by omega,by omega⟩) (fun x hx hy=>by omega))
theorem szBinding_any (row:List C):szBindingC row:=szBinding_of row
theorem eqBinding_any (row:List C):eqBindingC row:=eqBinding_of row
theorem toBinding_any (row:List C):toBindingC row:=toBinding_of row
set_option maxHeartbeats 1000000 in
theorem szBindingS_of (rows:List (List C)) (h:∀ (i:Nat) r,rows[i]?=some r->szBindingC r):szBindingSC rows:=by
 intro S v left w hok hv h0 h1
 obtain ⟨A,m,cap,rfl,hm,hmc,hcm⟩:=hv.form
 have H:=Lib.hid h
 have HV:=Lib.hid hv
 have HM:=Lib.hid hm
 have HOK:=Lib.hid hok
 clear h hv hm hok
 unfold maxLen at hcm
 by_cases hlt:left - m < 0
 ·rw [sub_neg (by have:=HM.out;omega)]
  go_enter Tryz.func36,Tryz.ntmps36
  go_wp2
  go_ret
  exact ⟨rfl,Below.refl _ _⟩
 ·go_enter Tryz.func36,Tryz.ntmps36
  go_wp2
  go_loopw [1,5] (fun l i wr=>∃ k:Nat,k<=m∧i=.int .i64 k∧l=.int .i64 (left - m - (bulkRows (rows.take k):Int))∧0<=left - m - (bulkRows (rows.take k):Int)∧Below w.heap.size w wr) (fun _ i _=>m - (intOf i).toNat)
  case atStart=>exact ⟨0,Nat.zero_le _,rfl,by simp [bulkRows],by simp [bulkRows];omega,Below.refl _ _⟩
  case round =>
   obtain ⟨k,hk,rfl,rfl,hl0,hb⟩:=hrel
   by_cases hkm:k < m
   ·obtain ⟨b,off,r,rfl,hS,hbz,hget,hokr,hrow⟩:=(HV.out.below hb).get HOK.out hkm
    obtain ⟨u0,u1,u2,u3,u4,u5,u6,u7,c0,c1,c2,c3,c4,c5,c6,c7,hvals⟩:=hrow.vals8 hokr.len
    have HT:=H.out k r hget
    have HVALS:=Lib.hid hvals
    have HOKR:=Lib.hid hokr
    have HBT:=Lib.hid (bulk_take hget)
    have hle:=bulk_take_le rows (k+1)
    clear hvals hokr hrow hget
    simp only [fieldsOf,termF,occF,sortsF,sigF,moduleF,algF,List.cons_append,List.nil_append,List.length_cons,List.length_nil,Nat.reduceAdd,Nat.mul_one] at c0 c1 c2 c3 c4 c5 c6 c7
    by_cases h2:left - m - (bulkRows (rows.take k):Int) < bulkRow r
    ·go_wp2_with fail
     refine (HT S _ _ _ HOKR.out HVALS.out (by omega) (by omega)).mono ?_
     rw [sub_neg h2]
     rintro e w' ⟨rfl,hb2⟩
     go_wp2
     go_ret
     exact ⟨ret_int (a:=-1) (sub_neg (by have:=HBT.out;have:=HM.out;omega)).symm,hb.trans (hb2.mono hb.size)⟩
    ·go_wp2_with fail
     refine (HT S _ _ _ HOKR.out HVALS.out (by omega) (by omega)).mono ?_
     rw [sub_pos (by omega)]
     rintro e w' ⟨rfl,hb2⟩
     go_wp2
     go_roundw
     case rel=>exact ⟨k+1,by omega,by go_num,by have:=HBT.out;congr 1;omega,by have:=HBT.out;omega,hb.trans (hb2.mono hb.size)⟩
     case measure=>simp [intOf];omega
   ·go_wp2
    go_ret
    have e:k=m:=by omega
    subst e
    have:rows.take k=rows:=List.take_of_length_le (by have:=HM.out;omega)
    rw [this] at hl0 ⊢
    exact ⟨ret_int (by have:=HM.out;rw [sub_pos (by omega)];omega),hb⟩
set_option maxHeartbeats 1000000 in
theorem eqBindingS_of (rows:List (List C)) (h:∀ (i:Nat) r,rows[i]?=some r->eqBindingC r):eqBindingSC rows:=by
 intro S S' v v' w hok hv hv'
 obtain ⟨A,m,cap,rfl,hm,hmc,hcm⟩:=hv.form
 obtain ⟨A',m',cap',rfl,hm',hmc',hcm'⟩:=hv'.form
 obtain rfl:m=m':=by omega
 have H:=Lib.hid h
 have HV:=Lib.hid hv
 have HV':=Lib.hid hv'
 have HM:=Lib.hid hm
 have HOK:=Lib.hid hok
 clear h hv hm hok hm' hv'
 unfold maxLen at hcm hcm'
 go_enter Tryz.func55,Tryz.ntmps55
 go_wp2
 go_loopw [5] (fun i wr=>∃ k:Nat,k<=m∧i=.int .i64 k∧Below w.heap.size w wr) (fun i _=>m - (intOf i).toNat)
 case atStart=>exact ⟨0,Nat.zero_le _,rfl,Below.refl _ _⟩
 case round =>
  obtain ⟨k,hk,rfl,hb⟩:=hrel
  by_cases hkm:k < m
  ·obtain ⟨b,off,r,rfl,hS,hbz,hget,hokr,hrow⟩:=(HV.out.below hb).get HOK.out hkm
   obtain ⟨b',off',r',rfl,hS',hbz',hget',hokr',hrow'⟩:=(HV'.out.below hb).get HOK.out hkm
   obtain rfl:r=r':=by rw [hget] at hget';exact Option.some.inj hget'
   obtain ⟨u0,u1,u2,u3,u4,u5,u6,u7,c0,c1,c2,c3,c4,c5,c6,c7,hvals⟩:=hrow.vals8 hokr.len
   obtain ⟨x0,x1,x2,x3,x4,x5,x6,x7,d0,d1,d2,d3,d4,d5,d6,d7,hvals'⟩:=hrow'.vals8 hokr.len
   have HT:=H.out k r hget
   have HVALS:=Lib.hid hvals
   have HVALS':=Lib.hid hvals'
   have HOKR:=Lib.hid hokr
   clear hvals hvals' hokr hokr' hrow hrow' hget hget'
   simp only [fieldsOf,termF,occF,sortsF,sigF,moduleF,algF,List.cons_append,List.nil_append,List.length_cons,List.length_nil,Nat.reduceAdd,Nat.mul_one] at c0 c1 c2 c3 c4 c5 c6 c7 d0 d1 d2 d3 d4 d5 d6 d7
   have k0:(0:Int)<=(k:Int):=by omega
   have k1:(k:Int) < (m:Int):=by omega
   go_wp2_with fail
   go_region_held3 (fun w'=>∀ b o,b < wr.heap.size->w'.cell? ⟨b,o,none⟩=wr.cell? ⟨b,o,none⟩) (first | go_keep | exact fun b o h=>hb2.cell (p:=⟨b,o,none⟩) h) (first | (go_at_call 101;refine (HT S S' _ _ _ HOKR.out (HVALS.out.below (Below.refl _ _).drew) (HVALS'.out.below (Below.refl _ _).drew)).mono ?_;rintro e w' ⟨rfl,hb2⟩))
   go_wp2
   go_roundw
   case rel=>exact ⟨k+1,by omega,by go_num,hb.trans ((Below.refl _ _).drew.trans (hb2.mono hb.size))⟩
   case measure=>simp [intOf];omega
  ·go_wp2
   go_ret
   exact ⟨rfl,hb⟩
theorem info_Binding:(Tryz.prog.info? 148).map (fun i=>(i.zero,i.size,i.bytes))=some (some (.agg #[.int .i64 0,.string .empty,.int .i64 0,.slice none 0 0,.int .i64 0,.string .empty,.int .i64 0,.slice none 0 0]),8,112):=by kernel_rfl
set_option maxHeartbeats 1000000 in
theorem toBindingS_of (rows:List (List C)) (h:∀ (i:Nat) r,rows[i]?=some r->toBindingC r):toBindingSC rows:=by
 intro S v w hok hv hlen
 obtain ⟨A,m,cap,rfl,hm,hmc,hcm⟩:=hv.form
 obtain ⟨i0,hi,hz0,hz1,hz2⟩:=info_parts info_Binding
 have H:=Lib.hid h
 have HV:=Lib.hid hv
 have HM:=Lib.hid hm
 have HOK:=Lib.hid hok
 have hml:m<=1048576:=by omega
 clear h hv hm hok
 unfold maxLen at hcm
 have hmk:=run_make (P:=Tryz.prog) w 52 148 i0 _ Tryz.underlying52 hi hz0 .i64 .i64 (m:Int) (m:Int) (by omega) (by omega) (by rw [hz2];omega) (by omega)
 go_enter Tryz.func47,Tryz.ntmps47
 go_wp2
 clear hmk
 go_loopw [4] (fun i wr=>∃ k:Nat,k<=m∧i=.int .i64 k∧Filling w w.heap.size 148 m 8 rows k wr) (fun i _=>m - (intOf i).toNat)
 case atStart=>exact ⟨0,Nat.zero_le _,rfl,Filling.start (size_madeCells _ _)⟩
 case round =>
  obtain ⟨k,hk,rfl,hfill⟩:=hrel
  have hb:=hfill.1
  by_cases hkm:k < m
  ·obtain ⟨b,off,r,rfl,hS,hbz,hget,hokr,hrow⟩:=(HV.out.below hb).get HOK.out hkm
   obtain ⟨u0,u1,u2,u3,u4,u5,u6,u7,c0,c1,c2,c3,c4,c5,c6,c7,hvals⟩:=hrow.vals8 hokr.len
   have HT:=H.out k r hget
   have HVALS:=Lib.hid hvals
   have HOKR:=Lib.hid hokr
   have HGET:=Lib.hid hget
   have HF:=Lib.hid hfill
   have hbg:=bulk_get hget
   clear hvals hokr hrow hget hfill
   simp only [fieldsOf,termF,occF,sortsF,sigF,moduleF,algF,List.cons_append,List.nil_append,List.length_cons,List.length_nil,Nat.reduceAdd,Nat.mul_one] at c0 c1 c2 c3 c4 c5 c6 c7
   go_wp2_with fail
   refine (HT S _ _ HOKR.out HVALS.out (by omega)).mono ?_
   rintro e w2 ⟨us,rfl,hown,hb2⟩
   have hone:=HOKR.out.one (OwnVals.rep _ _ (fun _=>True) _ (fun _ _=>trivial) hown)
   obtain ⟨y0,y1,y2,y3,y4,y5,y6,y7,rfl⟩:=len8 (hown.len.trans HOKR.out.len)
   have HOWN:=Lib.hid hown
   have HONE:=Lib.hid hone
   obtain ⟨cur,hcur,hcs⟩:=HF.out.row hb2
   have HCUR:=Lib.hid hcur
   have HCS:=Lib.hid hcs
   clear hown hone hcur hcs
   go_wp2_with (refine wpList_store_put rfl 148 _ _ rfl w.heap.size (k * 8) rfl [y0,y1,y2,y3,y4,y5,y6,y7] rfl i0 hi hz1 148 cur HCUR.out (by have:=HCS.out;simp only [List.length_cons,List.length_nil];omega) HONE.out ?_;intro w3 hput)
   go_roundw
   case rel=>exact ⟨k+1,by omega,by go_num,HF.out.step (fs:=fieldsOf .binding) HOK.out HGET.out hb2 HOWN.out hput⟩
   case measure=>simp [intOf];omega
  ·go_wp2
   go_ret
   have e:k=m:=by omega
   subst e
   exact ⟨_,rfl,hfill.done HM.out (by unfold maxLen;omega) (by decide) HOK.out.lens⟩
theorem szBindingS_any (rows:List (List C)):szBindingSC rows:=szBindingS_of rows (fun _ r _=>szBinding_any r)
theorem eqBindingS_any (rows:List (List C)):eqBindingSC rows:=eqBindingS_of rows (fun _ r _=>eqBinding_any r)
theorem toBindingS_any (rows:List (List C)):toBindingSC rows:=toBindingS_of rows (fun _ r _=>toBinding_any r)
end Go.Proofs.YtohilkmdjdfljaaGreat
namespace Go.Proofs.YtohilkmdjdfljaaGreat
open Go.RowKit
theorem okRow_Occurrence {r:List C} (h:okRow (fieldsOf .occ) r):∃ (r0:List (List C)) (r1:List (List C)) (r2:List (List C)) (r3:List (List C)),r=[.sl r0,.sl r1,.sl r2,.sl r3]∧okRows (fieldsOf .int) r0∧okRows (fieldsOf .term) r1∧okRows (fieldsOf .term) r2∧okRows (fieldsOf .binding) r3:=by
 obtain ⟨c0,c1,c2,c3,rfl⟩:=len4 h.len
 simp only [fieldsOf,termF,occF,sortsF,sigF,moduleF,algF,List.cons_append,List.nil_append,okRow,and_true] at h
 obtain ⟨h0,h1,h2,h3⟩:=h
 obtain ⟨r0,rfl,g0⟩:=okC_sl h0
 obtain ⟨r1,rfl,g1⟩:=okC_sl h1
 obtain ⟨r2,rfl,g2⟩:=okC_sl h2
 obtain ⟨r3,rfl,g3⟩:=okC_sl h3
 exact ⟨r0,r1,r2,r3,rfl,g0,g1,g2,g3⟩
theorem repVals_Occurrence {w:World} {S:Nat->Prop} {r0:List (List C)} {r1:List (List C)} {r2:List (List C)} {r3:List (List C)} {us:List Value} (h:RepVals w S [.sl r0,.sl r1,.sl r2,.sl r3] us):∃ v0 v1 v2 v3,us=[v0,v1,v2,v3]∧Rep w S (.sl r0) v0∧Rep w S (.sl r1) v1∧Rep w S (.sl r2) v2∧Rep w S (.sl r3) v3:=by
 obtain ⟨u0,u1,u2,u3,rfl⟩:=len4 h.len
 simp only [RepVals,Rep.lit_iff,and_true] at h
 obtain ⟨e0,e1,e2,e3⟩:=h
 exact ⟨u0,u1,u2,u3,rfl,e0,e1,e2,e3⟩
def szOccurrenceC (row:List C):Prop:=∀ (S:Nat->Prop) (us:List Value) (left:Int) (w:World),okRow (fieldsOf .occ) row->RepVals w S row us->0<=left->left<=1048576 ->
 Calls Tryz.prog 8 #[.agg us.toArray,.int .i64 left] w fun e w'=>e=.returned (.int .i64 (sub left (bulkRow row)))∧Below w.heap.size w w'
def eqOccurrenceC (row:List C):Prop:=∀ (S S':Nat->Prop) (us us':List Value) (w:World),okRow (fieldsOf .occ) row->RepVals w S row us->RepVals w S' row us' ->
 Calls Tryz.prog 16 #[.agg us.toArray,.agg us'.toArray] w fun e w'=>e=.returned (.bool true)∧Below w.heap.size w w'
def toOccurrenceC (row:List C):Prop:=∀ (S:Nat->Prop) (us:List Value) (w:World),okRow (fieldsOf .occ) row->RepVals w S row us->bulkRow row<=1048576 ->
 Calls Tryz.prog 12 #[.agg us.toArray] w fun e w'=>∃ us':List Value,e=.returned (.agg us'.toArray)∧OwnVals w' row (fun x=>w.heap.size<=x∧x < w'.heap.size) us'∧Below w.heap.size w w'
set_option maxHeartbeats 1000000 in
theorem szOccurrence_of (row:List C):szOccurrenceC row:=by
 intro S us left w hok hv h0 h1
 obtain ⟨r0,r1,r2,r3,rfl,g0,g1,g2,g3⟩:=okRow_Occurrence hok
 obtain ⟨v0,v1,v2,v3,rfl,e0,e1,e2,e3⟩:=repVals_Occurrence hv
 have HC0:=Lib.hid (szIntS_any r0)
 have HC1:=Lib.hid (szTermS_any r1)
 have HC2:=Lib.hid (szTermS_any r2)
 have HC3:=Lib.hid (szBindingS_any r3)
 have HB:=Lib.hid (show bulkRow [.sl r0,.sl r1,.sl r2,.sl r3]=(r0.length+bulkRows r0)+(r1.length+bulkRows r1)+(r2.length+bulkRows r2)+(r3.length+bulkRows r3) from by simp only [bulkRow,bulkC];omega)
 have G0:=Lib.hid g0
 have G1:=Lib.hid g1
 have G2:=Lib.hid g2
 have G3:=Lib.hid g3
 clear g0 g1 g2 g3 hok
 have E0:=Lib.hid e0
 have E1:=Lib.hid e1
 have E2:=Lib.hid e2
 have E3:=Lib.hid e3
 clear hv e0 e1 e2 e3
 generalize hrow:bulkRow [.sl r0,.sl r1,.sl r2,.sl r3]=total at HB ⊢
 clear hrow
 have hbw:=(Below.refl w.heap.size w).alloc (Nat.le_refl _) (.cells #[v0,v1,v2,v3] 35)
 go_enter Tryz.func8,Tryz.ntmps8
 go_wp2_with fail
 by_cases q0:left < ((r0.length+bulkRows r0):Nat)
 ·refine (HC0.out S _ _ _ G0.out (E0.out.below hbw) (by omega) (by omega)).mono ?_
  rw [sub_neg (by omega)]
  rintro e w1 ⟨rfl,hb1⟩
  go_wp2
  go_ret
  exact ⟨ret_int (a:=-1) (sub_neg (by have:=HB.out;omega)).symm,hbw.trans (hb1.mono hbw.size)⟩
 refine (HC0.out S _ _ _ G0.out (E0.out.below hbw) (by omega) (by omega)).mono ?_
 rw [sub_pos (by omega)]
 rintro e w1 ⟨rfl,hb1⟩
 obtain ⟨hc1,hf1⟩:=bcell hb1
 have hz1:w.heap.size < w1.heap.size:=(by have:=hb1.size;(try simp at this);omega)
 replace hbw:=hbw.trans (hb1.mono hbw.size)
 go_wp2_with fail
 by_cases q1:(left - (((r0.length+bulkRows r0):Nat):Int)) < ((r1.length+bulkRows r1):Nat)
 ·refine (HC1.out S _ _ _ G1.out (E1.out.below hbw) (by omega) (by omega)).mono ?_
  rw [sub_neg (by omega)]
  rintro e w2 ⟨rfl,hb2⟩
  go_wp2
  go_ret
  exact ⟨ret_int (a:=-1) (sub_neg (by have:=HB.out;omega)).symm,hbw.trans (hb2.mono hbw.size)⟩
 refine (HC1.out S _ _ _ G1.out (E1.out.below hbw) (by omega) (by omega)).mono ?_
 rw [sub_pos (by omega)]
 rintro e w2 ⟨rfl,hb2⟩
 obtain ⟨hc2,hf2⟩:=bcell hb2
 have hz2:w.heap.size < w2.heap.size:=(by have:=hb2.size;(try simp at this);omega)
 replace hbw:=hbw.trans (hb2.mono hbw.size)
 go_wp2_with fail
 by_cases q2:((left - (((r0.length+bulkRows r0):Nat):Int)) - (((r1.length+bulkRows r1):Nat):Int)) < ((r2.length+bulkRows r2):Nat)
 ·refine (HC2.out S _ _ _ G2.out (E2.out.below hbw) (by omega) (by omega)).mono ?_
  rw [sub_neg (by omega)]
  rintro e w3 ⟨rfl,hb3⟩
  go_wp2
  go_ret
  exact ⟨ret_int (a:=-1) (sub_neg (by have:=HB.out;omega)).symm,hbw.trans (hb3.mono hbw.size)⟩
 refine (HC2.out S _ _ _ G2.out (E2.out.below hbw) (by omega) (by omega)).mono ?_
 rw [sub_pos (by omega)]
 rintro e w3 ⟨rfl,hb3⟩
 obtain ⟨hc3,hf3⟩:=bcell hb3
 have hz3:w.heap.size < w3.heap.size:=(by have:=hb3.size;(try simp at this);omega)
 replace hbw:=hbw.trans (hb3.mono hbw.size)
 go_wp2_with fail
 by_cases q3:(((left - (((r0.length+bulkRows r0):Nat):Int)) - (((r1.length+bulkRows r1):Nat):Int)) - (((r2.length+bulkRows r2):Nat):Int)) < ((r3.length+bulkRows r3):Nat)
 ·refine (HC3.out S _ _ _ G3.out (E3.out.below hbw) (by omega) (by omega)).mono ?_
  rw [sub_neg (by omega)]
  rintro e w4 ⟨rfl,hb4⟩
  go_wp2
  go_ret
  exact ⟨ret_int (a:=-1) (sub_neg (by have:=HB.out;omega)).symm,hbw.trans (hb4.mono hbw.size)⟩
 refine (HC3.out S _ _ _ G3.out (E3.out.below hbw) (by omega) (by omega)).mono ?_
 rw [sub_pos (by omega)]
 rintro e w4 ⟨rfl,hb4⟩
 obtain ⟨hc4,hf4⟩:=bcell hb4
 have hz4:w.heap.size < w4.heap.size:=(by have:=hb4.size;(try simp at this);omega)
 replace hbw:=hbw.trans (hb4.mono hbw.size)
 go_wp2
 go_ret
 exact ⟨ret_int (by have:=HB.out;rw [sub_pos (by omega)];omega),hbw⟩
set_option maxHeartbeats 1000000 in
theorem eqOccurrence_of (row:List C):eqOccurrenceC row:=by
 intro S S' us us' w hok hv hv'
 obtain ⟨r0,r1,r2,r3,rfl,g0,g1,g2,g3⟩:=okRow_Occurrence hok
 obtain ⟨v0,v1,v2,v3,rfl,e0,e1,e2,e3⟩:=repVals_Occurrence hv
 obtain ⟨x0,x1,x2,x3,rfl,d0,d1,d2,d3⟩:=repVals_Occurrence hv'
 have HC0:=Lib.hid (eqIntS_any r0)
 have HC1:=Lib.hid (eqTermS_any r1)
 have HC2:=Lib.hid (eqTermS_any r2)
 have HC3:=Lib.hid (eqBindingS_any r3)
 have G0:=Lib.hid g0
 have G1:=Lib.hid g1
 have G2:=Lib.hid g2
 have G3:=Lib.hid g3
 clear g0 g1 g2 g3 hok
 have E0:=Lib.hid e0
 have D0:=Lib.hid d0
 have E1:=Lib.hid e1
 have D1:=Lib.hid d1
 have E2:=Lib.hid e2
 have D2:=Lib.hid d2
 have E3:=Lib.hid e3
 have D3:=Lib.hid d3
 clear hv hv' e0 d0 e1 d1 e2 d2 e3 d3
 have hbw:=((Below.refl w.heap.size w).alloc (Nat.le_refl _) (.cells #[v0,v1,v2,v3] 54)).alloc (by simp) (.cells #[x0,x1,x2,x3] 54)
 go_enter Tryz.func16,Tryz.ntmps16
 go_wp2_with fail
 refine (HC0.out S S' _ _ _ G0.out (E0.out.below hbw) (D0.out.below hbw)).mono ?_
 rintro e w1 ⟨rfl,hb1⟩
 obtain ⟨hc1,hf1⟩:=bcell hb1
 have hz1:w.heap.size+1 < w1.heap.size:=(by have:=hb1.size;(try simp at this);omega)
 have ha1:w.heap.size < w1.heap.size:=by omega
 replace hbw:=hbw.trans (hb1.mono hbw.size)
 go_wp2_with fail
 refine (HC1.out S S' _ _ _ G1.out (E1.out.below hbw) (D1.out.below hbw)).mono ?_
 rintro e w2 ⟨rfl,hb2⟩
 obtain ⟨hc2,hf2⟩:=bcell hb2
 have hz2:w.heap.size+1 < w2.heap.size:=(by have:=hb2.size;(try simp at this);omega)
 have ha2:w.heap.size < w2.heap.size:=by omega
 replace hbw:=hbw.trans (hb2.mono hbw.size)
 go_wp2_with fail
 refine (HC2.out S S' _ _ _ G2.out (E2.out.below hbw) (D2.out.below hbw)).mono ?_
 rintro e w3 ⟨rfl,hb3⟩
 obtain ⟨hc3,hf3⟩:=bcell hb3
 have hz3:w.heap.size+1 < w3.heap.size:=(by have:=hb3.size;(try simp at this);omega)
 have ha3:w.heap.size < w3.heap.size:=by omega
 replace hbw:=hbw.trans (hb3.mono hbw.size)
 go_wp2_with fail
 refine (HC3.out S S' _ _ _ G3.out (E3.out.below hbw) (D3.out.below hbw)).mono ?_
 rintro e w4 ⟨rfl,hb4⟩
 obtain ⟨hc4,hf4⟩:=bcell hb4
 have hz4:w.heap.size+1 < w4.heap.size:=(by have:=hb4.size;(try simp at this);omega)
 have ha4:w.heap.size < w4.heap.size:=by omega
 replace hbw:=hbw.trans (hb4.mono hbw.size)
 go_wp2
 go_ret
 exact ⟨rfl,hbw⟩
set_option maxHeartbeats 2000000 in
theorem toOccurrence_of (row:List C):toOccurrenceC row:=by
 intro S us w hok hv hlen
 obtain ⟨r0,r1,r2,r3,rfl,g0,g1,g2,g3⟩:=okRow_Occurrence hok
 obtain ⟨v0,v1,v2,v3,rfl,e0,e1,e2,e3⟩:=repVals_Occurrence hv
 have HC0:=Lib.hid (toIntS_any r0)
 have HC1:=Lib.hid (toTermS_any r1)
 have HC2:=Lib.hid (toTermS_any r2)
 have HC3:=Lib.hid (toBindingS_any r3)
 have G0:=Lib.hid g0
 have G1:=Lib.hid g1
 have G2:=Lib.hid g2
 have G3:=Lib.hid g3
 clear g0 g1 g2 g3 hok
 have E0:=Lib.hid e0
 have E1:=Lib.hid e1
 have E2:=Lib.hid e2
 have E3:=Lib.hid e3
 clear hv e0 e1 e2 e3
 have hl0:(r0.length+bulkRows r0)<=1048576:=by
  have e:(r0.length+bulkRows r0)<=bulkRow [.sl r0,.sl r1,.sl r2,.sl r3]:=by simp only [bulkRow,bulkC];omega
  exact Nat.le_trans e hlen
 have hl1:(r1.length+bulkRows r1)<=1048576:=by
  have e:(r1.length+bulkRows r1)<=bulkRow [.sl r0,.sl r1,.sl r2,.sl r3]:=by simp only [bulkRow,bulkC];omega
  exact Nat.le_trans e hlen
 have hl2:(r2.length+bulkRows r2)<=1048576:=by
  have e:(r2.length+bulkRows r2)<=bulkRow [.sl r0,.sl r1,.sl r2,.sl r3]:=by simp only [bulkRow,bulkC];omega
  exact Nat.le_trans e hlen
 have hl3:(r3.length+bulkRows r3)<=1048576:=by
  have e:(r3.length+bulkRows r3)<=bulkRow [.sl r0,.sl r1,.sl r2,.sl r3]:=by simp only [bulkRow,bulkC];omega
  exact Nat.le_trans e hlen
 clear hlen
 go_enter Tryz.func12,Tryz.ntmps12
 go_wp2_with fail
 refine (HC0.out S _ _ G0.out (by exact E0.out.below (by repeat (first | refine Below.alloc ?_ (by simp;try omega) _ | exact Below.refl _ _))) hl0).mono ?_
 rintro e w1 ⟨y0,rfl,hown0,hb1⟩
 obtain ⟨A0,n0,cap0,rfl,_,_,_⟩:=(Own.rep _ _ _ hown0).form
 have hz1:=hb1.size
 simp at hz1 hown0
 have HOWN0:=Lib.hid hown0
 clear hown0
 have hbw1:Below w.heap.size w w1:=Below.trans (by repeat (first | refine Below.alloc ?_ (by simp;try omega) _ | exact Below.refl _ _)) (hb1.mono (by simp;try omega))
 obtain ⟨hc1,hf1⟩:=bcell hb1
 have ha1:w.heap.size < w1.heap.size:=by omega
 have hbb1:w.heap.size+1 < w1.heap.size:=by omega
 have hcc1:w.heap.size+1+1 < w1.heap.size:=by omega
 go_wp2_with fail
 refine (HC1.out S _ _ G1.out (by exact E1.out.below (by repeat (first | refine Below.setCell ?_ (by simp;try omega) _ | exact hbw1))) hl1).mono ?_
 rintro e w2 ⟨y1,rfl,hown1,hb2⟩
 obtain ⟨A1,n1,cap1,rfl,_,_,_⟩:=(Own.rep _ _ _ hown1).form
 have hz2:=hb2.size
 simp at hz2 hown1
 have HOWN1:=Lib.hid hown1
 clear hown1
 have hbw2:Below w.heap.size w w2:=Below.trans (by repeat (first | refine Below.setCell ?_ (by simp;try omega) _ | exact hbw1)) (hb2.mono (by simp;try omega))
 obtain ⟨hc2,hf2⟩:=bcell hb2
 have ha2:w.heap.size < w2.heap.size:=by omega
 have hbb2:w.heap.size+1 < w2.heap.size:=by omega
 have hcc2:w.heap.size+1+1 < w2.heap.size:=by omega
 go_wp2_with fail
 refine (HC2.out S _ _ G2.out (by exact E2.out.below (by repeat (first | refine Below.setCell ?_ (by simp;try omega) _ | exact hbw2))) hl2).mono ?_
 rintro e w3 ⟨y2,rfl,hown2,hb3⟩
 obtain ⟨A2,n2,cap2,rfl,_,_,_⟩:=(Own.rep _ _ _ hown2).form
 have hz3:=hb3.size
 simp at hz3 hown2
 have HOWN2:=Lib.hid hown2
 clear hown2
 have hbw3:Below w.heap.size w w3:=Below.trans (by repeat (first | refine Below.setCell ?_ (by simp;try omega) _ | exact hbw2)) (hb3.mono (by simp;try omega))
 obtain ⟨hc3,hf3⟩:=bcell hb3
 have ha3:w.heap.size < w3.heap.size:=by omega
 have hbb3:w.heap.size+1 < w3.heap.size:=by omega
 have hcc3:w.heap.size+1+1 < w3.heap.size:=by omega
 go_wp2_with fail
 refine (HC3.out S _ _ G3.out (by exact E3.out.below (by repeat (first | refine Below.setCell ?_ (by simp;try omega) _ | exact hbw3))) hl3).mono ?_
 rintro e w4 ⟨y3,rfl,hown3,hb4⟩
 obtain ⟨A3,n3,cap3,rfl,_,_,_⟩:=(Own.rep _ _ _ hown3).form
 have hz4:=hb4.size
 simp at hz4 hown3
 have HOWN3:=Lib.hid hown3
 clear hown3
 have hbw4:Below w.heap.size w w4:=Below.trans (by repeat (first | refine Below.setCell ?_ (by simp;try omega) _ | exact hbw3)) (hb4.mono (by simp;try omega))
 obtain ⟨hc4,hf4⟩:=bcell hb4
 have ha4:w.heap.size < w4.heap.size:=by omega
 have hbb4:w.heap.size+1 < w4.heap.size:=by omega
 have hcc4:w.heap.size+1+1 < w4.heap.size:=by omega
 go_wp2
 refine bodyPost_ret (v:=.agg #[.slice A0 n0 cap0,.slice A1 n1 cap1,.slice A2 n2 cap2,.slice A3 n3 cap3]) (by simp [results,Tryz.results12,go_sem,hc1,ha1,hbb1,hcc1,hc2,ha2,hbb2,hcc2,hc3,ha3,hbb3,hcc3,hc4,ha4,hbb4,hcc4]) rfl ⟨[.slice A0 n0 cap0,.slice A1 n1 cap1,.slice A2 n2 cap2,.slice A3 n3 cap3],rfl,?_,(by repeat (first | refine Below.setCell ?_ (by simp;try omega) _ | exact hbw4))⟩
 simp
 exact (OwnVals.cons (fun x=>w.heap.size+1+1+1<=x∧x < w1.heap.size) (fun x=>w1.heap.size<=x∧x < w4.heap.size) (HOWN0.out.same (by repeat (first | refine Same.trans ?_ (Same.setCell _ _ _ _ (by simp;try omega)) | refine Same.trans ?_ ((Same.below hb2).mono (fun x hx=>by simp at hx ⊢;omega)) | refine Same.trans ?_ ((Same.below hb3).mono (fun x hx=>by simp at hx ⊢;omega)) | refine Same.trans ?_ ((Same.below hb4).mono (fun x hx=>by simp at hx ⊢;omega)) | exact Same.refl _ _))) (OwnVals.cons (fun x=>w1.heap.size<=x∧x < w2.heap.size) (fun x=>w2.heap.size<=x∧x < w4.heap.size) (HOWN1.out.same (by repeat (first | refine Same.trans ?_ (Same.setCell _ _ _ _ (by simp;try omega)) | refine Same.trans ?_ ((Same.below hb3).mono (fun x hx=>by simp at hx ⊢;omega)) | refine Same.trans ?_ ((Same.below hb4).mono (fun x hx=>by simp at hx ⊢;omega)) | exact Same.refl _ _))) (OwnVals.cons (fun x=>w2.heap.size<=x∧x < w3.heap.size) (fun x=>w3.heap.size<=x∧x < w4.heap.size) (HOWN2.out.same (by repeat (first | refine Same.trans ?_ (Same.setCell _ _ _ _ (by simp;try omega)) | refine Same.trans ?_ ((Same.below hb4).mono (fun x hx=>by simp at hx ⊢;omega)) | exact Same.refl _ _))) (OwnVals.cons (fun x=>w3.heap.size<=x∧x < w4.heap.size) (fun x=>w4.heap.size<=x∧x < w4.heap.size) (HOWN3.out.same (by repeat (first | refine Same.trans ?_ (Same.setCell _ _ _ _ (by simp;try omega)) | exact Same.refl _ _))) OwnVals.nil (fun x hx=>⟨by omega,by omega⟩) (fun x hx=>⟨by omega,by omega⟩) (fun x hx hy=>by omega)) (fun x hx=>⟨by omega,by omega⟩) (fun x hx=>⟨by omega,by omega⟩) (fun x hx hy=>by omega)) (fun x hx=>⟨by omega,by omega⟩) (fun x hx=>⟨by omega,by omega⟩) (fun x hx hy=>by omega)) (fun x hx=>⟨by omega,by omega⟩) (fun x hx=>⟨by omega,by omega⟩) (fun x hx hy=>by omega))
theorem szOccurrence_any (row:List C):szOccurrenceC row:=szOccurrence_of row
theorem eqOccurrence_any (row:List C):eqOccurrenceC row:=eqOccurrence_of row
theorem toOccurrence_any (row:List C):toOccurrenceC row:=toOccurrence_of row
end Go.Proofs.YtohilkmdjdfljaaGreat
namespace Go.Proofs.YtohilkmdjdfljaaGreat
open Go.RowKit
structure Bd where
 var:Tm
 to:Tm
def encBd (b:Bd):List C:=encTm b.var++encTm b.to
def okBd (b:Bd):Prop:=okTm b.var∧okTm b.to
theorem decBd:∀ row,okRow (fieldsOf .binding) row->∃ b,row=encBd b∧okBd b:=fun row h=>by
 obtain ⟨i0,t1,i2,r3,i4,t5,i6,r7,rfl,g0,g1,g2,g3,g4,g5,g6,g7⟩:=okRow_Binding h
 obtain ⟨a,rfl,ha⟩:=decTms g3
 obtain ⟨a',rfl,ha'⟩:=decTms g7
 exact ⟨⟨.mk i0 t1 i2 a,.mk i4 t5 i6 a'⟩,by simp [encBd,encTm],by simp only [okTm];exact ⟨g0,g1,g2,ha⟩,by simp only [okTm];exact ⟨g4,g5,g6,ha'⟩⟩
structure Occ where
 path:List Int
 left:List Tm
 right:List Tm
 mat:List Bd
def encOcc (o:Occ):List C:=[.sl (o.path.map encInt),.sl (encTms o.left),.sl (encTms o.right),.sl (o.mat.map encBd)]
def okOcc (o:Occ):Prop:=(∀ n∈o.path,I64 n)∧okTms o.left∧okTms o.right∧∀ b∈o.mat,okBd b
theorem decOcc {row:List C} (h:okRow occF row):∃ o,row=encOcc o∧okOcc o:=by
 obtain ⟨r0,r1,r2,r3,rfl,g0,g1,g2,g3⟩:=okRow_Occurrence h
 obtain ⟨p,rfl,hp⟩:=decL decInt g0
 obtain ⟨l,rfl,hl⟩:=decTms g1
 obtain ⟨r,rfl,hr⟩:=decTms g2
 obtain ⟨m,rfl,hm⟩:=decL decBd g3
 exact ⟨⟨p,l,r,m⟩,rfl,hp,hl,hr,hm⟩
end Go.Proofs.YtohilkmdjdfljaaGreat
namespace Go.Proofs.YtohilkmdjdfljaaGreat
open Go.RowKit
def wo:List Tm->List Tm->List Tm × Bool
 | l,[]=>(l,true)
 | [],_::_=>([],false)
 | a::l,o::os=>if cmpTm a o=0 then wo l os else (a::(wo l (o::os)).1,(wo l (o::os)).2)
theorem wo_nil (l:List Tm):wo l []=(l,true):=by cases l <;> rfl
def rmT (s:Tm):List Tm->Option (List Tm)
 | []=>none
 | a::l=>if cmpTm a s=0 then some l else (rmT s l).map (a::·)
def takeL:List Tm->List Tm->Option (List Tm)
 | l,[]=>some l
 | l,s::ss=>(rmT s l).bind fun l'=>takeL l' ss
theorem rmT_none {s:Tm} {l:List Tm} (h:∀ a∈l,cmpTm a s≠0):rmT s l=none:=by
 induction l with
 | nil=>rfl
 | cons a l ih =>
  simp only [rmT,if_neg (h a List.mem_cons_self),ih fun x hx=>h x (List.mem_cons_of_mem _ hx),Option.map_none]
theorem rmT_at {s:Tm}:∀ {l:List Tm} {i:Nat} {x:Tm},l[i]?=some x->cmpTm x s=0->(∀ (j:Nat) a,j < i->l[j]?=some a->cmpTm a s≠0)->rmT s l=some (l.take i++l.drop (i+1))
 | [],i,x,h,_,_=>by simp at h
 | a::l,0,x,h,hx,_=>by
  simp at h;subst h
  simp [rmT,hx]
 | a::l,i+1,x,h,hx,hb=>by
  have h0:=hb 0 a (by omega) (by simp)
  have:=rmT_at (l:=l) (i:=i) (by simpa using h) hx fun j b hj hjb=>hb (j+1) b (by omega) (by simpa using hjb)
  simp [rmT,h0,this]
theorem rmT_len {s:Tm}:∀ {l l':List Tm},rmT s l=some l'->l'.length+1=l.length
 | [],l',h=>by simp [rmT] at h
 | a::l,l',h=>by
  simp only [rmT] at h
  split at h
  ·injection h with h;subst h;simp
  ·cases hr:rmT s l with
   | none=>rw [hr] at h;cases h
   | some r =>
    rw [hr] at h
    injection h with h
    subst h
    have:=rmT_len hr
    simp;omega
theorem takeL_len:∀ {ss l l':List Tm},takeL l ss=some l'->l'.length+ss.length=l.length
 | [],l,l',h=>by simp only [takeL] at h;injection h with h;subst h;simp
 | s::ss,l,l',h=>by
  simp only [takeL] at h
  cases hr:rmT s l with
  | none=>rw [hr] at h;cases h
  | some r =>
   rw [hr] at h
   have h1:=takeL_len (ss:=ss) h
   have h2:=rmT_len hr
   simp only [List.length_cons];omega
def AscE (l:List Tm):Prop:=l.Pairwise fun a b=>cmpTm a b<=0
theorem rmT_cons {a s:Tm} {l:List Tm} (h:cmpTm a s≠0):rmT s (a::l)=(rmT s l).map (a::·):=by simp [rmT,h]
theorem takeL_cons {a:Tm}:∀ {ss l:List Tm},(∀ s∈ss,cmpTm a s≠0)->takeL (a::l) ss=(takeL l ss).map (a::·)
 | [],l,_=>rfl
 | s::ss,l,h=>by
  simp only [takeL,rmT_cons (h s List.mem_cons_self)]
  cases hr:rmT s l with
  | none=>rfl
  | some r =>
   simp only [Option.map_some,Option.bind_some]
   exact takeL_cons fun x hx=>h x (List.mem_cons_of_mem _ hx)
theorem wo_take:∀ {l os:List Tm},AscE l->AscE os->((wo l os).2=true ↔ (takeL l os).isSome=true)∧((wo l os).2=true->takeL l os=some (wo l os).1)
 | l,[],_,_=>by rw [wo_nil];simp [takeL]
 | [],o::os,_,_=>by simp [wo,takeL,rmT]
 | a::l,o::os,hl,ho=>by
  have hl':=List.pairwise_cons.1 hl
  have ho':=List.pairwise_cons.1 ho
  by_cases h:cmpTm a o=0
  ·have ih:=wo_take (l:=l) (os:=os) hl'.2 ho'.2
   simp only [wo,if_pos h,takeL,rmT,Option.bind_some]
   exact ih
  ·have ih:=wo_take (l:=l) (os:=o::os) hl'.2 ho
   simp only [wo,if_neg h]
   by_cases hlt:cmpTm a o < 0
   ·have hne:∀ s∈o::os,cmpTm a s≠0:=fun s hs e=>by
     rcases List.mem_cons.1 hs with rfl | hs
     ·omega
     ·have h1:=ho'.1 s hs
      have h2:=(cmpTm_tri a o s).1.2.1 hlt h1
      omega
    rw [takeL_cons hne]
    refine ⟨by rw [ih.1];cases takeL l (o::os) <;> simp,fun hw=>?_⟩
    rw [ih.2 hw];rfl
   ·have hgt:∀ x∈a::l,cmpTm x o≠0:=fun x hx e=>by
     rcases List.mem_cons.1 hx with rfl | hx
     ·exact h e
     ·have h1:=hl'.1 x hx
      have h2:=cmpTm_zero e
      subst h2
      omega
    have hn:takeL (a::l) (o::os)=none:=by simp only [takeL,rmT_none hgt,Option.bind_none]
    have hn2:takeL l (o::os)=none:=by simp only [takeL,rmT_none fun x hx=>hgt x (List.mem_cons_of_mem _ hx),Option.bind_none]
    rw [hn2] at ih
    rw [hn]
    refine ⟨by rw [ih.1],fun hw=>?_⟩
    have:=ih.1.1 hw
    cases this
theorem wo_asc:∀ {l os:List Tm},AscE l->(wo l os).2=true->AscE os
 | l,[],_,_=>List.Pairwise.nil
 | [],o::os,_,h=>by simp [wo] at h
 | a::l,o::os,hl,h=>by
  have hl':=List.pairwise_cons.1 hl
  by_cases hc:cmpTm a o=0
  ·simp only [wo,if_pos hc] at h
   have:=wo_asc hl'.2 h
   have e:=cmpTm_zero hc
   subst e
   refine List.pairwise_cons.2 ⟨fun s hs=>?_,this⟩
   exact hl'.1 s (wo_mem h s hs)
  ·simp only [wo,if_neg hc] at h
   exact wo_asc hl'.2 h
where wo_mem:∀ {l os:List Tm},(wo l os).2=true->∀ s∈os,s∈l
 | l,[],_,s,hs=>by cases hs
 | [],o::os,h,s,hs=>by simp [wo] at h
 | a::l,o::os,h,s,hs=>by
  by_cases hc:cmpTm a o=0
  ·simp only [wo,if_pos hc] at h
   have e:=cmpTm_zero hc
   subst e
   rcases List.mem_cons.1 hs with rfl | hs
   ·exact List.mem_cons_self
   ·exact List.mem_cons_of_mem _ (wo_mem h s hs)
  ·simp only [wo,if_neg hc] at h
   exact List.mem_cons_of_mem _ (wo_mem h s hs)
theorem drop_getT {α:Type} {l:List α} {i:Nat} {x:α} (h:l[i]?=some x):l.drop i=x::l.drop (i+1):=by
 obtain ⟨hl,hx⟩:=List.getElem?_eq_some_iff.1 h
 rw [<- hx];exact List.drop_eq_getElem_cons hl
set_option maxHeartbeats 8000000 in
set_option maxRecDepth 100000 in
theorem con_without (l os:List Tm) (hll:l.length<=1048576) (hol:os.length<=1048576):Con e0 95 [.one (.sl (encTms l)),.one (.sl (encTms os))] [.one (.sl (encTms (wo l os).1)),.one (.lit (.bool (wo l os).2))]:=by
 refine gI (ts:=[.slot 4,.slot 5]) 268466931 Tryz.func95 ?_
 (have F:=@tmz;refine gG ?_;clear F)
 (have F:=@encTms_nil;refine gL (ι:=Nat × Nat × List Tm) [6,7,9,13,14,28] [6] (fun x=>[(13,A.d (.one (.lit (.int .i64 x.1)))),(7,A.d (.one (.lit (.int .i64 x.2.1)))),(6,.buf 6)]) (fun x=>[(6,.buf none 41 4 (encTms x.2.2))]) (fun x=>x.1<=l.length∧x.2.1<=os.length∧x.2.2.length<=x.1∧(wo l os)=(x.2.2++(wo (l.drop x.1) (os.drop x.2.1)).1,(wo (l.drop x.1) (os.drop x.2.1)).2)) (fun x=>l.length - x.1) ((0,0,[])) (⟨Nat.zero_le _,Nat.zero_le _,Nat.le_refl _,rfl⟩) (fun x hx=>?_);clear F)
 obtain ⟨i,k,out⟩:=x
 obtain ⟨hi,hk,hol2,hw⟩:=hx
 simp only at hi hk hol2 hw
 by_cases hlt:i < l.length
 rotate_left
 ·obtain rfl:i=l.length:=by omega
  have q1:((l.length:Int) < (l.length:Int))=False:=eq_false (by omega)
  rw [hw]
  dsimp only
  rw [List.drop_length] at hw ⊢
  by_cases hke:k=os.length
  ·subst hke
   have q2:((os.length:Int)=(os.length:Int))=True:=eq_true rfl
   rw [List.drop_length,wo_nil,List.append_nil]
   (have F:=ai @q1 (ai @q2 @tmz);refine gG ?_;clear F)
   (have F:=ai @q1 (ai @q2 @tmz);refine gG ?_;exact gTz [4])
  ·have q2:((k:Int)=(os.length:Int))=False:=eq_false (by omega)
   obtain ⟨o,ho⟩:∃ o,os[k]?=some o:=⟨_,List.getElem?_eq_getElem (by omega)⟩
   have e:wo [] (os.drop k)=([],false):=by rw [drop_getT ho];rfl
   rw [e,List.append_nil]
   (have F:=ai @q1 (ai @q2 @tmz);refine gG ?_;clear F)
   (have F:=ai @q1 (ai @q2 @tmz);refine gG ?_;exact gTz [4])
 obtain ⟨a,ha⟩:∃ a,l[i]?=some a:=⟨_,List.getElem?_eq_getElem hlt⟩
 have q1:((i:Int) < (l.length:Int))=True:=eq_true (by omega)
 have hwi:=wrap1 (k:=i) (by omega)
 have l1:rowsB 4 (encTms out)=true:=rb_tm _
 have l3:(out.length+1<=maxApp)=True:=eq_true (by unfold maxApp;omega)
 have l4:encTms out++[encTm a]=encTms (out++[a]):=by rw [encTms_app,encTms_one]
 have hla:(out++[a]).length<=i+1:=by simp;omega
 by_cases hko:k < os.length
 rotate_left
 ·have q2:((k:Int) < (os.length:Int))=False:=eq_false (by omega)
  have hst:wo l os=(out++[a]++(wo (l.drop (i+1)) (os.drop k)).1,(wo (l.drop (i+1)) (os.drop k)).2):=by
   have hd:os.drop k=[]:=List.drop_eq_nil_of_le (by omega)
   rw [hw,drop_getT ha,hd,wo_nil,wo_nil];simp
  (have F:=ai @q1 (ai @q2 (ai @ha (ai @tmz (ai @l1 (ai @l3 (ai @l4 @hwi))))));refine gG ?_;exact ⟨(i+1,k,out++[a]),⟨hlt,hk,hla,hst⟩,gw,gw,by omega⟩)
 obtain ⟨o,ho⟩:∃ o,os[k]?=some o:=⟨_,List.getElem?_eq_getElem hko⟩
 have q2:((k:Int) < (os.length:Int))=True:=eq_true (by omega)
 have hwk:=wrap1 (k:=k) (by omega)
 (have F:=ai @q1 (ai @ha @tmz);refine gG ?_;clear F)
 refine gB ?_
 (have F:=ai @q1 (ai @q2 (ai @ha (ai @ho (ai @natInt @tmz))));refine gC (con_implSame a o) ?_;clear F)
 by_cases hc:cmpTm a o=0
 ·have z:=decide_eq_true hc
  have hst:wo l os=(out++(wo (l.drop (i+1)) (os.drop (k+1))).1,(wo (l.drop (i+1)) (os.drop (k+1))).2):=by
   rw [hw,drop_getT ha,drop_getT ho,wo,if_pos hc]
  (have F:=@z;refine gR ?_;clear F)
  (have F:=ai @z (ai @hwk @hwi);refine gG ?_;exact ⟨(i+1,k+1,out),⟨hlt,hko,Nat.le_succ_of_le hol2,hst⟩,gw,gw,by omega⟩)
 ·have z:=decide_eq_false hc
  have hst:wo l os=(out++[a]++(wo (l.drop (i+1)) (os.drop k)).1,(wo (l.drop (i+1)) (os.drop k)).2):=by
   rw [hw,drop_getT ha,drop_getT ho,wo,if_neg hc,<- drop_getT ho];simp
  (have F:=@z;refine gR ?_;clear F)
  (have F:=ai @z (ai @tmz (ai @l1 (ai @l3 (ai @l4 @hwi))));refine gG ?_;exact ⟨(i+1,k,out++[a]),⟨hlt,hk,hla,hst⟩,gw,gw,by omega⟩)
open Classical in
noncomputable def sameL (a b:List Tm):Bool:=decide (a=b)
set_option maxHeartbeats 8000000 in
set_option maxRecDepth 100000 in
theorem con_equalFunc (a b:List Tm) (ha:a.length<=1048576) (hb:b.length<=1048576):Con e0 96 [.one (.sl (encTms a)),.one (.sl (encTms b)),.one (.fn 97 [])] [.one (.lit (.bool (sameL a b)))]:=by
 refine gI 1074250695 Tryz.func96 ?_
 by_cases hl:a.length=b.length
 rotate_left
 ·have q1:((a.length:Int)=(b.length:Int))=False:=eq_false (by omega)
  have e:sameL a b=false:=by simp only [sameL,decide_eq_false_iff_not];intro h;rw [h] at hl;exact hl rfl
  (have F:=ai @q1 (ai @tmz @e);refine gG ?_;exact gT)
 have q1:((a.length:Int)=(b.length:Int))=True:=eq_true (by omega)
 (have F:=ai @q1 @tmz;refine gG ?_;clear F)
 (have F:=@e0P;refine gL (ι:=Nat) [6,7,8,9,17,18,30] [] (fun i=>[(17,A.d (.one (.lit (.int .i64 i))))]) (fun i=>[]) (fun i=>i<=a.length∧∀ (j:Nat) x y,j < i->a[j]?=some x->b[j]?=some y->x=y) (fun i=>a.length - i) (0) (⟨Nat.zero_le _,fun j x y h=>absurd h (by omega)⟩) (fun i hi=>?_);clear F)
 obtain ⟨hi,hall⟩:=hi
 by_cases hlt:i < a.length
 rotate_left
 ·have q2:((i:Int) < (a.length:Int))=False:=eq_false (by omega)
  have e:sameL a b=true:=by
   simp only [sameL,decide_eq_true_eq]
   refine List.ext_getElem hl fun j h1 h2=>hall j _ _ (by omega) (List.getElem?_eq_getElem h1) (List.getElem?_eq_getElem h2)
  (have F:=ai @q2 (ai @tmz @e);refine gG ?_;exact gT)
 obtain ⟨x,hx⟩:∃ x,a[i]?=some x:=⟨_,List.getElem?_eq_getElem hlt⟩
 obtain ⟨y,hy⟩:∃ y,b[i]?=some y:=⟨_,List.getElem?_eq_getElem (by omega)⟩
 have q2:((i:Int) < (a.length:Int))=True:=eq_true (by omega)
 have hwi:=wrap1 (k:=i) (by omega)
 (have F:=ai @q2 (ai @hx (ai @hy (ai @natInt @tmz)));refine gG ?_;clear F)
 refine gB ?_
 (have F:=@tmz;refine gC (con_implSame x y) ?_;clear F)
 by_cases hc:cmpTm x y=0
 ·have z:=decide_eq_true hc
  have hst:∀ (j:Nat) x y,j < i+1->a[j]?=some x->b[j]?=some y->x=y:=fun j u v hj hu hv=>by
   by_cases e:j=i
   ·subst e
    rw [hx] at hu;rw [hy] at hv
    injection hu with hu;injection hv with hv
    subst hu hv
    exact cmpTm_zero hc
   ·exact hall j u v (by omega) hu hv
  (have F:=@z;refine gR ?_;clear F)
  (have F:=ai @z @hwi;refine gG ?_;exact ⟨i+1,⟨hlt,hst⟩,gw,gw,by omega⟩)
 ·have z:=decide_eq_false hc
  have e:sameL a b=false:=by
   simp only [sameL,decide_eq_false_iff_not]
   intro h
   subst h
   rw [hx] at hy
   injection hy with hy
   subst hy
   exact hc (cmpTm_self x)
  (have F:=@z;refine gR ?_;clear F)
  (have F:=ai @z @e;refine gG ?_;exact gT)
end Go.Proofs.YtohilkmdjdfljaaGreat
namespace Go.Proofs.YtohilkmdjdfljaaGreat
open Go.RowKit
def bytesTy (P:Program) (s d:TypeId):Bool:=match P.underlying s,P.underlying d with
 | some (.slice e),some .string=>match P.underlying e with
  | some (.int .u8)=>true
  | _=>false
 | _,_=>false
def oneByte (b:Int):ByteArray:=ByteArray.empty.push (UInt8.ofNat b.toNat)
section
variable {e:Env} {σ:St} {o:Oper} {K:St->Prop}
theorem step_byte {s d:TypeId} {x:Operand} {b:Int} (ho:o.op=.convert s d x) (hx:evA σ.s x=.d (.clip [[.lit (.int .u8 b)]])) (ht:bytesTy e.P s d=true) (hK:K ⟨setA σ.s o.dst (.d (.one (.lit (.string (oneByte b))))),σ.m⟩):StepOk e o σ K:=by
 intro he U w0 S0 nt a w Q hd ⟨S,L,h⟩
 refine Oper.wp_mono (fun a' w' hs=>⟨_,hK,hs⟩) (gives_then h hd (givesA_pure fun w S L ρv hC hr=>?_))
 have hx':=hr x (by simp [ho,Op.operands])
 rw [hx] at hx'
 obtain ⟨⟨A,n,cap,hv,hn,_,_,hb⟩,_⟩:=hx'
 simp only [List.length_cons,List.length_nil,Nat.zero_add] at hn
 subst hn
 obtain ⟨g,off,rfl,_,_,hrow⟩:=hb (by decide)
 simp only [RepRows,RepRow,Rep,and_true] at hrow
 obtain ⟨u,hc,rfl⟩:=hrow
 have hl:=run_loadCells_list (P:=e.P) w ⟨g,off,none⟩ [.int .u8 b] (fun j u hj=>by
  cases j with
  | zero=>simp at hj;subst hj;rw [Addr.add_at];exact hc
  | succ j=>simp at hj)
 unfold bytesTy at ht
 split at ht
 ·rename_i e1 h1 h2
  split at ht
  ·rename_i h3
   refine ⟨.string (oneByte b),?_,by simp [ARel,DRel,Rep]⟩
   simp only [List.length_cons,List.length_nil,Nat.zero_add] at hl
   simp [execOp,ho,hv,convert,underlying,h1,h2,h3,Conv.bytesToString,hl,oneByte,Result.andThen]
  ·cases ht
 ·cases ht
end
theorem gY {e:Env} {K:St->Prop} {ds:List (Option Nat)} {os:List Oper} {d t1 t2 ty:Nat} {p:String} {ed:Array Edge} {x:Operand} {s:List (Nat × A)} {m:List (Nat × Bk)} {b:Int} (hK:Runs e ds 0 os ⟨(d,.d (.one (.lit (.string (oneByte b)))))::s,m⟩ K)
  (hx:evA s x=.d (.clip [[.lit (.int .u8 b)]]):=by exact snx) (ht:bytesTy e.P t1 t2=true:=by kernel_rfl):Runs e ds 0 (⟨some d,.convert t1 t2 x,ty,p,ed,none⟩::os) ⟨s,m⟩ K:=by
 simp only [Runs] at hK ⊢
 exact runsS_step rfl (step_byte (o:=⟨some d,.convert t1 t2 x,ty,p,ed,none⟩) rfl hx ht hK)
end Go.Proofs.YtohilkmdjdfljaaGreat
namespace Go.Proofs.YtohilkmdjdfljaaGreat
open Go.RowKit
def dig (n:Nat):ByteArray:=oneByte (IntKind.u8.wrap (IntKind.i64.wrap (48+(n:Int).tmod 10)))
def txtL (n:Nat) (acc:ByteArray):ByteArray:=if h:n=0 then acc else txtL (n / 10) (dig n++acc)
termination_by n
decreasing_by omega
def txt (k:Int):ByteArray:=if k<=0 then ⟨#[109,48]⟩ else ⟨#[109]⟩++txtL k.toNat ByteArray.empty
theorem txtL_z (acc:ByteArray):txtL 0 acc=acc:=by rw [txtL];simp
theorem txtL_s {n:Nat} (h:n≠0) (acc:ByteArray):txtL n acc=txtL (n / 10) (dig n++acc):=by rw [txtL];simp [h]
theorem dig_size (n:Nat):(dig n).size=1:=rfl
set_option maxHeartbeats 4000000 in
set_option maxRecDepth 100000 in
theorem con_markText (k:Int) (hk:k<=1000000000) (hk0:0<=k):Con e0 75 [.one (.lit (.int .i64 k))] [.one (.lit (.string (txt k)))]:=by
 by_cases h0:k<=0
 ·have h:txt k=⟨#[109,48]⟩:=by unfold txt;rw [if_pos h0]
  have q1:(k<=0)=True:=eq_true h0
  rw [h]
  refine gI (ts:=[.slot 2]) 173 Tryz.func75 ?_
  (have F:=@q1;refine gG ?_;exact gTd)
 ·have h:txt k=⟨#[109]⟩++txtL k.toNat ByteArray.empty:=by unfold txt;rw [if_neg h0]
  have q1:(k<=0)=False:=eq_false h0
  rw [h]
  obtain ⟨n,rfl⟩:∃ n:Nat,k=n:=⟨k.toNat,by omega⟩
  rw [Int.toNat_natCast]
  refine gI (ts:=[.slot 2]) 173 Tryz.func75 ?_
  (have F:=@q1;refine gG ?_;clear F)
  (have F:=@q1;refine gL (ι:=Nat × ByteArray) [0,3,7] [] (fun x=>[(0,.d (.one (.lit (.int .i64 (x.1:Int))))),(3,.d (.one (.lit (.string x.2))))]) (fun x=>[]) (fun x=>txtL n ByteArray.empty=txtL x.1 x.2∧x.2.size+x.1<=n) (fun x=>x.1) ((n,⟨#[]⟩)) (⟨rfl,by show 0+n<=n;omega⟩) (fun x hx=>?_);clear F)
  obtain ⟨j,acc⟩:=x
  obtain ⟨h1,h2⟩:=hx
  simp only at h1 h2
  rw [h1]
  clear h1
  by_cases hj:j=0
  ·subst hj
   have q2:(((0:Nat):Int) > 0)=False:=eq_false (by omega)
   rw [txtL_z]
   have q5:((ByteArray.mk #[109]).size+acc.size<=9223372036854775807)=True:=eq_true (by show 1+acc.size<=_;omega)
   (have F:=ai @q2 @q5;refine gG ?_;exact gTd)
  ·have q2:((j:Int) > 0)=True:=eq_true (by omega)
   rw [txtL_s hj]
   have q3:IntKind.i64.wrap ((j:Int).tdiv 10)=((j / 10:Nat):Int):=by rw [show (j:Int).tdiv 10=((j / 10:Nat):Int) from by rw [Int.ofNat_tdiv];rfl];exact IntWalk.i64_in _ (by omega)
   (have F:=@q2;have NN:StopAt 5:=trivial;refine gGn ?_;clear F NN)
   refine gB ?_
   (have F:=@q2;refine gP 5 ?_;clear F)
   refine gY ?_
   have q5:((dig j).size+acc.size<=9223372036854775807)=True:=eq_true (by rw [dig_size];omega)
   change Runs _ _ _ _ ⟨(13,.d (.one (.lit (.string (dig j)))))::_,_⟩ _
   (have F:=ai @q2 @q5;refine gR ?_;clear F)
   have hd:=dig_size j
   (have F:=ai @q2 @q3;refine gG ?_;exact ⟨(j / 10,dig j++acc),⟨rfl,by rw [ByteArray.size_append,hd];omega⟩,gw,gw,by omega⟩)
end Go.Proofs.YtohilkmdjdfljaaGreat
namespace Go.Proofs.YtohilkmdjdfljaaGreat
open Go.RowKit
def mkV (k:Int):Value->Value
 | .int i _=>.int i k
 | .string _=>.string (txt k)
 | .bool _=>.bool (k % 3==0)
 | v=>v
mutual
def mkC:Int->C->C
 | k,.lit v=>.lit (mkV k v)
 | k,.sl rows=>.sl (mkRows k rows)
 | _,.ptr cs=>.ptr cs
 | _,.fn f cs=>.fn f cs
def mkRow:Int->List C->List C
 | _,[]=>[]
 | k,c::cs=>mkC k c::mkRow (k+cntC c) cs
def mkRows:Int->List (List C)->List (List C)
 | _,[]=>[]
 | k,r::rs=>mkRow k r::mkRows (k+cntRow r) rs
def cntC:C->Nat
 | .lit _=>1
 | .sl rows=>cntRows rows
 | .ptr _=>0
 | .fn _ _=>0
def cntRow:List C->Nat
 | []=>0
 | c::cs=>cntC c+cntRow cs
def cntRows:List (List C)->Nat
 | []=>0
 | r::rs=>cntRow r+cntRows rs
end
theorem mkRow_len:∀ (k:Int) (cs:List C),(mkRow k cs).length=cs.length
 | _,[]=>by simp [mkRow]
 | k,c::cs=>by simp [mkRow,mkRow_len _ cs]
theorem mkRows_len:∀ (k:Int) (rs:List (List C)),(mkRows k rs).length=rs.length
 | _,[]=>by simp [mkRows]
 | k,c::cs=>by simp [mkRows,mkRows_len _ cs]
theorem cnt_snoc:∀ (rs:List (List C)) (r:List C),cntRows (rs++[r])=cntRows rs+cntRow r
 | [],r=>by simp [cntRows]
 | q::rs,r=>by simp [cntRows,cnt_snoc rs r];omega
theorem mkRows_snoc:∀ (rs:List (List C)) (r:List C) (k:Int),mkRows k (rs++[r])=mkRows k rs++[mkRow (k+cntRows rs) r]
 | [],r,k=>by simp [mkRows,cntRows]
 | q::rs,r,k=>by simp [mkRows,cntRows,mkRows_snoc rs r,Int.add_assoc]
theorem tk_snoc {α:Type} {l:List α} {i:Nat} {x:α} (h:l[i]?=some x):l.take (i+1)=l.take i++[x]:=by simp [List.take_add_one,h]
theorem drop_get {α:Type} {l:List α} {i:Nat} {x:α} (h:l[i]?=some x):l.drop i=x::l.drop (i+1):=by
 obtain ⟨h1,rfl⟩:=List.getElem?_eq_some_iff.1 h
 exact List.drop_eq_getElem_cons h1
theorem cnt_take_le:∀ (rs:List (List C)) (i:Nat),cntRows (rs.take i)<=cntRows rs
 | [],i=>by simp [cntRows]
 | r::rs,0=>by simp [cntRows]
 | r::rs,i+1=>by have:=cnt_take_le rs i;simp only [List.take_succ_cons,cntRows];omega
theorem apart_2 {x y:Bk} (h:∀ g,pblk x g->¬ pblk y g):Apart [x,y]:=⟨fun z hz g hg=>by simp at hz;subst hz;exact h g hg,apart_1 _⟩
theorem fd_nil {E:Nat->Prop} {v:Value}:Found (ι:=Option Addr × Nat) [.set E (fun w=>Own w (.sl []) E v)] (fun i=>v=.slice i.1 0 i.2) (fun _=>[.set E (fun w=>Own w (.sl []) E v)]):=fun w S h ha=>by
 obtain ⟨h1,h2,h3⟩:_∧Own w (.sl []) E v∧_:=h (.set E (fun w=>Own w (.sl []) E v)) (by simp)
 simp only [Own] at h2
 obtain ⟨A,n,cap,hv,hn,_⟩:=h2
 simp at hn
 subst hn
 exact ⟨(A,cap),hv,h,ha,fun _ h=>h⟩
theorem fd_open {E:Nat->Prop} {v:Value} {rows:List (List C)} {sz:Nat} (hne:rows≠[]) (hrl:rowsLen sz rows):Found (ι:=Option Addr × Nat × Nat × List (List Value) × (Nat->Prop)) [.set E (fun w=>Own w (.sl rows) E v)]
  (fun i=>v=.slice i.1 i.2.2.2.1.length i.2.1∧i.2.2.2.1.length=rows.length∧rows.length<=maxLen) (fun i=>[.buf (some (i.1,i.2.1)) i.2.2.1 sz (i.2.2.2.1.map litRow),.set i.2.2.2.2 (fun w=>OwnVs w rows i.2.2.2.2 i.2.2.2.1)]):=fun w S h ha=>by
 obtain ⟨h1,h2,h3⟩:(∀ b,E b->b < w.heap.size∧¬ S b)∧Own w (.sl rows) E v∧_:=h (.set E (fun w=>Own w (.sl rows) E v)) (by simp)
 obtain ⟨A,n,cap,rfl,hn1,hn2,hn3⟩:=(Own.rep _ _ _ h2).form
 obtain ⟨uss,ety,E',rfl,k1,k2,k3,k4⟩:=Own.open (T:=S) (fun b hb=>(h1 b hb).2) hne hrl h2
 refine ⟨(A,cap,ety,uss,E'),⟨rfl,k2.len,by omega⟩,fun x hx=>?_,apart_2 fun g hg hg2=>?_,fun g ⟨x,hx,hg⟩=>⟨_,List.mem_cons_self,?_⟩⟩
 ·simp only [List.mem_cons,List.not_mem_nil,or_false] at hx
  rcases hx with rfl | rfl
  ·show BufRel w S ety sz (uss.map litRow) (.slice A (uss.map litRow).length cap)
   rw [List.length_map];exact k1
  ·exact ⟨fun b hb=>h1 b (k3 b hb).1,k2,OwnVs.stable _ _ _⟩
 ·simp only [pblk,List.length_map] at hg hg2
  exact (k3 g hg2).2 hg
 ·simp only [List.mem_cons,List.not_mem_nil,or_false] at hx
  rcases hx with rfl | rfl
  ·simp only [pblk,List.length_map] at hg;exact k4 g hg
  ·exact (k3 g hg).1
def cellSets:List C->List Value->(Nat->Nat->Prop)->List Bk
 | .sl rows::cs,u::us,Es=>.set (Es 0) (fun w=>Own w (.sl rows) (Es 0) u)::cellSets cs us (fun k=>Es (k+1))
 | .lit _::cs,_::us,Es=>cellSets cs us Es
 | _,_,_=>[]
def litsOk:List C->List Value->Prop
 | [],[]=>True
 | .lit x::cs,u::us=>u=x∧litsOk cs us
 | .sl _::cs,_::us=>litsOk cs us
 | _,_=>False
def plainC:C->Bool
 | .lit _=>true
 | .sl _=>true
 | _=>false
theorem cells_of {w:World} {S:Nat->Prop}:∀ {cs:List C} {us:List Value} {E:Nat->Prop},cs.all plainC=true->OwnVals w cs E us->(∀ b,E b->b < w.heap.size∧¬ S b)->∃ Es,litsOk cs us∧(∀ x∈cellSets cs us Es,PinRel w S x)∧Apart (cellSets cs us Es)∧∀ g,pblks (cellSets cs us Es) g->E g
 | [],[],E,_,_,_=>⟨fun _ _=>False,trivial,by simp [cellSets],trivial,fun g ⟨x,hx,_⟩=>by simp [cellSets] at hx⟩
 | c::cs,u::us,E,hp,h,hE=>by
  simp only [OwnVals] at h
  obtain ⟨S1,S2,i1,i2,hd,h1,h2⟩:=h
  simp only [List.all_cons,Bool.and_eq_true] at hp
  obtain ⟨Es,k1,k2,k3,k4⟩:=cells_of hp.2 h2 (fun b hb=>hE b (i2 b hb))
  cases c with
  | lit x =>
   simp only [Own] at h1
   exact ⟨Es,⟨h1,k1⟩,k2,k3,fun g hg=>i2 g (k4 g hg)⟩
  | sl rows =>
   refine ⟨fun k=>match k with | 0=>S1 | k+1=>Es k,k1,fun x hx=>?_,⟨fun y hy g hg hg2=>hd g hg (k4 g ⟨y,hy,hg2⟩),k3⟩,fun g ⟨x,hx,hg⟩=>?_⟩
   ·simp only [cellSets,List.mem_cons] at hx
    rcases hx with rfl | hx
    ·exact ⟨fun b hb=>hE b (i1 b hb),h1,Own.stable _ _ _⟩
    ·exact k2 x hx
   ·simp only [cellSets,List.mem_cons] at hx
    rcases hx with rfl | hx
    ·exact i1 g hg
    ·exact i2 g (k4 g ⟨x,hx,hg⟩)
  | ptr _=>simp [plainC] at hp
  | fn _ _=>simp [plainC] at hp
 | [],_::_,_,_,h,_=>by simp [OwnVals] at h
 | _::_,[],_,_,h,_=>by simp [OwnVals] at h
theorem OwnVals.of_cells {w:World} {S:Nat->Prop}:∀ {cs:List C} {us:List Value} {Es:Nat->Nat->Prop},cs.all plainC=true->litsOk cs us->(∀ x∈cellSets cs us Es,PinRel w S x)->Apart (cellSets cs us Es)->OwnVals w cs (pblks (cellSets cs us Es)) us
 | [],[],Es,_,_,_,_=>OwnVals.nil
 | .lit x::cs,u::us,Es,hp,hl,h,ha=>by
  obtain ⟨rfl,hl⟩:=hl
  simp only [List.all_cons,Bool.and_eq_true] at hp
  simp only [OwnVals]
  exact ⟨fun _=>False,_,fun _ h=>h.elim,fun _ h=>h,fun _ h _=>h,by simp [Own],OwnVals.of_cells (Es:=Es) hp.2 hl h ha⟩
 | .sl rows::cs,u::us,Es,hp,hl,h,ha=>by
  simp only [List.all_cons,Bool.and_eq_true] at hp
  simp only [OwnVals]
  obtain ⟨a1,a2⟩:=ha
  have hE:=h (.set (Es 0) (fun w=>Own w (.sl rows) (Es 0) u)) List.mem_cons_self
  refine ⟨Es 0,pblks (cellSets cs us (fun k=>Es (k+1))),fun b hb=>⟨_,List.mem_cons_self,hb⟩,fun b ⟨x,hx,hb⟩=>⟨x,List.mem_cons_of_mem _ hx,hb⟩,fun b hb ⟨x,hx,hb2⟩=>a1 x hx b hb hb2,hE.2.1,OwnVals.of_cells hp.2 hl (fun x hx=>h x (List.mem_cons_of_mem _ hx)) a2⟩
 | .ptr _::_,_::_,_,hp,_,_,_=>by simp [plainC] at hp
 | .fn _ _::_,_::_,_,hp,_,_,_=>by simp [plainC] at hp
 | [],_::_,_,_,hl,_,_=>by simp [litsOk] at hl
 | .lit _::_,[],_,_,hl,_,_=>by simp [litsOk] at hl
 | .sl _::_,[],_,_,hl,_,_=>by simp [litsOk] at hl
theorem cellSets_set:∀ {cs:List C} {us:List Value} {Es:Nat->Nat->Prop} (y:Bk),y∈cellSets cs us Es->∃ E G,y=.set E G
 | .sl rows::cs,u::us,Es,y,h=>by
  rcases List.mem_cons.1 h with rfl | h
  ·exact ⟨_,_,rfl⟩
  ·exact cellSets_set y h
 | .lit _::cs,_::us,Es,y,h=>cellSets_set (cs:=cs) (us:=us) y h
 | .ptr _::_,_,_,y,h=>by simp [cellSets] at h
 | .fn _ _::_,_,_,y,h=>by simp [cellSets] at h
 | [],_,_,y,h=>by simp [cellSets] at h
 | .lit _::_,[],_,y,h=>by simp [cellSets] at h
 | .sl _::_,[],_,y,h=>by simp [cellSets] at h
theorem fd_lits {E:Nat->Prop} {r:List C} {rest:List (List C)} {us:List Value} {urest:List (List Value)} (hp:r.all plainC=true):Found (ι:=Unit) [.set E (fun w=>OwnVs w (r::rest) E (us::urest))] (fun _=>litsOk r us) (fun _=>[.set E (fun w=>OwnVs w (r::rest) E (us::urest))]):=fun w S h ha=>by
 obtain ⟨h1,h2,h3⟩:(∀ b,E b->b < w.heap.size∧¬ S b)∧OwnVs w (r::rest) E (us::urest)∧_:=h (.set E (fun w=>OwnVs w (r::rest) E (us::urest))) (by simp)
 obtain ⟨S1,S2,i1,i2,hd,k1,k2⟩:=h2
 obtain ⟨Es,hl,_⟩:=cells_of (S:=S) hp k1 (fun b hb=>h1 b (i1 b hb))
 exact ⟨(),hl,h,ha,fun _ h=>h⟩
theorem fd_row {E:Nat->Prop} {r:List C} {rest:List (List C)} {us:List Value} {urest:List (List Value)} (hp:r.all plainC=true):Found (ι:=(Nat->Prop) × (Nat->Nat->Prop)) [.set E (fun w=>OwnVs w (r::rest) E (us::urest))] (fun _=>True) (fun i=>.set i.1 (fun w=>OwnVs w rest i.1 urest)::cellSets r us i.2):=fun w S h ha=>by
 obtain ⟨h1,h2,h3⟩:(∀ b,E b->b < w.heap.size∧¬ S b)∧OwnVs w (r::rest) E (us::urest)∧_:=h (.set E (fun w=>OwnVs w (r::rest) E (us::urest))) (by simp)
 obtain ⟨S1,S2,i1,i2,hd,k1,k2⟩:=h2
 obtain ⟨Es,hl,q1,q2,q3⟩:=cells_of (S:=S) hp k1 (fun b hb=>h1 b (i1 b hb))
 refine ⟨(S2,Es),trivial,fun x hx=>?_,⟨fun y hy g hg hg2=>hd g (q3 g ⟨y,hy,hg2⟩) hg,q2⟩,fun g ⟨x,hx,hg⟩=>⟨_,List.mem_cons_self,?_⟩⟩
 ·rcases List.mem_cons.1 hx with rfl | hx
  ·exact ⟨fun b hb=>h1 b (i2 b hb),k2,OwnVs.stable _ _ _⟩
  ·exact q1 x hx
 ·rcases List.mem_cons.1 hx with rfl | hx
  ·exact i2 g hg
  ·exact i1 g (q3 g ⟨x,hx,hg⟩)
theorem re_row {E:Nat->Prop} {done:List (List C)} {ud:List (List Value)} {cs:List C} {us:List Value} {Es:Nat->Nat->Prop} (hp:cs.all plainC=true) (hl:litsOk cs us):Retold (.set E (fun w=>OwnVs w done E ud)::cellSets cs us Es) [.set (fun b=>E b∨pblks (cellSets cs us Es) b) (fun w=>OwnVs w (done++[cs]) (fun b=>E b∨pblks (cellSets cs us Es) b) (ud++[us]))]:=fun w S h ha=>by
 have hE:=h (.set E (fun w=>OwnVs w done E ud)) List.mem_cons_self
 have hv:=OwnVals.of_cells (w:=w) (S:=S) hp hl (fun x hx=>h x (List.mem_cons_of_mem _ hx)) ha.2
 refine ⟨fun x hx=>?_,apart_1 _,fun g ⟨x,hx,hg⟩=>?_⟩
 ·simp only [List.mem_cons,List.not_mem_nil,or_false] at hx
  subst hx
  refine ⟨fun b hb=>?_,OwnVs.snoc hE.2.1 hv (fun _ h=>.inl h) (fun _ h=>.inr h) (fun b hb ⟨y,hy,hg⟩=>ha.1 y hy b hb hg),OwnVs.stable _ _ _⟩
  rcases hb with hb | ⟨y,hy,hg⟩
  ·exact hE.1 b hb
  ·obtain ⟨E',G',rfl⟩:=cellSets_set y hy
   exact (h _ (List.mem_cons_of_mem _ hy)).1 b hg
 ·simp only [List.mem_cons,List.not_mem_nil,or_false] at hx
  subst hx
  rcases hg with hg | ⟨y,hy,hg⟩
  ·exact ⟨_,List.mem_cons_self,hg⟩
  ·exact ⟨y,List.mem_cons_of_mem _ hy,hg⟩
end Go.Proofs.YtohilkmdjdfljaaGreat
namespace Go.Proofs.YtohilkmdjdfljaaGreat
open Go.RowKit
theorem subAt_bulk:∀ (ps:List Int) (t:Tm),bulkRow (encTm (subAt t ps).1)<=bulkRow (encTm t)
 | [],t=>Nat.le_refl _
 | p::ps,t=>by
  rw [subAt]
  split
  ·rw [zTm_u];simp [bulkRow,bulkC,bulkRows]
  ·split
   ·rename_i a h
    exact Nat.le_trans (subAt_bulk ps a) (bulk_arg h)
   ·rw [zTm_u];simp [bulkRow,bulkC,bulkRows]
theorem subAt_false:∀ (ps:List Int) (t:Tm),(subAt t ps).2=false->(subAt t ps).1=zTm
 | [],t,h=>by simp [subAt] at h
 | p::ps,t,h=>by
  rw [subAt] at h ⊢
  split at h
  ·rename_i h1;rw [if_pos h1]
  ·rename_i h1
   rw [if_neg h1]
   split at h
   ·rename_i a h2;exact subAt_false ps a h
   ·rfl
end Go.Proofs.YtohilkmdjdfljaaGreat
namespace Go.Proofs.YtohilkmdjdfljaaGreat
open Go.RowKit
def Read1 (pm:List Bk) (l d:D):Prop:=l=d∨(∃ us row E,l=.agg (litRow us)∧d=.agg row∧.set E (fun w=>OwnVals w row E us)∈pm)∨(∃ v rows E,l=.one (.lit v)∧d=.one (.sl rows)∧.set E (fun w=>Own w (.sl rows) E v)∈pm)
def Reads (pm:List Bk):List D->List D->Prop
 | [],[]=>True
 | l::ls,d::ds=>Read1 pm l d∧Reads pm ls ds
 | _,_=>False
theorem Read1.same {pm:List Bk} {d:D}:Read1 pm d d:=.inl rfl
theorem Read1.tree {pm:List Bk} {us:List Value} {row:List C} {E:Nat->Prop} (h:.set E (fun w=>OwnVals w row E us)∈pm):Read1 pm (.agg (litRow us)) (.agg row):=.inr (.inl ⟨us,row,E,rfl,rfl,h⟩)
theorem Reads.rel {pm:List Bk}:∀ {lits data:List D},Reads pm lits data->∀ (w:World) (S:Nat->Prop) (vs:List Value),(∀ x∈pm,PinRel w S x)->DsRel w S lits vs->DsRel w (fun b=>S b∨pblks pm b) data vs
 | [],[],_,w,S,[],_,_=>trivial
 | [],[],_,w,S,_::_,_,h=>h.elim
 | l::ls,d::ds,hr,w,S,[],_,h=>h.elim
 | l::ls,d::ds,⟨h1,h2⟩,w,S,v::vs,hp,⟨hv,hvs⟩=>by
  refine ⟨?_,Reads.rel h2 w S vs hp hvs⟩
  rcases h1 with rfl | ⟨us,row,E,rfl,rfl,hm⟩ | ⟨u,rows,E,rfl,rfl,hm⟩
  ·exact DRel.keep (Nat.le_refl _) (fun _ _ _=>rfl) (fun b hb=>.inl hb) hv
  ·obtain ⟨vs',rfl,hr⟩:=hv
   rw [RepVals_lit hr]
   obtain ⟨_,h3,_⟩:=hp _ hm
   exact ⟨us,rfl,OwnVals.rep row E _ us (fun b hb=>.inr ⟨_,hm,hb⟩) h3⟩
  ·have hv:v=u:=hv
   subst hv
   obtain ⟨_,h3,_⟩:=hp _ hm
   exact (Own.rep _ E v h3).mono fun b hb=>.inr ⟨_,hm,hb⟩
 | [],_::_,h,_,_,_,_,_=>h.elim
 | _::_,[],h,_,_,_,_,_=>h.elim
theorem conP_rd {e:Env} {f:FuncId} {data lits:List D} {R:List D->List Bk->Prop} (pm:List Bk) (h:ConP e f data [] R) (hr:Reads pm lits data) (hset:pm.all isSet=true) (hR:∀ r q,R r q->r.all litD=true∧q.all isSet=true):ConP e f lits pm (fun r q=>∃ q1,R r q1∧q=q1++pm) :=
 conP_read pm h hset hR hr.rel
theorem con_rd {e:Env} {f:FuncId} {data lits r:List D} (pm:List Bk) (h:Con e f data r) (hr:Reads pm lits data) (hset:pm.all isSet=true) (hl:r.all litD=true):ConP e f lits pm (fun r' q=>r'=r∧q=pm):=by
 have hc:=conP_rd pm (con_P h) hr hset (fun r' q ⟨h1,h2⟩=>by rw [h1,h2];exact ⟨hl,rfl⟩)
 refine ⟨hc.1,fun w S vs h1 h2 h3 h4 h5 h6=>(hc.2 w S vs h1 h2 h3 h4 h5 h6).mono ?_⟩
 rintro en w' ⟨v,r',q,k1,⟨q1,⟨rfl,rfl⟩,rfl⟩,k3⟩
 exact ⟨v,r',_,k1,⟨rfl,rfl⟩,k3⟩
theorem litRow_lits (us:List Value):(litRow us).all litC=true:=by
 induction us with
 | nil=>rfl
 | cons u us ih=>simp only [litRow,List.map_cons,List.all_cons,litC,Bool.true_and];exact ih
theorem RTree.lits {row:List C} {r:List D} {q:List Bk} (h:RTree row r q):r.all litD=true∧q.all isSet=true:=by
 obtain ⟨us,E,rfl,_,_,rfl⟩:=h
 exact ⟨by simp only [List.all_cons,List.all_nil,litD,litRow_lits];rfl,rfl⟩
theorem RTreeS.lits {rows:List (List C)} {r:List D} {q:List Bk} (h:RTreeS rows r q):r.all litD=true∧q.all isSet=true:=by
 obtain ⟨v,E,rfl,_,rfl⟩:=h
 exact ⟨rfl,rfl⟩
def RTreeF (row:List C) (b:Bool) (r:List D) (pm:List Bk):Prop:=∃ us E,r=[.agg (litRow us),.one (.lit (.bool b))]∧us.length=row.length∧(litRow us).all okCell=true∧pm=[.set E (fun w=>OwnVals w row E us)]
theorem RTreeF.lits {row:List C} {b:Bool} {r:List D} {q:List Bk} (h:RTreeF row b r q):r.all litD=true∧q.all isSet=true:=by
 obtain ⟨us,E,rfl,_,_,rfl⟩:=h
 exact ⟨by simp only [List.all_cons,List.all_nil,litD,litRow_lits];rfl,rfl⟩
def RTreeSF (rows:List (List C)) (b:Bool) (r:List D) (pm:List Bk):Prop:=∃ v E,r=[.one (.lit v),.one (.lit (.bool b))]∧okCell (.lit v)=true∧pm=[.set E (fun w=>Own w (.sl rows) E v)]
theorem RTreeSF.lits {rows:List (List C)} {b:Bool} {r:List D} {q:List Bk} (h:RTreeSF rows b r q):r.all litD=true∧q.all isSet=true:=by
 obtain ⟨v,E,rfl,_,rfl⟩:=h
 exact ⟨rfl,rfl⟩
end Go.Proofs.YtohilkmdjdfljaaGreat
namespace Go.Proofs.YtohilkmdjdfljaaGreat
open Go.RowKit
mutual
theorem bulk_size:∀ t:Tm,sizeTm t<=bulkRow (encTm t)+1
 | .mk _ _ _ args=>by
  have:=bulk_sizes args
  simp only [sizeTm,encTm,bulkRow,bulkC]
  omega
theorem bulk_sizes:∀ ts:List Tm,sizeTms ts<=(encTms ts).length+bulkRows (encTms ts)
 | []=>by simp [sizeTms]
 | t::ts=>by
  have h1:=bulk_size t
  have h2:=bulk_sizes ts
  simp only [sizeTms,encTms,List.length_cons,bulkRows]
  omega
end
theorem big_of_bulk {t:Tm} (h:bulkRow (encTm t)<=1048576):sizeTm t<=big:=by
 have:=bulk_size t
 unfold big
 omega
end Go.Proofs.YtohilkmdjdfljaaGreat
namespace Go.Proofs.YtohilkmdjdfljaaGreat
open Go.RowKit
open Classical in
noncomputable def tkRest (g:Sgn) (p:Tm) (o:Occ):Option (List Tm):=if p.op < 0 then none else match g.ops[p.op.toNat]? with
 | none=>none
 | some x=>if x.assoc=false∨p.args.length < o.left.length+o.right.length+2 then none
  else if x.comm=true then (if o.right.length=0∧(wo p.args o.left).2=true then some (wo p.args o.left).1 else none)
  else if sameL (p.args.take o.left.length) o.left=true∧sameL (p.args.drop (p.args.length - o.right.length)) o.right=true then some ((p.args.take (p.args.length - o.right.length)).drop o.left.length) else none
noncomputable def tkIn (g:Sgn) (t:Tm) (o:Occ):Tm × Bool:=if (subAt t o.path).2=false then (zTm,false) else if o.left.length+o.right.length=0 then ((subAt t o.path).1,true) else match tkRest g (subAt t o.path).1 o with
 | none=>(zTm,false)
 | some r=>(.mk (subAt t o.path).1.op ByteArray.empty 0 r,true)
theorem form_sub {g:Sgn}:∀ (ps:List Int) (t:Tm),FormOk g t->(subAt t ps).2=true->FormOk g (subAt t ps).1
 | [],t,h,_=>h
 | p::ps,t,h,hs=>by
  have e:=subAt_drop (t:=t) (ps:=p::ps) (i:=0) (p:=p) rfl
  simp only [List.drop_zero,Nat.zero_add,List.drop_succ_cons] at e
  rw [e] at hs ⊢
  by_cases hp:p < 0
  ·rw [if_pos hp] at hs;cases hs
  rw [if_neg hp] at hs ⊢
  cases ha:t.args[p.toNat]? with
  | none=>rw [ha] at hs;cases hs
  | some a =>
   rw [ha] at hs
   exact form_sub ps a ((FormOk_iff.1 h).2.1 a (List.mem_of_getElem? ha)) hs
theorem mk_u (op:Int) (l:List Tm):encTm (.mk op ByteArray.empty 0 l)=[.lit (.int .i64 op),.lit (.string ByteArray.empty),.lit (.int .i64 0),.sl (encTms l)]:=by simp only [encTm]
theorem args_le' {a:Tm} (ha:bulkRow (encTm a)<=1048576):a.args.length<=1048576:=by
 obtain ⟨op,nm,so,args⟩:=a
 simp only [encTm,bulkRow,bulkC,encTms_len] at ha
 simp only [Tm.args]
 omega
theorem encOcc_u (o:Occ):encOcc o=[.sl (o.path.map encInt),.sl (encTms o.left),.sl (encTms o.right),.sl (o.mat.map encBd)]:=rfl
set_option maxHeartbeats 16000000 in
set_option maxRecDepth 100000 in
theorem con_taken {g:Sgn} {mc:C} (hg:SgnOk g) {t:Tm} (ht:okTm t) (hb:bulkRow (encTm t)<=1048576) {o:Occ} (hop:o.path.length<=1048576) (hol:o.left.length<=1048576) (hor:o.right.length<=1048576):Con e0 49 [.one (.ptr (encX g mc)),.agg (encTm t),.agg (encOcc o)] [.agg (encTm (if isTerm g t=true then tkIn g t o else (zTm,false)).1),.one (.lit (.bool (if isTerm g t=true then tkIn g t o else (zTm,false)).2))]:=by
 have c1:=con_implIsT (mc:=mc) hg ht (big_of_bulk hb)
 have c2:=con_treeB (con_implAt t o.path hop hb)
 have hz:=zTm_u
 rw [encOcc_u]
 refine gI (ts:=[.cell 6 41,.slot 7]) 170141183618927975792446829016171823095 Tryz.func49 ?_
 (have F:=@tmz;refine gG ?_;clear F)
 refine gB ?_
 (have F:=@tmz;refine gC (c1) ?_;clear F)
 cases h1:isTerm g t with
 | false =>
  rw [if_neg (by simp)]
  (have F:=@tmz;refine gR ?_;clear F)
  (have F:=ai @tmz @hz;refine gG ?_;exact gTd)
 | true =>
 rw [if_pos rfl]
 have hT:=isTerm_iff.1 h1
 (have F:=@tmz;refine gR ?_;clear F)
 (have F:=@tmz;refine gG ?_;clear F)
 refine gB ?_
 (have F:=@tmz;refine gC (c2) ?_;clear F)
 have hform:=form_sub (g:=g) o.path t hT.form
 have hbs:=subAt_bulk o.path t
 have hfalse:=subAt_false o.path t
 have hdef:tkIn g t o=if (subAt t o.path).2=false then (zTm,false) else if o.left.length+o.right.length=0 then ((subAt t o.path).1,true) else match tkRest g (subAt t o.path).1 o with
  | none=>(zTm,false)
  | some r=>(.mk (subAt t o.path).1.op ByteArray.empty 0 r,true):=rfl
 rw [hdef]
 clear hdef c2
 generalize hsub:subAt t o.path=px at hform hbs hfalse ⊢
 obtain ⟨p,ok⟩:=px
 simp only at hform hbs hfalse ⊢
 cases ok with
 | false =>
  have e:=hfalse rfl
  subst e
  rw [if_pos rfl]
  (have F:=@tmz;refine gR ?_;clear F)
  (have F:=@tmz;refine gG ?_;exact gTd)
 | true =>
 rw [if_neg (by simp)]
 have hws:IntKind.i64.wrap ((o.left.length:Int)+(o.right.length:Int))=(o.left.length:Int)+(o.right.length:Int):=IntWalk.i64_in _ (by omega)
 by_cases hn0:o.left.length+o.right.length=0
 ·have z0:((o.left.length:Int)+(o.right.length:Int)=0)=True:=eq_true (by omega)
  rw [if_pos hn0]
  (have F:=@tmz;refine gR ?_;clear F)
  (have F:=ai @z0 (ai @hws @tmz);refine gG ?_;exact gTd)
 have z0:((o.left.length:Int)+(o.right.length:Int)=0)=False:=eq_false (by omega)
 rw [if_neg hn0]
 have hpf:=hform rfl
 have hpb:bulkRow (encTm p)<=1048576:=by omega
 have hal:=args_le' hpb
 have w1:IntKind.i64.wrap ((p.args.length:Int) - (o.left.length:Int))=(p.args.length:Int) - (o.left.length:Int):=IntWalk.i64_in _ (by omega)
 have w2:IntKind.i64.wrap ((p.args.length:Int) - (o.left.length:Int) - (o.right.length:Int))=(p.args.length:Int) - (o.left.length:Int) - (o.right.length:Int):=IntWalk.i64_in _ (by omega)
 (have F:=@tmz;refine gR ?_;clear F)
 rcases hpf.node with hv | ⟨x,d,hA⟩
 ·have hop1:p.op=-1:=hv.1
  have q1:(p.op < 0)=True:=eq_true (by omega)
  have e:tkRest g p o=none:=by unfold tkRest;rw [if_pos (by omega)]
  rw [e]
  (have F:=ai @z0 (ai @hws (ai @w1 (ai @w2 (ai @q1 (ai @tmz @hz)))));refine gG ?_;exact gTd)
 have h0:0<=p.op:=hA.lo
 have hat:g.ops[p.op.toNat]?=some x:=hA.at'
 have hneg:¬ (p.op < 0):=by omega
 have e0':tkRest g p o=if x.assoc=false∨p.args.length < o.left.length+o.right.length+2 then none
  else if x.comm=true then (if o.right.length=0∧(wo p.args o.left).2=true then some (wo p.args o.left).1 else none)
  else if sameL (p.args.take o.left.length) o.left=true∧sameL (p.args.drop (p.args.length - o.right.length)) o.right=true then some ((p.args.take (p.args.length - o.right.length)).drop o.left.length) else none:=by
  simp only [tkRest,if_neg hneg,hat]
 rw [e0']
 clear e0'
 cases ha:x.assoc with
 | false =>
  rw [if_pos (.inl rfl)]
  (have F:=ai @z0 (ai @hws (ai @w1 (ai @w2 (ai @hneg (ai @encX_u (ai @h0 (ai @hat (ai @encOpr_u (ai @ha (ai @tmz @hz))))))))));refine gG ?_;exact gTd)
 | true =>
 by_cases hn2:p.args.length < o.left.length+o.right.length+2
 ·have q2:((p.args.length:Int) - (o.left.length:Int) - (o.right.length:Int) < 2)=True:=eq_true (by omega)
  rw [if_pos (.inr hn2)]
  (have F:=ai @z0 (ai @hws (ai @w1 (ai @w2 (ai @hneg (ai @encX_u (ai @h0 (ai @hat (ai @encOpr_u (ai @ha (ai @q2 (ai @tmz @hz)))))))))));refine gG ?_;exact gTd)
 have q2:((p.args.length:Int) - (o.left.length:Int) - (o.right.length:Int) < 2)=False:=eq_false (by omega)
 rw [if_neg (fun h=>h.elim (fun h=>by cases h) hn2)]
 cases hc:x.comm with
 | true =>
  rw [if_pos rfl]
  have cW:=con_without p.args o.left hal hol
  (have F:=ai @z0 (ai @hws (ai @w1 (ai @w2 (ai @hneg (ai @encX_u (ai @h0 (ai @hat (ai @encOpr_u (ai @ha (ai @hc (ai @q2 @tmz)))))))))));refine gG ?_;clear F)
  refine gB ?_
  (have F:=@tmz;refine gC (cW) ?_;clear F)
  (have F:=@tmz;refine gR ?_;clear F)
  by_cases hr0:o.right.length=0
  rotate_left
  ·have q3:(0 < (o.right.length:Int))=True:=eq_true (by omega)
   rw [if_neg fun h=>hr0 h.1]
   (have F:=ai @q3 (ai @tmz @hz);refine gG ?_;exact gTd)
  have q3:(0 < (o.right.length:Int))=False:=eq_false (by omega)
  cases hw:(wo p.args o.left).2 with
  | false =>
   rw [if_neg fun h=>by cases h.2]
   (have F:=ai @q3 (ai @hw (ai @tmz @hz));refine gG ?_;exact gTd)
  | true =>
   rw [if_pos ⟨hr0,rfl⟩]
   have em:=mk_u p.op (wo p.args o.left).1
   (have F:=ai @q3 (ai @hw (ai @tmz @em));refine gG ?_;exact gTd)
 | false =>
  rw [if_neg (by simp)]
  have wE:IntKind.i64.wrap ((o.left.length:Int)+((p.args.length:Int) - (o.left.length:Int) - (o.right.length:Int)))=((p.args.length - o.right.length:Nat):Int):=by
   rw [IntWalk.i64_in _ (by omega)];omega
  have sll:((p.args.length:Int)<=(p.args.length:Int))=True:=eq_true (Int.le_refl _)
  have stk:p.args.take p.args.length=p.args:=List.take_length
  have s1:((o.left.length:Int)<=(p.args.length:Int))=True:=eq_true (by omega)
  have s2:(((p.args.length - o.right.length:Nat):Int)<=(p.args.length:Int))=True:=eq_true (by omega)
  have s3:((o.left.length:Int)<=((p.args.length - o.right.length:Nat):Int))=True:=eq_true (by omega)
  have cA:=con_equalFunc (p.args.take o.left.length) o.left (by rw [List.length_take];omega) hol
  have cB:=con_equalFunc (p.args.drop (p.args.length - o.right.length)) o.right (by rw [List.length_drop];omega) hor
  (have F:=ai @z0 (ai @hws (ai @w1 (ai @w2 (ai @hneg (ai @encX_u (ai @h0 (ai @hat (ai @encOpr_u (ai @ha (ai @hc (ai @q2 (ai @wE @tmz))))))))))));refine gG ?_;clear F)
  refine gB ?_
  (have F:=ai @tmz (ai @s1 (ai @natInt (ai @encTms_take @encTms_drop)));refine gC (cA) ?_;clear F)
  cases h3:sameL (p.args.take o.left.length) o.left with
  | false =>
   rw [if_neg fun h=>by cases h.1]
   (have F:=@tmz;refine gR ?_;clear F)
   (have F:=ai @tmz @hz;refine gG ?_;exact gTd)
  | true =>
   (have F:=ai @tmz (ai @s2 (ai @sll (ai @stk (ai @natInt (ai @encTms_take @encTms_drop)))));refine gC (cB) ?_;clear F)
   cases h4:sameL (p.args.drop (p.args.length - o.right.length)) o.right with
   | false =>
    rw [if_neg fun h=>by cases h.2]
    (have F:=@tmz;refine gR ?_;clear F)
    (have F:=ai @tmz @hz;refine gG ?_;exact gTd)
   | true =>
    rw [if_pos ⟨rfl,rfl⟩]
    have em:=mk_u p.op ((p.args.take (p.args.length - o.right.length)).drop o.left.length)
    (have F:=@tmz;refine gR ?_;clear F)
    (have F:=ai @tmz (ai @s1 (ai @s2 (ai @s3 (ai @natInt (ai @encTms_take (ai @encTms_drop @em))))));refine gG ?_;exact gTd)
where wo_sub:∀ (l os:List Tm),((wo l os).1).Sublist l
 | l,[]=>by rw [wo_nil];exact List.Sublist.refl _
 | [],o::os=>by simp [wo]
 | a::l,o::os=>by
  simp only [wo]
  split
  ·exact (wo_sub l os).cons _
  ·exact (wo_sub l (o::os)).cons_cons _
theorem okTms_all {ts:List Tm}:okTms ts ↔ ∀ t∈ts,okTm t:=by
 induction ts with
 | nil=>simp [okTms]
 | cons t ts ih=>simp [okTms,ih]
theorem zTm_ok:okTm zTm:=by simp only [zTm,okTm,okTms,and_true];exact ⟨⟨by decide,by decide⟩,by simp [maxLen],⟨by decide,by decide⟩⟩
theorem sub_ok:∀ (ps:List Int) (t:Tm),okTm t->okTm (subAt t ps).1
 | [],t,h=>h
 | p::ps,t,h=>by
  rw [subAt]
  by_cases hp:p < 0
  ·rw [if_pos hp];exact zTm_ok
  ·rw [if_neg hp]
   cases ha:t.args[p.toNat]? with
   | none=>exact zTm_ok
   | some a =>
    refine sub_ok ps a ?_
    obtain ⟨op,nm,so,args⟩:=t
    simp only [okTm] at h
    exact h.2.2.2.mem (List.mem_of_getElem? ha)
end Go.Proofs.YtohilkmdjdfljaaGreat
namespace Go.Proofs.YtohilkmdjdfljaaGreat
open Go.RowKit
noncomputable def rbT (g:Sgn):Tm->List Int->Tm->Option Tm
 | _,[],u=>some u
 | t,p::ps,u=>match t.args[p.toNat]? with
  | none=>none
  | some a=>(rbT g a ps u).bind fun x=>mkT g t.op (t.args.set p.toNat x)
open Classical in
noncomputable def rpT (g:Sgn) (t:Tm) (o:Occ) (u:Tm):Option Tm:=if SgnOk g∧TermOk g t∧TermOk g u∧(tkIn g t o).2=true then (if o.left.length+o.right.length=0 then rbT g t o.path u else (mkT g (subAt t o.path).1.op (o.left++[u]++o.right)).bind fun c=>rbT g t o.path c) else none
theorem TermOk.arg {g:Sgn} {t a:Tm} (h:TermOk g t) (ha:a∈t.args):TermOk g a:=by
 have s1:=sizeTms_mem ha
 have s2:=depthTms_mem ha
 have s3:=h.size
 have s4:=h.depth
 rw [sizeTm_eq] at s3
 rw [depthTm_eq] at s4
 exact ⟨by omega,by omega,(FormOk_iff.1 h.form).2.1 a ha⟩
theorem TermOk.app {g:Sgn} {t a:Tm} (h:TermOk g t) (ha:a∈t.args):∃ o d,AppOk g t o d:=by
 rcases h.form.node with hv | h
 ·rw [hv.2.2.2.2] at ha;cases ha
 ·exact h
theorem mkT_ok {g:Sgn} (hg:SgnOk g) {op:Int} (h0:0<=op) {xs:List Tm} (ha:∀ a∈xs,TermOk g a) {t:Tm} (h:mkT g op xs=some t):TermOk g t:=by
 unfold mkT at h
 cases ho:g.ops[op.toNat]? with
 | none=>rw [ho] at h;cases h
 | some o =>
  rw [ho] at h
  simp only at h
  cases hd:o.decls[0]? with
  | none=>rw [hd] at h;cases h
  | some d =>
   rw [hd] at h
   exact (mkO_ok hg h0 ho hd ha h).1
theorem set_all {P:Tm->Prop} {l:List Tm} {i:Nat} {x:Tm} (hl:∀ a∈l,P a) (hx:P x):∀ a∈l.set i x,P a:=fun a ha=>by
 rcases List.mem_or_eq_of_mem_set ha with h | h
 ·exact hl a h
 ·rw [h];exact hx
theorem rbT_ok {g:Sgn} (hg:SgnOk g):∀ (ps:List Int) {t u x:Tm},TermOk g t->TermOk g u->rbT g t ps u=some x->TermOk g x
 | [],t,u,x,ht,hu,h=>by simp only [rbT,Option.some.injEq] at h;subst h;exact hu
 | p::ps,t,u,x,ht,hu,h=>by
  simp only [rbT] at h
  cases ha:t.args[p.toNat]? with
  | none=>rw [ha] at h;cases h
  | some a =>
   rw [ha] at h
   simp only at h
   have hm:=List.mem_of_getElem? ha
   cases hr:rbT g a ps u with
   | none=>rw [hr] at h;cases h
   | some y =>
    rw [hr] at h
    simp only [Option.bind_some] at h
    obtain ⟨o,d,hA⟩:=ht.app hm
    exact mkT_ok hg hA.lo (set_all (fun b hb=>ht.arg hb) (rbT_ok hg ps (ht.arg hm) hu hr)) h
theorem sub_term {g:Sgn}:∀ (ps:List Int) (t:Tm),TermOk g t->(subAt t ps).2=true->TermOk g (subAt t ps).1
 | [],t,h,_=>h
 | p::ps,t,h,hs=>by
  have e:=subAt_drop (t:=t) (ps:=p::ps) (i:=0) (p:=p) rfl
  simp only [List.drop_zero,Nat.zero_add,List.drop_succ_cons] at e
  rw [e] at hs ⊢
  by_cases hp:p < 0
  ·rw [if_pos hp] at hs;cases hs
  rw [if_neg hp] at hs ⊢
  cases ha:t.args[p.toNat]? with
  | none=>rw [ha] at hs;cases hs
  | some a =>
   rw [ha] at hs
   exact sub_term ps a (h.arg (List.mem_of_getElem? ha)) hs
theorem tk_at {g:Sgn} {t:Tm} {o:Occ} (h:(tkIn g t o).2=true):(subAt t o.path).2=true:=by
 unfold tkIn at h
 cases hs:(subAt t o.path).2 with
 | true=>rfl
 | false=>rw [if_pos hs] at h;cases h
theorem tk_around {g:Sgn} {t:Tm} {o:Occ} (ht:TermOk g t) (h:(tkIn g t o).2=true) (hn:¬ (o.left.length+o.right.length=0)):∃ x d,AppOk g (subAt t o.path).1 x d∧x.assoc=true∧o.left.length+o.right.length+2<=(subAt t o.path).1.args.length∧(∀ b∈o.left,TermOk g b)∧∀ b∈o.right,TermOk g b:=by
 have hs:=tk_at h
 have hT:=sub_term o.path t ht hs
 unfold tkIn at h
 rw [if_neg (by rw [hs];simp),if_neg hn] at h
 cases hr:tkRest g (subAt t o.path).1 o with
 | none=>rw [hr] at h;cases h
 | some r =>
 clear h
 generalize (subAt t o.path).1=p at hT hr ⊢
 rcases hT.form.node with hv | ⟨x,d,hA⟩
 ·have hop1:p.op=-1:=hv.1
  have e:tkRest g p o=none:=by unfold tkRest;rw [if_pos (by omega)]
  rw [e] at hr;cases hr
 have h0:0<=p.op:=hA.lo
 have hat:g.ops[p.op.toNat]?=some x:=hA.at'
 have hneg:¬ (p.op < 0):=by omega
 have e0':tkRest g p o=if x.assoc=false∨p.args.length < o.left.length+o.right.length+2 then none
  else if x.comm=true then (if o.right.length=0∧(wo p.args o.left).2=true then some (wo p.args o.left).1 else none)
  else if sameL (p.args.take o.left.length) o.left=true∧sameL (p.args.drop (p.args.length - o.right.length)) o.right=true then some ((p.args.take (p.args.length - o.right.length)).drop o.left.length) else none:=by
  simp only [tkRest,if_neg hneg,hat]
 rw [e0'] at hr
 clear e0'
 have hn2:¬ (x.assoc=false∨p.args.length < o.left.length+o.right.length+2):=fun hh=>by rw [if_pos hh] at hr;cases hr
 rw [if_neg hn2] at hr
 refine ⟨x,d,hA,by cases e:x.assoc with | true=>rfl | false=>exact absurd (.inl e) hn2,by have:=fun q=>hn2 (.inr q);omega,?_⟩
 by_cases hc:x.comm=true
 ·rw [if_pos hc] at hr
  have hw:o.right.length=0∧(wo p.args o.left).2=true:=Classical.byContradiction fun hh=>by rw [if_neg hh] at hr;cases hr
  refine ⟨fun b hb=>hT.arg (wo_asc.wo_mem hw.2 b hb),fun b hb=>?_⟩
  have:=List.eq_nil_of_length_eq_zero hw.1
  rw [this] at hb;cases hb
 ·rw [if_neg hc] at hr
  have hw:sameL (p.args.take o.left.length) o.left=true∧sameL (p.args.drop (p.args.length - o.right.length)) o.right=true:=Classical.byContradiction fun hh=>by rw [if_neg hh] at hr;cases hr
  simp only [sameL,decide_eq_true_eq] at hw
  refine ⟨fun b hb=>hT.arg ?_,fun b hb=>hT.arg ?_⟩
  ·rw [<- hw.1] at hb;exact List.mem_of_mem_take hb
  ·rw [<- hw.2] at hb;exact List.mem_of_mem_drop hb
theorem rpT_ok {g:Sgn} {t u x:Tm} {o:Occ} (h:rpT g t o u=some x):TermOk g x:=by
 unfold rpT at h
 split at h
 rotate_left
 ·cases h
 rename_i hh
 obtain ⟨hg,ht,hu,hk⟩:=hh
 split at h
 ·exact rbT_ok hg o.path ht hu h
 ·rename_i hn
  obtain ⟨x',d,hA,hac,hle,hL,hR⟩:=tk_around ht hk hn
  cases hm:mkT g (subAt t o.path).1.op (o.left++[u]++o.right) with
  | none=>rw [hm] at h;cases h
  | some c =>
   rw [hm] at h
   refine rbT_ok hg o.path ht (mkT_ok hg hA.lo (fun a ha=>?_) hm) h
   simp only [List.mem_append,List.mem_singleton] at ha
   rcases ha with (ha | rfl) | ha
   ·exact hL a ha
   ·exact hu
   ·exact hR a ha
theorem args_len {g:Sgn} {t:Tm} (h:TermOk g t):t.args.length<=60:=by
 have h1:=h.size
 rw [sizeTm_eq] at h1
 have:=sizeTms_len t.args
 omega
theorem sub_step {t:Tm} {p:Int} {ps:List Int} (h:(subAt t (p::ps)).2=true):0<=p∧∃ a,t.args[p.toNat]?=some a∧(subAt a ps).2=true:=by
 have e:=subAt_drop (t:=t) (ps:=p::ps) (i:=0) (p:=p) rfl
 simp only [List.drop_zero,Nat.zero_add,List.drop_succ_cons] at e
 rw [e] at h
 by_cases hp:p < 0
 ·rw [if_pos hp] at h;cases h
 rw [if_neg hp] at h
 cases ha:t.args[p.toNat]? with
 | none=>rw [ha] at h;cases h
 | some a =>
  rw [ha] at h
  exact ⟨by omega,a,rfl,h⟩
end Go.Proofs.YtohilkmdjdfljaaGreat
namespace Go.Proofs.YtohilkmdjdfljaaGreat
open Go.RowKit
set_option maxHeartbeats 8000000 in
set_option maxRecDepth 100000 in
theorem con_l11Without (ts:List Tm) (i:Nat) (hi:i < ts.length) (hl:ts.length<=1048576):Con e0 87 [.one (.sl (encTms ts)),.one (.lit (.int .i64 i))] [.one (.sl (encTms (ts.take i++ts.drop (i+1))))]:=by
 rw [encTms_app,<- encTms_take,<- encTms_drop]
 have hxl:((i:Int)<=(ts.length:Int))=True:=eq_true (by omega)
 have hxl2:(((i+1:Nat):Int)<=(ts.length:Int))=True:=eq_true (by omega)
 have hw:=wrap1 (k:=i) (by omega)
 have r1:rowsB 4 ((encTms ts).take i)=true:=by rw [encTms_take];exact rb_tm _
 have r2:rowsB 4 ((encTms ts).drop (i+1))=true:=by rw [encTms_drop];exact rb_tm _
 have n1:((encTms ts).take i).length<=1048576:=by rw [List.length_take,encTms_len];omega
 have n2:((encTms ts).drop (i+1)).length<=1048576:=by rw [List.length_drop,encTms_len];omega
 have n3:((encTms ts).take i).length+((encTms ts).drop (i+1)).length<=maxApp:=by unfold maxApp;omega
 have tkA:(encTms ts).take ts.length=encTms ts:=by rw [<- encTms_len ts,List.take_length]
 have hll:((ts.length:Int)<=(ts.length:Int))=True:=eq_true (Int.le_refl _)
 refine gI (ts:=[.slot 4]) 19 Tryz.func87 ?_
 (have F:=@tmz;have NN:StopAt 1:=trivial;refine gGn ?_;clear F NN)
 have F:=ai r1 (ai r2 (ai hxl (ai hxl2 (ai hw (ai n3 (ai tkA (ai hll (ai @natInt tmz))))))))
 refine gA 9 4 ?_ (.inl rfl) ?_
 ·show 0+_<=maxApp
  unfold maxApp;omega
 clear F
 (have F:=ai @r1 (ai @r2 (ai @hxl (ai @hxl2 (ai @hw (ai @n3 (ai @tkA (ai @hll (ai @natInt @tmz))))))));refine gR ?_;clear F)
 (have F:=ai @r1 (ai @r2 (ai @n3 @tmz));refine gG ?_;exact gTz [4])
theorem getD_someT {l:List Tm}:(some l).getD []=l:=rfl
set_option maxHeartbeats 16000000 in
set_option maxRecDepth 100000 in
theorem con_l11Take (l ss:List Tm) (hl:okTms l) (hs:okTms ss) (hll:l.length<=1048576) (hsl:ss.length<=1048576):Con e0 41 [.one (.sl (encTms l)),.one (.sl (encTms ss))] [.one (.sl (encTms ((takeL l ss).getD []))),.one (.lit (.bool (takeL l ss).isSome))]:=by
 refine gI (ts:=[.slot 4,.slot 5]) 34896611571 Tryz.func41 ?_
 (have F:=@tmz;refine gG ?_;clear F)
 (have F:=@tmz;refine gL (ι:=Nat × List Tm) [0,4,5,6,7,11,29,35] [] (fun x=>[(6,A.d (.one (.lit (.int .i64 x.1)))),(0,.d (.one (.sl (encTms x.2))))]) (fun x=>[]) (fun x=>x.1<=ss.length∧takeL l ss=takeL x.2 (ss.drop x.1)∧okTms x.2∧x.2.length<=1048576) (fun x=>ss.length - x.1) ((0,l)) (⟨Nat.zero_le _,rfl,hl,hll⟩) (fun x hx=>?_);clear F)
 obtain ⟨i,cur⟩:=x
 obtain ⟨hi,hf,hco,hcl⟩:=hx
 simp only at hi hf hco hcl
 rw [hf]
 by_cases hlt:i < ss.length
 rotate_left
 ·obtain rfl:i=ss.length:=by omega
  have q1:((ss.length:Int) < (ss.length:Int))=False:=eq_false (by omega)
  rw [List.drop_length]
  have e:takeL cur []=some cur:=by cases cur <;> rfl
  rw [e,getD_someT,show (some cur:Option (List Tm)).isSome=true from rfl]
  (have F:=ai @q1 @tmz;refine gG ?_;exact gTd)
 obtain ⟨s,hss⟩:∃ s,ss[i]?=some s:=⟨_,List.getElem?_eq_getElem hlt⟩
 have q1:((i:Int) < (ss.length:Int))=True:=eq_true (by omega)
 have hwi:=wrap1 (k:=i) (by omega)
 have hso:=hs.mem (List.mem_of_getElem? hss)
 have hstep:takeL cur (ss.drop i)=(rmT s cur).bind fun l'=>takeL l' (ss.drop (i+1)):=by rw [drop_getT hss];rfl
 (have F:=ai @q1 @tmz;refine gG ?_;clear F)
 (have F:=@e0P;refine gL (ι:=Nat) [7,29] [] (fun k=>[(7,A.d (.one (.lit (.int .i64 k))))]) (fun k=>[]) (fun k=>k<=cur.length∧∀ (j:Nat) a,j < k->cur[j]?=some a->cmpTm a s≠0) (fun k=>cur.length - k) (0) (⟨Nat.zero_le _,fun j a h=>absurd h (by omega)⟩) (fun k hk=>?_);clear F)
 obtain ⟨hk,hbef⟩:=hk
 by_cases hkl:k < cur.length
 rotate_left
 ·obtain rfl:k=cur.length:=by omega
  have q2:((cur.length:Int) < (cur.length:Int))=False:=eq_false (by omega)
  have q3:((cur.length:Int)=(cur.length:Int))=True:=eq_true rfl
  have hn:rmT s cur=none:=rmT_none fun a ha=>by
   obtain ⟨j,hj⟩:=List.getElem?_of_mem ha
   exact hbef j a (List.getElem?_eq_some_iff.1 hj).1 hj
  rw [hstep,hn,show ((none:Option (List Tm)).bind fun l'=>takeL l' (ss.drop (i+1)))=none from rfl,show (none:Option (List Tm)).getD []=[] from rfl,show (none:Option (List Tm)).isSome=false from rfl,encTms_nil]
  (have F:=ai @q2 (ai @q3 @tmz);refine gG ?_;exact gTz [4])
 obtain ⟨a,ha⟩:∃ a,cur[k]?=some a:=⟨_,List.getElem?_eq_getElem hkl⟩
 have q2:((k:Int) < (cur.length:Int))=True:=eq_true (by omega)
 have q4:((k:Int)=(cur.length:Int))=False:=eq_false (by omega)
 have hwk:=wrap1 (k:=k) (by omega)
 (have F:=ai @q2 @tmz;refine gG ?_;clear F)
 refine gB ?_
 (have F:=ai @q2 (ai @ha (ai @hss (ai @natInt @tmz)));refine gC (con_l5Same (hco.mem (List.mem_of_getElem? ha)) hso) ?_;clear F)
 by_cases hc:cmpTm a s=0
 ·have z:=decide_eq_true hc
  have hrm:=rmT_at ha hc hbef
  have hlen:=rmT_len hrm
  have hcw:=con_l11Without cur k hkl hcl
  have hok2:okTms (cur.take k++cur.drop (k+1)):=okTms_all.2 fun x hx=>by
   rcases List.mem_append.1 hx with h | h
   ·exact hco.mem (List.mem_of_mem_take h)
   ·exact hco.mem (List.mem_of_mem_drop h)
  rw [hstep,hrm,show ((some (cur.take k++cur.drop (k+1)):Option (List Tm)).bind fun l'=>takeL l' (ss.drop (i+1)))=takeL (cur.take k++cur.drop (k+1)) (ss.drop (i+1)) from rfl] at hf ⊢
  (have F:=@z;refine gR ?_;clear F)
  (have F:=ai @z (ai @q4 @tmz);refine gG ?_;clear F)
  refine gB ?_
  (have F:=@tmz;refine gC (hcw) ?_;clear F)
  (have F:=@tmz;refine gR ?_;clear F)
  (have F:=@hwi;refine gG ?_;exact ⟨(i+1,cur.take k++cur.drop (k+1)),⟨hlt,rfl,hok2,by simp only at hlen ⊢;omega⟩,gw,gw,by omega⟩)
 ·have z:=decide_eq_false hc
  have hb2:∀ (j:Nat) b,j < k+1->cur[j]?=some b->cmpTm b s≠0:=fun j b hj hjb=>by
   by_cases e:j=k
   ·subst e
    rw [ha] at hjb
    injection hjb with hjb
    subst hjb
    exact hc
   ·exact hbef j b (by omega) hjb
  (have F:=@z;refine gR ?_;clear F)
  (have F:=ai @z @hwk;refine gG ?_;exact ⟨k+1,⟨hkl,hb2⟩,gw,gw,by omega⟩)
theorem cmpL_zero {a b:List Tm}:cmpTm (.mk 0 ByteArray.empty 0 a) (.mk 0 ByteArray.empty 0 b)=0 ↔ a=b:=by
 constructor
 ·intro h
  have:=cmpTm_zero h
  injection this
 ·rintro rfl;exact cmpTm_self _
theorem mk_ok {l:List Tm} (h:okTms l):okTm (.mk 0 ByteArray.empty 0 l):=by
 simp only [okTm]
 exact ⟨⟨by decide,by decide⟩,by simp [maxLen],⟨by decide,by decide⟩,h⟩
set_option maxHeartbeats 8000000 in
set_option maxRecDepth 100000 in
theorem con_l12Lists (a b:List Tm) (ha:okTms a) (hb:okTms b):Con e0 83 [.one (.sl (encTms a)),.one (.sl (encTms b))] [.one (.lit (.int .i64 (cmpTm (.mk 0 ByteArray.empty 0 a) (.mk 0 ByteArray.empty 0 b))))]:=by
 have hc:=con_specCmp (mk_ok ha) (mk_ok hb)
 simp only [mk_u] at hc
 refine gI 19 Tryz.func83 ?_
 (have F:=@tmz;refine gG ?_;clear F)
 refine gB ?_
 (have F:=@tmz;refine gC (hc) ?_;clear F)
 (have F:=@tmz;refine gR ?_;clear F)
 (have F:=@tmz;refine gG ?_;exact gT)
end Go.Proofs.YtohilkmdjdfljaaGreat
namespace Go.Proofs.YtohilkmdjdfljaaGreat
open Go.RowKit
theorem asc_adj:∀ {l:List Tm},(∀ (j:Nat) p a,l[j]?=some p->l[j+1]?=some a->cmpTm p a<=0)->AscE l
 | [],_=>List.Pairwise.nil
 | [a],_=>List.pairwise_singleton _ _
 | a::b::l,h=>by
  have ih:=asc_adj (l:=b::l) fun j p x hp hx=>h (j+1) p x (by simpa using hp) (by simpa using hx)
  have hab:=h 0 a b (by simp) (by simp)
  refine List.Pairwise.cons (fun x hx=>?_) ih
  rcases List.mem_cons.1 hx with rfl | hx
  ·exact hab
  ·exact cmpTm_le_trans hab ((List.pairwise_cons.1 ih).1 x hx)
theorem asc_form {g:Sgn} {p:Tm} (hF:FormOk g p) {x:Opr} {d:Dcl} (hA:AppOk g p x d) (hc:x.comm=true):AscE p.args:=by
 have h3:=(FormOk_iff.1 hF).2.2
 have h0:=hA.lo
 have hR:=h3.resolve_left (by omega)
 exact asc_adj fun j q a hq ha=>(hR x d hA.at' hA.fst (j+1) a ha).ord hc j q rfl hq
theorem fit_comm {args left:List Tm} {r:Nat} (hA:AscE args) (hn:left.length+r+2<=args.length):((takeL args left).isSome=true∧r=0∧1 < ((takeL args left).getD []).length∧left=sortTm left) ↔ (r=0∧(wo args left).2=true):=by
 constructor
 ·rintro ⟨h1,h2,h3,h4⟩
  have hL:AscE left:=by rw [h4];exact sortTm_up left
  exact ⟨h2,(wo_take hA hL).1.2 h1⟩
 ·rintro ⟨h1,h2⟩
  have hL:=wo_asc hA h2
  have e:=(wo_take hA hL).2 h2
  have hl:=takeL_len e
  rw [e]
  refine ⟨rfl,h1,?_,(sortTm_self hL).symm⟩
  simp only [Option.getD_some]
  omega
theorem okTms_drop {l:List Tm} (h:okTms l) (k:Nat):okTms (l.drop k):=okTms_all.2 fun a ha=>okTms_all.1 h a (List.mem_of_mem_drop ha)
open Classical in
theorem cmpL_dec {a b:List Tm}:decide (cmpTm (.mk 0 ByteArray.empty 0 a) (.mk 0 ByteArray.empty 0 b)=0)=decide (a=b):=by
 by_cases h:a=b
 ·rw [decide_eq_true h,decide_eq_true (cmpL_zero.2 h)]
 ·rw [decide_eq_false h,decide_eq_false fun e=>h (cmpL_zero.1 e)]
open Classical in
set_option maxHeartbeats 16000000 in
set_option maxRecDepth 100000 in
theorem con_l12Fits {g:Sgn} (hg:SgnOk g) {t:Tm} (hT:TermOk g t) (ht:okTm t) (hb:bulkRow (encTm t)<=1048576) {o:Occ} (hop:o.path.length<=1048576) (hol:o.left.length<=1048576) (hor:o.right.length<=1048576) (hL:okTms o.left) (hR:okTms o.right) (hLb:tmsB o.left):Con e0 38 [.agg (encSgn g),.agg (encTm t),.agg (encOcc o)] [.one (.lit (.bool (tkIn g t o).2))]:=by
 have c2:=con_l12At t o.path hop hb
 rw [encOcc_u,encSgn]
 refine gI (ts:=[.slot 6]) 145241088653791231 Tryz.func38 ?_
 (have F:=@tmz;refine gG ?_;clear F)
 refine gB ?_
 (have F:=@tmz;refine gC (c2) ?_;clear F)
 have hform:=form_sub (g:=g) o.path t hT.form
 have hbs:=subAt_bulk o.path t
 have hoks:=sub_ok o.path t ht
 have hdef:(tkIn g t o).2=if (subAt t o.path).2=false then false else if o.left.length+o.right.length=0 then true else (tkRest g (subAt t o.path).1 o).isSome:=by
  unfold tkIn
  split
  ·rfl
  ·split
   ·rfl
   ·cases tkRest g (subAt t o.path).1 o <;> rfl
 rw [hdef]
 clear hdef c2
 generalize hsub:subAt t o.path=px at hform hbs hoks ⊢
 obtain ⟨p,ok⟩:=px
 simp only at hform hbs hoks ⊢
 have hws:IntKind.i64.wrap ((o.left.length:Int)+(o.right.length:Int))=(o.left.length:Int)+(o.right.length:Int):=IntWalk.i64_in _ (by omega)
 cases ok with
 | false =>
  rw [if_pos rfl]
  (have F:=@tmz;refine gR ?_;clear F)
  (have F:=ai @tmz @hws;refine gG ?_;exact gTd)
 | true =>
 rw [if_neg (by simp)]
 (have F:=@tmz;refine gR ?_;clear F)
 by_cases hn0:o.left.length+o.right.length=0
 ·have z0:((o.left.length:Int)+(o.right.length:Int)=0)=True:=eq_true (by omega)
  rw [if_pos hn0]
  (have F:=ai @z0 (ai @hws @tmz);refine gG ?_;exact gTd)
 have z0:((o.left.length:Int)+(o.right.length:Int)=0)=False:=eq_false (by omega)
 rw [if_neg hn0]
 have hpf:=hform rfl
 have hpb:bulkRow (encTm p)<=1048576:=by omega
 have hal:=args_le' hpb
 have w1:IntKind.i64.wrap ((p.args.length:Int) - 2)=(p.args.length:Int) - 2:=IntWalk.i64_in _ (by omega)
 rcases hpf.node with hv | ⟨x,d,hA⟩
 ·have hop1:p.op=-1:=hv.1
  have q1:(p.op=-1)=True:=eq_true hop1
  have e:tkRest g p o=none:=by unfold tkRest;rw [if_pos (by omega)]
  rw [e]
  (have F:=ai @z0 (ai @hws (ai @w1 (ai @q1 @tmz)));refine gG ?_;exact gTd)
 have h0:0<=p.op:=hA.lo
 have hat:g.ops[p.op.toNat]?=some x:=hA.at'
 have hneg:¬ (p.op < 0):=by omega
 have q1:(p.op=-1)=False:=eq_false (by omega)
 have e0':tkRest g p o=if x.assoc=false∨p.args.length < o.left.length+o.right.length+2 then none
  else if x.comm=true then (if o.right.length=0∧(wo p.args o.left).2=true then some (wo p.args o.left).1 else none)
  else if sameL (p.args.take o.left.length) o.left=true∧sameL (p.args.drop (p.args.length - o.right.length)) o.right=true then some ((p.args.take (p.args.length - o.right.length)).drop o.left.length) else none:=by
  simp only [tkRest,if_neg hneg,hat]
 rw [e0']
 clear e0'
 cases ha:x.assoc with
 | false =>
  rw [if_pos (.inl rfl)]
  (have F:=ai @z0 (ai @hws (ai @w1 (ai @q1 (ai @h0 (ai @hat (ai @encOpr_u (ai @ha @tmz)))))));refine gG ?_;exact gTd)
 | true =>
 by_cases hn2:p.args.length < o.left.length+o.right.length+2
 ·have q2:((p.args.length:Int) - 2 < (o.left.length:Int)+(o.right.length:Int))=True:=eq_true (by omega)
  rw [if_pos (.inr hn2)]
  (have F:=ai @z0 (ai @hws (ai @w1 (ai @q1 (ai @h0 (ai @hat (ai @encOpr_u (ai @ha (ai @q2 @tmz))))))));refine gG ?_;exact gTd)
 have q2:((p.args.length:Int) - 2 < (o.left.length:Int)+(o.right.length:Int))=False:=eq_false (by omega)
 rw [if_neg (fun h=>h.elim (fun h=>by cases h) hn2)]
 have hoka:okTms p.args:=(okTm_iff.1 hoks).2.2.2
 cases hc:x.comm with
 | true =>
  rw [if_pos rfl]
  have hAs:=asc_form hpf hA hc
  have cW:=con_l11Take p.args o.left hoka hL hal hol
  have hfit:=fit_comm (left:=o.left) (r:=o.right.length) hAs (by omega)
  have hres:(if o.right.length=0∧(wo p.args o.left).2=true then some (wo p.args o.left).1 else none:Option (List Tm)).isSome=decide ((takeL p.args o.left).isSome=true∧o.right.length=0∧1 < ((takeL p.args o.left).getD []).length∧o.left=sortTm o.left):=by
   by_cases h:o.right.length=0∧(wo p.args o.left).2=true
   ·rw [if_pos h,decide_eq_true (hfit.2 h)];rfl
   ·rw [if_neg h,decide_eq_false fun q=>h (hfit.1 q)];rfl
  rw [hres]
  clear hres hfit
  have hsl:(takeL p.args o.left).getD []=[]∨((takeL p.args o.left).getD []).length<=1048576:=by
   cases e:takeL p.args o.left with
   | none=>exact .inl rfl
   | some r=>have:=takeL_len e;exact .inr (by simp only [Option.getD_some];omega)
  (have F:=ai @z0 (ai @hws (ai @w1 (ai @q1 (ai @h0 (ai @hat (ai @encOpr_u (ai @ha (ai @hc (ai @q2 @tmz)))))))));refine gG ?_;clear F)
  refine gB ?_
  (have F:=@tmz;refine gC (cW) ?_;clear F)
  generalize takeL p.args o.left=tk at hsl ⊢
  cases tk with
  | none =>
   rw [decide_eq_false (by simp)]
   (have F:=@tmz;refine gR ?_;clear F)
   (have F:=@tmz;refine gG ?_;exact gTd)
  | some r =>
  simp only [Option.getD_some,Option.isSome_some,true_and] at hsl ⊢
  (have F:=@tmz;refine gR ?_;clear F)
  by_cases hr0:o.right.length=0
  rotate_left
  ·have q3:((o.right.length:Int)=0)=False:=eq_false (by omega)
   rw [decide_eq_false fun h=>hr0 h.1]
   (have F:=ai @q3 @tmz;refine gG ?_;exact gTd)
  have q3:((o.right.length:Int)=0)=True:=eq_true (by omega)
  by_cases hr1:1 < r.length
  rotate_left
  ·have q4:(1 < (r.length:Int))=False:=eq_false (by omega)
   rw [decide_eq_false fun h=>hr1 h.2.1]
   (have F:=ai @q3 (ai @q4 @tmz);refine gG ?_;exact gTd)
  have q4:(1 < (r.length:Int))=True:=eq_true (by omega)
  have cS:=con_specSort o.left hL hLb
  have cC:=con_l12Lists o.left (sortTm o.left) hL (okTms_sort hL)
  have e:decide (o.right.length=0∧1 < r.length∧o.left=sortTm o.left)=decide (cmpTm (.mk 0 ByteArray.empty 0 o.left) (.mk 0 ByteArray.empty 0 (sortTm o.left))=0):=by
   rw [cmpL_dec];simp only [hr0,hr1,true_and]
  rw [e]
  (have F:=ai @q3 (ai @q4 @tmz);refine gG ?_;clear F)
  refine gB ?_
  (have F:=ai @q3 (ai @q4 @tmz);refine gC (cS) ?_;clear F)
  (have F:=ai @q3 (ai @q4 @tmz);refine gC (cC) ?_;clear F)
  (have F:=ai @q3 (ai @q4 @tmz);refine gR ?_;clear F)
  (have F:=ai @q3 (ai @q4 @tmz);refine gG ?_;exact gTd)
 | false =>
  rw [if_neg (by simp)]
  have wE:IntKind.i64.wrap ((p.args.length:Int) - (o.right.length:Int))=((p.args.length - o.right.length:Nat):Int):=by
   rw [IntWalk.i64_in _ (by omega)];omega
  have s1:((o.left.length:Int)<=(p.args.length:Int))=True:=eq_true (by omega)
  have s2:(((p.args.length - o.right.length:Nat):Int)<=(p.args.length:Int))=True:=eq_true (by omega)
  have sll:((p.args.length:Int)<=(p.args.length:Int))=True:=eq_true (Int.le_refl _)
  have stk:p.args.take p.args.length=p.args:=List.take_length
  have cA:=con_l12Lists o.left (p.args.take o.left.length) hL (okTms_take hoka _)
  have cB:=con_l12Lists o.right (p.args.drop (p.args.length - o.right.length)) hR (okTms_drop hoka _)
  have e:(if sameL (p.args.take o.left.length) o.left=true∧sameL (p.args.drop (p.args.length - o.right.length)) o.right=true then some ((p.args.take (p.args.length - o.right.length)).drop o.left.length) else none:Option (List Tm)).isSome=(decide (cmpTm (.mk 0 ByteArray.empty 0 o.left) (.mk 0 ByteArray.empty 0 (p.args.take o.left.length))=0) && decide (cmpTm (.mk 0 ByteArray.empty 0 o.right) (.mk 0 ByteArray.empty 0 (p.args.drop (p.args.length - o.right.length)))=0)):=by
   rw [cmpL_dec,cmpL_dec]
   simp only [sameL,decide_eq_true_eq]
   by_cases hx:p.args.take o.left.length=o.left
   ·by_cases hy:p.args.drop (p.args.length - o.right.length)=o.right
    ·rw [if_pos ⟨hx,hy⟩,decide_eq_true hx.symm,decide_eq_true hy.symm];rfl
    ·rw [if_neg fun h=>hy h.2,decide_eq_true hx.symm,decide_eq_false fun h=>hy h.symm];rfl
   ·rw [if_neg fun h=>hx h.1,decide_eq_false fun h=>hx h.symm];rfl
  rw [e]
  clear e
  (have F:=ai @z0 (ai @hws (ai @w1 (ai @q1 (ai @h0 (ai @hat (ai @encOpr_u (ai @ha (ai @hc (ai @q2 (ai @wE @tmz))))))))));refine gG ?_;clear F)
  refine gB ?_
  (have F:=ai @tmz (ai @s1 (ai @natInt (ai @encTms_take @encTms_drop)));refine gC (cA) ?_;clear F)
  by_cases h3:cmpTm (.mk 0 ByteArray.empty 0 o.left) (.mk 0 ByteArray.empty 0 (p.args.take o.left.length))=0
  rotate_left
  ·have z3:=eq_false h3
   rw [decide_eq_false h3,Bool.false_and]
   (have F:=ai @z3 @tmz;refine gR ?_;clear F)
   (have F:=ai @z3 @tmz;refine gG ?_;exact gTd)
  have z3:=eq_true h3
  rw [decide_eq_true h3,Bool.true_and]
  (have F:=ai @z3 (ai @wE (ai @tmz (ai @s2 (ai @sll (ai @stk (ai @natInt (ai @encTms_take @encTms_drop)))))));refine gC (cB) ?_;clear F)
  (have F:=@tmz;refine gR ?_;clear F)
  (have F:=@tmz;refine gG ?_;exact gTd)
end Go.Proofs.YtohilkmdjdfljaaGreat
namespace Go.Proofs.YtohilkmdjdfljaaGreat
open Go.RowKit
noncomputable def mk6T (g:Sgn) (op:Int) (xs:List Tm):Tm:=match g.ops[op.toNat]? with
 | none=>zTm
 | some o=>match o.decls[0]? with
  | none=>zTm
  | some d=>mk6 g o d op xs
noncomputable def rb6 (g:Sgn):Tm->List Int->Tm->Tm
 | t,[],u=>u
 | t,p::ps,u=>match t.args[p.toNat]? with
  | none=>zTm
  | some a=>match rbT g a ps u with
   | none=>zTm
   | some x=>mk6T g t.op (t.args.set p.toNat x)
section
variable {g:Sgn}
set_option maxHeartbeats 16000000 in
set_option maxRecDepth 100000 in
theorem con_around0 {op:Int} {o:Occ} {u:Tm} (hn:o.left.length+o.right.length=0):Con e0 104 [.agg (encSgn g),.one (.lit (.int .i64 op)),.agg (encOcc o),.agg (encTm u)] [.agg (encTm u),.one (.lit (.bool true))]:=by
 have z0:((o.left.length:Int)+(o.right.length:Int)=0)=True:=eq_true (by omega)
 have hws:IntKind.i64.wrap ((o.left.length:Int)+(o.right.length:Int))=(o.left.length:Int)+(o.right.length:Int):=IntWalk.i64_in _ (by omega)
 rw [encOcc_u,encSgn_u]
 refine gI (ts:=[.cell 8 41,.slot 9]) 132063 Tryz.func104 ?_
 (have F:=ai @z0 (ai @hws @tmz);refine gG ?_;exact gTd)
set_option maxHeartbeats 16000000 in
set_option maxRecDepth 100000 in
theorem con_around {op:Int} {o:Occ} {u r:Tm} {b:Bool} (hn:¬ (o.left.length+o.right.length=0)) (hl:o.left.length<=1048576) (hr:o.right.length<=1048576) (cM:Con e0 143 [.agg (encSgn g),.one (.lit (.int .i64 op)),.one (.sl (encTms (o.left++[u]++o.right)))] [.agg (encTm r),.one (.lit (.bool b))]):Con e0 104 [.agg (encSgn g),.one (.lit (.int .i64 op)),.agg (encOcc o),.agg (encTm u)] [.agg (encTm r),.one (.lit (.bool b))]:=by
 have z0:((o.left.length:Int)+(o.right.length:Int)=0)=False:=eq_false (by omega)
 have hws:IntKind.i64.wrap ((o.left.length:Int)+(o.right.length:Int))=(o.left.length:Int)+(o.right.length:Int):=IntWalk.i64_in _ (by omega)
 have l1:∀ l:List Tm,rowsB 4 (encTms l)=true:=fun l=>rb_tm l
 have l2:(o.left.length+1<=maxApp)=True:=eq_true (by unfold maxApp;omega)
 have l3:encTms o.left++[encTm u]=encTms (o.left++[u]):=by rw [encTms_app,encTms_one]
 have l4:((o.left++[u]).length+o.right.length<=maxApp)=True:=eq_true (by rw [List.length_append,List.length_cons,List.length_nil];unfold maxApp;omega)
 have l5:encTms (o.left++[u])++encTms o.right=encTms (o.left++[u]++o.right):=(encTms_app _ _).symm
 have l6:(0+o.left.length<=maxApp)=True:=eq_true (by unfold maxApp;omega)
 have l7:(o.left.length<=maxApp)=True:=eq_true (by unfold maxApp;omega)
 have l8:∀ t:Tm,rowsB 4 [encTm t]=true:=fun t=>rb_tm [t]
 generalize o.left++[u]++o.right=L2 at l5 cM
 generalize o.left++[u]=L1 at l3 l4 l5
 rw [encSgn_u] at cM
 rw [encOcc_u,encSgn_u]
 refine gI (ts:=[.cell 8 41,.slot 9]) 132063 Tryz.func104 ?_
 (have F:=ai @z0 (ai @hws @tmz);have NN:StopAt 3:=trivial;refine gGn ?_;clear F NN)
 /- gk around -/
 refine gGk [(1,.d (.one (.lit (.int .i64 op)))),(4,.ref 4 0),(6,.ref 6 0),(7,.ref 7 0),(8,.ref 8 0)] [(4,.var none [.sl (g.sorts.names.map encStr),.sl (g.sorts.subs.map encSub),.sl (g.ops.map encOpr)]),(6,.var none [.sl (o.path.map encInt),.sl (encTms o.left),.sl (encTms o.right),.sl (o.mat.map encBd)]),(7,.var none (encTm u))] [([(19,.d (.agg [.sl (g.sorts.names.map encStr),.sl (g.sorts.subs.map encSub),.sl (g.ops.map encOpr)]))],[]),([(20,.d (.one (.lit (.int .i64 op))))],[]),([(21,.d (.clip []))],[]),([(22,.ref 6 1)],[]),([(23,.d (.one (.sl (encTms o.left))))],[]),([(24,.buf 24)],[(24,.buf none 41 4 (encTms o.left))]),([(25,.d (.agg (encTm u)))],[]),([(26,.d (.clip [encTm u]))],[]),([(27,.buf 27)],[(27,.buf none 41 4 (encTms L1))]),([(28,.ref 6 2)],[]),([(29,.d (.one (.sl (encTms o.right))))],[]),([(30,.d (.one (.sl (encTms L2))))],[]),([(31,.tup [.agg (encTm r),.one (.lit (.bool b))])],[]),([(32,.d (.agg (encTm r)))],[]),([(33,.d (.one (.lit (.bool b))))],[]),([],[(8,.var none (encTm r))]),([(9,.d (.one (.lit (.bool b))))],[]),([],[(8,.var none [.lit (.int .i64 0),.lit (.string ByteArray.empty),.lit (.int .i64 0),.sl []])])] (fun j=>([(5,8),(8,11),(17,15)]:List (Nat × Nat)).lookup j) [17] (⟨by simp [gs],by simp [gm]⟩) (fun j hj=>by simp only [List.mem_cons,List.not_mem_nil,or_false] at hj;subst hj;exact ⟨by simp [gs],by simp [gm]⟩) ⟨?_,?_,?_,?_,?_,?_,?_,?_,?_,?_,?_,?_,?_,?_,?_,?_,?_,trivial⟩ ?_
 ·intro s' m' hB hD hI
  have F:=(lks_iff.1 hB)
  simp only [lkS,lkM,List.getD_cons_zero,List.getD_cons_succ,and_true,true_and] at F
  have F:=ai F (tmz)
  refine gO3 ?_
  exact kS hB (tabP_iff.2 (by simp [lkS,lkM,gs,gm]))
 ·intro s' m' hB hD hI
  have F:=(lks_iff.1 hB)
  simp only [lkS,lkM,List.getD_cons_zero,List.getD_cons_succ,and_true,true_and] at F
  have F:=ai F (tmz)
  refine gO3 ?_
  exact kS hB (tabP_iff.2 (by simp [lkS,lkM,gs,gm]))
 ·intro s' m' hB hD hI
  have F:=(lks_iff.1 hB)
  simp only [lkS,lkM,List.getD_cons_zero,List.getD_cons_succ,and_true,true_and] at F
  have F:=ai F (tmz)
  refine gO3 ?_
  exact kS hB (tabP_iff.2 (by simp [lkS,lkM,gs,gm]))
 ·intro s' m' hB hD hI
  have F:=(lks_iff.1 hB)
  simp only [lkS,lkM,List.getD_cons_zero,List.getD_cons_succ,and_true,true_and] at F
  have F:=ai F (tmz)
  refine gO3 ?_
  exact kS hB (tabP_iff.2 (by simp [lkS,lkM,gs,gm]))
 ·intro s' m' hB hD hI
  have F:=ai (lks_iff.1 hB) (tabP_iff.1 (hD 3 (by decide) (.inl rfl)))
  simp only [lkS,lkM,List.getD_cons_zero,List.getD_cons_succ,and_true,true_and] at F
  have F:=ai F (tmz)
  refine gO3 ?_
  exact kS hB (tabP_iff.2 (by simp [lkS,lkM,gs,gm]))
 ·intro s' m' hB hD hI
  have F:=ai (lks_iff.1 hB) (ai (tabP_iff.1 (hD 2 (by decide) (.inl rfl))) (tabP_iff.1 (hD 4 (by decide) (.inl rfl))))
  simp only [lkS,lkM,List.getD_cons_zero,List.getD_cons_succ,and_true,true_and] at F
  have F:=ai F (ai @l1 (ai l6 (ai l7 tmz)))
  refine gO3 ?_
  exact kB hB (tabP_iff.2 (by simp [lkS,lkM,gs,gm]))
 ·intro s' m' hB hD hI
  have F:=(lks_iff.1 hB)
  simp only [lkS,lkM,List.getD_cons_zero,List.getD_cons_succ,and_true,true_and] at F
  have F:=ai F (tmz)
  refine gO3 ?_
  exact kS hB (tabP_iff.2 (by simp [lkS,lkM,gs,gm]))
 ·intro s' m' hB hD hI
  have F:=ai (lks_iff.1 hB) (tabP_iff.1 (hD 6 (by decide) (.inl rfl)))
  simp only [lkS,lkM,List.getD_cons_zero,List.getD_cons_succ,and_true,true_and] at F
  have F:=ai F (ai @l8 tmz)
  refine gO3 ?_
  exact kS hB (tabP_iff.2 (by simp [lkS,lkM,gs,gm]))
 ·intro s' m' hB hD hI
  have F:=ai (lks_iff.1 hB) (ai (tabP_iff.1 (hD 5 (by decide) (.inr rfl))) (tabP_iff.1 (hD 7 (by decide) (.inl rfl))))
  simp only [lkS,lkM,List.getD_cons_zero,List.getD_cons_succ,and_true,true_and] at F
  have F:=ai F (ai @l1 (ai l2 (ai l3 (ai @l8 tmz))))
  refine gO3 ?_
  exact kE hB (tabP_iff.2 (by simp [lkS,lkM,gs,gm]))
 ·intro s' m' hB hD hI
  have F:=(lks_iff.1 hB)
  simp only [lkS,lkM,List.getD_cons_zero,List.getD_cons_succ,and_true,true_and] at F
  have F:=ai F (tmz)
  refine gO3 ?_
  exact kS hB (tabP_iff.2 (by simp [lkS,lkM,gs,gm]))
 ·intro s' m' hB hD hI
  have F:=ai (lks_iff.1 hB) (tabP_iff.1 (hD 9 (by decide) (.inl rfl)))
  simp only [lkS,lkM,List.getD_cons_zero,List.getD_cons_succ,and_true,true_and] at F
  have F:=ai F (tmz)
  refine gO3 ?_
  exact kS hB (tabP_iff.2 (by simp [lkS,lkM,gs,gm]))
 ·intro s' m' hB hD hI
  have F:=ai (lks_iff.1 hB) (ai (tabP_iff.1 (hD 8 (by decide) (.inr rfl))) (tabP_iff.1 (hD 10 (by decide) (.inl rfl))))
  simp only [lkS,lkM,List.getD_cons_zero,List.getD_cons_succ,and_true,true_and] at F
  have F:=ai F (ai @l1 (ai l4 (ai l5 tmz)))
  refine gP 1 ?_
  refine gFz 30 ?_
  refine runs_nil ?_
  exact kF hB (tabP_iff.2 (by simp [lkS,lkM,gs,gm,frzS,frzA]))
 ·intro s' m' hB hD hI
  have F:=ai (lks_iff.1 hB) (ai (tabP_iff.1 (hD 0 (by decide) (.inl rfl))) (ai (tabP_iff.1 (hD 1 (by decide) (.inl rfl))) (tabP_iff.1 (hD 11 (by decide) (.inl rfl)))))
  simp only [lkS,lkM,List.getD_cons_zero,List.getD_cons_succ,and_true,true_and] at F
  have F:=ai F (tmz)
  refine gC (cM) ?_
  refine runs_nil ?_
  exact kS hB (tabP_iff.2 (by simp [lkS,lkM,gs,gm]))
 ·intro s' m' hB hD hI
  have F:=ai (lks_iff.1 hB) (tabP_iff.1 (hD 12 (by decide) (.inl rfl)))
  simp only [lkS,lkM,List.getD_cons_zero,List.getD_cons_succ,and_true,true_and] at F
  have F:=ai F (tmz)
  refine gO3 ?_
  exact kS hB (tabP_iff.2 (by simp [lkS,lkM,gs,gm]))
 ·intro s' m' hB hD hI
  have F:=ai (lks_iff.1 hB) (tabP_iff.1 (hD 12 (by decide) (.inl rfl)))
  simp only [lkS,lkM,List.getD_cons_zero,List.getD_cons_succ,and_true,true_and] at F
  have F:=ai F (tmz)
  refine gO3 ?_
  exact kS hB (tabP_iff.2 (by simp [lkS,lkM,gs,gm]))
 ·intro s' m' hB hD hI
  have F:=ai (lks_iff.1 hB) (ai (tabP_iff.1 (hD 13 (by decide) (.inl rfl))) (tabP_iff.1 (hI 17 (by decide) (by decide))))
  simp only [lkS,lkM,List.getD_cons_zero,List.getD_cons_succ,and_true,true_and] at F
  have F:=ai F (tmz)
  refine gO3 ?_
  exact kM hB (tabP_iff.2 (by simp [lkS,lkM,gs,gm]))
 ·intro s' m' hB hD hI
  have F:=ai (lks_iff.1 hB) (tabP_iff.1 (hD 14 (by decide) (.inl rfl)))
  simp only [lkS,lkM,List.getD_cons_zero,List.getD_cons_succ,and_true,true_and] at F
  have F:=ai F (tmz)
  refine gO3 ?_
  exact kS hB (tabP_iff.2 (by simp [lkS,lkM,gs,gm]))
 intro s' m' hB hP
 refine ⟨_,_,(hB.app (hP 15 (.inl (by decide)) (fun k h=>by simp [List.lookup] at h))).app (hP 16 (.inl (by decide)) (fun k h=>by simp [List.lookup] at h)),?_⟩
 simp only [List.cons_append,List.nil_append,List.append_nil,List.getD_cons_zero,List.getD_cons_succ]
 /- gk end around -/
 refine ⟨_,Wk.refl _,?_⟩
 (have F:=@tmz;refine gG ?_;exact gTd)
theorem con_l6MakeT (hokg:okSgn g) (hg:SgnOk g) {op:Int} {o:Opr} (h0:0<=op) (ho:g.ops[op.toNat]?=some o) (xs:List Tm) (ha:∀ a∈xs,TermOk g a) (hl:xs.length<=1000):Con e0 143 [.agg (encSgn g),.one (.lit (.int .i64 op)),.one (.sl (encTms xs))] [.agg (encTm (mk6T g op xs)),.one (.lit (.bool (mkT g op xs).isSome))]:=by
 obtain ⟨d,hd,_⟩:=hg.first ho
 have e:mk6T g op xs=mk6 g o d op xs:=by simp only [mk6T,ho,hd]
 rw [mkT_eq ho hd,e]
 exact con_l6Make hokg hg h0 ho hd xs ha hl
theorem mk6T_of {op:Int} {xs:List Tm} {t:Tm} (h:mkT g op xs=some t):mk6T g op xs=t:=by
 unfold mkT at h
 unfold mk6T
 cases ho:g.ops[op.toNat]? with
 | none=>rw [ho] at h;cases h
 | some o =>
  rw [ho] at h
  simp only at h ⊢
  cases hd:o.decls[0]? with
  | none=>rw [hd] at h;cases h
  | some d =>
   rw [hd] at h
   simp only at h ⊢
   simp only [mk6,h,Option.getD_some]
theorem rb6_of {u:Tm}:∀ (ps:List Int) {t x:Tm},rbT g t ps u=some x->rb6 g t ps u=x
 | [],t,x,h=>by simp only [rbT,Option.some.injEq] at h;simp only [rb6,h]
 | p::ps,t,x,h=>by
  simp only [rbT] at h
  simp only [rb6]
  cases ha:t.args[p.toNat]? with
  | none=>rw [ha] at h;cases h
  | some a =>
   rw [ha] at h
   simp only at h ⊢
   cases hr:rbT g a ps u with
   | none=>rw [hr] at h;cases h
   | some y =>
    rw [hr] at h
    exact mk6T_of h
set_option maxHeartbeats 16000000 in
set_option maxRecDepth 100000 in
theorem con_l12Replace (hokg:okSgn g) (hg:SgnOk g) {u:Tm} (hu:TermOk g u):∀ (ps:List Int) {t:Tm},TermOk g t->(subAt t ps).2=true->ps.length<=1048576->Con e0 105 [.agg (encSgn g),.agg (encTm t),.one (.sl (ps.map encInt)),.agg (encTm u)] [.agg (encTm (rb6 g t ps u)),.one (.lit (.bool (rbT g t ps u).isSome))]:=by
 intro ps
 induction ps with
 | nil =>
  intro t ht hs hl
  have hz:=zTm_u
  have e:rbT g t [] u=some u:=rfl
  have e2:rb6 g t [] u=u:=rfl
  rw [e,e2,encSgn_u]
  have z1:((([]:List (List C)).length:Int)=0)=True:=eq_true rfl
  have z2:(((0:Nat):Int)=0)=True:=eq_true rfl
  rw [List.map_nil]
  refine gI (ts:=[.cell 8 41,.slot 9]) 8589975487 Tryz.func105 ?_
  (have F:=ai @z1 (ai @z2 @tmz);refine gG ?_;exact gTd)
 | cons p ps ih =>
  intro t ht hs hl
  have hz:=zTm_u
  obtain ⟨hp0,a,hpa,hs'⟩:=sub_step hs
  have hm:=List.mem_of_getElem? hpa
  obtain ⟨o,d,hA⟩:=ht.app hm
  have hal:=args_len ht
  have hlt:=(List.getElem?_eq_some_iff.1 hpa).1
  have hc:=ih (ht.arg hm) hs' (by simp only [List.length_cons] at hl;omega)
  have e:rbT g t (p::ps) u=(rbT g a ps u).bind fun x=>mkT g t.op (t.args.set p.toNat x):=by simp only [rbT,hpa]
  have e2:rb6 g t (p::ps) u=match rbT g a ps u with | none=>zTm | some x=>mk6T g t.op (t.args.set p.toNat x):=by simp only [rb6,hpa]
  have hok:=fun x=>rbT_ok hg ps (x:=x) (ht.arg hm) hu
  have hof:=fun x=>rb6_of (g:=g) (u:=u) ps (t:=a) (x:=x)
  rw [e,e2]
  clear ih hs hs' e e2
  generalize hr:rbT g a ps u=r at hc hok hof ⊢
  generalize rb6 g a ps u=q at hc hof
  have l0:((p::ps).map encInt).length=ps.length+1:=by simp
  have l1:((((p::ps).map encInt).length:Int)=0)=False:=eq_false (by rw [l0];omega)
  have l2:((p::ps).map encInt)[0]?=some [.lit (.int .i64 p)]:=rfl
  have l3:rowsB 1 ((p::ps).map encInt)=true:=rb_int _
  have l4:((p::ps).map encInt).drop 1=ps.map encInt:=rfl
  have l5:((p::ps).map encInt).take ((p::ps).map encInt).length=(p::ps).map encInt:=List.take_length
  have l6:((1:Int)<=(((p::ps).map encInt).length:Int))=True:=eq_true (by rw [l0];omega)
  generalize (p::ps).map encInt=rows at l0 l1 l2 l3 l4 l5 l6 ⊢
  have l7:((rows.length:Int)<=(rows.length:Int))=True:=eq_true (Int.le_refl _)
  have l8:(0 < rows.length)=True:=eq_true (by omega)
  have t0:Int.toNat 0=0:=rfl
  have t1:Int.toNat 1=1:=rfl
  have m1:(0+t.args.length<=maxApp)=True:=eq_true (by unfold maxApp;omega)
  have m2:(t.args.length<=maxApp)=True:=eq_true (by unfold maxApp;omega)
  rw [encSgn_u] at hc ⊢
  refine gI (ts:=[.cell 8 41,.slot 9]) 8589975487 Tryz.func105 ?_
  (have F:=ai @l1 @tmz;refine gG ?_;clear F)
  refine gLt 15 14 16 ?_
  (have F:=ai @l2 (ai @l3 (ai @l4 (ai @l5 (ai @l6 (ai @l7 (ai @l8 (ai @t0 (ai @t1 (ai @hp0 (ai @hpa (ai @natInt @tmz)))))))))));refine gC (hc) ?_;clear F)
  cases r with
  | none =>
   (have F:=@tmz;refine gR ?_;clear F)
   (have F:=ai @hz @tmz;refine gG ?_;exact gTd)
  | some x =>
   have hx:=hok x rfl
   have hqx:=hof x rfl
   subst hqx
   simp only [Option.isSome_some,Option.bind_some]
   (have F:=@tmz;refine gR ?_;clear F)
   (have F:=ai @tmz (ai @m1 @m2);have NN:StopAt 7:=trivial;refine gGn ?_;clear F NN)
   refine gB ?_
   (have F:=ai @hp0 (ai @l2 (ai @l3 (ai @l8 (ai @t0 (ai @hlt (ai @hpa (ai @encTms_len (ai @tms_set (ai @natInt @tmz)))))))));refine gR ?_;clear F)
   have cB:=con_l6MakeT hokg hg hA.lo hA.at' (t.args.set p.toNat q) (set_all (fun b hb=>ht.arg hb) hx) (by rw [List.length_set];omega)
   rw [encSgn_u] at cB
   (have F:=@tmz;have NN:StopAt 8:=trivial;refine gGn ?_;clear F NN)
   refine pwp_turn (turn_frzs [12] (by simp only [pz,↓reduceIte,Nat.reduceEqDiff,Nat.reduceAdd,Nat.reduceSub,Nat.reduceMul,Nat.reduceLeDiff,Nat.reduceBEq,Bool.false_eq_true,decide_true,decide_false,Int.reduceLE,Int.reduceToNat,Int.reduceLT,Int.reduceEq,eq_self,Nat.reduceShiftRight,Nat.reduceAnd,Nat.reduceBneDiff,tmz];exact rfl)) fun σ' hσ=>?_
   subst hσ
   refine gB ?_
   (have F:=@tmz;refine gC (cB) ?_;clear F)
   (have F:=@tmz;refine gR ?_;clear F)
   (have F:=@tmz;refine gG ?_;exact gTd)
end
end Go.Proofs.YtohilkmdjdfljaaGreat
namespace Go.Proofs.YtohilkmdjdfljaaGreat
open Go.RowKit
theorem take_take_snoc {M:List Tm} {k:Nat} {x:Tm} (h:M[k]?=some x):M.take k++[x]=M.take (k+1):=(take_snoc_of h).symm
set_option maxHeartbeats 8000000 in
set_option maxRecDepth 100000 in
theorem conP_ins (P M Q:List Tm) {A B N:Nat} (hA:A=P.length) (hB:B=P.length+M.length) (hN:N=P.length+M.length+Q.length) (hmx:N<=4000000) (a:Option Addr) (cap:Nat) :
  ConP e0 195 [.one (.lit (.slice a N cap)),.one (.lit (.int .i64 A)),.one (.lit (.int .i64 B)),.one (.fn 140 [])] [.buf (some (a,cap)) 41 4 (encTms (P++M++Q))] (RBuf a cap (P++sortTm M++Q)):=by
 have wA:=wrap1 (k:=A) (by omega)
 obtain ⟨A1,hA1⟩:∃ A1,A1=A+1:=⟨_,rfl⟩
 rw [<- hA1] at wA
 have h0:P++M++Q=P++sortTm (M.take (A1 - A))++(M.drop (A1 - A)++Q):=by
  have:sortTm (M.take 1)=M.take 1:=sortTm_self (by cases M with | nil=>exact List.Pairwise.nil | cons x M=>simp only [List.take_succ_cons,List.take_zero];exact List.pairwise_singleton _ _)
  rw [hA1,Nat.add_sub_cancel_left,this]
  simp only [List.append_assoc]
  rw [<- List.append_assoc (M.take 1),List.take_append_drop]
 refine gIP (ts:=[]) [1000] 17179886351 Tryz.func195 ?_
 (have F:=ai @wA @tmz;refine gG ?_;clear F)
 (have F:=@tmz;refine gL (ι:=Nat × List Tm) [8,9,14,34] [1000] (fun x=>[(8,.d (.one (.lit (.int .i64 (x.1:Int)))))]) (fun x=>[(1000,.buf (some (a,cap)) 41 4 (encTms x.2))]) (fun x=>A1<=x.1∧(x.1<=B∨x.1=A1)∧x.2=P++sortTm (M.take (x.1 - A))++(M.drop (x.1 - A)++Q)) (fun x=>B+1 - x.1) ((A1,P++M++Q)) (⟨Nat.le_refl _,.inr rfl,h0⟩) (fun x hx=>?_);clear F)
 obtain ⟨i,us⟩:=x
 obtain ⟨hi1,hi2,hus⟩:=hx
 simp only at hi1 hi2 hus
 dsimp only
 by_cases hlt:i < B
 rotate_left
 ·have q1:((i:Int) < (B:Int))=False:=eq_false (by omega)
  have e1:M.take (i - A)=M:=List.take_of_length_le (by omega)
  have e2:M.drop (i - A)=[]:=List.drop_of_length_le (by omega)
  rw [e1,e2,List.nil_append] at hus
  subst hus
  (have F:=ai @q1 @tmz;refine gG ?_;clear F)
  first | exact (have F:=@e0P;gTPe (R:=RBuf a cap (P++sortTm M++Q)) [1000] ⟨rfl,rfl⟩) | exact (have F:=@e0P;gTP (R:=RBuf a cap (P++sortTm M++Q)) [1000] ⟨rfl,rfl⟩)
 have q1:((i:Int) < (B:Int))=True:=eq_true (by omega)
 obtain ⟨k,hk⟩:∃ k,k=i - A:=⟨_,rfl⟩
 rw [<- hk] at hus
 obtain ⟨x,hx⟩:∃ t,M[k]?=some t:=⟨_,List.getElem?_eq_getElem (by omega)⟩
 have hL:(sortTm (M.take k)).length=k:=by rw [sortTm_len,List.length_take];omega
 rw [drop_cons_of hx] at hus
 have wi:=wrap1 (k:=i) (by omega)
 have hR:(M.drop (k+1)++Q).length+i+1=N:=by rw [List.length_append,List.length_drop];omega
 have hnext:∀ M1 M2,M1++M2=sortTm (M.take k)->(∀ y∈M2,cmpTm x y<=0)->(∀ y,M1.getLast?=some y->cmpTm y x<=0)->P++M1++x::(M2++(M.drop (k+1)++Q))=P++sortTm (M.take (i+1 - A))++(M.drop (i+1 - A)++Q):=fun M1 M2 e h2 h1=>by
  have:=ins_sort e h2 h1
  rw [take_take_snoc hx] at this
  rw [show i+1 - A=k+1 by omega,<- this]
  simp
 obtain ⟨T,hT⟩:∃ T,T=P++sortTm (M.take (i+1 - A))++(M.drop (i+1 - A)++Q):=⟨_,rfl⟩
 rw [<- hT] at hnext
 (have F:=ai @q1 @tmz;refine gG ?_;clear F)
 (have F:=@tmz;refine gL (ι:=Nat × List Tm) [9,34] [1000] (fun z=>[(9,.d (.one (.lit (.int .i64 (z.1:Int)))))]) (fun z=>[(1000,.buf (some (a,cap)) 41 4 (encTms z.2))]) (fun z=>∃ M1 M2,z.2=P++M1++x::(M2++(M.drop (k+1)++Q))∧z.1=A+M1.length∧M1++M2=sortTm (M.take k)∧∀ y∈M2,cmpTm x y<=0) (fun z=>z.1) ((i,us)) (⟨sortTm (M.take k),[],by rw [hus];simp,by rw [hL];omega,List.append_nil _,fun y h=>by simp at h⟩) (fun z hz=>?_);clear F)
 obtain ⟨j,vs⟩:=z
 obtain ⟨M1,M2,hvs,hj,he,h2⟩:=hz
 simp only at hvs hj
 dsimp only
 have hml:M1.length+M2.length=k:=by rw [<- List.length_append,he,hL]
 have hvl:vs.length=N:=by rw [hvs];simp only [List.length_append,List.length_cons] at hR ⊢;omega
 rcases List.eq_nil_or_concat M1 with h1 | ⟨M0,y,h1⟩
 ·subst h1
  have hn:=hnext [] M2 he h2 (fun y h=>by simp at h)
  obtain rfl:j=A:=by simpa using hj
  have q2:((j:Int) < (j:Int))=False:=eq_false (by omega)
  rw [hn] at hvs
  subst hvs
  (have F:=ai @q2 @tmz;refine gG ?_;clear F)
  (have F:=@wi;refine gG ?_;exact ⟨(i+1,vs),⟨by omega,.inl hlt,hT⟩,gw,gw,by omega⟩)
 ·rw [List.concat_eq_append] at h1
  subst h1
  simp only [List.length_append,List.length_cons,List.length_nil] at hj hml
  obtain ⟨p,hp⟩:∃ p,p=A+M0.length:=⟨_,rfl⟩
  have hjp:j=p+1:=by omega
  have q2:((A:Int) < (j:Int))=True:=eq_true (by omega)
  have w1:IntKind.i64.wrap ((j:Int) - 1)=(p:Int):=wrapN (by omega) (by omega) (by omega)
  have hPl:(P++M0).length=p:=by rw [List.length_append];omega
  have hvs2:vs=(P++M0)++y::x::(M2++(M.drop (k+1)++Q)):=by rw [hvs];simp
  have g1:vs[p]?=some y:=by rw [hvs2];exact get_at hPl
  have g2:vs[j]?=some x:=by rw [hvs2,hjp];exact get_at1 hPl
  have l1:p < N:=by omega
  have l2:j < N:=by omega
  (have F:=ai @q2 @tmz;refine gG ?_;clear F)
  refine gB ?_
  (have F:=ai @q2 (ai @tmz (ai @g1 (ai @g2 (ai @w1 (ai @l1 (ai @l2 (ai @hvl @encTms_len)))))));refine gC (con_1 (con_cmp1 x y)) ?_;clear F)
  by_cases hc:cmpTm x y < 0
  ·have z1:(cmpTm x y < 0)=True:=eq_true hc
   obtain ⟨U,hU⟩:∃ U,U=(P++M0)++x::y::(M2++(M.drop (k+1)++Q)):=⟨_,rfl⟩
   have g3:(vs.set j y).set p x=U:=by rw [hU,hvs2,hjp];exact swap_at hPl
   have hls:∀ q (t:Tm),(vs.set q t).length=N:=fun q t=>by rw [List.length_set,hvl]
   (have F:=ai @z1 (ai @q2 @tmz);refine gR ?_;clear F)
   have hM2:∀ u∈y::M2,cmpTm x u<=0:=fun u hu=>by
    rcases List.mem_cons.1 hu with rfl | hu
    ·omega
    ·exact h2 u hu
   obtain ⟨z,g4⟩:∃ z,(vs.set j y)[p]?=some z:=⟨_,List.getElem?_eq_getElem (by rw [List.length_set];omega)⟩
   (have F:=ai @z1 @tmz;have NN:StopAt 6:=trivial;refine gGn ?_;clear F NN)
   refine gF0 ?_
   refine gFm 0 ?_
   refine gFm 1 ?_
   refine gFm 2 ?_
   refine gFm 3 ?_
   refine (have F:=(ai w1 (ai l1 (ai l2 (ai hvl (ai g1 (ai g2 (ai g4 (ai hls (ai @encTms_len (ai @tms_set tmz))))))))));gFb 4 ?_)
   refine gFm 5 ?_
   refine gFm 6 ?_
   refine (have F:=(ai w1 (ai l1 (ai l2 (ai hvl (ai g1 (ai g2 (ai g4 (ai hls (ai @encTms_len (ai @tms_set tmz))))))))));gFb 7 ?_)
   refine (have F:=(ai w1 (ai l1 (ai l2 (ai hvl (ai g1 (ai g2 (ai g4 (ai hls (ai @encTms_len (ai @tms_set tmz))))))))));gFi (rows:=encTms vs) 8 p (by rw [encTms_len];omega) ?_)
   refine gFm 10 ?_
   refine gFm 11 ?_
   refine (have F:=(ai w1 (ai l1 (ai l2 (ai hvl (ai g1 (ai g2 (ai g4 (ai hls (ai @encTms_len (ai @tms_set tmz))))))))));gFi (rows:=encTms vs) 12 j (by rw [encTms_len];omega) ?_)
   refine gFT ?_
   refine gO2 9 13 ?_ ?_
   ·refine (have F:=(ai w1 (ai l1 (ai l2 (ai hvl (ai g1 (ai g2 (ai g4 (ai hls (ai @encTms_len (ai @tms_set tmz))))))))));gO3 ?_)
    refine gO1 13 ?_
    refine (have F:=(ai w1 (ai l1 (ai l2 (ai hvl (ai g1 (ai g2 (ai g4 (ai hls (ai @encTms_len (ai @tms_set tmz))))))))));gO3 ?_)
    refine gO1 14 ?_
    refine (have F:=(ai w1 (ai l1 (ai l2 (ai hvl (ai g1 (ai g2 (ai g4 (ai hls (ai @encTms_len (ai @tms_set tmz))))))))));gO3 ?_)
    refine gO1 15 ?_
    refine (have F:=(ai w1 (ai l1 (ai l2 (ai hvl (ai g1 (ai g2 (ai g4 (ai hls (ai @encTms_len (ai @tms_set tmz))))))))));gO3 ?_)
    refine gO1 16 ?_
    refine (have F:=(ai w1 (ai l1 (ai l2 (ai hvl (ai g1 (ai g2 (ai g4 (ai hls (ai @encTms_len (ai @tms_set tmz))))))))));gO3 ?_)
    refine gO1 17 ?_
    refine (have F:=(ai w1 (ai l1 (ai l2 (ai hvl (ai g1 (ai g2 (ai g4 (ai hls (ai @encTms_len (ai @tms_set tmz))))))))));gO3 ?_)
    refine (have F:=tmz;gT0 ?_)
    refine Exists.intro _ (ai (Wk.refl _) ?_)
    rw [g3]
    (have F:=@w1;refine gG ?_;exact ⟨(p,U),⟨M0,y::M2,by rw [hU];simp,hp,by rw [<- he];simp,hM2⟩,gw,gw,by omega⟩)
   ·refine (have F:=(ai w1 (ai l1 (ai l2 (ai hvl (ai g1 (ai g2 (ai g4 (ai hls (ai @encTms_len (ai @tms_set tmz))))))))));gO3 ?_)
    refine gO1 9 ?_
    refine (have F:=(ai w1 (ai l1 (ai l2 (ai hvl (ai g1 (ai g2 (ai g4 (ai hls (ai @encTms_len (ai @tms_set tmz))))))))));gO3 ?_)
    refine gO1 14 ?_
    refine (have F:=(ai w1 (ai l1 (ai l2 (ai hvl (ai g1 (ai g2 (ai g4 (ai hls (ai @encTms_len (ai @tms_set tmz))))))))));gO3 ?_)
    refine gO1 15 ?_
    refine (have F:=(ai w1 (ai l1 (ai l2 (ai hvl (ai g1 (ai g2 (ai g4 (ai hls (ai @encTms_len (ai @tms_set tmz))))))))));gO3 ?_)
    refine gO1 16 ?_
    refine (have F:=(ai w1 (ai l1 (ai l2 (ai hvl (ai g1 (ai g2 (ai g4 (ai hls (ai @encTms_len (ai @tms_set tmz))))))))));gO3 ?_)
    refine gO1 17 ?_
    refine (have F:=(ai w1 (ai l1 (ai l2 (ai hvl (ai g1 (ai g2 (ai g4 (ai hls (ai @encTms_len (ai @tms_set tmz))))))))));gO3 ?_)
    refine (have F:=tmz;gT0 ?_)
    refine Exists.intro _ (ai (Wk.refl _) ?_)
    rw [g3]
    (have F:=@w1;refine gG ?_;exact ⟨(p,U),⟨M0,y::M2,by rw [hU];simp,hp,by rw [<- he];simp,hM2⟩,gw,gw,by omega⟩)
  ·have z1:(cmpTm x y < 0)=False:=eq_false hc
   have hn:=hnext (M0++[y]) M2 he h2 (fun u h=>by
    simp only [List.getLast?_append,List.getLast?_singleton,Option.some_or,Option.some.injEq] at h
    subst h
    exact le_ge hc)
   rw [hn] at hvs
   subst hvs
   (have F:=ai @z1 (ai @q2 @tmz);refine gR ?_;clear F)
   (have F:=ai @z1 @tmz;refine gG ?_;clear F)
   (have F:=@wi;refine gG ?_;exact ⟨(i+1,vs),⟨by omega,.inl hlt,hT⟩,gw,gw,by omega⟩)
end Go.Proofs.YtohilkmdjdfljaaGreat
