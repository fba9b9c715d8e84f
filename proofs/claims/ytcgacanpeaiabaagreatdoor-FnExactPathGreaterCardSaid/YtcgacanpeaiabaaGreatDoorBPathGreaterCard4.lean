/-
  Part of a proof: So, Ls, Vc, Vd, Dd, Lk, Lz, Bz, Bh, Bj, Bk, Sz, Nb, Pt, Pz, WPathGreater.
-/
import Derived.Test.YtcgacanpeaiabaaGreatDoorBPathGreaterCard0
import Derived.Test.YtcgacanpeaiabaaGreatDoorBPathGreaterCard1
import Derived.Test.YtcgacanpeaiabaaGreatDoorBPathGreaterCard2
import Derived.Test.YtcgacanpeaiabaaGreatDoorBPathGreaterCard3
import Derived.Shelf.SlSortCmp.WholeK
import Derived.Shelf.SlSortCmp.NoneTotal
import Derived.Lib.QuietBelow
import Derived.Shelf.SlLaysF0
import Derived.Test.YtcgacanpeaiabaaGreatDoorChecked
import Derived.Shelf.Lays7
import Derived.Shelf.Spec.TrailingZeros
set_option linter.unusedSimpArgs false
set_option linter.unusedVariables false
set_option maxHeartbeats 400000000
set_option maxRecDepth 100000
namespace Go.Proofs.YtcgacanpeaiabaaGreatDoor
open Go.RowKit
open Go.Sort (grow HoldsK putRowK flatK SWO PermIn SortedIn Holds mapBlock onCells putRow putCells get_flatK size_flatK)
theorem Zaa.one {w:World} {S:Nat->Prop}:∀ {cs:List C} {us:List Value},cs.all Zav=true->Zaa w S cs us->∀ v∈us,v.oneCell'=true
 | [],[],_,_,v,h=>by simp at h
 | c::cs,u::us,hc,h,v,hv=>by
  simp only [List.all_cons,Tar] at hc
  simp only [Zaa] at h
  rcases Tbd.1 hv with rfl | hv
  ·exact Zey hc.1 h.1
  ·exact Zaa.one hc.2 h.2 v hv
 | [],_::_,_,h,_,_=>by simp [Zaa] at h
 | _::_,[],_,h,_,_=>by simp [Zaa] at h
end Go.Proofs.YtcgacanpeaiabaaGreatDoor
namespace Go.Proofs.YtcgacanpeaiabaaGreatDoor
open Go.Shelf
end Go.Proofs.YtcgacanpeaiabaaGreatDoor
namespace Go.Proofs.YtcgacanpeaiabaaGreatDoor
open Go.RowKit
def RCut (a:Option Addr) (cap ty sz:Nat) (rows:List (List C)) (r:List D) (pm:List Bk):Prop:=r=[.one (.lit (.slice a rows.length cap))]∧pm=[.buf (some (a,cap)) ty sz rows]
theorem ZmK (ts:List Tm) (k:Nat) (hk:k < ts.length) (hl:ts.length<=4000000) (a:Option Addr) (cap:Nat):ConP e0 279 [.one (.lit (.slice a ts.length cap)),.one (.lit (.int .i64 (k:Int))),.one (.lit (.int .i64 ((k+1:Nat):Int)))] [.buf (some (a,cap)) 46 4 (Zaf ts)] (RCut a cap 46 4 (Zaf (ts.take k++ts.drop (k+1)))):=by
 have nl:=ZaH ts
 have q1:((k:Int)=((k+1:Nat):Int))=False:=eq_false om
 refine gIP (ts:=[.slot 6]) [1000] 65735 Tryz.func279 ?_
 (have F:=@tmz;have NN:Zaj 1:=trivial;refine gGn ?_;clear F NN)
 refine gB ?_
 (have F:=@tmz;refine gP 5 ?_;clear F)
 have F:=ZaH
 refine ZAA (rows:=Zaf ts) 1000 k (k+1) ts.length ⟨by omega,by omega,by omega⟩ ?_
 clear F
 (have F:=@tmz;refine gR ?_;clear F)
 (have F:=ai @q1 @tmz;have NN:Zaj 5:=trivial;refine gGn ?_;clear F NN)
 refine gB ?_
 (have F:=@tmz;refine gP 2 ?_;clear F)
 have F:=ZaH
 refine Zzf (rows:=Zaf ts) 1000 0 k ⟨by omega,by omega⟩ ?_
 clear F
 rw [Zmt]
 (have F:=@tmz;refine gP 2 ?_;clear F)
 have F:=ZaH
 refine Zzf (rows:=Zaf ts) 1000 (k+1) ts.length ⟨by omega,by omega⟩ ?_
 clear F
 rw [<- nl]
 refine gAin (rows:=Zaf ts) 1000 ⟨Tan k,by omega⟩ ?_
 obtain ⟨m,hm⟩:∃ m,m=k+((Zaf ts).length - (k+1)):=⟨_,rfl⟩
 rw [<- hm]
 have hm1:m+1=ts.length:=by omega
 have hRl:((Zaf ts).take k++(Zaf ts).drop (k+1)++(Zaf ts).drop m).length=ts.length:=by simp;omega
 have hRt:((Zaf ts).take k++(Zaf ts).drop (k+1)++(Zaf ts).drop m).take m=Zaf (ts.take k++ts.drop (k+1)):=by
  rw [List.take_append_of_le_length (by simp;omega),List.take_of_length_le (by simp;omega)]
  simp only [ZbK,Tbr,List.map_take,List.map_drop]
 generalize (Zaf ts).take k++(Zaf ts).drop (k+1)++(Zaf ts).drop m=R at hRl hRt ⊢
 clear hm
 (have F:=@tmz;refine gR ?_;clear F)
 (have F:=@tmz;have NN:Zaj 6:=trivial;refine gGn ?_;clear F NN)
 refine gB ?_
 have hne:(m=R.length)=False:=eq_false om
 (have F:=ai @hne @tmz;refine gP 4 ?_;clear F)
 have F:=ai hRl hne
 refine ZAB (rows:=R) 1000 m ts.length ⟨by omega,by omega⟩ ?_
 rw [<- hRl]
 refine ZAb (l:=m) (rows:=R) 1000 om ?_
 clear F
 have hSl:(R.take m++List.replicate (R.length - m) [C.lit (Value.int IntKind.i64 0),C.lit (Value.string ByteArray.empty),C.lit (Value.int IntKind.i64 0),C.sl []]).length=ts.length:=by simp;omega
 have hSt:(R.take m++List.replicate (R.length - m) [C.lit (Value.int IntKind.i64 0),C.lit (Value.string ByteArray.empty),C.lit (Value.int IntKind.i64 0),C.sl []]).take m=Zaf (ts.take k++ts.drop (k+1)):=by
  rw [List.take_append_of_le_length (by simp;omega),List.take_take,Nat.min_self,hRt]
 generalize R.take m++List.replicate (R.length - m) [C.lit (Value.int IntKind.i64 0),C.lit (Value.string ByteArray.empty),C.lit (Value.int IntKind.i64 0),C.sl []]=Z at hSl hSt ⊢
 have hne2:(m=Z.length)=False:=eq_false om
 (have F:=@tmz;refine gR ?_;clear F)
 (have F:=ai @hne2 @tmz;refine gG ?_;clear F)
 refine pE [1000] [1000] (ZAa (rows:=Z) m om) ?_
 rw [hSt]
 have hk2:m=(Zaf (ts.take k++ts.drop (k+1))).length:=by rw [ZaH];simp;omega
 exact (have F:=ZaH;gTP (R:=RCut a cap 46 4 (Zaf (ts.take k++ts.drop (k+1)))) [1000] ⟨by rw [<- hk2],rfl⟩)
theorem ZAn {g:Sgn} {mc:C} {rank:List Int} {b:Nat}:Zuy g mc rank b:=by
 intro Z xs ys hx hy hG
 have hOk:=Zi0 (g:=g) (rank:=rank) (Z:=Z) (b:=b)
 have cC:=(Zqk ys om).k (g:=g) (rank:=rank) (Z:=Z) (b:=b)
 have c2:=fun x (h1:x∈xs) y (h2:y∈ys)=>ZvD (hG x h1 y h2)
 have rr:ZaE 1 (rank.map ZaK)=true:=ZfB _
 rw [ZfI] at *
 refine gI (ts:=[.slot 6]) 72430396577487 Tryz.func213 ?_
 (have F:=@tmK;have NN:Zaj 2:=trivial;refine gGn ?_;clear F NN)
 refine gB ?_
 (have F:=@tmK;refine gCP [] [1001] (cC) ?_;clear F)
 rintro r pm ⟨a,cap,rfl,rfl⟩
 simp only [setA,retA,zipM,Taf,Tah]
 (have F:=@tmK;refine gR ?_;clear F)
 (have F:=@tmK;refine gG ?_;clear F)
 (have F:=ai @Zql @tmK;refine gL (ι:=Nat × List Tm × List Tm) [2,7,9,10,18,19,26] [7,1001] (fun x=>[(18,A.d (.one (.lit (.int .i64 x.1)))),(7,.buf 7),(2,.d (.one (.lit (.slice a x.2.2.length cap))))]) (fun x=>[(7,.buf none 46 4 (Zaf x.2.1)),(1001,.buf (some (a,cap)) 46 4 (Zaf x.2.2))]) (fun x=>LeftOk xs ys x.1 x.2.1 x.2.2) (fun x=>xs.length - x.1) ((0,[],ys)) (LeftOk.start) (fun x hx=>?_);clear F)
 obtain ⟨i,R,B⟩:=x
 simp only at hx
 dsimp only
 have nr:=ZaH R
 have nb:=ZaH B
 have hRl:=hx.rl
 have hBl:=hx.bl
 have hil':=hx.le
 by_cases hil:i < xs.length
 rotate_left
 ·obtain rfl:i=xs.length:=by omega
  have q3:((xs.length:Int) < (xs.length:Int))=False:=eq_false om
  have hbag:=Zgb.trans (hx.done (rk:=rkF rank) (cm:=cmF g))
  have hX:=hx
  (have F:=ai @q3 @tmK;have NN:Zaj 11:=trivial;refine gGn ?_;clear F NN)
  refine ZcG (Zdy [3,7] (by simp only [pz,↓reduceIte,Nat.reduceEqDiff,Nat.reduceAdd,Nat.reduceSub,Nat.reduceMul,Nat.reduceLeDiff,Nat.reduceBEq,Tam,decide_true,decide_false,Int.reduceLE,Int.reduceToNat,Int.reduceLT,Int.reduceEq,eq_self,Nat.reduceShiftRight,Nat.reduceAnd,Nat.reduceBneDiff,tmK];exact rfl)) fun σ' hσ=>?_
  subst hσ
  refine pD 1001 [2] [] ?_
  (have F:=@tmK;refine gG ?_;clear F)
  (have F:=@tmK;refine gL (ι:=Nat) [6,12,39,40,46] [] (fun j=>[(39,A.d (.one (.lit (.int .i64 j))))]) (fun j=>[]) (fun j=>j<=B.length∧∀ (q:Nat) u,q < j->B[q]?=some u->R.any (fun t=>grB g rank t u)=true) (fun j=>B.length - j) (0) (⟨Taj _,fun q u h=>absurd h om⟩) (fun j hj=>?_);clear F)
  obtain ⟨hj,hall⟩:=hj
  by_cases hjl:j < B.length
  rotate_left
  ·obtain rfl:j=B.length:=by omega
   have q7:((B.length:Int) < (B.length:Int))=False:=eq_false om
   have e:bagB g rank xs ys=decide ((R.length:Int) > 0):=by
    rw [Bool.eq_iff_iff,hbag,decide_eq_true_iff]
    refine ⟨fun h=>by have:=h.2;omega,fun h=>⟨fun u hu=>?_,by omega⟩⟩
    obtain ⟨q,hq⟩:=Tbh hu
    obtain ⟨t,h1,h2⟩:=List.any_eq_true.1 (hall q u (Tad.1 hq).1 hq)
    exact ⟨t,h1,ZbC.1 h2⟩
   rw [e]
   (have F:=ai @q7 @tmK;refine gG ?_;exact gTd)
  have q7:((j:Int) < (B.length:Int))=True:=eq_true om
  have hwj:=Zap (k:=j) om
  obtain ⟨u,hu⟩:∃ u,B[j]?=some u:=⟨_,Taa hjl⟩
  have hum:=Tac hu
  have cK:=ZkA (ts:=R) (caps:=[.ptr [.ptr (encX g mc),.sl (rank.map ZaK),.lit (.map (some b))],.ptr (Zah u)]) (P:=fun t=>grB g rank t u) (by unfold big;omega) (fun t ht=>c2 t (hX.rm t ht) u (hX.bm u hum))
  (have F:=ai @q7 (ai @hu (ai @hjl (ai @Zan @tmK)));have NN:Zaj 14:=trivial;refine gGn ?_;clear F NN)
  refine gB ?_
  (have F:=@tmK;refine gC (cK) ?_;clear F)
  cases hh:R.any (fun t=>grB g rank t u) with
  | false =>
   have e:bagB g rank xs ys=false:=by
    cases hb:bagB g rank xs ys with
    | false=>rfl
    | true =>
     obtain ⟨t,h1,h2⟩:=(hbag.1 hb).1 u hum
     have:=List.any_eq_false.1 hh t h1
     exact absurd (ZbC.2 h2) this
   rw [e]
   (have F:=@tmK;refine gR ?_;clear F)
   (have F:=@tmK;refine gG ?_;exact gTd)
  | true =>
   have hq:j+1<=B.length∧∀ (q:Nat) u,q < j+1->B[q]?=some u->R.any (fun t=>grB g rank t u)=true:=⟨hjl,fun q u' hq hu'=>by
    by_cases e:q=j
    ·subst e;rw [hu] at hu';injection hu' with hu';subst hu';exact hh
    ·exact hall q u' om hu'⟩
   (have F:=@tmK;refine gR ?_;clear F)
   (have F:=ai @hwj @tmK;refine gG ?_;exact ⟨j+1,hq,gw,gw,by omega⟩)
 have q3:((i:Int) < (xs.length:Int))=True:=eq_true om
 have hwi:=Zap (k:=i) om
 obtain ⟨t,ht⟩:∃ t,xs[i]?=some t:=⟨_,Taa hil⟩
 obtain ⟨r,hr,cI⟩:=ZmT (ts:=B) (f:=278) (caps:=[.ptr (Zah t)]) (P:=fun u=>decide (Zas t u=0)) (by unfold big;omega) (fun u _=>ZvB t u)
 have cI2:ConP (eK g rank Z b) 277 [.one (.lit (.slice a B.length cap)),.one (.fn 278 [.ptr (Zah t)])] [.buf (some (a,cap)) 46 4 (Zaf B)] (fun r' q=>r'=[.one (.lit (.int .i64 r))]∧q=[.buf (some (a,cap)) 46 4 (Zaf B)]):=by
  have:=Zuk (ty:=46) (sz:=4) (a:=a) (cap:=cap) (cI.k (g:=g) (rank:=rank) (Z:=Z) (b:=b)) rfl
  rw [ZaH] at this
  exact this
 (have F:=ai @q3 (ai @ht (ai @hil (ai @Zan @tmK)));have NN:Zaj 6:=trivial;refine gGn ?_;clear F NN)
 refine gB ?_
 (have F:=@tmK;refine gCP [1001] [1001] (cI2) ?_;clear F)
 rintro r' pm ⟨rfl,rfl⟩
 simp only [setA,retA,zipM,Taf,Tah]
 (have F:=@tmK;refine gR ?_;clear F)
 rcases hr with ⟨k,u,rfl,hk,hp,_⟩ | ⟨rfl,hn⟩
 ·have hkl:=(Tad.1 hk).1
  obtain rfl:t=u:=Zbq.1 (of_decide_eq_true hp)
  have q5:((k:Int) ≥ 0)=True:=eq_true om
  have w1:=Zap (k:=k) om
  have cD:=(ZmK B k hkl om a cap).k (g:=g) (rank:=rank) (Z:=Z) (b:=b)
  (have F:=ai @q5 @tmK;have NN:Zaj 8:=trivial;refine gGn ?_;clear F NN)
  refine gB ?_
  (have F:=ai @w1 @tmK;refine gCP [1001] [1001] (cD) ?_;clear F)
  rintro r' pm ⟨rfl,rfl⟩
  simp only [setA,retA,zipM,Taf,Tah]
  (have F:=@tmK;refine gR ?_;clear F)
  (have F:=ai @hwi @tmK;refine gG ?_;exact ⟨(i+1,R,B.take k++B.drop (k+1)),hx.cut ht hk,gw,gw,by omega⟩)
 ·have q5:((-1:Int) ≥ 0)=False:=eq_false om
  have hmx:(R.length+1<=maxApp)=True:=eq_true (by unfold maxApp;omega)
  have ns:Zaf R++[Zah t]=Zaf (R++[t]):=by simp [ZbK]
  have rb:ZaE 4 (Zaf R)=true:=Zdt _
  have hnot:t ∉ B:=fun hm=>by
   have:=List.any_eq_false.1 hn t hm
   exact this (decide_eq_true (Zbq.2 rfl))
  (have F:=ai @q5 (ai @hwi (ai @nr (ai @ns (ai @hmx (ai @rb @tmK)))));refine gG ?_;exact ⟨(i+1,R++[t],B),hx.add ht hnot,gw,gw,by omega⟩)
end Go.Proofs.YtcgacanpeaiabaaGreatDoor
namespace Go.Proofs.YtcgacanpeaiabaaGreatDoor
open Go.Shelf
end Go.Proofs.YtcgacanpeaiabaaGreatDoor
namespace Go.Proofs.YtcgacanpeaiabaaGreatDoor
open Go.RowKit
section
variable {g:Sgn} {mc:C}
end
section
variable {g:Sgn}
end
section
variable {g:Sgn}
end
section
variable {g:Sgn}
end
section
variable {g:Sgn}
end
end Go.Proofs.YtcgacanpeaiabaaGreatDoor
namespace Go.Proofs.YtcgacanpeaiabaaGreatDoor
open Go.RowKit Go.MapKept Go.ChangeMaps
section
variable {g:Sgn} {rank:List Int}
def Zqm (g:Sgn) (mc:C) (rank:List Int) (r:List D) (pm:List Bk):Prop:=∃ b:Nat,r=[.agg (Zfi g mc rank b)]∧pm=[mapB b []]
theorem Zmc {mc:C}:ConP e0 59 [.one (.ptr (encX g mc)),.one (.sl (rank.map ZaK))] [] (Zqm g mc rank):=by
 refine gIP (ts:=[.cell 4 112]) [] 19 Tryz.func59 ?_
 (have F:=@tmz;have NN:Zaj 1:=trivial;refine gGn ?_;clear F NN)
 refine gB ?_
 (have F:=@tmz;refine gP 2 ?_;clear F)
 refine gMk fun b=>?_
 have hR:Zqm g mc rank [.agg [.ptr (encX g mc),.sl (rank.map ZaK),.lit (.map (some b))]] [mapB b []]:=⟨b,rfl,rfl⟩
 (have F:=@tmz;refine gR ?_;clear F)
 exact (have F:=tmz;gTP (R:=Zqm g mc rank) [7] hR (hp:=rfl))
end
section
variable {L:List Oper} {cons:Nat->Option Nat} {X:Type} {ok:Nat->X->Prop} {T:X->Tab} {i:Nat} {sb:List (Nat × A)} {mb:List (Nat × Bk)} {s:List (Nat × A)} {m:List (Nat × Bk)} {d:Nat} {α:A} {bk:Bk}
theorem Lks.bornCC {κ:Nat} (h:Lks sb mb ⟨s,m⟩) (hf:Zho d κ sb mb=true):Lks sb mb ⟨(d,α)::Zao κ (Zao κ s),(κ,bk)::remM κ (remM κ m)⟩:=by
 have hf2:=hf
 simp only [Zho,Tar,List.all_eq_true,bne_iff_ne,ne_eq,Bool.not_eq_true'] at hf2
 refine Lks.bornC (Lks.mrem (Lks.kill h ?_) ?_) hf
 ·simp only [List.all_eq_true,Bool.not_eq_true'];exact fun p hp=>(hf2.1 p hp).2
 ·simp only [List.all_eq_true,bne_iff_ne,ne_eq];exact hf2.2
theorem xPP {κ:Nat} (hB:Lks sb mb ⟨s,m⟩) (hp:tabX ok T i ⟨(d,α)::Zao κ (Zao κ s),(κ,bk)::remM κ (remM κ m)⟩) (h1:Zho d κ sb mb=true:=by rfl) (h2:∀ x,Zi4 L cons (T x) i (Zho d κ)=true:=by intro x;rfl):DidX L cons ok T i sb mb s m ⟨(d,α)::Zao κ (Zao κ s),(κ,bk)::remM κ (remM κ m)⟩:=⟨hB.bornCC h1,hp,Zh9 h2 fun _ _ h hl=>hl.bornCC h⟩
end
theorem Zme {g:Sgn} {rank:List Int} {a b:Tm} (hok:ZcI g) (hgl:bulkRow (ZaA g)<=1048576) (hoa:okTm a) (hba:bulkRow (Zah a)<=1048576) (hob:okTm b) (hbb:bulkRow (Zah b)<=1048576):Con e0 14 [.agg (ZaA g),.one (.sl (rank.map ZaK)),.agg (Zah a),.agg (Zah b)] [.one (.lit (.bool (ZbD g rank a b)))]:=by
 have hl:g.ops.length<=1048576:=by
  simp only [ZaA,bulkRow,Zb3,Taw] at hgl;omega
 have rl:(rank.map ZaK).length=rank.length:=Taw _
 have ol:(g.ops.map Zbo).length=g.ops.length:=Taw _
 have cF:=Zl8 hok hl
 by_cases hg:SgnOk g
 rotate_left
 ·have e:ZbD g rank a b=false:=by simp [ZbD,Zcz,Zea hg]
  have c:=Zjt hok hg
  rw [e]
  rw [ZaA] at c cF ⊢
  refine gI (ts:=[.slot 8]) 4398046513119 Tryz.func14 ?_
  (have F:=@tmz;have NN:Zaj 1:=trivial;refine gGn ?_;clear F NN)
  refine gB ?_
  (have F:=@tmz;refine gC (c) ?_;clear F)
  (have F:=@tmz;refine gR ?_;clear F)
  (have F:=@tmz;refine gG ?_;exact gTd)
 have hs:=ZdM hg
 have c:=ZmJ hok hg
 rw [ZaA] at c cF ⊢
 refine gI (ts:=[.slot 8]) 4398046513119 Tryz.func14 ?_
 (have F:=@tmz;have NN:Zaj 1:=trivial;refine gGn ?_;clear F NN)
 refine gB ?_
 (have F:=@tmz;refine gCE (c) ?_;clear F)
 rintro r ⟨b0,rfl⟩
 have cA:=ZhH (mc:=.lit (.map (some b0))) hg hoa (Zei hba)
 have cB:=ZhH (mc:=.lit (.map (some b0))) hg hob (Zei hbb)
 generalize C.lit (.map (some b0))=mc at cA cB ⊢
 (have F:=ai @Zz7 @Zg9;refine gR ?_;clear F)
 (have F:=@tmz;have NN:Zaj 2:=trivial;refine gGn ?_;clear F NN)
 refine gB ?_
 (have F:=@tmz;refine gC (cF) ?_;clear F)
 cases h1:Zcz g with
 | false =>
  have e:ZbD g rank a b=false:=by simp [ZbD,h1]
  rw [e]
  (have F:=@tmz;refine gR ?_;clear F)
  (have F:=@tmz;refine gG ?_;exact gTd)
 | true =>
 obtain ⟨_,hfr⟩:=Zi3 h1
 by_cases h2:rank.length=g.ops.length
 rotate_left
 ·have q2:((rank.length:Int)=(g.ops.length:Int))=False:=eq_false om
  have e:ZbD g rank a b=false:=by simp [ZbD,h2]
  rw [e]
  (have F:=ai @rl (ai @ol (ai @q2 @tmz));refine gR ?_;clear F)
  (have F:=@tmz;refine gG ?_;exact gTd)
 have q2:((rank.length:Int)=(g.ops.length:Int))=True:=eq_true om
 (have F:=ai @rl (ai @ol (ai @q2 @tmz));refine gC (cA) ?_;clear F)
 cases h3:Zb2 g a with
 | false =>
  have e:ZbD g rank a b=false:=by simp [ZbD,h3]
  rw [e]
  (have F:=@tmz;refine gR ?_;clear F)
  (have F:=@tmz;refine gG ?_;exact gTd)
 | true =>
 (have F:=@tmz;refine gC (cB) ?_;clear F)
 cases h4:Zb2 g b with
 | false =>
  have e:ZbD g rank a b=false:=by simp [ZbD,h4]
  rw [e]
  (have F:=@tmz;refine gR ?_;clear F)
  (have F:=@tmz;refine gG ?_;exact gTd)
 | true =>
 have e:ZbD g rank a b=grB g rank a b:=by simp [ZbD,h1,h2,h3,h4]
 rw [e]
 have hT1:=ZeF.1 h3
 have hT2:=ZeF.1 h4
 have cN:=Zmc (g:=g) (rank:=rank) (mc:=mc)
 have cG:=fun bm:Nat=>ZhO (M:=[]) (Zi2 (b:=bm) (mc:=mc) hg hfr h2 ZAn _ a b (Tan _) hT1 hT2 (fun _ _=>False) fun _ _ h=>h.elim) ⟨KeyM.nil,AbsM.nil⟩
 (have F:=@tmz;refine gR ?_;clear F)
 (have F:=@tmz;have NN:Zaj 4:=trivial;refine gGn ?_;clear F NN)
 /- gk pathgr -/
 refine gGx (X:=Nat) [(9,.d (.one (.ptr (encX g mc)))),(1,.d (.one (.sl (rank.map ZaK)))),(6,.ref 6 0),(7,.ref 7 0)] [(6,.var none (Zah a)),(7,.var none (Zah b))] (fun _ _=>True) (fun x=>[([(43,.d (.one (.ptr (encX g mc))))],[]),([(44,.d (.one (.sl (rank.map ZaK))))],[]),([(45,.d (.agg (Zfi g mc rank x)))],[(1002,mapB x [])]),([(46,.d (.agg (Zah a)))],[]),([(47,.d (.agg (Zah b)))],[]),([(48,.d (.one (.lit (.bool (grB g rank a b)))))],[]),([(8,.d (.one (.lit (.bool (grB g rank a b)))))],[])]) (fun j=>([(2,5)]:List (Nat × Nat)).lookup j) [] (⟨by simp [gs],by simp [gm]⟩) (fun j hj=>by simp at hj) ⟨?_,?_,?_,?_,?_,?_,?_,trivial⟩ ?_
 ·intro s' m' hB hD hI hJ
  have F:=ZdB.1 hB
  simp only [lkS,lkM,List.getD_cons_zero,List.getD_cons_succ,and_true,true_and] at F
  have F:=ai F (tmz)
  refine gO3 ?_
  exact xS hB (ZbO.2 ⟨0,trivial,by simp [lkS,lkM,gs,gm,ZaO]⟩)
 ·intro s' m' hB hD hI hJ
  have F:=ZdB.1 hB
  simp only [lkS,lkM,List.getD_cons_zero,List.getD_cons_succ,and_true,true_and] at F
  have F:=ai F (tmz)
  refine gO3 ?_
  exact xS hB (ZbO.2 ⟨0,trivial,by simp [lkS,lkM,gs,gm,ZaO]⟩)
 ·intro s' m' hB hD hI hJ
  have F:=ZdB.1 hB
  simp only [lkS,lkM,List.getD_cons_zero,List.getD_cons_succ,and_true,true_and] at F
  obtain ⟨x0,o0,F0⟩:=ZbO.1 (hD 0 (by decide) (.inl rfl))
  obtain ⟨x1,o1,F1⟩:=ZbO.1 (hD 1 (by decide) (.inl rfl))
  simp only [lkS,lkM,List.getD_cons_zero,List.getD_cons_succ,and_true,true_and] at F0
  have F:=ai F F0
  simp only [lkS,lkM,List.getD_cons_zero,List.getD_cons_succ,and_true,true_and] at F1
  have F:=ai F F1
  have F:=ai F (tmz)
  refine gCP [] [1002] (cN) ?_
  rintro r pm ⟨bm,rfl,rfl⟩
  simp only [setA,retA,zipM,Taf,Tah]
  refine ZcY ?_
  exact xP hB (ZbO.2 ⟨bm,trivial,by simp [lkS,lkM,gs,gm]⟩)
 ·intro s' m' hB hD hI hJ
  have F:=ZdB.1 hB
  simp only [lkS,lkM,List.getD_cons_zero,List.getD_cons_succ,and_true,true_and] at F
  have F:=ai F (tmz)
  refine gO3 ?_
  exact xS hB (ZbO.2 ⟨0,trivial,by simp [lkS,lkM,gs,gm,ZaO]⟩)
 ·intro s' m' hB hD hI hJ
  have F:=ZdB.1 hB
  simp only [lkS,lkM,List.getD_cons_zero,List.getD_cons_succ,and_true,true_and] at F
  have F:=ai F (tmz)
  refine gO3 ?_
  exact xS hB (ZbO.2 ⟨0,trivial,by simp [lkS,lkM,gs,gm,ZaO]⟩)
 ·intro s' m' hB hD hI hJ
  have F:=ZdB.1 hB
  simp only [lkS,lkM,List.getD_cons_zero,List.getD_cons_succ,and_true,true_and] at F
  obtain ⟨x2,o2,F2⟩:=ZbO.1 (hD 2 (by decide) (.inr rfl))
  obtain ⟨x3,o3,F3⟩:=ZbO.1 (hD 3 (by decide) (.inl rfl))
  obtain ⟨x4,o4,F4⟩:=ZbO.1 (hD 4 (by decide) (.inl rfl))
  simp only [lkS,lkM,List.getD_cons_zero,List.getD_cons_succ,and_true,true_and] at F2
  have F:=ai F F2
  simp only [lkS,lkM,List.getD_cons_zero,List.getD_cons_succ,and_true,true_and] at F3
  have F:=ai F F3
  simp only [lkS,lkM,List.getD_cons_zero,List.getD_cons_succ,and_true,true_and] at F4
  have F:=ai F F4
  have F:=ai F (tmz)
  refine gCP [1002] [1002] (cG x2) ?_ (hpm:=by rw [Zjl,F2.2];rfl) (hpn:=rfl)
  rintro r pm ⟨rfl,M,_,rfl⟩
  simp only [setA,retA,zipM,Taf,Tah]
  refine ZcY ?_
  exact xPP hB (ZbO.2 ⟨0,trivial,by simp [lkS,lkM,gs,gm]⟩)
 ·intro s' m' hB hD hI hJ
  have F:=ZdB.1 hB
  simp only [lkS,lkM,List.getD_cons_zero,List.getD_cons_succ,and_true,true_and] at F
  obtain ⟨x5,o5,F5⟩:=ZbO.1 (hD 5 (by decide) (.inl rfl))
  simp only [lkS,lkM,List.getD_cons_zero,List.getD_cons_succ,and_true,true_and] at F5
  have F:=ai F F5
  have F:=ai F (tmz)
  refine gO3 ?_
  exact xS hB (ZbO.2 ⟨0,trivial,by simp [lkS,lkM,gs,gm,ZaO,F5]⟩)
 intro s' m' hB hP
 obtain ⟨x6,o6,P6⟩:=hP 6 (.inl (by decide)) (fun k h=>by simp [List.lookup] at h)
 refine ⟨_,_,hB.app P6,?_⟩
 simp only [Taf,Tah,List.append_nil,List.getD_cons_zero,List.getD_cons_succ]
 /- gk end pathgr -/
 (refine wkI ?_;(have F:=@tmz;refine gG ?_;exact gTd))
end Go.Proofs.YtcgacanpeaiabaaGreatDoor
namespace Go.Proofs.YtcgacanpeaiabaaGreatDoor
open Go.RowKit
theorem Zg2 {row0:List C} (hok0:Zae (sigF) row0) {rows1:List (List C)} (hok1:Zam (Zab .int) rows1) {row2:List C} (hok2:Zae (Zab .term) row2) {row3:List C} (hok3:Zae (Zab .term) row3) {R0:Bool} (hsp0:bulkRow row0<=1048576->rows1.length+bulkRows rows1<=1048576->bulkRow row2<=1048576->bulkRow row3<=1048576->Con e0 10 [.agg row0,.one (.sl rows1),.agg row2,.agg row3] [.one (.lit (.bool R0))]) (him0:bulkRow row0<=1048576->rows1.length+bulkRows rows1<=1048576->bulkRow row2<=1048576->bulkRow row3<=1048576->Con e0 14 [.agg row0,.one (.sl rows1),.agg row2,.agg row3] [.one (.lit (.bool R0))]):Con e0 3 [.agg row0,.one (.sl rows1),.agg row2,.agg row3] [.one (.lit (.bool true))]:=by
 have okc0:=hok0.cells
 obtain ⟨len0,tk0,dr0⟩:=hok0.take (n:=3) rfl
 have okc2:=hok2.cells
 obtain ⟨len2,tk2,dr2⟩:=hok2.take (n:=4) rfl
 have okc3:=hok3.cells
 obtain ⟨len3,tk3,dr3⟩:=hok3.take (n:=4) rfl
 refine gI 311980847376997810503647 Tryz.func3 ?_
 by_cases hb1:(rows1.length:Int)<=1048576
 rotate_left
 ·have n1:((rows1.length:Int) > 1048576)=True:=eq_true om
  (have F:=ai @okc0 (ai @len0 (ai @tk0 (ai @dr0 (ai @okc2 (ai @len2 (ai @tk2 (ai @dr2 (ai @okc3 (ai @len3 (ai @tk3 (ai @dr3 (ai @Zar @n1))))))))))));refine gG ?_;exact gT)
 have n1:((rows1.length:Int) > 1048576)=False:=eq_false om
 (have F:=ai @okc0 (ai @len0 (ai @tk0 (ai @dr0 (ai @okc2 (ai @len2 (ai @tk2 (ai @dr2 (ai @okc3 (ai @len3 (ai @tk3 (ai @dr3 (ai @Zar @n1))))))))))));refine gG ?_;clear F)
 clear n1
 have hB1:rows1.length+bulkRows rows1<=1048576:=by have:=ZuB hok1;omega
 have hL0_0:(0:Int)<=1048576:=by omega
 have hL0_1:(1048576:Int)<=1048576:=by omega
 refine gB ?_
 (have F:=ai @okc0 (ai @len0 (ai @tk0 (ai @dr0 (ai @okc2 (ai @len2 (ai @tk2 (ai @dr2 (ai @okc3 (ai @len3 (ai @tk3 (ai @dr3 @Zar)))))))))));refine gC (Zi6 hok0 hL0_0 hL0_1) ?_;clear F)
 (have F:=ai @okc0 (ai @len0 (ai @tk0 (ai @dr0 (ai @okc2 (ai @len2 (ai @tk2 (ai @dr2 (ai @okc3 (ai @len3 (ai @tk3 (ai @dr3 @Zar)))))))))));refine gR ?_;clear F)
 by_cases hb0:((bulkRow row0):Int)<=1048576
 rotate_left
 ·have n1:sub 1048576 (bulkRow row0)=-1:=ZaN om
  have n2:(-1:Int) < 0:=by omega
  (have F:=ai @n1 @n2;refine gG ?_;exact gT)
 have nq0:sub 1048576 (bulkRow row0)=1048576 - ((bulkRow row0):Nat):=Za8 om
 rw [nq0]
 clear nq0
 have hB0:bulkRow row0<=1048576:=by omega
 have hL1_0:(0:Int)<=1048576 - ((bulkRow row0):Nat):=by omega
 have hL1_1:(1048576:Int) - ((bulkRow row0):Nat)<=1048576:=by omega
 generalize hgl0:(1048576:Int) - ((bulkRow row0):Nat)=L1 at *
 clear hgl0
 have n2:¬ (L1 < 0):=by omega
 (have F:=ai @n2 (ai @okc0 (ai @len0 (ai @tk0 (ai @dr0 (ai @okc2 (ai @len2 (ai @tk2 (ai @dr2 (ai @okc3 (ai @len3 (ai @tk3 (ai @dr3 @Zar))))))))))));refine gG ?_;clear F)
 clear n2 hb0
 refine gB ?_
 (have F:=ai @okc0 (ai @len0 (ai @tk0 (ai @dr0 (ai @okc2 (ai @len2 (ai @tk2 (ai @dr2 (ai @okc3 (ai @len3 (ai @tk3 (ai @dr3 @Zar)))))))))));refine gC (Zja hok2 hL1_0 hL1_1) ?_;clear F)
 (have F:=ai @okc0 (ai @len0 (ai @tk0 (ai @dr0 (ai @okc2 (ai @len2 (ai @tk2 (ai @dr2 (ai @okc3 (ai @len3 (ai @tk3 (ai @dr3 @Zar)))))))))));refine gR ?_;clear F)
 by_cases hb2:((bulkRow row2):Int)<=L1
 rotate_left
 ·have n1:sub L1 (bulkRow row2)=-1:=ZaN om
  have n2:(-1:Int) < 0:=by omega
  (have F:=ai @n1 @n2;refine gG ?_;exact gT)
 have nq2:sub L1 (bulkRow row2)=L1 - ((bulkRow row2):Nat):=Za8 om
 rw [nq2]
 clear nq2
 have hB2:bulkRow row2<=1048576:=by omega
 have hL2_0:(0:Int)<=L1 - ((bulkRow row2):Nat):=by omega
 have hL2_1:(L1:Int) - ((bulkRow row2):Nat)<=1048576:=by omega
 generalize hgl2:(L1:Int) - ((bulkRow row2):Nat)=L2 at *
 clear hgl2
 have n2:¬ (L2 < 0):=by omega
 (have F:=ai @n2 (ai @okc0 (ai @len0 (ai @tk0 (ai @dr0 (ai @okc2 (ai @len2 (ai @tk2 (ai @dr2 (ai @okc3 (ai @len3 (ai @tk3 (ai @dr3 @Zar))))))))))));refine gG ?_;clear F)
 clear n2 hb2
 refine gB ?_
 (have F:=ai @okc0 (ai @len0 (ai @tk0 (ai @dr0 (ai @okc2 (ai @len2 (ai @tk2 (ai @dr2 (ai @okc3 (ai @len3 (ai @tk3 (ai @dr3 @Zar)))))))))));refine gC (Zja hok3 hL2_0 hL2_1) ?_;clear F)
 (have F:=ai @okc0 (ai @len0 (ai @tk0 (ai @dr0 (ai @okc2 (ai @len2 (ai @tk2 (ai @dr2 (ai @okc3 (ai @len3 (ai @tk3 (ai @dr3 @Zar)))))))))));refine gR ?_;clear F)
 by_cases hb3:((bulkRow row3):Int)<=L2
 rotate_left
 ·have n1:sub L2 (bulkRow row3)=-1:=ZaN om
  have n2:(-1:Int) < 0:=by omega
  (have F:=ai @n1 @n2;refine gG ?_;exact gT)
 have nq3:sub L2 (bulkRow row3)=L2 - ((bulkRow row3):Nat):=Za8 om
 rw [nq3]
 clear nq3
 have hB3:bulkRow row3<=1048576:=by omega
 have hL3_0:(0:Int)<=L2 - ((bulkRow row3):Nat):=by omega
 have hL3_1:(L2:Int) - ((bulkRow row3):Nat)<=1048576:=by omega
 generalize hgl3:(L2:Int) - ((bulkRow row3):Nat)=L3 at *
 clear hgl3
 have n2:¬ (L3 < 0):=by omega
 (have F:=ai @n2 (ai @okc0 (ai @len0 (ai @tk0 (ai @dr0 (ai @okc2 (ai @len2 (ai @tk2 (ai @dr2 (ai @okc3 (ai @len3 (ai @tk3 (ai @dr3 @Zar))))))))))));refine gG ?_;clear F)
 clear n2 hb3
 have hsp:=hsp0 hB0 hB1 hB2 hB3
 have him:=him0 hB0 hB1 hB2 hB3
 have cT0:=Zi8 hok0 hB0
 have cT1:=Zqo hok1 hB1
 have cT2:=Zjc hok2 hB2
 have cT3:=Zjc hok3 hB3
 refine gB ?_
 (have F:=ai @okc0 (ai @len0 (ai @tk0 (ai @dr0 (ai @okc2 (ai @len2 (ai @tk2 (ai @dr2 (ai @okc3 (ai @len3 (ai @tk3 (ai @dr3 @Zar)))))))))));refine gC (cT0) ?_;clear F)
 (have F:=ai @okc0 (ai @len0 (ai @tk0 (ai @dr0 (ai @okc2 (ai @len2 (ai @tk2 (ai @dr2 (ai @okc3 (ai @len3 (ai @tk3 (ai @dr3 @Zar)))))))))));refine gC (cT1) ?_;clear F)
 (have F:=ai @okc0 (ai @len0 (ai @tk0 (ai @dr0 (ai @okc2 (ai @len2 (ai @tk2 (ai @dr2 (ai @okc3 (ai @len3 (ai @tk3 (ai @dr3 @Zar)))))))))));refine gC (cT2) ?_;clear F)
 (have F:=ai @okc0 (ai @len0 (ai @tk0 (ai @dr0 (ai @okc2 (ai @len2 (ai @tk2 (ai @dr2 (ai @okc3 (ai @len3 (ai @tk3 (ai @dr3 @Zar)))))))))));refine gC (cT3) ?_;clear F)
 (have F:=ai @okc0 (ai @len0 (ai @tk0 (ai @dr0 (ai @okc2 (ai @len2 (ai @tk2 (ai @dr2 (ai @okc3 (ai @len3 (ai @tk3 (ai @dr3 @Zar)))))))))));refine gC (hsp) ?_;clear F)
 (have F:=ai @okc0 (ai @len0 (ai @tk0 (ai @dr0 (ai @okc2 (ai @len2 (ai @tk2 (ai @dr2 (ai @okc3 (ai @len3 (ai @tk3 (ai @dr3 @Zar)))))))))));refine gR ?_;clear F)
 (have F:=ai @okc0 (ai @len0 (ai @tk0 (ai @dr0 (ai @okc2 (ai @len2 (ai @tk2 (ai @dr2 (ai @okc3 (ai @len3 (ai @tk3 (ai @dr3 @Zar)))))))))));refine gG ?_;clear F)
 refine gB ?_
 (have F:=ai @okc0 (ai @len0 (ai @tk0 (ai @dr0 (ai @okc2 (ai @len2 (ai @tk2 (ai @dr2 (ai @okc3 (ai @len3 (ai @tk3 (ai @dr3 @Zar)))))))))));refine gC (cT0) ?_;clear F)
 (have F:=ai @okc0 (ai @len0 (ai @tk0 (ai @dr0 (ai @okc2 (ai @len2 (ai @tk2 (ai @dr2 (ai @okc3 (ai @len3 (ai @tk3 (ai @dr3 @Zar)))))))))));refine gR ?_;clear F)
 (have F:=ai @okc0 (ai @len0 (ai @tk0 (ai @dr0 (ai @okc2 (ai @len2 (ai @tk2 (ai @dr2 (ai @okc3 (ai @len3 (ai @tk3 (ai @dr3 @Zar)))))))))));refine gG ?_;clear F)
 refine gB ?_
 (have F:=ai @okc0 (ai @len0 (ai @tk0 (ai @dr0 (ai @okc2 (ai @len2 (ai @tk2 (ai @dr2 (ai @okc3 (ai @len3 (ai @tk3 (ai @dr3 @Zar)))))))))));refine gC (cT1) ?_;clear F)
 (have F:=ai @okc0 (ai @len0 (ai @tk0 (ai @dr0 (ai @okc2 (ai @len2 (ai @tk2 (ai @dr2 (ai @okc3 (ai @len3 (ai @tk3 (ai @dr3 @Zar)))))))))));refine gR ?_;clear F)
 (have F:=ai @okc0 (ai @len0 (ai @tk0 (ai @dr0 (ai @okc2 (ai @len2 (ai @tk2 (ai @dr2 (ai @okc3 (ai @len3 (ai @tk3 (ai @dr3 @Zar)))))))))));refine gG ?_;clear F)
 refine gB ?_
 (have F:=ai @okc0 (ai @len0 (ai @tk0 (ai @dr0 (ai @okc2 (ai @len2 (ai @tk2 (ai @dr2 (ai @okc3 (ai @len3 (ai @tk3 (ai @dr3 @Zar)))))))))));refine gC (cT2) ?_;clear F)
 (have F:=ai @okc0 (ai @len0 (ai @tk0 (ai @dr0 (ai @okc2 (ai @len2 (ai @tk2 (ai @dr2 (ai @okc3 (ai @len3 (ai @tk3 (ai @dr3 @Zar)))))))))));refine gR ?_;clear F)
 (have F:=ai @okc0 (ai @len0 (ai @tk0 (ai @dr0 (ai @okc2 (ai @len2 (ai @tk2 (ai @dr2 (ai @okc3 (ai @len3 (ai @tk3 (ai @dr3 @Zar)))))))))));refine gG ?_;clear F)
 refine gB ?_
 (have F:=ai @okc0 (ai @len0 (ai @tk0 (ai @dr0 (ai @okc2 (ai @len2 (ai @tk2 (ai @dr2 (ai @okc3 (ai @len3 (ai @tk3 (ai @dr3 @Zar)))))))))));refine gC (cT3) ?_;clear F)
 (have F:=ai @okc0 (ai @len0 (ai @tk0 (ai @dr0 (ai @okc2 (ai @len2 (ai @tk2 (ai @dr2 (ai @okc3 (ai @len3 (ai @tk3 (ai @dr3 @Zar)))))))))));refine gR ?_;clear F)
 (have F:=ai @okc0 (ai @len0 (ai @tk0 (ai @dr0 (ai @okc2 (ai @len2 (ai @tk2 (ai @dr2 (ai @okc3 (ai @len3 (ai @tk3 (ai @dr3 @Zar)))))))))));refine gG ?_;clear F)
 refine gB ?_
 (have F:=ai @okc0 (ai @len0 (ai @tk0 (ai @dr0 (ai @okc2 (ai @len2 (ai @tk2 (ai @dr2 (ai @okc3 (ai @len3 (ai @tk3 (ai @dr3 @Zar)))))))))));refine gC (him) ?_;clear F)
 (have F:=ai @okc0 (ai @len0 (ai @tk0 (ai @dr0 (ai @okc2 (ai @len2 (ai @tk2 (ai @dr2 (ai @okc3 (ai @len3 (ai @tk3 (ai @dr3 @Zar)))))))))));refine gR ?_;clear F)
 (have F:=ai @okc0 (ai @len0 (ai @tk0 (ai @dr0 (ai @okc2 (ai @len2 (ai @tk2 (ai @dr2 (ai @okc3 (ai @len3 (ai @tk3 (ai @dr3 (ai @Zar @beq_self_eq_true.{0}))))))))))));refine gG ?_;clear F)
 refine gB ?_
 (have F:=ai @okc0 (ai @len0 (ai @tk0 (ai @dr0 (ai @okc2 (ai @len2 (ai @tk2 (ai @dr2 (ai @okc3 (ai @len3 (ai @tk3 (ai @dr3 @Zar)))))))))));refine gC (cT0) ?_;clear F)
 (have F:=ai @okc0 (ai @len0 (ai @tk0 (ai @dr0 (ai @okc2 (ai @len2 (ai @tk2 (ai @dr2 (ai @okc3 (ai @len3 (ai @tk3 (ai @dr3 @Zar)))))))))));refine gC (Zi7 hok0) ?_;clear F)
 (have F:=ai @okc0 (ai @len0 (ai @tk0 (ai @dr0 (ai @okc2 (ai @len2 (ai @tk2 (ai @dr2 (ai @okc3 (ai @len3 (ai @tk3 (ai @dr3 @Zar)))))))))));refine gR ?_;clear F)
 (have F:=ai @okc0 (ai @len0 (ai @tk0 (ai @dr0 (ai @okc2 (ai @len2 (ai @tk2 (ai @dr2 (ai @okc3 (ai @len3 (ai @tk3 (ai @dr3 @Zar)))))))))));refine gG ?_;clear F)
 refine gB ?_
 (have F:=ai @okc0 (ai @len0 (ai @tk0 (ai @dr0 (ai @okc2 (ai @len2 (ai @tk2 (ai @dr2 (ai @okc3 (ai @len3 (ai @tk3 (ai @dr3 @Zar)))))))))));refine gC (cT1) ?_;clear F)
 (have F:=ai @okc0 (ai @len0 (ai @tk0 (ai @dr0 (ai @okc2 (ai @len2 (ai @tk2 (ai @dr2 (ai @okc3 (ai @len3 (ai @tk3 (ai @dr3 @Zar)))))))))));refine gC (Zi5 hok1) ?_;clear F)
 (have F:=ai @okc0 (ai @len0 (ai @tk0 (ai @dr0 (ai @okc2 (ai @len2 (ai @tk2 (ai @dr2 (ai @okc3 (ai @len3 (ai @tk3 (ai @dr3 @Zar)))))))))));refine gR ?_;clear F)
 (have F:=ai @okc0 (ai @len0 (ai @tk0 (ai @dr0 (ai @okc2 (ai @len2 (ai @tk2 (ai @dr2 (ai @okc3 (ai @len3 (ai @tk3 (ai @dr3 @Zar)))))))))));refine gG ?_;clear F)
 refine gB ?_
 (have F:=ai @okc0 (ai @len0 (ai @tk0 (ai @dr0 (ai @okc2 (ai @len2 (ai @tk2 (ai @dr2 (ai @okc3 (ai @len3 (ai @tk3 (ai @dr3 @Zar)))))))))));refine gC (cT2) ?_;clear F)
 (have F:=ai @okc0 (ai @len0 (ai @tk0 (ai @dr0 (ai @okc2 (ai @len2 (ai @tk2 (ai @dr2 (ai @okc3 (ai @len3 (ai @tk3 (ai @dr3 @Zar)))))))))));refine gC (Zjb hok2) ?_;clear F)
 (have F:=ai @okc0 (ai @len0 (ai @tk0 (ai @dr0 (ai @okc2 (ai @len2 (ai @tk2 (ai @dr2 (ai @okc3 (ai @len3 (ai @tk3 (ai @dr3 @Zar)))))))))));refine gR ?_;clear F)
 (have F:=ai @okc0 (ai @len0 (ai @tk0 (ai @dr0 (ai @okc2 (ai @len2 (ai @tk2 (ai @dr2 (ai @okc3 (ai @len3 (ai @tk3 (ai @dr3 @Zar)))))))))));refine gG ?_;clear F)
 refine gB ?_
 (have F:=ai @okc0 (ai @len0 (ai @tk0 (ai @dr0 (ai @okc2 (ai @len2 (ai @tk2 (ai @dr2 (ai @okc3 (ai @len3 (ai @tk3 (ai @dr3 @Zar)))))))))));refine gC (cT3) ?_;clear F)
 (have F:=ai @okc0 (ai @len0 (ai @tk0 (ai @dr0 (ai @okc2 (ai @len2 (ai @tk2 (ai @dr2 (ai @okc3 (ai @len3 (ai @tk3 (ai @dr3 @Zar)))))))))));refine gC (Zjb hok3) ?_;clear F)
 (have F:=ai @okc0 (ai @len0 (ai @tk0 (ai @dr0 (ai @okc2 (ai @len2 (ai @tk2 (ai @dr2 (ai @okc3 (ai @len3 (ai @tk3 (ai @dr3 @Zar)))))))))));refine gR ?_;clear F)
 (have F:=ai @okc0 (ai @len0 (ai @tk0 (ai @dr0 (ai @okc2 (ai @len2 (ai @tk2 (ai @dr2 (ai @okc3 (ai @len3 (ai @tk3 (ai @dr3 @Zar)))))))))));refine gG ?_;exact gT)
theorem Zgr (w:World) (hT:Zcq w) (row0:List C) (S0:Nat->Prop) (us0:List Value) (hok0:Zae (sigF) row0) (hv0:Zaa w S0 row0 us0) (rows1:List (List C)) (S1:Nat->Prop) (u1:Value) (hok1:Zam (Zab .int) rows1) (hv1:Rep w S1 (.sl rows1) u1) (row2:List C) (S2:Nat->Prop) (us2:List Value) (hok2:Zae (Zab .term) row2) (hv2:Zaa w S2 row2 us2) (row3:List C) (S3:Nat->Prop) (us3:List Value) (hok3:Zae (Zab .term) row3) (hv3:Zaa w S3 row3 us3) :
  Calls Tryz.prog 3 #[(.agg us0.toArray:Value),u1,(.agg us2.toArray:Value),(.agg us3.toArray:Value)] w fun e w'=>e=.returned (.bool true)∧Below w.heap.size w w':=by
 obtain ⟨g,rfl,k0⟩:=Zz6 hok0
 obtain ⟨xs,rfl,k1⟩:=decL ZtF hok1
 obtain ⟨x,rfl,k2⟩:=Zzg hok2
 obtain ⟨y,rfl,k3⟩:=Zzg hok3
 have hc:=(Zg2 hok0 hok1 hok2 hok3 (fun b0 b1 b2 b3=>Zmd k0 b0 k2 b2 k3 b3) (fun b0 b1 b2 b3=>Zme k0 b0 k2 b2 k3 b3)).2 w (fun b=>b < w.heap.size∧b≠2) [(.agg us0.toArray:Value),u1,(.agg us2.toArray:Value),(.agg us3.toArray:Value)] (fun b hb=>⟨hb.1,hb.2⟩) (Zz9 hT) hT
  ⟨⟨us0,rfl,Zaa.off (ZiA hT) _ _ _ hok0 hv0.inside'⟩,Rep.off (ZiA hT) (.sl .int) _ _ (by simpa only [okC] using hok1) ((Rep.inside _ _ hv1).mono (fun b hb=>hb.2)),⟨us2,rfl,Zaa.off (ZiA hT) _ _ _ hok2 hv2.inside'⟩,⟨us3,rfl,Zaa.off (ZiA hT) _ _ _ hok3 hv3.inside'⟩,trivial⟩
 refine hc.mono fun e w' ⟨v,h1,h2,h3,h4⟩=>⟨?_,h2.belowT hT h3⟩
 have h4:v=.bool true:=by simpa [retA,ARel,DRel,Rep] using h4
 rw [h1,h4]
end Go.Proofs.YtcgacanpeaiabaaGreatDoor
