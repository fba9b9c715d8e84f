/-
  Part of a proof: Vt, Sy, Ti, Tj, Bu, Ra, LBinding, Bb, Gv, Gt, Ap, Ow, Sb, Fi, Fj, Sw, Sw2, Sw3, Sw4, Zt, Bw, As, Ot, Sc, Lc, Sf, Bf, Rl, Rk, M6, Ky, By.
-/
import Derived.Test.YtffmjghcpgpfpaaGreatDoorBBase0
import Derived.Test.YtffmjghcpgpfpaaGreatDoorBBase1
import Derived.Test.YtffmjghcpgpfpaaGreatDoorBBase2
import Derived.Test.YtffmjghcpgpfpaaGreatDoorRows
import Derived.Deep.RegionHeld3
set_option linter.unusedSimpArgs false
set_option linter.unusedVariables false
set_option maxHeartbeats 400000000
namespace Go.Proofs.YtffmjghcpgpfpaaGreatDoor
open Go.RowKit
def zTm0:Tm:=.mk 0 ByteArray.empty 0 []
def ddT:Option Tm->List Tm->List Tm
 | _,[]=>[]
 | none,x::xs=>x::ddT (some x) xs
 | some y,x::xs=>if Zal x y=0 then ddT (some x) xs else x::ddT (some x) xs
def Zgc:Option Tm->List Tm->Option Tm
 | p,[]=>p
 | _,x::xs=>Zgc (some x) xs
theorem ZjC:∀ (p:Option Tm) (l:List Tm) (x:Tm),ddT p (l++[x])=match Zgc p l with
  | none=>ddT p l++[x]
  | some y=>if Zal x y=0 then ddT p l else ddT p l++[x]
 | none,[],x=>rfl
 | some y,[],x=>by simp only [List.nil_append,ddT,Zgc]
 | none,a::l,x=>by
  simp only [List.cons_append,ddT,Zgc,ZjC (some a) l x]
  split
  ·rfl
  ·split <;> rfl
 | some y,a::l,x=>by
  simp only [List.cons_append,ddT,Zgc,ZjC (some a) l x]
  split
  ·rfl
  ·split
   ·rfl
   ·split <;> rfl
theorem ZkC:∀ (p:Option Tm) (l:List Tm) (i:Nat) (y:Tm),l[i]?=some y->Zgc p (l.take (i+1))=some y
 | p,[],i,y,h=>by simp at h
 | p,x::xs,0,y,h=>by simp at h;subst h;simp [Zgc]
 | p,x::xs,i+1,y,h=>by
  simp only [List.take_succ_cons,Zgc]
  exact ZkC (some x) xs i y (by simpa using h)
theorem ZDD {l:List Tm} {i:Nat} {x y:Tm} (hx:l[i+1]?=some x) (hy:l[i]?=some y):ddT none (l.take (i+2))=if Zal x y=0 then ddT none (l.take (i+1)) else ddT none (l.take (i+1))++[x]:=by
 have e:l.take (i+2)=l.take (i+1)++[x]:=by simp [List.take_add_one,hx]
 rw [e,ZjC,ZkC none l i y hy]
theorem ZDH {l:List Tm} {x:Tm} (hx:l[0]?=some x):ddT none (l.take 1)=[x]:=by
 cases l with
 | nil=>simp at hx
 | cons a l=>simp at hx;subst hx;simp [ddT]
def Up (l:List Tm):Prop:=l.Pairwise fun a b=>Zal a b<=0
theorem ZwG:∀ (l:List Tm) (y:Tm),Up l->(∀ x∈l,Zal y x<=0)->Asc (ddT (some y) l)∧(∀ z∈ddT (some y) l,Zal y z < 0)∧∀ z,(z=y∨z∈ddT (some y) l) ↔ (z=y∨z∈l)
 | [],y,_,_=>⟨List.Pairwise.nil,fun z h=>by simp [ddT] at h,fun z=>by simp [ddT]⟩
 | x::xs,y,hu,hy=>by
  have h1:=List.pairwise_cons.1 hu
  have hyx:=hy x List.mem_cons_self
  obtain ⟨k1,k2,k3⟩:=ZwG xs x h1.2 h1.1
  simp only [ddT]
  by_cases h0:Zal x y=0
  ·rw [if_pos h0]
   have e:=Zen h0
   subst e
   exact ⟨k1,k2,fun z=>by rw [k3 z];simp⟩
  ·rw [if_neg h0]
   have hlt:Zal y x < 0:=by rw [Zc6 x y] at hyx ⊢;omega
   refine ⟨List.pairwise_cons.2 ⟨k2,k1⟩,fun z hz=>?_,fun z=>?_⟩
   ·rcases List.mem_cons.1 hz with rfl | hz
    ·exact hlt
    ·exact ZgG hlt (k2 z hz)
   ·have:=k3 z
    simp only [List.mem_cons]
    rw [this]
theorem ZDE {l:List Tm} (h:Up l):ddT none l=Ze5 l:=by
 cases l with
 | nil=>rfl
 | cons x xs =>
  have h1:=List.pairwise_cons.1 h
  obtain ⟨k1,k2,k3⟩:=ZwG xs x h1.2 h1.1
  simp only [ddT]
  refine (ZwE (List.pairwise_cons.2 ⟨k2,k1⟩) fun t=>?_).symm
  simp only [List.mem_cons]
  exact k3 t
def Zas (l:List Tm):List Tm:=l.mergeSort fun a b=>decide (Zal a b<=0)
theorem Zbd (l:List Tm):(Zas l).Perm l:=List.mergeSort_perm l _
theorem Zcg (l:List Tm):Up (Zas l):=by
 have h:=List.pairwise_mergeSort (le:=fun a b=>decide (Zal a b<=0)) (fun a b c h1 h2=>by simp only [decide_eq_true_eq] at *;exact ZbV h1 h2) (fun a b=>by
  simp only [Bool.or_eq_true,decide_eq_true_eq]
  have:=Zc6 a b
  omega) l
 exact h.imp fun h=>by simpa using h
theorem Zle:∀ {l l':List Tm},Up l->Up l'->l.Perm l'->l=l'
 | [],l',_,_,h=>by have:=h.length_eq;cases l' with | nil=>rfl | cons _ _=>simp at this
 | x::xs,[],_,_,h=>by have:=h.length_eq;simp at this
 | x::xs,y::ys,h1,h2,h=>by
  have p1:=List.pairwise_cons.1 h1
  have p2:=List.pairwise_cons.1 h2
  have hx:x∈y::ys:=h.mem_iff.1 List.mem_cons_self
  have hy:y∈x::xs:=h.mem_iff.2 List.mem_cons_self
  have e:x=y:=by
   rcases List.mem_cons.1 hx with e | hx
   ·exact e
   ·rcases List.mem_cons.1 hy with e | hy
    ·exact e.symm
    ·have a1:=p2.1 x hx
     have a2:=p1.1 y hy
     refine Zen ?_
     rw [Zc6 x y] at a1
     omega
  subst e
  rw [Zle p1.2 p2.2 h.cons_inv]
theorem ZDd {l l':List Tm} (h:l.Perm l'):Ze5 l=Ze5 l':=(Zhg l).ext (Zhg l') fun t=>by rw [Zhh,Zhh,h.mem_iff]
mutual
theorem ZlZ:∀ {a b:Tm},Zae a=Zae b->a=b
 | .mk o n s a,.mk o' n' s' a',h=>by
  simp only [Zae,List.cons.injEq,C.lit.injEq,C.sl.injEq,Value.int.injEq,Value.string.injEq,true_and,and_true] at h
  obtain ⟨rfl,rfl,rfl,h⟩:=h
  rw [ZkD h]
theorem ZkD:∀ {a b:List Tm},Zac a=Zac b->a=b
 | [],[],_=>rfl
 | [],_::_,h=>by simp [Zac] at h
 | _::_,[],h=>by simp [Zac] at h
 | x::xs,y::ys,h=>by
  simp only [Zac,List.cons.injEq] at h
  rw [ZlZ h.1,ZkD h.2]
end
open Classical in
noncomputable def unT (r:List C):Tm:=if h:∃ t,r=Zae t then h.choose else zTm0
theorem ZB5 (t:Tm):unT (Zae t)=t:=by
 have h:∃ t',Zae t=Zae t':=⟨t,rfl⟩
 unfold unT
 rw [dif_pos h]
 exact (ZlZ h.choose_spec).symm
theorem ZDI (l:List Tm):(Zac l).map unT=l:=by
 rw [ZbC,List.map_map]
 conv=>rhs;rw [<- List.map_id l]
 exact List.map_congr_left fun t _=>ZB5 t
theorem Zo8 (l:List Tm) (k:Nat):(Zac l).take k=Zac (l.take k):=by rw [ZbC,ZbC,List.map_take]
theorem Zo9 (l:List Tm) (k:Nat):(Zac l).drop k=Zac (l.drop k):=by rw [ZbC,ZbC,List.map_drop]
theorem ZdO (a b:List Tm):Zac (a++b)=Zac a++Zac b:=by rw [ZbC,ZbC,ZbC,List.map_append]
theorem ZkE (t:Tm):Zac [t]=[Zae t]:=by simp [Zac]
theorem ZCT (a b:Tm):Con e0 62 [.agg (Zae a),.agg (Zae b)] [.one (.lit (.bool (decide (Zal a b=0))))]:=by
 refine gI (ts:=[.slot 4]) 31 Tryz.func62 ?_
 (have F:=@tmz;refine gG ?_;clear F)
 refine gB ?_
 (have F:=@tmz;refine gC (Zkf (ZfK a b)) ?_;clear F)
 (have F:=@tmz;refine gR ?_;clear F)
 (have F:=@tmz;refine gG ?_;exact gTd)
theorem Ze6 {l m:List Tm} (hp:m.Perm l) (hu:Up m):m=Zas l:=Zle hu (Zcg l) (hp.trans (Zbd l).symm)
theorem ZdY {l:List Tm} (hu:Up l):Zas l=l:=(Ze6 (List.Perm.refl _) hu).symm
theorem Zcv (l:List Tm):(Zas l).length=l.length:=(Zbd l).length_eq
theorem Zn0 {l m:List Tm} (h:l.Perm m):Zas l=Zas m:=Zle (Zcg l) (Zcg m) ((Zbd l).trans (h.trans (Zbd m).symm))
theorem Up.get {l:List Tm} (h:Up l) {i j:Nat} {x y:Tm} (hij:i<=j) (hx:l[i]?=some x) (hy:l[j]?=some y):Zal x y<=0:=by
 rcases Nat.lt_or_ge i j with hl | hl
 ·obtain ⟨h1,rfl⟩:=List.getElem?_eq_some_iff.1 hx
  obtain ⟨h2,rfl⟩:=List.getElem?_eq_some_iff.1 hy
  exact List.pairwise_iff_getElem.1 h i j h1 h2 hl
 ·obtain rfl:i=j:=by omega
  rw [hx] at hy
  injection hy with hy
  subst hy
  rw [Zeo];omega
theorem ZfT {l:List Tm} {k:Nat} {x:Tm} (h:x∈l.take k):∃ i,i < k∧l[i]?=some x:=by
 obtain ⟨i,hi⟩:=List.getElem?_of_mem h
 rw [List.getElem?_take] at hi
 split at hi
 ·exact ⟨i,by assumption,hi⟩
 ·cases hi
theorem ZfU {l:List Tm} {k:Nat} {x:Tm} (h:x∈l.drop k):∃ i,k<=i∧l[i]?=some x:=by
 obtain ⟨i,hi⟩:=List.getElem?_of_mem h
 rw [List.getElem?_drop] at hi
 exact ⟨k+i,by omega,hi⟩
theorem ZmT {x y:Tm} (h:¬ Zal x y < 0):Zal y x<=0:=by rw [Zc6 x y];omega
theorem Up.append {l m:List Tm} (hl:Up l) (hm:Up m) (h:∀ x∈l,∀ y∈m,Zal x y<=0):Up (l++m):=List.pairwise_append.2 ⟨hl,hm,h⟩
theorem Up.left {l m:List Tm} (h:Up (l++m)):Up l:=(List.pairwise_append.1 h).1
theorem Up.take {l:List Tm} (h:Up l) (k:Nat):Up (l.take k):=List.Pairwise.sublist (List.take_sublist k l) h
theorem Up.drop {l:List Tm} (h:Up l) (k:Nat):Up (l.drop k):=List.Pairwise.sublist (List.drop_sublist k l) h
theorem Up.put {B:List Tm} {x:Tm} (hB:Up B) {s:Nat} (h1:0 < s->∃ y,B[s - 1]?=some y∧Zal y x<=0) (h2:s < B.length->∃ y,B[s]?=some y∧Zal x y<=0):Up (B.take s++x::B.drop s):=by
 have k2:∀ z∈B.drop s,Zal x z<=0:=fun z hz=>by
  obtain ⟨i,hi,hz⟩:=ZfU hz
  have hl:=(List.getElem?_eq_some_iff.1 hz).1
  obtain ⟨y,hy,hc⟩:=h2 om
  exact ZbV hc (hB.get hi hy hz)
 have k1:∀ z∈B.take s,Zal z x<=0:=fun z hz=>by
  obtain ⟨i,hi,hz⟩:=ZfT hz
  obtain ⟨y,hy,hc⟩:=h1 om
  exact ZbV (hB.get om hz hy) hc
 refine (hB.take s).append (List.pairwise_cons.2 ⟨k2,hB.drop s⟩) fun z hz u hu=>?_
 rcases List.mem_cons.1 hu with rfl | hu
 ·exact k1 z hz
 ·obtain ⟨i,hi,hz⟩:=ZfT hz
  obtain ⟨j,hj,hu⟩:=ZfU hu
  exact hB.get om hz hu
theorem ZxZ {B:List Tm} {x:Tm} (s:Nat):(B.take s++x::B.drop s).Perm (x::B):=by
 refine List.perm_middle.trans ?_
 rw [List.take_append_drop]
theorem ZB6 {A B:List Tm} (hA:Up A) (hB:Up B) {s e:Nat} (h1:e < B.length->0 < s->∃ x y,A[s - 1]?=some x∧B[e]?=some y∧Zal x y<=0) (h2:0 < e->s < A.length->∃ x y,B[e - 1]?=some x∧A[s]?=some y∧Zal x y<=0):∀ x∈A.take s++B.take e,∀ y∈A.drop s++B.drop e,Zal x y<=0:=by
 intro x hx y hy
 rcases List.mem_append.1 hx with hx | hx <;> rcases List.mem_append.1 hy with hy | hy <;> obtain ⟨i,hi,hx⟩:=ZfT hx <;> obtain ⟨j,hj,hy⟩:=ZfU hy
 ·exact hA.get om hx hy
 ·have hl:=(List.getElem?_eq_some_iff.1 hy).1
  obtain ⟨u,v,hu,hv,huv⟩:=h1 om om
  exact ZbV (ZbV (hA.get om hx hu) huv) (hB.get hj hv hy)
 ·have hl:=(List.getElem?_eq_some_iff.1 hy).1
  obtain ⟨u,v,hu,hv,huv⟩:=h2 om om
  exact ZbV (ZbV (hB.get om hx hu) huv) (hA.get hj hv hy)
 ·exact hB.get om hx hy
theorem ZsG {A1 A2 B1 B2:List Tm} (h:∀ x∈A1++B1,∀ y∈A2++B2,Zal x y<=0):Zas (A1++B1)++Zas (A2++B2)=Zas ((A1++A2)++(B1++B2)):=by
 refine Ze6 ?_ ((Zcg _).append (Zcg _) fun x hx y hy=>h x ((Zbd _).mem_iff.1 hx) y ((Zbd _).mem_iff.1 hy))
 refine ((Zbd _).append (Zbd _)).trans ?_
 rw [List.append_assoc,List.append_assoc]
 refine List.Perm.append_left _ ?_
 rw [<- List.append_assoc,<- List.append_assoc]
 exact List.Perm.append_right _ List.perm_append_comm
inductive Blks (k:Nat):List Tm->Prop where
 | last {l:List Tm} (hl:l.length<=k) (hu:Up l):Blks k l
 | cons {X r:List Tm} (hl:X.length=k) (hu:Up X) (hr:Blks k r):Blks k (X++r)
inductive Full (k:Nat):List Tm->Prop where
 | nil:Full k []
 | cons {X r:List Tm} (hl:X.length=k) (hu:Up X) (hr:Full k r):Full k (X++r)
theorem Full.snoc {k:Nat} {X Z:List Tm} (h:Full k X) (hl:Z.length=k) (hu:Up Z):Full k (X++Z):=by
 induction h with
 | nil=>have:=Full.cons hl hu Full.nil;rwa [List.append_nil] at this
 | cons h1 h2 _ ih=>rw [List.append_assoc];exact .cons h1 h2 ih
theorem Full.blks {k:Nat} {X Z:List Tm} (h:Full k X) (hl:Z.length<=k) (hu:Up Z):Blks k (X++Z):=by
 induction h with
 | nil=>exact .last hl hu
 | cons h1 h2 _ ih=>rw [List.append_assoc];exact .cons h1 h2 ih
theorem Blks.up {k:Nat} {l:List Tm} (h:Blks k l) (hl:l.length<=k):Up l:=by
 cases h with
 | last h1 h2=>exact h2
 | @cons X r h1 h2 h3 =>
  rw [List.length_append] at hl
  have:r=[]:=List.eq_nil_of_length_eq_zero om
  subst this
  rwa [List.append_nil]
theorem Blks.split {k:Nat} {l:List Tm} (h:Blks k l) (hl:k < l.length):∃ X r,l=X++r∧X.length=k∧Up X∧Blks k r:=by
 cases h with
 | last h1 h2=>omega
 | cons h1 h2 h3=>exact ⟨_,_,rfl,h1,h2,h3⟩
theorem Blks.two {k:Nat} {l:List Tm} (h:Blks k l) (hk:0 < k) (hl:2 * k<=l.length):∃ A B r,l=A++B++r∧A.length=k∧B.length=k∧Up A∧Up B∧Blks k r:=by
 obtain ⟨A,r,rfl,h1,h2,h3⟩:=h.split om
 rw [List.length_append] at hl
 rcases Nat.lt_or_ge k r.length with h4 | h4
 ·obtain ⟨B,r',rfl,h5,h6,h7⟩:=h3.split h4
  exact ⟨A,B,r',by rw [List.append_assoc],h1,h5,h2,h6,h7⟩
 ·exact ⟨A,r,[],by rw [List.append_nil],h1,by omega,h2,h3.up h4,.last (by simp) List.Pairwise.nil⟩
theorem ZgH {A B:List Tm} {x y:Tm} {k:Nat} (h:A.length=k):(A++x::B).set k y=A++y::B:=by
 subst h
 rw [List.set_append_right _ _ (Nat.le_refl _),Nat.sub_self,List.set_cons_zero]
theorem ZgI {A B:List Tm} {x:Tm} {k:Nat} (h:A.length=k):(A++x::B)[k]?=some x:=by
 subst h
 rw [List.getElem?_append_right (Nat.le_refl _),Nat.sub_self,List.getElem?_cons_zero]
theorem ZrC {A B:List Tm} {x y:Tm} {k:Nat} (h:A.length=k):((A++y::x::B).set (k+1) y).set k x=A++x::y::B:=by
 have e1:(A++y::x::B).set (k+1) y=A++y::y::B:=by
  have:=ZgH (A:=A++[y]) (B:=B) (x:=x) (y:=y) (k:=k+1) (by simp [h])
  simpa using this
 rw [e1,ZgH h]
theorem Zx0 {A B:List Tm} {x y:Tm} {k:Nat} (h:A.length=k):((A++y::x::B).set k x).set (k+1) y=A++x::y::B:=by
 have e1:(A++x::x::B).set (k+1) y=A++x::y::B:=by
  have:=ZgH (A:=A++[x]) (B:=B) (x:=x) (y:=y) (k:=k+1) (by simp [h])
  simpa using this
 rw [ZgH h,e1]
theorem Zlf {A B:List Tm} {x y:Tm} {k:Nat} (h:A.length=k):(A++y::x::B)[k+1]?=some x:=by
 have:=ZgI (A:=A++[y]) (B:=B) (x:=x) (k:=k+1) (by simp [h])
 simpa using this
theorem Zc4 {l:List Tm} {i:Nat} {x:Tm} (h:l[i]?=some x):l.drop i=x::l.drop (i+1):=by
 obtain ⟨h1,rfl⟩:=List.getElem?_eq_some_iff.1 h
 exact List.drop_eq_getElem_cons h1
theorem Zb0 {l:List Tm} {i:Nat} {x:Tm} (h:l[i]?=some x):l.take (i+1)=l.take i++[x]:=by
 rw [List.take_add_one,h];rfl
def swR (P X Z Y Q:List Tm) (i:Nat):List Tm:=P++(Y.take i++X.drop i)++Z++(X.take i++Y.drop i)++Q
theorem Zx1 (P X Z Y Q:List Tm):swR P X Z Y Q 0=P++X++Z++Y++Q:=by simp [swR]
theorem ZB7 {P X Z Y Q:List Tm} (h:X.length=Y.length):swR P X Z Y Q X.length=P++Y++Z++X++Q:=by
 unfold swR
 rw [List.take_length,List.drop_length,h,List.take_length,List.drop_length];simp
theorem ZB8 {P X Z Y Q:List Tm} (i:Nat) (h:X.length=Y.length):(swR P X Z Y Q i).length=P.length+X.length+Z.length+Y.length+Q.length:=by
 simp only [swR,List.length_append,List.length_take,List.length_drop];omega
theorem ZB9 {P X Z Y Q:List Tm} {i:Nat} {x y:Tm} (h:X.length=Y.length) (hx:X[i]?=some x) (hy:Y[i]?=some y) :
  (swR P X Z Y Q i)[P.length+i]?=some x∧(swR P X Z Y Q i)[P.length+X.length+Z.length+i]?=some y∧((swR P X Z Y Q i).set (P.length+i) y).set (P.length+X.length+Z.length+i) x=swR P X Z Y Q (i+1):=by
 have hi:=(List.getElem?_eq_some_iff.1 hx).1
 have hi':=(List.getElem?_eq_some_iff.1 hy).1
 have e:swR P X Z Y Q i=(P++Y.take i)++x::(X.drop (i+1)++Z++X.take i++y::(Y.drop (i+1)++Q)):=by
  unfold swR;rw [Zc4 hx,Zc4 hy];simp
 have e2:swR P X Z Y Q i=((P++Y.take i)++x::(X.drop (i+1)++Z++X.take i))++y::(Y.drop (i+1)++Q):=by rw [e];simp
 have l1:(P++Y.take i).length=P.length+i:=by simp;omega
 have l2:∀ z:Tm,((P++Y.take i)++z::(X.drop (i+1)++Z++X.take i)).length=P.length+X.length+Z.length+i:=fun z=>by simp;omega
 refine ⟨by rw [e];exact ZgI l1,by rw [e2];exact ZgI (l2 x),?_⟩
 rw [e,ZgH l1]
 rw [show (P++Y.take i)++y::(X.drop (i+1)++Z++X.take i++y::(Y.drop (i+1)++Q))=((P++Y.take i)++y::(X.drop (i+1)++Z++X.take i))++y::(Y.drop (i+1)++Q) by simp,ZgH (l2 y)]
 unfold swR
 rw [Zb0 hy,Zb0 hx];simp
theorem Zx2 {M1 M2:List Tm} {x:Tm} (h:Up (M1++M2)) (h2:∀ y∈M2,Zal x y<=0) (h1:∀ y,M1.getLast?=some y->Zal y x<=0):Up (M1++x::M2):=by
 obtain ⟨u1,u2,u3⟩:=List.pairwise_append.1 h
 refine Up.append u1 (List.pairwise_cons.2 ⟨h2,u2⟩) fun z hz u hu=>?_
 rcases List.mem_cons.1 hu with rfl | hu
 ·obtain ⟨M0,y,rfl⟩:∃ M0 y,M1=M0++[y]:=⟨M1.dropLast,M1.getLast (List.ne_nil_of_mem hz),(List.dropLast_concat_getLast _).symm⟩
  have hy:=h1 y (by simp)
  rcases List.mem_append.1 hz with hz | hz
  ·exact ZbV ((List.pairwise_append.1 u1).2.2 z hz y (by simp)) hy
  ·simp only [List.mem_singleton] at hz
   subst hz
   exact hy
 ·exact u3 z hz u hu
theorem Zn1 {M1 M2 L:List Tm} {x:Tm} (e:M1++M2=Zas L) (h2:∀ y∈M2,Zal x y<=0) (h1:∀ y,M1.getLast?=some y->Zal y x<=0):M1++x::M2=Zas (L++[x]):=by
 have hu:Up (M1++M2):=by rw [e];exact Zcg _
 refine Ze6 ?_ (Zx2 hu h2 h1)
 refine List.perm_middle.trans ?_
 rw [e]
 exact ((Zbd L).cons x).trans (List.perm_append_comm (l₁:=[x]) (l₂:=L))
mutual
def ZcQ:Tm->Int->Int
 | .mk _ _ _ args,l=>Zbh args (l - 1)
def Zbh:List Tm->Int->Int
 | [],l=>l
 | t::ts,l=>if 0<=l then Zbh ts (ZcQ t l) else l
end
theorem ZwH:∀ l,Zbh [] l=l:=fun _=>by rw [Zbh]
mutual
theorem Zjd:∀ (t:Tm) (l:Int),0<=l->(-1<=ZcQ t l∧ZcQ t l<=l∧((sizeTm t:Int)<=l->ZcQ t l=l - sizeTm t)∧(l < sizeTm t->ZcQ t l < 0))
 | .mk _ _ _ args,l,hl=>by
  have:=ZfV args (l - 1) om
  simp only [ZcQ,sizeTm]
  refine ⟨this.1,by omega,fun h=>?_,fun h=>?_⟩
  ·have:=this.2.2.1 om;omega
  ·by_cases h1:0<=l - 1
   ·exact this.2.2.2 om
   ·have h2:=this.2.1;omega
theorem ZfV:∀ (ts:List Tm) (l:Int),-1<=l->(-1<=Zbh ts l∧Zbh ts l<=l∧((sizeTms ts:Int)<=l->Zbh ts l=l - sizeTms ts)∧(l < sizeTms ts->Zbh ts l < 0))
 | [],l,hl=>by simp only [Zbh,sizeTms];omega
 | t::ts,l,hl=>by
  simp only [Zbh,sizeTms]
  by_cases h0:0<=l
  ·rw [if_pos h0]
   have h1:=Zjd t l h0
   have h2:=ZfV ts (ZcQ t l) h1.1
   refine ⟨h2.1,by omega,fun h=>?_,fun h=>?_⟩
   ·have e1:=h1.2.2.1 om
    have e2:=h2.2.2.1 om
    omega
   ·by_cases h3:(sizeTm t:Int)<=l
    ·have e1:=h1.2.2.1 h3
     exact h2.2.2.2 om
    ·have e1:=h1.2.2.2 om
     omega
  ·rw [if_neg h0]
   have:=Zbx ts
   refine ⟨hl,Int.le_refl _,fun h=>by omega,fun h=>by omega⟩
end
theorem Zje {ts:List Tm} {l:Int} (h:¬ 0<=l):Zbh ts l=l:=by
 cases ts with
 | nil=>rfl
 | cons t ts=>simp only [Zbh,if_neg h]
theorem Zgq:∀ (a b:List Tm) (l:Int),Zbh (a++b) l=Zbh b (Zbh a l)
 | [],b,l=>rfl
 | t::ts,b,l=>by
  simp only [List.cons_append,Zbh]
  by_cases h:0<=l
  ·rw [if_pos h,if_pos h,Zgq]
  ·rw [if_neg h,if_neg h,Zje h]
theorem Zn2 {ts:List Tm} {i:Nat} {t:Tm} {l:Int} (h:ts[i]?=some t) (h0:0<=Zbh (ts.take i) l):Zbh (ts.take (i+1)) l=ZcQ t (Zbh (ts.take i) l):=by
 rw [Zcb h,Zgq]
 simp only [Zbh,if_pos h0]
theorem Zn3 {ts:List Tm} {i:Nat} {l:Int} (h0:¬ 0<=Zbh (ts.take i) l):Zbh ts l=Zbh (ts.take i) l:=by
 conv=>lhs;rw [<- List.take_append_drop i ts]
 rw [Zgq,Zje h0]
theorem ZwI (t:Tm) (l:Int):ZcQ t l=Zbh t.args (l - 1):=by cases t;simp only [ZcQ,Tm.args]
set_option maxRecDepth 100000 in
theorem Zlg:∀ (n:Nat) (t:Tm) (l:Int),sizeTm t < n->sizeTm t<=big->0<=l->l<=60->Con e0 153 [.agg (Zae t),.one (.lit (.int .i64 l))] [.one (.lit (.int .i64 (ZcQ t l)))]:=by
 intro n
 induction n with
 | zero=>intro t l h;omega
 | succ n ih =>
  intro t l hn hb hl0 hl1
  have hsz:=Za7 t
  have hal:=Zbx t.args
  unfold big at hb
  have hw:IntKind.i64.wrap (l - 1)=l - 1:=ZaP rfl om om
  rw [ZwI]
  refine gI 65591 Tryz.func153 ?_
  (have F:=ai @tmz @hw;refine gG ?_;clear F)
  (have F:=@ZwH;refine gL (ι:=Nat) [1,5,16] [] (fun i=>[(5,A.d (.one (.lit (.int .i64 i)))),(1,A.d (.one (.lit (.int .i64 (Zbh (t.args.take i) (l - 1))))))]) (fun i=>[]) (fun i=>i<=t.args.length) (fun i=>t.args.length - i) (0) om (fun i hi=>?_);clear F)
  have hsp:=ZfV (t.args.take i) (l - 1) om
  by_cases hl:i < t.args.length
  rotate_left
  ·have hl':¬ ((i:Int) < (t.args.length:Int)):=by omega
   have e:t.args.take i=t.args:=List.take_of_length_le om
   (have F:=ai @hl' (ai @e @tmz);refine gG ?_;exact gT)
  have hl':(i:Int) < (t.args.length:Int):=by omega
  by_cases h0:0<=Zbh (t.args.take i) (l - 1)
  rotate_left
  ·have e:=Zn3 h0
   (have F:=ai @hl' (ai @h0 (ai @e @tmz));refine gG ?_;exact gT)
  obtain ⟨a,ha⟩:∃ a,t.args[i]?=some a:=⟨_,List.getElem?_eq_getElem hl⟩
  have hm:=Zbi (List.mem_of_getElem? ha)
  have hw1:=Zav (k:=i) om
  have hs:=Zn2 ha h0
  (have F:=ai @hl' (ai @h0 (ai @tmz @ha));refine gG ?_;clear F)
  refine gB ?_
  (have F:=ai @tmz @ha;refine gC (ih a _ om (by unfold big;omega) h0 om) ?_;clear F)
  (have F:=@tmz;refine gR ?_;clear F)
  (have F:=ai @hw1 (ai @hs @tmz);refine gG ?_;exact ⟨i+1,by omega,gw,gw,by omega⟩)
theorem Zl0 {t:Tm}:0<=ZcQ t 60 ↔ sizeTm t<=60:=by
 have:=Zjd t 60 om
 by_cases h:sizeTm t<=60
 ·have:=this.2.2.1 om;omega
 ·have:=this.2.2.2 om;omega
set_option maxRecDepth 100000 in
theorem Zjf {t:Tm} (hb:sizeTm t<=big):Con e0 95 [.agg (Zae t)] [.one (.lit (.bool (decide (sizeTm t<=60∧depthTm t<=20))))]:=by
 refine gI 7 Tryz.func95 ?_
 (have F:=@tmz;refine gG ?_;clear F)
 refine gB ?_
 (have F:=@tmz;refine gC (Zlg _ t 60 (Nat.lt_succ_self _) hb om om) ?_;clear F)
 by_cases h1:sizeTm t<=60
 rotate_left
 ·have h1':¬ (0<=ZcQ t 60):=fun h=>h1 (Zl0.1 h)
  (have F:=ai @tmz @h1';refine gR ?_;clear F)
  (have F:=@h1;refine gG ?_;exact gT)
 have h1':(0<=ZcQ t 60):=Zl0.2 h1
 (have F:=ai @tmz @h1';refine gC (Zmv hb) ?_;clear F)
 by_cases h2:depthTm t<=20
 ·have h2':((depthTm t:Int)<=20):=by omega
  (have F:=ai @tmz @h2';refine gR ?_;clear F)
  (have F:=ai @h1 @h2;refine gG ?_;exact gT)
 ·have h2':¬ ((depthTm t:Int)<=20):=by omega
  (have F:=ai @tmz @h2';refine gR ?_;clear F)
  (have F:=ai @h1 @h2;refine gG ?_;exact gT)
section
variable {g:Sgn}
open Classical in
noncomputable def ZdZ (g:Sgn) (t:Tm):Bool:=decide (Zco g t)
theorem ZeR {t:Tm} (h:Zco g t):ZdZ g t=true:=by simp [ZdZ,h]
theorem Zn4 {t:Tm} (h:¬ Zco g t):ZdZ g t=false:=by simp [ZdZ,h]
theorem ZsH {t:Tm}:ZdZ g t=true ↔ Zco g t:=by simp [ZdZ]
set_option maxRecDepth 100000 in
theorem ZsI (hg:SgnOk g) {t:Tm} (hok:okTm t) (hb:sizeTm t<=big):Con e0 155 [.agg (Zaw g),.agg (Zae t)] [.one (.lit (.bool (ZdZ g t)))]:=by
 have hno:¬ Zco g t->ZdZ g t=false:=Zn4
 obtain ⟨k1,k2,k3,k4⟩:=Zez.1 hok
 have hsz:=Za7 t
 have hal:=Zbx t.args
 have hn8:=hg.sorts.n8
 have hn1:=hg.sorts.n1
 have hln:=hg.len
 unfold big at hb
 have hwn:IntKind.i64.wrap ((g.sorts.names.length:Int) - 1)=(g.sorts.names.length:Int) - 1:=ZaP rfl om om
 have hwo:IntKind.i64.wrap ((g.ops.length:Int) - 1)=(g.ops.length:Int) - 1:=ZaP rfl om om
 refine gI 9444733036108034605695 Tryz.func155 ?_
 by_cases h1:t.op=-1
 ·have hV:Zco g t->ZcF g t:=fun h=>by
   rcases h with h | ⟨o,d,h⟩
   ·exact h
   ·exact absurd h1 h.op
  (have F:=ai @tmz (ai @ZbS @h1);refine gG ?_;clear F)
  refine gB ?_
  (have F:=@tmz;refine gC (ZfO k2) ?_;clear F)
  by_cases h2:Zbc t.name=true
  rotate_left
  ·have h2':Zbc t.name=false:=by simpa using h2
   have hf:=hno fun h=>h2 (hV h).2.1
   (have F:=ai @tmz @h2';refine gR ?_;clear F)
   (have F:=@hf;refine gG ?_;exact gT)
  (have F:=ai @tmz (ai @h2 @hwn);refine gC (ZdC _ _ _) ?_;clear F)
  by_cases h3:0<=t.sort∧t.sort < g.sorts.names.length
  rotate_left
  ·have h3':decide (0<=t.sort∧t.sort<=(g.sorts.names.length:Int) - 1)=false:=by simp only [decide_eq_false_iff_not];omega
   have hf:=hno fun h=>h3 ⟨(hV h).2.2.1,(hV h).2.2.2.1⟩
   (have F:=ai @tmz @h3';refine gR ?_;clear F)
   (have F:=@hf;refine gG ?_;exact gT)
  have h3':decide (0<=t.sort∧t.sort<=(g.sorts.names.length:Int) - 1)=true:=by simp only [decide_eq_true_eq];omega
  by_cases h4:t.args=[]
  ·have hT:=ZeR (g:=g) (.inl ⟨h1,h2,h3.1,h3.2,h4⟩)
   (have F:=ai @tmz (ai @h3' @h4);refine gR ?_;clear F)
   (have F:=@hT;refine gG ?_;exact gT)
  ·have hf:=hno fun h=>h4 (hV h).2.2.2.2
   have h4':¬ ((t.args.length:Int)=0):=by
    intro h;apply h4;apply List.eq_nil_of_length_eq_zero;omega
   (have F:=ai @tmz (ai @h3' @h4');refine gR ?_;clear F)
   (have F:=@hf;refine gG ?_;exact gT)
 (have F:=ai @tmz (ai @ZbS @h1);refine gG ?_;clear F)
 refine gB ?_
 (have F:=ai @tmz @hwo;refine gC (ZdC _ _ _) ?_;clear F)
 by_cases h2:0<=t.op∧t.op < g.ops.length
 rotate_left
 ·have h2':decide (0<=t.op∧t.op<=(g.ops.length:Int) - 1)=false:=by simp only [decide_eq_false_iff_not];omega
  have hf:=hno fun h=>by
   obtain ⟨o,d,h⟩:=h.app h1
   have:=(List.getElem?_eq_some_iff.1 h.at').1
   have:=h.lo
   omega
  (have F:=ai @tmz @h2';refine gR ?_;clear F)
  (have F:=@hf;refine gG ?_;exact gT)
 have h2':decide (0<=t.op∧t.op<=(g.ops.length:Int) - 1)=true:=by simp only [decide_eq_true_eq];omega
 by_cases h4:t.name=ByteArray.empty
 rotate_left
 ·have hf:=hno fun h=>by
   obtain ⟨o,d,h⟩:=h.app h1
   exact h4 h.nm
  (have F:=ai @tmz (ai @h2' (ai @ZdN @h4));refine gR ?_;clear F)
  (have F:=@hf;refine gG ?_;exact gT)
 by_cases h5:t.sort=0
 rotate_left
 ·have hf:=hno fun h=>by
   obtain ⟨o,d,h⟩:=h.app h1
   exact h5 h.so
  (have F:=ai @tmz (ai @h2' (ai @ZdN (ai @h4 @h5)));refine gR ?_;clear F)
  (have F:=@hf;refine gG ?_;exact gT)
 have h0:=h2.1
 obtain ⟨o,ho⟩:∃ o,g.ops[t.op.toNat]?=some o:=⟨_,List.getElem?_eq_getElem om⟩
 obtain ⟨d,hd,hr0,hr1,hargs⟩:=hg.first ho
 have hgt:Zco g t->AppOk g t o d:=fun h=>by
  obtain ⟨o',d',h⟩:=h.app h1
  have e1:=h.at'
  rw [ho] at e1
  injection e1 with e1
  subst e1
  have e2:=h.fst
  rw [hd] at e2
  injection e2 with e2
  subst e2
  exact h
 have cA:=ZeM hd
 rw [ZbL] at cA
 (have F:=ai @tmz (ai @h2' (ai @ZdN (ai @h4 @h5)));refine gR ?_;clear F)
 (have F:=ai @tmz (ai @h0 (ai @ho @Zaj));refine gG ?_;clear F)
 cases ha:o.assoc with
 | false =>
  rw [ha] at cA
  refine gB ?_
  (have F:=ai @tmz @ha;refine gC (cA) ?_;clear F)
  by_cases c:t.args.length=d.args.length
  ·have hT:=ZeR (g:=g) (.inr ⟨o,d,h0,ho,hd,h4,h5,fun h=>(by rw [ha] at h;cases h),fun _=>c⟩)
   have c':((t.args.length:Int)=(d.args.length:Int)):=by omega
   (have F:=ai @tmz (ai @c' @ha);refine gR ?_;clear F)
   (have F:=@hT;refine gG ?_;exact gT)
  ·have hf:=hno fun h=>c ((hgt h).nas ha)
   have c':¬ ((t.args.length:Int)=(d.args.length:Int)):=by omega
   (have F:=ai @tmz (ai @c' @ha);refine gR ?_;clear F)
   (have F:=@hf;refine gG ?_;exact gT)
 | true =>
  refine gB ?_
  (have F:=ai @tmz @ha;refine gC (ZdC _ _ _) ?_;clear F)
  by_cases c:2<=t.args.length∧t.args.length<=7
  ·have hT:=ZeR (g:=g) (.inr ⟨o,d,h0,ho,hd,h4,h5,fun _=>c,fun h=>(by rw [ha] at h;cases h)⟩)
   have c':decide ((2:Int)<=(t.args.length:Int)∧(t.args.length:Int)<=7)=true:=by simp only [decide_eq_true_eq];omega
   (have F:=ai @tmz (ai @c' @ha);refine gR ?_;clear F)
   (have F:=@hT;refine gG ?_;exact gT)
  ·have hf:=hno fun h=>c ((hgt h).asc ha)
   have c':decide ((2:Int)<=(t.args.length:Int)∧(t.args.length:Int)<=7)=false:=by simp only [decide_eq_false_iff_not];omega
   (have F:=ai @tmz (ai @c' @ha);refine gR ?_;clear F)
   (have F:=@hf;refine gG ?_;exact gT)
end
section
variable {g:Sgn}
open Classical in
noncomputable def ZdP (g:Sgn) (op:Int) (args:List Tm):Bool:=decide (ZiH g op args)
theorem Zie (hg:SgnOk g) {op:Int} {o:Opr} (ho:g.ops[op.toNat]?=some o) (hu:o.unit≠0) {a:Tm} (ha:ZaO g a) (hop:a.op=o.unit - 1):a=Zbv o:=by
 have hax:=hg.axs o (List.mem_of_getElem? ho)
 have hlo:=hax.lo
 obtain ⟨p,u,h⟩:=ha.node.app om
 obtain ⟨d,hd,_⟩:=hg.first ho
 have e:a.op.toNat=o.unit.toNat - 1:=by omega
 have hz:u.args.length=0:=by
  have h2:=hax.two (.inr (.inr hu)) d hd
  obtain ⟨d0,hd0⟩:∃ x,d.args[0]?=some x:=⟨_,List.getElem?_eq_getElem om⟩
  obtain ⟨d1,hd1⟩:∃ x,d.args[1]?=some x:=⟨_,List.getElem?_eq_getElem om⟩
  exact ((h2.2 d0 d1 hd0 hd1).2.2 hu p u (by rw [<- e];exact h.at') h.fst).1
 have has:p.assoc=false:=by
  cases hp:p.assoc with
  | false=>rfl
  | true =>
   have:=((hg.axs p (List.mem_of_getElem? h.at')).two (.inl hp) u h.fst).1
   omega
 have hl:=h.nas has
 have hnil:a.args=[]:=List.eq_nil_of_length_eq_zero om
 have hnm:=h.nm
 have hso:=h.so
 cases a with
 | mk x n s l =>
  simp only [Tm.args,Tm.name,Tm.sort,Tm.op] at *
  subst hnil hnm hso hop
  simp only [Zbv,if_neg hu]
theorem Zl1 {o:Opr} (h0:0<=o.unit) (h1:o.unit<=14):okTm (Zbv o):=by
 rw [Zez]
 simp only [Zbv,Tm.op,Tm.name,Tm.sort,Tm.args,Zbo,and_true]
 refine ⟨?_,by simp [maxLen],?_⟩
 ·unfold I64;split <;> omega
 ·unfold I64;omega
set_option maxRecDepth 100000 in
theorem Zpa (hokg:Zdc g) (hg:SgnOk g) {t:Tm} {o:Opr} {d:Dcl} (hA:AppOk g t o d) (hF:∀ a∈t.args,ZaO g a) (hok:okTm t) (hb:sizeTm t<=big):Con e0 156 [.agg (Zaw g),.agg (Zae t)] [.one (.lit (.bool (ZdP g t.op t.args)))]:=by
 have hno:¬ ZiH g t.op t.args->ZdP g t.op t.args=false:=fun h=>by simp [ZdP,h]
 obtain ⟨k1,k2,k3,k4⟩:=Zez.1 hok
 have hsz:=Za7 t
 have hal:=Zbx t.args
 unfold big at hb
 have h0:=hA.lo
 have ho:=hA.at'
 have hd:=hA.fst
 obtain ⟨d',hd',hr0,hr1,hargs⟩:=hg.first ho
 rw [hd] at hd'
 injection hd' with hd'
 subst hd'
 have hax:=hg.axs o (List.mem_of_getElem? ho)
 have hlo:=hax.lo
 have hhi:=hax.hi
 have hln:=hg.len
 have cK:=ZdW hg.sorts
 rw [Za2] at cK
 have cUn:=Zky hg h0 ho
 rw [Zaw] at cUn
 have hnoA:∀ (i:Nat) a,t.args[i]?=some a->¬ ArgOk g t.op o d t.args i a->ZdP g t.op t.args=false:=fun i a ha h=>hno fun hR=>h (hR o d ho hd i a ha)
 refine gI 9903595872146772515857895423 Tryz.func156 ?_
 (have F:=ai @tmz (ai @ZbS (ai @h0 (ai @ho @Zaj)));refine gG ?_;clear F)
 refine gB ?_
 (have F:=@tmz;refine gC (cK) ?_;clear F)
 (have F:=@tmz;refine gR ?_;clear F)
 (have F:=@tmz;refine gG ?_;clear F)
 refine gB ?_
 (have F:=@tmz;refine gC (cUn) ?_;clear F)
 (have F:=@tmz;refine gR ?_;clear F)
 (have F:=@tmz;refine gG ?_;clear F)
 (have F:=@e0P;refine gL (ι:=Nat) [4,9,10,11,32,42,76,93] [] (fun i=>[(9,A.d (.one (.lit (.int .i64 i))))]) (fun i=>[]) (fun i=>i<=t.args.length∧∀ (j:Nat) a,j < i->t.args[j]?=some a->ArgOk g t.op o d t.args j a) (fun i=>t.args.length - i) (0) (⟨by omega,fun j a h=>absurd h om⟩) (fun i hi=>?_);clear F)
 obtain ⟨hil,hall⟩:=hi
 by_cases hl:i < t.args.length
 rotate_left
 ·have hl':¬ ((i:Int) < (t.args.length:Int)):=by omega
  have hT:ZdP g t.op t.args=true:=by
   simp only [ZdP,decide_eq_true_eq]
   intro o' d' ho' hd' j a hj
   rw [ho] at ho'
   injection ho' with ho'
   subst ho'
   rw [hd] at hd'
   injection hd' with hd'
   subst hd'
   exact hall j a (by have:=(List.getElem?_eq_some_iff.1 hj).1;omega) hj
  (have F:=ai @tmz (ai @hl' @hT);refine gG ?_;exact gT)
 have hl':(i:Int) < (t.args.length:Int):=by omega
 obtain ⟨a,ha⟩:∃ a,t.args[i]?=some a:=⟨_,List.getElem?_eq_getElem hl⟩
 have hm:=List.mem_of_getElem? ha
 have hFa:=hF a hm
 have hw1:=Zav (k:=i) om
 obtain ⟨k,hk⟩:=Zgb hg ho hd hA.nas hl
 obtain ⟨hk0,hk1⟩:=hargs k (List.mem_of_getElem? hk)
 have hkd:=ZfS hg.sorts hk0 hk1
 have cKa:=Zkx hokg hg hFa.node
 rw [Zaw] at cKa
 have cU:=Zhd (k4.mem hm) (Zl1 (o:=o) hlo om)
 have hUiff:o.unit≠0->(Zal a (Zbv o)=0 ↔ a.op=o.unit - 1):=fun hu=>by
  rw [Zib]
  constructor
  ·rintro h;rw [h];simp [Zbv,Tm.op,hu]
  ·exact Zie hg ho hu hFa
 generalize hU:decide (Zal a (Zbv o)=0)=U at cU
 have hnext:ZbA g a=((kd g.sorts k:Nat):Int)->(o.assoc=true->¬ a.op=t.op)->(o.unit≠0->U=false)->(o.comm=true->∀ (j:Nat) p,i=j+1->t.args[j]?=some p->Zal p a<=0)->i+1<=t.args.length∧∀ (j:Nat) a,j < i+1->t.args[j]?=some a->ArgOk g t.op o d t.args j a:=fun hkk hne hU' hc=>⟨by omega,fun j a' hj ha'=>by
  by_cases e:j=i
  ·subst e
   rw [ha] at ha'
   injection ha' with ha'
   subst ha'
   refine ⟨fun k' hk'=>?_,hne,fun h1 h2=>?_,hc⟩
   ·rw [hk] at hk'
    injection hk' with hk'
    subst hk'
    exact hkk
   ·have:=hU' h1
    rw [this] at hU
    simp only [decide_eq_false_iff_not] at hU
    exact hU ((hUiff h1).2 h2)
  ·exact hall j a' om ha'⟩
 have hkN:d.args[(argAt o i:Nat)]?=some k:=hk
 (have F:=ai @tmz (ai @hl' @ha);refine gG ?_;clear F)
 refine gM (ι:=Unit) [11] [] (fun u=>[(11,A.d (.one (.lit (.int .i64 (argAt o i:Nat)))))]) (fun u=>[]) (fun u=>True) ?_ (fun u hu=>Exists.intro _ (ai (Wk.refl _) ?_))
 ·rcases Bool.eq_false_or_eq_true o.assoc with hac | hac
  ·(have F:=ai @Zaj (ai @hac @ZiG);refine gG ?_;exact ⟨(),trivial,gw,gw⟩)
  ·(have F:=ai @Zaj (ai @hac (ai @ZiG @if_false.{1}));refine gG ?_;exact ⟨(),trivial,gw,gw⟩)
 (have F:=@tmz;refine gG ?_;clear F)
 refine gM (ι:=Bool) [76] [] (fun x=>[(76,A.d (.one (.lit (.bool x))))]) (fun x=>[]) (fun x=>(x=true->ZdP g t.op t.args=false)∧(x=false->ZbA g a=((kd g.sorts k:Nat):Int)∧(o.assoc=true->¬ a.op=t.op)∧(o.unit≠0->U=false))) ?_ (fun x hx=>Exists.intro _ (ai (Wk.refl _) ?_))
 ·refine gB ?_
  (have F:=@tmz;refine gC (cKa) ?_;clear F)
  by_cases hkk:ZbA g a=((kd g.sorts k:Nat):Int)
  rotate_left
  ·have hf:=hnoA i a ha fun h=>hkk (h.kind k hk)
   (have F:=ai @tmz (ai @Zaj (ai @hd (ai @ZaN (ai @hkN (ai @hk0 (ai @hkd (ai @ZaW @hkk)))))));refine gR ?_;clear F)
   (have F:=@tmz;refine gG ?_;exact ⟨true,⟨fun _=>hf,fun h=>by cases h⟩,gw,gw⟩)
  by_cases hN:o.assoc=true∧a.op=t.op
  ·have hf:=hnoA i a ha fun h=>h.nest hN.1 hN.2
   obtain ⟨hN1,hN2⟩:=hN
   (have F:=ai @tmz (ai @Zaj (ai @hd (ai @ZaN (ai @hkN (ai @hk0 (ai @hkd (ai @ZaW (ai @hkk (ai @hN1 @hN2)))))))));refine gR ?_;clear F)
   (have F:=ai @tmz @hN1;refine gG ?_;exact ⟨true,⟨fun _=>hf,fun h=>by cases h⟩,gw,gw⟩)
  have hne:o.assoc=true->¬ a.op=t.op:=fun h1 h2=>hN ⟨h1,h2⟩
  rcases Bool.eq_false_or_eq_true o.assoc with hac | hac
  all_goals (
   by_cases hu:o.unit=0
   ·(have F:=ai @tmz (ai @Zaj (ai @hd (ai @ZaN (ai @hkN (ai @hk0 (ai @hkd (ai @ZaW (ai @hkk (ai @hac (ai @hne @hu))))))))));refine gR ?_;clear F)
    (have F:=ai @tmz (ai @hac @hu);refine gG ?_;exact ⟨false,⟨fun h=>(by cases h),fun _=>⟨hkk,hne,fun h=>absurd hu h⟩⟩,gw,gw⟩)
   (have F:=ai @tmz (ai @Zaj (ai @hd (ai @ZaN (ai @hkN (ai @hk0 (ai @hkd (ai @ZaW (ai @hkk (ai @hac (ai @hne @hu))))))))));refine gC (cU) ?_;clear F)
   rcases Bool.eq_false_or_eq_true U with hub | hub
   ·have hf:=hnoA i a ha fun h=>by
     rw [hub] at hU
     simp only [decide_eq_true_eq] at hU
     exact h.unit hu ((hUiff hu).1 hU)
    (have F:=ai @tmz @hub;refine gR ?_;clear F)
    (have F:=ai @tmz (ai @hac @hu);refine gG ?_;exact ⟨true,⟨fun _=>hf,fun h=>by cases h⟩,gw,gw⟩)
   ·(have F:=ai @tmz @hub;refine gR ?_;clear F)
    (have F:=ai @tmz (ai @hac @hu);refine gG ?_;exact ⟨false,⟨fun h=>(by cases h),fun _=>⟨hkk,hne,fun _=>hub⟩⟩,gw,gw⟩))
 cases x with
 | true =>
  have hf:=hx.1 rfl
  (have F:=@hf;refine gG ?_;exact gT)
 | false =>
  obtain ⟨hkk,hne,hub⟩:=hx.2 rfl
  (have F:=@tmz;refine gG ?_;clear F)
  rcases Bool.eq_false_or_eq_true o.comm with hcm | hcm
  rotate_left
  ·have hq:=hnext hkk hne hub (fun h=>by rw [hcm] at h;cases h)
   (have F:=ai @hw1 (ai @tmz (ai @Zaj @hcm));refine gG ?_;exact ⟨i+1,hq,gw,gw,by omega⟩)
  rcases Nat.eq_zero_or_pos i with hi0 | hi0
  ·have hq:=hnext hkk hne hub (fun _ j p h=>by omega)
   have hi0':¬ ((0:Int) < (i:Int)):=by omega
   (have F:=ai @hw1 (ai @tmz (ai @Zaj (ai @hcm @hi0')));refine gG ?_;exact ⟨i+1,hq,gw,gw,by omega⟩)
  obtain ⟨j,hj⟩:∃ j,i=j+1:=⟨i - 1,by omega⟩
  obtain ⟨p,hp⟩:∃ p,t.args[j]?=some p:=⟨_,List.getElem?_eq_getElem om⟩
  have cC:=ZeN (k4.mem (List.mem_of_getElem? hp)) (k4.mem hm)
  have hgt0:(0:Int) < (i:Int):=by omega
  have hsub:IntKind.i64.wrap ((i:Int) - 1)=(j:Int):=ZaP om om om
  refine gB ?_
  (have F:=ai @tmz (ai @Zaj (ai @hcm (ai @hgt0 (ai @hsub @hp))));refine gC (cC) ?_;clear F)
  by_cases hc:0 < Zal p a
  ·have hf:=hnoA i a ha fun h=>by have:=h.ord hcm j p hj hp;omega
   (have F:=ai @tmz @hc;refine gR ?_;clear F)
   (have F:=@hf;refine gG ?_;exact gT)
  ·have hq:=hnext hkk hne hub (fun _ j' p' h hp'=>by
    have:j'=j:=by omega
    subst this
    rw [hp] at hp'
    injection hp' with hp'
    subst hp'
    omega)
   (have F:=ai @tmz @hc;refine gR ?_;clear F)
   (have F:=ai @hw1 (ai @tmz (ai @Zaj @hcm));refine gG ?_;exact ⟨i+1,hq,gw,gw,by omega⟩)
set_option maxRecDepth 100000 in
theorem Zlh (hokg:Zdc g) (hg:SgnOk g):∀ (n:Nat) (t:Tm),sizeTm t < n->okTm t->sizeTm t<=big->Con e0 96 [.agg (Zaw g),.agg (Zae t)] [.one (.lit (.bool (ZbI g t)))]:=by
 intro n
 induction n with
 | zero=>intro t h;omega
 | succ n ih =>
  intro t hn hok hb
  have hno:¬ ZaO g t->ZbI g t=false:=Zh9
  obtain ⟨k1,k2,k3,k4⟩:=Zez.1 hok
  have hsz:=Za7 t
  have hal:=Zbx t.args
  have cN:=ZsI hg hok hb
  have hb':=hb
  unfold big at hb'
  rw [Zaw] at cN
  have ih':=fun a h1 h2 h3=>ih a h1 h2 h3
  simp only [Zaw] at ih'
  refine gI 16794175 Tryz.func96 ?_
  (have F:=ai @tmz @ZbS;refine gG ?_;clear F)
  refine gB ?_
  (have F:=@tmz;refine gC (cN) ?_;clear F)
  by_cases hN:ZdZ g t=true
  rotate_left
  ·have hf:=hno fun h=>hN (ZeR h.node)
   have hN':ZdZ g t=false:=by simpa using hN
   (have F:=ai @tmz @hN';refine gR ?_;clear F)
   (have F:=@hf;refine gG ?_;exact gT)
  have hNd:=ZsH.1 hN
  (have F:=ai @tmz @hN;refine gR ?_;clear F)
  (have F:=@tmz;refine gG ?_;clear F)
  (have F:=@e0P;refine gL (ι:=Nat) [4,5,14,24] [] (fun i=>[(5,A.d (.one (.lit (.int .i64 i))))]) (fun i=>[]) (fun i=>i<=t.args.length∧∀ (j:Nat) a,j < i->t.args[j]?=some a->ZaO g a) (fun i=>t.args.length - i) (0) (⟨by omega,fun j a h=>absurd h om⟩) (fun i hi=>?_);clear F)
  obtain ⟨hil,hall⟩:=hi
  by_cases hl:i < t.args.length
  rotate_left
  ·have hl':¬ ((i:Int) < (t.args.length:Int)):=by omega
   have hF:∀ a∈t.args,ZaO g a:=fun a ha=>by
    obtain ⟨j,hj⟩:=List.getElem?_of_mem ha
    exact hall j a (by have:=(List.getElem?_eq_some_iff.1 hj).1;omega) hj
   by_cases h1:t.op=-1
   ·have hT:=ZeP (g:=g) (t:=t) (Zbb.2 ⟨hNd,hF,.inl h1⟩)
    (have F:=ai @tmz (ai @hl' (ai @h1 @hT));refine gG ?_;exact gT)
   obtain ⟨o,d,hA⟩:=hNd.app h1
   have cR:=Zpa hokg hg hA hF hok hb
   rw [Zaw] at cR
   have e:ZdP g t.op t.args=ZbI g t:=by
    unfold ZdP ZbI
    congr 1
    rw [Zbb]
    exact propext ⟨fun h=>⟨hNd,hF,.inr h⟩,fun h=>h.2.2.resolve_left h1⟩
   (have F:=ai @tmz (ai @hl' @h1);refine gG ?_;clear F)
   refine gB ?_
   (have F:=ai @tmz @h1;refine gC (cR) ?_;clear F)
   (have F:=@tmz;refine gR ?_;clear F)
   (have F:=@e;refine gG ?_;exact gT)
  have hl':(i:Int) < (t.args.length:Int):=by omega
  obtain ⟨a,ha⟩:∃ a,t.args[i]?=some a:=⟨_,List.getElem?_eq_getElem hl⟩
  have hm:=List.mem_of_getElem? ha
  have hsa:=Zbi hm
  have hw1:=Zav (k:=i) om
  (have F:=ai @tmz (ai @hl' @ha);refine gG ?_;clear F)
  refine gB ?_
  (have F:=ai @tmz @ha;refine gC (ih' a om (k4.mem hm) (by unfold big;omega)) ?_;clear F)
  by_cases hfa:ZbI g a=true
  rotate_left
  ·have hf:=hno fun h=>hfa (ZeP ((Zbb.1 h).2.1 a hm))
   have hfa':ZbI g a=false:=by simpa using hfa
   (have F:=ai @tmz @hfa';refine gR ?_;clear F)
   (have F:=@hf;refine gG ?_;exact gT)
  have hq:i+1<=t.args.length∧∀ (j:Nat) a,j < i+1->t.args[j]?=some a->ZaO g a:=⟨by omega,fun j a' hj ha'=>by
   by_cases e:j=i
   ·subst e
    rw [ha] at ha'
    injection ha' with ha'
    subst ha'
    exact Zku.1 hfa
   ·exact hall j a' om ha'⟩
  (have F:=ai @tmz @hfa;refine gR ?_;clear F)
  (have F:=ai @hw1 @tmz;refine gG ?_;exact ⟨i+1,hq,gw,gw,by omega⟩)
theorem ZsJ (hokg:Zdc g) (hg:SgnOk g) {t:Tm} (hok:okTm t) (hb:sizeTm t<=big):Con e0 96 [.agg (Zaw g),.agg (Zae t)] [.one (.lit (.bool (ZbI g t)))]:=Zlh hokg hg _ t (Nat.lt_succ_self _) hok hb
set_option maxRecDepth 100000 in
theorem ZeA (hokg:Zdc g) {t:Tm} (hok:okTm t) (hb:sizeTm t<=big):Con e0 44 [.agg (Zaw g),.agg (Zae t)] [.one (.lit (.bool (ZbB g && Zby g t)))]:=by
 have cS:=Zi8 hokg
 rw [Zaw] at cS
 refine gI 31 Tryz.func44 ?_
 (have F:=ai @tmz @ZbS;refine gG ?_;clear F)
 refine gB ?_
 (have F:=@tmz;refine gC (cS) ?_;clear F)
 by_cases hs:ZbB g=true
 rotate_left
 ·have hs':ZbB g=false:=by simpa using hs
  (have F:=ai @tmz @hs';refine gR ?_;clear F)
  (have F:=@hs';refine gG ?_;exact gT)
 have hg:=Zed.1 hs
 have cF:=ZsJ hokg hg hok hb
 rw [Zaw] at cF
 (have F:=ai @tmz @hs;refine gC (Zjf hb) ?_;clear F)
 by_cases h1:sizeTm t<=60∧depthTm t<=20
 rotate_left
 ·have hf:Zby g t=false:=Zia fun h=>h1 ⟨h.size,h.depth⟩
  have h1':decide (sizeTm t<=60∧depthTm t<=20)=false:=by simp only [decide_eq_false_iff_not];exact h1
  (have F:=ai @tmz (ai @h1' @hs);refine gR ?_;clear F)
  (have F:=ai @hs @hf;refine gG ?_;exact gT)
 have h1':decide (sizeTm t<=60∧depthTm t<=20)=true:=by simp only [decide_eq_true_eq];exact h1
 have e:=Zja (g:=g) h1.1 h1.2
 (have F:=ai @tmz (ai @h1' @hs);refine gC (cF) ?_;clear F)
 (have F:=ai @tmz (ai @h1' @hs);refine gR ?_;clear F)
 (have F:=ai @hs @e;refine gG ?_;exact gT)
end
def Zbf (o:Opr) (op:Int) (a:Tm):List Tm:=if o.assoc=true∧a.op=op then a.args else if o.unit≠0∧a.op=o.unit - 1 then [] else [a]
def Zar (o:Opr) (op:Int) (xs:List Tm):List Tm:=xs.flatMap (Zbf o op)
def KArg (g:Sgn) (o:Opr) (d:Dcl) (i:Nat) (a:Tm):Prop:=∃ k,d.args[argAt o i]?=some k∧ZbA g a=kd g.sorts k
def srtO (o:Opr) (l:List Tm):List Tm:=if o.comm=true then Zas l else l
def appT (op:Int) (l:List Tm):Tm:=.mk op ByteArray.empty 0 l
def BigT (o:Opr) (op:Int) (l:List Tm):Prop:=(o.assoc=true∧7 < l.length)∨60 < sizeTm (appT op l)∨20 < depthTm (appT op l)
def ArB (o:Opr) (d:Dcl) (n:Nat):Prop:=(o.assoc=true∧n < 2)∨(o.assoc=false∧n≠d.args.length)
open Classical in
noncomputable def mkL (o:Opr) (op:Int) (l:List Tm):Option Tm:=if o.unit≠0∧l.length < 2 then some (l.headD (Zbv o)) else if BigT o op (srtO o l) then none else some (appT op (srtO o l))
open Classical in
noncomputable def mkO (g:Sgn) (o:Opr) (d:Dcl) (op:Int) (xs:List Tm):Option Tm:=if ArB o d xs.length then none else if ∀ (i:Nat) a,xs[i]?=some a->KArg g o d i a then mkL o op (Zar o op xs) else none
noncomputable def mkT (g:Sgn) (op:Int) (xs:List Tm):Option Tm:=match g.ops[op.toNat]? with
 | none=>none
 | some o=>match o.decls[0]? with
  | none=>none
  | some d=>mkO g o d op xs
theorem ZwJ {g:Sgn} {op:Int} {o:Opr} {d:Dcl} (ho:g.ops[op.toNat]?=some o) (hd:o.decls[0]?=some d) (xs:List Tm):mkT g op xs=mkO g o d op xs:=by simp only [mkT,ho,hd]
theorem Zjg {o:Opr} {op:Int} {xs:List Tm} {i:Nat} {a:Tm} (h:xs[i]?=some a):Zar o op (xs.take (i+1))=Zar o op (xs.take i)++Zbf o op a:=by
 rw [Zb0 h];simp [Zar]
theorem Zgd (o:Opr) (op:Int) (xs:List Tm) (i:Nat):(Zar o op (xs.take i)).length<=(Zar o op xs).length:=by
 have:Zar o op xs=Zar o op (xs.take i)++Zar o op (xs.drop i):=by
  unfold Zar
  rw [<- List.flatMap_append,List.take_append_drop]
 rw [this,List.length_append];omega
theorem Ze7 (o:Opr) (l:List Tm):(srtO o l).Perm l:=by
 unfold srtO
 split
 ·exact Zbd l
 ·exact List.Perm.refl _
theorem Zn5 (o:Opr) (l:List Tm):(srtO o l).length=l.length:=(Ze7 o l).length_eq
theorem Zif {l m:List Tm} (h:l.Perm m):sizeTms l=sizeTms m:=by
 induction h with
 | nil=>rfl
 | cons x h ih=>simp only [sizeTms,ih]
 | swap x y l=>simp only [sizeTms];omega
 | trans h1 h2 a b=>rw [a,b]
theorem ZhA {l m:List Tm} (h:l.Perm m):depthTms l=depthTms m:=by
 induction h with
 | nil=>rfl
 | cons x h ih=>simp only [depthTms,ih]
 | swap x y l=>simp only [depthTms];omega
 | trans h1 h2 a b=>rw [a,b]
theorem Opr.two {g:Sgn} (hg:SgnOk g) {i:Nat} {o:Opr} {d:Dcl} (ho:g.ops[i]?=some o) (hd:o.decls[0]?=some d) (h:o.assoc=true∨o.comm=true∨o.unit≠0):∃ k1 k2,d.args=[k1,k2]∧kd g.sorts k1=kd g.sorts k2∧((o.assoc=true∨o.unit≠0)->kd g.sorts k1=kd g.sorts d.res):=by
 have h2:=(hg.axs o (List.mem_of_getElem? ho)).two h d hd
 obtain ⟨a,b,hab⟩:=ZnN h2.1
 have h3:=h2.2 a b (by rw [hab];rfl) (by rw [hab];rfl)
 exact ⟨a,b,hab,h3.1,h3.2.1⟩
theorem ZwK {g:Sgn} (hg:SgnOk g) {i:Nat} {o:Opr} {d:Dcl} (ho:g.ops[i]?=some o) (hd:o.decls[0]?=some d) (hu:o.unit≠0):TermOk g (Zbv o)∧ZbA g (Zbv o)=kd g.sorts d.res:=by
 have hax:=hg.axs o (List.mem_of_getElem? ho)
 have hlo:=hax.lo
 have hhi:=hax.hi
 obtain ⟨k1,k2,hk,_⟩:=Opr.two hg ho hd (.inr (.inr hu))
 obtain ⟨p,hp⟩:∃ p,g.ops[o.unit.toNat - 1]?=some p:=⟨_,List.getElem?_eq_getElem om⟩
 obtain ⟨u,hfu,_⟩:=hg.first hp
 have h2:=((hax.two (.inr (.inr hu)) d hd).2 k1 k2 (by rw [hk];rfl) (by rw [hk];rfl)).2.2 hu p u hp hfu
 have e:Zbv o=.mk (o.unit - 1) ByteArray.empty 0 []:=by simp only [Zbv,if_neg hu]
 have hop:((o.unit - 1:Int)).toNat=o.unit.toNat - 1:=by omega
 have has:p.assoc=false:=by
  cases hpa:p.assoc with
  | false=>rfl
  | true=>have:=((hg.axs p (List.mem_of_getElem? hp)).two (.inl hpa) u hfu).1;omega
 have hA:AppOk g (Zbv o) p u:=by
  rw [e]
  exact ⟨by simp only [Tm.op];omega,by simp only [Tm.op];rw [hop];exact hp,hfu,rfl,rfl,fun h=>(by rw [has] at h;cases h),fun _=>by simp only [Tm.args,List.length_nil];omega⟩
 refine ⟨⟨?_,?_,Zbb.2 ⟨.inr ⟨p,u,hA⟩,?_,.inr ?_⟩⟩,?_⟩
 ·rw [e];simp only [sizeTm,sizeTms];omega
 ·rw [e];simp only [depthTm,depthTms];omega
 ·rw [e];intro a ha;simp [Tm.args] at ha
 ·rw [e];intro o' d' _ _ j a ha;simp [Tm.args] at ha
 ·have hneg:¬ ((Zbv o).op=-1):=hA.op
  rw [ZbA,if_neg hneg,e]
  simp only [Tm.op]
  rw [Zhc (by rw [hop];exact hp) hfu,h2.2]
structure FlOk (g:Sgn) (o:Opr) (op:Int) (b:Tm):Prop where
 form:ZaO g b
 size:sizeTm b<=60
 depth:depthTm b<=20
 nest:o.assoc=true->b.op≠op
 unit:o.unit≠0->b.op≠o.unit - 1
theorem ZDo {g:Sgn} (hg:SgnOk g) {op:Int} {o:Opr} {d:Dcl} (h0:0<=op) (ho:g.ops[op.toNat]?=some o) (hd:o.decls[0]?=some d) {a:Tm} (ha:TermOk g a):∀ b∈Zbf o op a,FlOk g o op b:=by
 intro b hb
 unfold Zbf at hb
 split at hb
 ·rename_i h
  obtain ⟨h1,h2⟩:=h
  obtain ⟨_,f2,f3⟩:=Zbb.1 ha.form
  have hR:=f3.resolve_left om
  rw [h2] at hR
  obtain ⟨j,hj⟩:=List.getElem?_of_mem hb
  have hA:=hR o d ho hd j b hj
  have s1:=Zbi hb
  have s2:=Zh6 hb
  have s3:=ha.size
  have s4:=ha.depth
  rw [Za7] at s3
  rw [Zfp] at s4
  exact ⟨f2 b hb,by omega,by omega,hA.nest,hA.unit⟩
 ·rename_i h
  split at hb
  ·simp at hb
  ·rename_i h'
   simp only [List.mem_singleton] at hb
   subst hb
   exact ⟨ha.form,ha.size,ha.depth,fun h1 h2=>h ⟨h1,h2⟩,fun h1 h2=>h' ⟨h1,h2⟩⟩
theorem ZwL {g:Sgn} (hg:SgnOk g) {op:Int} {o:Opr} {d:Dcl} (h0:0<=op) (ho:g.ops[op.toNat]?=some o) (hd:o.decls[0]?=some d) {xs:List Tm} (ha:∀ a∈xs,TermOk g a):∀ b∈Zar o op xs,FlOk g o op b:=by
 intro b hb
 obtain ⟨a,h1,h2⟩:=List.mem_flatMap.1 hb
 exact ZDo hg h0 ho hd (ha a h1) b h2
theorem ZCa {g:Sgn} (hg:SgnOk g) {op:Int} {o:Opr} {d:Dcl} {k1 k2:Int} (h0:0<=op) (ho:g.ops[op.toNat]?=some o) (hd:o.decls[0]?=some d) (hk:d.args=[k1,k2]) (hkk:kd g.sorts k1=kd g.sorts k2) {a:Tm} (ha:TermOk g a) {i:Nat} (hK:KArg g o d i a):∀ b∈Zbf o op a,ZbA g b=kd g.sorts k1:=by
 have hat:∀ (j:Nat) k,d.args[j]?=some k->kd g.sorts k=kd g.sorts k1:=fun j k h=>by
  rw [hk] at h
  match j,h with
  | 0,h=>simp only [List.getElem?_cons_zero,Option.some.injEq] at h;rw [h]
  | 1,h=>simp only [List.getElem?_cons_succ,List.getElem?_cons_zero,Option.some.injEq] at h;rw [<- h,hkk]
  | j+2,h=>simp at h
 intro b hb
 unfold Zbf at hb
 split at hb
 ·rename_i h
  obtain ⟨h1,h2⟩:=h
  obtain ⟨_,f2,f3⟩:=Zbb.1 ha.form
  have hR:=f3.resolve_left om
  rw [h2] at hR
  obtain ⟨j,hj⟩:=List.getElem?_of_mem hb
  exact (hR o d ho hd j b hj).kind k1 (by rw [argAt,if_pos h1,hk];rfl)
 ·split at hb
  ·simp at hb
  ·simp only [List.mem_singleton] at hb
   subst hb
   obtain ⟨k,h1,h2⟩:=hK
   rw [h2,hat _ _ h1]
theorem Zjh {g:Sgn} (hg:SgnOk g) {op:Int} {o:Opr} {d:Dcl} {k1 k2:Int} (h0:0<=op) (ho:g.ops[op.toNat]?=some o) (hd:o.decls[0]?=some d) (hk:d.args=[k1,k2]) (hkk:kd g.sorts k1=kd g.sorts k2) {xs:List Tm} (ha:∀ a∈xs,TermOk g a) (hK:∀ (i:Nat) a,xs[i]?=some a->KArg g o d i a):∀ b∈Zar o op xs,ZbA g b=kd g.sorts k1:=by
 intro b hb
 obtain ⟨a,h1,h2⟩:=List.mem_flatMap.1 hb
 obtain ⟨i,hi⟩:=List.getElem?_of_mem h1
 exact ZCa hg h0 ho hd hk hkk (ha a h1) (hK i a hi) b h2
theorem ZwM {o:Opr} {op:Int} (has:o.assoc=false) (a:Tm):(Zbf o op a).length<=1∧((Zbf o op a).length=1->Zbf o op a=[a]):=by
 unfold Zbf
 rw [if_neg fun h=>by rw [has] at h;cases h.1]
 split <;> simp
theorem Zig {o:Opr} {op:Int} (has:o.assoc=false):∀ (xs:List Tm),(Zar o op xs).length<=xs.length∧((Zar o op xs).length=xs.length->Zar o op xs=xs)
 | []=>⟨Nat.le_refl _,fun _=>rfl⟩
 | a::xs=>by
  obtain ⟨i1,i2⟩:=Zig (op:=op) has xs
  obtain ⟨j1,j2⟩:=ZwM (op:=op) has a
  have e:Zar o op (a::xs)=Zbf o op a++Zar o op xs:=rfl
  rw [e,List.length_append,List.length_cons]
  refine ⟨by omega,fun h=>?_⟩
  rw [j2 om,i2 om];rfl
theorem Zji {o:Opr} {op:Int} (has:o.assoc=false) (hu:o.unit=0) (xs:List Tm):Zar o op xs=xs:=by
 induction xs with
 | nil=>rfl
 | cons a xs ih =>
  have e:Zar o op (a::xs)=Zbf o op a++Zar o op xs:=rfl
  rw [e,ih]
  unfold Zbf
  rw [if_neg (fun h=>by rw [has] at h;cases h.1),if_neg fun h=>h.1 hu];rfl
theorem ZkF {o:Opr} {op:Int} {g:Sgn} (hg:SgnOk g) (h0:0<=op) (ho:g.ops[op.toNat]?=some o) (hac:o.assoc=true) (hu:o.unit=0):∀ {xs:List Tm},(∀ a∈xs,TermOk g a)->xs.length<=(Zar o op xs).length
 | [],_=>Nat.le_refl _
 | a::xs,ha=>by
  have ih:=ZkF hg h0 ho hac hu (xs:=xs) fun x hx=>ha x (List.mem_cons_of_mem _ hx)
  have e:Zar o op (a::xs)=Zbf o op a++Zar o op xs:=rfl
  rw [e,List.length_append,List.length_cons]
  have:1<=(Zbf o op a).length:=by
   unfold Zbf
   split
   ·rename_i h
    obtain ⟨o',d',hA⟩:=(ha a List.mem_cons_self).form.node.app om
    have:o'=o:=by have:=hA.at';rw [h.2,ho] at this;injection this with this;exact this.symm
    subst this
    have:=(hA.asc hac).1
    omega
   ·rw [if_neg fun h=>h.1 hu];simp
  omega
theorem ZCU {g:Sgn} (hg:SgnOk g) {op:Int} {o:Opr} {d:Dcl} (h0:0<=op) (ho:g.ops[op.toNat]?=some o) (hd:o.decls[0]?=some d) {xs:List Tm} (ha:∀ a∈xs,TermOk g a) {t:Tm} (h:mkO g o d op xs=some t):TermOk g t∧ZbA g t=kd g.sorts d.res:=by
 unfold mkO at h
 split at h
 ·cases h
 rename_i hAr
 split at h
 rotate_left
 ·cases h
 rename_i hK
 have hfl:=ZwL hg h0 ho hd ha
 unfold mkL at h
 split at h
 ·rename_i hu
  obtain ⟨hu,hl⟩:=hu
  injection h with h
  have hU:=ZwK hg ho hd hu
  obtain ⟨k1,k2,hk,hkk,hkr⟩:=Opr.two hg ho hd (.inr (.inr hu))
  have hfk:=Zjh hg h0 ho hd hk hkk ha hK
  cases hf:Zar o op xs with
  | nil=>rw [hf] at h;simp only [List.headD] at h;subst h;exact hU
  | cons b bs =>
   rw [hf] at h hfl hfk
   simp only [List.headD] at h
   subst h
   have hb:=hfl b List.mem_cons_self
   exact ⟨⟨hb.size,hb.depth,hb.form⟩,by rw [hfk b List.mem_cons_self,hkr (.inr hu)]⟩
 ·rename_i hu
  split at h
  ·cases h
  rename_i hB
  injection h with h
  subst h
  have hB1:¬ (o.assoc=true∧7 < (srtO o (Zar o op xs)).length):=fun q=>hB (.inl q)
  have hB2:¬ 60 < sizeTm (appT op (srtO o (Zar o op xs))):=fun q=>hB (.inr (.inl q))
  have hB3:¬ 20 < depthTm (appT op (srtO o (Zar o op xs))):=fun q=>hB (.inr (.inr q))
  have hp:=Ze7 o (Zar o op xs)
  have hsl:=hp.length_eq
  have hmem:∀ b,b∈srtO o (Zar o op xs) ↔ b∈Zar o op xs:=fun b=>hp.mem_iff
  have hneg:¬ ((appT op (srtO o (Zar o op xs))).op=-1):=by simp only [appT,Tm.op];omega
  refine ⟨⟨by omega,by omega,Zbb.2 ⟨.inr ⟨o,d,h0,ho,hd,rfl,rfl,fun hac=>?_,fun has=>?_⟩,fun a hm=>(hfl a ((hmem a).1 hm)).form,.inr ?_⟩⟩,?_⟩
  ·simp only [appT,Tm.args]
   have:¬ (xs.length < 2):=fun q=>hAr (.inl ⟨hac,q⟩)
   by_cases hu0:o.unit=0
   ·have:=ZkF hg h0 ho hac hu0 ha
    exact ⟨by omega,by have:¬ (7 < (srtO o (Zar o op xs)).length):=fun q=>hB1 ⟨hac,q⟩;omega⟩
   ·exact ⟨by have:¬ ((Zar o op xs).length < 2):=fun q=>hu ⟨hu0,q⟩;omega,by have:¬ (7 < (srtO o (Zar o op xs)).length):=fun q=>hB1 ⟨hac,q⟩;omega⟩
  ·simp only [appT,Tm.args]
   have hlen:xs.length=d.args.length:=Classical.byContradiction fun q=>hAr (.inr ⟨has,q⟩)
   rw [hsl]
   by_cases hu0:o.unit=0
   ·rw [Zji has hu0,hlen]
   ·obtain ⟨k1,k2,hk,_⟩:=Opr.two hg ho hd (.inr (.inr hu0))
    have h1:=(Zig (op:=op) has xs).1
    have:¬ ((Zar o op xs).length < 2):=fun q=>hu ⟨hu0,q⟩
    rw [hlen,hk] at h1
    rw [hk]
    simp only [List.length_cons,List.length_nil] at h1 ⊢
    omega
  ·intro o' d' ho' hd' i a hi
   simp only [appT,Tm.op] at ho'
   rw [ho] at ho'
   injection ho' with ho'
   subst ho'
   rw [hd] at hd'
   injection hd' with hd'
   subst hd'
   simp only [appT,Tm.args] at hi ⊢
   have hm:=List.mem_of_getElem? hi
   have hf:=hfl a ((hmem a).1 hm)
   refine ⟨fun k hk=>?_,hf.nest,hf.unit,fun hc j p hij hj=>?_⟩
   ·by_cases hax:o.assoc=true∨o.comm=true∨o.unit≠0
    ·obtain ⟨k1,k2,hka,hkk,_⟩:=Opr.two hg ho hd hax
     have hfk:=Zjh hg h0 ho hd hka hkk ha hK a ((hmem a).1 hm)
     rw [hfk]
     have:kd g.sorts k=kd g.sorts k1:=by
      generalize argAt o i=n at hk
      rw [hka] at hk
      match n,hk with
      | 0,hk=>simp only [List.getElem?_cons_zero,Option.some.injEq] at hk;rw [hk]
      | 1,hk=>simp only [List.getElem?_cons_succ,List.getElem?_cons_zero,Option.some.injEq] at hk;rw [<- hk,hkk]
      | n+2,hk=>simp at hk
     rw [this]
    ·have has:o.assoc=false:=by cases h:o.assoc with | false=>rfl | true=>exact absurd (.inl h) hax
     have hc:o.comm=false:=by cases h:o.comm with | false=>rfl | true=>exact absurd (.inr (.inl h)) hax
     have hu0:o.unit=0:=Classical.byContradiction fun q=>hax (.inr (.inr q))
     rw [srtO,if_neg (by rw [hc];simp),Zji has hu0] at hi
     obtain ⟨k',h1,h2⟩:=hK i a hi
     rw [hk] at h1
     injection h1 with h1
     rw [h2,h1]
   ·rw [srtO,if_pos hc] at hi hj
    exact (Zcg _).get om hj hi
  ·rw [ZbA,if_neg hneg]
   simp only [appT,Tm.op]
   rw [Zhc ho hd]
theorem ZaO.ok {g:Sgn} (hg:SgnOk g):∀ (n:Nat) (t:Tm),sizeTm t < n->ZaO g t->okTm t:=by
 intro n
 induction n with
 | zero=>intro t h;omega
 | succ n ih =>
  intro t hn hf
  obtain ⟨h1,h2,_⟩:=Zbb.1 hf
  have hargs:Zbo t.args:=by
   have:∀ l:List Tm,(∀ a∈l,okTm a)->Zbo l:=fun l=>by
    induction l with
    | nil=>intro _;trivial
    | cons x xs ih=>intro h;exact ⟨h x List.mem_cons_self,ih fun a ha=>h a (List.mem_cons_of_mem _ ha)⟩
   refine this _ fun a ha=>ih a ?_ (h2 a ha)
   have:=Zbi ha
   rw [Za7] at hn
   omega
  rw [Zez]
  have hsn:g.sorts.names.length<=8:=hg.sorts.n8
  rcases h1 with hv | ⟨o,d,hA⟩
  ·obtain ⟨v1,v2,v3,v4,v5⟩:=hv
   have:t.name.size<=12:=by unfold Zbc at v2;simp only [Bool.and_eq_true,decide_eq_true_eq] at v2;exact v2.1.1.1.2
   exact ⟨by unfold I64;omega,by unfold maxLen;omega,by unfold I64;omega,hargs⟩
  ·have h3:=hA.lo
   have h4:=(List.getElem?_eq_some_iff.1 hA.at').1
   have h5:=hg.len
   rw [hA.nm,hA.so]
   exact ⟨by unfold I64;omega,by simp [maxLen],by unfold I64;omega,hargs⟩
theorem TermOk.ok {g:Sgn} (hg:SgnOk g) {t:Tm} (h:TermOk g t):okTm t:=ZaO.ok hg _ t (Nat.lt_succ_self _) h.form
theorem TermOk.arg {g:Sgn} {t a:Tm} (h:TermOk g t) (ha:a∈t.args):TermOk g a:=by
 have s1:=Zbi ha
 have s2:=Zh6 ha
 have s3:=h.size
 have s4:=h.depth
 rw [Za7] at s3
 rw [Zfp] at s4
 exact ⟨by omega,by omega,(Zbb.1 h.form).2.1 a ha⟩
theorem TermOk.app {g:Sgn} {t a:Tm} (h:TermOk g t) (ha:a∈t.args):∃ o d,AppOk g t o d:=by
 rcases h.form.node with hv | h
 ·rw [hv.2.2.2.2] at ha;cases ha
 ·exact h
theorem ZCV {g:Sgn} (hg:SgnOk g) {op:Int} (h0:0<=op) {xs:List Tm} (ha:∀ a∈xs,TermOk g a) {t:Tm} (h:mkT g op xs=some t):TermOk g t:=by
 unfold mkT at h
 cases ho:g.ops[op.toNat]? with
 | none=>rw [ho] at h;cases h
 | some o =>
  rw [ho] at h
  simp only at h
  cases hd:o.decls[0]? with
  | none=>rw [hd] at h;cases h
  | some d =>
   rw [hd] at h
   exact (ZCU hg h0 ho hd ha h).1
theorem Zn6 {g:Sgn} {t:Tm} (h:TermOk g t):t.args.length<=60:=by
 have h1:=h.size
 rw [Za7] at h1
 have:=Zbx t.args
 omega
theorem Zd4 {r:List C} (h:Zan (Zab .binding) r):∃ (i0:Int) (t1:ByteArray) (i2:Int) (r3:List (List C)) (i4:Int) (t5:ByteArray) (i6:Int) (r7:List (List C)),r=[.lit (.int .i64 i0),.lit (.string t1),.lit (.int .i64 i2),.sl r3,.lit (.int .i64 i4),.lit (.string t5),.lit (.int .i64 i6),.sl r7]∧I64 i0∧t1.size<=maxLen∧I64 i2∧Zaq (Zab .term) r3∧I64 i4∧t5.size<=maxLen∧I64 i6∧Zaq (Zab .term) r7:=by
 obtain ⟨c0,c1,c2,c3,c4,c5,c6,c7,rfl⟩:=len8 h.len
 simp only [Zab,Za0,occF,Zbe,sigF,Zbt,algF,List.cons_append,List.nil_append,Zan,and_true] at h
 obtain ⟨h0,h1,h2,h3,h4,h5,h6,h7⟩:=h
 obtain ⟨i0,rfl,g0⟩:=Zc1 h0
 obtain ⟨t1,rfl,g1⟩:=Zgw h1
 obtain ⟨i2,rfl,g2⟩:=Zc1 h2
 obtain ⟨r3,rfl,g3⟩:=Zdu h3
 obtain ⟨i4,rfl,g4⟩:=Zc1 h4
 obtain ⟨t5,rfl,g5⟩:=Zgw h5
 obtain ⟨i6,rfl,g6⟩:=Zc1 h6
 obtain ⟨r7,rfl,g7⟩:=Zdu h7
 exact ⟨i0,t1,i2,r3,i4,t5,i6,r7,rfl,g0,g1,g2,g3,g4,g5,g6,g7⟩
theorem Zds {w:World} {S:Nat->Prop} {i0:Int} {t1:ByteArray} {i2:Int} {r3:List (List C)} {i4:Int} {t5:ByteArray} {i6:Int} {r7:List (List C)} {us:List Value} (h:Zaa w S [.lit (.int .i64 i0),.lit (.string t1),.lit (.int .i64 i2),.sl r3,.lit (.int .i64 i4),.lit (.string t5),.lit (.int .i64 i6),.sl r7] us):∃ v3 v7,us=[.int .i64 i0,.string t1,.int .i64 i2,v3,.int .i64 i4,.string t5,.int .i64 i6,v7]∧Rep w S (.sl r3) v3∧Rep w S (.sl r7) v7:=by
 obtain ⟨u0,u1,u2,u3,u4,u5,u6,u7,rfl⟩:=len8 h.len
 simp only [Zaa,Rep.lit_iff,and_true] at h
 obtain ⟨rfl,rfl,rfl,e3,rfl,rfl,rfl,e7⟩:=h
 exact ⟨u3,u7,rfl,e3,e7⟩
def Zhi (row:List C):Prop:=∀ (S:Nat->Prop) (us:List Value) (left:Int) (w:World),Zan (Zab .binding) row->Zaa w S row us->0<=left->left<=1048576 ->
 Calls Tryz.prog 57 #[.agg us.toArray,.int .i64 left] w fun e w'=>e=.returned (.int .i64 (sub left (Zak row)))∧Below w.heap.size w w'
def Zhj (row:List C):Prop:=∀ (S S':Nat->Prop) (us us':List Value) (w:World),Zan (Zab .binding) row->Zaa w S row us->Zaa w S' row us' ->
 Calls Tryz.prog 63 #[.agg us.toArray,.agg us'.toArray] w fun e w'=>e=.returned (.bool true)∧Below w.heap.size w w'
def Zhk (row:List C):Prop:=∀ (S:Nat->Prop) (us:List Value) (w:World),Zan (Zab .binding) row->Zaa w S row us->Zak row<=1048576 ->
 Calls Tryz.prog 59 #[.agg us.toArray] w fun e w'=>∃ us':List Value,e=.returned (.agg us'.toArray)∧Zah w' row (fun x=>w.heap.size<=x∧x < w'.heap.size) us'∧Below w.heap.size w w'
def Zjj (rows:List (List C)):Prop:=∀ (S:Nat->Prop) (v:Value) (left:Int) (w:World),Zaq (Zab .binding) rows->Rep w S (.sl rows) v->0<=left->left<=1048576 ->
 Calls Tryz.prog 19 #[v,.int .i64 left] w fun e w'=>e=.returned (.int .i64 (sub left (rows.length+Zag rows)))∧Below w.heap.size w w'
def Zjk (rows:List (List C)):Prop:=∀ (S S':Nat->Prop) (v v':Value) (w:World),Zaq (Zab .binding) rows->Rep w S (.sl rows) v->Rep w S' (.sl rows) v' ->
 Calls Tryz.prog 23 #[v,v'] w fun e w'=>e=.returned (.bool true)∧Below w.heap.size w w'
def Zjl (rows:List (List C)):Prop:=∀ (S:Nat->Prop) (v:Value) (w:World),Zaq (Zab .binding) rows->Rep w S (.sl rows) v->rows.length+Zag rows<=1048576 ->
 Calls Tryz.prog 21 #[v] w fun e w'=>∃ v',e=.returned v'∧Own w' (.sl rows) (fun x=>w.heap.size<=x∧x < w'.heap.size) v'∧Below w.heap.size w w'
theorem Zn7 (row:List C):Zhi row:=by
 intro S us left w hok hv h0 h1
 obtain ⟨i0,t1,i2,r3,i4,t5,i6,r7,rfl,g0,g1,g2,g3,g4,g5,g6,g7⟩:=Zd4 hok
 obtain ⟨v3,v7,rfl,e3,e7⟩:=Zds hv
 have HC0:=Lib.hid (Zg3 [.lit (.int .i64 i0),.lit (.string t1),.lit (.int .i64 i2),.sl r3])
 have HC4:=Lib.hid (Zg3 [.lit (.int .i64 i4),.lit (.string t5),.lit (.int .i64 i6),.sl r7])
 have HB:=Lib.hid (show Zak [.lit (.int .i64 i0),.lit (.string t1),.lit (.int .i64 i2),.sl r3,.lit (.int .i64 i4),.lit (.string t5),.lit (.int .i64 i6),.sl r7]=(Zak [.lit (.int .i64 i0),.lit (.string t1),.lit (.int .i64 i2),.sl r3])+(Zak [.lit (.int .i64 i4),.lit (.string t5),.lit (.int .i64 i6),.sl r7]) from by simp only [Zak,ZbY];omega)
 have G0:=Lib.hid g0
 have G1:=Lib.hid g1
 have G2:=Lib.hid g2
 have G3:=Lib.hid g3
 have G4:=Lib.hid g4
 have G5:=Lib.hid g5
 have G6:=Lib.hid g6
 have G7:=Lib.hid g7
 clear g0 g1 g2 g3 g4 g5 g6 g7 hok
 have E3:=Lib.hid e3
 have E7:=Lib.hid e7
 clear hv e3 e7
 generalize hrow:Zak [.lit (.int .i64 i0),.lit (.string t1),.lit (.int .i64 i2),.sl r3,.lit (.int .i64 i4),.lit (.string t5),.lit (.int .i64 i6),.sl r7]=total at HB ⊢
 clear hrow
 have hbw:=(Below.refl w.heap.size w).alloc (Nat.le_refl _) (.cells #[.int .i64 i0,.string t1,.int .i64 i2,v3,.int .i64 i4,.string t5,.int .i64 i6,v7] 100)
 go_enter Tryz.func57,Tryz.ntmps57
 go_wp2_with fail
 by_cases q0:left < ((Zak [.lit (.int .i64 i0),.lit (.string t1),.lit (.int .i64 i2),.sl r3]):Nat)
 ·refine (HC0.out S _ _ _ (Zct G0.out G1.out G2.out G3.out) (ZbX (E3.out.below hbw)) om om).mono ?_
  rw [ZaS om]
  rintro e w1 ⟨rfl,hb1⟩
  go_wp2
  go_ret
  exact ⟨ZaB (a:=-1) (ZaS (by have:=HB.out;omega)).symm,hbw.trans (hb1.mono hbw.size)⟩
 refine (HC0.out S _ _ _ (Zct G0.out G1.out G2.out G3.out) (ZbX (E3.out.below hbw)) om om).mono ?_
 rw [Zbg om]
 rintro e w1 ⟨rfl,hb1⟩
 obtain ⟨hc1,hf1⟩:=ZbG hb1
 have hz1:w.heap.size < w1.heap.size:=(by have:=hb1.size;(try simp at this);omega)
 replace hbw:=hbw.trans (hb1.mono hbw.size)
 go_wp2_with fail
 by_cases q4:(left - (((Zak [.lit (.int .i64 i0),.lit (.string t1),.lit (.int .i64 i2),.sl r3]):Nat):Int)) < ((Zak [.lit (.int .i64 i4),.lit (.string t5),.lit (.int .i64 i6),.sl r7]):Nat)
 ·refine (HC4.out S _ _ _ (Zct G4.out G5.out G6.out G7.out) (ZbX (E7.out.below hbw)) om om).mono ?_
  rw [ZaS om]
  rintro e w2 ⟨rfl,hb2⟩
  go_wp2
  go_ret
  exact ⟨ZaB (a:=-1) (ZaS (by have:=HB.out;omega)).symm,hbw.trans (hb2.mono hbw.size)⟩
 refine (HC4.out S _ _ _ (Zct G4.out G5.out G6.out G7.out) (ZbX (E7.out.below hbw)) om om).mono ?_
 rw [Zbg om]
 rintro e w2 ⟨rfl,hb2⟩
 obtain ⟨hc2,hf2⟩:=ZbG hb2
 have hz2:w.heap.size < w2.heap.size:=(by have:=hb2.size;(try simp at this);omega)
 replace hbw:=hbw.trans (hb2.mono hbw.size)
 go_wp2
 go_ret
 exact ⟨ZaB (by have:=HB.out;rw [Zbg om];omega),hbw⟩
theorem Zn8 (row:List C):Zhj row:=by
 intro S S' us us' w hok hv hv'
 obtain ⟨i0,t1,i2,r3,i4,t5,i6,r7,rfl,g0,g1,g2,g3,g4,g5,g6,g7⟩:=Zd4 hok
 obtain ⟨v3,v7,rfl,e3,e7⟩:=Zds hv
 obtain ⟨x3,x7,rfl,d3,d7⟩:=Zds hv'
 have HC0:=Lib.hid (Zg4 [.lit (.int .i64 i0),.lit (.string t1),.lit (.int .i64 i2),.sl r3])
 have HC4:=Lib.hid (Zg4 [.lit (.int .i64 i4),.lit (.string t5),.lit (.int .i64 i6),.sl r7])
 have G0:=Lib.hid g0
 have G1:=Lib.hid g1
 have G2:=Lib.hid g2
 have G3:=Lib.hid g3
 have G4:=Lib.hid g4
 have G5:=Lib.hid g5
 have G6:=Lib.hid g6
 have G7:=Lib.hid g7
 clear g0 g1 g2 g3 g4 g5 g6 g7 hok
 have E3:=Lib.hid e3
 have D3:=Lib.hid d3
 have E7:=Lib.hid e7
 have D7:=Lib.hid d7
 clear hv hv' e3 d3 e7 d7
 have hbw:=((Below.refl w.heap.size w).alloc (Nat.le_refl _) (.cells #[.int .i64 i0,.string t1,.int .i64 i2,v3,.int .i64 i4,.string t5,.int .i64 i6,v7] 102)).alloc (by simp) (.cells #[.int .i64 i0,.string t1,.int .i64 i2,x3,.int .i64 i4,.string t5,.int .i64 i6,x7] 102)
 go_enter Tryz.func63,Tryz.ntmps63
 go_wp2_with fail
 refine (HC0.out S S' _ _ _ (Zct G0.out G1.out G2.out G3.out) (ZbX (E3.out.below hbw)) (ZbX (D3.out.below hbw))).mono ?_
 rintro e w1 ⟨rfl,hb1⟩
 obtain ⟨hc1,hf1⟩:=ZbG hb1
 have hz1:w.heap.size+1 < w1.heap.size:=(by have:=hb1.size;(try simp at this);omega)
 have ha1:w.heap.size < w1.heap.size:=by omega
 replace hbw:=hbw.trans (hb1.mono hbw.size)
 go_wp2_with fail
 refine (HC4.out S S' _ _ _ (Zct G4.out G5.out G6.out G7.out) (ZbX (E7.out.below hbw)) (ZbX (D7.out.below hbw))).mono ?_
 rintro e w2 ⟨rfl,hb2⟩
 obtain ⟨hc2,hf2⟩:=ZbG hb2
 have hz2:w.heap.size+1 < w2.heap.size:=(by have:=hb2.size;(try simp at this);omega)
 have ha2:w.heap.size < w2.heap.size:=by omega
 replace hbw:=hbw.trans (hb2.mono hbw.size)
 go_wp2
 go_ret
 exact ⟨rfl,hbw⟩
theorem Zn9 (row:List C):Zhk row:=by
 intro S us w hok hv hlen
 obtain ⟨i0,t1,i2,r3,i4,t5,i6,r7,rfl,g0,g1,g2,g3,g4,g5,g6,g7⟩:=Zd4 hok
 obtain ⟨v3,v7,rfl,e3,e7⟩:=Zds hv
 have HC0:=Lib.hid (Zg5 [.lit (.int .i64 i0),.lit (.string t1),.lit (.int .i64 i2),.sl r3])
 have HC4:=Lib.hid (Zg5 [.lit (.int .i64 i4),.lit (.string t5),.lit (.int .i64 i6),.sl r7])
 have G0:=Lib.hid g0
 have G1:=Lib.hid g1
 have G2:=Lib.hid g2
 have G3:=Lib.hid g3
 have G4:=Lib.hid g4
 have G5:=Lib.hid g5
 have G6:=Lib.hid g6
 have G7:=Lib.hid g7
 clear g0 g1 g2 g3 g4 g5 g6 g7 hok
 have E3:=Lib.hid e3
 have E7:=Lib.hid e7
 clear hv e3 e7
 have hl0:(Zak [.lit (.int .i64 i0),.lit (.string t1),.lit (.int .i64 i2),.sl r3])<=1048576:=by
  have e:(Zak [.lit (.int .i64 i0),.lit (.string t1),.lit (.int .i64 i2),.sl r3])<=Zak [.lit (.int .i64 i0),.lit (.string t1),.lit (.int .i64 i2),.sl r3,.lit (.int .i64 i4),.lit (.string t5),.lit (.int .i64 i6),.sl r7]:=by simp only [Zak,ZbY];omega
  exact Nat.le_trans e hlen
 have hl4:(Zak [.lit (.int .i64 i4),.lit (.string t5),.lit (.int .i64 i6),.sl r7])<=1048576:=by
  have e:(Zak [.lit (.int .i64 i4),.lit (.string t5),.lit (.int .i64 i6),.sl r7])<=Zak [.lit (.int .i64 i0),.lit (.string t1),.lit (.int .i64 i2),.sl r3,.lit (.int .i64 i4),.lit (.string t5),.lit (.int .i64 i6),.sl r7]:=by simp only [Zak,ZbY];omega
  exact Nat.le_trans e hlen
 clear hlen
 go_enter Tryz.func59,Tryz.ntmps59
 go_wp2_with fail
 refine (HC0.out S _ _ (Zct G0.out G1.out G2.out G3.out) (by exact ZbX (E3.out.below (by repeat (first | refine Below.alloc ?_ (by simp;try omega) _ | exact Below.refl _ _)))) hl0).mono ?_
 rintro e w1 ⟨ys0,rfl,hown0,hb1⟩
 obtain ⟨y3,rfl,f3⟩:=ZbP (Zah.rep _ _ (fun _=>True) _ (fun _ _=>trivial) hown0)
 obtain ⟨A3,n3,cap3,rfl,_,_,_⟩:=f3.form
 clear f3
 have hz1:=hb1.size
 simp at hz1 hown0
 have HOWN0:=Lib.hid hown0
 clear hown0
 have hbw1:Below w.heap.size w w1:=Below.trans (by repeat (first | refine Below.alloc ?_ (by simp;try omega) _ | exact Below.refl _ _)) (hb1.mono (by simp;try omega))
 obtain ⟨hc1,hf1⟩:=ZbG hb1
 have ha1:w.heap.size < w1.heap.size:=by omega
 have hbb1:w.heap.size+1 < w1.heap.size:=by omega
 have hcc1:w.heap.size+1+1 < w1.heap.size:=by omega
 go_wp2_with fail
 refine (HC4.out S _ _ (Zct G4.out G5.out G6.out G7.out) (by exact ZbX (E7.out.below (by repeat (first | refine Below.setCell ?_ (by simp;try omega) _ | exact hbw1)))) hl4).mono ?_
 rintro e w2 ⟨ys4,rfl,hown4,hb2⟩
 obtain ⟨y7,rfl,f7⟩:=ZbP (Zah.rep _ _ (fun _=>True) _ (fun _ _=>trivial) hown4)
 obtain ⟨A7,n7,cap7,rfl,_,_,_⟩:=f7.form
 clear f7
 have hz2:=hb2.size
 simp at hz2 hown4
 have HOWN4:=Lib.hid hown4
 clear hown4
 have hbw2:Below w.heap.size w w2:=Below.trans (by repeat (first | refine Below.setCell ?_ (by simp;try omega) _ | exact hbw1)) (hb2.mono (by simp;try omega))
 obtain ⟨hc2,hf2⟩:=ZbG hb2
 have ha2:w.heap.size < w2.heap.size:=by omega
 have hbb2:w.heap.size+1 < w2.heap.size:=by omega
 have hcc2:w.heap.size+1+1 < w2.heap.size:=by omega
 go_wp2
 refine bodyPost_ret (v:=.agg #[.int .i64 i0,.string t1,.int .i64 i2,.slice A3 n3 cap3,.int .i64 i4,.string t5,.int .i64 i6,.slice A7 n7 cap7]) (by simp [results,Tryz.results59,go_sem,hc1,ha1,hbb1,hcc1,hc2,ha2,hbb2,hcc2]) rfl ⟨[.int .i64 i0,.string t1,.int .i64 i2,.slice A3 n3 cap3,.int .i64 i4,.string t5,.int .i64 i6,.slice A7 n7 cap7],rfl,?_,(by repeat (first | refine Below.setCell ?_ (by simp;try omega) _ | exact hbw2))⟩
 simp
 exact (Zah.append (cs:=[.lit (.int .i64 i0),.lit (.string t1),.lit (.int .i64 i2),.sl r3]) (ds:=[.lit (.int .i64 i4),.lit (.string t5),.lit (.int .i64 i6),.sl r7]) (us:=[.int .i64 i0,.string t1,.int .i64 i2,.slice A3 n3 cap3]) (vs:=[.int .i64 i4,.string t5,.int .i64 i6,.slice A7 n7 cap7]) (fun x=>w.heap.size+1+1+1<=x∧x < w1.heap.size) (fun x=>w1.heap.size<=x∧x < w2.heap.size) (HOWN0.out.same (by repeat (first | refine Same.trans ?_ (Same.setCell _ _ _ _ (by simp;try omega)) | refine Same.trans ?_ ((Same.below hb2).mono (fun x hx=>by simp at hx ⊢;omega)) | exact Same.refl _ _))) (Zah.append (cs:=[.lit (.int .i64 i4),.lit (.string t5),.lit (.int .i64 i6),.sl r7]) (ds:=[]) (us:=[.int .i64 i4,.string t5,.int .i64 i6,.slice A7 n7 cap7]) (vs:=[]) (fun x=>w1.heap.size<=x∧x < w2.heap.size) (fun x=>w2.heap.size<=x∧x < w2.heap.size) (HOWN4.out.same (by repeat (first | refine Same.trans ?_ (Same.setCell _ _ _ _ (by simp;try omega)) | exact Same.refl _ _))) Zah.nil (fun x hx=>⟨by omega,by omega⟩) (fun x hx=>⟨by omega,by omega⟩) (fun x hx hy=>by omega)) (fun x hx=>⟨by omega,by omega⟩) (fun x hx=>⟨by omega,by omega⟩) (fun x hx hy=>by omega))
theorem Zmw (row:List C):Zhi row:=Zn7 row
theorem Zmx (row:List C):Zhj row:=Zn8 row
theorem Zmy (row:List C):Zhk row:=Zn9 row
theorem Zmz (rows:List (List C)) (h:∀ (i:Nat) r,rows[i]?=some r->Zhi r):Zjj rows:=by
 intro S v left w hok hv h0 h1
 obtain ⟨A,m,cap,rfl,hm,hmc,hcm⟩:=hv.form
 have H:=Lib.hid h
 have HV:=Lib.hid hv
 have HM:=Lib.hid hm
 have HOK:=Lib.hid hok
 clear h hv hm hok
 unfold maxLen at hcm
 by_cases hlt:left - m < 0
 ·rw [ZaS (by have:=HM.out;omega)]
  go_enter Tryz.func19,Tryz.ntmps19
  go_wp2
  go_ret
  exact ⟨rfl,Below.refl _ _⟩
 ·go_enter Tryz.func19,Tryz.ntmps19
  go_wp2
  go_loopw [1,5] (fun l i wr=>∃ k:Nat,k<=m∧i=.int .i64 k∧l=.int .i64 (left - m - (Zag (rows.take k):Int))∧0<=left - m - (Zag (rows.take k):Int)∧Below w.heap.size w wr) (fun _ i _=>m - (intOf i).toNat)
  case atStart=>exact ⟨0,Nat.zero_le _,rfl,by simp [Zag],by simp [Zag];omega,Below.refl _ _⟩
  case round =>
   obtain ⟨k,hk,rfl,rfl,hl0,hb⟩:=hrel
   by_cases hkm:k < m
   ·obtain ⟨b,off,r,rfl,hS,hbz,hget,hokr,hrow⟩:=(HV.out.below hb).get HOK.out hkm
    obtain ⟨u0,u1,u2,u3,u4,u5,u6,u7,c0,c1,c2,c3,c4,c5,c6,c7,hvals⟩:=hrow.vals8 hokr.len
    have HT:=H.out k r hget
    have HVALS:=Lib.hid hvals
    have HOKR:=Lib.hid hokr
    have HBT:=Lib.hid (Zd9 hget)
    have hle:=Zc0 rows (k+1)
    clear hvals hokr hrow hget
    simp only [Zab,Za0,occF,Zbe,sigF,Zbt,algF,List.cons_append,List.nil_append,List.length_cons,List.length_nil,Nat.reduceAdd,Nat.mul_one] at c0 c1 c2 c3 c4 c5 c6 c7
    by_cases h2:left - m - (Zag (rows.take k):Int) < Zak r
    ·go_wp2_with fail
     refine (HT S _ _ _ HOKR.out HVALS.out om om).mono ?_
     rw [ZaS h2]
     rintro e w' ⟨rfl,hb2⟩
     go_wp2
     go_ret
     exact ⟨ZaB (a:=-1) (ZaS (by have:=HBT.out;have:=HM.out;omega)).symm,hb.trans (hb2.mono hb.size)⟩
    ·go_wp2_with fail
     refine (HT S _ _ _ HOKR.out HVALS.out om om).mono ?_
     rw [Zbg om]
     rintro e w' ⟨rfl,hb2⟩
     go_wp2
     go_roundw
     case rel=>exact ⟨k+1,by omega,by go_num,by have:=HBT.out;congr 1;omega,by have:=HBT.out;omega,hb.trans (hb2.mono hb.size)⟩
     case measure=>simp [intOf];omega
   ·go_wp2
    go_ret
    have e:k=m:=by omega
    subst e
    have:rows.take k=rows:=List.take_of_length_le (by have:=HM.out;omega)
    rw [this] at hl0 ⊢
    exact ⟨ZaB (by have:=HM.out;rw [Zbg om];omega),hb⟩
theorem ZmA (rows:List (List C)) (h:∀ (i:Nat) r,rows[i]?=some r->Zhj r):Zjk rows:=by
 intro S S' v v' w hok hv hv'
 obtain ⟨A,m,cap,rfl,hm,hmc,hcm⟩:=hv.form
 obtain ⟨A',m',cap',rfl,hm',hmc',hcm'⟩:=hv'.form
 obtain rfl:m=m':=by omega
 have H:=Lib.hid h
 have HV:=Lib.hid hv
 have HV':=Lib.hid hv'
 have HM:=Lib.hid hm
 have HOK:=Lib.hid hok
 clear h hv hm hok hm' hv'
 unfold maxLen at hcm hcm'
 go_enter Tryz.func23,Tryz.ntmps23
 go_wp2
 go_loopw [5] (fun i wr=>∃ k:Nat,k<=m∧i=.int .i64 k∧Below w.heap.size w wr) (fun i _=>m - (intOf i).toNat)
 case atStart=>exact ⟨0,Nat.zero_le _,rfl,Below.refl _ _⟩
 case round =>
  obtain ⟨k,hk,rfl,hb⟩:=hrel
  by_cases hkm:k < m
  ·obtain ⟨b,off,r,rfl,hS,hbz,hget,hokr,hrow⟩:=(HV.out.below hb).get HOK.out hkm
   obtain ⟨b',off',r',rfl,hS',hbz',hget',hokr',hrow'⟩:=(HV'.out.below hb).get HOK.out hkm
   obtain rfl:r=r':=by rw [hget] at hget';exact Option.some.inj hget'
   obtain ⟨u0,u1,u2,u3,u4,u5,u6,u7,c0,c1,c2,c3,c4,c5,c6,c7,hvals⟩:=hrow.vals8 hokr.len
   obtain ⟨x0,x1,x2,x3,x4,x5,x6,x7,d0,d1,d2,d3,d4,d5,d6,d7,hvals'⟩:=hrow'.vals8 hokr.len
   have HT:=H.out k r hget
   have HVALS:=Lib.hid hvals
   have HVALS':=Lib.hid hvals'
   have HOKR:=Lib.hid hokr
   clear hvals hvals' hokr hokr' hrow hrow' hget hget'
   simp only [Zab,Za0,occF,Zbe,sigF,Zbt,algF,List.cons_append,List.nil_append,List.length_cons,List.length_nil,Nat.reduceAdd,Nat.mul_one] at c0 c1 c2 c3 c4 c5 c6 c7 d0 d1 d2 d3 d4 d5 d6 d7
   have k0:(0:Int)<=(k:Int):=by omega
   have k1:(k:Int) < (m:Int):=by omega
   go_wp2_with fail
   go_region_held3 (fun w'=>∀ b o,b < wr.heap.size->w'.cell? ⟨b,o,none⟩=wr.cell? ⟨b,o,none⟩) (first | go_keep | exact fun b o h=>hb2.cell (p:=⟨b,o,none⟩) h) (first | (go_at_call 63;refine (HT S S' _ _ _ HOKR.out (HVALS.out.below (Below.refl _ _).drew) (HVALS'.out.below (Below.refl _ _).drew)).mono ?_;rintro e w' ⟨rfl,hb2⟩))
   go_wp2
   go_roundw
   case rel=>exact ⟨k+1,by omega,by go_num,hb.trans ((Below.refl _ _).drew.trans (hb2.mono hb.size))⟩
   case measure=>simp [intOf];omega
  ·go_wp2
   go_ret
   exact ⟨rfl,hb⟩
theorem Zoa:(Tryz.prog.info? 102).map (fun i=>(i.zero,i.size,i.bytes))=some (some (.agg #[.int .i64 0,.string .empty,.int .i64 0,.slice none 0 0,.int .i64 0,.string .empty,.int .i64 0,.slice none 0 0]),8,112):=by kernel_rfl
theorem ZmB (rows:List (List C)) (h:∀ (i:Nat) r,rows[i]?=some r->Zhk r):Zjl rows:=by
 intro S v w hok hv hlen
 obtain ⟨A,m,cap,rfl,hm,hmc,hcm⟩:=hv.form
 obtain ⟨i0,hi,hz0,hz1,hz2⟩:=info_parts Zoa
 have H:=Lib.hid h
 have HV:=Lib.hid hv
 have HM:=Lib.hid hm
 have HOK:=Lib.hid hok
 have hml:m<=1048576:=by omega
 clear h hv hm hok
 unfold maxLen at hcm
 have hmk:=run_make (P:=Tryz.prog) w 55 102 i0 _ Tryz.underlying55 hi hz0 .i64 .i64 (m:Int) (m:Int) om om (by rw [hz2];omega) om
 go_enter Tryz.func21,Tryz.ntmps21
 go_wp2
 clear hmk
 go_loopw [4] (fun i wr=>∃ k:Nat,k<=m∧i=.int .i64 k∧Zbu w w.heap.size 102 m 8 rows k wr) (fun i _=>m - (intOf i).toNat)
 case atStart=>exact ⟨0,Nat.zero_le _,rfl,Zbu.start (size_madeCells _ _)⟩
 case round =>
  obtain ⟨k,hk,rfl,hfill⟩:=hrel
  have hb:=hfill.1
  by_cases hkm:k < m
  ·obtain ⟨b,off,r,rfl,hS,hbz,hget,hokr,hrow⟩:=(HV.out.below hb).get HOK.out hkm
   obtain ⟨u0,u1,u2,u3,u4,u5,u6,u7,c0,c1,c2,c3,c4,c5,c6,c7,hvals⟩:=hrow.vals8 hokr.len
   have HT:=H.out k r hget
   have HVALS:=Lib.hid hvals
   have HOKR:=Lib.hid hokr
   have HGET:=Lib.hid hget
   have HF:=Lib.hid hfill
   have hbg:=Zc7 hget
   clear hvals hokr hrow hget hfill
   simp only [Zab,Za0,occF,Zbe,sigF,Zbt,algF,List.cons_append,List.nil_append,List.length_cons,List.length_nil,Nat.reduceAdd,Nat.mul_one] at c0 c1 c2 c3 c4 c5 c6 c7
   go_wp2_with fail
   refine (HT S _ _ HOKR.out HVALS.out om).mono ?_
   rintro e w2 ⟨us,rfl,hown,hb2⟩
   have hone:=HOKR.out.one (Zah.rep _ _ (fun _=>True) _ (fun _ _=>trivial) hown)
   obtain ⟨y0,y1,y2,y3,y4,y5,y6,y7,rfl⟩:=len8 (hown.len.trans HOKR.out.len)
   have HOWN:=Lib.hid hown
   have HONE:=Lib.hid hone
   obtain ⟨cur,hcur,hcs⟩:=HF.out.row hb2
   have HCUR:=Lib.hid hcur
   have HCS:=Lib.hid hcs
   clear hown hone hcur hcs
   go_wp2_with (refine ZbR rfl 102 _ _ rfl w.heap.size (k * 8) rfl [y0,y1,y2,y3,y4,y5,y6,y7] rfl i0 hi hz1 102 cur HCUR.out (by have:=HCS.out;simp only [List.length_cons,List.length_nil];omega) HONE.out ?_;intro w3 hput)
   go_roundw
   case rel=>exact ⟨k+1,by omega,by go_num,HF.out.step (fs:=Zab .binding) HOK.out HGET.out hb2 HOWN.out hput⟩
   case measure=>simp [intOf];omega
  ·go_wp2
   go_ret
   have e:k=m:=by omega
   subst e
   exact ⟨_,rfl,hfill.done HM.out (by unfold maxLen;omega) (by decide) HOK.out.lens⟩
theorem Zli (rows:List (List C)):Zjj rows:=Zmz rows (fun _ r _=>Zmw r)
theorem Zlj (rows:List (List C)):Zjk rows:=ZmA rows (fun _ r _=>Zmx r)
theorem Zlk (rows:List (List C)):Zjl rows:=ZmB rows (fun _ r _=>Zmy r)
structure Bd where
 var:Tm
 to:Tm
def ZbN (b:Bd):List C:=Zae b.var++Zae b.to
def okBd (b:Bd):Prop:=okTm b.var∧okTm b.to
def Zge (l:List Bd):Prop:=∀ b∈l,okBd b
def ZbW (l:List Bd):List (List C):=l.map ZbN
theorem ZCW:∀ {rows:List (List C)},Zaq (Zab .binding) rows->∃ l,rows=ZbW l∧Zge l
 | [],_=>⟨[],by simp [ZbW],by simp [Zge]⟩
 | r::rs,h=>by
  simp only [Zaq] at h
  obtain ⟨i0,t1,i2,r3,i4,t5,i6,r7,rfl,g0,g1,g2,g3,g4,g5,g6,g7⟩:=Zd4 h.1
  obtain ⟨l,rfl,hl⟩:=ZCW h.2
  obtain ⟨a,rfl,ha⟩:=Zwi g3
  obtain ⟨a',rfl,ha'⟩:=Zwi g7
  refine ⟨⟨.mk i0 t1 i2 a,.mk i4 t5 i6 a'⟩::l,by simp [ZbW,ZbN,Zae],fun m hm=>?_⟩
  rcases List.mem_cons.1 hm with rfl | hm
  ·exact ⟨by simp only [okTm];exact ⟨g0,g1,g2,ha⟩,by simp only [okTm];exact ⟨g4,g5,g6,ha'⟩⟩
  ·exact hl m hm
theorem Zfq (l:List Bd):(ZbW l).length=l.length:=by simp [ZbW]
theorem Zfr (l:List Bd) (i:Nat):(ZbW l)[i]?=l[i]?.map ZbN:=by simp [ZbW]
end Go.Proofs.YtffmjghcpgpfpaaGreatDoor
namespace Go.Proofs.YtffmjghcpgpfpaaGreatDoor
theorem ZjD (m p:Nat) (a b:Bool):(2 * m+a.toNat) &&& (2 * p+b.toNat)=2 * (m &&& p)+(a && b).toNat:=by
 apply Nat.eq_of_testBit_eq
 intro i
 rw [Nat.testBit_and]
 cases i with
 | zero=>simp only [Nat.testBit_zero];cases a <;> cases b <;> simp [Nat.add_mod]
 | succ i =>
  simp only [Nat.testBit_succ]
  have h:∀ (n:Nat) (c:Bool),(2 * n+c.toNat) / 2=n:=fun n c=>by cases c <;> simp <;> omega
  rw [h,h,h,Nat.testBit_and]
theorem Zih (n:Nat):∃ m,∃ a:Bool,n=2 * m+a.toNat:=by
 refine ⟨n / 2,decide (n % 2=1),?_⟩
 rcases Nat.mod_two_eq_zero_or_one n with h | h
 ·rw [h];simp;omega
 ·rw [h];simp;omega
theorem ZCb {m p:Nat} {a b:Bool}:2 * m+a.toNat=2 * p+b.toNat ↔ m=p∧a=b:=by
 constructor
 ·intro h;cases a <;> cases b <;> simp_all <;> omega
 ·rintro ⟨rfl,rfl⟩;rfl
theorem Zl2 {q m:Nat} (h:q &&& m=q):q<=m:=by rw [<- h];exact Nat.and_le_right
theorem Zob:∀ (m p q:Nat),p &&& m=p->q &&& m=q->q < p->q<=(p - 1) &&& m:=by
 intro m
 induction m using Nat.strongRecOn with
 | ind m ih =>
 intro p q hp hq hlt
 by_cases hm:m=0
 ·subst hm;simp at hp hq;omega
 obtain ⟨m',a,rfl⟩:=Zih m
 obtain ⟨p',b,rfl⟩:=Zih p
 obtain ⟨q',c,rfl⟩:=Zih q
 rw [ZjD,ZCb] at hp hq
 have hm':m' < 2 * m'+a.toNat:=by cases a <;> simp at hm ⊢ <;> omega
 cases b with
 | true =>
  have e:2 * p'+true.toNat - 1=2 * p'+false.toNat:=by simp
  rw [e,ZjD,hp.1]
  cases c <;> simp at hlt hq ⊢ <;> omega
 | false =>
  have hlt':q' < p':=by cases c <;> simp at hlt <;> omega
  have e:2 * p'+false.toNat - 1=2 * (p' - 1)+true.toNat:=by simp;omega
  rw [e,ZjD]
  have:=ih m' hm' p' q' hp.1 hq.1 hlt'
  have h2:=hq.2
  cases c <;> cases a <;> simp at h2 ⊢ <;> omega
open Classical in
noncomputable def ofB (P:Nat->Prop):Nat->Nat
 | 0=>0
 | n+1=>ofB P n ||| (if P n then 2 ^ n else 0)
theorem ZcI (P:Nat->Prop):∀ (n i:Nat),(ofB P n).testBit i=true ↔ i < n∧P i
 | 0,i=>by simp [ofB]
 | n+1,i=>by
  rw [ofB,Nat.testBit_or,Bool.or_eq_true,ZcI P n i]
  by_cases h:P n
  ·rw [if_pos h,Nat.testBit_two_pow]
   simp only [decide_eq_true_eq]
   constructor
   ·rintro (⟨h1,h2⟩ | rfl)
    ·exact ⟨by omega,h2⟩
    ·exact ⟨by omega,h⟩
   ·rintro ⟨h1,h2⟩
    by_cases h3:n=i
    ·exact .inr h3
    ·exact .inl ⟨by omega,h2⟩
  ·rw [if_neg h]
   simp only [Nat.zero_testBit,Bool.false_eq_true,or_false]
   constructor
   ·rintro ⟨h1,h2⟩;exact ⟨by omega,h2⟩
   ·rintro ⟨h1,h2⟩
    by_cases h3:i=n
    ·subst h3;exact absurd h2 h
    ·exact ⟨by omega,h2⟩
theorem ZbJ (P:Nat->Prop) (n:Nat):ofB P n < 2 ^ n:=by
 apply Nat.lt_pow_two_of_testBit
 intro i hi
 cases h:(ofB P n).testBit i with
 | false=>rfl
 | true=>have:=((ZcI P n i).1 h).1;omega
theorem ZkG {v n i:Nat} (h:v < 2 ^ n) (hb:v.testBit i=true):i < n:=by
 apply Classical.byContradiction
 intro hc
 have:v < 2 ^ i:=Nat.lt_of_lt_of_le h (Nat.pow_le_pow_right (by decide) om)
 rw [Nat.testBit_lt_two_pow this] at hb
 cases hb
theorem ZsK {v u:Nat} (h:∀ i,v.testBit i=true ↔ u.testBit i=true):v=u:=by
 apply Nat.eq_of_testBit_eq
 intro i
 have:=h i
 cases h1:v.testBit i <;> cases h2:u.testBit i <;> simp_all
theorem ZkH {P:Nat->Prop} {n v:Nat} (hv:v < 2 ^ n) (h:∀ i,i < n->(v.testBit i=true ↔ P i)):v=ofB P n:=by
 apply ZsK
 intro i
 rw [ZcI]
 constructor
 ·intro hb
  have:=ZkG hv hb
  exact ⟨this,(h i this).1 hb⟩
 ·rintro ⟨h1,h2⟩;exact (h i h1).2 h2
theorem ZaR {P Q:Nat->Prop} {n:Nat} (h:∀ i,i < n->(P i ↔ Q i)):ofB P n=ofB Q n :=
 ZkH (ZbJ P n) fun i hi=>by rw [ZcI,h i hi];exact ⟨fun x=>x.2,fun x=>⟨hi,x⟩⟩
inductive BagB (R:Nat->Nat->Nat->Prop) (sets:List Nat):Nat->Nat->Prop
 | leaf {i b s:Nat}:sets[i]?=some s->s.testBit b=true->BagB R sets (2 ^ i) b
 | node {p q a c b:Nat}:p≠0->q≠0->p &&& q=0->BagB R sets p a->BagB R sets q c->R a c b->BagB R sets (p ||| q) b
inductive ChB (R:Nat->Nat->Nat->Prop) (sets:List Nat):Nat->Nat->Nat->Prop
 | leaf {i b s:Nat}:sets[i]?=some s->s.testBit b=true->ChB R sets i (i+1) b
 | node {i k j a c b:Nat}:i < k->k < j->ChB R sets i k a->ChB R sets k j c->R a c b->ChB R sets i j b
def Two (R:Nat->Nat->Nat->Prop) (s t b:Nat):Prop:=∃ a c,s.testBit a=true∧t.testBit c=true∧R a c b
theorem ZrD (i j:Nat):(2 ^ i).testBit j=true ↔ i=j:=by rw [Nat.testBit_two_pow];simp
theorem ZjE {p:Nat} (h:p≠0):∃ i,p.testBit i=true:=by
 apply Classical.byContradiction
 intro hc
 apply h
 apply Nat.eq_of_testBit_eq
 intro i
 cases hb:p.testBit i with
 | false=>simp
 | true=>exact absurd ⟨i,hb⟩ hc
theorem Zll {p q i:Nat} (h:p &&& q=0) (h1:p.testBit i=true) (h2:q.testBit i=true):False:=by
 have:=congrArg (fun x=>x.testBit i) h
 simp [h1,h2] at this
theorem ZsL {p q i:Nat} (hp:p≠0) (hq:q≠0) (h:p &&& q=0):p ||| q≠2 ^ i:=by
 intro e
 obtain ⟨a,ha⟩:=ZjE hp
 obtain ⟨c,hc⟩:=ZjE hq
 have h1:(2 ^ i).testBit a=true:=by rw [<- e,Nat.testBit_or,ha];rfl
 have h2:(2 ^ i).testBit c=true:=by rw [<- e,Nat.testBit_or,hc];simp
 rw [ZrD] at h1 h2
 subst h1;subst h2
 exact Zll h ha hc
theorem ZjF {R:Nat->Nat->Nat->Prop} {sets:List Nat} {i s b:Nat} (hs:sets[i]?=some s):BagB R sets (2 ^ i) b ↔ s.testBit b=true:=by
 constructor
 ·intro h
  generalize hm:2 ^ i=m at h
  cases h with
  | leaf h1 h2 =>
   have:=(Nat.pow_right_inj (by decide)).1 hm
   subst this
   rw [hs] at h1;injection h1 with h1;subst h1;exact h2
  | node h1 h2 h3 _ _ _=>exact absurd hm.symm (ZsL h1 h2 h3)
 ·exact fun h=>.leaf hs h
theorem ZCX {p q:Nat} (h:p &&& q=0):(p ||| q) ^^^ p=q:=by
 apply Nat.eq_of_testBit_eq
 intro i
 rw [Nat.testBit_xor,Nat.testBit_or]
 cases h1:p.testBit i <;> cases h2:q.testBit i <;> simp
 exact absurd h1 (by intro h1;exact Zll h h1 h2)
theorem ZrE {p m:Nat} (h:p &&& m=p) {i:Nat} (hi:p.testBit i=true):m.testBit i=true:=by
 rw [<- h,Nat.testBit_and] at hi;simp at hi;exact hi.2
theorem ZrF {p m:Nat} (h:p &&& m=p):p &&& (m ^^^ p)=0∧p ||| (m ^^^ p)=m:=by
 constructor
 ·apply Nat.eq_of_testBit_eq
  intro i
  rw [Nat.testBit_and,Nat.testBit_xor]
  cases h1:p.testBit i with
  | false=>simp
  | true=>simp [ZrE h h1]
 ·apply Nat.eq_of_testBit_eq
  intro i
  rw [Nat.testBit_or,Nat.testBit_xor]
  cases h1:p.testBit i with
  | false=>simp
  | true=>simp [ZrE h h1]
theorem Zoc {p m:Nat} (h:p≠m):m ^^^ p≠0:=by
 intro e
 apply h
 apply Nat.eq_of_testBit_eq
 intro i
 have:=congrArg (fun x=>x.testBit i) e
 rw [Nat.testBit_xor] at this
 cases h1:p.testBit i <;> cases h2:m.testBit i <;> simp [h1,h2] at this ⊢
theorem Zod {R:Nat->Nat->Nat->Prop} {sets:List Nat} {m b:Nat} (hm:∀ i,m≠2 ^ i):BagB R sets m b ↔ ∃ p,p≠0∧p≠m∧p &&& m=p∧∃ a c,BagB R sets p a∧BagB R sets (m ^^^ p) c∧R a c b:=by
 constructor
 ·intro h
  cases h with
  | leaf=>exact absurd rfl (hm _)
  | node h1 h2 h3 h4 h5 h6 =>
   rename_i p q a c
   refine ⟨p,h1,?_,?_,a,c,h4,?_,h6⟩
   ·intro e
    obtain ⟨i,hi⟩:=ZjE h2
    exact Zll h3 (by rw [e,Nat.testBit_or,hi];simp) hi
   ·apply Nat.eq_of_testBit_eq;intro i;rw [Nat.testBit_and,Nat.testBit_or];cases p.testBit i <;> simp
   ·rw [ZCX h3];exact h5
 ·rintro ⟨p,h1,h2,h3,a,c,h4,h5,h6⟩
  have:=ZrF h3
  have h:=BagB.node h1 (Zoc h2) this.1 h4 h5 h6
  rw [this.2] at h
  exact h
theorem ZgJ {R:Nat->Nat->Nat->Prop} {sets:List Nat} {i s b:Nat} (hs:sets[i]?=some s):ChB R sets i (i+1) b ↔ s.testBit b=true:=by
 constructor
 ·intro h
  generalize hj:i+1=j at h
  cases h with
  | leaf h1 h2=>rw [hs] at h1;injection h1 with h1;subst h1;exact h2
  | node h1 h2 _ _ _=>omega
 ·exact fun h=>.leaf hs h
theorem ZrG {R:Nat->Nat->Nat->Prop} {sets:List Nat} {i j b:Nat} (hij:i+1 < j):ChB R sets i j b ↔ ∃ k,i < k∧k < j∧∃ a c,ChB R sets i k a∧ChB R sets k j c∧R a c b:=by
 constructor
 ·intro h
  cases h with
  | leaf=>omega
  | node h1 h2 h3 h4 h5=>exact ⟨_,h1,h2,_,_,h3,h4,h5⟩
 ·rintro ⟨k,h1,h2,a,c,h3,h4,h5⟩;exact .node h1 h2 h3 h4 h5
theorem ZCY {R:Nat->Nat->Nat->Prop} {s t b:Nat}:ChB R [s,t] 0 2 b ↔ Two R s t b:=by
 rw [ZrG om]
 constructor
 ·rintro ⟨k,h1,h2,a,c,h3,h4,h5⟩
  obtain rfl:k=1:=by omega
  exact ⟨a,c,(ZgJ (i:=0) rfl).1 h3,(ZgJ (i:=1) rfl).1 h4,h5⟩
 ·rintro ⟨a,c,h3,h4,h5⟩
  exact ⟨1,by omega,by omega,a,c,(ZgJ (i:=0) rfl).2 h3,(ZgJ (i:=1) rfl).2 h4,h5⟩
theorem ZwN:∀ i,3≠2 ^ i
 | 0=>by decide
 | 1=>by decide
 | i+2=>by rw [Nat.pow_succ];omega
theorem ZCc {R:Nat->Nat->Nat->Prop} {s t b:Nat}:BagB R [s,t] 3 b ↔ Two R s t b∨Two R t s b:=by
 rw [Zod ZwN]
 have l0:∀ x,BagB R [s,t] 1 x ↔ s.testBit x=true:=fun x=>ZjF (i:=0) rfl
 have l1:∀ x,BagB R [s,t] 2 x ↔ t.testBit x=true:=fun x=>ZjF (i:=1) rfl
 constructor
 ·rintro ⟨p,h1,h2,h3,a,c,h4,h5,h6⟩
  have:=Zl2 h3
  rcases (by omega:p=1∨p=2) with rfl | rfl
  ·exact .inl ⟨a,c,(l0 a).1 h4,(l1 c).1 h5,h6⟩
  ·exact .inr ⟨a,c,(l1 a).1 h4,(l0 c).1 h5,h6⟩
 ·rintro (⟨a,c,h4,h5,h6⟩ | ⟨a,c,h4,h5,h6⟩)
  ·exact ⟨1,by decide,by decide,by decide,a,c,(l0 a).2 h4,(l1 c).2 h5,h6⟩
  ·exact ⟨2,by decide,by decide,by decide,a,c,(l1 a).2 h4,(l0 c).2 h5,h6⟩
end Go.Proofs.YtffmjghcpgpfpaaGreatDoor
namespace Go.Proofs.YtffmjghcpgpfpaaGreatDoor
open Go.RowKit
theorem Ze8 (P Q:Nat->Prop) (n:Nat):ofB P n ||| ofB Q n=ofB (fun b=>P b∨Q b) n :=
 ZkH (Nat.or_lt_two_pow (ZbJ P n) (ZbJ Q n)) fun i hi=>by
  rw [Nat.testBit_or,Bool.or_eq_true,ZcI,ZcI]
  simp only [hi,true_and]
theorem ZfW {P:Nat->Prop} {n:Nat} (h:∀ i,i < n->¬ P i):ofB P n=0 :=
 (ZkH (Nat.pos_of_ne_zero (by have:=Nat.one_le_two_pow (n:=n);omega)) fun i hi=>by
  rw [Nat.zero_testBit]
  exact ⟨fun e=>(by cases e),fun e=>absurd e (h i hi)⟩).symm
theorem ZfX {v n:Nat} (h:v < 2 ^ n):ofB (fun b=>v.testBit b=true) n=v:=(ZkH h fun i _=>Iff.rfl).symm
def upk (g:Sgn) (k:Int):Nat:=(up g.sorts).getD k.toNat 0
theorem ZgK {g:Sgn} (hs:SortsOk g.sorts) {k:Int} (h0:0<=k) (h1:k < g.sorts.names.length):(up g.sorts)[k.toNat]?=some (upk g k)∧upk g k < 2 ^ g.sorts.names.length :=
 (ZeJ (SortsOk.subsIn hs.subs)).get om
def ZcR (g:Sgn) (o:Opr) (sets:List Nat) (b:Nat):Prop:=∃ d∈o.decls,(∀ (i:Nat) k s,d.args[i]?=some k->sets[i]?=some s->s.testBit k.toNat=true)∧(upk g d.res).testBit b=true
def Rel2 (g:Sgn) (o:Opr) (a c b:Nat):Prop:=∃ d∈o.decls,d.args.map Int.toNat=[a,c]∧(upk g d.res).testBit b=true
def AnyB (g:Sgn) (o:Opr) (sets:List Nat) (b:Nat):Prop:=ZcR g o sets b∨(o.comm=true∧ZcR g o sets.reverse b)
def AppB (g:Sgn) (o:Opr) (sets:List Nat) (b:Nat):Prop:=if o.assoc=true then (if o.comm=true then BagB (Rel2 g o) sets (2 ^ sets.length - 1) b else ChB (Rel2 g o) sets 0 sets.length b) else AnyB g o sets b
noncomputable def appS (g:Sgn) (o:Opr) (sets:List Nat):Nat:=ofB (AppB g o sets) g.sorts.names.length
mutual
noncomputable def sortsTm (g:Sgn):Tm->Nat
 | .mk op _ so args=>if op=-1 then upk g so else match g.ops[op.toNat]? with
  | none=>0
  | some o=>appS g o (Zhl g args)
noncomputable def Zhl (g:Sgn):List Tm->List Nat
 | []=>[]
 | t::ts=>sortsTm g t::Zhl g ts
end
theorem Zii (g:Sgn):∀ (l:List Tm),Zhl g l=l.map (sortsTm g)
 | []=>rfl
 | t::ts=>by simp only [Zhl,List.map_cons,Zii g ts]
theorem Zgr {g:Sgn} {t:Tm} (h:t.op=-1):sortsTm g t=upk g t.sort:=by
 obtain ⟨op,nm,so,args⟩:=t
 simp only [Tm.op] at h
 simp only [sortsTm,if_pos h,Tm.sort]
theorem Zgs {g:Sgn} {t:Tm} {o:Opr} (h:t.op≠-1) (ho:g.ops[t.op.toNat]?=some o):sortsTm g t=appS g o (t.args.map (sortsTm g)):=by
 obtain ⟨op,nm,so,args⟩:=t
 simp only [Tm.op] at h ho
 simp only [sortsTm,if_neg h,ho,Tm.args,Zii]
theorem ZdQ {g:Sgn} (hg:SgnOk g) {t:Tm} (ht:Zco g t):sortsTm g t < 2 ^ g.sorts.names.length:=by
 rcases ht with hv | ⟨o,d,hA⟩
 ·rw [Zgr hv.1]
  exact (ZgK hg.sorts hv.2.2.1 hv.2.2.2.1).2
 ·rw [Zgs hA.op hA.at']
  exact ZbJ _ _
theorem Rel2.lt {g:Sgn} (hg:SgnOk g) {o:Opr} (ho:o∈g.ops) {a c b:Nat} (h:Rel2 g o a c b):b < g.sorts.names.length:=by
 obtain ⟨d,hd,_,hb⟩:=h
 have hD:=hg.decls o ho
 obtain ⟨f,hf,_⟩:=hD.first
 have hd':=hD.all f hf d hd
 exact ZkG (ZgK hg.sorts hd'.res.1 hd'.res.2).2 hb
theorem Zd8 {g:Sgn} {o:Opr} (h2:∀ d∈o.decls,d.args.length=2) {s t b:Nat}:ZcR g o [s,t] b ↔ Two (Rel2 g o) s t b:=by
 constructor
 ·rintro ⟨d,hd,h1,hb⟩
  obtain ⟨x,y,hxy⟩:=ZnN (h2 d hd)
  rw [hxy] at h1
  exact ⟨x.toNat,y.toNat,h1 0 x s rfl rfl,h1 1 y t rfl rfl,d,hd,by rw [hxy];rfl,hb⟩
 ·rintro ⟨a,c,ha,hc,d,hd,he,hb⟩
  obtain ⟨x,y,hxy⟩:=ZnN (h2 d hd)
  rw [hxy] at he
  simp only [List.map_cons,List.map_nil,List.cons.injEq,and_true] at he
  obtain ⟨rfl,rfl⟩:=he
  refine ⟨d,hd,fun i k u hk hu=>?_,hb⟩
  rw [hxy] at hk
  match i,hk,hu with
  | 0,hk,hu =>
   simp only [List.getElem?_cons_zero,Option.some.injEq] at hk hu
   subst hk;subst hu;exact ha
  | 1,hk,hu =>
   simp only [List.getElem?_cons_succ,List.getElem?_cons_zero,Option.some.injEq] at hk hu
   subst hk;subst hu;exact hc
  | i+2,hk,hu=>simp at hk
theorem Opr.deg2 {g:Sgn} (hg:SgnOk g) {i:Nat} {o:Opr} (ho:g.ops[i]?=some o) (h:o.assoc=true∨o.comm=true∨o.unit≠0):∀ d∈o.decls,d.args.length=2:=by
 intro d hd
 have hm:=List.mem_of_getElem? ho
 have hD:=hg.decls o hm
 obtain ⟨f,hf,_⟩:=hD.first
 rw [(hD.all f hf d hd).len]
 exact ((hg.axs o hm).two h f hf).1
theorem ZCd {g:Sgn} (hg:SgnOk g) {i:Nat} {o:Opr} (ho:g.ops[i]?=some o) {sets:List Nat} (h:o.assoc=true->sets.length=2):ofB (AnyB g o sets) g.sorts.names.length=appS g o sets:=by
 unfold appS
 refine ZaR fun b _=>?_
 unfold AppB
 cases ha:o.assoc with
 | false=>rw [if_neg (by simp)]
 | true =>
  rw [if_pos rfl]
  have h2:=Opr.deg2 hg ho (.inl ha)
  obtain ⟨s,t,hst⟩:∃ s t,sets=[s,t]:=by
   match sets,h ha with
   | [s,t],_=>exact ⟨s,t,rfl⟩
  subst hst
  unfold AnyB
  simp only [List.reverse_cons,List.reverse_nil,List.nil_append,List.singleton_append]
  rw [Zd8 h2,Zd8 h2]
  cases hc:o.comm with
  | false =>
   rw [if_neg (by simp)]
   simp only [List.length_cons,List.length_nil]
   rw [ZCY]
   simp
  | true =>
   rw [if_pos rfl]
   simp only [List.length_cons,List.length_nil]
   rw [show 2 ^ (0+1+1) - 1=3 from rfl,ZCc]
   simp
theorem BagB.lt {R:Nat->Nat->Nat->Prop} {sets:List Nat} {N:Nat} (hs:∀ s∈sets,s < 2 ^ N) (hR:∀ a c b,R a c b->b < N) {m b:Nat} (h:BagB R sets m b):b < N:=by
 cases h with
 | leaf h1 h2=>exact ZkG (hs _ (List.mem_of_getElem? h1)) h2
 | node _ _ _ _ _ h=>exact hR _ _ _ h
theorem ChB.lt {R:Nat->Nat->Nat->Prop} {sets:List Nat} {N:Nat} (hs:∀ s∈sets,s < 2 ^ N) (hR:∀ a c b,R a c b->b < N) {i j b:Nat} (h:ChB R sets i j b):b < N:=by
 cases h with
 | leaf h1 h2=>exact ZkG (hs _ (List.mem_of_getElem? h1)) h2
 | node _ _ _ _ h=>exact hR _ _ _ h
def Zeq (R:Nat->Nat->Nat->Prop) (sets:List Nat) (N m part b:Nat):Prop:=∃ p,part < p∧p≠0∧p≠m∧p &&& m=p∧Two R (ofB (BagB R sets p) N) (ofB (BagB R sets (m ^^^ p)) N) b
theorem ZiI {R:Nat->Nat->Nat->Prop} {P Q:Nat->Prop} {N b:Nat} (hP:∀ b,P b->b < N) (hQ:∀ b,Q b->b < N):Two R (ofB P N) (ofB Q N) b ↔ ∃ a c,P a∧Q c∧R a c b:=by
 unfold Two
 constructor
 ·rintro ⟨a,c,h1,h2,h3⟩
  exact ⟨a,c,((ZcI _ _ _).1 h1).2,((ZcI _ _ _).1 h2).2,h3⟩
 ·rintro ⟨a,c,h1,h2,h3⟩
  exact ⟨a,c,(ZcI _ _ _).2 ⟨hP a h1,h1⟩,(ZcI _ _ _).2 ⟨hQ c h2,h2⟩,h3⟩
theorem ZkI {R:Nat->Nat->Nat->Prop} {sets:List Nat} {N m:Nat} (hm:m≠0):ofB (Zeq R sets N m ((m - 1) &&& m)) N=0:=ZfW fun b _ h=>by
 obtain ⟨p,h1,h2,h3,h4,_⟩:=h
 have h5:=Zl2 h4
 have:=Zob m m p (Nat.and_self m) h4 om
 omega
theorem Zl3 {R:Nat->Nat->Nat->Prop} {sets:List Nat} {N m p b:Nat} (hp:p≠0) (hm:p≠m) (h:p &&& m=p):Zeq R sets N m ((p - 1) &&& m) b ↔ Zeq R sets N m p b∨Two R (ofB (BagB R sets p) N) (ofB (BagB R sets (m ^^^ p)) N) b:=by
 constructor
 ·rintro ⟨q,h1,h2,h3,h4,h5⟩
  by_cases hq:p < q
  ·exact .inl ⟨q,hq,h2,h3,h4,h5⟩
  ·by_cases e:q=p
   ·subst e;exact .inr h5
   ·have:=Zob m p q h h4 om;omega
 ·have hlt:(p - 1) &&& m < p:=by have:(p - 1) &&& m<=p - 1:=Nat.and_le_left;omega
  rintro (⟨q,h1,h2,h3,h4,h5⟩ | h5)
  ·exact ⟨q,by omega,h2,h3,h4,h5⟩
  ·exact ⟨p,hlt,hp,hm,h,h5⟩
theorem Zoe {R:Nat->Nat->Nat->Prop} {sets:List Nat} {N m:Nat} (hs:∀ s∈sets,s < 2 ^ N) (hR:∀ a c b,R a c b->b < N) (hm:∀ i,m≠2 ^ i):ofB (Zeq R sets N m 0) N=ofB (BagB R sets m) N:=ZaR fun b _=>by
 rw [Zod hm]
 unfold Zeq
 constructor
 ·rintro ⟨p,h1,h2,h3,h4,h5⟩
  obtain ⟨a,c,h6,h7,h8⟩:=(ZiI (fun b hb=>BagB.lt hs hR hb) (fun b hb=>BagB.lt hs hR hb)).1 h5
  exact ⟨p,h2,h3,h4,a,c,h6,h7,h8⟩
 ·rintro ⟨p,h2,h3,h4,a,c,h6,h7,h8⟩
  exact ⟨p,by omega,h2,h3,h4,(ZiI (fun b hb=>BagB.lt hs hR hb) (fun b hb=>BagB.lt hs hR hb)).2 ⟨a,c,h6,h7,h8⟩⟩
def CutB (R:Nat->Nat->Nat->Prop) (sets:List Nat) (N i j at' b:Nat):Prop:=∃ k,i < k∧k < at'∧k < j∧Two R (ofB (ChB R sets i k) N) (ofB (ChB R sets k j) N) b
theorem Zl4 {R:Nat->Nat->Nat->Prop} {sets:List Nat} {N i j:Nat}:ofB (CutB R sets N i j (i+1)) N=0:=ZfW fun b _ h=>by
 obtain ⟨k,h1,h2,_⟩:=h
 omega
theorem Zof {R:Nat->Nat->Nat->Prop} {sets:List Nat} {N i j k b:Nat} (h1:i < k) (h2:k < j):CutB R sets N i j (k+1) b ↔ CutB R sets N i j k b∨Two R (ofB (ChB R sets i k) N) (ofB (ChB R sets k j) N) b:=by
 constructor
 ·rintro ⟨q,q1,q2,q3,q4⟩
  by_cases e:q=k
  ·subst e;exact .inr q4
  ·exact .inl ⟨q,q1,by omega,q3,q4⟩
 ·rintro (⟨q,q1,q2,q3,q4⟩ | h)
  ·exact ⟨q,q1,by omega,q3,q4⟩
  ·exact ⟨k,h1,by omega,h2,h⟩
theorem ZrH {R:Nat->Nat->Nat->Prop} {sets:List Nat} {N i j:Nat} (hs:∀ s∈sets,s < 2 ^ N) (hR:∀ a c b,R a c b->b < N) (hij:i+1 < j):ofB (CutB R sets N i j j) N=ofB (ChB R sets i j) N:=ZaR fun b _=>by
 rw [ZrG hij]
 unfold CutB
 constructor
 ·rintro ⟨k,h1,h2,h3,h5⟩
  obtain ⟨a,c,h6,h7,h8⟩:=(ZiI (fun b hb=>ChB.lt hs hR hb) (fun b hb=>ChB.lt hs hR hb)).1 h5
  exact ⟨k,h1,h2,a,c,h6,h7,h8⟩
 ·rintro ⟨k,h1,h2,a,c,h6,h7,h8⟩
  exact ⟨k,h1,h2,h2,(ZiI (fun b hb=>ChB.lt hs hR hb) (fun b hb=>ChB.lt hs hR hb)).2 ⟨a,c,h6,h7,h8⟩⟩
theorem ZrI {R:Nat->Nat->Nat->Prop} {sets:List Nat} {N i s:Nat} (hs:sets[i]?=some s) (h:s < 2 ^ N):ofB (BagB R sets (2 ^ i)) N=s:=by
 rw [show ofB (BagB R sets (2 ^ i)) N=ofB (fun b=>s.testBit b=true) N from ZaR fun b _=>ZjF hs,ZfX h]
theorem ZwO {R:Nat->Nat->Nat->Prop} {sets:List Nat} {N i s:Nat} (hs:sets[i]?=some s) (h:s < 2 ^ N):ofB (ChB R sets i (i+1)) N=s:=by
 rw [show ofB (ChB R sets i (i+1)) N=ofB (fun b=>s.testBit b=true) N from ZaR fun b _=>ZgJ hs,ZfX h]
def ZbQ:List Bd->Tm->Option Tm
 | [],_=>none
 | b::l,v=>if Zal b.var v=0 then some b.to else ZbQ l v
mutual
noncomputable def apT (g:Sgn) (l:List Bd):Tm->Option Tm
 | .mk op nm so args=>if op=-1 then some ((ZbQ l (.mk op nm so args)).getD (.mk op nm so args)) else (apTs g l args).bind (mkT g op)
noncomputable def apTs (g:Sgn) (l:List Bd):List Tm->Option (List Tm)
 | []=>some []
 | t::ts=>(apT g l t).bind fun u=>(apTs g l ts).map (u::·)
end
theorem ZiJ {g:Sgn} {l:List Bd} {t:Tm} (h:t.op=-1):apT g l t=some ((ZbQ l t).getD t):=by
 obtain ⟨op,nm,so,args⟩:=t
 simp only [Tm.op] at h
 simp only [apT,if_pos h]
theorem Zfx {g:Sgn} {l:List Bd} {t:Tm} (h:t.op≠-1):apT g l t=(apTs g l t.args).bind (mkT g t.op):=by
 obtain ⟨op,nm,so,args⟩:=t
 simp only [Tm.op] at h
 simp only [apT,if_neg h,Tm.op,Tm.args]
theorem Zij {g:Sgn} {l:List Bd} {t:Tm}:∀ (ts:List Tm),apTs g l (ts++[t])=(apTs g l ts).bind fun us=>(apT g l t).map fun u=>us++[u]
 | []=>by
  simp only [List.nil_append,apTs,Option.bind_some]
  cases apT g l t <;> rfl
 | x::ts=>by
  simp only [List.cons_append,apTs,Zij ts]
  cases apT g l x with
  | none=>rfl
  | some u =>
   simp only [Option.bind_some]
   cases apTs g l ts with
   | none=>rfl
   | some us =>
    simp only [Option.bind_some,Option.map_some]
    cases apT g l t <;> rfl
theorem ZjG {g:Sgn} {l:List Bd}:∀ {ts us:List Tm},apTs g l ts=some us->us.length=ts.length
 | [],us,h=>by simp only [apTs,Option.some.injEq] at h;subst h;rfl
 | t::ts,us,h=>by
  simp only [apTs] at h
  cases h1:apT g l t with
  | none=>rw [h1] at h;cases h
  | some u =>
   rw [h1] at h
   cases h2:apTs g l ts with
   | none=>rw [h2] at h;cases h
   | some vs =>
    rw [h2] at h
    simp only [Option.bind_some,Option.map_some,Option.some.injEq] at h
    subst h
    simp only [List.length_cons,ZjG h2]
theorem Zik {g:Sgn} {l:List Bd} {t:Tm}:∀ {ts:List Tm},t∈ts->apT g l t=none->apTs g l ts=none
 | x::ts,hm,h=>by
  simp only [apTs]
  rcases List.mem_cons.1 hm with rfl | hm
  ·rw [h];rfl
  ·rw [Zik hm h]
   cases apT g l x <;> rfl
theorem Zhm {g:Sgn} {l:List Bd}:∀ {ts us:List Tm},apTs g l ts=some us->∀ u∈us,∃ t∈ts,apT g l t=some u
 | [],us,h,u,hu=>by simp only [apTs,Option.some.injEq] at h;subst h;cases hu
 | t::ts,us,h,u,hu=>by
  simp only [apTs] at h
  cases h1:apT g l t with
  | none=>rw [h1] at h;cases h
  | some v =>
   rw [h1] at h
   cases h2:apTs g l ts with
   | none=>rw [h2] at h;cases h
   | some vs =>
    rw [h2] at h
    simp only [Option.bind_some,Option.map_some,Option.some.injEq] at h
    subst h
    rcases List.mem_cons.1 hu with rfl | hu
    ·exact ⟨t,List.mem_cons_self,h1⟩
    ·obtain ⟨x,hx,hxe⟩:=Zhm h2 u hu
     exact ⟨x,List.mem_cons_of_mem _ hx,hxe⟩
structure SbsAt (g:Sgn) (l:List Bd) (i:Nat) (y:Bd):Prop where
 var:ZcF g y.var
 ord:∀ (j:Nat) p,i=j+1->l[j]?=some p->Zal p.var y.var < 0
 to':TermOk g y.to
 srt:(sortsTm g y.to).testBit y.var.sort.toNat=true
structure SbsOk (g:Sgn) (l:List Bd):Prop where
 len:l.length<=8
 at':∀ (i:Nat) y,l[i]?=some y->SbsAt g l i y
open Classical in
noncomputable def ZcS (g:Sgn) (l:List Bd):Bool:=decide (SbsOk g l)
theorem ZkJ {g:Sgn} {l:List Bd} (h:SbsOk g l):ZcS g l=true:=by simp [ZcS,h]
theorem ZeS {g:Sgn} {l:List Bd} (h:¬ SbsOk g l):ZcS g l=false:=by simp [ZcS,h]
theorem ZrJ {g:Sgn} {v u:Tm}:∀ {l:List Bd},(∀ y∈l,TermOk g y.to)->ZbQ l v=some u->TermOk g u
 | b::l,h,hu=>by
  simp only [ZbQ] at hu
  split at hu
  ·injection hu with hu;subst hu;exact h b List.mem_cons_self
  ·exact ZrJ (fun y hy=>h y (List.mem_cons_of_mem _ hy)) hu
theorem SbsOk.to' {g:Sgn} {l:List Bd} (h:SbsOk g l):∀ y∈l,TermOk g y.to:=fun y hy=>by
 obtain ⟨i,hi⟩:=List.getElem?_of_mem hy
 exact (h.at' i y hi).to'
theorem SbsOk.var {g:Sgn} {l:List Bd} (h:SbsOk g l):∀ y∈l,ZcF g y.var:=fun y hy=>by
 obtain ⟨i,hi⟩:=List.getElem?_of_mem hy
 exact (h.at' i y hi).var
theorem Zil {g:Sgn} (hg:SgnOk g) {l:List Bd} (hl:∀ y∈l,TermOk g y.to):∀ (n:Nat) (t:Tm),sizeTm t < n->TermOk g t->∀ {u:Tm},apT g l t=some u->TermOk g u
 | 0,t,hn,_,_,_=>by omega
 | n+1,t,hn,ht,u,h=>by
  by_cases ho:t.op=-1
  ·rw [ZiJ ho] at h
   simp only [Option.some.injEq] at h
   subst h
   cases hk:ZbQ l t with
   | none=>exact ht
   | some v=>exact ZrJ hl hk
  ·rw [Zfx ho] at h
   cases h2:apTs g l t.args with
   | none=>rw [h2] at h;cases h
   | some us =>
    rw [h2] at h
    simp only [Option.bind_some] at h
    have h0:0<=t.op:=by
     rcases ht.form.node with hv | ⟨o,d,hA⟩
     ·exact absurd hv.1 ho
     ·exact hA.lo
    refine ZCV hg h0 (fun a ha=>?_) h
    obtain ⟨x,hx,hxe⟩:=Zhm h2 a ha
    have:=Zbi hx
    rw [Za7] at hn
    exact Zil hg hl n x om (ht.arg hx) hxe
def Zbp (w:World):List (List C)->(Nat->Prop)->List (List Value)->Prop
 | [],_,[]=>True
 | r::rs,S,us::uss=>∃ S1 S2:Nat->Prop,(∀ x,S1 x->S x)∧(∀ x,S2 x->S x)∧(∀ x,S1 x->S2 x->False)∧Zah w r S1 us∧Zbp w rs S2 uss
 | _,_,_=>False
def Za4 (us:List Value):List C:=us.map .lit
section
variable {w w':World}
theorem Zbp.keep (hz:w.heap.size<=w'.heap.size):∀ (rows:List (List C)) (S S':Nat->Prop) (uss:List (List Value)),(∀ b,S b->w'.heap[b]?=w.heap[b]?)->(∀ b,S b->S' b)->Zbp w rows S uss->Zbp w' rows S' uss
 | [],_,_,[],_,_,_=>trivial
 | r::rs,S,S',us::uss,hk,hS,h=>by
  obtain ⟨S1,S2,h1,h2,hd,hr,hrs⟩:=h
  exact ⟨S1,S2,fun x hx=>hS x (h1 x hx),fun x hx=>hS x (h2 x hx),hd,Zah.keep hz r S1 S1 us (fun x hx=>hk x (h1 x hx)) (fun _ h=>h) hr,Zbp.keep hz rs S2 S2 uss (fun x hx=>hk x (h2 x hx)) (fun _ h=>h) hrs⟩
 | [],_,_,_::_,_,_,h=>h.elim
 | _::_,_,_,[],_,_,h=>h.elim
theorem Zbp.len:∀ {rows:List (List C)} {S:Nat->Prop} {uss:List (List Value)},Zbp w rows S uss->uss.length=rows.length
 | [],_,[],_=>rfl
 | r::rs,S,us::uss,⟨S1,S2,_,_,_,_,h⟩=>by simp [Zbp.len h]
theorem Zbp.snoc:∀ {rows:List (List C)} {r:List C} {S S1 S2:Nat->Prop} {uss:List (List Value)} {us:List Value},Zbp w rows S1 uss->Zah w r S2 us->(∀ x,S1 x->S x)->(∀ x,S2 x->S x)->(∀ x,S1 x->S2 x->False)->Zbp w (rows++[r]) S (uss++[us])
 | [],r,S,S1,S2,[],us,_,h2,i1,i2,hd=>⟨S2,fun _=>False,i2,fun _ h=>h.elim,fun _ _ h=>h,h2,trivial⟩
 | q::qs,r,S,S1,S2,vs::vss,us,⟨T1,T2,a1,a2,a3,a4,a5⟩,h2,i1,i2,hd =>
  ⟨T1,fun x=>T2 x∨S2 x,fun x hx=>i1 x (a1 x hx),fun x hx=>hx.elim (fun h=>i1 x (a2 x h)) (i2 x),fun x hx hy=>hy.elim (a3 x hx) (hd x (a1 x hx)),a4,
   Zbp.snoc a5 h2 (fun _ h=>.inl h) (fun _ h=>.inr h) (fun x hx hy=>hd x (a2 x hx) hy)⟩
 | [],_,_,_,_,_::_,_,h,_,_,_,_=>h.elim
 | _::_,_,_,_,_,[],_,h,_,_,_,_=>h.elim
theorem Zbp.get:∀ {rows:List (List C)} {S:Nat->Prop} {uss:List (List Value)} {i:Nat} {r:List C} {us:List Value},Zbp w rows S uss->rows[i]?=some r->uss[i]?=some us->Zah w r S us
 | r::rs,S,us::uss,0,r',us',⟨S1,S2,h1,_,_,h,_⟩,hr,hu=>by
  simp at hr hu;subst hr hu
  exact Zah.keep (Nat.le_refl _) r S1 S us (fun _ _=>rfl) h1 h
 | r::rs,S,us::uss,i+1,r',us',⟨S1,S2,_,h2,_,_,h⟩,hr,hu =>
  Zah.keep (Nat.le_refl _) r' S2 S us' (fun _ _=>rfl) h2 (Zbp.get h (by simpa using hr) (by simpa using hu))
 | [],_,_,_,_,_,_,hr,_=>by simp at hr
 | _::_,_,[],_,_,_,h,_,_=>h.elim
theorem Zbp.stable (rows:List (List C)) (E:Nat->Prop) (uss:List (List Value)):ZcA E (fun w=>Zbp w rows E uss):=fun w w' hz hk h=>Zbp.keep hz rows E E uss hk (fun _ h=>h) h
theorem Zah.stable (r:List C) (E:Nat->Prop) (us:List Value):ZcA E (fun w=>Zah w r E us):=fun w w' hz hk h=>Zah.keep hz r E E us hk (fun _ h=>h) h
theorem Own.stable (c:C) (E:Nat->Prop) (v:Value):ZcA E (fun w=>Own w c E v):=fun w w' hz hk h=>Own.keep hz c E E v hk (fun _ h=>h) h
theorem Zjm {S:Nat->Prop}:∀ {us vs:List Value},Zaa w S (Za4 us) vs->vs=us
 | [],[],_=>rfl
 | u::us,v::vs,h=>by
  simp only [Za4,List.map_cons,Zaa,Rep] at h
  rw [h.1,Zjm h.2]
 | [],_::_,h=>by simp [Za4,Zaa] at h
 | _::_,[],h=>by simp [Za4,Zaa] at h
theorem ZaU.close {b:Nat} {T:Nat->Prop}:∀ {rows:List (List C)} {uss:List (List Value)} {S:Nat->Prop} {off:Nat},Zao w T b off (uss.map Za4)->Zbp w rows S uss->ZaU w b rows S off
 | [],[],_,_,_,_=>by simp [ZaU]
 | r::rs,us::uss,S,off,hr,⟨S1,S2,h1,h2,hd,hv,hvs⟩=>by
  simp only [List.map_cons,Zao] at hr
  simp only [ZaU]
  obtain ⟨vs,q1,q2⟩:=hr.1.vals
  have e:=Zjm q1
  subst e
  have hl:(Za4 vs).length=r.length:=by simp [Za4,Zah.len hv]
  refine ⟨S1,S2,h1,h2,hd,Zbs.of_vals r S1 vs off hv q2,?_⟩
  rw [<- hl]
  exact ZaU.close hr.2 hvs
 | [],_::_,_,_,_,h=>h.elim
 | _::_,[],_,_,_,h=>h.elim
theorem Own.close {T:Nat->Prop} {ety sz:Nat} {rows:List (List C)} {uss:List (List Value)} {E:Nat->Prop} {a:Option Addr} {cap:Nat} (hb:ZaJ w T ety sz (uss.map Za4) (.slice a uss.length cap)) (hv:Zbp w rows E uss) (hd:∀ b,vblk (.slice a uss.length cap)=some b->¬ E b) :
  Own w (.sl rows) (fun b=>vblk (.slice a uss.length cap)=some b∨E b) (.slice a uss.length cap):=by
 have hlen:=hv.len
 obtain ⟨h1,h2,h3⟩:=hb
 simp only [Own]
 rcases h3 with ⟨h4,a',h5⟩ | ⟨g,cap',cur,h5,hc,hg,hs,hh,hl,hm,hcs,hr⟩
 ·injection h5 with e1 e2 e3
  subst e1 e3
  have hu0:uss=[]:=by simpa using h4
  exact ⟨a,uss.length,0,rfl,hlen.symm,by rw [hu0];exact Nat.le_refl _,by decide,fun h=>absurd h (by decide)⟩
 ·injection h5 with e1 e2 e3
  subst e1 e3
  have hvb:vblk (.slice (some ⟨g,0,none⟩) uss.length cap)=some g:=by simp only [vblk];rw [if_neg om]
  simp only [List.length_map] at hl
  refine ⟨_,uss.length,cap,rfl,hlen.symm,hl,hm,fun h0=>⟨g,0,E,rfl,.inl hvb,hg,⟨fun o=>frozen_of_row w g o cur ety hh,rfl,cur,ety,sz,hh,hcs,h1,fun r hr0=>?_⟩,fun x hx=>⟨.inr hx,fun e=>hd g hvb (e ▸ hx)⟩,ZaU.close hr hv⟩⟩
  obtain ⟨i,hi⟩:=List.getElem?_of_mem hr0
  have hil:=(List.getElem?_eq_some_iff.1 hi).1
  obtain ⟨us,hu⟩:∃ us,uss[i]?=some us:=⟨_,List.getElem?_eq_getElem om⟩
  have hq:=(h2 (Za4 us) (List.mem_map.2 ⟨us,List.mem_of_getElem? hu,rfl⟩)).1
  have hq2:=Zah.len (hv.get hi hu)
  simp only [Za4,List.length_map] at hq
  omega
theorem Zbs.open {b:Nat}:∀ {cs:List C} {S:Nat->Prop} {off:Nat},Zbs w b cs S off->∃ us,Zah w cs S us∧∀ j u,us[j]?=some u->w.cell? ⟨b,off+j,none⟩=some u
 | [],S,off,_=>⟨[],Zah.nil,fun j u h=>by simp at h⟩
 | c::cs,S,off,h=>by
  simp only [Zbs] at h
  obtain ⟨S1,S2,u,h1,h2,hd,hu,hc,hcs⟩:=h
  obtain ⟨us,k1,k2⟩:=Zbs.open hcs
  refine ⟨u::us,Zah.cons S1 S2 hc k1 h1 h2 hd,fun j v hj=>?_⟩
  cases j with
  | zero=>simp at hj;subst hj;exact hu
  | succ j=>have:=k2 j v (by simpa using hj);rw [<- this];congr 2;omega
theorem ZaU.open {b:Nat}:∀ {rows:List (List C)} {S:Nat->Prop} {off:Nat},ZaU w b rows S off->∃ uss,Zbp w rows S uss∧∀ T:Nat->Prop,Zao w T b off (uss.map Za4)
 | [],S,off,_=>⟨[],trivial,fun T=>by simp [Zao]⟩
 | r::rs,S,off,h=>by
  simp only [ZaU] at h
  obtain ⟨S1,S2,h1,h2,hd,hr,hrs⟩:=h
  obtain ⟨us,k1,k2⟩:=Zbs.open hr
  obtain ⟨uss,k3,k4⟩:=ZaU.open hrs
  refine ⟨us::uss,⟨S1,S2,h1,h2,hd,k1,k3⟩,fun T=>?_⟩
  simp only [List.map_cons,Zao]
  refine ⟨Zaf.of_vals _ us off (ZfE us) k2,?_⟩
  rw [show (Za4 us).length=r.length by simp [Za4,k1.len]]
  exact k4 T
theorem Zah.cells:∀ {cs:List C} {S:Nat->Prop} {us:List Value},Zah w cs S us->cs.all ZaC=true->(Za4 us).all ZaC=true
 | [],_,[],_,_=>rfl
 | c::cs,S,u::us,h,hc=>by
  simp only [Zah] at h
  obtain ⟨S1,S2,_,_,_,h1,h2⟩:=h
  simp only [List.all_cons,Bool.and_eq_true] at hc
  simp only [Za4,List.map_cons,List.all_cons,Bool.and_eq_true]
  exact ⟨ZgQ (c:=c) hc.1 (Own.rep c S1 u h1),Zah.cells h2 hc.2⟩
 | [],_,_::_,h,_=>by simp [Zah] at h
 | _::_,_,[],h,_=>by simp [Zah] at h
theorem Own.open {T:Nat->Prop} {rows:List (List C)} {E:Nat->Prop} {a:Option Addr} {n cap sz:Nat} (hT:∀ b,E b->¬ T b) (hne:rows≠[]) (hrl:ZaH sz rows) (h:Own w (.sl rows) E (.slice a n cap)) :
  ∃ uss ety E',n=uss.length∧ZaJ w T ety sz (uss.map Za4) (.slice a uss.length cap)∧Zbp w rows E' uss∧(∀ b,E' b->E b∧vblk (.slice a uss.length cap)≠some b)∧∀ b,vblk (.slice a uss.length cap)=some b->E b:=by
 simp only [Own] at h
 obtain ⟨A,n',cap',hv,hn,hle,hmx,hb⟩:=h
 injection hv with e1 e2 e3
 subst e1 e2 e3
 have h0:0 < rows.length:=List.length_pos_iff.2 hne
 obtain ⟨b,off,S',rfl,hEb,hbl,⟨hfr,rfl,cur,ety,sz',hh,hcs,hz,hrs⟩,hS',hrows⟩:=hb om
 obtain ⟨uss,k1,k2⟩:=ZaU.open hrows
 have hl:=k1.len
 have hsz:sz'=sz:=by
  obtain ⟨r,hr⟩:=List.exists_mem_of_ne_nil _ hne
  rw [<- hrs r hr,(hrl r hr).1]
 subst hsz
 have hvb:vblk (.slice (some ⟨b,0,none⟩) uss.length cap)=some b:=by simp only [vblk];rw [if_neg om]
 have hrow:ZaH sz' (uss.map Za4):=fun x hx=>by
  obtain ⟨us,hus,rfl⟩:=List.mem_map.1 hx
  obtain ⟨i,hi⟩:=List.getElem?_of_mem hus
  have hil:=(List.getElem?_eq_some_iff.1 hi).1
  obtain ⟨r,hr⟩:∃ r,rows[i]?=some r:=⟨_,List.getElem?_eq_getElem om⟩
  have hov:=k1.get hr hi
  have hrm:=hrl r (List.mem_of_getElem? hr)
  exact ⟨by simp only [Za4,List.length_map];rw [hov.len];exact hrm.1,hov.cells hrm.2⟩
 refine ⟨uss,ety,S',by omega,⟨hz,hrow,.inr ⟨b,cap,cur,by simp,by omega,hbl,hT b hEb,hh,by simp only [List.length_map];omega,hmx,hcs,k2 T⟩⟩,k1,fun x hx=>⟨(hS' x hx).1,fun e=>?_⟩,fun x hx=>?_⟩
 ·rw [hvb] at e;injection e with e;exact (hS' x hx).2 e.symm
 ·rw [hvb] at hx;injection hx with hx;rw [<- hx];exact hEb
end
theorem ZiK (x:Bk):Zdm [x]:=⟨by simp,trivial⟩
theorem ZCe:ZfJ [] [.set (fun _=>False) (fun w=>Zbp w [] (fun _=>False) [])]:=fun w S _ _ =>
 ⟨fun x hx=>by simp at hx;subst hx;exact ⟨fun b h=>h.elim,trivial,Zbp.stable _ _ _⟩,ZiK _,fun g ⟨x,hx,hg⟩=>by simp at hx;subst hx;exact hg.elim⟩
theorem ZCZ {E E2:Nat->Prop} {G G2 G':World->Prop} (hG:∀ w,G w->G2 w->(∀ b,E b->E2 b->False)->G' w) (hst:ZcA (fun b=>E b∨E2 b) G'):ZfJ [.set E G,.set E2 G2] [.set (fun b=>E b∨E2 b) G']:=fun w S h ha=>by
 have h1:=h (.set E G) (by simp)
 have h2:=h (.set E2 G2) (by simp)
 refine ⟨fun x hx=>?_,ZiK _,fun g ⟨x,hx,hg⟩=>?_⟩
 ·simp at hx;subst hx
  exact ⟨fun b hb=>hb.elim (h1.1 b) (h2.1 b),hG w h1.2.1 h2.2.1 (fun b q1 q2=>ha.1 (.set E2 G2) (by simp) b q1 q2),hst⟩
 ·simp at hx;subst hx
  rcases hg with hg | hg
  ·exact ⟨.set E G,by simp,hg⟩
  ·exact ⟨.set E2 G2,by simp,hg⟩
theorem Zx3 {a:Option Addr} {cap ety sz:Nat} {uss:List (List Value)} {rows:List (List C)} {E:Nat->Prop} {G':World->Prop} (hG:∀ w,Own w (.sl rows) (fun b=>vblk (.slice a uss.length cap)=some b∨E b) (.slice a uss.length cap)->G' w) (hst:ZcA (fun b=>vblk (.slice a uss.length cap)=some b∨E b) G') :
  ZfJ [.buf (some (a,cap)) ety sz (uss.map Za4),.set E (fun w=>Zbp w rows E uss)] [.set (fun b=>vblk (.slice a uss.length cap)=some b∨E b) G']:=fun w S h ha=>by
 have h1:ZaJ w S ety sz (uss.map Za4) (.slice a (uss.map Za4).length cap):=h (.buf (some (a,cap)) ety sz (uss.map Za4)) (by simp)
 have h2:=h (.set E (fun w=>Zbp w rows E uss)) (by simp)
 have hd:=ha.1 (.set E (fun w=>Zbp w rows E uss)) (by simp)
 rw [List.length_map] at h1
 simp only [pblk,List.length_map] at hd
 refine ⟨fun x hx=>?_,ZiK _,fun g ⟨x,hx,hg⟩=>?_⟩
 ·simp at hx;subst hx
  refine ⟨fun b hb=>?_,hG w (Own.close h1 h2.2.1 hd),hst⟩
  rcases hb with hb | hb
  ·exact Own1.lt (L:=⟨fun _=>0,fun _=>.slice a uss.length cap⟩) (k:=0) (bk:=.buf none ety sz (uss.map Za4)) ⟨by simp,h1⟩ hb
  ·exact h2.1 b hb
 ·simp at hx;subst hx
  rcases hg with hg | hg
  ·exact ⟨.buf (some (a,cap)) ety sz (uss.map Za4),by simp,by simp only [pblk,List.length_map];exact hg⟩
  ·exact ⟨.set E (fun w=>Zbp w rows E uss),by simp,hg⟩
def Zhn (row:List C) (r:List D) (pm:List Bk):Prop:=∃ us E,r=[.agg (Za4 us)]∧us.length=row.length∧(Za4 us).all ZaC=true∧pm=[.set E (fun w=>Zah w row E us)]
def Zim (ety sz:Nat) (rows:List (List C)) (r:List D) (pm:List Bk):Prop:=∃ a cap uss E,r=[.one (.lit (.slice a uss.length cap))]∧uss.length=rows.length∧pm=[.buf (some (a,cap)) ety sz (uss.map Za4),.set E (fun w=>Zbp w rows E uss)]
theorem Zhn.mk {row:List C} {us:List Value} {E:Nat->Prop} (h:us.length=row.length) (hok:(Za4 us).all ZaC=true):Zhn row [.agg (Za4 us)] [.set E (fun w=>Zah w row E us)]:=⟨us,E,rfl,h,hok,rfl⟩
theorem Zim.mk {ety sz:Nat} {rows:List (List C)} {a:Option Addr} {cap:Nat} {uss:List (List Value)} {E:Nat->Prop} (h:uss.length=rows.length):Zim ety sz rows [.one (.lit (.slice a uss.length cap))] [.buf (some (a,cap)) ety sz (uss.map Za4),.set E (fun w=>Zbp w rows E uss)]:=⟨a,cap,uss,E,rfl,h,rfl⟩
theorem Zl5 {n:Nat}:∀ {rows:List (List C)} (l:Nat),ZaH n rows->(rows.take l).flatten=rows.flatten.take (l * n)
 | [],l,_=>by simp
 | r::rs,0,_=>by simp
 | r::rs,l+1,h=>by
  have h1:=(h r List.mem_cons_self).1
  have h2:=Zl5 (n:=n) l (fun x hx=>h x (List.mem_cons_of_mem _ hx):ZaH n rs)
  simp only [List.take_succ_cons,List.flatten_cons,h2]
  rw [show (l+1) * n=r.length+l * n by rw [h1,Nat.succ_mul,Nat.add_comm],List.take_length_add_append]
theorem Zl6 {n:Nat}:∀ {rows:List (List C)} (l:Nat),ZaH n rows->(rows.drop l).flatten=rows.flatten.drop (l * n)
 | [],l,_=>by simp
 | r::rs,0,_=>by simp
 | r::rs,l+1,h=>by
  have h1:=(h r List.mem_cons_self).1
  have h2:=Zl6 (n:=n) l (fun x hx=>h x (List.mem_cons_of_mem _ hx):ZaH n rs)
  simp only [List.drop_succ_cons,List.flatten_cons,h2]
  rw [show (l+1) * n=r.length+l * n by rw [h1,Nat.succ_mul,Nat.add_comm],List.drop_length_add_append]
section
variable {e:Env} {U:Nat->Prop} {w0:World} {S0:Nat->Prop} {nt:Nat} {σ:St} {a:Act} {w:World} {S:Nat->Prop} {L:Lay}
theorem Sim.storeRows (h:Sim e U w0 S0 nt σ a w S L) (he:e.Ok) {o:Option (Option Addr × Nat)} {k l g ety sz:Nat} {rows news:List (List C)} {vs:List Value} (hm:gm σ.m k=some (.buf o ety sz rows)) (hg:vblk (L.v k)=some g) (hl:l+news.length<=rows.length) (hn:ZaH sz news) (hu:Zaa w S news.flatten vs) :
  ∃ w',(storeCells ⟨g,l * sz,none⟩ vs).run e.P w=.ok () w'∧SimE e U w0 S0 nt ⟨σ.s,(k,.buf o ety sz (rows.take l++news++rows.drop (l+news.length)))::remM k σ.m⟩ a w':=by
 obtain ⟨hb0,hs0,hrl,h3⟩:=h.cls.own k _ hm
 have hvl:=hu.len
 have h1:=Ziz hn
 rw [ZbE hn] at hvl
 rcases h3 with ⟨h3,p,h4⟩ | ⟨g',cap,cur,hv,hcp,hg1,hg2,hheap0,hlen,hcap,hcs,hrows⟩
 ·rw [h4] at hg;cases p <;> simp [vblk] at hg
 ·have hgg:g'=g:=by rw [hv] at hg;simp only [vblk] at hg;rw [if_neg om] at hg;injection hg
  subst hgg
  have hfl:=ZbE hrl
  have hin:l * sz+vs.length<=rows.length * sz:=by
   have:=Nat.mul_le_mul_right sz hl
   rw [Nat.add_mul] at this
   omega
  have hin2:rows.length * sz<=cap * sz:=Nat.mul_le_mul_right sz hlen
  have hst:=run_storeCells_at e.P g' (l * sz) ety vs 0 cur w hheap0 (by rw [hcs];omega) (ZdF h1 hu)
  simp only [Nat.add_zero] at hst
  have hput:=ZdE w g' (l * sz) ety vs cur hheap0 (by rw [hcs];omega)
  refine ⟨_,hst,?_⟩
  have hheap:=setRow_heap w g' cur (cur.toList.take (l * sz)++vs++cur.toList.drop (l * sz+vs.length)).toArray ety _ hheap0
  have hdr:(w.setRow g' (cur.toList.take (l * sz)++vs++cur.toList.drop (l * sz+vs.length)).toArray).drawn=w.drawn:=Zdw _ _ _
  generalize hW:w.setRow g' (cur.toList.take (l * sz)++vs++cur.toList.drop (l * sz+vs.length)).toArray=W at hput hheap hdr ⊢
  have hsz:W.heap.size=w.heap.size:=hput.size
  have hkc:∀ b o,S b->W.cell? ⟨b,o,none⟩=w.cell? ⟨b,o,none⟩:=fun b o hs=>Zbl (hput.other b (fun e=>hg2 (e ▸ hs))) o
  have hbk:Zay L k (.buf o ety sz rows) g':=hg
  have hln:(rows.take l++news++rows.drop (l+news.length)).length=rows.length:=by simp;omega
  have hown:Own1 W S L k (.buf o ety sz (rows.take l++news++rows.drop (l+news.length))):=by
   simp only [Own1]
   refine ⟨fun a ha=>by rw [hb0 a ha,hln],hs0,fun x hx=>?_,.inr ⟨g',cap,_,by rw [hv,hln],hcp,by omega,hg2,hheap,by rw [hln];exact hlen,hcap,by simp;omega,?_⟩⟩
   ·rcases List.mem_append.1 hx with hx | hx
    ·rcases List.mem_append.1 hx with hx | hx
     ·exact hrl x (List.mem_of_mem_take hx)
     ·exact hn x hx
    ·exact hrl x (List.mem_of_mem_drop hx)
   ·apply Zao.of_flat
    rw [List.flatten_append,List.flatten_append,Zl5 l hrl,Zl6 _ hrl]
    have hz:w.heap.size<=W.heap.size:=by omega
    have hf:=hrows.flat
    have r1:=Zaf.keepAt (S':=S) hz hkc (fun _ h=>h) g' 0 (rows.flatten.take (l * sz)) (fun i hi=>hput.old _ (.inl (by simp at hi;omega))) (hf.take (l * sz))
    have r3:Zaf W S g' (l * sz) news.flatten:=Zaf.of_vals _ vs _ (Zaa.keep2 hz hkc (fun _ h=>h) hu) hput.new
    have r5:=Zaf.keepAt (S':=S) hz hkc (fun _ h=>h) g' _ (rows.flatten.drop ((l+news.length) * sz)) (fun i hi=>hput.old _ (.inr (by rw [hvl];rw [Nat.add_mul];omega))) (hf.drop ((l+news.length) * sz))
    have l1:(rows.flatten.take (l * sz)).length=l * sz:=by rw [List.length_take,hfl];omega
    refine Zaf.append _ _ 0 (Zaf.append _ _ 0 r1 ?_) ?_
    ·rw [l1,Nat.zero_add];exact r3
    ·rw [List.length_append,l1,ZbE hn,<- Nat.add_mul]
     exact r5
  obtain ⟨t1,t2,t3⟩:=h.touch he (d:=k) (bk:=.buf o ety sz (rows.take l++news++rows.drop (l+news.length))) (m':=(k,.buf o ety sz (rows.take l++news++rows.drop (l+news.length)))::remM k σ.m) (w':=W) (L':=L) (τ:=some g') (fun _ h=>h) (fun _ h=>.inl h)
   (fun k' x hkd hx=>by simp only [gm,hkd,if_false,ZaX] at hx;exact hx) (by simp [gm]) (fun _ _=>⟨rfl,rfl⟩)
   (fun q hq=>by injection hq with hq;subst hq;exact ⟨hg2,h.cls.notE hm hbk,h.cls.mine k _ _ hm hbk⟩)
   (fun k' x q hkd hx hq hb=>by
    injection hq with hq;subst hq
    simp only [gm,hkd,if_false,ZaX] at hx
    exact hkd (h.cls.inj k' k x _ _ hx hm hb hbk))
   ⟨hput.os,hput.tape,hput.output,fun _=>Nat.le_of_eq hdr.symm,by omega,fun b hb hE=>hput.other b (fun eq=>hE (by rw [eq]))⟩ hown (fun q hq=>.inl (by rw [<- hq];exact hg.symm))
  exact ⟨S,L,t1,fun t=>t3 _ _ (fun _=>⟨rfl,rfl⟩) (h.rel t),h.size,h.defers,t2⟩
end
section
variable {e:Env} {σ:St} {o:Oper} {K:St->Prop}
theorem Zx4 {t:TypeId} {x:Operand} {lo hi:Option Operand} (ho:o.op=.slice t x lo hi none) {k cap ety sz:Nat} {a:Option Addr} {rows:List (List C)} {l h:Int} (hx:nrm σ.m (evA σ.s x)=.buf k) (hm:gm σ.m k=some (.buf (some (a,cap)) ety sz rows)) (ht:Za3 e.P t=some sz)
  (hlo:loA (lo.map (evA σ.s))=some l) (hhi:hiA rows.length (hi.map (evA σ.s))=some h) (hb:0<=l∧l<=h∧h<=rows.length) (hK:K ⟨setA σ.s o.dst (.d (.one (.lit (sliced a l.toNat h.toNat cap sz)))),σ.m⟩):Zbm e o σ K:=by
 intro he U w0 S0 nt ac w Q hd ⟨S,L,h1⟩
 refine Oper.wp_mono (fun a' w' hs=>⟨_,hK,hs⟩) (ZdG h1 hd (ZaA fun w S L ρv hC hr=>?_))
 have hx':=Zb1 hC (hr x (by simp [ho,Op.operands]))
 rw [hx] at hx'
 have hx':ρv x=L.v k:=hx'
 obtain ⟨hpl,_,_,hbuf⟩:=hC.own k _ hm
 have hv:L.v k=.slice a rows.length cap:=hpl (a,cap) rfl
 have hcap:rows.length<=cap:=by
  rcases hbuf with ⟨h4,_⟩ | ⟨g,cap',cur,h4,_,_,_,_,h5,_⟩
  ·rw [h4];exact Nat.zero_le _
  ·rw [hv] at h4;injection h4 with _ _ h4;rw [h4];exact h5
 have hel:∃ ety i,e.P.underlying t=some (.slice ety)∧e.P.info? ety=some i∧i.size=sz:=by
  unfold Za3 at ht
  split at ht
  ·rename_i ety hu
   simp only [Option.map_eq_some_iff] at ht
   obtain ⟨i,hi,hs⟩:=ht
   exact ⟨ety,i,hu,hi,hs⟩
  ·cases ht
 obtain ⟨el,i,hu,hi',hsz⟩:=hel
 have hlo:=ZgS (w:=w) (S:=S) (L:=L) (ρv:=ρv) hlo (fun y hy=>hr y (by simp [ho,Op.operands,hy]))
 have hhi:=ZgT (w:=w) (S:=S) (L:=L) (ρv:=ρv) hhi (fun y hy=>hr y (by simp [ho,Op.operands,hy]))
 refine ⟨sliced a l.toNat h.toNat cap sz,?_,by simp [ARel,DRel,Rep]⟩
 have hbnd:(Instr.sliceBounds true rows.length cap (lo.map ρv) (hi.map ρv) none).run e.P w=.ok (l.toNat,h.toNat,cap) w:=by
  have eh:(h.toNat:Int)=h:=Int.toNat_of_nonneg om
  have b1:0<=h:=by omega
  have b2:h<=(cap:Int):=by omega
  have b3:0<=l:=hb.1
  have b4:l<=h:=hb.2.1
  rcases hlo with ⟨rfl,rfl⟩ | e1 <;> rcases hhi with ⟨rfl,e2⟩ | e2
  ·simp [Instr.sliceBounds,e2,Result.andThen]
  ·simp [Instr.sliceBounds,e2,Result.andThen,run_sliceBound,b1,b2]
  ·have b5:l<=(rows.length:Int):=by omega
   simp [Instr.sliceBounds,e1,e2,Result.andThen,run_sliceBound,b3,b5]
  ·simp [Instr.sliceBounds,e1,e2,Result.andThen,run_sliceBound,b1,b2,b3,b4,eh]
 simp only [execOp,ho,Sem.run_bind,hx',hv,Instr.sliceAt,Instr.slice,underlying,run_program,Result.andThen_ok,hu,Sem.run_pure,Option.map_none,hbnd,sizeOf,typeInfo,hi',hsz,sliced]
theorem ZhB {U:Nat->Prop} {base:Nat} {S0:Nat->Prop} {t:TypeId} {x i:Operand} (ho:o.op=.indexAddr t x i) {k cap ety sz l h:Nat} {a:Option Addr} {rows:List (List C)} {j:Int} (hx:evA σ.s x=.d (.one (.lit (sliced a l h cap sz)))) (hi:evA σ.s i=.d (.one (.lit (.int .i64 j)))) (hm:gm σ.m k=some (.buf (some (a,cap)) ety sz rows)) (ht:Za3 e.P t=some sz)
  (hb:0<=j∧l+j < h∧h<=rows.length):Za9 e U base S0 σ.m o (evA σ.s) (.row k (l+j.toNat) sz 0):=by
 refine ZaA fun w S L ρv hC hr=>?_
 have hx':=hr x (by simp [ho,Op.operands])
 have hi':=hr i (by simp [ho,Op.operands])
 rw [hx] at hx'
 rw [hi] at hi'
 have hx':=Za5 hx'
 have hi':=Za5 hi'
 obtain ⟨hpl,_,_,hbuf⟩:=hC.own k _ hm
 have hv:L.v k=.slice a rows.length cap:=hpl (a,cap) rfl
 rcases hbuf with ⟨h4,_⟩ | ⟨g,cap',cur,h4,h6,_,_,_,h5,_⟩
 ·rw [h4] at hb;simp at hb;omega
 ·rw [hv] at h4
  injection h4 with h7 _ h8
  subst h7 h8
  have hlc:¬ cap=l:=by omega
  have hval:sliced (some ⟨g,0,none⟩) l h cap sz=.slice (some ⟨g,l * sz,none⟩) (h - l) (cap - l):=by
   simp only [sliced,hlc,if_false,Option.map_some,Addr.add_at,Nat.zero_add]
  refine ⟨.pointer (some ⟨g,(l+j.toNat) * sz+0,none⟩),?_,g,?_,rfl⟩
  ·unfold Za3 at ht
   split at ht
   ·rename_i el hu
    simp only [Option.map_eq_some_iff] at ht
    obtain ⟨ii,hii,hn⟩:=ht
    have hlt:j < ((h - l:Nat):Int):=by omega
    have hj:=hb.1
    have e2:l * sz+j.toNat * sz=(l+j.toNat) * sz+0:=by rw [Nat.add_mul];rfl
    simp [execOp,ho,hi',hx',hval,Instr.indexAt,asIntOf,underlying,hu,sizeOf,typeInfo,hii,hn,Addr.add_at,hj,hlt,Result.andThen,e2]
   ·cases ht
  ·rw [hv];simp only [vblk];rw [if_neg om]
theorem Zog {t:TypeId} {x i:Operand} (ho:o.op=.indexAddr t x i) {k cap ety sz l h:Nat} {a:Option Addr} {rows:List (List C)} {j:Int} (hx:evA σ.s x=.d (.one (.lit (sliced a l h cap sz)))) (hi:evA σ.s i=.d (.one (.lit (.int .i64 j)))) (hm:gm σ.m k=some (.buf (some (a,cap)) ety sz rows)) (ht:Za3 e.P t=some sz)
  (hb:0<=j∧l+j < h∧h<=rows.length) (hK:K ⟨setA σ.s o.dst (.row k (l+j.toNat) sz 0),σ.m⟩):Zbm e o σ K:=by
 intro he U w0 S0 nt ac w Q hd ⟨S,L,h1⟩
 exact Oper.wp_mono (fun a' w' hs=>⟨_,hK,hs⟩) (ZdG h1 hd (ZhB ho hx hi hm ht hb))
theorem ZmC {t:TypeId} {x i:Operand} (ho:o.op=.indexAddr t x i) {k cap ety sz l h:Nat} {a:Option Addr} {rows:List (List C)} {j:Int} (hx:evA σ.s x=.d (.one (.lit (sliced a l h cap sz)))) (hi:evA σ.s i=.d (.one (.lit (.int .i64 j)))) (hm:gm σ.m k=some (.buf (some (a,cap)) ety sz rows)) (ht:Za3 e.P t=some sz)
  (hb:0<=j∧l+j < h∧h<=rows.length) (hK:K ⟨setA σ.s o.dst (.row k (l+j.toNat) sz 0),σ.m⟩):Zeb e o σ K:=fun he=>⟨_,hK,fun U base S0=>ZhB ho hx hi hm ht hb⟩
theorem ZsM {x:Operand} {t:TypeId} (ho:o.op=.call ⟨.builtin .clear,#[x],#[t]⟩) {k cap ety sz by' l:Nat} {a:Option Addr} {rows:List (List C)} {z:List C} (hx:evA σ.s x=.d (.one (.lit (sliced a l rows.length cap sz)))) (hm:gm σ.m k=some (.buf (some (a,cap)) ety sz rows)) (ht:ZaT e.P t=some (ety,sz,by')) (hz:Zaz e.P ety=some z) (hzok:z.all ZaC=true) (hl:l < rows.length)
  (hK:K ⟨setA σ.s o.dst (.tup []),(k,.buf (some (a,cap)) ety sz (rows.take l++List.replicate (rows.length - l) z))::remM k σ.m⟩):Zbm e o σ K:=by
 intro he U w0 S0 nt ac w Q hd ⟨S,L,h1⟩
 have hx':=h1.eval x
 rw [hx] at hx'
 have hx':=Za5 hx'
 obtain ⟨hpl,hs0,_,hbuf⟩:=h1.cls.own k _ hm
 have hv:L.v k=.slice a rows.length cap:=hpl (a,cap) rfl
 obtain ⟨i,zv,hu,hi,hzz,hsz,hby,hzs,hs0,hb4⟩:=ZcT ht
 have hzc:z=zv.cells.toList.map toC:=by
  unfold Zaz at hz
  simp only [hi,Option.bind_some,hzz,Option.map_some,Option.some.injEq] at hz
  exact hz.symm
 rcases hbuf with ⟨h4,_⟩ | ⟨g,cap',cur,h4,h6,_,_,_,h5,_⟩
 ·rw [h4] at hl;simp at hl
 ·rw [hv] at h4
  injection h4 with h7 _ h8
  subst h7 h8
  have hlc:¬ cap=l:=by omega
  have hval:sliced (some ⟨g,0,none⟩) l rows.length cap sz=.slice (some ⟨g,l * sz,none⟩) (rows.length - l) (cap - l):=by
   simp only [sliced,hlc,if_false,Option.map_some,Addr.add_at,Nat.zero_add]
  have hn:ZaH sz (List.replicate (rows.length - l) z):=fun r hr=>by
   rw [List.eq_of_mem_replicate hr]
   exact ⟨by rw [hzc];simp [hzs],hzok⟩
  have hu':Zaa w S (List.replicate (rows.length - l) z).flatten ((List.replicate (rows.length - l) zv).flatMap fun v=>v.cells.toList):=by rw [hzc];exact ZhL _
  obtain ⟨w',hst,hsim⟩:=h1.storeRows he (l:=l) (g:=g) hm (by rw [hv];simp only [vblk];rw [if_neg om]) (by simp;omega) hn hu'
  rw [List.length_replicate,show l+(rows.length - l)=rows.length by omega,List.drop_length,List.append_nil] at hsim
  obtain ⟨S',L',hsim⟩:=hsim
  have hzc2:(Builtin.zeroCells zv.cells (rows.length - l)).toList=(List.replicate (rows.length - l) zv).flatMap fun v=>v.cells.toList:=by
   have:=ZjX zv sz hs0 hzs (rows.length - l)
   rw [<- this]
   simp [Builtin.zeroCells,madeCells,hzs]
  have hrun:(execOp ac.eval o).run e.P w=.ok (.value (.tuple #[])) w':=by
   have hne:¬ (rows.length - l=0):=by omega
   obtain ⟨q,hq⟩:∃ q,rows.length - l=q+1:=⟨rows.length - l - 1,by omega⟩
   rw [hq] at hst hzc2
   simp [execOp,ho,resolve,invoke,builtin,Builtin.clear_,hx',hval,hq,underlying,hu,zeroValue,hi,hzz,typeInfo,Result.andThen,hzc2,hst]
  unfold Oper.wp
  rw [hrun,Oper.upon_value]
  refine ⟨_,hK,S',L',hsim.put (α:=.tup []) (v:=.tuple #[]) ⟨[],rfl,trivial⟩ hd⟩
end
theorem ZC0 {a:Option Addr} {cap ety sz:Nat} {rows:List (List C)} (m:Nat) (hm:m<=rows.length):ZfJ [.buf (some (a,cap)) ety sz rows] [.buf (some (a,cap)) ety sz (rows.take m)]:=fun w S h ha=>by
 have hl:(rows.take m).length=m:=by rw [List.length_take];omega
 obtain ⟨h0,hrl,hc⟩:ZaJ w S ety sz rows (.slice a rows.length cap):=h (.buf (some (a,cap)) ety sz rows) (by simp)
 have hb:∀ b,vblk (.slice a m cap)=some b ↔ vblk (.slice a rows.length cap)=some b:=fun b=>by cases a <;> simp [vblk]
 refine ⟨fun x hx=>?_,ZiK _,fun g ⟨x,hx,hg⟩=>?_⟩
 ·simp only [List.mem_cons,List.not_mem_nil,or_false] at hx
  subst hx
  show ZaJ w S ety sz (rows.take m) (.slice a (rows.take m).length cap)
  rw [hl]
  refine ⟨h0,fun r hr=>hrl r (List.mem_of_mem_take hr),?_⟩
  rcases hc with ⟨h4,p,h5⟩ | ⟨g,cap',cur,h4,h5,h6,h7,h8,h9,h10,h11,h12⟩
  ·subst h4
   simp only [List.length_nil,Nat.le_zero_eq] at hm
   subst hm
   exact .inl ⟨by simp,p,by simpa using h5⟩
  ·injection h4 with e1 e2 e3
   subst e1 e3
   refine .inr ⟨g,cap,cur,by rw [hl],h5,h6,h7,h8,by rw [hl];omega,h10,h11,?_⟩
   have:=Zao.sub hrl h12 0 m
   simpa using this
 ·simp only [List.mem_cons,List.not_mem_nil,or_false] at hx
  subst hx
  refine ⟨.buf (some (a,cap)) ety sz rows,by simp,?_⟩
  simp only [pblk,hl] at hg ⊢
  exact (hb g).1 hg
theorem gSub {e:Env} {K:St->Prop} {ds:List (Option Nat)} {os:List Oper} {d t ty cap ety sz:Nat} {p:String} {ed:Array Edge} {x:Operand} {lo hi:Option Operand} {s:List (Nat × A)} {m:List (Nat × Bk)} {a:Option Addr} {rows:List (List C)} (k l h:Nat) (hb:l<=h∧h<=rows.length) (hK:Runs e ds 0 os ⟨(d,.d (.one (.lit (sliced a l h cap sz))))::s,m⟩ K)
  (hx:nrm m (evA s x)=.buf k:=by exact sfx) (hm:gm m k=some (.buf (some (a,cap)) ety sz rows):=by exact snv) (ht:Za3 e.P t=some sz:=by exact snx)
  (hlo:loA (lo.map (evA s))=some (l:Int):=by exact sfx) (hhi:hiA rows.length (hi.map (evA s))=some (h:Int):=by exact sfx):Runs e ds 0 (⟨some d,.slice t x lo hi none,ty,p,ed,none⟩::os) ⟨s,m⟩ K:=by
 simp only [Runs] at hK ⊢
 exact Zb9 rfl (Zx4 (o:=⟨some d,.slice t x lo hi none,ty,p,ed,none⟩) rfl hx hm ht hlo hhi ⟨by omega,by omega,by omega⟩ (by simpa only [Int.toNat_natCast,setA] using hK))
theorem ZDT {e:Env} {K:St->Prop} {ds:List (Option Nat)} {os:List Oper} {d t ty cap ety sz l h:Nat} {p:String} {ed:Array Edge} {x i:Operand} {s:List (Nat × A)} {m:List (Nat × Bk)} {a:Option Addr} {rows:List (List C)} (k j:Nat) (hb:l+j < h∧h<=rows.length) (hK:Runs e ds 0 os ⟨(d,.row k (l+j) sz 0)::s,m⟩ K)
  (hx:evA s x=.d (.one (.lit (sliced a l h cap sz))):=by exact snx) (hi:evA s i=.d (.one (.lit (.int .i64 (j:Int)))):=by exact sfx) (hm:gm m k=some (.buf (some (a,cap)) ety sz rows):=by exact snv) (ht:Za3 e.P t=some sz:=by exact snx):Runs e ds 0 (⟨some d,.indexAddr t x i,ty,p,ed,none⟩::os) ⟨s,m⟩ K:=by
 simp only [Runs] at hK ⊢
 exact Zb9 rfl (Zog (o:=⟨some d,.indexAddr t x i,ty,p,ed,none⟩) rfl hx hi hm ht ⟨by omega,by omega,by omega⟩ (by simpa only [Int.toNat_natCast,setA] using hK))
theorem ZsN {e:Env} {ds:List (Option Nat)} {K:St->Prop} {n:Nat} {os:List Oper} {o:Oper} {σ:St} (hg:o.guard=none) (hal:isAl o=false) (h:Zeb e o σ (fun σ'=>Runs e ds n os σ' K)):Runs e ds (n+1) (o::os) σ K:=by
 simp only [Runs,hg]
 rw [if_neg (by simp [hal])]
 exact h
theorem ZDO {e:Env} {K:St->Prop} {ds:List (Option Nat)} {os:List Oper} {n d t ty cap ety sz l h:Nat} {p:String} {ed:Array Edge} {x i:Operand} {s:List (Nat × A)} {m:List (Nat × Bk)} {a:Option Addr} {rows:List (List C)} (k j:Nat) (hb:l+j < h∧h<=rows.length) (hK:Runs e ds n os ⟨(d,.row k (l+j) sz 0)::s,m⟩ K)
  (hx:evA s x=.d (.one (.lit (sliced a l h cap sz))):=by exact snx) (hi:evA s i=.d (.one (.lit (.int .i64 (j:Int)))):=by exact sfx) (hm:gm m k=some (.buf (some (a,cap)) ety sz rows):=by exact snv) (ht:Za3 e.P t=some sz:=by exact snx):Runs e ds (n+1) (⟨some d,.indexAddr t x i,ty,p,ed,none⟩::os) ⟨s,m⟩ K :=
 ZsN rfl rfl (ZmC (o:=⟨some d,.indexAddr t x i,ty,p,ed,none⟩) rfl hx hi hm ht ⟨by omega,by omega,by omega⟩ (by simpa only [Int.toNat_natCast,setA] using hK))
theorem ZDP {e:Env} {K:St->Prop} {ds:List (Option Nat)} {os:List Oper} {t ty cap ety sz by' l:Nat} {dd:Option Nat} {p:String} {ed:Array Edge} {x:Operand} {s s':List (Nat × A)} {m m':List (Nat × Bk)} {a:Option Addr} {rows:List (List C)} {z:List C} (k:Nat) (hl:l < rows.length) (hK:Runs e ds 0 os ⟨s',(k,.buf (some (a,cap)) ety sz (rows.take l++List.replicate (rows.length - l) z))::m'⟩ K)
  (hx:evA s x=.d (.one (.lit (sliced a l rows.length cap sz))):=by exact snv) (hm:gm m k=some (.buf (some (a,cap)) ety sz rows):=by exact snv) (ht:ZaT e.P t=some (ety,sz,by'):=by exact snx) (hz:Zaz e.P ety=some z:=by exact snx) (hzok:z.all ZaC=true:=by first | rfl | simp only [pz,↓reduceIte,Nat.reduceEqDiff,Nat.reduceAdd,Nat.reduceSub,Nat.reduceMul,Nat.reduceLeDiff,Nat.reduceBEq,Bool.false_eq_true,decide_true,decide_false,Int.reduceLE,Int.reduceToNat,Int.reduceLT,Int.reduceEq,eq_self,Nat.reduceShiftRight,Nat.reduceAnd,Nat.reduceBneDiff])
  (hs:setA s dd (.tup [])=s':=by simp only [setA];exact rfl) (hr:remM k m=m':=by exact snv):Runs e ds 0 (⟨dd,.call ⟨.builtin .clear,#[x],#[t]⟩,ty,p,ed,none⟩::os) ⟨s,m⟩ K:=by
 subst hs hr
 simp only [Runs] at hK ⊢
 exact Zb9 rfl (ZsM (o:=⟨dd,.call ⟨.builtin .clear,#[x],#[t]⟩,ty,p,ed,none⟩) rfl hx hm ht hz hzok hl hK)
theorem Zpb (a:Option Addr) (k cap sz:Nat):sliced a 0 k cap sz=.slice a k cap:=by
 cases a with
 | none=>simp [sliced]
 | some p =>
  have:p.add 0=p:=by cases p;simp [Addr.add]
  simp [sliced,this]
section
variable {e:Env} {ops:Array Oper} {K:St->Prop}
def QN (e:Env) (U:Nat->Prop) (w0:World) (S0:Nat->Prop) (nt:Nat) (K:St->Prop):Exit->Act->World->Prop:=fun ex a w=>ex=.normal∧∃ σ',K σ'∧SimE e U w0 S0 nt σ' a w
def Zcl (e:Env) (ops:Array Oper) (K:St->Prop) (f:Nat) (listed:Array Bool) (σ:St):Prop :=
 e.Ok->∀ (U:Nat->Prop) (w0:World) (S0:Nat->Prop) (nt:Nat) (a:Act) (w:World),(∀ o∈ops.toList,∀ d,o.dst=some d->d < nt)->SimE e U w0 S0 nt σ a w->wpAny e.P .any ops (QN e U w0 S0 nt K) f listed a w
theorem Zpc {ds:List (Option Nat)} {f:Nat} {listed:Array Bool} {σ:St} (hds:ops.toList.map (·.dst)=ds) (h:Zck e ds ops K f listed σ):Zcl e ops K f listed σ:=by
 subst hds
 exact fun he U w0 S0 nt a w hd hs=>Zjx he (fun a w σ' hK hs'=>⟨rfl,σ',hK,hs'⟩) hd f listed σ a w hs h
def Zin (ops:Array Oper) (listed:Array Bool) (i:Nat):Bool:=(List.range ops.size).all fun j=>j==i || (listed.getD j true || match ops[i]?,ops[j]? with
 | some oi,some oj=>oj.after.any (fun e=>Region.binds .any e && e.on==i) || oi.apart ops oj
 | _,_=>true)
def Zho (ops:Array Oper):Bool:=ops.toList.all fun o=>match o.op with
 | .select _ _=>false
 | _=>true
theorem ZeT {f i d:Nat} {listed:Array Bool} {σ:St} {o:Oper} {α:A} (hi:ops[i]?=some o) (hdst:o.dst=some d) (hg:o.guard=none) (hsel:Zho ops=true) (hap:Zin ops listed i=true) (hr:(Region.ready .any ops listed).contains i=true)
  (hp:e.Ok->∀ (U:Nat->Prop) (w0:World) (S0:Nat->Prop) (nt:Nat) (a:Act) (w:World) (S:Nat->Prop) (L:Lay),Sim e U w0 S0 nt σ a w S L->∃ v,(∀ w',(execOp a.eval o).run e.P w'=.ok (.value v) w')∧ARel w S L α v)
  (hK:Zcl e ops K f (listed.setIfInBounds i true) ⟨(d,α)::σ.s,σ.m⟩):Zcl e ops K (f+1) listed σ:=by
 intro he U w0 S0 nt a w hd ⟨S,L,h⟩
 obtain ⟨v,hv,hrel⟩:=hp he U w0 S0 nt a w S L h
 have hmem:o∈ops.toList:=List.mem_of_getElem? (by simpa using hi)
 refine wpAny_first (oi:=o) (v:=v) hi (fun j oj cs b hj hs=>?_) (fun c a w hq=>?_) f listed a w (fun j oj hj hne hl hno=>?_) ?_ ?_ ?_
 ·have:=List.all_eq_true.1 hsel oj (List.mem_of_getElem? (by simpa using hj))
  rw [hs] at this
  cases this
 ·have:=hq.1
  cases this
 ·have hjs:=(Array.getElem?_eq_some_iff.1 hj).1
  have:=List.all_eq_true.1 hap j (List.mem_range.2 hjs)
  simp only [hi,hj,Bool.or_eq_true,beq_iff_eq,List.any_eq_true,Array.any_eq_true',Bool.and_eq_true] at this
  rcases this with h1 | h1 | h1 | h1
  ·exact absurd h1 hne
  ·rw [hl] at h1;cases h1
  ·obtain ⟨ed,h2,h3,h4⟩:=h1
   exact absurd h4 (hno ed h2 h3)
  ·exact h1
 ·simpa using hr
 ·exact .inl ⟨by simp [Region.wanted,hg],hv⟩
 ·have h2:SimE e U w0 S0 nt ⟨(d,α)::σ.s,σ.m⟩ (a.put o.dst v) w:=⟨S,L,by
   have:=h.put (α:=α) hrel (hd o hmem)
   rwa [hdst,setA,<- hdst] at this⟩
  exact hK he U w0 S0 nt (a.put o.dst v) w hd h2
end
section
variable {e:Env} {K:St->Prop} {mask:Nat} {Q:PX->St->Prop} {s:List (Nat × A)} {m:List (Nat × Bk)}
theorem Zio {id:Nat} {ops:Array Oper} {σ:St} (hK:Zcl e ops (Zcr mask Q) ops.size (Array.replicate ops.size false) σ):pwp e mask (.region id ops true) σ Q:=fun he U w0 S0 nt a w hok hs=>by
 obtain ⟨S,L,h1⟩:=hs.drew he
 refine Code.wp_mono (fun ex a' w' hq=>?_) (wp_region_any he.mixed (hK he U w0 S0 nt a { w with drawn:=w.drawn+1 } (ZmR hok) ⟨S,L,h1⟩))
 obtain ⟨rfl,σ',k1,k2⟩:=hq
 exact ⟨_,k1,k2.weak (fun t=>ZgV mask t σ'.s) (fun _ _ h=>h)⟩
theorem gF0 {id:Nat} {l:List Oper} (hK:Zcl e l.toArray (Zcr mask Q) l.length (Array.replicate l.length false) ⟨s,m⟩):pwp e mask (.region id l.toArray true) ⟨s,m⟩ Q:=Zio (ops:=l.toArray) (by simpa using hK)
theorem gFT {ds:List (Option Nat)} {ops:Array Oper} {f:Nat} {listed:Array Bool} {σ:St} (h:Zck e ds ops K f listed σ) (hds:ops.toList.map (·.dst)=ds:=by exact rfl):Zcl e ops K f listed σ:=Zpc hds h
theorem gFm {ops:Array Oper} {f d ty:Nat} {p:String} {ed:Array Edge} {x:Operand} {α:A} {listed:Array Bool} (i:Nat) (hK:Zcl e ops K f (listed.setIfInBounds i true) ⟨(d,α)::s,m⟩)
  (hi:ops[i]?=some ⟨some d,.move x,ty,p,ed,none⟩:=by simp only [List.getElem?_toArray,List.getElem?_cons_succ,List.getElem?_cons_zero];exact rfl) (hx:evA s x=α:=by exact snv) (hsel:Zho ops=true:=by decide +kernel) (hap:Zin ops listed i=true:=by decide +kernel) (hr:(Region.ready .any ops listed).contains i=true:=by decide +kernel):Zcl e ops K (f+1) listed ⟨s,m⟩:=by
 subst hx
 exact ZeT (o:=⟨some d,.move x,ty,p,ed,none⟩) hi rfl rfl hsel hap hr (fun _ U w0 S0 nt a w S L h=>⟨a.eval x,fun w2=>by simp [execOp],h.eval x⟩) hK
theorem gFs {ops:Array Oper} {f d t ty cap ety sz:Nat} {p:String} {ed:Array Edge} {x:Operand} {lo hi:Option Operand} {a:Option Addr} {rows:List (List C)} {listed:Array Bool} (i k l h:Nat) (hb:l<=h∧h<=rows.length) (hK:Zcl e ops K f (listed.setIfInBounds i true) ⟨(d,.d (.one (.lit (sliced a l h cap sz))))::s,m⟩)
  (hi':ops[i]?=some ⟨some d,.slice t x lo hi none,ty,p,ed,none⟩:=by simp only [List.getElem?_toArray,List.getElem?_cons_succ,List.getElem?_cons_zero];exact rfl)
  (hx:nrm m (evA s x)=.buf k:=by exact sfx) (hm:gm m k=some (.buf (some (a,cap)) ety sz rows):=by exact snv) (ht:Za3 e.P t=some sz:=by exact snx)
  (hlo:loA (lo.map (evA s))=some (l:Int):=by exact sfx) (hhi:hiA rows.length (hi.map (evA s))=some (h:Int):=by exact sfx)
  (hsel:Zho ops=true:=by decide +kernel) (hap:Zin ops listed i=true:=by decide +kernel) (hr:(Region.ready .any ops listed).contains i=true:=by decide +kernel):Zcl e ops K (f+1) listed ⟨s,m⟩:=by
 refine ZeT (o:=⟨some d,.slice t x lo hi none,ty,p,ed,none⟩) hi' rfl rfl hsel hap hr (fun _ U w0 S0 nt ac w S L hS=>⟨sliced a l h cap sz,fun w'=>?_,by simp [ARel,DRel,Rep]⟩) hK
 have hx':=Zb1 hS.cls (hS.eval x)
 simp only at hx'
 rw [hx] at hx'
 have hx':ac.eval x=L.v k:=hx'
 obtain ⟨hpl,_,_,hbuf⟩:=hS.cls.own k _ hm
 have hv:L.v k=.slice a rows.length cap:=hpl (a,cap) rfl
 have hcap:rows.length<=cap:=by
  rcases hbuf with ⟨h4,_⟩ | ⟨g,cap',cur,h4,_,_,_,_,h5,_⟩
  ·rw [h4];exact Nat.zero_le _
  ·rw [hv] at h4;injection h4 with _ _ h4;rw [h4];exact h5
 have hel:∃ ety i,e.P.underlying t=some (.slice ety)∧e.P.info? ety=some i∧i.size=sz:=by
  unfold Za3 at ht
  split at ht
  ·rename_i ety hu
   simp only [Option.map_eq_some_iff] at ht
   obtain ⟨i,hi,hs⟩:=ht
   exact ⟨ety,i,hu,hi,hs⟩
  ·cases ht
 obtain ⟨el,inf,hu,hinf,hsz⟩:=hel
 have hlo:=ZgS (w:=w) (S:=S) (L:=L) (ρv:=ac.eval) hlo (fun y hy=>hS.eval y)
 have hhi:=ZgT (w:=w) (S:=S) (L:=L) (ρv:=ac.eval) hhi (fun y hy=>hS.eval y)
 have hbnd:(Instr.sliceBounds true rows.length cap (lo.map ac.eval) (hi.map ac.eval) none).run e.P w'=.ok (l,h,cap) w':=by
  have b2:(h:Int)<=(cap:Int):=by omega
  have b5:(l:Int)<=(rows.length:Int):=by omega
  rcases hlo with ⟨rfl,e1⟩ | e1 <;> rcases hhi with ⟨rfl,e2⟩ | e2
  ·have e1:l=0:=by omega
   have e2:h=rows.length:=by omega
   subst e1 e2
   simp [Instr.sliceBounds,Result.andThen]
  ·have e1:l=0:=by omega
   subst e1
   simp [Instr.sliceBounds,e2,Result.andThen,run_sliceBound,b2]
  ·have e2:h=rows.length:=by omega
   subst e2
   simp [Instr.sliceBounds,e1,Result.andThen,run_sliceBound,b5]
  ·have b4:(l:Int)<=(h:Int):=by omega
   simp [Instr.sliceBounds,e1,e2,Result.andThen,run_sliceBound,b2,b4,hb.1]
 simp only [execOp,Sem.run_bind,hx',hv,Instr.sliceAt,Instr.slice,underlying,run_program,Result.andThen_ok,hu,Sem.run_pure,Option.map_none,hbnd,sizeOf,typeInfo,hinf,hsz,sliced]
end
section
variable {e:Env} {K:St->Prop} {s:List (Nat × A)} {m:List (Nat × Bk)}
theorem gFb {ops:Array Oper} {f d ty t t':Nat} {p:String} {ed:Array Edge} {op:BinOp} {x y:Operand} {a b v:Value} {listed:Array Bool} (i:Nat) (hK:Zcl e ops K f (listed.setIfInBounds i true) ⟨(d,.d (.one (.lit v)))::s,m⟩)
  (hi:ops[i]?=some ⟨some d,.binOp op t x y t',ty,p,ed,none⟩:=by simp only [List.getElem?_toArray,List.getElem?_cons_succ,List.getElem?_cons_zero];exact rfl) (hx:evA s x=.d (.one (.lit a)):=by exact snv) (hy:evA s y=.d (.one (.lit b)):=by exact snv) (hv:binT e.P op t a b=some v:=by exact sfv) (hsel:Zho ops=true:=by decide +kernel) (hap:Zin ops listed i=true:=by decide +kernel) (hr:(Region.ready .any ops listed).contains i=true:=by decide +kernel):Zcl e ops K (f+1) listed ⟨s,m⟩:=by
 refine ZeT (o:=⟨some d,.binOp op t x y t',ty,p,ed,none⟩) hi rfl rfl hsel hap hr (fun _ U w0 S0 nt ac w S L h=>⟨v,fun w2=>?_,by simp [ARel,DRel,Rep]⟩) hK
 have h1:=h.eval x
 have h2:=h.eval y
 rw [hx] at h1
 rw [hy] at h2
 have h1:=Za5 h1
 have h2:=Za5 h2
 have:=Zm4 (x:=x) (y:=y) hv w2
 simp only [execOp,h1,h2]
 rw [Sem.run_bind,this]
 rfl
theorem gFi {ops:Array Oper} {f d ty t k ety sz:Nat} {p:String} {ed:Array Edge} {x y:Operand} {o:Option (Option Addr × Nat)} {rows:List (List C)} {kk:IntKind} {listed:Array Bool} (i j:Nat) (hlt:j < rows.length) (hK:Zcl e ops K f (listed.setIfInBounds i true) ⟨(d,.row k j sz 0)::s,m⟩)
  (hi:ops[i]?=some ⟨some d,.indexAddr t x y,ty,p,ed,none⟩:=by simp only [List.getElem?_toArray,List.getElem?_cons_succ,List.getElem?_cons_zero];exact rfl) (hx:nrm m (evA s x)=.buf k:=by exact sfx) (hy:evA s y=.d (.one (.lit (.int kk (j:Int)))):=by exact snv) (hm:gm m k=some (.buf o ety sz rows):=by exact snv) (ht:Za3 e.P t=some sz:=by exact snx) (hsel:Zho ops=true:=by decide +kernel) (hap:Zin ops listed i=true:=by decide +kernel) (hr:(Region.ready .any ops listed).contains i=true:=by decide +kernel):Zcl e ops K (f+1) listed ⟨s,m⟩:=by
 refine ZeT (o:=⟨some d,.indexAddr t x y,ty,p,ed,none⟩) hi rfl rfl hsel hap hr (fun _ U w0 S0 nt ac w S L h=>?_) hK
 have hx':=Zb1 h.cls (h.eval x)
 simp only at hx'
 rw [hx] at hx'
 have hx':ac.eval x=L.v k:=hx'
 have hy':=h.eval y
 rw [hy] at hy'
 have hy':=Za5 hy'
 obtain ⟨_,_,_,h4⟩:=h.cls.own k _ hm
 rcases h4 with ⟨h4,_⟩ | ⟨g,cap,cur,hv,hcp,_⟩
 ·rw [h4] at hlt;simp at hlt
 ·refine ⟨.pointer (some ⟨g,j * sz,none⟩),fun w2=>?_,g,?_,rfl⟩
  ·have:=ZhG (P:=e.P) (j:=(j:Int)) ht (Int.natCast_nonneg _) (by rw [Int.toNat_natCast];exact hlt) (g:=g) (cap:=cap) (k:=kk) (w:=w2)
   rw [Int.toNat_natCast] at this
   simp [execOp,hy',hx',hv,this]
  ·rw [hv];simp only [vblk];rw [if_neg om]
end
def RBuf (a:Option Addr) (cap:Nat) (us:List Tm) (r:List D) (pm:List Bk):Prop:=r=[]∧pm=[.buf (some (a,cap)) 46 4 (Zac us)]
theorem Zap (l:List Tm) (i:Nat) (t:Tm):(Zac l).set i (Zae t)=Zac (l.set i t):=by
 rw [ZbC,ZbC,List.map_set]
theorem gTPe {X:Prop} {P:Program} {ts:List RS} {R:List D->List Bk->Prop} {σ:St} {r:List D} {pm:List Bk} (ks:List Nat) (hR:R r pm) (hx:ZjZ P ts R .normal σ->X:=by first | exact fun h=>h | exact fun h=>⟨_,Wk.refl _,h⟩) (hr:resD P σ ts=some r:=by exact sfy) (hg:getM σ.m ks=some pm:=by exact sny) (hn:ks.Nodup:=by decide) (hp:pm.all pinned=true:=by simp only [pz,↓reduceIte,Nat.reduceEqDiff,Nat.reduceAdd,Nat.reduceSub,Nat.reduceMul,Nat.reduceLeDiff,Nat.reduceBEq,Bool.false_eq_true,decide_true,decide_false,Int.reduceLE,Int.reduceToNat,Int.reduceLT,Int.reduceEq,eq_self,Nat.reduceShiftRight,Nat.reduceAnd,Nat.reduceBneDiff]):X :=
 hx ⟨r,ks,pm,hg,hn,hp,hR,ZfH hr⟩
theorem ZiL:Zc8 (Tryz.prog.underlying 3)=some .i64:=by kernel_rfl
theorem Zhp:Tryz.prog.underlying 168=some (.int .u64):=by kernel_rfl
theorem ZgL (j:Int):Zj8 j (some (.int .u64)) (some .i64)=some (.d (.one (.lit (.int .i64 (IntKind.i64.wrap j))))):=rfl
theorem toNat_one:Int.toNat 1=1:=rfl
theorem ZiM (i j:Nat) (h:i+j < 4611686018427387904):∃ s m:Nat,IntKind.i64.wrap ((i:Int)+(j:Int))=(s:Int)∧IntKind.u64.wrap (s:Int)=(s:Int)∧(s:Int).fdiv (2 ^ (min 1 64))=(m:Int)∧IntKind.i64.wrap (m:Int)=(m:Int)∧m=(i+j) / 2:=by
 refine ⟨i+j,(i+j) / 2,ZaP om om om,?_,?_,IntWalk.i64_in _ ⟨by omega,by omega⟩,rfl⟩
 ·simp only [IntKind.wrap,IntKind.signed,IntKind.bits]
  simp
  omega
 ·simp only [show min 1 64=1 from rfl,Int.pow_succ,Int.pow_zero,Int.one_mul]
  rw [Int.fdiv_eq_ediv_of_nonneg _ (by decide)]
  omega
set_option maxRecDepth 100000 in
theorem Zip (P X Z Y Q:List Tm) (hl:X.length=Y.length) {A B n N:Nat} (hA:A=P.length) (hB:B=P.length+X.length+Z.length) (hn:n=X.length) (hN:N=P.length+X.length+Z.length+Y.length+Q.length) (hmx:N<=4000000) (a:Option Addr) (cap:Nat) :
  ConP e0 272 [.one (.lit (.slice a N cap)),.one (.lit (.int .i64 A)),.one (.lit (.int .i64 B)),.one (.lit (.int .i64 n)),.one (.fn 82 [])] [.buf (some (a,cap)) 46 4 (Zac (P++X++Z++Y++Q))] (RBuf a cap (P++Y++Z++X++Q)):=by
 refine gIP (ts:=[]) [1000] 9231 Tryz.func272 ?_
 (have F:=@tmz;refine gG ?_;clear F)
 (have F:=@tmz;refine gL (ι:=Nat × List Tm) [10,13] [1000] (fun x=>[(10,.d (.one (.lit (.int .i64 (x.1:Int)))))]) (fun x=>[(1000,.buf (some (a,cap)) 46 4 (Zac x.2))]) (fun x=>x.1<=n∧x.2=swR P X Z Y Q x.1) (fun x=>n - x.1) ((0,P++X++Z++Y++Q)) (⟨Nat.zero_le _,(Zx1 P X Z Y Q).symm⟩) (fun x hx=>?_);clear F)
 obtain ⟨i,us⟩:=x
 obtain ⟨hi,hus⟩:=hx
 simp only at hi hus
 dsimp only
 by_cases hlt:i < n
 rotate_left
 ·obtain rfl:i=n:=by omega
  have q1:((i:Int) < (i:Int))=False:=eq_false om
  rw [hn,ZB7 hl] at hus
  subst hus
  (have F:=ai @q1 @tmz;refine gG ?_;clear F)
  first | exact (have F:=@e0P;gTPe (R:=RBuf a cap (P++Y++Z++X++Q)) [1000] ⟨rfl,rfl⟩) | exact (have F:=@e0P;gTP (R:=RBuf a cap (P++Y++Z++X++Q)) [1000] ⟨rfl,rfl⟩)
 have q1:((i:Int) < (n:Int))=True:=eq_true om
 obtain ⟨x,hx⟩:∃ t,X[i]?=some t:=⟨_,List.getElem?_eq_getElem om⟩
 obtain ⟨y,hy⟩:∃ t,Y[i]?=some t:=⟨_,List.getElem?_eq_getElem om⟩
 obtain ⟨g1,g2,g3⟩:=ZB9 (P:=P) (Z:=Z) (Q:=Q) hl hx hy
 have hul:us.length=N:=by rw [hus,ZB8 i hl,hN]
 rw [<- hus] at g1 g2 g3
 rw [<- hB] at g2 g3
 rw [<- hA] at g1 g3
 obtain ⟨p,hp⟩:∃ p,p=A+i:=⟨_,rfl⟩
 obtain ⟨q,hq⟩:∃ q,q=B+i:=⟨_,rfl⟩
 rw [<- hp] at g1 g3
 rw [<- hq] at g2 g3
 have w1:IntKind.i64.wrap ((A:Int)+(i:Int))=(p:Int):=ZaP om om om
 have w2:IntKind.i64.wrap ((B:Int)+(i:Int))=(q:Int):=ZaP om om om
 have w3:=Zav (k:=i) om
 have l1:p < N:=by omega
 have l2:q < N:=by omega
 have hls:∀ k (t:Tm),(us.set k t).length=N:=fun k t=>by rw [List.length_set,hul]
 (have F:=ai @q1 @tmz;have NN:Zai 3:=trivial;refine gGn ?_;clear F NN)
 obtain ⟨z,g4⟩:∃ z,(us.set p y)[q]?=some z:=⟨_,List.getElem?_eq_getElem (by rw [List.length_set];omega)⟩
 refine gF0 ?_
 refine gFm 0 ?_
 refine gFm 1 ?_
 refine gFm 2 ?_
 refine (have F:=(ai q1 (ai w1 (ai w2 (ai l1 (ai l2 (ai hul (ai g1 (ai g2 (ai g4 (ai hls (ai @Zad (ai @Zap tmz))))))))))));gFb 3 ?_)
 refine gFm 4 ?_
 refine gFm 5 ?_
 refine gFm 6 ?_
 refine (have F:=(ai q1 (ai w1 (ai w2 (ai l1 (ai l2 (ai hul (ai g1 (ai g2 (ai g4 (ai hls (ai @Zad (ai @Zap tmz))))))))))));gFb 7 ?_)
 refine gFm 8 ?_
 refine gFm 9 ?_
 refine gFm 10 ?_
 refine (have F:=(ai q1 (ai w1 (ai w2 (ai l1 (ai l2 (ai hul (ai g1 (ai g2 (ai g4 (ai hls (ai @Zad (ai @Zap tmz))))))))))));gFb 11 ?_)
 refine (have F:=(ai q1 (ai w1 (ai w2 (ai l1 (ai l2 (ai hul (ai g1 (ai g2 (ai g4 (ai hls (ai @Zad (ai @Zap tmz))))))))))));gFi (rows:=Zac us) 12 q (by rw [Zad];omega) ?_)
 refine gFm 14 ?_
 refine gFm 15 ?_
 refine gFm 16 ?_
 refine (have F:=(ai q1 (ai w1 (ai w2 (ai l1 (ai l2 (ai hul (ai g1 (ai g2 (ai g4 (ai hls (ai @Zad (ai @Zap tmz))))))))))));gFb 17 ?_)
 refine (have F:=(ai q1 (ai w1 (ai w2 (ai l1 (ai l2 (ai hul (ai g1 (ai g2 (ai g4 (ai hls (ai @Zad (ai @Zap tmz))))))))))));gFi (rows:=Zac us) 18 p (by rw [Zad];omega) ?_)
 refine gFT ?_
 refine gO2 13 19 ?_ ?_
 ·refine (have F:=(ai q1 (ai w1 (ai w2 (ai l1 (ai l2 (ai hul (ai g1 (ai g2 (ai g4 (ai hls (ai @Zad (ai @Zap tmz))))))))))));gO3 ?_)
  refine gO1 19 ?_
  refine (have F:=(ai q1 (ai w1 (ai w2 (ai l1 (ai l2 (ai hul (ai g1 (ai g2 (ai g4 (ai hls (ai @Zad (ai @Zap tmz))))))))))));gO3 ?_)
  refine gO1 20 ?_
  refine (have F:=(ai q1 (ai w1 (ai w2 (ai l1 (ai l2 (ai hul (ai g1 (ai g2 (ai g4 (ai hls (ai @Zad (ai @Zap tmz))))))))))));gO3 ?_)
  refine gO1 21 ?_
  refine (have F:=(ai q1 (ai w1 (ai w2 (ai l1 (ai l2 (ai hul (ai g1 (ai g2 (ai g4 (ai hls (ai @Zad (ai @Zap tmz))))))))))));gO3 ?_)
  refine gO1 22 ?_
  refine (have F:=(ai q1 (ai w1 (ai w2 (ai l1 (ai l2 (ai hul (ai g1 (ai g2 (ai g4 (ai hls (ai @Zad (ai @Zap tmz))))))))))));gO3 ?_)
  refine gO1 23 ?_
  refine (have F:=(ai q1 (ai w1 (ai w2 (ai l1 (ai l2 (ai hul (ai g1 (ai g2 (ai g4 (ai hls (ai @Zad (ai @Zap tmz))))))))))));gO3 ?_)
  refine (have F:=tmz;gT0 ?_)
  refine Exists.intro _ (ai (Wk.refl _) ?_)
  rw [g3]
  (have F:=@w3;refine gG ?_;exact ⟨(i+1,swR P X Z Y Q (i+1)),⟨hlt,rfl⟩,gw,gw,by omega⟩)
 ·refine (have F:=(ai q1 (ai w1 (ai w2 (ai l1 (ai l2 (ai hul (ai g1 (ai g2 (ai g4 (ai hls (ai @Zad (ai @Zap tmz))))))))))));gO3 ?_)
  refine gO1 13 ?_
  refine (have F:=(ai q1 (ai w1 (ai w2 (ai l1 (ai l2 (ai hul (ai g1 (ai g2 (ai g4 (ai hls (ai @Zad (ai @Zap tmz))))))))))));gO3 ?_)
  refine gO1 20 ?_
  refine (have F:=(ai q1 (ai w1 (ai w2 (ai l1 (ai l2 (ai hul (ai g1 (ai g2 (ai g4 (ai hls (ai @Zad (ai @Zap tmz))))))))))));gO3 ?_)
  refine gO1 21 ?_
  refine (have F:=(ai q1 (ai w1 (ai w2 (ai l1 (ai l2 (ai hul (ai g1 (ai g2 (ai g4 (ai hls (ai @Zad (ai @Zap tmz))))))))))));gO3 ?_)
  refine gO1 22 ?_
  refine (have F:=(ai q1 (ai w1 (ai w2 (ai l1 (ai l2 (ai hul (ai g1 (ai g2 (ai g4 (ai hls (ai @Zad (ai @Zap tmz))))))))))));gO3 ?_)
  refine gO1 23 ?_
  refine (have F:=(ai q1 (ai w1 (ai w2 (ai l1 (ai l2 (ai hul (ai g1 (ai g2 (ai g4 (ai hls (ai @Zad (ai @Zap tmz))))))))))));gO3 ?_)
  refine (have F:=tmz;gT0 ?_)
  refine Exists.intro _ (ai (Wk.refl _) ?_)
  rw [g3]
  (have F:=@w3;refine gG ?_;exact ⟨(i+1,swR P X Z Y Q (i+1)),⟨hlt,rfl⟩,gw,gw,by omega⟩)
set_option maxRecDepth 100000 in
theorem Zx5 (P X Y Q:List Tm) (hX:0 < X.length) (hY:0 < Y.length) {A M B N:Nat} (hA:A=P.length) (hM:M=P.length+X.length) (hB:B=P.length+X.length+Y.length) (hN:N=P.length+X.length+Y.length+Q.length) (hmx:N<=4000000) (a:Option Addr) (cap:Nat) :
  ConP e0 265 [.one (.lit (.slice a N cap)),.one (.lit (.int .i64 A)),.one (.lit (.int .i64 M)),.one (.lit (.int .i64 B)),.one (.fn 82 [])] [.buf (some (a,cap)) 46 4 (Zac (P++X++Y++Q))] (RBuf a cap (P++Y++X++Q)):=by
 have w1:IntKind.i64.wrap ((M:Int) - (A:Int))=(X.length:Int):=ZaP om om om
 have w2:IntKind.i64.wrap ((B:Int) - (M:Int))=(Y.length:Int):=ZaP om om om
 refine gIP (ts:=[]) [1000] 9440287 Tryz.func265 ?_
 (have F:=ai @w1 (ai @w2 @tmz);refine gG ?_;clear F)
 (have F:=@tmz;refine gL (ι:=(Nat × Nat) × List Tm) [10,11,20,23] [1000] (fun x=>[(10,.d (.one (.lit (.int .i64 (x.1.1:Int))))),(11,.d (.one (.lit (.int .i64 (x.1.2:Int)))))]) (fun x=>[(1000,.buf (some (a,cap)) 46 4 (Zac x.2))]) (fun x=>∃ P' X' Y' Q',x.2=P'++X'++Y'++Q'∧x.1.1=X'.length∧x.1.2=Y'.length∧P'.length+X'.length=M∧0 < X'.length∧0 < Y'.length∧P'++Y'++X'++Q'=P++Y++X++Q) (fun x=>x.1.1+x.1.2) (((X.length,Y.length),P++X++Y++Q)) (⟨P,X,Y,Q,rfl,rfl,rfl,hM.symm,hX,hY,rfl⟩) (fun x hx=>?_);clear F)
 obtain ⟨⟨i,j⟩,us⟩:=x
 obtain ⟨P',X',Y',Q',hus,hi,hj,hM',hX',hY',hT⟩:=hx
 simp only at hus hi hj
 dsimp only
 have hlen:=congrArg List.length hT
 simp only [List.length_append] at hlen
 obtain ⟨z,hz⟩:∃ z,z=P'.length:=⟨_,rfl⟩
 have w3:IntKind.i64.wrap ((M:Int) - (i:Int))=(z:Int):=ZaP om om om
 by_cases hij:i=j
 ·have q1:((i:Int)=(j:Int))=True:=eq_true om
  have c:=Zip P' X' [] Y' Q' om (A:=z) (B:=M) (n:=i) (N:=N) hz (by simp;omega) hi (by simp;omega) hmx a cap
  rw [List.append_nil,List.append_nil,hT,<- hus] at c
  (have F:=ai @q1 @tmz;have NN:Zai 8:=trivial;refine gGn ?_;clear F NN)
  refine gB ?_
  (have F:=ai @tmz @w3;refine gCP [1000] [1000] (c) ?_;clear F)
  rintro r pm ⟨rfl,rfl⟩
  simp only [setA,retA,zipM,List.cons_append,List.nil_append]
  (have F:=@tmz;refine gR ?_;clear F)
  (have F:=@tmz;refine gG ?_;clear F)
  first | exact (have F:=@e0P;gTPe (R:=RBuf a cap (P++Y++X++Q)) [1000] ⟨rfl,rfl⟩) | exact (have F:=@e0P;gTP (R:=RBuf a cap (P++Y++X++Q)) [1000] ⟨rfl,rfl⟩)
 have q1:((i:Int)=(j:Int))=False:=eq_false om
 by_cases hgt:j < i
 ·have q2:((j:Int) < (i:Int))=True:=eq_true om
  obtain ⟨d,hd⟩:∃ d,d=i - j:=⟨_,rfl⟩
  have w4:IntKind.i64.wrap ((i:Int) - (j:Int))=(d:Int):=ZaP om om om
  have hX12:X'=X'.take j++X'.drop j:=(List.take_append_drop j X').symm
  have l1:(X'.take j).length=j:=by rw [List.length_take];omega
  have l2:(X'.drop j).length=d:=by rw [List.length_drop];omega
  generalize X'.take j=X1 at hX12 l1
  generalize X'.drop j=X2 at hX12 l2
  subst hX12
  have c:=Zip P' X1 X2 Y' Q' om (A:=z) (B:=M) (n:=j) (N:=N) hz (by simp at hM';omega) l1.symm (by simp at hlen;omega) hmx a cap
  rw [show P'++X1++X2++Y'++Q'=us by rw [hus];simp] at c
  (have F:=ai @q1 (ai @q2 @tmz);have NN:Zai 4:=trivial;refine gGn ?_;clear F NN)
  refine gB ?_
  (have F:=ai @tmz @w3;refine gCP [1000] [1000] (c) ?_;clear F)
  rintro r pm ⟨rfl,rfl⟩
  simp only [setA,retA,zipM,List.cons_append,List.nil_append]
  (have F:=@tmz;refine gR ?_;clear F)
  (have F:=@w4;refine gG ?_;exact ⟨((d,j),P'++Y'++X2++X1++Q'),⟨P'++Y',X2,X1,Q',rfl,l2.symm,l1.symm,by simp at hM' ⊢;omega,by omega,by omega,by rw [<- hT];simp⟩,gw,gw,by dsimp only;omega⟩)
 ·have q2:((j:Int) < (i:Int))=False:=eq_false om
  obtain ⟨d,hd⟩:∃ d,d=j - i:=⟨_,rfl⟩
  have w4:IntKind.i64.wrap ((j:Int) - (i:Int))=(d:Int):=ZaP om om om
  obtain ⟨u,hu⟩:∃ u,u=M+j:=⟨_,rfl⟩
  obtain ⟨v,hv⟩:∃ v,v=M+d:=⟨_,rfl⟩
  have w5:IntKind.i64.wrap ((M:Int)+(j:Int))=(u:Int):=ZaP om om om
  have w6:IntKind.i64.wrap ((u:Int) - (i:Int))=(v:Int):=ZaP om om om
  have hY12:Y'=Y'.take d++Y'.drop d:=(List.take_append_drop d Y').symm
  have l1:(Y'.take d).length=d:=by rw [List.length_take];omega
  have l2:(Y'.drop d).length=i:=by rw [List.length_drop];omega
  generalize Y'.take d=Y1 at hY12 l1
  generalize Y'.drop d=Y2 at hY12 l2
  subst hY12
  have c:=Zip P' X' Y1 Y2 Q' om (A:=z) (B:=v) (n:=i) (N:=N) hz om hi (by simp at hlen;omega) hmx a cap
  rw [show P'++X'++Y1++Y2++Q'=us by rw [hus];simp] at c
  (have F:=ai @q1 (ai @q2 @tmz);have NN:Zai 6:=trivial;refine gGn ?_;clear F NN)
  refine gB ?_
  (have F:=ai @tmz (ai @w3 (ai @w5 @w6));refine gCP [1000] [1000] (c) ?_;clear F)
  rintro r pm ⟨rfl,rfl⟩
  simp only [setA,retA,zipM,List.cons_append,List.nil_append]
  (have F:=@tmz;refine gR ?_;clear F)
  (have F:=@w4;refine gG ?_;exact ⟨((i,d),P'++Y2++Y1++X'++Q'),⟨P',Y2,Y1,X'++Q',by simp,l2.symm,l1.symm,by omega,by omega,by omega,by rw [<- hT];simp⟩,gw,gw,by dsimp only;omega⟩)
theorem Zlm {M:List Tm} {k:Nat} {x:Tm} (h:M[k]?=some x):M.take k++[x]=M.take (k+1):=(Zb0 h).symm
set_option maxRecDepth 100000 in
theorem Zoh (P M Q:List Tm) {A B N:Nat} (hA:A=P.length) (hB:B=P.length+M.length) (hN:N=P.length+M.length+Q.length) (hmx:N<=4000000) (a:Option Addr) (cap:Nat) :
  ConP e0 250 [.one (.lit (.slice a N cap)),.one (.lit (.int .i64 A)),.one (.lit (.int .i64 B)),.one (.fn 82 [])] [.buf (some (a,cap)) 46 4 (Zac (P++M++Q))] (RBuf a cap (P++Zas M++Q)):=by
 have wA:=Zav (k:=A) om
 obtain ⟨A1,hA1⟩:∃ A1,A1=A+1:=⟨_,rfl⟩
 rw [<- hA1] at wA
 have h0:P++M++Q=P++Zas (M.take (A1 - A))++(M.drop (A1 - A)++Q):=by
  have:Zas (M.take 1)=M.take 1:=ZdY (by cases M with | nil=>exact List.Pairwise.nil | cons x M=>simp only [List.take_succ_cons,List.take_zero];exact List.pairwise_singleton _ _)
  rw [hA1,Nat.add_sub_cancel_left,this]
  simp only [List.append_assoc]
  rw [<- List.append_assoc (M.take 1),List.take_append_drop]
 refine gIP (ts:=[]) [1000] 17179886351 Tryz.func250 ?_
 (have F:=ai @wA @tmz;refine gG ?_;clear F)
 (have F:=@tmz;refine gL (ι:=Nat × List Tm) [8,9,14,34] [1000] (fun x=>[(8,.d (.one (.lit (.int .i64 (x.1:Int)))))]) (fun x=>[(1000,.buf (some (a,cap)) 46 4 (Zac x.2))]) (fun x=>A1<=x.1∧(x.1<=B∨x.1=A1)∧x.2=P++Zas (M.take (x.1 - A))++(M.drop (x.1 - A)++Q)) (fun x=>B+1 - x.1) ((A1,P++M++Q)) (⟨Nat.le_refl _,.inr rfl,h0⟩) (fun x hx=>?_);clear F)
 obtain ⟨i,us⟩:=x
 obtain ⟨hi1,hi2,hus⟩:=hx
 simp only at hi1 hi2 hus
 dsimp only
 by_cases hlt:i < B
 rotate_left
 ·have q1:((i:Int) < (B:Int))=False:=eq_false om
  have e1:M.take (i - A)=M:=List.take_of_length_le om
  have e2:M.drop (i - A)=[]:=List.drop_of_length_le om
  rw [e1,e2,List.nil_append] at hus
  subst hus
  (have F:=ai @q1 @tmz;refine gG ?_;clear F)
  first | exact (have F:=@e0P;gTPe (R:=RBuf a cap (P++Zas M++Q)) [1000] ⟨rfl,rfl⟩) | exact (have F:=@e0P;gTP (R:=RBuf a cap (P++Zas M++Q)) [1000] ⟨rfl,rfl⟩)
 have q1:((i:Int) < (B:Int))=True:=eq_true om
 obtain ⟨k,hk⟩:∃ k,k=i - A:=⟨_,rfl⟩
 rw [<- hk] at hus
 obtain ⟨x,hx⟩:∃ t,M[k]?=some t:=⟨_,List.getElem?_eq_getElem om⟩
 have hL:(Zas (M.take k)).length=k:=by rw [Zcv,List.length_take];omega
 rw [Zc4 hx] at hus
 have wi:=Zav (k:=i) om
 have hR:(M.drop (k+1)++Q).length+i+1=N:=by rw [List.length_append,List.length_drop];omega
 have hnext:∀ M1 M2,M1++M2=Zas (M.take k)->(∀ y∈M2,Zal x y<=0)->(∀ y,M1.getLast?=some y->Zal y x<=0)->P++M1++x::(M2++(M.drop (k+1)++Q))=P++Zas (M.take (i+1 - A))++(M.drop (i+1 - A)++Q):=fun M1 M2 e h2 h1=>by
  have:=Zn1 e h2 h1
  rw [Zlm hx] at this
  rw [show i+1 - A=k+1 by omega,<- this]
  simp
 obtain ⟨T,hT⟩:∃ T,T=P++Zas (M.take (i+1 - A))++(M.drop (i+1 - A)++Q):=⟨_,rfl⟩
 rw [<- hT] at hnext
 (have F:=ai @q1 @tmz;refine gG ?_;clear F)
 (have F:=@tmz;refine gL (ι:=Nat × List Tm) [9,34] [1000] (fun z=>[(9,.d (.one (.lit (.int .i64 (z.1:Int)))))]) (fun z=>[(1000,.buf (some (a,cap)) 46 4 (Zac z.2))]) (fun z=>∃ M1 M2,z.2=P++M1++x::(M2++(M.drop (k+1)++Q))∧z.1=A+M1.length∧M1++M2=Zas (M.take k)∧∀ y∈M2,Zal x y<=0) (fun z=>z.1) ((i,us)) (⟨Zas (M.take k),[],by rw [hus];simp,by rw [hL];omega,List.append_nil _,fun y h=>by simp at h⟩) (fun z hz=>?_);clear F)
 obtain ⟨j,vs⟩:=z
 obtain ⟨M1,M2,hvs,hj,he,h2⟩:=hz
 simp only at hvs hj
 dsimp only
 have hml:M1.length+M2.length=k:=by rw [<- List.length_append,he,hL]
 have hvl:vs.length=N:=by rw [hvs];simp only [List.length_append,List.length_cons] at hR ⊢;omega
 rcases List.eq_nil_or_concat M1 with h1 | ⟨M0,y,h1⟩
 ·subst h1
  have hn:=hnext [] M2 he h2 (fun y h=>by simp at h)
  obtain rfl:j=A:=by simpa using hj
  have q2:((j:Int) < (j:Int))=False:=eq_false om
  rw [hn] at hvs
  subst hvs
  (have F:=ai @q2 @tmz;refine gG ?_;clear F)
  (have F:=@wi;refine gG ?_;exact ⟨(i+1,vs),⟨by omega,.inl hlt,hT⟩,gw,gw,by omega⟩)
 ·rw [List.concat_eq_append] at h1
  subst h1
  simp only [List.length_append,List.length_cons,List.length_nil] at hj hml
  obtain ⟨p,hp⟩:∃ p,p=A+M0.length:=⟨_,rfl⟩
  have hjp:j=p+1:=by omega
  have q2:((A:Int) < (j:Int))=True:=eq_true om
  have w1:IntKind.i64.wrap ((j:Int) - 1)=(p:Int):=ZaP om om om
  have hPl:(P++M0).length=p:=by rw [List.length_append];omega
  have hvs2:vs=(P++M0)++y::x::(M2++(M.drop (k+1)++Q)):=by rw [hvs];simp
  have g1:vs[p]?=some y:=by rw [hvs2];exact ZgI hPl
  have g2:vs[j]?=some x:=by rw [hvs2,hjp];exact Zlf hPl
  have l1:p < N:=by omega
  have l2:j < N:=by omega
  (have F:=ai @q2 @tmz;refine gG ?_;clear F)
  refine gB ?_
  (have F:=ai @q2 (ai @tmz (ai @g1 (ai @g2 (ai @w1 (ai @l1 (ai @l2 (ai @hvl @Zad)))))));refine gC (Zkf (ZfK x y)) ?_;clear F)
  by_cases hc:Zal x y < 0
  ·have z1:(Zal x y < 0)=True:=eq_true hc
   obtain ⟨U,hU⟩:∃ U,U=(P++M0)++x::y::(M2++(M.drop (k+1)++Q)):=⟨_,rfl⟩
   have g3:(vs.set j y).set p x=U:=by rw [hU,hvs2,hjp];exact ZrC hPl
   have hls:∀ q (t:Tm),(vs.set q t).length=N:=fun q t=>by rw [List.length_set,hvl]
   (have F:=ai @z1 (ai @q2 @tmz);refine gR ?_;clear F)
   have hM2:∀ u∈y::M2,Zal x u<=0:=fun u hu=>by
    rcases List.mem_cons.1 hu with rfl | hu
    ·omega
    ·exact h2 u hu
   obtain ⟨z,g4⟩:∃ z,(vs.set j y)[p]?=some z:=⟨_,List.getElem?_eq_getElem (by rw [List.length_set];omega)⟩
   (have F:=ai @z1 @tmz;have NN:Zai 6:=trivial;refine gGn ?_;clear F NN)
   refine gF0 ?_
   refine gFm 0 ?_
   refine gFm 1 ?_
   refine gFm 2 ?_
   refine gFm 3 ?_
   refine (have F:=(ai w1 (ai l1 (ai l2 (ai hvl (ai g1 (ai g2 (ai g4 (ai hls (ai @Zad (ai @Zap tmz))))))))));gFb 4 ?_)
   refine gFm 5 ?_
   refine gFm 6 ?_
   refine (have F:=(ai w1 (ai l1 (ai l2 (ai hvl (ai g1 (ai g2 (ai g4 (ai hls (ai @Zad (ai @Zap tmz))))))))));gFb 7 ?_)
   refine (have F:=(ai w1 (ai l1 (ai l2 (ai hvl (ai g1 (ai g2 (ai g4 (ai hls (ai @Zad (ai @Zap tmz))))))))));gFi (rows:=Zac vs) 8 p (by rw [Zad];omega) ?_)
   refine gFm 10 ?_
   refine gFm 11 ?_
   refine (have F:=(ai w1 (ai l1 (ai l2 (ai hvl (ai g1 (ai g2 (ai g4 (ai hls (ai @Zad (ai @Zap tmz))))))))));gFi (rows:=Zac vs) 12 j (by rw [Zad];omega) ?_)
   refine gFT ?_
   refine gO2 9 13 ?_ ?_
   ·refine (have F:=(ai w1 (ai l1 (ai l2 (ai hvl (ai g1 (ai g2 (ai g4 (ai hls (ai @Zad (ai @Zap tmz))))))))));gO3 ?_)
    refine gO1 13 ?_
    refine (have F:=(ai w1 (ai l1 (ai l2 (ai hvl (ai g1 (ai g2 (ai g4 (ai hls (ai @Zad (ai @Zap tmz))))))))));gO3 ?_)
    refine gO1 14 ?_
    refine (have F:=(ai w1 (ai l1 (ai l2 (ai hvl (ai g1 (ai g2 (ai g4 (ai hls (ai @Zad (ai @Zap tmz))))))))));gO3 ?_)
    refine gO1 15 ?_
    refine (have F:=(ai w1 (ai l1 (ai l2 (ai hvl (ai g1 (ai g2 (ai g4 (ai hls (ai @Zad (ai @Zap tmz))))))))));gO3 ?_)
    refine gO1 16 ?_
    refine (have F:=(ai w1 (ai l1 (ai l2 (ai hvl (ai g1 (ai g2 (ai g4 (ai hls (ai @Zad (ai @Zap tmz))))))))));gO3 ?_)
    refine gO1 17 ?_
    refine (have F:=(ai w1 (ai l1 (ai l2 (ai hvl (ai g1 (ai g2 (ai g4 (ai hls (ai @Zad (ai @Zap tmz))))))))));gO3 ?_)
    refine (have F:=tmz;gT0 ?_)
    refine Exists.intro _ (ai (Wk.refl _) ?_)
    rw [g3]
    (have F:=@w1;refine gG ?_;exact ⟨(p,U),⟨M0,y::M2,by rw [hU];simp,hp,by rw [<- he];simp,hM2⟩,gw,gw,by omega⟩)
   ·refine (have F:=(ai w1 (ai l1 (ai l2 (ai hvl (ai g1 (ai g2 (ai g4 (ai hls (ai @Zad (ai @Zap tmz))))))))));gO3 ?_)
    refine gO1 9 ?_
    refine (have F:=(ai w1 (ai l1 (ai l2 (ai hvl (ai g1 (ai g2 (ai g4 (ai hls (ai @Zad (ai @Zap tmz))))))))));gO3 ?_)
    refine gO1 14 ?_
    refine (have F:=(ai w1 (ai l1 (ai l2 (ai hvl (ai g1 (ai g2 (ai g4 (ai hls (ai @Zad (ai @Zap tmz))))))))));gO3 ?_)
    refine gO1 15 ?_
    refine (have F:=(ai w1 (ai l1 (ai l2 (ai hvl (ai g1 (ai g2 (ai g4 (ai hls (ai @Zad (ai @Zap tmz))))))))));gO3 ?_)
    refine gO1 16 ?_
    refine (have F:=(ai w1 (ai l1 (ai l2 (ai hvl (ai g1 (ai g2 (ai g4 (ai hls (ai @Zad (ai @Zap tmz))))))))));gO3 ?_)
    refine gO1 17 ?_
    refine (have F:=(ai w1 (ai l1 (ai l2 (ai hvl (ai g1 (ai g2 (ai g4 (ai hls (ai @Zad (ai @Zap tmz))))))))));gO3 ?_)
    refine (have F:=tmz;gT0 ?_)
    refine Exists.intro _ (ai (Wk.refl _) ?_)
    rw [g3]
    (have F:=@w1;refine gG ?_;exact ⟨(p,U),⟨M0,y::M2,by rw [hU];simp,hp,by rw [<- he];simp,hM2⟩,gw,gw,by omega⟩)
  ·have z1:(Zal x y < 0)=False:=eq_false hc
   have hn:=hnext (M0++[y]) M2 he h2 (fun u h=>by
    simp only [List.getLast?_append,List.getLast?_singleton,Option.some_or,Option.some.injEq] at h
    subst h
    exact ZmT hc)
   rw [hn] at hvs
   subst hvs
   (have F:=ai @z1 (ai @q2 @tmz);refine gR ?_;clear F)
   (have F:=ai @z1 @tmz;refine gG ?_;clear F)
   (have F:=@wi;refine gG ?_;exact ⟨(i+1,vs),⟨by omega,.inl hlt,hT⟩,gw,gw,by omega⟩)
theorem ZsO {P A B Q:List Tm} {i k:Nat} {x:Tm} (h:A[i]?=some x) (hk:k=P.length+i):(P++A++B++Q)[k]?=some x:=by
 have hi:=(List.getElem?_eq_some_iff.1 h).1
 subst hk
 rw [List.append_assoc,List.append_assoc,List.getElem?_append_right om,Nat.add_sub_cancel_left,List.getElem?_append_left hi,h]
theorem ZsP {P A B Q:List Tm} {i k:Nat} {x:Tm} (h:B[i]?=some x) (hk:k=P.length+A.length+i):(P++A++B++Q)[k]?=some x:=by
 have hi:=(List.getElem?_eq_some_iff.1 h).1
 subst hk
 rw [List.append_assoc,List.getElem?_append_right (by rw [List.length_append];omega),List.length_append,Nat.add_sub_cancel_left,List.getElem?_append_left hi,h]
theorem Zoi {B:List Tm} {x:Tm} (hB:Up B) {s:Nat} (h1:0 < s->∃ y,B[s - 1]?=some y∧Zal y x<=0) (h2:s < B.length->∃ y,B[s]?=some y∧Zal x y<=0):Zas ([x]++B)=B.take s++x::B.drop s:=(Ze6 (ZxZ s) (hB.put h1 h2)).symm
def SymL (A B:List Tm) (lo mid st i:Nat):Prop:=st < i->∃ u v,A[i - 1 - lo]?=some u∧B[mid - i]?=some v∧Zal u v<=0
def SymR (A B:List Tm) (lo mid r0 j:Nat):Prop:=j < r0->∃ u v,B[mid - 1 - j]?=some u∧A[j - lo]?=some v∧Zal u v<=0
set_option maxRecDepth 100000 in
theorem Zoj:∀ (n:Nat) (P A B Q:List Tm),A.length+B.length<=n->0 < A.length->0 < B.length->Up A->Up B->∀ {lo mi hi N:Nat},lo=P.length->mi=P.length+A.length->hi=P.length+A.length+B.length->N=P.length+A.length+B.length+Q.length->N<=4000000->∀ (a:Option Addr) (cap:Nat),
  ConP e0 251 [.one (.lit (.slice a N cap)),.one (.lit (.int .i64 lo)),.one (.lit (.int .i64 mi)),.one (.lit (.int .i64 hi)),.one (.fn 82 [])] [.buf (some (a,cap)) 46 4 (Zac (P++A++B++Q))] (RBuf a cap (P++Zas (A++B)++Q)):=by
 intro n
 induction n with
 | zero=>intro P A B Q h1 h2;omega
 | succ n ih =>
 intro P A B Q hsz hA0 hB0 hA hB lo mi hi N hlo hmi hhi hN hmx a cap
 have hU:∃ U,U=P++A++B++Q:=⟨_,rfl⟩
 obtain ⟨U,hU⟩:=hU
 have hUl:U.length=N:=by rw [hU];simp only [List.length_append];omega
 rw [<- hU]
 have w0:IntKind.i64.wrap ((mi:Int) - (lo:Int))=(A.length:Int):=ZaP om om om
 have w1:IntKind.i64.wrap ((hi:Int) - (mi:Int))=(B.length:Int):=ZaP om om om
 refine gIP (ts:=[]) [1000] 13164839976634628298295110780136696778032692856359452003713154079 Tryz.func251 ?_
 by_cases hA1:A.length=1
 ·have q1:((A.length:Int)=1)=True:=eq_true om
  obtain ⟨x,hx⟩:∃ x,A=[x]:=List.length_eq_one_iff.1 hA1
  have gx:U[lo]?=some x:=by rw [hU];exact ZsO (i:=0) (by rw [hx];rfl) om
  have l0:lo < N:=by omega
  (have F:=ai @w0 (ai @q1 @tmz);refine gG ?_;clear F)
  clear q1
  (have F:=@tmz;refine gL (ι:=Nat × Nat) [10,11,12,33,50] [] (fun z=>[(10,.d (.one (.lit (.int .i64 (z.1:Int))))),(11,.d (.one (.lit (.int .i64 (z.2:Int)))))]) (fun z=>[]) (fun z=>mi<=z.1∧z.1<=z.2∧z.2<=hi∧(mi < z.1->∃ y,B[z.1 - mi - 1]?=some y∧Zal y x<=0)∧(z.2 < hi->∃ y,B[z.2 - mi]?=some y∧Zal x y<=0)) (fun z=>z.2 - z.1) ((mi,hi)) (⟨Nat.le_refl _,by omega,Nat.le_refl _,fun h=>by omega,fun h=>by omega⟩) (fun z hz=>?_);clear F)
  obtain ⟨i,j⟩:=z
  obtain ⟨h1,h2,h3,h4,h5⟩:=hz
  simp only at h1 h2 h3 h4 h5
  dsimp only
  by_cases hij:i < j
  ·have q2:((i:Int) < (j:Int))=True:=eq_true om
   obtain ⟨s,h,u1,u2,u3,u4,hh⟩:=ZiM i j om
   obtain ⟨y,hy⟩:∃ y,B[h - mi]?=some y:=⟨_,List.getElem?_eq_getElem om⟩
   have gy:U[h]?=some y:=by rw [hU];exact ZsP hy om
   have lh:h < N:=by omega
   have wh:=Zav (k:=h) om
   (have F:=ai @q2 (ai @u1 (ai @u2 (ai @u3 (ai @u4 (ai @Ze3 (ai @ZiL (ai @Zey (ai @Zhp (ai @ZdM (ai @ZgL (ai @toNat_one (ai @Zka @tmz))))))))))));refine gG ?_;clear F)
   refine gB ?_
   (have F:=ai @tmz (ai @gx (ai @gy (ai @l0 (ai @lh (ai @hUl @Zad)))));refine gC (Zkf (ZfK y x)) ?_;clear F)
   by_cases hc:Zal y x < 0
   ·have z1:(Zal y x < 0)=True:=eq_true hc
    (have F:=ai @z1 @tmz;refine gR ?_;clear F)
    (have F:=ai @z1 @wh;refine gG ?_;exact ⟨(h+1,j),⟨by omega,by omega,h3,fun _=>⟨y,by rw [<- hy];congr 1;omega,by omega⟩,h5⟩,gw,gw,by omega⟩)
   ·have z1:(Zal y x < 0)=False:=eq_false hc
    (have F:=ai @z1 @tmz;refine gR ?_;clear F)
    (have F:=@z1;refine gG ?_;exact ⟨(i,h),⟨h1,by omega,by omega,h4,fun _=>⟨y,hy,ZmT hc⟩⟩,gw,gw,by omega⟩)
  have q2:((i:Int) < (j:Int))=False:=eq_false om
  obtain rfl:i=j:=by omega
  obtain ⟨e,he⟩:∃ e,i=e+1:=⟨i - 1,by omega⟩
  have w2:IntKind.i64.wrap ((i:Int) - 1)=(e:Int):=ZaP om om om
  have hout:Zas (A++B)=B.take (e - lo)++x::B.drop (e - lo):=by
   rw [hx]
   exact Zoi hB (fun h=>by obtain ⟨y,hy,hc⟩:=h4 om;exact ⟨y,by rw [<- hy];congr 1;omega,hc⟩) (fun h=>by obtain ⟨y,hy,hc⟩:=h5 om;exact ⟨y,by rw [<- hy];congr 1;omega,hc⟩)
  rw [hout]
  (have F:=ai @q2 @tmz;refine gG ?_;clear F)
  (have F:=@tmz;refine gL (ι:=Nat × List Tm) [13,58] [1000] (fun z=>[(13,.d (.one (.lit (.int .i64 (z.1:Int)))))]) (fun z=>[(1000,.buf (some (a,cap)) 46 4 (Zac z.2))]) (fun z=>lo<=z.1∧z.1<=e∧z.2=P++B.take (z.1 - lo)++x::(B.drop (z.1 - lo)++Q)) (fun z=>e - z.1) ((lo,U)) (⟨Nat.le_refl _,by omega,by rw [hU,hx,Nat.sub_self];simp⟩) (fun z hz=>?_);clear F)
  obtain ⟨k,us⟩:=z
  obtain ⟨k1,k2,hus⟩:=hz
  simp only at k1 k2 hus
  dsimp only
  by_cases hk:k < e
  ·have q3:((k:Int) < (e:Int))=True:=eq_true om
   obtain ⟨y,hy⟩:∃ y,B[k - lo]?=some y:=⟨_,List.getElem?_eq_getElem om⟩
   have hPl:(P++B.take (k - lo)).length=k:=by rw [List.length_append,List.length_take];omega
   rw [Zc4 hy] at hus
   have g1:us[k]?=some x:=by rw [hus];exact ZgI hPl
   have g2:us[k+1]?=some y:=by rw [hus];exact Zlf hPl
   obtain ⟨V,hV⟩:∃ V,V=P++B.take (k+1 - lo)++x::(B.drop (k+1 - lo)++Q):=⟨_,rfl⟩
   have g3:(us.set k y).set (k+1) x=V:=by
    rw [hV,hus,List.cons_append,Zx0 hPl,show k+1 - lo=k - lo+1 by omega,Zb0 hy];simp
   have hul:us.length=N:=by rw [hus];simp only [List.length_append,List.length_cons,List.length_take,List.length_drop];omega
   obtain ⟨k',hk'⟩:∃ k',k'=k+1:=⟨_,rfl⟩
   rw [<- hk'] at g2 g3 hV
   have wk:IntKind.i64.wrap ((k:Int)+1)=(k':Int):=ZaP om om om
   have l1:k < N:=by omega
   have l2:k' < N:=by omega
   have hls:∀ q (t:Tm),(us.set q t).length=N:=fun q t=>by rw [List.length_set,hul]
   obtain ⟨z,g4⟩:∃ z,(us.set k y)[k']?=some z:=⟨_,List.getElem?_eq_getElem (by rw [List.length_set];omega)⟩
   (have F:=ai @q3 (ai @w2 @tmz);have NN:Zai 11:=trivial;refine gGn ?_;clear F NN)
   refine gF0 ?_
   refine gFm 0 ?_
   refine gFm 1 ?_
   refine gFm 2 ?_
   refine gFm 3 ?_
   refine (have F:=(ai wk (ai l1 (ai l2 (ai hul (ai g1 (ai g2 (ai g4 (ai hls (ai @Zad (ai @Zap tmz))))))))));gFb 4 ?_)
   refine gFm 5 ?_
   refine gFm 6 ?_
   refine (have F:=(ai wk (ai l1 (ai l2 (ai hul (ai g1 (ai g2 (ai g4 (ai hls (ai @Zad (ai @Zap tmz))))))))));gFb 7 ?_)
   refine (have F:=(ai wk (ai l1 (ai l2 (ai hul (ai g1 (ai g2 (ai g4 (ai hls (ai @Zad (ai @Zap tmz))))))))));gFi (rows:=Zac us) 8 k' (by rw [Zad];omega) ?_)
   refine gFm 10 ?_
   refine gFm 11 ?_
   refine (have F:=(ai wk (ai l1 (ai l2 (ai hul (ai g1 (ai g2 (ai g4 (ai hls (ai @Zad (ai @Zap tmz))))))))));gFi (rows:=Zac us) 12 k (by rw [Zad];omega) ?_)
   refine gFT ?_
   refine gO2 9 13 ?_ ?_
   ·refine (have F:=(ai wk (ai l1 (ai l2 (ai hul (ai g1 (ai g2 (ai g4 (ai hls (ai @Zad (ai @Zap tmz))))))))));gO3 ?_)
    refine gO1 13 ?_
    refine (have F:=(ai wk (ai l1 (ai l2 (ai hul (ai g1 (ai g2 (ai g4 (ai hls (ai @Zad (ai @Zap tmz))))))))));gO3 ?_)
    refine gO1 14 ?_
    refine (have F:=(ai wk (ai l1 (ai l2 (ai hul (ai g1 (ai g2 (ai g4 (ai hls (ai @Zad (ai @Zap tmz))))))))));gO3 ?_)
    refine gO1 15 ?_
    refine (have F:=(ai wk (ai l1 (ai l2 (ai hul (ai g1 (ai g2 (ai g4 (ai hls (ai @Zad (ai @Zap tmz))))))))));gO3 ?_)
    refine gO1 16 ?_
    refine (have F:=(ai wk (ai l1 (ai l2 (ai hul (ai g1 (ai g2 (ai g4 (ai hls (ai @Zad (ai @Zap tmz))))))))));gO3 ?_)
    refine gO1 17 ?_
    refine (have F:=(ai wk (ai l1 (ai l2 (ai hul (ai g1 (ai g2 (ai g4 (ai hls (ai @Zad (ai @Zap tmz))))))))));gO3 ?_)
    refine (have F:=tmz;gT0 ?_)
    refine Exists.intro _ (ai (Wk.refl _) ?_)
    rw [g3]
    (have F:=@wk;refine gG ?_;exact ⟨(k',V),⟨by omega,by omega,hV⟩,gw,gw,by omega⟩)
   ·refine (have F:=(ai wk (ai l1 (ai l2 (ai hul (ai g1 (ai g2 (ai g4 (ai hls (ai @Zad (ai @Zap tmz))))))))));gO3 ?_)
    refine gO1 9 ?_
    refine (have F:=(ai wk (ai l1 (ai l2 (ai hul (ai g1 (ai g2 (ai g4 (ai hls (ai @Zad (ai @Zap tmz))))))))));gO3 ?_)
    refine gO1 14 ?_
    refine (have F:=(ai wk (ai l1 (ai l2 (ai hul (ai g1 (ai g2 (ai g4 (ai hls (ai @Zad (ai @Zap tmz))))))))));gO3 ?_)
    refine gO1 15 ?_
    refine (have F:=(ai wk (ai l1 (ai l2 (ai hul (ai g1 (ai g2 (ai g4 (ai hls (ai @Zad (ai @Zap tmz))))))))));gO3 ?_)
    refine gO1 16 ?_
    refine (have F:=(ai wk (ai l1 (ai l2 (ai hul (ai g1 (ai g2 (ai g4 (ai hls (ai @Zad (ai @Zap tmz))))))))));gO3 ?_)
    refine gO1 17 ?_
    refine (have F:=(ai wk (ai l1 (ai l2 (ai hul (ai g1 (ai g2 (ai g4 (ai hls (ai @Zad (ai @Zap tmz))))))))));gO3 ?_)
    refine (have F:=tmz;gT0 ?_)
    refine Exists.intro _ (ai (Wk.refl _) ?_)
    rw [g3]
    (have F:=@wk;refine gG ?_;exact ⟨(k',V),⟨by omega,by omega,hV⟩,gw,gw,by omega⟩)
  have q3:((k:Int) < (e:Int))=False:=eq_false om
  obtain rfl:k=e:=by omega
  subst hus
  rw [show P++B.take (k - lo)++x::(B.drop (k - lo)++Q)=P++(B.take (k - lo)++x::B.drop (k - lo))++Q by simp]
  (have F:=ai @q3 (ai @w2 @tmz);refine gG ?_;clear F)
  first | exact (have F:=@e0P;gTPe (R:=RBuf a cap (P++(B.take (k - lo)++x::B.drop (k - lo))++Q)) [1000] ⟨rfl,rfl⟩) | exact (have F:=@e0P;gTP (R:=RBuf a cap (P++(B.take (k - lo)++x::B.drop (k - lo))++Q)) [1000] ⟨rfl,rfl⟩)
 have q1:((A.length:Int)=1)=False:=eq_false om
 by_cases hB1:B.length=1
 ·have q1':((B.length:Int)=1)=True:=eq_true om
  obtain ⟨x,hx⟩:∃ x,B=[x]:=List.length_eq_one_iff.1 hB1
  have gx:U[mi]?=some x:=by rw [hU];exact ZsP (i:=0) (by rw [hx];rfl) om
  have l0:mi < N:=by omega
  (have F:=ai @w0 (ai @w1 (ai @q1 (ai @q1' @tmz)));refine gG ?_;clear F)
  clear q1 q1'
  (have F:=@tmz;refine gL (ι:=Nat × Nat) [14,15,16,85,103] [] (fun z=>[(14,.d (.one (.lit (.int .i64 (z.1:Int))))),(15,.d (.one (.lit (.int .i64 (z.2:Int)))))]) (fun z=>[]) (fun z=>lo<=z.1∧z.1<=z.2∧z.2<=mi∧(lo < z.1->∃ y,A[z.1 - lo - 1]?=some y∧Zal y x<=0)∧(z.2 < mi->∃ y,A[z.2 - lo]?=some y∧Zal x y<=0)) (fun z=>z.2 - z.1) ((lo,mi)) (⟨Nat.le_refl _,by omega,Nat.le_refl _,fun h=>by omega,fun h=>by omega⟩) (fun z hz=>?_);clear F)
  obtain ⟨i,j⟩:=z
  obtain ⟨h1,h2,h3,h4,h5⟩:=hz
  simp only at h1 h2 h3 h4 h5
  dsimp only
  by_cases hij:i < j
  ·have q2:((i:Int) < (j:Int))=True:=eq_true om
   obtain ⟨s,h,u1,u2,u3,u4,hh⟩:=ZiM i j om
   obtain ⟨y,hy⟩:∃ y,A[h - lo]?=some y:=⟨_,List.getElem?_eq_getElem om⟩
   have gy:U[h]?=some y:=by rw [hU];exact ZsO hy om
   have lh:h < N:=by omega
   have wh:=Zav (k:=h) om
   (have F:=ai @q2 (ai @u1 (ai @u2 (ai @u3 (ai @u4 (ai @Ze3 (ai @ZiL (ai @Zey (ai @Zhp (ai @ZdM (ai @ZgL (ai @toNat_one (ai @Zka @tmz))))))))))));refine gG ?_;clear F)
   refine gB ?_
   (have F:=ai @tmz (ai @gx (ai @gy (ai @l0 (ai @lh (ai @hUl @Zad)))));refine gC (Zkf (ZfK x y)) ?_;clear F)
   by_cases hc:Zal x y < 0
   ·have z1:(Zal x y < 0)=True:=eq_true hc
    (have F:=ai @z1 @tmz;refine gR ?_;clear F)
    (have F:=@z1;refine gG ?_;exact ⟨(i,h),⟨h1,by omega,by omega,h4,fun _=>⟨y,hy,by omega⟩⟩,gw,gw,by omega⟩)
   ·have z1:(Zal x y < 0)=False:=eq_false hc
    (have F:=ai @z1 @tmz;refine gR ?_;clear F)
    (have F:=ai @z1 @wh;refine gG ?_;exact ⟨(h+1,j),⟨by omega,by omega,h3,fun _=>⟨y,by rw [<- hy];congr 1;omega,ZmT hc⟩,h5⟩,gw,gw,by omega⟩)
  have q2:((i:Int) < (j:Int))=False:=eq_false om
  obtain rfl:i=j:=by omega
  have hout:Zas (A++B)=A.take (i - lo)++x::A.drop (i - lo):=by
   rw [hx,Zn0 (List.perm_append_comm (l₁:=A) (l₂:=[x]))]
   exact Zoi hA (fun h=>by obtain ⟨y,hy,hc⟩:=h4 om;exact ⟨y,hy,hc⟩) (fun h=>by obtain ⟨y,hy,hc⟩:=h5 om;exact ⟨y,hy,hc⟩)
  rw [hout]
  (have F:=ai @q2 @tmz;refine gG ?_;clear F)
  (have F:=@tmz;refine gL (ι:=Nat × List Tm) [17,110] [1000] (fun z=>[(17,.d (.one (.lit (.int .i64 (z.1:Int)))))]) (fun z=>[(1000,.buf (some (a,cap)) 46 4 (Zac z.2))]) (fun z=>i<=z.1∧z.1<=mi∧z.2=P++A.take (z.1 - lo)++x::(A.drop (z.1 - lo)++Q)) (fun z=>z.1) ((mi,U)) (⟨h3,Nat.le_refl _,by rw [hU,hx,show mi - lo=A.length by omega,List.take_length,List.drop_length];simp⟩) (fun z hz=>?_);clear F)
  obtain ⟨k,us⟩:=z
  obtain ⟨k1,k2,hus⟩:=hz
  simp only at k1 k2 hus
  dsimp only
  by_cases hk:i < k
  ·have q3:((i:Int) < (k:Int))=True:=eq_true om
   obtain ⟨p,hp⟩:∃ p,k=p+1:=⟨k - 1,by omega⟩
   obtain ⟨y,hy⟩:∃ y,A[p - lo]?=some y:=⟨_,List.getElem?_eq_getElem om⟩
   have hPl:(P++A.take (p - lo)).length=p:=by rw [List.length_append,List.length_take];omega
   have hus2:us=(P++A.take (p - lo))++y::x::(A.drop (k - lo)++Q):=by rw [hus,show k - lo=p - lo+1 by omega,Zb0 hy];simp
   have g1:us[p]?=some y:=by rw [hus2];exact ZgI hPl
   have g2:us[k]?=some x:=by rw [hus2,hp];exact Zlf hPl
   obtain ⟨V,hV⟩:∃ V,V=P++A.take (p - lo)++x::(A.drop (p - lo)++Q):=⟨_,rfl⟩
   have g3:(us.set k y).set p x=V:=by
    rw [hV,hus2,hp,ZrC hPl,Zc4 hy,show p+1 - lo=p - lo+1 by omega];simp
   have hul:us.length=N:=by rw [hus];simp only [List.length_append,List.length_cons,List.length_take,List.length_drop];omega
   have wk:IntKind.i64.wrap ((k:Int) - 1)=(p:Int):=ZaP om om om
   have l1:k < N:=by omega
   have l2:p < N:=by omega
   have hls:∀ q (t:Tm),(us.set q t).length=N:=fun q t=>by rw [List.length_set,hul]
   obtain ⟨z,g4⟩:∃ z,(us.set k y)[p]?=some z:=⟨_,List.getElem?_eq_getElem (by rw [List.length_set];omega)⟩
   (have F:=ai @q3 @tmz;have NN:Zai 23:=trivial;refine gGn ?_;clear F NN)
   refine gF0 ?_
   refine gFm 0 ?_
   refine gFm 1 ?_
   refine gFm 2 ?_
   refine gFm 3 ?_
   refine (have F:=(ai wk (ai l1 (ai l2 (ai hul (ai g1 (ai g2 (ai g4 (ai hls (ai @Zad (ai @Zap tmz))))))))));gFb 4 ?_)
   refine gFm 5 ?_
   refine gFm 6 ?_
   refine (have F:=(ai wk (ai l1 (ai l2 (ai hul (ai g1 (ai g2 (ai g4 (ai hls (ai @Zad (ai @Zap tmz))))))))));gFb 7 ?_)
   refine (have F:=(ai wk (ai l1 (ai l2 (ai hul (ai g1 (ai g2 (ai g4 (ai hls (ai @Zad (ai @Zap tmz))))))))));gFi (rows:=Zac us) 8 p (by rw [Zad];omega) ?_)
   refine gFm 10 ?_
   refine gFm 11 ?_
   refine (have F:=(ai wk (ai l1 (ai l2 (ai hul (ai g1 (ai g2 (ai g4 (ai hls (ai @Zad (ai @Zap tmz))))))))));gFi (rows:=Zac us) 12 k (by rw [Zad];omega) ?_)
   refine gFT ?_
   refine gO2 9 13 ?_ ?_
   ·refine (have F:=(ai wk (ai l1 (ai l2 (ai hul (ai g1 (ai g2 (ai g4 (ai hls (ai @Zad (ai @Zap tmz))))))))));gO3 ?_)
    refine gO1 13 ?_
    refine (have F:=(ai wk (ai l1 (ai l2 (ai hul (ai g1 (ai g2 (ai g4 (ai hls (ai @Zad (ai @Zap tmz))))))))));gO3 ?_)
    refine gO1 14 ?_
    refine (have F:=(ai wk (ai l1 (ai l2 (ai hul (ai g1 (ai g2 (ai g4 (ai hls (ai @Zad (ai @Zap tmz))))))))));gO3 ?_)
    refine gO1 15 ?_
    refine (have F:=(ai wk (ai l1 (ai l2 (ai hul (ai g1 (ai g2 (ai g4 (ai hls (ai @Zad (ai @Zap tmz))))))))));gO3 ?_)
    refine gO1 16 ?_
    refine (have F:=(ai wk (ai l1 (ai l2 (ai hul (ai g1 (ai g2 (ai g4 (ai hls (ai @Zad (ai @Zap tmz))))))))));gO3 ?_)
    refine gO1 17 ?_
    refine (have F:=(ai wk (ai l1 (ai l2 (ai hul (ai g1 (ai g2 (ai g4 (ai hls (ai @Zad (ai @Zap tmz))))))))));gO3 ?_)
    refine (have F:=tmz;gT0 ?_)
    refine Exists.intro _ (ai (Wk.refl _) ?_)
    rw [g3]
    (have F:=@wk;refine gG ?_;exact ⟨(p,V),⟨by omega,by omega,hV⟩,gw,gw,by omega⟩)
   ·refine (have F:=(ai wk (ai l1 (ai l2 (ai hul (ai g1 (ai g2 (ai g4 (ai hls (ai @Zad (ai @Zap tmz))))))))));gO3 ?_)
    refine gO1 9 ?_
    refine (have F:=(ai wk (ai l1 (ai l2 (ai hul (ai g1 (ai g2 (ai g4 (ai hls (ai @Zad (ai @Zap tmz))))))))));gO3 ?_)
    refine gO1 14 ?_
    refine (have F:=(ai wk (ai l1 (ai l2 (ai hul (ai g1 (ai g2 (ai g4 (ai hls (ai @Zad (ai @Zap tmz))))))))));gO3 ?_)
    refine gO1 15 ?_
    refine (have F:=(ai wk (ai l1 (ai l2 (ai hul (ai g1 (ai g2 (ai g4 (ai hls (ai @Zad (ai @Zap tmz))))))))));gO3 ?_)
    refine gO1 16 ?_
    refine (have F:=(ai wk (ai l1 (ai l2 (ai hul (ai g1 (ai g2 (ai g4 (ai hls (ai @Zad (ai @Zap tmz))))))))));gO3 ?_)
    refine gO1 17 ?_
    refine (have F:=(ai wk (ai l1 (ai l2 (ai hul (ai g1 (ai g2 (ai g4 (ai hls (ai @Zad (ai @Zap tmz))))))))));gO3 ?_)
    refine (have F:=tmz;gT0 ?_)
    refine Exists.intro _ (ai (Wk.refl _) ?_)
    rw [g3]
    (have F:=@wk;refine gG ?_;exact ⟨(p,V),⟨by omega,by omega,hV⟩,gw,gw,by omega⟩)
  have q3:((i:Int) < (k:Int))=False:=eq_false om
  obtain rfl:i=k:=by omega
  subst hus
  rw [show P++A.take (i - lo)++x::(A.drop (i - lo)++Q)=P++(A.take (i - lo)++x::A.drop (i - lo))++Q by simp]
  (have F:=ai @q3 @tmz;refine gG ?_;clear F)
  first | exact (have F:=@e0P;gTPe (R:=RBuf a cap (P++(A.take (i - lo)++x::A.drop (i - lo))++Q)) [1000] ⟨rfl,rfl⟩) | exact (have F:=@e0P;gTP (R:=RBuf a cap (P++(A.take (i - lo)++x::A.drop (i - lo))++Q)) [1000] ⟨rfl,rfl⟩)
 have q1':((B.length:Int)=1)=False:=eq_false om
 obtain ⟨s0,mid,u1,u2,u3,u4,hmid⟩:=ZiM lo hi om
 obtain ⟨nn,hnn⟩:∃ nn,nn=mid+mi:=⟨_,rfl⟩
 obtain ⟨p,hp⟩:∃ p,nn=p+1:=⟨nn - 1,by omega⟩
 have w2:IntKind.i64.wrap ((mid:Int)+(mi:Int))=(nn:Int):=ZaP om om om
 have w3:IntKind.i64.wrap ((nn:Int) - 1)=(p:Int):=ZaP om om om
 (have F:=ai @w0 (ai @w1 (ai @q1 (ai @q1' (ai @u1 (ai @u2 (ai @u3 (ai @u4 (ai @Ze3 (ai @ZiL (ai @Zey (ai @Zhp (ai @ZdM (ai @ZgL (ai @toNat_one (ai @Zka (ai @w2 @tmz))))))))))))))));refine gG ?_;clear F)
 clear q1 q1' u1 u2 u3 u4
 refine gM (ι:=Nat × Nat) [20,21] [] (fun z=>[(20,.d (.one (.lit (.int .i64 (z.1:Int))))),(21,.d (.one (.lit (.int .i64 (z.2:Int)))))]) (fun z=>[]) (fun z=>mid < mi∧z.1+hi=nn∧z.2=mid∨mi<=mid∧z.1=lo∧z.2=mi) ?_ (fun z hz=>Exists.intro _ (ai (Wk.refl _) ?_))
 ·by_cases hgt:mid < mi
  ·have q2:decide ((mid:Int) < (mi:Int))=true:=decide_eq_true om
   have w4:IntKind.i64.wrap ((nn:Int) - (hi:Int))=((nn - hi:Nat):Int):=ZaP om om om
   generalize hv:nn - hi=v at w4
   have q2':(mid < mi)=True:=eq_true hgt
   (have F:=ai @q2 (ai @q2' (ai @w4 @tmz));refine gG ?_;exact ⟨(v,mid),.inl ⟨hgt,by simp only;omega,rfl⟩,gw,gw⟩)
  ·have q2:decide ((mid:Int) < (mi:Int))=false:=decide_eq_false om
   have q2':(mi<=mid)=True:=eq_true om
   (have F:=ai @q2 (ai @q2' @tmz);refine gG ?_;exact ⟨(lo,mi),.inr ⟨by omega,rfl,rfl⟩,gw,gw⟩)
 obtain ⟨st,r0⟩:=z
 simp only at hz
 dsimp only
 (have F:=ai @w3 @tmz;refine gG ?_;clear F)
 (have F:=@tmz;refine gL (ι:=Nat × Nat) [20,21,23,151,171] [] (fun z=>[(20,.d (.one (.lit (.int .i64 (z.1:Int))))),(21,.d (.one (.lit (.int .i64 (z.2:Int)))))]) (fun z=>[]) (fun z=>st<=z.1∧z.1<=z.2∧z.2<=r0∧SymL A B lo mid st z.1∧SymR A B lo mid r0 z.2) (fun z=>z.2 - z.1) ((st,r0)) (⟨Nat.le_refl _,by omega,Nat.le_refl _,fun h=>by omega,fun h=>by omega⟩) (fun z hz=>?_);clear F)
 obtain ⟨i,j⟩:=z
 rename_i hcase
 obtain ⟨h1,h2,h3,h4,h5⟩:=hz
 simp only at h1 h2 h3 h4 h5
 dsimp only
 by_cases hij:i < j
 ·have q2:((i:Int) < (j:Int))=True:=eq_true om
  obtain ⟨s,c,u1,u2,u3,u4,hc⟩:=ZiM i j om
  obtain ⟨y,hy⟩:∃ y,A[c - lo]?=some y:=⟨_,List.getElem?_eq_getElem om⟩
  obtain ⟨x,hx⟩:∃ x,B[mid - 1 - c]?=some x:=⟨_,List.getElem?_eq_getElem om⟩
  obtain ⟨d,hd⟩:∃ d,d+c=p:=⟨p - c,by omega⟩
  have gy:U[c]?=some y:=by rw [hU];exact ZsO hy om
  have gx:U[d]?=some x:=by rw [hU];exact ZsP hx om
  have lc:c < N:=by omega
  have ld:d < N:=by omega
  have wc:=Zav (k:=c) om
  have wd:IntKind.i64.wrap ((p:Int) - (c:Int))=(d:Int):=ZaP om om om
  (have F:=ai @q2 (ai @u1 (ai @u2 (ai @u3 (ai @u4 (ai @Ze3 (ai @ZiL (ai @Zey (ai @Zhp (ai @ZdM (ai @ZgL (ai @toNat_one (ai @Zka @tmz))))))))))));refine gG ?_;clear F)
  refine gB ?_
  (have F:=ai @tmz (ai @gx (ai @gy (ai @lc (ai @ld (ai @wd (ai @hUl @Zad))))));refine gC (Zkf (ZfK x y)) ?_;clear F)
  by_cases hcc:Zal x y < 0
  ·have z1:(Zal x y < 0)=True:=eq_true hcc
   (have F:=ai @z1 @tmz;refine gR ?_;clear F)
   (have F:=@z1;refine gG ?_;exact ⟨(i,c),⟨h1,by omega,by omega,h4,fun _=>⟨x,y,hx,hy,by omega⟩⟩,gw,gw,by omega⟩)
  ·have z1:(Zal x y < 0)=False:=eq_false hcc
   (have F:=ai @z1 @tmz;refine gR ?_;clear F)
   (have F:=ai @z1 @wc;refine gG ?_;exact ⟨(c+1,j),⟨by omega,by omega,h3,fun _=>⟨y,x,by rw [<- hy];congr 1,by rw [<- hx];congr 1;omega,ZmT hcc⟩,h5⟩,gw,gw,by omega⟩)
 have q2:((i:Int) < (j:Int))=False:=eq_false om
 obtain rfl:i=j:=by omega
 have hcut:=ZB6 hA hB (s:=i - lo) (e:=mid - i) (fun e1 e2=>by
  obtain ⟨u,v,k1,k2,k3⟩:=h4 om
  exact ⟨u,v,by rw [<- k1];congr 1;omega,k2,k3⟩) (fun e1 e2=>by
  obtain ⟨u,v,k1,k2,k3⟩:=h5 om
  exact ⟨u,v,by rw [<- k1];congr 1;omega,k2,k3⟩)
 have eA:A=A.take (i - lo)++A.drop (i - lo):=(List.take_append_drop _ _).symm
 have eB:B=B.take (mid - i)++B.drop (mid - i):=(List.take_append_drop _ _).symm
 have lA1:(A.take (i - lo)).length=i - lo:=by rw [List.length_take];omega
 have lA2:(A.drop (i - lo)).length=mi - i:=by rw [List.length_drop];omega
 have lB1:(B.take (mid - i)).length=mid - i:=by rw [List.length_take];omega
 have lB2:(B.drop (mid - i)).length=hi+i - mi - mid:=by rw [List.length_drop];omega
 have uA1:=hA.take (i - lo)
 have uA2:=hA.drop (i - lo)
 have uB1:=hB.take (mid - i)
 have uB2:=hB.drop (mid - i)
 generalize A.take (i - lo)=A1 at hcut eA lA1 uA1
 generalize A.drop (i - lo)=A2 at hcut eA lA2 uA2
 generalize B.take (mid - i)=B1 at hcut eB lB1 uB1
 generalize B.drop (mid - i)=B2 at hcut eB lB2 uB2
 have hsort:=ZsG hcut
 rw [<- eA,<- eB] at hsort
 rw [<- hsort]
 obtain ⟨ed,hed⟩:∃ ed,ed+i=nn:=⟨nn - i,by omega⟩
 have w5:IntKind.i64.wrap ((nn:Int) - (i:Int))=(ed:Int):=ZaP om om om
 clear h4 h5 hcut hsort hA hB
 (have F:=ai @q2 (ai @w5 @tmz);refine gG ?_;clear F)
 refine gM (ι:=Bool) [185] [] (fun b=>[(185,.d (.one (.lit (.bool b))))]) (fun b=>[]) (fun b=>b=decide (i < mi∧mi < ed)) ?_ (fun b hb=>Exists.intro _ (ai (Wk.refl _) ?_))
 ·by_cases hr1:i < mi
  ·have q3:((i:Int) < (mi:Int))=True:=eq_true om
   by_cases hr2:mi < ed
   ·have q4:((mi:Int) < (ed:Int))=True:=eq_true om
    (have F:=ai @q3 (ai @q4 @tmz);refine gG ?_;exact ⟨true,(decide_eq_true (ai hr1 hr2)).symm,gw,gw⟩)
   ·have q4:((mi:Int) < (ed:Int))=False:=eq_false om
    (have F:=ai @q3 (ai @q4 @tmz);refine gG ?_;exact ⟨false,(decide_eq_false fun h=>hr2 h.2).symm,gw,gw⟩)
  ·have q3:((i:Int) < (mi:Int))=False:=eq_false om
   (have F:=ai @q3 @tmz;refine gG ?_;exact ⟨false,(decide_eq_false fun h=>hr1 h.1).symm,gw,gw⟩)
 subst hb
 refine gM (ι:=Unit) [] [1000] (fun z=>[]) (fun z=>[(1000,.buf (some (a,cap)) 46 4 (Zac (P++A1++B1++(A2++B2++Q))))]) (fun z=>True) ?_ (fun z hz=>Exists.intro _ (ai (Wk.refl _) ?_))
 ·by_cases hr:i < mi∧mi < ed
  ·rw [decide_eq_true hr]
   obtain ⟨hr1,hr2⟩:=hr
   have c:=Zx5 (P++A1) A2 B1 (B2++Q) om om (A:=i) (M:=mi) (B:=ed) (N:=N) (by rw [List.length_append];omega) (by rw [List.length_append];omega) (by rw [List.length_append];omega) (by rw [List.length_append,List.length_append];omega) hmx a cap
   rw [show P++A1++A2++B1++(B2++Q)=U by rw [hU,eA,eB];simp,show P++A1++B1++A2++(B2++Q)=P++A1++B1++(A2++B2++Q) by simp] at c
   generalize P++A1++B1++(A2++B2++Q)=V at c ⊢
   (have F:=@tmz;have NN:Zai 40:=trivial;refine gGn ?_;clear F NN)
   refine gB ?_
   (have F:=@tmz;refine gCP [1000] [1000] (c) ?_;clear F)
   rintro r pm ⟨rfl,rfl⟩
   simp only [setA,retA,zipM,List.cons_append,List.nil_append]
   (have F:=@tmz;refine gR ?_;clear F)
   exact ⟨(),trivial,gw,gw⟩
  ·have hUU:U=P++A1++B1++(A2++B2++Q):=by
    rw [hU,eA,eB]
    rcases (show mi<=i∨mid<=i by omega) with h | h
    ·have:A2=[]:=List.eq_nil_of_length_eq_zero om
     subst this;simp
    ·have:B1=[]:=List.eq_nil_of_length_eq_zero om
     subst this;simp
   rw [<- hUU,decide_eq_false hr]
   (have F:=@tmz;refine gG ?_;exact ⟨(),trivial,gw,gw⟩)
 clear hU hUl U
 refine Zdz ?_
 refine Zdz ?_
 refine gM (ι:=Bool) [199] [] (fun b=>[(199,.d (.one (.lit (.bool b))))]) (fun b=>[]) (fun b=>b=decide (lo < i∧i < mid)) ?_ (fun b hb=>Exists.intro _ (ai (Wk.refl _) ?_))
 ·by_cases hr1:lo < i
  ·have q3:((lo:Int) < (i:Int))=True:=eq_true om
   by_cases hr2:i < mid
   ·have q4:((i:Int) < (mid:Int))=True:=eq_true om
    (have F:=ai @q3 (ai @q4 @tmz);refine gG ?_;exact ⟨true,(decide_eq_true (ai hr1 hr2)).symm,gw,gw⟩)
   ·have q4:((i:Int) < (mid:Int))=False:=eq_false om
    (have F:=ai @q3 (ai @q4 @tmz);refine gG ?_;exact ⟨false,(decide_eq_false fun h=>hr2 h.2).symm,gw,gw⟩)
  ·have q3:((lo:Int) < (i:Int))=False:=eq_false om
   (have F:=ai @q3 @tmz;refine gG ?_;exact ⟨false,(decide_eq_false fun h=>hr1 h.1).symm,gw,gw⟩)
 subst hb
 refine gM (ι:=Unit) [] [1000] (fun z=>[]) (fun z=>[(1000,.buf (some (a,cap)) 46 4 (Zac (P++Zas (A1++B1)++(A2++B2++Q))))]) (fun z=>True) ?_ (fun z hz=>Exists.intro _ (ai (Wk.refl _) ?_))
 ·by_cases hr:lo < i∧i < mid
  ·rw [decide_eq_true hr]
   obtain ⟨hr1,hr2⟩:=hr
   have c:=ih P A1 B1 (A2++B2++Q) om om om uA1 uB1 (lo:=lo) (mi:=i) (hi:=mid) (N:=N) hlo om om (by simp only [List.length_append];omega) hmx a cap
   generalize P++Zas (A1++B1)++(A2++B2++Q)=V at c ⊢
   generalize P++A1++B1++(A2++B2++Q)=V' at c ⊢
   (have F:=@tmz;have NN:Zai 42:=trivial;refine gGn ?_;clear F NN)
   refine gB ?_
   (have F:=@tmz;refine gCP [1000] [1000] (c) ?_;clear F)
   rintro r pm ⟨rfl,rfl⟩
   simp only [setA,retA,zipM,List.cons_append,List.nil_append]
   (have F:=@tmz;refine gR ?_;clear F)
   exact ⟨(),trivial,gw,gw⟩
  ·have hs:Zas (A1++B1)=A1++B1:=by
    rcases (show i<=lo∨mid<=i by omega) with h | h
    ·have:A1=[]:=List.eq_nil_of_length_eq_zero om
     subst this;exact ZdY uB1
    ·have:B1=[]:=List.eq_nil_of_length_eq_zero om
     subst this;rw [List.append_nil];exact ZdY uA1
   rw [hs,<- List.append_assoc P,decide_eq_false hr]
   generalize P++A1++B1++(A2++B2++Q)=V
   (have F:=@tmz;refine gG ?_;exact ⟨(),trivial,gw,gw⟩)
 have hsl:(Zas (A1++B1)).length=mid - lo:=by rw [Zcv,List.length_append];omega
 generalize Zas (A1++B1)=S1 at hsl ⊢
 rw [show P++S1++(A2++B2++Q)=P++S1++A2++B2++Q by simp,show P++(S1++Zas (A2++B2))++Q=P++S1++Zas (A2++B2)++Q by simp]
 refine Zdz ?_
 refine gM (ι:=Bool) [213] [] (fun b=>[(213,.d (.one (.lit (.bool b))))]) (fun b=>[]) (fun b=>b=decide (mid < ed∧ed < hi)) ?_ (fun b hb=>Exists.intro _ (ai (Wk.refl _) ?_))
 ·by_cases hr1:mid < ed
  ·have q3:((mid:Int) < (ed:Int))=True:=eq_true om
   by_cases hr2:ed < hi
   ·have q4:((ed:Int) < (hi:Int))=True:=eq_true om
    (have F:=ai @q3 (ai @q4 @tmz);refine gG ?_;exact ⟨true,(decide_eq_true (ai hr1 hr2)).symm,gw,gw⟩)
   ·have q4:((ed:Int) < (hi:Int))=False:=eq_false om
    (have F:=ai @q3 (ai @q4 @tmz);refine gG ?_;exact ⟨false,(decide_eq_false fun h=>hr2 h.2).symm,gw,gw⟩)
  ·have q3:((mid:Int) < (ed:Int))=False:=eq_false om
   (have F:=ai @q3 @tmz;refine gG ?_;exact ⟨false,(decide_eq_false fun h=>hr1 h.1).symm,gw,gw⟩)
 subst hb
 by_cases hr:mid < ed∧ed < hi
 ·rw [decide_eq_true hr]
  obtain ⟨hr1,hr2⟩:=hr
  have c:=ih (P++S1) A2 B2 Q om om om uA2 uB2 (lo:=mid) (mi:=ed) (hi:=hi) (N:=N) (by rw [List.length_append];omega) (by rw [List.length_append];omega) (by rw [List.length_append];omega) (by simp only [List.length_append];omega) hmx a cap
  generalize P++S1++Zas (A2++B2)++Q=V at c ⊢
  generalize P++S1++A2++B2++Q=V' at c ⊢
  (have F:=@tmz;have NN:Zai 44:=trivial;refine gGn ?_;clear F NN)
  refine gB ?_
  (have F:=@tmz;refine gCP [1000] [1000] (c) ?_;clear F)
  rintro r pm ⟨rfl,rfl⟩
  simp only [setA,retA,zipM,List.cons_append,List.nil_append]
  (have F:=@tmz;refine gR ?_;clear F)
  first | exact (have F:=@e0P;gTPe (R:=RBuf a cap V) [1000] ⟨rfl,rfl⟩) | exact (have F:=@e0P;gTP (R:=RBuf a cap V) [1000] ⟨rfl,rfl⟩)
 ·have hs:Zas (A2++B2)=A2++B2:=by
   rcases (show ed<=mid∨hi<=ed by omega) with h | h
   ·have:A2=[]:=List.eq_nil_of_length_eq_zero om
    subst this;exact ZdY uB2
   ·have:B2=[]:=List.eq_nil_of_length_eq_zero om
    subst this;rw [List.append_nil];exact ZdY uA2
  rw [hs,<- List.append_assoc (P++S1),decide_eq_false hr]
  generalize P++S1++A2++B2++Q=V
  (have F:=@tmz;refine gG ?_;clear F)
  first | exact (have F:=@e0P;gTPe (R:=RBuf a cap V) [1000] ⟨rfl,rfl⟩) | exact (have F:=@e0P;gTP (R:=RBuf a cap V) [1000] ⟨rfl,rfl⟩)
theorem Zok {X A B r ts:List Tm} (h:(X++A++r).Perm ts) (hB:B.Perm A):(X++B++r).Perm ts:=((List.Perm.append_left X hB).append_right r).trans h
set_option maxRecDepth 100000 in
theorem Zol (ts:List Tm) {N:Nat} (hN:N=ts.length) (hmx:N<=4000000) (a:Option Addr) (cap:Nat) :
  ConP e0 232 [.one (.lit (.slice a N cap)),.one (.lit (.int .i64 N)),.one (.fn 82 [])] [.buf (some (a,cap)) 46 4 (Zac ts)] (RBuf a cap (Zas ts)):=by
 refine gIP (ts:=[]) [1000] 18014433942971335 Tryz.func232 ?_
 (have F:=@tmz;refine gG ?_;clear F)
 (have F:=@tmz;refine gL (ι:=(Nat × Nat) × List Tm) [7,8,13] [1000] (fun z=>[(7,.d (.one (.lit (.int .i64 (z.1.1:Int))))),(8,.d (.one (.lit (.int .i64 (z.1.2:Int)))))]) (fun z=>[(1000,.buf (some (a,cap)) 46 4 (Zac z.2))]) (fun z=>z.1.2=z.1.1+20∧z.1.1<=N∧∃ X,z.2=X++ts.drop z.1.1∧X.length=z.1.1∧Full 20 X∧X.Perm (ts.take z.1.1)) (fun z=>N - z.1.1) (((0,20),ts)) (⟨rfl,Nat.zero_le _,[],rfl,rfl,.nil,List.Perm.refl _⟩) (fun z hz=>?_);clear F)
 obtain ⟨⟨i,j⟩,us⟩:=z
 obtain ⟨hj,hi,X,hus,hX,hF,hp⟩:=hz
 simp only at hj hi hus hX hp
 dsimp only
 by_cases hlt:j<=N
 ·have q1:((j:Int)<=(N:Int))=True:=eq_true om
  have hd:ts.drop i=(ts.drop i).take 20++ts.drop j:=by rw [hj,<- List.drop_drop,List.take_append_drop]
  have hl:((ts.drop i).take 20).length=20:=by rw [List.length_take,List.length_drop];omega
  have ht:ts.take j=ts.take i++(ts.drop i).take 20:=by rw [hj,List.take_add]
  have c:=Zoh X ((ts.drop i).take 20) (ts.drop j) (A:=i) (B:=j) (N:=N) hX.symm om (by rw [List.length_drop];omega) hmx a cap
  rw [List.append_assoc X,<- hd,<- hus] at c
  have wj:IntKind.i64.wrap ((j:Int)+20)=((j+20:Nat):Int):=ZaP om om om
  obtain ⟨V,hV⟩:∃ V,V=X++Zas ((ts.drop i).take 20)++ts.drop j:=⟨_,rfl⟩
  rw [<- hV] at c
  obtain ⟨j',hj'⟩:∃ j',j'=j+20:=⟨_,rfl⟩
  rw [<- hj'] at wj
  (have F:=ai @q1 @tmz;have NN:Zai 3:=trivial;refine gGn ?_;clear F NN)
  refine gB ?_
  (have F:=@tmz;refine gCP [1000] [1000] (c) ?_;clear F)
  rintro r pm ⟨rfl,rfl⟩
  simp only [setA,retA,zipM,List.cons_append,List.nil_append]
  (have F:=@tmz;refine gR ?_;clear F)
  (have F:=@wj;refine gG ?_;exact ⟨((j,j'),V),⟨hj',hlt,X++Zas ((ts.drop i).take 20),hV,by rw [List.length_append,Zcv];simp only;omega,hF.snoc (by rw [Zcv];exact hl) (Zcg _),by simp only;rw [ht];exact hp.append (Zbd _)⟩,gw,gw,by dsimp only;omega⟩)
 have q1:((j:Int)<=(N:Int))=False:=eq_false om
 have c:=Zoh X (ts.drop i) [] (A:=i) (B:=N) (N:=N) hX.symm (by rw [List.length_drop];omega) (by rw [List.length_drop];simp;omega) hmx a cap
 rw [List.append_nil,List.append_nil,<- hus] at c
 have hB:Blks 20 (X++Zas (ts.drop i)):=hF.blks (by rw [Zcv,List.length_drop];omega) (Zcg _)
 have hP:(X++Zas (ts.drop i)).Perm ts:=by
  have:=hp.append (Zbd (ts.drop i))
  rwa [List.take_append_drop] at this
 generalize X++Zas (ts.drop i)=vs at c hB hP
 (have F:=ai @q1 @tmz;have NN:Zai 6:=trivial;refine gGn ?_;clear F NN)
 refine gB ?_
 (have F:=@tmz;refine gCP [1000] [1000] (c) ?_;clear F)
 rintro r pm ⟨rfl,rfl⟩
 simp only [setA,retA,zipM,List.cons_append,List.nil_append]
 (have F:=@tmz;refine gR ?_;clear F)
 clear c q1 hus hF hp us X hX hi hj
 (have F:=@tmz;refine gG ?_;clear F)
 (have F:=@tmz;refine gL (ι:=Nat × List Tm) [6,7,8,9,30,35,54] [1000] (fun z=>[(6,.d (.one (.lit (.int .i64 (z.1:Int)))))]) (fun z=>[(1000,.buf (some (a,cap)) 46 4 (Zac z.2))]) (fun z=>0 < z.1∧z.1<=8000000∧Blks z.1 z.2∧z.2.Perm ts) (fun z=>N - z.1) ((20,vs)) (⟨by omega,by omega,hB,hP⟩) (fun z hz=>?_);clear F)
 clear hB hP vs hlt i j
 obtain ⟨k,us⟩:=z
 obtain ⟨hk0,hk8,hB,hP⟩:=hz
 simp only at hk0 hk8 hB hP
 dsimp only
 by_cases hlt:k < N
 rotate_left
 ·have q1:((k:Int) < (N:Int))=False:=eq_false om
  have e:us=Zas ts:=Ze6 hP (hB.up (by rw [hP.length_eq];omega))
  subst e
  (have F:=ai @q1 @tmz;refine gG ?_;clear F)
  first | exact (have F:=@e0P;gTPe (R:=RBuf a cap (Zas ts)) [1000] ⟨rfl,rfl⟩) | exact (have F:=@e0P;gTP (R:=RBuf a cap (Zas ts)) [1000] ⟨rfl,rfl⟩)
 have q1:((k:Int) < (N:Int))=True:=eq_true om
 obtain ⟨k2,hk2⟩:∃ k2,k2=2 * k:=⟨_,rfl⟩
 have w1:IntKind.i64.wrap (2 * (k:Int))=(k2:Int):=ZaP om om om
 have w2:IntKind.i64.wrap ((k:Int) * 2)=(k2:Int):=ZaP om om om
 (have F:=ai @q1 (ai @w1 @tmz);refine gG ?_;clear F)
 (have F:=@tmz;refine gL (ι:=(Nat × Nat) × List Tm) [7,8,35] [1000] (fun z=>[(7,.d (.one (.lit (.int .i64 (z.1.1:Int))))),(8,.d (.one (.lit (.int .i64 (z.1.2:Int)))))]) (fun z=>[(1000,.buf (some (a,cap)) 46 4 (Zac z.2))]) (fun z=>z.1.2=z.1.1+k2∧z.1.1<=N∧∃ X Y,z.2=X++Y∧X.length=z.1.1∧Full k2 X∧Blks k Y∧(X++Y).Perm ts) (fun z=>N - z.1.1) (((0,k2),us)) (⟨(Nat.zero_add _).symm,Nat.zero_le _,[],us,rfl,rfl,.nil,hB,hP⟩) (fun z hz=>?_);clear F)
 obtain ⟨⟨i,j⟩,vs⟩:=z
 obtain ⟨hj,hi,X,Y,hvs,hX,hF,hY,hp⟩:=hz
 simp only at hj hi hvs hX
 dsimp only
 have hpl:=hp.length_eq
 rw [List.length_append] at hpl
 obtain ⟨m,hm⟩:∃ m,m=i+k:=⟨_,rfl⟩
 have w3:IntKind.i64.wrap ((i:Int)+(k:Int))=(m:Int):=ZaP om om om
 by_cases hjl:j<=N
 ·have q2:((j:Int)<=(N:Int))=True:=eq_true om
  obtain ⟨A,B,r,hY',hA,hB',uA,uB,hr⟩:=hY.two hk0 om
  have hYl:=congrArg List.length hY'
  simp only [List.length_append] at hYl
  have c:=Zoj _ X A B r (Nat.le_refl _) om om uA uB (lo:=i) (mi:=m) (hi:=j) (N:=N) hX.symm om om om hmx a cap
  have e1:X++A++B++r=vs:=by rw [hvs,hY'];simp
  rw [e1] at c
  have hp2:(X++Zas (A++B)++r).Perm ts:=Zok (A:=A++B) (by rw [<- List.append_assoc,e1,hvs];exact hp) (Zbd _)
  obtain ⟨V,hV⟩:∃ V,V=X++Zas (A++B)++r:=⟨_,rfl⟩
  rw [<- hV] at c
  obtain ⟨j',hj'⟩:∃ j',j'=j+k2:=⟨_,rfl⟩
  have wj:IntKind.i64.wrap ((j:Int)+(k2:Int))=(j':Int):=ZaP om om om
  (have F:=ai @q2 @tmz;have NN:Zai 10:=trivial;refine gGn ?_;clear F NN)
  refine gB ?_
  (have F:=ai @tmz @w3;refine gCP [1000] [1000] (c) ?_;clear F)
  rintro r' pm ⟨rfl,rfl⟩
  simp only [setA,retA,zipM,List.cons_append,List.nil_append]
  (have F:=@tmz;refine gR ?_;clear F)
  (have F:=ai @w1 @wj;refine gG ?_;exact ⟨((j,j'),V),⟨hj',hjl,X++Zas (A++B),r,hV,by simp only;rw [List.length_append,Zcv,List.length_append];omega,hF.snoc (by rw [Zcv,List.length_append];omega) (Zcg _),hr,hp2⟩,gw,gw,by dsimp only;omega⟩)
 have q2:((j:Int)<=(N:Int))=False:=eq_false om
 by_cases hmn:m < N
 ·have q3:((m:Int) < (N:Int))=True:=eq_true om
  obtain ⟨A,B,hY',hA,uA,hB'⟩:=hY.split om
  have hYl:=congrArg List.length hY'
  simp only [List.length_append] at hYl
  have uB:=hB'.up om
  have c:=Zoj _ X A B [] (Nat.le_refl _) om om uA uB (lo:=i) (mi:=m) (hi:=N) (N:=N) hX.symm om om (by simp only [List.length_nil];omega) hmx a cap
  have e1:X++A++B++[]=vs:=by rw [hvs,hY'];simp
  rw [e1] at c
  have hp2:(X++Zas (A++B)++[]).Perm ts:=Zok (A:=A++B) (by rw [<- List.append_assoc,e1,hvs];exact hp) (Zbd _)
  rw [List.append_nil] at hp2
  obtain ⟨V,hV⟩:∃ V,V=X++Zas (A++B):=⟨_,rfl⟩
  rw [List.append_nil,<- hV] at c
  (have F:=ai @q2 (ai @q3 (ai @w3 @tmz));have NN:Zai 15:=trivial;refine gGn ?_;clear F NN)
  refine gB ?_
  (have F:=@tmz;refine gCP [1000] [1000] (c) ?_;clear F)
  rintro r' pm ⟨rfl,rfl⟩
  simp only [setA,retA,zipM,List.cons_append,List.nil_append]
  (have F:=@tmz;refine gR ?_;clear F)
  (have F:=@w2;refine gG ?_;exact ⟨(k2,V),⟨by omega,by omega,by rw [hV];exact hF.blks (by rw [Zcv,List.length_append];omega) (Zcg _),by rw [hV];exact hp2⟩,gw,gw,by omega⟩)
 have q3:((m:Int) < (N:Int))=False:=eq_false om
 (have F:=ai @q2 (ai @q3 (ai @w2 @w3));refine gG ?_;exact ⟨(k2,vs),⟨by omega,by omega,by rw [hvs];exact hF.blks om (hY.up om),by rw [hvs];exact hp⟩,gw,gw,by omega⟩)
set_option maxRecDepth 100000 in
theorem Zpd (ts:List Tm) (hmx:ts.length<=4000000) (a:Option Addr) (cap:Nat) :
  ConP e0 179 [.one (.lit (.slice a ts.length cap)),.one (.fn 82 [])] [.buf (some (a,cap)) 46 4 (Zac ts)] (RBuf a cap (Zas ts)):=by
 refine gIP (ts:=[]) [1000] 3 Tryz.func179 ?_
 refine gB ?_
 (have F:=@tmz;refine gCP [1000] [1000] (Zol ts rfl hmx a cap) ?_;clear F)
 rintro r pm ⟨rfl,rfl⟩
 simp only [setA,retA,zipM,List.cons_append,List.nil_append]
 (have F:=@tmz;refine gR ?_;clear F)
 (have F:=@tmz;refine gG ?_;clear F)
 first | exact (have F:=@e0P;gTPe (R:=RBuf a cap (Zas ts)) [1000] ⟨rfl,rfl⟩) | exact (have F:=@e0P;gTP (R:=RBuf a cap (Zas ts)) [1000] ⟨rfl,rfl⟩)
def zTm:Tm:=.mk 0 ByteArray.empty 0 []
theorem ZiN:Zae zTm=[.lit (.int .i64 0),.lit (.string ByteArray.empty),.lit (.int .i64 0),.sl []]:=by simp [zTm,Zae,Zac]
theorem Zdf:Zac []=[]:=by simp [Zac]
theorem Ziq {g:Sgn} {o:Opr} {op:Int}:∀ {xs:List Tm},(∀ a∈xs,TermOk g a)->(Zar o op xs).length<=60 * xs.length∧sizeTms (Zar o op xs)<=60 * xs.length∧depthTms (Zar o op xs)<=20
 | [],_=>⟨Nat.le_refl _,Nat.le_refl _,by simp [Zar,depthTms]⟩
 | a::xs,h=>by
  obtain ⟨i1,i2,i3⟩:=Ziq (o:=o) (op:=op) fun x hx=>h x (List.mem_cons_of_mem _ hx)
  have ha:=h a List.mem_cons_self
  have e:Zar o op (a::xs)=Zbf o op a++Zar o op xs:=rfl
  have s1:=ha.size
  have s2:=ha.depth
  rw [Za7] at s1
  rw [Zfp] at s2
  have sl:=Zbx a.args
  have hf:(Zbf o op a).length<=60∧sizeTms (Zbf o op a)<=60∧depthTms (Zbf o op a)<=20:=by
   unfold Zbf
   split
   ·exact ⟨by omega,by omega,by omega⟩
   ·split
    ·exact ⟨by simp,by simp [sizeTms],by simp [depthTms]⟩
    ·refine ⟨by simp,?_,?_⟩
     ·have:=ha.size;simp only [sizeTms];omega
     ·have:=ha.depth;simp only [depthTms];omega
  have happ:∀ (l m:List Tm),sizeTms (l++m)=sizeTms l+sizeTms m∧depthTms (l++m)=max (depthTms l) (depthTms m):=fun l m=>by
   induction l with
   | nil=>simp [sizeTms,depthTms]
   | cons x l ih=>simp only [List.cons_append,sizeTms,depthTms,ih.1,ih.2];omega
  rw [e,List.length_append,(happ _ _).1,(happ _ _).2,List.length_cons]
  omega
section
variable {g:Sgn} {mc:C}
set_option maxRecDepth 100000 in
theorem ZsQ (hg:SgnOk g) {op:Int} {o:Opr} (h0:0<=op) (ho:g.ops[op.toNat]?=some o) (hu:o.unit≠0):Con e0 178 [.one (.ptr (encX g mc)),.one (.lit (.int .i64 op))] [.agg (Zae (Zbv o))]:=by
 have hax:=hg.axs o (List.mem_of_getElem? ho)
 have hlo:=hax.lo
 have hhi:=hax.hi
 have hln:=hg.len
 have hw:IntKind.i64.wrap (o.unit - 1)=o.unit - 1:=ZaP rfl om om
 have em:Zae (Zbv o)=[.lit (.int .i64 (o.unit - 1)),.lit (.string ByteArray.empty),.lit (.int .i64 0),.sl []]:=by simp only [Zbv,if_neg hu,Zae,Zac]
 refine gI (ts:=[.cell 4 46]) 19 Tryz.func178 ?_
 (have F:=ai @ZaY (ai @h0 (ai @ho (ai @Zaj (ai @hw (ai @em @tmz)))));refine gG ?_;exact gTd)
open Classical in
set_option maxRecDepth 100000 in
theorem ZwP (hg:SgnOk g) {op:Int} {o:Opr} {d:Dcl} (h0:0<=op) (ho:g.ops[op.toNat]?=some o) (hd:o.decls[0]?=some d) (xs:List Tm) (ha:∀ a∈xs,TermOk g a) (hl:xs.length<=1000):Con e0 118 [.one (.ptr (encX g mc)),.one (.lit (.int .i64 op)),.one (.sl (Zac xs))] [.agg (Zae ((mkO g o d op xs).getD zTm)),.one (.lit (.bool (mkO g o d op xs).isSome))]:=by
 have hz:=ZiN
 have hfb:=Ziq (o:=o) (op:=op) ha
 refine gI (ts:=[.cell 6 46,.slot 7]) 85070612101775940130758990405381922759 Tryz.func118 ?_
 by_cases hAr:ArB o d xs.length
 ·rw [show mkO g o d op xs=none by unfold mkO;rw [if_pos hAr]]
  rcases hAr with ⟨h1,h2⟩ | ⟨h1,h2⟩
  ·have q1:((xs.length:Int) < 2)=True:=eq_true om
   (have F:=ai @ZaY (ai @h0 (ai @ho (ai @Zaj (ai @h1 (ai @q1 (ai @hz @tmz))))));refine gG ?_;exact gTd)
  ·have q1:((xs.length:Int)=(d.args.length:Int))=False:=eq_false om
   (have F:=ai @ZaY (ai @h0 (ai @ho (ai @Zaj (ai @h1 (ai @hd (ai @ZaN (ai @q1 (ai @hz @tmz))))))));refine gG ?_;exact gTd)
 (have F:=ai @tmz (ai @ZaY (ai @h0 (ai @ho @Zaj)));refine gG ?_;clear F)
 refine gM (ι:=Unit) [43] [] (fun u=>[(43,A.d (.one (.lit (.bool false))))]) (fun u=>[]) (fun u=>True) ?_ (fun u hu=>Exists.intro _ (ai (Wk.refl _) ?_))
 ·cases ha:o.assoc with
  | true =>
   have c1:((xs.length:Int) < 2)=False:=eq_false fun c=>hAr (.inl ⟨ha,by omega⟩)
   (have F:=ai @tmz (ai @Zaj (ai @ha @c1));refine gG ?_;exact ⟨(),trivial,gw,gw⟩)
  | false =>
   have c3:((xs.length:Int)=(d.args.length:Int))=True:=eq_true (by have:¬ (xs.length≠d.args.length):=fun c=>hAr (.inr ⟨ha,c⟩);omega)
   (have F:=ai @tmz (ai @Zaj (ai @ha (ai @hd (ai @ZaN @c3))));refine gG ?_;exact ⟨(),trivial,gw,gw⟩)
 have hnas:o.assoc=false->xs.length=d.args.length:=fun h=>Classical.byContradiction fun c=>hAr (.inr ⟨h,c⟩)
 have hfl0:Zar o op []=[]:=rfl
 (have F:=@tmz;refine gG ?_;clear F)
 (have F:=ai @hfl0 (ai @Zdf @tmz);refine gL (ι:=Nat) [7,9,10,11,48,49,60,62,75] [9] (fun i=>[(48,A.d (.one (.lit (.int .i64 i)))),(9,.buf 9)]) (fun i=>[(9,.buf none 46 4 (Zac (Zar o op (xs.take i))))]) (fun i=>i<=xs.length∧∀ (j:Nat) a,j < i->xs[j]?=some a->KArg g o d j a) (fun i=>xs.length - i) (0) (⟨Nat.zero_le _,fun j a h=>absurd h om⟩) (fun i hi=>?_);clear F)
 obtain ⟨hi,hall⟩:=hi
 by_cases hlt:i < xs.length
 ·obtain ⟨a,hai⟩:∃ a,xs[i]?=some a:=⟨_,List.getElem?_eq_getElem hlt⟩
  have hT:=ha a (List.mem_of_getElem? hai)
  have q1:((i:Int) < (xs.length:Int))=True:=eq_true om
  have hw1:=Zav (k:=i) om
  obtain ⟨k,hk⟩:=Zgb hg ho hd hnas hlt
  have hst:=Zjg (o:=o) (op:=op) hai
  have hle:=Zgd o op xs (i+1)
  rw [hst,List.length_append] at hle
  (have F:=ai @q1 (ai @hai @tmz);have NN:Zai 8:=trivial;refine gGn ?_;clear F NN)
  refine gB ?_
  (have F:=@tmz;refine gC (Zkv hg hT.form.node) ?_;clear F)
  (have F:=@tmz;refine gC (Zi9 hg h0 ho hd hk) ?_;clear F)
  by_cases hkd:ZbA g a=((kd g.sorts k:Nat):Int)
  rotate_left
  ·have e:mkO g o d op xs=none:=by
    unfold mkO
    rw [if_neg hAr,if_neg fun h=>by
     obtain ⟨k',hk',he⟩:=h i a hai
     rw [hk] at hk'
     injection hk' with hk'
     subst hk'
     exact hkd he]
   rw [e]
   (have F:=ai @tmz @hkd;refine gR ?_;clear F)
   (have F:=ai @hz @tmz;refine gG ?_;exact gTd)
  have hnext:i+1<=xs.length∧∀ (j:Nat) a,j < i+1->xs[j]?=some a->KArg g o d j a:=⟨hlt,fun j a' hj ha'=>by
   by_cases e:j=i
   ·subst e
    rw [hai] at ha'
    injection ha' with ha'
    subst ha'
    exact ⟨k,hk,hkd⟩
   ·exact hall j a' om ha'⟩
  have l1:ZaV 4 (Zac (Zar o op (xs.take i)))=true:=Zfm _
  have l5:ZaV 4 (Zac a.args)=true:=Zfm _
  by_cases hN:o.assoc=true∧a.op=op
  ·have e:Zbf o op a=a.args:=by unfold Zbf;rw [if_pos hN]
   rw [e] at hst hle
   have l3:((Zar o op (xs.take i)).length+a.args.length<=maxApp)=True:=eq_true (by unfold maxApp;omega)
   have l4:Zac (Zar o op (xs.take i))++Zac a.args=Zac (Zar o op (xs.take (i+1))):=by rw [hst,ZdO]
   obtain ⟨hN1,hN2⟩:=hN
   have q2:(a.op=op)=True:=eq_true hN2
   (have F:=ai @tmz @hkd;refine gR ?_;clear F)
   (have F:=ai @tmz (ai @Zaj (ai @hN1 (ai @q2 (ai @l1 (ai @l5 (ai @l3 (ai @l4 @hw1)))))));refine gG ?_;exact ⟨i+1,hnext,gw,gw,by omega⟩)
  ·have cU:=Zkw (mc:=mc) hg h0 ho a
   have hne:o.assoc=true->(a.op=op)=False:=fun h1=>eq_false fun h2=>hN ⟨h1,h2⟩
   (have F:=ai @tmz @hkd;refine gR ?_;clear F)
   (have F:=ai @tmz (ai @Zaj @hne);have NN:Zai 12:=trivial;refine gGn ?_;clear F NN)
   by_cases hU:o.unit≠0∧a.op=o.unit - 1
   ·have e:Zbf o op a=[]:=by unfold Zbf;rw [if_neg hN,if_pos hU]
    rw [e,List.append_nil] at hst
    rw [decide_eq_true hU] at cU
    rw [<- hst]
    rcases Bool.eq_false_or_eq_true o.assoc with hac | hac
    ·have hq:=hne hac
     (have F:=ai @tmz (ai @Zaj (ai @hac @hq));have NN:Zai 12:=trivial;refine gGn ?_;clear F NN)
     refine gB ?_
     (have F:=@tmz;refine gC (cU) ?_;clear F)
     (have F:=@tmz;refine gR ?_;clear F)
     (have F:=ai @tmz (ai @hac @hw1);refine gG ?_;exact ⟨i+1,hnext,gw,gw,by omega⟩)
    ·(have F:=ai @tmz (ai @Zaj @hac);have NN:Zai 12:=trivial;refine gGn ?_;clear F NN)
     refine gB ?_
     (have F:=@tmz;refine gC (cU) ?_;clear F)
     (have F:=@tmz;refine gR ?_;clear F)
     (have F:=ai @tmz (ai @hac @hw1);refine gG ?_;exact ⟨i+1,hnext,gw,gw,by omega⟩)
   ·have e:Zbf o op a=[a]:=by unfold Zbf;rw [if_neg hN,if_neg hU]
    rw [e] at hst hle
    rw [decide_eq_false hU] at cU
    have l3:((Zar o op (xs.take i)).length+1<=maxApp)=True:=eq_true (by simp only [List.length_cons,List.length_nil] at hle;unfold maxApp;omega)
    have l4:Zac (Zar o op (xs.take i))++[Zae a]=Zac (Zar o op (xs.take (i+1))):=by rw [hst,ZdO,ZkE]
    rcases Bool.eq_false_or_eq_true o.assoc with hac | hac
    ·have hq:=hne hac
     (have F:=ai @tmz (ai @Zaj (ai @hac @hq));have NN:Zai 12:=trivial;refine gGn ?_;clear F NN)
     refine gB ?_
     (have F:=@tmz;refine gC (cU) ?_;clear F)
     (have F:=@tmz;refine gR ?_;clear F)
     (have F:=ai @tmz (ai @hac (ai @l1 (ai @l3 (ai @l4 @hw1))));refine gG ?_;exact ⟨i+1,hnext,gw,gw,by omega⟩)
    ·(have F:=ai @tmz (ai @Zaj @hac);have NN:Zai 12:=trivial;refine gGn ?_;clear F NN)
     refine gB ?_
     (have F:=@tmz;refine gC (cU) ?_;clear F)
     (have F:=@tmz;refine gR ?_;clear F)
     (have F:=ai @tmz (ai @hac (ai @l1 (ai @l3 (ai @l4 @hw1))));refine gG ?_;exact ⟨i+1,hnext,gw,gw,by omega⟩)
 ·obtain rfl:i=xs.length:=by omega
  have q1:((xs.length:Int) < (xs.length:Int))=False:=eq_false om
  rw [List.take_length]
  have hm:mkO g o d op xs=mkL o op (Zar o op xs):=by
   unfold mkO
   rw [if_neg hAr,if_pos fun j a h=>hall j a (List.getElem?_eq_some_iff.1 h).1 h]
  rw [hm]
  clear hm hall hnas
  generalize hL:Zar o op xs=L at hfb ⊢
  obtain ⟨b1,b2,b3⟩:=hfb
  have hax:=hg.axs o (List.mem_of_getElem? ho)
  have hlo:=hax.lo
  have cUn:=fun hu=>ZsQ (mc:=mc) hg h0 ho hu
  by_cases hu:o.unit≠0∧L.length < 2
  ·have e:mkL o op L=some (L.headD (Zbv o)):=by unfold mkL;rw [if_pos hu]
   rw [e]
   obtain ⟨hu1,hu2⟩:=hu
   have q2:(o.unit=0)=False:=eq_false hu1
   have q3:((L.length:Int) < 2)=True:=eq_true om
   cases L with
   | nil =>
    have z1:(((0:Nat):Int) < 2)=True:=eq_true om
    have z2:(((0:Nat):Int)=1)=False:=eq_false om
    (have F:=ai @q1 (ai @Zaj (ai @q2 (ai @z1 (ai @z2 @tmz))));have NN:Zai 18:=trivial;refine gGn ?_;clear F NN)
    refine gB ?_
    (have F:=@tmz;refine gC (cUn hu1) ?_;clear F)
    (have F:=@tmz;refine gR ?_;clear F)
    (have F:=@tmz;refine gG ?_;exact gTd)
   | cons b bs =>
    have hb:bs=[]:=List.eq_nil_of_length_eq_zero (by simp only [List.length_cons] at hu2;omega)
    subst hb
    have z1:(((0+1:Nat):Int) < 2)=True:=eq_true om
    have z2:(((0+1:Nat):Int)=1)=True:=eq_true om
    have z3:(((1:Nat):Int) < 2)=True:=eq_true om
    have z4:(((1:Nat):Int)=1)=True:=eq_true om
    have q5:([b]:List Tm)[0]?=some b:=rfl
    have z5:(0 < 0+1)=True:=eq_true om
    have z6:((0:Nat) < 1)=True:=eq_true om
    have z7:Int.toNat 0=0:=rfl
    have q6:(0 < [b].length)=True:=eq_true (by simp)
    (have F:=ai @q1 (ai @Zaj (ai @q2 (ai @q3 (ai @z1 (ai @z2 (ai @z3 (ai @z4 (ai @z5 (ai @z6 (ai @z7 (ai @q5 (ai @q6 @tmz))))))))))));refine gG ?_;exact gTd)
  ·have hml:mkL o op L=if BigT o op (srtO o L) then none else some (appT op (srtO o L)):=by unfold mkL;rw [if_neg hu]
   rw [hml]
   clear hml cUn
   (have F:=ai @q1 @tmz;refine gG ?_;clear F)
   refine gM (ι:=Unit) [93] [] (fun u=>[(93,A.d (.one (.lit (.bool false))))]) (fun u=>[]) (fun u=>True) ?_ (fun u hu=>Exists.intro _ (ai (Wk.refl _) ?_))
   ·by_cases hu0:o.unit=0
    ·have q2:(o.unit=0)=True:=eq_true hu0
     (have F:=ai @Zaj (ai @q2 @tmz);refine gG ?_;exact ⟨(),trivial,gw,gw⟩)
    ·have q2:(o.unit=0)=False:=eq_false hu0
     have q3:((L.length:Int) < 2)=False:=eq_false fun h=>hu ⟨hu0,by omega⟩
     (have F:=ai @Zaj (ai @q2 (ai @q3 @tmz));refine gG ?_;exact ⟨(),trivial,gw,gw⟩)
   (have F:=@tmz;have NN:Zai 19:=trivial;refine gGn ?_;clear F NN)
   refine pS 9 fun a cap=>?_
   refine gB ?_
   (have F:=ai @Zaj @tmz;refine gR ?_;clear F)
   refine gM (ι:=Unit) [] [9] (fun u=>[]) (fun u=>[(9,.buf (some (a,cap)) 46 4 (Zac (srtO o L)))]) (fun u=>True) ?_ (fun u hu=>Exists.intro _ (ai (Wk.refl _) ?_))
   ·cases hcm:o.comm with
    | true =>
     rw [show srtO o L=Zas L by unfold srtO;rw [if_pos hcm]]
     (have F:=ai @hcm @tmz;have NN:Zai 20:=trivial;refine gGn ?_;clear F NN)
     refine gB ?_
     (have F:=@tmz;refine gCP [9] [9] (Zpd L om a cap) ?_;clear F)
     rintro r pm ⟨rfl,rfl⟩
     simp only [setA,retA,zipM,List.cons_append,List.nil_append]
     (have F:=@tmz;refine gR ?_;clear F)
     exact (have F:=tmz;⟨(),trivial,gw,gw⟩)
    | false =>
     rw [show srtO o L=L by unfold srtO;rw [if_neg (by rw [hcm];simp)]]
     (have F:=ai @hcm @tmz;refine gG ?_;exact ⟨(),trivial,gw,gw⟩)
   have hSl:=Zn5 o L
   have sz1:=Zif (Ze7 o L)
   have dz1:=ZhA (Ze7 o L)
   generalize srtO o L=S at hSl sz1 dz1 ⊢
   rw [<- hSl,<- Zad S]
   refine pD 9 [9] [] ?_
   have em:Zae (appT op S)=[.lit (.int .i64 op),.lit (.string ByteArray.empty),.lit (.int .i64 0),.sl (Zac S)]:=by simp only [appT,Zae]
   have zs:sizeTm (appT op S)=1+sizeTms S:=by rw [Za7];rfl
   have zd:depthTm (appT op S)=1+depthTms S:=by rw [Zfp];rfl
   have c1:=Zh7 (t:=appT op S) (by unfold big;omega)
   have c2:=Zhz (t:=appT op S) (by unfold big;omega)
   rw [em] at c1 c2
   (have F:=@tmz;have NN:Zai 22:=trivial;refine gGn ?_;clear F NN)
   by_cases h7:o.assoc=true∧7 < S.length
   ·rw [if_pos (show BigT o op S from .inl h7)]
    obtain ⟨hac,h7⟩:=h7
    have q2:(7 < (S.length:Int))=True:=eq_true om
    (have F:=ai @Zaj (ai @hac (ai @q2 (ai @hz @tmz)));refine gG ?_;exact gTd)
   have hac:o.assoc=true->(7 < (S.length:Int))=False:=fun h=>eq_false fun q=>h7 ⟨h,by omega⟩
   rcases Bool.eq_false_or_eq_true o.assoc with ha' | ha'
   ·have q2:=hac ha'
    refine gB ?_
    (have F:=ai @Zaj (ai @ha' (ai @q2 @tmz));refine gC (c1) ?_;clear F)
    by_cases hs:60 < sizeTm (appT op S)
    ·have z1:((60:Int) < (sizeTm (appT op S):Int))=True:=eq_true om
     rw [if_pos (show BigT o op S from .inr (.inl hs))]
     (have F:=ai @z1 @tmz;refine gR ?_;clear F)
     (have F:=ai @hz @tmz;refine gG ?_;exact gTd)
    have z1:((60:Int) < (sizeTm (appT op S):Int))=False:=eq_false om
    (have F:=ai @z1 @tmz;refine gC (c2) ?_;clear F)
    by_cases hd2:20 < depthTm (appT op S)
    ·have z2:((20:Int) < (depthTm (appT op S):Int))=True:=eq_true om
     rw [if_pos (show BigT o op S from .inr (.inr hd2))]
     (have F:=ai @z2 @tmz;refine gR ?_;clear F)
     (have F:=ai @hz @tmz;refine gG ?_;exact gTd)
    have z2:((20:Int) < (depthTm (appT op S):Int))=False:=eq_false om
    rw [if_neg (show ¬ BigT o op S from fun h=>h.elim h7 (fun h=>h.elim hs hd2))]
    (have F:=ai @z2 @tmz;refine gR ?_;clear F)
    (have F:=ai @em @tmz;refine gG ?_;exact gTd)
   ·refine gB ?_
    (have F:=ai @Zaj (ai @ha' @tmz);refine gC (c1) ?_;clear F)
    by_cases hs:60 < sizeTm (appT op S)
    ·have z1:((60:Int) < (sizeTm (appT op S):Int))=True:=eq_true om
     rw [if_pos (show BigT o op S from .inr (.inl hs))]
     (have F:=ai @z1 @tmz;refine gR ?_;clear F)
     (have F:=ai @hz @tmz;refine gG ?_;exact gTd)
    have z1:((60:Int) < (sizeTm (appT op S):Int))=False:=eq_false om
    (have F:=ai @z1 @tmz;refine gC (c2) ?_;clear F)
    by_cases hd2:20 < depthTm (appT op S)
    ·have z2:((20:Int) < (depthTm (appT op S):Int))=True:=eq_true om
     rw [if_pos (show BigT o op S from .inr (.inr hd2))]
     (have F:=ai @z2 @tmz;refine gR ?_;clear F)
     (have F:=ai @hz @tmz;refine gG ?_;exact gTd)
    have z2:((20:Int) < (depthTm (appT op S):Int))=False:=eq_false om
    rw [if_neg (show ¬ BigT o op S from fun h=>h.elim h7 (fun h=>h.elim hs hd2))]
    (have F:=ai @z2 @tmz;refine gR ?_;clear F)
    (have F:=ai @em @tmz;refine gG ?_;exact gTd)
end
section
variable {w:World} {S:Nat->Prop}
theorem ZsR {rows:List (List C)} {ety sz cap l h:Nat} {a:Option Addr} (hb:ZaJ w S ety sz rows (.slice a rows.length cap)) (hl:l<=h∧h<=rows.length):∃ (b:Option Addr) (c:Nat) (news:List Value),sliced a l h cap sz=.slice b ((rows.take h).drop l).length c∧Zaa w S ((rows.take h).drop l).flatten news∧∀ (P:Program) (w':World),(∀ p,w'.cell? p=w.cell? p)->(Builtin.firstCells sz ((rows.take h).drop l).length (sliced a l h cap sz)).run P w'=.ok news.toArray w':=by
 have hln:((rows.take h).drop l).length=h - l:=by rw [List.length_drop,List.length_take];omega
 obtain ⟨h1,hrl,h3⟩:=hb
 by_cases he:h=l
 ·have e0:((rows.take h).drop l).length=0:=by omega
  have e1:(rows.take h).drop l=[]:=List.eq_nil_of_length_eq_zero e0
  refine ⟨_,_,[],by rw [hln];exact rfl,by rw [e1];simp [Zaa],fun P w' _=>?_⟩
  rw [e0]
  simp only [sliced,he,Nat.sub_self]
  split
  ·cases a <;> simp [Builtin.firstCells,loadCells,loadCellsFrom]
  ·cases a <;> simp [Builtin.firstCells,loadCells,loadCellsFrom]
 ·rcases h3 with ⟨h4,p,h5⟩ | ⟨g,cap',cur,h4,h5,h6,h7,h8,h9,h10,h11,h12⟩
  ·rw [h4] at hl;simp only [List.length_nil] at hl;omega
  ·injection h4 with e1 e2 e3
   subst e1 e3
   have hlc:¬ cap=l:=by omega
   have hval:sliced (some ⟨g,0,none⟩) l h cap sz=.slice (some ⟨g,l * sz,none⟩) (h - l) (cap - l):=by
    simp only [sliced,hlc,if_false,Option.map_some,Addr.add_at,Nat.zero_add]
   have hr:=Zao.sub hrl h12 l h
   rw [Nat.zero_add] at hr
   obtain ⟨news,q5,q6⟩:=hr.flat.vals
   have hsl:ZaH sz ((rows.take h).drop l):=fun r hr=>hrl r (List.mem_of_mem_take (List.mem_of_mem_drop hr))
   rw [hval]
   refine ⟨_,_,news,by rw [hln],q5,fun P w' hw=>?_⟩
   exact run_firstCells_some w' sz _ _ _ _ news (by rw [q5.len,ZbE hsl]) (fun j u hj=>by rw [hw,Addr.add_at];exact q6 j u hj)
end
section
variable {e:Env} {K:St->Prop} {ds:List (Option Nat)} {os:List Oper} {s:List (Nat × A)} {m:List (Nat × Bk)}
theorem Zpe {σ:St} {o:Oper} {x y:Operand} {t ety ety' sz by' k j d l h cap:Nat} {a0:Option Addr} {rows rj:List (List C)} {oa:Option (Option Addr × Nat)} (ho:o.op=.call ⟨.builtin .append,#[x,y],#[t,t]⟩) (hdd:o.dst=some d) (hb:ZaT e.P t=some (ety,sz,by'))
  (hx:evA σ.s x=.buf k) (hm:gm σ.m k=some (.buf oa ety sz rows)) (hy:evA σ.s y=.d (.one (.lit (sliced a0 l h cap sz)))) (hj:gm σ.m j=some (.buf (some (a0,cap)) ety' sz rj)) (hlh:l<=h∧h<=rj.length) (hle:rows.length+rj.length<=maxApp)
  (hK:K ⟨(d,.buf d)::Zat d (Zat k σ.s),(d,.buf none ety sz (rows++(rj.take h).drop l))::remM d (remM k σ.m)⟩):Zbm e o σ K:=by
 intro he U w0 S0 nt a w Q hd ⟨S,L,h0⟩
 have hx':a.eval x=L.v k:=by have:=h0.eval x;rw [hx] at this;exact this
 have hy':=h0.eval y
 rw [hy] at hy'
 have hy':=Za5 hy'
 have ho':ZaJ w S ety sz rows (L.v k):=(h0.cls.own k _ hm).2
 obtain ⟨hpl,hbj⟩:=h0.cls.own j _ hj
 have hvj:L.v j=.slice a0 rj.length cap:=hpl (a0,cap) rfl
 rw [hvj] at hbj
 obtain ⟨yb,yc,news,y1,y2,y3⟩:=ZsR hbj hlh
 have hln:((rj.take h).drop l).length=h - l:=by rw [List.length_drop,List.length_take];omega
 have hsl:ZaH sz ((rj.take h).drop l):=fun r hr=>hbj.2.1 r (List.mem_of_mem_take (List.mem_of_mem_drop hr))
 obtain ⟨v',w',hrun,hbuf,τ,hk,hτ,hblk⟩:=Zfg (ty:=o.type) (ts:=#[t,t]) (v:=L.v k) (u:=sliced a0 l h cap sz) he h0.cls rfl rfl hb (.inl ho') ho'.2.1 hsl om ⟨yb,yc,news,y1,y2,y3⟩
 unfold Oper.wp
 have hr2:(execOp a.eval o).run e.P w=.ok (.value v') w':=by
  simp [execOp,ho,resolve,invoke,builtin,hx',hy',hrun,Result.andThen]
 rw [hr2,Oper.upon_value,hdd]
 refine ⟨_,hK,h0.born he (hd d hdd) (τ:=τ) (b':=0) (v':=v') (s1:=Zat k σ.s) (m1:=remM k σ.m) (fun _ h=>h) (fun _ h=>.inl h) (fun t=>?_) (fun k' x hx=>?_) (fun g hg=>?_) (fun k' x g hkd hx hg hb'=>?_) hk ?_ (fun g hg=>?_) (by simp [ARel])⟩
 ·rcases Zdx k t σ.s with ⟨h1,_⟩ | h1
  ·exact .inl h1
  ·exact .inr h1
 ·rw [ZaX] at hx
  split at hx
  ·cases hx
  ·exact hx
 ·have hg':=(hτ g hg).1
  exact ⟨(Own1.lt (k:=k) (L:=L) (bk:=.buf none ety sz rows) ⟨by simp,ho'⟩ hg').2,h0.cls.notE hm hg',h0.cls.mine k _ g hm hg'⟩
 ·have hg':=(hτ g hg).1
  rw [ZaX] at hx
  split at hx
  ·cases hx
  ·rename_i hne'
   exact hne' (h0.cls.inj k' k x _ g hx hm hb' hg')
 ·simp only [Own1,if_true];exact ⟨by simp,hbuf⟩
 ·simp only [Zay,if_true] at hg
  exact hblk g hg
theorem gAps {d t ty ety ety' by' sz l h cap:Nat} {p:String} {ed:Array Edge} {x y:Operand} {rows rj:List (List C)} {oa:Option (Option Addr × Nat)} {a0:Option Addr} {s2:List (Nat × A)} {m2:List (Nat × Bk)} (k j:Nat) (hlh:l<=h∧h<=rj.length) (hle:rows.length+rj.length<=maxApp) (hK:Runs e ds 0 os ⟨(d,.buf d)::s2,(d,.buf none ety sz (rows++(rj.take h).drop l))::m2⟩ K)
  (hb:ZaT e.P t=some (ety,sz,by'):=by exact sfx) (hx:evA s x=.buf k:=by exact sfx) (hm:gm m k=some (.buf oa ety sz rows):=by exact snx) (hy:evA s y=.d (.one (.lit (sliced a0 l h cap sz))):=by exact snx) (hj:gm m j=some (.buf (some (a0,cap)) ety' sz rj):=by exact snx)
  (hs:Zat d (Zat k s)=s2:=by exact snv) (hr:remM d (remM k m)=m2:=by exact snv):Runs e ds 0 (⟨some d,.call ⟨.builtin .append,#[x,y],#[t,t]⟩,ty,p,ed,none⟩::os) ⟨s,m⟩ K:=by
 subst hs hr
 simp only [Runs] at hK ⊢
 exact Zb9 rfl (Zpe rfl rfl hb hx hm hy hj hlh hle hK)
end
theorem okc4 {u0 u1 u2 u3:Value} (h:(Za4 [u0,u1,u2,u3]).all ZaC=true):ZaC (.lit u0)=true∧ZaC (.lit u1)=true∧ZaC (.lit u2)=true∧ZaC (.lit u3)=true:=by
 simpa [Za4,Bool.and_eq_true,and_assoc] using h
theorem Zgt (ts:List Tm) {i:Nat} {t:Tm} (h:ts[i]?=some t):Zac (ts.take (i+1))=Zac (ts.take i)++[Zae t]:=by
 simp only [ZbC,List.take_add_one,h,Option.toList,List.map_append,List.map_cons,List.map_nil]
theorem ZiO (u0 u1 u2 u3:Value):Za4 [u0,u1,u2,u3]=[.lit u0,.lit u1,.lit u2,.lit u3]:=rfl
theorem Zx6 (uss:List (List Value)):(uss.map Za4).length=uss.length:=List.length_map ..
def tmsB (ts:List Tm):Prop:=ts.length+Zag (Zac ts)<=1048576
theorem ZjH (ts:List Tm) (hB:tmsB ts) (h:∀ t∈ts,ConP e0 67 [.agg (Zae t)] [] (Zhn (Zae t))):ConP e0 122 [.one (.sl (Zac ts))] [] (Zim 46 4 (Zac ts)):=by
 have hl:ts.length<=1048576:=Nat.le_trans (Nat.le_add_right _ _) hB
 refine gIP (ts:=[.slot 2]) [] 1005 Tryz.func122 ?_
 (have F:=@e0P;refine gG ?_;clear F)
 refine pE [] [1000] ZCe ?_
 (have F:=ai @Zad @Zdf;refine gL (ι:=Nat × List (List Value) × (Nat->Prop)) [3,5,8,9] [3,1000] (fun x=>[(8,.d (.one (.lit (.int .i64 (x.1:Int))))),(3,.buf 3)]) (fun x=>[(3,.buf none 46 4 (x.2.1.map Za4)),(1000,.set x.2.2 (fun w=>Zbp w (Zac (ts.take x.1)) x.2.2 x.2.1))]) (fun x=>x.1<=ts.length∧x.2.1.length=x.1) (fun x=>ts.length - x.1) ((0,[],fun _=>False)) (⟨Nat.zero_le _,rfl⟩) (fun x hx=>?_);clear F)
 obtain ⟨i,uss,E⟩:=x
 obtain ⟨hi,hn⟩:=hx
 simp only at hi hn
 by_cases hlt:i < ts.length
 ·have hg:ts[i]?=some ts[i]:=List.getElem?_eq_getElem hlt
  have hc:=h ts[i] (List.getElem_mem hlt)
  generalize ts[i]=t at hg hc
  have q1:((i:Int) < (ts.length:Int))=True:=eq_true om
  (have F:=ai @Zad (ai @ZbF (ai @q1 (ai @hg @tmz)));refine gG ?_;clear F)
  refine gB ?_
  (have F:=@tmz;refine gCP [] [1001] (hc) ?_;clear F)
  rintro r pm ⟨us,E2,rfl,hu,hok,rfl⟩
  rw [Zkh] at hu
  obtain ⟨u0,u1,u2,u3,rfl⟩:=len4 hu
  obtain ⟨k0,k1,k2,k3⟩:=okc4 hok
  have q3:IntKind.i64.wrap ((i:Int)+1)=(i:Int)+1:=IntWalk.i64_in _ om
  have q2:i+1<=maxApp:=by unfold maxApp;omega
  simp only [ZiO,setA,retA,zipM,List.cons_append,List.nil_append]
  (have F:=ai @ZiO (ai @Zx6 (ai @hn (ai @q2 (ai @k0 (ai @k1 (ai @k2 @k3))))));refine gR ?_;clear F)
  refine pE [1000,1001] [1000] (ZCZ (G':=fun w=>Zbp w (Zac (ts.take (i+1))) (fun b=>E b∨E2 b) (uss++[[u0,u1,u2,u3]])) (fun w h1 h2 hd=>?_) (Zbp.stable _ _ _)) ?_
  ·rw [Zgt ts hg];exact Zbp.snoc h1 h2 (fun _ h=>.inl h) (fun _ h=>.inr h) hd
  (have F:=ai @ZiO (ai @q3 (ai @Zad ((@List.map_append.{0,0}))));refine gG ?_;exact ⟨(i+1,uss++[[u0,u1,u2,u3]],fun b=>E b∨E2 b),⟨hlt,by simp [hn]⟩,gw,gw,by omega⟩)
 ·obtain rfl:i=ts.length:=by omega
  have q1:((ts.length:Int) < (ts.length:Int))=False:=eq_false om
  (have F:=ai @Zad @q1;refine gG ?_;clear F)
  rw [List.take_length]
  refine pS 2 fun a cap=>?_
  refine gTP [2,1000] (Zim.mk (by rw [hn,Zad]))
theorem ZC1 {w:World} {op so:Int} {nm:ByteArray} {args:List Tm} {E:Nat->Prop} {v:Value} (h:Own w (.sl (Zac args)) E v):Zah w (Zae (.mk op nm so args)) E [.int .i64 op,.string nm,.int .i64 so,v]:=by
 simp only [Zae,Zah]
 refine ⟨fun _=>False,E,fun _ h=>h.elim,fun _ h=>h,fun _ h _=>h,by simp [Own],fun _=>False,E,fun _ h=>h.elim,fun _ h=>h,fun _ h _=>h,by simp [Own],fun _=>False,E,fun _ h=>h.elim,fun _ h=>h,fun _ h _=>h,by simp [Own],E,fun _=>False,fun _ h=>h,fun _ h=>h.elim,fun _ _ h=>h,h,trivial⟩
theorem ZkK (t:Tm) (h:ConP e0 122 [.one (.sl (Zac t.args))] [] (Zim 46 4 (Zac t.args))):ConP e0 67 [.agg (Zae t)] [] (Zhn (Zae t)):=by
 obtain ⟨op,nm,so,args⟩:=t
 have hc:Zae (.mk op nm so args)=[.lit (.int .i64 op),.lit (.string nm),.lit (.int .i64 so),.sl (Zac args)]:=by simp only [Zae]
 simp only [Tm.args] at h
 refine gIP (ts:=[.cell 2 46]) [] 7 Tryz.func67 ?_
 (have F:=@hc;refine gG ?_;clear F)
 refine gB ?_
 (have F:=@hc;refine gCP [] [1000,1001] (h) ?_;clear F)
 rintro r pm ⟨a,cap,uss,E,rfl,hu,rfl⟩
 simp only [setA,retA,zipM,List.cons_append,List.nil_append]
 (have F:=@hc;refine gR ?_;clear F)
 (have F:=@hc;refine gG ?_;clear F)
 refine pE [1000,1001] [1000] (Zx3 (G':=fun w=>Zah w (Zae (.mk op nm so args)) (fun b=>vblk (.slice a uss.length cap)=some b∨E b) [.int .i64 op,.string nm,.int .i64 so,.slice a uss.length cap]) (fun w h=>ZC1 h) (Zah.stable _ _ _)) ?_
 have hm:=Zhn.mk (row:=Zae (.mk op nm so args)) (us:=[.int .i64 op,.string nm,.int .i64 so,.slice a uss.length cap]) (E:=fun b=>vblk (.slice a uss.length cap)=some b∨E b) (by rw [hc];rfl) rfl
 rw [ZiO] at hm
 exact (have F:=hc;gTP [1000] hm)
theorem Zx7 (n:Nat):(∀ t:Tm,ZbD (Zae t) < n->Zak (Zae t)<=1048576->ConP e0 67 [.agg (Zae t)] [] (Zhn (Zae t))):=by
 induction n with
 | zero=>exact fun _ h=>by omega
 | succ n ih =>
  intro t hn hb
  obtain ⟨op,nm,so,args⟩:=t
  simp only [Zae,ZbD,ZeV,Zak,ZbY] at hn hb
  refine ZkK _ (ZjH args (by unfold tmsB;have:=Zad args;omega) fun a ha=>?_)
  obtain ⟨i,hi⟩:=List.getElem?_of_mem ha
  have hi':(Zac args)[i]?=some (Zae a):=by rw [ZbF,hi];rfl
  have h1:=Zdt hi'
  have h2:=Zc7 hi'
  exact ih a om om
theorem ZC2 (t:Tm) (hb:Zak (Zae t)<=1048576):ConP e0 67 [.agg (Zae t)] [] (Zhn (Zae t)):=Zx7 _ t (Nat.lt_succ_self _) hb
theorem ZCf (pm:List Bk):ZfJ pm pm:=fun w S h1 h2=>⟨h1,h2,fun _ h=>h⟩
theorem Zx8 {ts:List Tm} {i:Nat} (h:i<=ts.length):(Zac (ts.take i)).length=i:=by rw [Zad,List.length_take];omega
theorem ZmD (t:Tm) (hB:tmsB t.args) (h:∀ a∈t.args,Con e0 66 [.agg (Zae a)] [.agg (Zae a)]):Con e0 66 [.agg (Zae t)] [.agg (Zae t)]:=by
 obtain ⟨op,nm,so,args⟩:=t
 have hc:Zae (.mk op nm so args)=[.lit (.int .i64 op),.lit (.string nm),.lit (.int .i64 so),.sl (Zac args)]:=by simp only [Zae]
 simp only [Tm.args] at h hB
 have hl:args.length<=1048576:=Nat.le_trans (Nat.le_add_right _ _) hB
 refine gI (ts:=[.cell 2 46]) 65567 Tryz.func66 ?_
 (have F:=@hc;have NN:Zai 1:=trivial;refine gGn ?_;clear F NN)
 refine gB ?_
 refine gP 6 ?_
 refine gX ?_
 (have F:=@hc;refine gR ?_;clear F)
 refine pN 1000 46 4 ?_
 (have F:=@hc;refine gG ?_;clear F)
 (have F:=ai @hc @Zdf;refine gL (ι:=Nat × Option Addr × Nat) [4,16] [3,1000] (fun x=>[(4,.d (.one (.lit (.int .i64 (x.1:Int)))))]) (fun x=>[(1000,.buf (some (x.2.1,x.2.2)) 46 4 (Zac (args.take x.1))),(3,.var none [.lit (.int .i64 op),.lit (.string nm),.lit (.int .i64 so),.lit (.slice x.2.1 x.1 x.2.2)])]) (fun x=>x.1<=args.length) (fun x=>args.length - x.1) ((0,none,0)) (Nat.zero_le _) (fun x hx=>?_);clear F)
 obtain ⟨i,p,cap⟩:=x
 simp only at hx
 by_cases hlt:i < args.length
 ·have hg:args[i]?=some args[i]:=List.getElem?_eq_getElem hlt
  have hcon:=h args[i] (List.getElem_mem hlt)
  generalize args[i]=a at hg hcon
  have q1:((i:Int) < (args.length:Int))=True:=eq_true om
  have q4:IntKind.i64.wrap ((i:Int)+1)=(i:Int)+1:=IntWalk.i64_in _ om
  have q2:i+1<=maxApp:=by unfold maxApp;omega
  have q3:=Zx8 hx
  have q5:(args.take i).length=i:=by rw [List.length_take];omega
  (have F:=ai @hc (ai @Zad (ai @ZbF (ai @q1 (ai @hg @tmz))));refine gG ?_;clear F)
  refine gB ?_
  (have F:=ai @tmz (ai @ZbF @hg);refine gC (hcon) ?_;clear F)
  (have F:=ai @tmz (ai @q2 (ai @q3 @q5));refine gP 3 ?_;clear F)
  refine gS 28 fun p2 cap2=>?_
  (have F:=ai @tmz (ai @q3 @q5);refine gR ?_;clear F)
  refine pE [28] [1000] (ZCf _) ?_
  rw [<- Zgt args hg]
  (have F:=ai @hc @q4;refine gG ?_;exact ⟨(i+1,p2,cap2),hlt,gw,gw,by omega⟩)
 ·obtain rfl:i=args.length:=by omega
  have q1:((args.length:Int) < (args.length:Int))=False:=eq_false om
  rw [List.take_length]
  (have F:=ai @hc (ai @Zad @q1);refine gG ?_;clear F)
  refine pD 1000 [] [2] ?_ (hs:=by exact snv)
  (have F:=ai @hc @Zad;refine gG ?_;exact gTd)
theorem ZwQ (n:Nat):(∀ t:Tm,ZbD (Zae t) < n->Zak (Zae t)<=1048576->Con e0 66 [.agg (Zae t)] [.agg (Zae t)]):=by
 induction n with
 | zero=>exact fun _ h=>by omega
 | succ n ih =>
  intro t hn hb
  obtain ⟨op,nm,so,args⟩:=t
  simp only [Zae,ZbD,ZeV,Zak,ZbY] at hn hb
  refine ZmD _ (by unfold tmsB;simp only [Tm.args];have:=Zad args;omega) fun a ha=>?_
  simp only [Tm.args] at ha
  obtain ⟨i,hi⟩:=List.getElem?_of_mem ha
  have hi':(Zac args)[i]?=some (Zae a):=by rw [ZbF,hi];rfl
  have h1:=Zdt hi'
  have h2:=Zc7 hi'
  exact ih a om om
theorem Zhq (t:Tm) (hb:Zak (Zae t)<=1048576):Con e0 66 [.agg (Zae t)] [.agg (Zae t)]:=ZwQ _ t (Nat.lt_succ_self _) hb
theorem ZsS {ts:List Tm} {i:Nat} {t:Tm} (h:ts[i]?=some t):Zac (ts.take i)++[Zae t]=Zac (ts.take (i+1)):=(Zgt ts h).symm
set_option maxRecDepth 100000 in
theorem Zir (ts:List Tm) (hB:tmsB ts):Con e0 185 [.one (.sl (Zac ts))] [.one (.sl (Zac ts))]:=by
 unfold tmsB at hB
 refine gI (ts:=[.slot 2]) 541 Tryz.func185 ?_
 (have F:=@tmz;refine gG ?_;clear F)
 (have F:=@Zdf;refine gL (ι:=Nat) [3,4,9] [3] (fun i=>[(4,A.d (.one (.lit (.int .i64 i)))),(3,.buf 3)]) (fun i=>[(3,.buf none 46 4 (Zac (ts.take i)))]) (fun i=>i<=ts.length) (fun i=>ts.length - i) (0) (Nat.zero_le _) (fun i hi=>?_);clear F)
 by_cases hlt:i < ts.length
 rotate_left
 ·obtain rfl:i=ts.length:=by omega
  have q2:((ts.length:Int) < (ts.length:Int))=False:=eq_false om
  rw [List.take_length]
  (have F:=ai @q2 @tmz;refine gG ?_;clear F)
  (have F:=@tmz;refine gG ?_;exact gTz [2])
 obtain ⟨t,ht⟩:∃ b,ts[i]?=some b:=⟨_,List.getElem?_eq_getElem hlt⟩
 have q2:((i:Int) < (ts.length:Int))=True:=eq_true om
 have q4:=Zav (k:=i) om
 have hi':(Zac ts)[i]?=some (Zae t):=by rw [ZbF,ht];rfl
 have hbt:=Zc7 hi'
 have cc:=Zhq t om
 have l1:ZaV 4 (Zac (ts.take i))=true:=Zfm _
 have l2:((Zac (ts.take i)).length+1<=maxApp)=True:=eq_true (by rw [Zad,List.length_take];unfold maxApp;omega)
 have l3:((ts.take i).length+1<=maxApp)=True:=eq_true (by rw [List.length_take];unfold maxApp;omega)
 have l4:min i ts.length+1<=maxApp:=by unfold maxApp;omega
 have e:=ZsS ht
 (have F:=ai @q2 @tmz;refine gG ?_;clear F)
 refine gB ?_
 (have F:=ai @q2 (ai @ht @tmz);refine gC (cc) ?_;clear F)
 (have F:=ai @l1 (ai @l2 (ai @l3 @tmz));refine gR ?_;clear F)
 (have F:=ai @q4 @e;refine gG ?_;exact ⟨i+1,hlt,gw,gw,by omega⟩)
theorem Zx9:Zac (Zas [])=[]:=by simp [Zas,Zac]
theorem ZsT {l:List Tm} (h:Zbo l):Zbo (Zas l):=by
 have:∀ {ts:List Tm},Zbo ts ↔ ∀ t∈ts,okTm t:=fun {ts}=>by
  induction ts with
  | nil=>simp [Zbo]
  | cons t ts ih=>simp [Zbo,ih]
 exact this.2 fun a ha=>this.1 h a ((Zbd l).mem_iff.1 ha)
theorem Zpf {l:List Tm} (h:Zbo l) (k:Nat):Zbo (l.take k):=by
 have:∀ {ts:List Tm},Zbo ts ↔ ∀ t∈ts,okTm t:=fun {ts}=>by
  induction ts with
  | nil=>simp [Zbo]
  | cons t ts ih=>simp [Zbo,ih]
 exact this.2 fun a ha=>this.1 h a (List.mem_of_mem_take ha)
set_option maxRecDepth 100000 in
theorem Zom (ts:List Tm) (hok:Zbo ts) (hB:tmsB ts):Con e0 184 [.one (.sl (Zac ts))] [.one (.sl (Zac (Zas ts)))]:=by
 have hB0:=hB
 unfold tmsB at hB
 have hcc:=Zir (Zas ts) (by
  have h1:=(Zbd ts).length_eq
  have h2:Zag (Zac (Zas ts))=Zag (Zac ts):=by
   have:∀ {l m:List Tm},l.Perm m->Zag (Zac l)=Zag (Zac m):=fun h=>by
    induction h with
    | nil=>rfl
    | cons x h ih=>simp only [Zac,Zag,ih]
    | swap x y l=>simp only [Zac,Zag];omega
    | trans h1 h2 a b=>rw [a,b]
   exact this (Zbd ts)
  unfold tmsB;omega)
 refine gI (ts:=[.slot 2]) 1073743997 Tryz.func184 ?_
 (have F:=@tmz;refine gG ?_;clear F)
 (have F:=ai @Zx9 @tmz;refine gL (ι:=Nat) [3,4,5,6,11,30] [3] (fun i=>[(4,A.d (.one (.lit (.int .i64 i)))),(3,.buf 3)]) (fun i=>[(3,.buf none 46 4 (Zac (Zas (ts.take i))))]) (fun i=>i<=ts.length) (fun i=>ts.length - i) (0) (Nat.zero_le _) (fun i hi=>?_);clear F)
 by_cases hlt:i < ts.length
 rotate_left
 ·obtain rfl:i=ts.length:=by omega
  have q2:((ts.length:Int) < (ts.length:Int))=False:=eq_false om
  rw [List.take_length]
  (have F:=ai @q2 @tmz;have NN:Zai 10:=trivial;refine gGn ?_;clear F NN)
  refine pS 3 fun a cap=>?_
  refine pD 3 [3] [] ?_
  refine gB ?_
  (have F:=@tmz;refine gC (hcc) ?_;clear F)
  (have F:=@tmz;refine gR ?_;clear F)
  (have F:=@tmz;refine gG ?_;exact gTd)
 obtain ⟨x,hx⟩:∃ b,ts[i]?=some b:=⟨_,List.getElem?_eq_getElem hlt⟩
 have q2:((i:Int) < (ts.length:Int))=True:=eq_true om
 have q4:=Zav (k:=i) om
 have hxo:=hok.mem (List.mem_of_getElem? hx)
 obtain ⟨M,hM⟩:∃ M,M=Zas (ts.take i):=⟨_,rfl⟩
 have hMl:M.length=i:=by rw [hM,Zcv,List.length_take];omega
 have hMo:Zbo M:=by rw [hM];exact ZsT (Zpf hok i)
 have hMr:ts.take (i+1)=ts.take i++[x]:=Zb0 hx
 rw [<- hM]
 (have F:=ai @q2 (ai @hMl @tmz);have NN:Zai 5:=trivial;refine gGn ?_;clear F NN)
 refine gB ?_
 (have F:=ai @hMl @tmz;refine gR ?_;clear F)
 refine Zdz ?_
 refine gM (ι:=Nat) [5] [] (fun k=>[(5,A.d (.one (.lit (.int .i64 k))))]) (fun k=>[]) (fun k=>k<=i∧(∀ y∈M.drop k,Zal x y<=0)∧(0 < k->∃ y,M[k - 1]?=some y∧Zal y x<=0)) ?_ (fun k hk=>Exists.intro _ (ai (Wk.refl _) ?_))
 ·(have F:=@tmz;refine gG ?_;clear F)
  (have F:=@tmz;refine gL (ι:=Nat) [5,30] [] (fun k=>[(5,A.d (.one (.lit (.int .i64 k))))]) (fun k=>[]) (fun k=>k<=i∧∀ y∈M.drop k,Zal x y<=0) (fun k=>k) (i) (⟨Nat.le_refl _,by rw [<- hMl,List.drop_length];intro y hy;cases hy⟩) (fun k hk=>?_);clear F)
  obtain ⟨hk,h2⟩:=hk
  by_cases hk0:k=0
  ·have q0:(0 < (k:Int))=False:=eq_false om
   (have F:=ai @q0 @tmz;refine gG ?_;exact ⟨k,⟨hk,h2,fun h=>by omega⟩,gw,gw⟩)
  obtain ⟨j,rfl⟩:∃ j,k=j+1:=⟨k - 1,by omega⟩
  obtain ⟨y,hy⟩:∃ y,M[j]?=some y:=⟨_,List.getElem?_eq_getElem om⟩
  have q5:(0 < ((j+1:Nat):Int))=True:=eq_true om
  have wj:IntKind.i64.wrap (((j+1:Nat):Int) - 1)=(j:Int):=ZaP om om om
  have lj:j < i:=by omega
  have hdr:M.drop j=y::M.drop (j+1):=Zc4 hy
  generalize hk1:j+1=k1 at q5 wj h2 hk hdr ⊢
  (have F:=@tmz;refine gG ?_;clear F)
  refine gB ?_
  (have F:=ai @q5 (ai @wj (ai @hy (ai @hx (ai @hMl (ai @lj (ai @Zau @tmz))))));refine gC (ZeN (hMo.mem (List.mem_of_getElem? hy)) hxo) ?_;clear F)
  by_cases hc:0 < Zal y x
  ·have z:=eq_true hc
   (have F:=@z;refine gR ?_;clear F)
   have h2':∀ u∈M.drop j,Zal x u<=0:=fun u hu=>by
    rw [hdr] at hu
    rcases List.mem_cons.1 hu with rfl | hu
    ·rw [Zc6 u x];omega
    ·exact h2 u hu
   (have F:=ai @z @wj;refine gG ?_;exact ⟨j,⟨by omega,h2'⟩,gw,gw,by omega⟩)
  have z:=eq_false hc
  (have F:=@z;refine gR ?_;clear F)
  (have F:=ai @z @tmz;refine gG ?_;exact ⟨k1,⟨hk,h2,fun _=>⟨y,by rw [<- hk1,Nat.add_sub_cancel];exact hy,by omega⟩⟩,gw,gw⟩)
 obtain ⟨hk,h2,h1⟩:=hk
 have hMs:M.take k++x::M.drop k=Zas (ts.take (i+1)):=by
  rw [hMr]
  refine Zn1 (by rw [List.take_append_drop,hM]) h2 fun y hy=>?_
  have hk0:0 < k:=by
   rcases Nat.eq_zero_or_pos k with h | h
   ·subst h;simp at hy
   ·exact h
  obtain ⟨z,hz,hc⟩:=h1 hk0
  rw [List.getLast?_eq_getElem?,List.length_take,hMl,Nat.min_eq_left hk,List.getElem?_take,if_pos om,hz] at hy
  injection hy with hy
  subst hy
  exact hc
 have hdl:((Zac M).take (Zac M).length).drop k=Zac (M.drop k):=by rw [List.take_length,Zo9]
 (have F:=@tmz;have NN:Zai 8:=trivial;refine gGn ?_;clear F NN)
 refine pS 3 fun a cap=>?_
 refine gB ?_
 (have F:=@tmz;refine gP 3 ?_;clear F)
 have hkl:k<=(Zac M).length:=by rw [Zad];omega
 refine (have F:=ai hMl tmz;gSub 3 k (Zac M).length ⟨hkl,Nat.le_refl _⟩ ?_)
 refine gO 33 46 4 ?_
 refine (have F:=tmz;gAps (rows:=[]) (rj:=Zac M) 33 3 ⟨hkl,Nat.le_refl _⟩ (by rw [Zad];simp only [List.length_nil,maxApp];omega) ?_)
 rw [hdl,List.nil_append]
 (have F:=@tmz;refine gR ?_;clear F)
 (have F:=@tmz;have NN:Zai 9:=trivial;refine gGn ?_;clear F NN)
 have hcl:(Zac M).take k=Zac (M.take k):=Zo8 _ _
 have htl:(M.take k).length=k:=by rw [List.length_take];omega
 refine gF0 ?_
 refine gFm 0 ?_
 refine gFm 1 ?_
 refine (have F:=ai hMl tmz;gFs 2 3 0 k ⟨Nat.zero_le _,hkl⟩ ?_)
 rw [Zpb]
 refine gFm 3 ?_
 refine gFm 4 ?_
 refine gFm 9 ?_
 refine gFT ?_
 have l1:(k+1<=maxApp)=True:=eq_true (by unfold maxApp;omega)
 have l2:((M.take k).length+1+(M.drop k).length<=maxApp)=True:=eq_true (by rw [htl,List.length_drop];unfold maxApp;omega)
 have e1:Zac (M.take k)++[Zae x]=Zac (M.take k++[x]):=by rw [ZdO];rfl
 have e2:Zac (M.take k++[x])++Zac (M.drop k)=Zac (Zas (ts.take (i+1))):=by rw [<- ZdO,<- hMs];simp
 refine gO1 5 ?_
 refine (have F:=ai q2 (ai hx (ai Zau tmz));gO3 ?_)
 refine gO1 6 ?_
 refine (have F:=ai hx tmz;gO3 ?_)
 refine gO1 7 ?_
 refine (have F:=tmz;gO3 ?_)
 refine gO1 8 ?_
 refine gE [3] [3] (ZC0 k hkl) ?_
 rw [hcl]
 refine (have F:=ai htl (ai l1 (ai e1 tmz));gO3 ?_)
 refine gO1 10 ?_
 refine (have F:=ai l2 (ai e2 tmz);gO3 ?_)
 refine gO1 11 ?_
 refine (have F:=tmz;gO3 ?_)
 refine (have F:=tmz;gT0 ?_)
 refine Exists.intro _ (ai (Wk.refl _) ?_)
 (have F:=@q4;refine gG ?_;exact ⟨i+1,hlt,gw,gw,by omega⟩)
theorem ZwR {ts:List Tm}:Zbo ts ↔ ∀ t∈ts,okTm t:=by
 induction ts with
 | nil=>simp [Zbo]
 | cons t ts ih=>simp [Zbo,ih]
theorem ZCg (op so:Int) (nm:ByteArray) (args:List Tm):Zak (Zae (.mk op nm so args))=nm.size+(args.length+Zag (Zac args)):=by
 simp only [Zae,Zak,ZbY,Zad];omega
section
variable {g:Sgn}
mutual
theorem Zl7:∀ {t:Tm},ZaO g t->Zak (Zae t)+1<=13 * sizeTm t
 | .mk op nm so args,h=>by
  have h1:=Zhr (Zgo.2 (Zbb.1 h).2.1)
  simp only [Tm.args] at h1
  rw [ZCg]
  simp only [sizeTm]
  rcases h.node with hv | ⟨o,d,hA⟩
  ·have h2:Zbc nm=true:=hv.2.1
   have h3:args=[]:=hv.2.2.2.2
   subst h3
   have h4:¬ 12 < nm.size:=fun h=>by rw [Zca (.inr (.inl h))] at h2;cases h2
   simp only [Zac,Zag,sizeTms,List.length_nil]
   omega
  ·have h2:nm=ByteArray.empty:=hA.nm
   subst h2
   have:ByteArray.empty.size=0:=rfl
   omega
theorem Zhr:∀ {ts:List Tm},ZcH g ts->Zag (Zac ts)+ts.length<=13 * sizeTms ts
 | [],_=>by simp [Zac,Zag]
 | t::ts,h=>by
  simp only [ZcH] at h
  have h1:=Zl7 h.1
  have h2:=Zhr h.2
  simp only [Zac,Zag,sizeTms,List.length_cons]
  omega
end
end
def addL (i:Nat):Nat->List Oper->List Oper
 | _,[]=>[]
 | 0,o::l=>{ o with after:=o.after.push ⟨i,.data⟩ }::l
 | k+1,o::l=>o::addL i k l
theorem ZfY (i:Nat):∀ (k:Nat) (l:List Oper) (j:Nat),(addL i k l)[j]?=if j=k then l[j]?.map fun o=>{ o with after:=o.after.push ⟨i,.data⟩ } else l[j]?
 | k,[],j=>by simp [addL]
 | 0,o::l,0=>by simp [addL]
 | 0,o::l,j+1=>by simp [addL]
 | k+1,o::l,0=>by simp [addL]
 | k+1,o::l,j+1=>by simp [addL,ZfY i k l j]
theorem ZjI (i:Nat):∀ (k:Nat) (l:List Oper),(addL i k l).length=l.length
 | k,[]=>by simp [addL]
 | 0,o::l=>by simp [addL]
 | k+1,o::l=>by simp [addL,ZjI i k l]
theorem ZjJ (i:Nat):∀ (k:Nat) (l:List Oper),(addL i k l).map (·.dst)=l.map (·.dst)
 | k,[]=>by simp [addL]
 | 0,o::l=>by simp [addL]
 | k+1,o::l=>by simp [addL,ZjJ i k l]
section
variable {P:Program} {l:List Oper} {i k:Nat} {oi ok:Oper}
theorem Zgf {Q:Exit->Act->World->Prop} {j:Nat} {K:Act->World->Prop} {a:Act} {w:World}:wpOp P (addL i k l).toArray Q j K a w ↔ wpOp P l.toArray Q j K a w:=by
 have hb:∀ g:Nat,((addL i k l)[g]?).bind (fun x=>x.dst)=(l[g]?).bind fun x=>x.dst:=fun g=>by
  rw [ZfY]
  by_cases h:g=k
  ·rw [if_pos h];cases l[g]? <;> rfl
  ·rw [if_neg h]
 have hy:yielded (addL i k l).toArray a.tmps=yielded l.toArray a.tmps:=by
  funext g
  unfold yielded
  simp only [List.getElem?_toArray,hb]
 unfold wpOp
 rw [hy]
 simp only [List.getElem?_toArray,ZfY]
 by_cases hjk:j=k
 ·rw [if_pos hjk]
  cases hj:l[j]? with
  | none=>exact Iff.rfl
  | some o=>exact Iff.rfl
 ·rw [if_neg hjk]
def ZwS (ops:Array Oper) (i:Nat):Bool:=(List.range ops.size).all fun j=>j==i || match ops[i]?,ops[j]? with
 | some oi,some oj=>oi.after.any (fun e=>Region.binds .any e && e.on==j) || (oj.after.any (fun e=>Region.binds .any e && e.on==i) || oi.apart ops oj)
 | _,_=>true
def ZmU (ops:Array Oper) (i k:Nat):Bool:=Zho ops && ZwS ops i && i != k && match ops[i]?,ops[k]? with
 | some oi,some ok=>(match oi with
  | ⟨some _,.extract _ _,_,_,_,none⟩=>true
  | _=>false) && oi.after.all fun e=>!Region.binds .any e || ok.after.any fun e'=>Region.binds .any e' && e'.on==e.on
 | _,_=>false
theorem ZsU {Q:Exit->Act->World->Prop} (hQ:∀ ex a w,Q ex a w->ex=.normal) (hB:ZmU l.toArray i k=true) :
  ∀ (f:Nat) (listed:Array Bool) (a:Act) (w:World),listed.size=l.length->wpAny P .any (addL i k l).toArray Q f listed a w->wpAny P .any l.toArray Q f listed a w:=by
 simp only [ZmU,Bool.and_eq_true,bne_iff_ne,ne_eq] at hB
 obtain ⟨⟨⟨hsel,hap⟩,hik⟩,h4⟩:=hB
 split at h4
 rotate_left
 ·cases h4
 rename_i oi ok hoi hok
 simp only [Bool.and_eq_true] at h4
 obtain ⟨h5,h6⟩:=h4
 have hpre:∀ e∈oi.after,Region.binds .any e=true->∃ e'∈ok.after,Region.binds .any e'=true∧e'.on=e.on:=fun e he hb=>by
  have:=Array.all_eq_true_iff_forall_mem.1 h6 e he
  simp only [hb,Bool.not_true,Bool.false_or,Array.any_eq_true',Bool.and_eq_true,beq_iff_eq] at this
  obtain ⟨e',q1,q2,q3⟩:=this
  exact ⟨e',q1,q2,q3⟩
 have hrdy:∀ (listed:Array Bool) (j:Nat),j∈Region.ready .any (addL i k l).toArray listed ↔ j∈Region.ready .any l.toArray listed∧(j=k->listed.getD i false=true):=fun listed j=>by
  rw [mem_ready,mem_ready]
  simp only [List.getElem?_toArray,ZfY]
  by_cases hj:j=k
  ·subst hj
   simp only [if_true,true_implies]
   constructor
   ·rintro ⟨q1,o,q2,q3⟩
    cases hl:l[j]? with
    | none=>rw [hl] at q2;cases q2
    | some o' =>
     rw [hl] at q2
     injection q2 with q2
     subst q2
     exact ⟨⟨q1,o',rfl,fun e he hb=>q3 e (by simp [he]) hb⟩,q3 ⟨i,.data⟩ (by simp) rfl⟩
   ·rintro ⟨⟨q1,o,q2,q3⟩,q4⟩
    refine ⟨q1,_,by rw [q2];rfl,fun e he hb=>?_⟩
    rcases Array.mem_push.1 he with he | he
    ·exact q3 e he hb
    ·subst he;exact q4
  ·simp [hj]
 have hun:∀ (listed:Array Bool),listed.size=l.length->k∈Region.ready .any l.toArray listed->i∈Region.ready .any l.toArray listed∨listed.getD i false=true:=fun listed hs hk=>by
  by_cases h:listed.getD i false=true
  ·exact .inr h
  ·left
   rw [mem_ready] at hk ⊢
   obtain ⟨_,o,q2,q3⟩:=hk
   have:o=ok:=by rw [hok] at q2;injection q2 with q2;exact q2.symm
   subst this
   have hlt:i < l.length:=by have:=(Array.getElem?_eq_some_iff.1 hoi).1;simpa using this
   refine ⟨?_,oi,hoi,fun e he hb=>?_⟩
   ·have hl:i < listed.size:=by omega
    rw [ZbH hl]
    simpa using h
   ·obtain ⟨e',r1,r2,r3⟩:=hpre e he hb
    rw [<- r3]
    exact q3 e' r1 r2
 have hap':=hap
 intro f
 induction f with
 | zero =>
  intro listed a w hs h
  refine ⟨?_,h.2⟩
  by_cases hk:k∈Region.ready .any l.toArray listed
  ·rcases hun listed hs hk with h1 | h1
   ·have:=(hrdy listed i).2 ⟨h1,fun e=>absurd e hik⟩
    rw [h.1] at this
    cases this
   ·have:=(hrdy listed k).2 ⟨hk,fun _=>h1⟩
    rw [h.1] at this
    cases this
  ·refine List.eq_nil_iff_forall_not_mem.2 fun j hj=>?_
   have:=(hrdy listed j).2 ⟨hj,fun e=>absurd (e ▸ hj) hk⟩
   rw [h.1] at this
   cases this
 | succ f ih =>
  intro listed a w hs h
  by_cases hi:i∈Region.ready .any l.toArray listed
  ·have h1:=h.2 i ((hrdy listed i).2 ⟨hi,fun e=>absurd e hik⟩)
   rw [Zgf] at h1
   have h1':∃ v,Yields P l.toArray oi v a∧wpAny P .any (addL i k l).toArray Q f (listed.setIfInBounds i true) (a.put oi.dst v) w:=by
    unfold wpOp at h1
    simp only [hoi] at h1
    split at h5
    rotate_left
    ·cases h5
    rename_i d x n ty pos af
    have hw:Region.wanted ⟨some d,.extract x n,ty,pos,af,none⟩ (yielded l.toArray a.tmps)=true:=by simp [Region.wanted]
    rw [if_pos hw] at h1
    rcases h1 with h1 | ⟨_,b,w',h1⟩
    rotate_left
    ·have:=hQ _ _ _ h1;cases this
    unfold Oper.wp at h1
    cases hx:a.eval x with
    | tuple vs =>
     cases hv:vs[n]? with
     | some v =>
      have hrun:∀ w',(execOp a.eval ⟨some d,.extract x n,ty,pos,af,none⟩).run P w'=.ok (.value v) w':=fun w'=>by
       simp [execOp,Instr.extract,hx,hv]
      rw [hrun,Oper.upon_value] at h1
      exact ⟨v,.inl ⟨hw,hrun⟩,h1⟩
     | none =>
      simp [execOp,Instr.extract,hx,hv,stuck,Oper.upon] at h1
    | _=>simp [execOp,Instr.extract,hx,stuck,Oper.upon] at h1
   obtain ⟨v,hv,h2⟩:=h1'
   refine wpAny_first (oi:=oi) (v:=v) hoi (fun j oj cs b hj hsl=>?_) (fun c a w hq=>?_) f listed a w (fun j oj hj hne hl hno=>?_) hi hv (ih _ _ _ (by simpa using hs) h2)
   ·have:=List.all_eq_true.1 hsel oj (List.mem_of_getElem? (by simpa using hj))
    rw [hsl] at this
    cases this
   ·have:=hQ _ _ _ hq;cases this
   ·have hjs:=(Array.getElem?_eq_some_iff.1 hj).1
    have:=List.all_eq_true.1 hap j (List.mem_range.2 hjs)
    simp only [hoi,hj,Bool.or_eq_true,beq_iff_eq,List.any_eq_true,Array.any_eq_true',Bool.and_eq_true] at this
    rcases this with h1 | h1 | h1 | h1
    ·exact absurd h1 hne
    ·obtain ⟨ed,h2,h3,h4⟩:=h1
     obtain ⟨_,o,q2,q3⟩:=mem_ready.1 hi
     rw [hoi] at q2
     injection q2 with q2
     subst q2
     have q4:=q3 ed h2 h3
     rw [h4,<- ZbH (by simpa [hs] using hjs)] at q4
     rw [hl] at q4
     cases q4
    ·obtain ⟨ed,h2,h3,h4⟩:=h1
     exact absurd h4 (hno ed h2 h3)
    ·exact h1
  ·refine ⟨fun h0=>h.1 ?_,fun j hj=>?_⟩
   ·refine List.eq_nil_iff_forall_not_mem.2 fun j hj=>?_
    have:=((hrdy listed j).1 hj).1
    rw [h0] at this
    cases this
   ·have hj':j∈Region.ready .any (addL i k l).toArray listed:=(hrdy listed j).2 ⟨hj,fun e=>by
     subst e
     rcases hun listed hs hj with h1 | h1
     ·exact absurd h1 hi
     ·exact h1⟩
    have h1:=h.2 j hj'
    rw [Zgf] at h1
    exact wpOp_mono (fun a w h=>ih _ a w (by simpa using hs) h) h1
end
section
variable {e:Env} {K:St->Prop} {mask:Nat} {Q:PX->St->Prop} {s:List (Nat × A)} {m:List (Nat × Bk)}
theorem ZsV {l:List Oper} {i k:Nat} {σ:St} (hB:ZmU l.toArray i k=true) (h:Zcl e (addL i k l).toArray K l.length (Array.replicate l.length false) σ):Zcl e l.toArray K l.length (Array.replicate l.length false) σ:=by
 intro he U w0 S0 nt a w hd hs
 refine ZsU (fun ex a w hq=>hq.1) hB _ _ _ _ (by simp) (h he U w0 S0 nt a w (fun o ho d hdd=>?_) hs)
 have:some d∈(addL i k l).map (·.dst):=List.mem_map.2 ⟨o,by simpa using ho,hdd⟩
 rw [ZjJ] at this
 obtain ⟨o',h1,h2⟩:=List.mem_map.1 this
 exact hd o' (by simpa using h1) d h2
theorem Zpg {l:List Oper} {p:Nat} {σ:St} (hAl:Zd6 l.toArray p=true) (hB:regB l.toArray (p+1)=true) (hp:Runs e (l.map (·.dst)) (p+1) l σ K):Zcl e l.toArray K l.length (Array.replicate l.length false) σ:=by
 intro he U w0 S0 nt a w hd hs
 have:=ZfG (ops:=l.toArray) he hAl hB (K:=K) (Q:=QN e U w0 S0 nt K) (fun a w σ' hK hs'=>⟨rfl,σ',hK,hs'⟩) hd hs (by simpa using hp)
 simpa using this
theorem gLt {id:Nat} {l l':List Oper} {ds:List (Option Nat)} (p i k:Nat) (hK:Runs e ds (p+1) l' ⟨s,m⟩ (Zcr mask Q)) (hl:addL i k l=l':=by simp only [addL];exact rfl) (hds:l'.map (·.dst)=ds:=by simp only [List.map_cons,List.map_nil];exact rfl) (hc:ZmU l.toArray i k=true:=by decide +kernel) (hA:Zd6 l'.toArray p=true:=by decide +kernel) (hr:regB l'.toArray (p+1)=true:=by decide +kernel):pwp e mask (.region id l.toArray true) ⟨s,m⟩ Q:=by
 subst hl hds
 have h1:=ZsV hc (by have:=Zpg hA hr hK;rwa [ZjI] at this)
 exact Zio (ops:=l.toArray) (by simpa using h1)
end
def ZBv (ops:Array Oper) (ok:Oper):List Nat:=(ok.after.toList.filter fun e=>Region.binds .any e).flatMap fun e=>e.on::match ops[e.on]? with
 | some o=>(o.after.toList.filter fun e=>Region.binds .any e).map (·.on)
 | none=>[]
def ZmV (ops:Array Oper) (i k:Nat):Bool:=Zho ops && ZwS ops i && i != k && match ops[i]?,ops[k]? with
 | some oi,some ok=>(match oi with
  | ⟨some _,.pick _ _ _,_,_,_,none⟩=>true
  | _=>false) && oi.after.all fun e=>!Region.binds .any e || (ZBv ops ok).contains e.on
 | _,_=>false
section
variable {P:Program} {l:List Oper} {i k:Nat}
def ZgM (l:List Oper) (listed:Array Bool):Prop:=∀ (j:Nat) o,listed.getD j false=true->l[j]?=some o->∀ e∈o.after,Region.binds .any e=true->listed.getD e.on false=true
theorem ZgM.put {listed:Array Bool} {j:Nat} (hc:ZgM l listed) (hj:j∈Region.ready .any l.toArray listed):ZgM l (listed.setIfInBounds j true):=by
 intro q o hq ho e he hb
 obtain ⟨_,o',h2,h3⟩:=mem_ready.1 hj
 have hmono:∀ t,listed.getD t false=true->(listed.setIfInBounds j true).getD t false=true:=fun t ht=>by
  by_cases htj:t=j
  ·subst htj
   simp only [Array.getD_eq_getD_getElem?,Array.getElem?_setIfInBounds] at ht ⊢
   cases hl:listed[t]? with
   | none=>rw [hl] at ht;cases ht
   | some b =>
    have:t < listed.size:=(Array.getElem?_eq_some_iff.1 hl).1
    simp [this]
  ·rw [getD_set_ne false (Ne.symm htj)];exact ht
 by_cases hqj:q=j
 ·subst hqj
  have:o'=o:=by
   rw [List.getElem?_toArray,ho] at h2
   injection h2 with h2
   exact h2.symm
  subst this
  exact hmono _ (h3 e he hb)
 ·rw [getD_set_ne false (Ne.symm hqj)] at hq
  exact hmono _ (hc q o hq ho e he hb)
theorem Zph {Q:Exit->Act->World->Prop} (hQ:∀ ex a w,Q ex a w->ex=.normal) (hB:ZmV l.toArray i k=true) :
  ∀ (f:Nat) (listed:Array Bool) (a:Act) (w:World),listed.size=l.length->ZgM l listed->wpAny P .any (addL i k l).toArray Q f listed a w->wpAny P .any l.toArray Q f listed a w:=by
 simp only [ZmV,Bool.and_eq_true,bne_iff_ne,ne_eq] at hB
 obtain ⟨⟨⟨hsel,hap⟩,hik⟩,h4⟩:=hB
 split at h4
 rotate_left
 ·cases h4
 rename_i oi ok hoi hok
 simp only [Bool.and_eq_true] at h4
 obtain ⟨h5,h6⟩:=h4
 have hrdy:∀ (listed:Array Bool) (j:Nat),j∈Region.ready .any (addL i k l).toArray listed ↔ j∈Region.ready .any l.toArray listed∧(j=k->listed.getD i false=true):=fun listed j=>by
  rw [mem_ready,mem_ready]
  simp only [List.getElem?_toArray,ZfY]
  by_cases hj:j=k
  ·subst hj
   simp only [if_true,true_implies]
   constructor
   ·rintro ⟨q1,o,q2,q3⟩
    cases hl:l[j]? with
    | none=>rw [hl] at q2;cases q2
    | some o' =>
     rw [hl] at q2
     injection q2 with q2
     subst q2
     exact ⟨⟨q1,o',rfl,fun e he hb=>q3 e (by simp [he]) hb⟩,q3 ⟨i,.data⟩ (by simp) rfl⟩
   ·rintro ⟨⟨q1,o,q2,q3⟩,q4⟩
    refine ⟨q1,_,by rw [q2];rfl,fun e he hb=>?_⟩
    rcases Array.mem_push.1 he with he | he
    ·exact q3 e he hb
    ·subst he;exact q4
  ·simp [hj]
 have hun:∀ (listed:Array Bool),listed.size=l.length->ZgM l listed->k∈Region.ready .any l.toArray listed->i∈Region.ready .any l.toArray listed∨listed.getD i false=true:=fun listed hs hcl hk=>by
  by_cases h:listed.getD i false=true
  ·exact .inr h
  ·left
   rw [mem_ready] at hk ⊢
   obtain ⟨_,o,q2,q3⟩:=hk
   have:o=ok:=by rw [hok] at q2;injection q2 with q2;exact q2.symm
   subst this
   have hlt:i < l.length:=by have:=(Array.getElem?_eq_some_iff.1 hoi).1;simpa using this
   refine ⟨?_,oi,hoi,fun e he hb=>?_⟩
   ·have hl:i < listed.size:=by omega
    rw [ZbH hl]
    simpa using h
   ·have:=Array.all_eq_true_iff_forall_mem.1 h6 e he
    simp only [hb,Bool.not_true,Bool.false_or,List.contains_eq_mem,decide_eq_true_eq,ZBv,List.mem_flatMap,List.mem_filter,List.mem_cons] at this
    obtain ⟨e',⟨r1,r2⟩,r3⟩:=this
    have hl':=q3 e' (Array.mem_toList_iff.1 r1) r2
    rcases r3 with r3 | r3
    ·rw [r3];exact hl'
    ·cases ho':l.toArray[e'.on]? with
     | none=>rw [ho'] at r3;simp at r3
     | some o' =>
      rw [ho'] at r3
      simp only [List.mem_map,List.mem_filter] at r3
      obtain ⟨e2,⟨r4,r5⟩,r6⟩:=r3
      rw [<- r6]
      exact hcl e'.on o' hl' (by simpa using ho') e2 (Array.mem_toList_iff.1 r4) r5
 intro f
 induction f with
 | zero =>
  intro listed a w hs hcl h
  refine ⟨?_,h.2⟩
  by_cases hk:k∈Region.ready .any l.toArray listed
  ·rcases hun listed hs hcl hk with h1 | h1
   ·have:=(hrdy listed i).2 ⟨h1,fun e=>absurd e hik⟩
    rw [h.1] at this
    cases this
   ·have:=(hrdy listed k).2 ⟨hk,fun _=>h1⟩
    rw [h.1] at this
    cases this
  ·refine List.eq_nil_iff_forall_not_mem.2 fun j hj=>?_
   have:=(hrdy listed j).2 ⟨hj,fun e=>absurd (e ▸ hj) hk⟩
   rw [h.1] at this
   cases this
 | succ f ih =>
  intro listed a w hs hcl h
  by_cases hi:i∈Region.ready .any l.toArray listed
  ·have h1:=h.2 i ((hrdy listed i).2 ⟨hi,fun e=>absurd e hik⟩)
   rw [Zgf] at h1
   have h1':∃ v,Yields P l.toArray oi v a∧wpAny P .any (addL i k l).toArray Q f (listed.setIfInBounds i true) (a.put oi.dst v) w:=by
    unfold wpOp at h1
    simp only [hoi] at h1
    split at h5
    rotate_left
    ·cases h5
    rename_i d x y z ty pos af
    have hw:Region.wanted ⟨some d,.pick x y z,ty,pos,af,none⟩ (yielded l.toArray a.tmps)=true:=by simp [Region.wanted]
    rw [if_pos hw] at h1
    rcases h1 with h1 | ⟨_,b,w',h1⟩
    rotate_left
    ·have:=hQ _ _ _ h1;cases this
    unfold Oper.wp at h1
    cases hx:a.eval x with
    | bool b =>
     have hrun:∀ w',(execOp a.eval ⟨some d,.pick x y z,ty,pos,af,none⟩).run P w'=.ok (.value (if b then a.eval y else a.eval z)) w':=fun w'=>by
      cases b <;> simp [execOp,hx,asBool]
     rw [hrun,Oper.upon_value] at h1
     exact ⟨_,.inl ⟨hw,hrun⟩,h1⟩
    | _=>simp [execOp,hx,asBool,stuck,Oper.upon,Result.andThen] at h1
   obtain ⟨v,hv,h2⟩:=h1'
   refine wpAny_first (oi:=oi) (v:=v) hoi (fun j oj cs b hj hsl=>?_) (fun c a w hq=>?_) f listed a w (fun j oj hj hne hl hno=>?_) hi hv (ih _ _ _ (by simpa using hs) (hcl.put hi) h2)
   ·have:=List.all_eq_true.1 hsel oj (List.mem_of_getElem? (by simpa using hj))
    rw [hsl] at this
    cases this
   ·have:=hQ _ _ _ hq;cases this
   ·have hjs:=(Array.getElem?_eq_some_iff.1 hj).1
    have:=List.all_eq_true.1 hap j (List.mem_range.2 hjs)
    simp only [hoi,hj,Bool.or_eq_true,beq_iff_eq,List.any_eq_true,Array.any_eq_true',Bool.and_eq_true] at this
    rcases this with h1 | h1 | h1 | h1
    ·exact absurd h1 hne
    ·obtain ⟨ed,h2,h3,h4⟩:=h1
     obtain ⟨_,o,q2,q3⟩:=mem_ready.1 hi
     rw [hoi] at q2
     injection q2 with q2
     subst q2
     have q4:=q3 ed h2 h3
     rw [h4,<- ZbH (by simpa [hs] using hjs)] at q4
     rw [hl] at q4
     cases q4
    ·obtain ⟨ed,h2,h3,h4⟩:=h1
     exact absurd h4 (hno ed h2 h3)
    ·exact h1
  ·refine ⟨fun h0=>h.1 ?_,fun j hj=>?_⟩
   ·refine List.eq_nil_iff_forall_not_mem.2 fun j hj=>?_
    have:=((hrdy listed j).1 hj).1
    rw [h0] at this
    cases this
   ·have hj':j∈Region.ready .any (addL i k l).toArray listed:=(hrdy listed j).2 ⟨hj,fun e=>by
     subst e
     rcases hun listed hs hcl hj with h1 | h1
     ·exact absurd h1 hi
     ·exact h1⟩
    have h1:=h.2 j hj'
    rw [Zgf] at h1
    exact wpOp_mono (fun a w h=>ih _ a w (by simpa using hs) (hcl.put hj) h) h1
end
section
variable {e:Env} {K:St->Prop} {mask:Nat} {Q:PX->St->Prop} {s:List (Nat × A)} {m:List (Nat × Bk)}
theorem Zpi {l:List Oper} {i k:Nat} {σ:St} (hB:ZmV l.toArray i k=true) (h:Zcl e (addL i k l).toArray K l.length (Array.replicate l.length false) σ):Zcl e l.toArray K l.length (Array.replicate l.length false) σ:=by
 intro he U w0 S0 nt a w hd hs
 refine Zph (fun ex a w hq=>hq.1) hB _ _ _ _ (by simp) (fun j o hj=>by rw [getD_replicate_false] at hj;cases hj) (h he U w0 S0 nt a w (fun o ho d hdd=>?_) hs)
 have:some d∈(addL i k l).map (·.dst):=List.mem_map.2 ⟨o,by simpa using ho,hdd⟩
 rw [ZjJ] at this
 obtain ⟨o',h1,h2⟩:=List.mem_map.1 this
 exact hd o' (by simpa using h1) d h2
theorem ZkL (he:e.Ok) {U:Nat->Prop} {w0:World} {S0:Nat->Prop} {nt:Nat} {ops:Array Oper} {n:Nat} (hB:regB ops n=true) (hna:∀ o,(ops.toList.take n).getLast?=some o->isAl o=false) {Q:Exit->Act->World->Prop} (hQ:∀ a w σ',K σ'->SimE e U w0 S0 nt σ' a w->Q .normal a w) {σ:St} {a:Act} {w:World}
  (hd:∀ o∈ops.toList,∀ d,o.dst=some d->d < nt) (h:SimE e U w0 S0 nt σ a w) (hp:Runs e (ops.toList.map (·.dst)) n ops.toList σ K):wpAny e.P .any ops Q ops.size (Array.replicate ops.size false) a w:=by
 simp only [regB,Bool.and_eq_true,Bool.or_eq_true,decide_eq_true_eq] at hB
 obtain ⟨⟨⟨hH,hn⟩,hs⟩,hsq⟩:=hB
 obtain ⟨S,L,h1⟩:=h
 have hsplit:ops.toList=ops.toList.take n++ops.toList.drop n:=(List.take_append_drop n _).symm
 have hlen:(ops.toList.take n).length=n:=by simp;omega
 have hp':Runs e (ops.toList.map (·.dst)) ((ops.toList.take n).length+0) (ops.toList.take n++ops.toList.drop n) σ K:=by rw [<- hsplit,hlen];exact hp
 obtain ⟨αs,hal,hch,hrest⟩:=ZdI (U:=U) he w0.heap.size S0 ops.toList (ops.toList.drop n) 0 (ops.toList.take n) σ (fun _=>hna) hp'
 rw [hlen] at hal
 have inv0:InvA e U w0 S0 nt σ.m ops n σ.s αs L (Array.replicate ops.size false) a w S :=
  ⟨⟨by simp,fun j oj _ hl=>(by rw [getD_replicate_false] at hl;cases hl),fun t _ ht=>getD_in (by simpa using ht) (getD_replicate_false _ _)⟩,h1.size,h1.defers,h1.cls,h1.kept,fun t _=>h1.rel t,fun i o d α _ hl=>(by rw [getD_replicate_false] at hl;cases hl)⟩
 have H:=ZcU (e:=e) (L:=L) (Q:=Q) he hH hn (fun hlt=>by
   rcases hs with hs | hs
   ·omega
   ·exact hs) hsq (fun i o d hi ho hdd=>hd o (List.mem_iff_getElem?.2 ⟨i,by simpa using ho⟩) d hdd) hal hch (Zgh hH Q) (fun _ _ _ _ _ _ _ _ _ _ _ _ _ _=>trivial) (fun listed a' w' S' hI _ hall=>?_) n _ a _ S inv0 trivial ?_
 ·rw [show n+(ops.size - n)=ops.size by omega] at H
  exact H
 ·have hsim:SimE e U w0 S0 nt ⟨after σ.s (ops.toList.take n) αs,σ.m⟩ a' w':=by
   refine ⟨S',L,hI.cls,fun t=>?_,hI.size,hI.defers,hI.kept⟩
   by_cases hex:∃ (j:Nat) (p:Oper),j < n∧ops[j]?=some p∧p.dst=some t
   ·obtain ⟨j,p,hj,hp,hpt⟩:=hex
    obtain ⟨p',d',hP⟩:=Zb8.get hH hj
    have hpp:p'=p:=by have:=hP.op;rw [hp] at this;injection this with this;exact this.symm
    subst hpp
    have hdt:d'=t:=by have:=hP.dst;rw [hpt] at this;injection this with this;exact this.symm
    subst hdt
    obtain ⟨α,hα⟩:∃ α,αs[j]?=some α:=⟨αs[j],List.getElem?_eq_getElem om⟩
    show ARel w' S' L (gs (after σ.s (ops.toList.take n) αs) d') _
    rw [Zdk (ops.toList.take n) αs σ.s j p' α (by rw [List.getElem?_take,if_pos hj];simpa using hp) hα hpt (fun k q hk hq=>by
     rw [List.getElem?_take] at hq
     split at hq
     ·exact (hP.dep k q om (by simpa using hq)).1 hk
     ·cases hq)]
    exact hI.done j p' d' α hj (hall j hj) hp hpt hα
   ·have hno:∀ (j:Nat) (p:Oper),j < n->ops[j]?=some p->p.dst≠some t:=fun j p hj hp hd=>hex ⟨j,p,hj,hp,hd⟩
    show ARel w' S' L (gs (after σ.s (ops.toList.take n) αs) t) _
    rw [ZcB _ _ _ (fun p hp=>by
     obtain ⟨j,hj⟩:=List.mem_iff_getElem?.1 hp
     rw [List.getElem?_take] at hj
     split at hj
     ·exact hno j p om (by simpa using hj)
     ·cases hj)]
    exact hI.out t hno
  have:=ZkZ he ops.toList hQ (ops.toList.drop n) _ a' w' (fun o ho=>hd o (List.mem_of_mem_drop ho)) hsim hrest
  simpa using this
 ·rw [List.countP_eq_length.2]
  ·simp
  ·intro i hi
   have hi':=List.mem_range.1 hi
   have hsz:i < (Array.replicate ops.size false).size:=by simp;omega
   rw [ZbH hsz,getD_replicate_false]
   rfl
theorem ZsW {l:List Oper} {n:Nat} {σ:St} (hB:regB l.toArray n=true) (hna:∀ o,(l.take n).getLast?=some o->isAl o=false) (hp:Runs e (l.map (·.dst)) n l σ K):Zcl e l.toArray K l.length (Array.replicate l.length false) σ:=by
 intro he U w0 S0 nt a w hd hs
 have:=ZkL (ops:=l.toArray) (n:=n) he hB (by simpa using hna) (K:=K) (Q:=QN e U w0 S0 nt K) (fun a w σ' hK hs'=>⟨rfl,σ',hK,hs'⟩) hd hs (by simpa using hp)
 simpa using this
def ZwT (l:List Oper) (n:Nat):Bool:=match (l.take n).getLast? with
 | some o=>!isAl o
 | none=>true
theorem gLp {id:Nat} {l l':List Oper} {ds:List (Option Nat)} (n i k:Nat) (hK:Runs e ds n l' ⟨s,m⟩ (Zcr mask Q)) (hl:addL i k l=l':=by simp only [addL];exact rfl) (hds:l'.map (·.dst)=ds:=by simp only [List.map_cons,List.map_nil];exact rfl) (hc:ZmV l.toArray i k=true:=by decide +kernel) (hA:ZwT l' n=true:=by decide +kernel) (hr:regB l'.toArray n=true:=by decide +kernel):pwp e mask (.region id l.toArray true) ⟨s,m⟩ Q:=by
 subst hl hds
 have h1:=Zpi hc (by have:=ZsW hr (fun o ho=>by unfold ZwT at hA;rw [ho] at hA;simpa using hA) hK;rwa [ZjI] at this)
 exact Zio (ops:=l.toArray) (by simpa using h1)
end
end Go.Proofs.YtffmjghcpgpfpaaGreatDoor
namespace Go.Proofs.YtffmjghcpgpfpaaGreatDoor
open Go.RowKit
open Classical in
noncomputable def mk6 (g:Sgn) (o:Opr) (d:Dcl) (op:Int) (xs:List Tm):Tm:=(mkO g o d op xs).getD (if ¬ ArB o d xs.length∧∀ (i:Nat) a,xs[i]?=some a->KArg g o d i a then appT op (srtO o (Zar o op xs)) else zTm)
theorem Zon {g:Sgn} {o:Opr} {op:Int} {xs:List Tm} (h:∀ a∈xs,TermOk g a):∀ b∈Zar o op xs,ZaO g b:=by
 intro b hb
 obtain ⟨a,h1,h2⟩:=List.mem_flatMap.1 hb
 have hf:=(h a h1).form
 unfold Zbf at h2
 split at h2
 ·exact (Zbb.1 hf).2.1 b h2
 ·split at h2
  ·cases h2
  ·rw [List.mem_singleton.1 h2];exact hf
theorem Zl8:∀ (l m:List Tm),sizeTms (l++m)=sizeTms l+sizeTms m
 | [],m=>by simp [sizeTms]
 | x::l,m=>by simp only [List.cons_append,sizeTms,Zl8 l m];omega
theorem ZjK {g:Sgn} {o:Opr} {op:Int}:∀ {xs:List Tm},(∀ a∈xs,TermOk g a)->sizeTms (Zar o op xs)<=60 * xs.length
 | [],_=>by simp [Zar,sizeTms]
 | a::xs,h=>by
  have ih:=ZjK (o:=o) (op:=op) (xs:=xs) fun x hx=>h x (List.mem_cons_of_mem _ hx)
  have ha:=(h a List.mem_cons_self).size
  have e:Zar o op (a::xs)=Zbf o op a++Zar o op xs:=rfl
  have hz:=Za7 a
  have hf:sizeTms (Zbf o op a)<=sizeTm a:=by
   unfold Zbf
   split
   ·omega
   ·split
    ·simp [sizeTms]
    ·simp [sizeTms]
  rw [e,Zl8,List.length_cons]
  omega
theorem ZCh {g:Sgn} {o:Opr} {op:Int} {xs:List Tm} (h:∀ a∈xs,TermOk g a) (hl:xs.length<=1000):tmsB (Zar o op xs):=by
 have h1:=Zhr (Zgo.2 (Zon (o:=o) (op:=op) h))
 have h2:=ZjK (o:=o) (op:=op) h
 unfold tmsB
 omega
theorem ZsX {l m:List Tm} (h:l.Perm m):Zag (Zac l)=Zag (Zac m):=by
 induction h with
 | nil=>rfl
 | cons x h ih=>simp only [Zac,Zag,ih]
 | swap x y l=>simp only [Zac,Zag];omega
 | trans h1 h2 a b=>rw [a,b]
section
variable {g:Sgn}
open Classical in
set_option maxRecDepth 100000 in
theorem ZsY (hokg:Zdc g) (hg:SgnOk g) {op:Int} {o:Opr} {d:Dcl} (h0:0<=op) (ho:g.ops[op.toNat]?=some o) (hd:o.decls[0]?=some d) (xs:List Tm) (ha:∀ a∈xs,TermOk g a) (hl:xs.length<=1000):Con e0 121 [.agg (Zaw g),.one (.lit (.int .i64 op)),.one (.sl (Zac xs))] [.agg (Zae (mk6 g o d op xs)),.one (.lit (.bool (mkO g o d op xs).isSome))]:=by
 have hz:=ZiN
 have hfb:=ZCh (o:=o) (op:=op) ha hl
 have hfo:Zbo (Zar o op xs):=ZwR.2 fun b hb=>ZaO.ok hg _ b (Nat.lt_succ_self _) (Zon ha b hb)
 have hfs:=ZjK (o:=o) (op:=op) ha
 have hax:=hg.axs o (List.mem_of_getElem? ho)
 have hlo:=hax.lo
 have hhi:=hax.hi
 have hln:=hg.len
 obtain ⟨d',hd',hr0,hr1,hargs⟩:=hg.first ho
 rw [hd] at hd'
 injection hd' with hd'
 subst hd'
 have cK:=ZdW hg.sorts
 rw [Za2] at cK
 have cUn:=Zky hg h0 ho
 rw [Zaw] at cUn
 have cA:=ZeM hd
 rw [ZbL] at cA
 have hB:mkO g o d op xs=if ArB o d xs.length then none else if ∀ (i:Nat) a,xs[i]?=some a->KArg g o d i a then mkL o op (Zar o op xs) else none:=rfl
 have hM:mk6 g o d op xs=(mkO g o d op xs).getD (if ¬ ArB o d xs.length∧∀ (i:Nat) a,xs[i]?=some a->KArg g o d i a then appT op (srtO o (Zar o op xs)) else zTm):=rfl
 have har2:o.assoc=true->d.args.length=2:=fun h=>by
  obtain ⟨k1,k2,hk,_⟩:=Opr.two hg ho hd (.inl h)
  rw [hk];rfl
 refine gI (ts:=[.cell 6 46,.slot 7]) 691281634562849416457226259614436229071 Tryz.func121 ?_
 (have F:=ai @tmz (ai @ZbS (ai @h0 (ai @ho @Zaj)));have NN:Zai 2:=trivial;refine gGn ?_;clear F NN)
 refine gB ?_
 (have F:=@tmz;refine gC (cK) ?_;clear F)
 (have F:=@tmz;refine gR ?_;clear F)
 (have F:=@tmz;have NN:Zai 3:=trivial;refine gGn ?_;clear F NN)
 refine gM (ι:=Bool) [38] [] (fun b=>[(38,A.d (.one (.lit (.bool b))))]) (fun b=>[]) (fun b=>b=decide (ArB o d xs.length)) ?_ (fun b hb=>Exists.intro _ (ai (Wk.refl _) ?_))
 ·refine gB ?_
  (have F:=ai @tmz @Zaj;refine gC (cA) ?_;clear F)
  by_cases q:xs.length=d.args.length
  ·have q1:((xs.length:Int)=(d.args.length:Int))=True:=eq_true om
   have hA:¬ ArB o d xs.length:=fun h=>h.elim (fun h=>by have:=har2 h.1;omega) fun h=>h.2 q
   (have F:=ai @q1 @tmz;refine gR ?_;clear F)
   (have F:=@tmz;refine gG ?_;exact ⟨false,(decide_eq_false hA).symm,gw,gw⟩)
  have q1:((xs.length:Int)=(d.args.length:Int))=False:=eq_false om
  cases hac:o.assoc with
  | false =>
   have hA:ArB o d xs.length:=.inr ⟨hac,q⟩
   (have F:=ai @q1 (ai @hac @tmz);refine gR ?_;clear F)
   (have F:=@tmz;refine gG ?_;exact ⟨true,(decide_eq_true hA).symm,gw,gw⟩)
  | true =>
  by_cases q2:xs.length < 2
  ·have hA:ArB o d xs.length:=.inl ⟨hac,q2⟩
   have q3:((2:Int)<=(xs.length:Int))=False:=eq_false om
   (have F:=ai @q1 (ai @hac (ai @q3 @tmz));refine gR ?_;clear F)
   (have F:=@tmz;refine gG ?_;exact ⟨true,(decide_eq_true hA).symm,gw,gw⟩)
  ·have hA:¬ ArB o d xs.length:=fun h=>h.elim (fun h=>q2 h.2) fun h=>by rw [hac] at h;cases h.1
   have q3:((2:Int)<=(xs.length:Int))=True:=eq_true om
   (have F:=ai @q1 (ai @hac (ai @q3 @tmz));refine gR ?_;clear F)
   (have F:=@tmz;refine gG ?_;exact ⟨false,(decide_eq_false hA).symm,gw,gw⟩)
 by_cases hAr:ArB o d xs.length
 ·rw [decide_eq_true hAr] at hb
  subst hb
  rw [if_pos hAr] at hB
  rw [hB,if_neg fun h=>h.1 hAr] at hM
  rw [hM,hB]
  (have F:=ai @hz @tmz;refine gG ?_;exact gTd)
 rw [decide_eq_false hAr] at hb
 subst hb
 rw [if_neg hAr] at hB
 have hnas:o.assoc=false->xs.length=d.args.length:=fun h=>Classical.byContradiction fun c=>hAr (.inr ⟨h,c⟩)
 have hfl0:Zar o op []=[]:=rfl
 (have F:=@tmz;have NN:Zai 5:=trivial;refine gGn ?_;clear F NN)
 refine gB ?_
 (have F:=@tmz;refine gC (cUn) ?_;clear F)
 (have F:=@tmz;refine gR ?_;clear F)
 (have F:=@tmz;refine gG ?_;clear F)
 (have F:=ai @hfl0 (ai @Zdf @tmz);refine gL (ι:=Nat) [7,12,13,14,50,55,73,82,92] [12] (fun i=>[(13,A.d (.one (.lit (.int .i64 i)))),(12,.buf 12)]) (fun i=>[(12,.buf none 46 4 (Zac (Zar o op (xs.take i))))]) (fun i=>i<=xs.length∧∀ (j:Nat) a,j < i->xs[j]?=some a->KArg g o d j a) (fun i=>xs.length - i) (0) (⟨Nat.zero_le _,fun j a h=>absurd h om⟩) (fun i hi=>?_);clear F)
 obtain ⟨hi,hall⟩:=hi
 by_cases hlt:i < xs.length
 ·obtain ⟨a,hai⟩:∃ a,xs[i]?=some a:=⟨_,List.getElem?_eq_getElem hlt⟩
  have hT:=ha a (List.mem_of_getElem? hai)
  have q1:((i:Int) < (xs.length:Int))=True:=eq_true om
  have hw1:=Zav (k:=i) om
  obtain ⟨k,hk⟩:=Zgb hg ho hd hnas hlt
  obtain ⟨hk0,hk1⟩:=hargs k (List.mem_of_getElem? hk)
  have hkd:=ZfS hg.sorts hk0 hk1
  have hkN:d.args[(argAt o i:Nat)]?=some k:=hk
  have cKa:=Zkx hokg hg hT.form.node
  rw [Zaw] at cKa
  have cU:=Zhd (hT.ok hg) (Zl1 (o:=o) hlo om)
  have hUiff:o.unit≠0->(Zal a (Zbv o)=0 ↔ a.op=o.unit - 1):=fun hu=>by
   rw [Zib]
   constructor
   ·rintro h;rw [h];simp [Zbv,Tm.op,hu]
   ·exact Zie hg ho hu hT.form
  generalize hU:decide (Zal a (Zbv o)=0)=U at cU
  have hst:=Zjg (o:=o) (op:=op) hai
  have hle:=Zgd o op xs (i+1)
  rw [hst,List.length_append] at hle
  have hfl:=Zbx (Zar o op xs)
  have hnext:ZbA g a=((kd g.sorts k:Nat):Int)->i+1<=xs.length∧∀ (j:Nat) a,j < i+1->xs[j]?=some a->KArg g o d j a:=fun hkk=>⟨hlt,fun j a' hj ha'=>by
   by_cases e:j=i
   ·subst e
    rw [hai] at ha'
    injection ha' with ha'
    subst ha'
    exact ⟨k,hk,hkk⟩
   ·exact hall j a' om ha'⟩
  (have F:=ai @q1 @tmz;refine gG ?_;clear F)
  refine gM (ι:=Unit) [14] [] (fun u=>[(14,A.d (.one (.lit (.int .i64 (argAt o i:Nat)))))]) (fun u=>[]) (fun u=>True) ?_ (fun u hu=>Exists.intro _ (ai (Wk.refl _) ?_))
  ·rcases Bool.eq_false_or_eq_true o.assoc with hac | hac
   ·(have F:=ai @Zaj (ai @hac @ZiG);refine gG ?_;exact ⟨(),trivial,gw,gw⟩)
   ·(have F:=ai @Zaj (ai @hac (ai @ZiG @if_false.{1}));refine gG ?_;exact ⟨(),trivial,gw,gw⟩)
  (have F:=@tmz;have NN:Zai 13:=trivial;refine gGn ?_;clear F NN)
  refine gB ?_
  (have F:=ai @hai @tmz;refine gC (cKa) ?_;clear F)
  by_cases hkk:ZbA g a=((kd g.sorts k:Nat):Int)
  rotate_left
  ·have hno:¬ ∀ (i:Nat) a,xs[i]?=some a->KArg g o d i a:=fun h=>by
    obtain ⟨k',hk',he⟩:=h i a hai
    rw [hk] at hk'
    injection hk' with hk'
    subst hk'
    exact hkk he
   rw [if_neg hno] at hB
   rw [hB,if_neg fun h=>hno h.2] at hM
   rw [hM,hB]
   (have F:=ai @tmz (ai @Zaj (ai @hd (ai @ZaN (ai @hkN (ai @hk0 (ai @hkd (ai @ZaW @hkk)))))));refine gR ?_;clear F)
   (have F:=ai @hz @tmz;refine gG ?_;exact gTd)
  have hnext:=hnext hkk
  have l1:ZaV 4 (Zac (Zar o op (xs.take i)))=true:=Zfm _
  have l5:ZaV 4 (Zac a.args)=true:=Zfm _
  (have F:=ai @tmz (ai @Zaj (ai @hd (ai @ZaN (ai @hkN (ai @hk0 (ai @hkd (ai @ZaW @hkk)))))));refine gR ?_;clear F)
  (have F:=@tmz;have NN:Zai 16:=trivial;refine gGn ?_;clear F NN)
  refine gM (ι:=Bool) [82] [] (fun b=>[(82,A.d (.one (.lit (.bool b))))]) (fun b=>[]) (fun b=>b=decide (o.unit≠0∧a.op=o.unit - 1)) ?_ (fun b hb=>Exists.intro _ (ai (Wk.refl _) ?_))
  ·by_cases hu:o.unit=0
   ·(have F:=ai @hu @tmz;refine gG ?_;exact ⟨false,(decide_eq_false fun h=>h.1 hu).symm,gw,gw⟩)
   ·refine gB ?_
    (have F:=ai @hu (ai @hai @tmz);refine gC (cU) ?_;clear F)
    (have F:=@tmz;refine gR ?_;clear F)
    have e:U=decide (o.unit≠0∧a.op=o.unit - 1):=by
     rw [<- hU]
     exact decide_eq_decide.2 ⟨fun h=>⟨hu,(hUiff hu).1 h⟩,fun h=>(hUiff hu).2 h.2⟩
    (have F:=ai @hu @tmz;refine gG ?_;exact ⟨U,e,gw,gw⟩)
  by_cases hUn:o.unit≠0∧a.op=o.unit - 1
  ·rw [decide_eq_true hUn] at hb
   subst hb
   have hN:¬ (o.assoc=true∧a.op=op):=fun h=>by
    have e:(Zbv o).args=[]:=by unfold Zbv;rfl
    have e2:=Zie hg ho hUn.1 hT.form hUn.2
    obtain ⟨o',d',hA⟩:=hT.form.node.app om
    have:o'=o:=by have:=hA.at';rw [h.2,ho] at this;injection this with this;exact this.symm
    subst this
    have:=(hA.asc h.1).1
    rw [e2,e] at this
    simp at this
   have e:Zbf o op a=[]:=by unfold Zbf;rw [if_neg hN,if_pos hUn]
   rw [e,List.append_nil] at hst
   rw [<- hst]
   (have F:=ai @tmz @hw1;refine gG ?_;exact ⟨i+1,hnext,gw,gw,by omega⟩)
  rw [decide_eq_false hUn] at hb
  subst hb
  by_cases hN:o.assoc=true∧a.op=op
  ·have e:Zbf o op a=a.args:=by unfold Zbf;rw [if_pos hN]
   rw [e] at hst hle
   have l3:((Zar o op (xs.take i)).length+a.args.length<=maxApp)=True:=eq_true (by unfold maxApp;omega)
   have l4:Zac (Zar o op (xs.take i))++Zac a.args=Zac (Zar o op (xs.take (i+1))):=by rw [hst,ZdO]
   obtain ⟨hN1,hN2⟩:=hN
   have q2:(a.op=op)=True:=eq_true hN2
   (have F:=ai @tmz (ai @hai (ai @Zaj (ai @hN1 (ai @q2 (ai @l1 (ai @l5 (ai @l3 (ai @l4 @hw1))))))));refine gG ?_;exact ⟨i+1,hnext,gw,gw,by omega⟩)
  ·have e:Zbf o op a=[a]:=by unfold Zbf;rw [if_neg hN,if_neg hUn]
   rw [e] at hst hle
   have l3:((Zar o op (xs.take i)).length+1<=maxApp)=True:=eq_true (by simp only [List.length_cons,List.length_nil] at hle;unfold maxApp;omega)
   have l4:Zac (Zar o op (xs.take i))++[Zae a]=Zac (Zar o op (xs.take (i+1))):=by rw [hst,ZdO,ZkE]
   rcases Bool.eq_false_or_eq_true o.assoc with hac | hac
   ·have hq:(a.op=op)=False:=eq_false fun h=>hN ⟨hac,h⟩
    (have F:=ai @tmz (ai @hai (ai @Zaj (ai @hac (ai @hq (ai @l1 (ai @l3 (ai @l4 @hw1)))))));refine gG ?_;exact ⟨i+1,hnext,gw,gw,by omega⟩)
   ·(have F:=ai @tmz (ai @hai (ai @Zaj (ai @hac (ai @l1 (ai @l3 (ai @l4 @hw1))))));refine gG ?_;exact ⟨i+1,hnext,gw,gw,by omega⟩)
 ·obtain rfl:i=xs.length:=by omega
  have q1:((xs.length:Int) < (xs.length:Int))=False:=eq_false om
  rw [List.take_length]
  have hAll:∀ (i:Nat) a,xs[i]?=some a->KArg g o d i a:=fun j a h=>hall j a (List.getElem?_eq_some_iff.1 h).1 h
  rw [if_pos hAll] at hB
  rw [hB,if_pos ⟨hAr,hAll⟩] at hM
  rw [hM,hB]
  clear hM hB hall hAll hnas
  generalize hL:Zar o op xs=L at hfb hfo hfs ⊢
  have hLb:L.length+Zag (Zac L)<=1048576:=hfb
  (have F:=ai @q1 @tmz;have NN:Zai 19:=trivial;refine gGn ?_;clear F NN)
  refine pS 12 fun a cap=>?_
  refine pD 12 [12] [] ?_
  by_cases hu:o.unit≠0∧L.length < 2
  ·have e:mkL o op L=some (L.headD (Zbv o)):=by unfold mkL;rw [if_pos hu]
   rw [e]
   obtain ⟨hu1,hu2⟩:=hu
   have q2:(o.unit=0)=False:=eq_false hu1
   cases L with
   | nil =>
    have z2:(((0:Nat):Int)=0)=True:=eq_true om
    (have F:=ai @q1 (ai @Zaj (ai @q2 (ai @z2 @tmz)));refine gG ?_;exact gTd)
   | cons b bs =>
    have hbs:bs=[]:=List.eq_nil_of_length_eq_zero (by simp only [List.length_cons] at hu2;omega)
    subst hbs
    have hbb:Zak (Zae b)<=1048576:=by simp only [Zac,Zag] at hLb;omega
    have z1:(((0+1:Nat):Int)=0)=False:=eq_false om
    have z2:(((0+1:Nat):Int)=1)=True:=eq_true om
    have z3:(((1:Nat):Int)=0)=False:=eq_false om
    have z4:(((1:Nat):Int)=1)=True:=eq_true om
    have q5:([b]:List Tm)[0]?=some b:=rfl
    have z5:(0 < 0+1)=True:=eq_true om
    have z6:((0:Nat) < 1)=True:=eq_true om
    have z7:Int.toNat 0=0:=rfl
    (have F:=ai @q1 (ai @Zaj (ai @q2 (ai @z1 (ai @z2 (ai @z3 (ai @z4 (ai @z5 (ai @z6 (ai @z7 (ai @q5 @tmz))))))))));have NN:Zai 22:=trivial;refine gGn ?_;clear F NN)
    refine gB ?_
    (have F:=ai @z5 (ai @z6 (ai @z7 (ai @q5 @tmz)));refine gC (Zhq b hbb) ?_;clear F)
    (have F:=@tmz;refine gR ?_;clear F)
    (have F:=@tmz;refine gG ?_;exact gTd)
  ·have hml:mkL o op L=if BigT o op (srtO o L) then none else some (appT op (srtO o L)):=by unfold mkL;rw [if_neg hu]
   rw [hml]
   clear hml cUn cK cA
   have hSl:=Zn5 o L
   have hSp:=Ze7 o L
   have sz1:=Zif hSp
   have dz1:=ZhA hSp
   have sl1:=Zbx L
   have cSo:=Zom L hfo hfb
   refine gM (ι:=Unit) [116] [] (fun v=>[(116,A.d (.one (.lit (.bool false))))]) (fun v=>[]) (fun v=>True) ?_ (fun v hv=>Exists.intro _ (ai (Wk.refl _) ?_))
   ·by_cases hu0:o.unit=0
    ·have q2:(o.unit=0)=True:=eq_true hu0
     (have F:=ai @q2 @tmz;refine gG ?_;exact ⟨(),trivial,gw,gw⟩)
    ·have q2:(o.unit=0)=False:=eq_false hu0
     have q3:((L.length:Int)=0)=False:=eq_false fun h=>hu ⟨hu0,by omega⟩
     (have F:=ai @q2 (ai @q3 @tmz);refine gG ?_;exact ⟨(),trivial,gw,gw⟩)
   (have F:=@tmz;have NN:Zai 21:=trivial;refine gGn ?_;clear F NN)
   refine gM (ι:=Unit) [123] [] (fun v=>[(123,A.d (.one (.lit (.bool false))))]) (fun v=>[]) (fun v=>True) ?_ (fun v hv=>Exists.intro _ (ai (Wk.refl _) ?_))
   ·by_cases hu0:o.unit=0
    ·have q2:(o.unit=0)=True:=eq_true hu0
     (have F:=ai @q2 @tmz;refine gG ?_;exact ⟨(),trivial,gw,gw⟩)
    ·have q2:(o.unit=0)=False:=eq_false hu0
     have q3:((L.length:Int)=1)=False:=eq_false fun h=>hu ⟨hu0,by omega⟩
     (have F:=ai @q2 (ai @q3 @tmz);refine gG ?_;exact ⟨(),trivial,gw,gw⟩)
   (have F:=@tmz;have NN:Zai 23:=trivial;refine gGn ?_;clear F NN)
   refine gB ?_
   (have F:=ai @Zaj @tmz;refine gR ?_;clear F)
   refine gM (ι:=Unit) [12] [] (fun v=>[(12,.d (.one (.sl (Zac (srtO o L)))))]) (fun v=>[]) (fun v=>True) ?_ (fun v hv=>Exists.intro _ (ai (Wk.refl _) ?_))
   ·cases hcm:o.comm with
    | true =>
     rw [show srtO o L=Zas L by unfold srtO;rw [if_pos hcm]]
     (have F:=ai @hcm @tmz;have NN:Zai 24:=trivial;refine gGn ?_;clear F NN)
     refine gB ?_
     (have F:=@tmz;refine gC (cSo) ?_;clear F)
     (have F:=@tmz;refine gR ?_;clear F)
     (have F:=@tmz;refine gG ?_;exact ⟨(),trivial,gw,gw⟩)
    | false =>
     rw [show srtO o L=L by unfold srtO;rw [if_neg (by rw [hcm];simp)]]
     (have F:=ai @hcm @tmz;refine gG ?_;exact ⟨(),trivial,gw,gw⟩)
   have hSB:tmsB (srtO o L):=by
    unfold tmsB at hfb ⊢
    rw [ZsX hSp,hSl];exact hfb
   generalize srtO o L=S at hSl sz1 dz1 hSB ⊢
   have em:Zae (appT op S)=[.lit (.int .i64 op),.lit (.string ByteArray.empty),.lit (.int .i64 0),.sl (Zac S)]:=by simp only [appT,Zae]
   have zs:sizeTm (appT op S)=1+sizeTms S:=by rw [Za7];rfl
   have c1:=Zjf (t:=appT op S) (by unfold big;omega)
   rw [em] at c1
   (have F:=@tmz;have NN:Zai 25:=trivial;refine gGn ?_;clear F NN)
   refine gB ?_
   (have F:=@tmz;refine gC (Zir S hSB) ?_;clear F)
   (have F:=@tmz;refine gR ?_;clear F)
   (have F:=@tmz;have NN:Zai 26:=trivial;refine gGn ?_;clear F NN)
   by_cases h7:o.assoc=true∧7 < S.length
   ·rw [if_pos (show BigT o op S from .inl h7)]
    obtain ⟨hac,h7⟩:=h7
    have q2:((S.length:Int)<=7)=False:=eq_false om
    refine gLp 13 12 13 ?_
    (have F:=ai @hac (ai @q2 @tmz);refine gR ?_;clear F)
    (have F:=ai @hz (ai @em @tmz);refine gG ?_;exact gTd)
   have hac:o.assoc=true->((S.length:Int)<=7)=True:=fun h=>eq_true (Int.not_lt.1 fun q=>h7 ⟨h,by omega⟩)
   have hres:(if BigT o op S then none else some (appT op S)).isSome=decide (sizeTm (appT op S)<=60∧depthTm (appT op S)<=20):=by
    by_cases hbg:BigT o op S
    ·rw [if_pos hbg]
     refine (decide_eq_false fun h=>?_).symm
     rcases hbg with h | h | h
     ·exact h7 h
     ·omega
     ·omega
    ·rw [if_neg hbg]
     refine (decide_eq_true ⟨?_,?_⟩).symm
     ·exact Nat.not_lt.1 fun h=>hbg (.inr (.inl h))
     ·exact Nat.not_lt.1 fun h=>hbg (.inr (.inr h))
   have hgd:(if BigT o op S then none else some (appT op S)).getD (appT op S)=appT op S:=by
    split <;> rfl
   rw [hres,hgd,em]
   rcases Bool.eq_false_or_eq_true o.assoc with ha' | ha'
   ·have q2:=hac ha'
    refine gLp 13 12 13 ?_
    (have F:=ai @ha' (ai @q2 @tmz);refine gC (c1) ?_;clear F)
    (have F:=@tmz;refine gR ?_;clear F)
    (have F:=@tmz;refine gG ?_;exact gTd)
   ·refine gLp 13 12 13 ?_
    (have F:=ai @ha' @tmz;refine gC (c1) ?_;clear F)
    (have F:=@tmz;refine gR ?_;clear F)
    (have F:=@tmz;refine gG ?_;exact gTd)
end
end Go.Proofs.YtffmjghcpgpfpaaGreatDoor
namespace Go.Proofs.YtffmjghcpgpfpaaGreatDoor
open Go.RowKit
def decN (n:Nat):List UInt8:=if n < 10 then [UInt8.ofNat (48+n)] else [UInt8.ofNat (48+n / 10),UInt8.ofNat (48+n % 10)]
def decB (i:Int):List UInt8:=if i < 0 then 45::decN (-i).toNat else decN i.toNat
mutual
def Zcw:Tm->List UInt8
 | .mk op nm so args=>decB op++((if op < 0 then 58::(nm.toList++58::decB so) else [])++40::(ZaZ args++[41]))
def ZaZ:List Tm->List UInt8
 | []=>[]
 | t::ts=>Zcw t++ZaZ ts
end
theorem ZsZ (a b:List Tm):ZaZ (a++b)=ZaZ a++ZaZ b:=by
 induction a with
 | nil=>rfl
 | cons t ts ih=>simp only [List.cons_append,ZaZ,ih,List.append_assoc]
theorem ZeB {P:UInt8->Prop}:∀ {l m:List UInt8} {c d:UInt8} {x y:List UInt8},(∀ b∈l,P b)->(∀ b∈m,P b)->¬ P c->¬ P d->l++c::x=m++d::y->l=m∧c=d∧x=y
 | [],[],c,d,x,y,_,_,_,_,h=>by simpa using h
 | [],b::m,c,d,x,y,_,hm,hc,_,h=>by
  simp only [List.nil_append,List.cons_append,List.cons.injEq] at h
  exact absurd (hm b List.mem_cons_self) (h.1 ▸ hc)
 | a::l,[],c,d,x,y,hl,_,_,hd,h=>by
  simp only [List.nil_append,List.cons_append,List.cons.injEq] at h
  exact absurd (hl a List.mem_cons_self) (h.1 ▸ hd)
 | a::l,b::m,c,d,x,y,hl,hm,hc,hd,h=>by
  simp only [List.cons_append,List.cons.injEq] at h
  obtain ⟨h1,h2⟩:=ZeB (fun b hb=>hl b (List.mem_cons_of_mem _ hb)) (fun b hb=>hm b (List.mem_cons_of_mem _ hb)) hc hd h.2
  exact ⟨by rw [h.1,h1],h2⟩
def NumB (b:UInt8):Prop:=b=45∨(48<=b.toNat∧b.toNat<=57)
instance (b:UInt8):Decidable (NumB b):=by unfold NumB;infer_instance
theorem ZCi:∀ i:Fin 15,∀ b∈decB ((i.val:Int) - 1),NumB b:=by decide
theorem ZCj:∀ i j:Fin 15,decB ((i.val:Int) - 1)=decB ((j.val:Int) - 1)->i=j:=by decide
theorem ZiP {i:Int} (h0:-1<=i) (h1:i < 14):∀ b∈decB i,NumB b:=by
 have:=ZCi ⟨(i+1).toNat,by omega⟩
 rwa [show (((i+1).toNat:Nat):Int) - 1=i by omega] at this
theorem Zln {i j:Int} (h0:-1<=i) (h1:i < 14) (h2:-1<=j) (h3:j < 14) (h:decB i=decB j):i=j:=by
 have:=ZCj ⟨(i+1).toNat,by omega⟩ ⟨(j+1).toNat,by omega⟩ (by
  simp only
  rw [show (((i+1).toNat:Nat):Int) - 1=i by omega,show (((j+1).toNat:Nat):Int) - 1=j by omega];exact h)
 have:=congrArg Fin.val this
 simp only at this
 omega
theorem Zoo:∀ i:Fin 15,(decB ((i.val:Int) - 1)).head?≠some 41∧decB ((i.val:Int) - 1)≠[]:=by decide
def NamB (s:ByteArray):Prop:=∀ b∈s.toList,Zcu (b.toNat:Int)=true
mutual
def ZdR:Tm->Prop
 | .mk op nm so args=>-1<=op∧op < 14∧(op=-1->NamB nm∧0<=so∧so < 8)∧(op≠-1->nm=ByteArray.empty∧so=0)∧Zd0 args
def Zd0:List Tm->Prop
 | []=>True
 | t::ts=>ZdR t∧Zd0 ts
end
theorem toList_inj {a b:ByteArray} (h:a.toList=b.toList):a=b:=by
 rw [ByteArray.toList_eq,ByteArray.toList_eq] at h
 obtain ⟨x⟩:=a
 obtain ⟨y⟩:=b
 simp only at h
 rw [Array.toList_inj.1 h]
theorem Zee:¬ NumB 40:=by decide
theorem Zgg:¬ NumB 58:=by decide
mutual
theorem ZrK:∀ (a b:Tm) (x y:List UInt8),ZdR a->ZdR b->Zcw a++x=Zcw b++y->a=b∧x=y
 | .mk op nm so args,.mk op' nm' so' args',x,y,ha,hb,h=>by
  simp only [ZdR] at ha hb
  obtain ⟨a1,a2,a3,a4,a5⟩:=ha
  obtain ⟨b1,b2,b3,b4,b5⟩:=hb
  simp only [Zcw,List.append_assoc,List.cons_append] at h
  have n1:=ZiP a1 a2
  have n2:=ZiP b1 b2
  have hfst:op=op'∧nm=nm'∧so=so'∧ZaZ args++([41]++x)=ZaZ args'++([41]++y):=by
   by_cases h1:op < 0
   ·rw [if_pos h1] at h
    by_cases h2:op' < 0
    ·rw [if_pos h2] at h
     simp only [List.cons_append,List.append_assoc] at h
     obtain ⟨e1,_,e2⟩:=ZeB n1 n2 Zgg Zgg h
     have e1:=Zln a1 a2 b1 b2 e1
     have o1:op=-1:=by omega
     have o2:op'=-1:=by omega
     obtain ⟨p1,p2,p3⟩:=a3 o1
     obtain ⟨q1,q2,q3⟩:=b3 o2
     obtain ⟨f1,_,f2⟩:=ZeB (P:=fun b=>Zcu (b.toNat:Int)=true) p1 q1 (by decide) (by decide) e2
     obtain ⟨g1,_,g2⟩:=ZeB (ZiP om om) (ZiP om om) Zee Zee f2
     exact ⟨e1,toList_inj f1,Zln om om om om g1,g2⟩
    ·rw [if_neg h2] at h
     simp only [List.cons_append,List.nil_append] at h
     obtain ⟨_,e,_⟩:=ZeB n1 n2 Zgg Zee h
     exact absurd e (by decide)
   ·rw [if_neg h1] at h
    by_cases h2:op' < 0
    ·rw [if_pos h2] at h
     simp only [List.cons_append,List.nil_append] at h
     obtain ⟨_,e,_⟩:=ZeB n1 n2 Zee Zgg h
     exact absurd e (by decide)
    ·rw [if_neg h2] at h
     simp only [List.nil_append] at h
     obtain ⟨e1,_,e2⟩:=ZeB n1 n2 Zee Zee h
     have e1:=Zln a1 a2 b1 b2 e1
     obtain ⟨p1,p2⟩:=a4 om
     obtain ⟨q1,q2⟩:=b4 om
     exact ⟨e1,by rw [p1,q1],by rw [p2,q2],e2⟩
  obtain ⟨rfl,rfl,rfl,he⟩:=hfst
  obtain ⟨i1,i2⟩:=Zop args args' x y a5 b5 he
  exact ⟨by rw [i1],i2⟩
theorem Zop:∀ (xs bs:List Tm) (x y:List UInt8),Zd0 xs->Zd0 bs->ZaZ xs++([41]++x)=ZaZ bs++([41]++y)->xs=bs∧x=y
 | [],[],x,y,_,_,h=>by simpa [ZaZ] using h
 | [],.mk op nm so args::bs,x,y,_,hb,h=>by
  exfalso
  simp only [Zd0,ZdR] at hb
  have:=Zoo ⟨(op+1).toNat,by omega⟩
  rw [show (((op+1).toNat:Nat):Int) - 1=op by omega] at this
  simp only [ZaZ,Zcw,List.nil_append,List.append_assoc] at h
  cases hd:decB op with
  | nil=>exact this.2 hd
  | cons c l =>
   rw [hd] at h this
   simp only [List.cons_append,List.cons.injEq] at h
   exact this.1 (by rw [<- h.1];rfl)
 | .mk op nm so args::xs,[],x,y,ha,_,h=>by
  exfalso
  simp only [Zd0,ZdR] at ha
  have:=Zoo ⟨(op+1).toNat,by omega⟩
  rw [show (((op+1).toNat:Nat):Int) - 1=op by omega] at this
  simp only [ZaZ,Zcw,List.nil_append,List.append_assoc] at h
  cases hd:decB op with
  | nil=>exact this.2 hd
  | cons c l =>
   rw [hd] at h this
   simp only [List.cons_append,List.cons.injEq] at h
   exact this.1 (by rw [h.1];rfl)
 | a::xs,b::bs,x,y,ha,hb,h=>by
  simp only [Zd0] at ha hb
  simp only [ZaZ,List.append_assoc] at h
  obtain ⟨e1,e2⟩:=ZrK a b _ _ ha.1 hb.1 h
  obtain ⟨f1,f2⟩:=Zop xs bs x y ha.2 hb.2 e2
  exact ⟨by rw [e1,f1],f2⟩
end
theorem Zya {s:ByteArray} (h:Zbc s=true):NamB s:=by
 unfold Zbc at h
 simp only [Bool.and_eq_true] at h
 have hn:=h.2
 unfold Za1 at hn
 rw [List.all_eq_true] at hn
 intro b hb
 rw [ByteArray.toList_eq] at hb
 obtain ⟨i,hi,rfl⟩:=List.getElem_of_mem hb
 have hi':i < s.size:=by simpa using hi
 have:=hn i (List.mem_range'_1.2 ⟨Nat.zero_le _,by omega⟩)
 simp only [Bool.and_eq_true,Zh2,dif_pos hi'] at this
 exact this.1
mutual
theorem ZfZ {g:Sgn} (hg:SgnOk g):∀ (t:Tm),ZaO g t->ZdR t
 | .mk op nm so args,h=>by
  have h2:ZcH g args:=by simp only [ZaO] at h;exact h.2.1
  have h1:Zco g (.mk op nm so args):=by simp only [ZaO] at h;exact h.1
  have hl:=hg.len
  have hn:=hg.sorts.n8
  refine ⟨?_,?_,?_,?_,Zl9 hg args h2⟩
  ·rcases h1 with h | ⟨o,d,h⟩
   ·have:op=-1:=h.1
    omega
   ·have:0<=op:=h.lo
    omega
  ·rcases h1 with h | ⟨o,d,h⟩
   ·have:op=-1:=h.1
    omega
   ·have h0:0<=op:=h.lo
    have:g.ops[op.toNat]?=some o:=h.at'
    have:=(List.getElem?_eq_some_iff.1 this).1
    omega
  ·intro ho
   rcases h1 with h | ⟨o,d,h⟩
   ·have h4:0<=so:=h.2.2.1
    have h5:so < g.sorts.names.length:=h.2.2.2.1
    exact ⟨Zya h.2.1,h4,by omega⟩
   ·have:0<=op:=h.lo
    omega
  ·intro ho
   rcases h1 with h | ⟨o,d,h⟩
   ·have:op=-1:=h.1
    omega
   ·exact ⟨h.nm,h.so⟩
theorem Zl9 {g:Sgn} (hg:SgnOk g):∀ (ts:List Tm),ZcH g ts->Zd0 ts
 | [],_=>trivial
 | t::ts,h=>by
  simp only [ZcH] at h
  exact ⟨ZfZ hg t h.1,Zl9 hg ts h.2⟩
end
def keyS (t:Tm):ByteArray:=⟨(Zcw t).toArray⟩
theorem Zoq {g:Sgn} (hg:SgnOk g) {a b:Tm} (ha:ZaO g a) (hb:ZaO g b) (h:(keyS a).toList=(keyS b).toList):a=b:=by
 rw [ByteArray.toList_eq,ByteArray.toList_eq] at h
 simp only [keyS] at h
 exact (ZrK a b [] [] (ZfZ hg a ha) (ZfZ hg b hb) (by rw [List.append_nil,List.append_nil];exact h)).1
def ZeC (P:Program) (s d:TypeId):Bool:=match P.underlying s,P.underlying d with
 | some (.slice e),some .string=>match P.underlying e with
  | some (.int .u8)=>true
  | _=>false
 | _,_=>false
def ZiQ (b:Int):ByteArray:=ByteArray.empty.push (UInt8.ofNat b.toNat)
section
variable {e:Env} {σ:St} {o:Oper} {K:St->Prop}
theorem ZwU {s d:TypeId} {x:Operand} {b:Int} (ho:o.op=.convert s d x) (hx:evA σ.s x=.d (.clip [[.lit (.int .u8 b)]])) (ht:ZeC e.P s d=true) (hK:K ⟨setA σ.s o.dst (.d (.one (.lit (.string (ZiQ b))))),σ.m⟩):Zbm e o σ K:=by
 intro he U w0 S0 nt a w Q hd ⟨S,L,h⟩
 refine Oper.wp_mono (fun a' w' hs=>⟨_,hK,hs⟩) (ZdG h hd (ZaA fun w S L ρv hC hr=>?_))
 have hx':=hr x (by simp [ho,Op.operands])
 rw [hx] at hx'
 obtain ⟨⟨A,n,cap,hv,hn,_,_,hb⟩,_⟩:=hx'
 simp only [List.length_cons,List.length_nil,Nat.zero_add] at hn
 subst hn
 obtain ⟨g,off,rfl,_,_,hrow⟩:=hb (by decide)
 simp only [Zao,Zaf,Rep,and_true] at hrow
 obtain ⟨u,hc,rfl⟩:=hrow
 have hl:=run_loadCells_list (P:=e.P) w ⟨g,off,none⟩ [.int .u8 b] (fun j u hj=>by
  cases j with
  | zero=>simp at hj;subst hj;rw [Addr.add_at];exact hc
  | succ j=>simp at hj)
 unfold ZeC at ht
 split at ht
 ·rename_i e1 h1 h2
  split at ht
  ·rename_i h3
   refine ⟨.string (ZiQ b),?_,by simp [ARel,DRel,Rep]⟩
   simp only [List.length_cons,List.length_nil,Nat.zero_add] at hl
   simp [execOp,ho,hv,convert,underlying,h1,h2,h3,Conv.bytesToString,hl,ZiQ,Result.andThen]
  ·cases ht
 ·cases ht
end
theorem gY {e:Env} {K:St->Prop} {ds:List (Option Nat)} {os:List Oper} {d t1 t2 ty:Nat} {p:String} {ed:Array Edge} {x:Operand} {s:List (Nat × A)} {m:List (Nat × Bk)} {b:Int} (hK:Runs e ds 0 os ⟨(d,.d (.one (.lit (.string (ZiQ b)))))::s,m⟩ K)
  (hx:evA s x=.d (.clip [[.lit (.int .u8 b)]]):=by exact snx) (ht:ZeC e.P t1 t2=true:=by kernel_rfl):Runs e ds 0 (⟨some d,.convert t1 t2 x,ty,p,ed,none⟩::os) ⟨s,m⟩ K:=by
 simp only [Runs] at hK ⊢
 exact Zb9 rfl (ZwU (o:=⟨some d,.convert t1 t2 x,ty,p,ed,none⟩) rfl hx ht hK)
end Go.Proofs.YtffmjghcpgpfpaaGreatDoor
