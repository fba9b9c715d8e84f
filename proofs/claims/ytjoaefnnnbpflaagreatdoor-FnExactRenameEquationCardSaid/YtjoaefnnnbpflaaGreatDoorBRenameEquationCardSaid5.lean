/-
  Part of a proof.
-/
import Derived.Test.YtjoaefnnnbpflaaGreatDoorBRenameEquationCardSaid0
import Derived.Test.YtjoaefnnnbpflaaGreatDoorBRenameEquationCardSaid1
import Derived.Test.YtjoaefnnnbpflaaGreatDoorBRenameEquationCardSaid2
import Derived.Test.YtjoaefnnnbpflaaGreatDoorBRenameEquationCardSaid3
import Derived.Test.YtjoaefnnnbpflaaGreatDoorBRenameEquationCardSaid4
import Derived.Shelf.Lays7
import Derived.Test.YtjoaefnnnbpflaaGreatDoorChecked
import Derived.Shelf.Spec.TrailingZeros
import Derived.Shelf.SlSortCmp.WholeK
import Derived.Shelf.SlSortCmp.NoneTotal
import Derived.Lib.QuietBelow
import Derived.Shelf.SlLaysF0
set_option linter.unusedSimpArgs false
set_option linter.unusedVariables false
set_option maxHeartbeats 400000000
set_option maxRecDepth 100000
namespace Go.Proofs.YtjoaefnnnbpflaaGreatDoor
open Go.Shelf
end Go.Proofs.YtjoaefnnnbpflaaGreatDoor
namespace Go.Proofs.YtjoaefnnnbpflaaGreatDoor
open Go.RowKit
section
variable {g:Sgn} {mc:C}
end
section
variable {g:Sgn}
end
section
variable {g:Sgn}
end
section
variable {g:Sgn}
end
section
variable {g:Sgn}
end
section
variable {g:Sgn} {l:List Bd}
theorem ZbI.term {t:Tm} (h:ZbI g t):TermOk g t:=by
 have ha0:t.args=[]:=h.2.2.2.2;have hf:ZaI g t:=Zbd.2 ⟨.inl h,(by rw [ha0];intro a ha;cases ha),.inl h.1⟩;have h1:=Za3 t;rw [ha0,Znt] at h1;have h2:=ZlL t;exact ⟨om,om,hf⟩
theorem TermOk.var {t:Tm} (h:TermOk g t) (ho:t.op=-1):ZbI g t:=h.form.node.resolve_right fun ⟨o,d,hA⟩=>by have:=hA.lo;omega
theorem bd_l:∀ (b:Bd),(ZbP b).length=8:=fun b=>by simp [ZbP,tmz]
theorem ZAQ:∀ (b:Bd),(ZbP b).take 8=ZbP b:=fun b=>List.take_of_length_le (by rw [bd_l];omega)
theorem ZAR:∀ (b:Bd),(ZbP b).drop 8=[]:=fun b=>List.drop_eq_nil_of_le (by rw [bd_l];omega)
theorem ZAS:∀ (b:Bd),(ZbP b).take 4=Zab b.var:=fun ⟨v,t⟩=>by cases v;simp [ZbP,Zab]
theorem ZAT:∀ (b:Bd),(ZbP b).drop 4=Zab b.to:=fun ⟨v,t⟩=>by cases v;simp [ZbP,Zab]
theorem ZAU:∀ (b:Bd),(ZbP b).drop 2=.lit (.int .i64 b.var.sort)::.sl (Zaa b.var.args)::Zab b.to:=fun ⟨v,t⟩=>by cases v;simp [ZbP,Zab,Tm.sort,Tm.args]
theorem bd_o:∀ (b:Bd),valT TK.one (ZbP b)=some (A.d (D.one (C.lit (Value.int IntKind.i64 b.var.op)))):=fun ⟨v,t⟩=>by cases v;simp [ZbP,Zab,Tm.op,valT]
theorem bd_k:∀ (b:Bd),(ZbP b).all Zaj=true:=fun b=>by simp [ZbP,List.all_append,tmz]
theorem bdz:type_of% (aj8 bd_l ZAQ ZAR ZAS ZAT ZAU bd_o bd_k):=aj8 bd_l ZAQ ZAR ZAS ZAT ZAU bd_o bd_k
end
structure RenAt (g:Sgn) (y:Bd):Prop where
 var:ZbI g y.var
 to':ZbI g y.to
 kd':kd g.sorts y.to.sort=kd g.sorts y.var.sort
def ZtI (g:Sgn) (l:List Bd):Prop:=∀ y∈l,RenAt g y
theorem Zfi:∀ {l:List Bd} {v u:Tm},ZaU l v=some u->∃ y∈l,y.var=v∧y.to=u
 | b::l,v,u,h=>by
  simp only [ZaU] at h;split at h
  ·rename_i e;injection h with h
   exact ⟨b,Tas,ZeR.1 e,h⟩
  ·obtain ⟨y,hy,h⟩:=Zfi h;exact ⟨y,Tal _ hy,h⟩
theorem ZnD {o:Opr} {op:Int}:∀ {us:List Tm},(∀ b∈us,(o.assoc=true->b.op≠op)∧(o.unit≠0->b.op≠o.unit - 1))->Zat o op us=us
 | [],_=>rfl
 | b::us,h=>by
  have h1:=h b Tas;rw [Zat,List.flatMap_cons,show us.flatMap (Zbq o op)=us from ZnD fun b hb=>h b (Tal _ hb),Zbq,if_neg fun e=>h1.1 e.1 e.2,if_neg fun e=>h1.2 e.1 e.2];rfl
theorem Zze {g:Sgn} {l:List Bd} (hR:ZtI g l) {t:Tm} (ht:t.op=-1):((ZaU l t).getD t).op=-1∧ZaO g ((ZaU l t).getD t)=ZaO g t:=by
 cases h:ZaU l t with
 | none=>exact ⟨ht,rfl⟩
 | some u =>
  obtain ⟨y,hy,rfl,rfl⟩:=Zfi h;have:=hR y hy;refine ⟨this.to'.1,?_⟩;show ZaO g y.to=_;unfold ZaO;rw [if_pos this.to'.1,if_pos this.var.1,this.kd']
structure RenTo (g:Sgn) (l:List Bd) (t u:Tm):Prop where
 size:sizeTm u=sizeTm t
 depth:depthTm u=depthTm t
 kind:ZaO g u=ZaO g t
 op:u.op=t.op
 args:t.op≠-1->∃ o us,g.ops[t.op.toNat]?=some o∧apTs g l t.args=some us∧u.args=srtO o us∧(o.comm=true->o.assoc=false->us.length=2)
theorem ZpP {g:Sgn} {l:List Bd}:∀ {ts:List Tm},(∀ a∈ts,∃ u,apT g l a=some u∧RenTo g l a u)->∃ us,apTs g l ts=some us∧sizeTms us=sizeTms ts∧depthTms us=depthTms ts∧∀ (i:Nat) b,us[i]?=some b->∃ a,ts[i]?=some a∧apT g l a=some b∧RenTo g l a b
 | [],_=>⟨[],by simp only [apTs],rfl,rfl,fun i b h=>by simp at h⟩
 | t::ts,h=>by
  obtain ⟨u,h1,h2⟩:=h t Tas;obtain ⟨us,h3,h4,h5,h6⟩:=ZpP (ts:=ts) fun a ha=>h a (Tal _ ha);refine ⟨u::us,by simp only [apTs,h1,h3,Option.bind_some,Option.map_some],by simp only [sizeTms,h2.size,h4],by simp only [depthTms,h2.depth,h5],fun i b hb=>?_⟩
  cases i with
  | zero =>
   simp only [Tat,Taq] at hb;subst hb;exact ⟨t,rfl,h1,h2⟩
  | succ i=>exact h6 i b (by simpa using hb)
theorem ZpQ {g:Sgn} (hg:SgnOk g) {l:List Bd} (hR:ZtI g l):∀ (n:Nat) (t:Tm),sizeTm t < n->TermOk g t->∃ u,apT g l t=some u∧RenTo g l t u
 | 0,t,hn,_=>om
 | n+1,t,hn,ht=>by
  by_cases hv:t.op=-1
  ·have hV:ZbI g t:=by
    rcases ht.form.node with h | ⟨o,d,h⟩
    ·exact h
    ·have:=h.lo;omega
   have ha0:t.args=[]:=hV.2.2.2.2;have h1:=Zze hR hv;refine ⟨_,ZhC hv,?_,?_,h1.2,by rw [h1.1,hv],fun h=>absurd hv h⟩
   ·rw [Za3,Za3 t,ha0]
    cases h:ZaU l t with
    | none=>simp only [Option.getD_none,ha0]
    | some u =>
     obtain ⟨y,hy,_,rfl⟩:=Zfi h;simp only [Option.getD_some,(hR y hy).to'.2.2.2.2]
   ·rw [Zdg,Zdg t,ha0]
    cases h:ZaU l t with
    | none=>simp only [Option.getD_none,ha0]
    | some u =>
     obtain ⟨y,hy,_,rfl⟩:=Zfi h;simp only [Option.getD_some,(hR y hy).to'.2.2.2.2]
  ·obtain ⟨o,d,hA⟩:∃ o d,AppOk g t o d:=by
    rcases ht.form.node with h | h
    ·exact absurd h.1 hv
    ·exact h
   have hRt:Zhz g t.op t.args:=(Zbd.1 ht.form).2.2.resolve_left hv;have hs:=hn;rw [Za3] at hs;obtain ⟨us,h1,h2,h3,h4⟩:=ZpP (g:=g) (l:=l) (ts:=t.args) fun a ha=>by
    have:=Zbu ha;exact ZpQ hg hR n a om (ht.arg ha)
   have hl:us.length=t.args.length:=Zib h1;have hdeg:=fun h=>Opr.deg2 hg hA.at' h d (Tac hA.fst);have hfl:Zat o t.op us=us:=ZnD fun b hb=>by
    obtain ⟨i,hi⟩:=Tbk hb;obtain ⟨a,ha,_,hab⟩:=h4 i b hi;have hArg:=hRt o d hA.at' hA.fst i a ha;rw [hab.op];exact ⟨hArg.nest,hArg.unit⟩
   have hS:sizeTms (srtO o us)=sizeTms t.args:=by rw [ZgI (Zd9 o us),h2]
   have hD:depthTms (srtO o us)=depthTms t.args:=by rw [ZfP (Zd9 o us),h3]
   have hS':sizeTm (appT t.op (srtO o us))=sizeTm t:=by rw [Za3,Za3 t];exact congrArg (1+·) hS
   have hD':depthTm (appT t.op (srtO o us))=depthTm t:=by rw [Zdg,Zdg t];exact congrArg (1+·) hD
   refine ⟨appT t.op (srtO o us),?_,hS',hD',?_,rfl,fun _=>⟨o,us,hA.at',h1,rfl,fun hc ha=>by rw [hl,hA.nas ha];exact hdeg (.inr (.inl hc))⟩⟩
   ·rw [Zfg hv,h1,Option.bind_some,ZpD hA.at' hA.fst,mkO,hfl,if_neg,if_pos,mkL,if_neg,if_neg]
    ·rintro (⟨ha,hb⟩ | hb | hb)
     ·rw [ZkN,hl] at hb;have:=(hA.asc ha).2;omega
     ·rw [hS'] at hb;have:=ht.size;omega
     ·rw [hD'] at hb;have:=ht.depth;omega
    ·rintro ⟨hu,hb⟩;rw [hl] at hb
     cases ha:o.assoc with
     | true=>have:=(hA.asc ha).1;omega
     | false =>
      have:=hA.nas ha;have:=hdeg (.inr (.inr hu));omega
    ·intro i b hb;obtain ⟨a,ha,_,hab⟩:=h4 i b hb;have hArg:=hRt o d hA.at' hA.fst i a ha;have hil:=(Tad.1 ha).1;have hlt:argAt o i < d.args.length:=by
      unfold argAt
      cases has:o.assoc with
      | true=>rw [if_pos rfl,hdeg (.inl has)];omega
      | false=>rw [if_neg (by simp),<- hA.nas has];exact hil
     exact ⟨_,Taa hlt,by rw [hab.kind];exact hArg.kind _ (Taa hlt)⟩
    ·rintro (⟨ha,hb⟩ | ⟨ha,hb⟩)
     ·rw [hl] at hb;have:=(hA.asc ha).1;omega
     ·rw [hl] at hb;exact hb (hA.nas ha)
   ·unfold ZaO;rw [if_neg hv,if_neg (show (appT t.op (srtO o us)).op≠-1 from hv)];rfl
def fmt2 (k:Nat):ByteArray:=if k < 10 then ⟨#[UInt8.ofNat (48+k)]⟩ else ⟨#[UInt8.ofNat (48+k / 10),UInt8.ofNat (48+k % 10)]⟩
def hasV (l:List Tm) (t:Tm):Bool:=l.any fun x=>decide (Zah x t=0)
mutual
def ordT:Tm->List Tm->List Tm
 | .mk op nm so args,l=>if op=-1 then (if hasV l (.mk op nm so args) then l else l++[.mk op nm so args]) else ZbJ args l
def ZbJ:List Tm->List Tm->List Tm
 | [],l=>l
 | t::ts,l=>ZbJ ts (ordT t l)
end
def ZdM (L:ByteArray) (i:Nat) (v:Tm):Bd:=⟨v,.mk (-1) (L++fmt2 (i+1)) v.sort []⟩
def renB (L:ByteArray) (l:List Tm):List Bd:=l.mapIdx (ZdM L)
section
variable {L:ByteArray} {l:List Tm}
theorem Zdo:(renB L l).length=l.length:=by simp [renB]
theorem ZnE (v:Tm):renB L (l++[v])=renB L l++[ZdM L l.length v]:=by simp [renB,List.mapIdx_append]
theorem Zzf {i:Nat} {v:Tm} (h:l[i]?=some v):(renB L l)[i]?=some (ZdM L i v):=by simp [renB,h]
theorem Zii {y:Bd} (h:y∈renB L l):∃ i v,l[i]?=some v∧y=ZdM L i v:=by
 obtain ⟨i,hi⟩:=Tbk h;simp only [renB,List.getElem?_mapIdx,Tav] at hi;obtain ⟨v,hv,rfl⟩:=hi;exact ⟨i,v,hv,rfl⟩
theorem ZnF:∀ {l:List Bd} {v:Tm},(ZaU l v).isSome=l.any fun y=>decide (Zah y.var v=0)
 | [],v=>rfl
 | b::l,v=>by
  simp only [ZaU,List.any_cons];split
  ·rename_i h;simp [h]
  ·rename_i h;simp [h,ZnF]
theorem ZxG (v:Tm):(ZaU (renB L l) v).isSome=hasV l v:=by
 rw [ZnF,hasV,Bool.eq_iff_iff,List.any_eq_true,List.any_eq_true];constructor
 ·rintro ⟨y,hy,h⟩;obtain ⟨i,u,hu,rfl⟩:=Zii hy;exact ⟨u,Tac hu,h⟩
 ·rintro ⟨u,hu,h⟩;obtain ⟨i,hi⟩:=Tbk hu;exact ⟨ZdM L i u,Tac (Zzf hi),h⟩
mutual
theorem Zij:∀ (t:Tm) (l:List Tm),(ordT t l).length<=l.length+sizeTm t
 | .mk op nm so args,l=>by
  have:=Zg5 args l;simp only [ordT,sizeTm];split
  ·split
   ·omega
   ·simp only [Tae,Tag,Tak];omega
  ·omega
theorem Zg5:∀ (ts:List Tm) (l:List Tm),(ZbJ ts l).length<=l.length+sizeTms ts
 | [],l=>by simp only [ZbJ,sizeTms];omega
 | t::ts,l=>by
  have h1:=Zg5 ts (ordT t l);have h2:=Zij t l;simp only [ZbJ,sizeTms];omega
end
theorem Zik:∀ (ts:List Tm) (t:Tm) (l:List Tm),ZbJ (ts++[t]) l=ordT t (ZbJ ts l)
 | [],t,l=>by simp only [Tah,ZbJ]
 | x::xs,t,l=>by rw [Taf,ZbJ,ZbJ,Zik xs]
theorem ZpR {s:ByteArray} (h0:∀ (i:Nat) (h:i < s.size),Zcp (s[i].toNat:Int)=true) (h1:∀ h:0 < s.size,¬ (s[0].toNat:Int)<=57):ZaY s 0=true:=by
 unfold ZaY;rw [List.all_eq_true];intro i hi;have hi':i < s.size:=by simpa using hi
 have e:Zgy s i=(s[i].toNat:Int):=by unfold Zgy;rw [dif_pos hi']
 rw [e,h0 i hi']
 cases i with
 | zero=>simpa using h1 hi'
 | succ i=>simp
theorem ZpS {s:ByteArray} (h:ZaY s 0=true) (h0:0 < s.size):Zcp (s[0].toNat:Int)=true∧¬ (s[0].toNat:Int)<=57:=by
 rw [Ziz h0,Tar,Tar] at h;exact ⟨h.1.1,by simpa using h.1.2⟩
theorem Zl4 {k:Nat} (hk:k < 100):∀ (i:Nat) (h:i < (fmt2 k).size),48<=(fmt2 k)[i].toNat∧(fmt2 k)[i].toNat<=57:=by
 have:∀ k < 100,(fmt2 k).data.toList.all (fun b=>decide (48<=b.toNat∧b.toNat<=57))=true:=by decide +kernel
 intro i h
 have h2:=List.all_eq_true.1 (this k hk) ((fmt2 k)[i]) (by
  have:(fmt2 k)[i]=(fmt2 k).data[i]'h:=rfl;rw [this,Array.mem_toList_iff];exact Array.getElem_mem _)
 simpa using h2
theorem Zg6 (k:Nat):(fmt2 k).size=if k < 10 then 1 else 2:=by
 unfold fmt2;split <;> rfl
theorem ZpT {L M:ByteArray} (h1:L.size=1) (h:0 < (L++M).size):(L++M)[0]=L[0]'om:=ByteArray.getElem_append_left om
theorem ZpU {L M:ByteArray} (h1:L.size=1) {i:Nat} (h:i+1 < (L++M).size) (h2:i < M.size):(L++M)[i+1]=M[i]:=by
 rw [ByteArray.getElem_append_right om];simp only [h1,Nat.add_sub_cancel]
theorem ZtJ {L:ByteArray} (hL:ZaG L=true) (h1:L.size=1) {k:Nat} (hk:k < 100):ZaG (L++fmt2 k)=true:=by
 have hs:(L++fmt2 k).size=1+(fmt2 k).size:=by rw [ByteArray.size_append,h1]
 have h2:=Zg6 k;have hb:1<=(fmt2 k).size∧(fmt2 k).size<=2:=by rw [h2];split <;> omega
 simp only [ZaG,Tar] at hL;have hf:=ZpS hL.2 om;have d0:=Zl4 hk 0 om;have g1:(L++fmt2 k)[1]'om=(fmt2 k)[0]'om:=ZpU h1 (i:=0) om om;have hn:ZaY (L++fmt2 k) 0=true:=by
  refine ZpR (fun i hi=>?_) (fun h0=>?_)
  ·cases i with
   | zero=>rw [ZpT h1 hi];exact hf.1
   | succ i =>
    have hi2:i < (fmt2 k).size:=om;rw [ZpU h1 hi hi2];have:=Zl4 hk i hi2;simp only [Zcp,Bool.or_eq_true,decide_eq_true_eq];omega
  ·rw [ZpT h1 h0];exact hf.2
 have hne:∀ (b c:UInt8) (r:List UInt8),57 < c.toNat->(L++fmt2 k).toList≠b::c::r:=fun b c r hc e=>by
  rw [ByteArray.toList_eq] at e;have e1:(L++fmt2 k).data.toList[1]?=some c:=by rw [e];rfl
  have e2:(L++fmt2 k).data.toList[1]?=some ((L++fmt2 k)[1]'om):=by
   rw [Taa (by rw [Array.length_toList];exact (by omega:1 < (L++fmt2 k).size))];rfl
  rw [e2,g1] at e1;injection e1 with e1
  rw [e1] at d0;omega
 have n1:=hne 105 102 [] (by decide);have n2:=hne 97 110 [100] (by decide);simp only [ZaG,hn,Bool.and_true,Tar,decide_eq_true_eq,Bool.not_eq_true',beq_eq_false_iff_ne];exact ⟨⟨om,n1⟩,n2⟩
theorem Zhl:∀ {l:List Bd},Zih l->∀ {y:Bd},y∈l->ZaU l y.var=some y.to
 | x::l,hd,y,hy=>by
  obtain ⟨d1,d2⟩:=List.pairwise_cons.1 hd;rcases Tbg.1 hy with rfl | hy
  ·simp only [ZaU,Zdh,if_true]
  ·simp only [ZaU,if_neg (d1 y hy)];exact Zhl d2 hy
theorem ZxH {l m:List Bd} (hl:Zih l) (hm:Zih m) (h:l.Perm m) (v:Tm):ZaU l v=ZaU m v:=by
 cases e:ZaU l v with
 | some u =>
  obtain ⟨y,hy,rfl,rfl⟩:=Zfi e;exact (Zhl hm (h.mem_iff.1 hy)).symm
 | none =>
  cases e2:ZaU m v with
  | none=>rfl
  | some u =>
   obtain ⟨y,hy,rfl,rfl⟩:=Zfi e2;rw [Zhl hl (h.mem_iff.2 hy)] at e
   cases e
mutual
theorem ZkQ {g:Sgn} {l m:List Bd} (h:∀ v,ZaU l v=ZaU m v):∀ t:Tm,apT g l t=apT g m t
 | .mk op nm so args=>by simp only [apT,h,ZnG h args]
theorem ZnG {g:Sgn} {l m:List Bd} (h:∀ v,ZaU l v=ZaU m v):∀ ts:List Tm,apTs g l ts=apTs g m ts
 | []=>by simp only [apTs]
 | t::ts=>by simp only [apTs,ZkQ h t,ZnG h ts]
end
theorem Zzg {l:List Bd} (h:UpB l):Zih l:=h.imp fun h e=>om
def ZjZ (l:List Tm):Prop:=l.Pairwise fun x y=>x≠y
theorem ZtK {l:List Tm} {t:Tm} (h:hasV l t=false):∀ x∈l,x≠t:=fun x hx e=>by
 rw [hasV,List.any_eq_false] at h;exact h x hx (by rw [e,Zdh];rfl)
mutual
theorem ZnH:∀ (t:Tm) (l:List Tm),ZjZ l->ZjZ (ordT t l)
 | .mk op nm so args,l,h=>by
  simp only [ordT];split
  ·split
   ·exact h
   ·rename_i hn;refine List.pairwise_append.2 ⟨h,List.pairwise_singleton _ _,fun x hx y hy=>?_⟩;rw [Tbj.1 hy];exact ZtK (by simpa using hn) x hx
  ·exact Zl5 args l h
theorem Zl5:∀ (ts:List Tm) (l:List Tm),ZjZ l->ZjZ (ZbJ ts l)
 | [],l,h=>by simpa only [ZbJ] using h
 | t::ts,l,h=>by simpa only [ZbJ] using Zl5 ts _ (ZnH t l h)
end
theorem ZnI (h:ZjZ l):Zih (renB L l):=by
 refine List.pairwise_iff_getElem.2 fun i j hi hj hij e=>?_;rw [Zdo] at hi hj;have h1:=List.pairwise_iff_getElem.1 h i j hi hj hij;have e1:(renB L l)[i]'(by rw [Zdo];exact hi)=ZdM L i l[i]:=by simp [renB]
 have e2:(renB L l)[j]'(by rw [Zdo];exact hj)=ZdM L j l[j]:=by simp [renB]
 rw [e1,e2] at e;exact h1 (ZeR.1 e)
theorem Zzh (h:ZjZ l) (v:Tm):ZaU (srtB (renB L l)) v=ZaU (renB L l) v :=
 ZxH (Zzg (ZBy (ZnI h))) (ZnI h) (Zg4 _) v
theorem Zjk {g:Sgn}:∀ (ts:List Tm) (l:List Tm),(∀ a∈ts,∀ (l:List Tm),∀ x∈ordT a l,x∈l∨ZbI g x)->∀ x∈ZbJ ts l,x∈l∨ZbI g x
 | [],l,_,x,hx=>by simp only [ZbJ] at hx;exact .inl hx
 | t::ts,l,h,x,hx=>by
  simp only [ZbJ] at hx;rcases Zjk ts _ (fun a ha=>h a (Tal _ ha)) x hx with hx | hx
  ·exact h t Tas l x hx
  ·exact .inr hx
theorem ZkR {g:Sgn}:∀ (n:Nat) (t:Tm),sizeTm t < n->ZaI g t->∀ (l:List Tm),∀ x∈ordT t l,x∈l∨ZbI g x
 | 0,t,hn,_,_,_,_=>om
 | n+1,t,hn,ht,l,x,hx=>by
  have hs:=hn;rw [Za3] at hs;by_cases hop:t.op=-1
  ·have hV:ZbI g t:=by
    rcases ht.node with h | ⟨o,d,h⟩
    ·exact h
    ·have:=h.lo;omega
   obtain ⟨op,nm,so,args⟩:=t;simp only [Tm.op] at hop;simp only [ordT,if_pos hop] at hx;split at hx
   ·exact .inl hx
   ·rcases Tbh.1 hx with hx | hx
    ·exact .inl hx
    ·rw [Tbj.1 hx];exact .inr hV
  ·have e:ordT t l=ZbJ t.args l:=by
    obtain ⟨op,nm,so,args⟩:=t;simp only [Tm.op] at hop;simp only [ordT,if_neg hop,Tm.args]
   rw [e] at hx;refine Zjk t.args l (fun a ha l x hx=>?_) x hx;have:=Zbu ha;exact ZkR n a om ((Zbd.1 ht).2.1 a ha) l x hx
theorem ZsX {g:Sgn} {t:Tm} (ht:ZaI g t):∀ x∈ordT t [],ZbI g x:=fun x hx=>by
 rcases ZkR _ t (Tan _) ht [] x hx with h | h
 ·cases h
 ·exact h
theorem ZxI {g:Sgn} {t:Tm} (ht:TermOk g t) (hs:sizeTm t<=60) (hL:ZaG L=true) (h1:L.size=1):ZtI g (renB L (ordT t [])):=fun y hy=>by
 obtain ⟨i,v,hv,rfl⟩:=Zii hy;have hV:=ZsX ht.form v (Tac hv);have hl:=Zij t [];simp only [Tak,Nat.zero_add] at hl;have hi:=(Tad.1 hv).1;exact ⟨hV,⟨rfl,ZtJ hL h1 om,hV.2.2.1,hV.2.2.2.1,rfl⟩,rfl⟩
end
theorem ZCu:∀ k:Fin 10,dig k.val++ByteArray.empty=fmt2 k.val:=by decide +kernel
theorem ZB6:∀ k:Fin 100,10<=k.val->dig (k.val / 10)++(dig k.val++ByteArray.empty)=fmt2 k.val:=by decide +kernel
theorem ZxJ {k:Nat} (h1:1<=k) (h2:k < 100):txtL k ByteArray.empty=fmt2 k:=by
 rw [Zl7 om];by_cases h:k < 10
 ·rw [show k / 10=0 by omega,Zl6];exact ZCu ⟨k,h⟩
 ·rw [Zl7 om,show k / 10 / 10=0 by omega,Zl6];exact ZB6 ⟨k,h2⟩ (by show 10<=k;omega)
theorem ZqZ {k:Nat} (h1:1<=k) (h2:k < 100):Con e0 54 [.one (.lit (.int .i64 (k:Int)))] [.one (.lit (.string (fmt2 k)))]:=by
 rw [<- ZxJ h1 h2];have q0:((k:Int)=0)=False:=eq_false om;have q1:=lF k 0;refine gI (ts:=[.slot 2]) 134252733 Tryz.func54 ?_;refine fG (ai @q0 @q1) ?_;have F:=@q1;refine gL (ι:=Nat × ByteArray) [0,4,5,11,15] [] (fun x=>[(0,A.d (.one (.lit (.int .i64 x.1)))),(4,.d (.one (.lit (.string x.2))))]) (fun x=>[]) (fun x=>txtL k ByteArray.empty=txtL x.1 x.2∧x.2.size+x.1<=k) (fun x=>x.1) ((k,⟨#[]⟩)) (⟨rfl,by show 0+k<=k;omega⟩) (fun x hx=>?_);clear F
 obtain ⟨j,acc⟩:=x;obtain ⟨e1,e2⟩:=hx;simp only at e1 e2;rw [e1];clear e1;by_cases hj:j=0
 ·subst hj;have q2:(((0:Nat):Int)=0)=True:=eq_true om;rw [Zl6];exact fD (ai @q2 @q1)
 have q2:((j:Int)=0)=False:=eq_false om;rw [Zl7 hj];have q3:IntKind.i64.wrap ((j:Int).tdiv 10)=((j / 10:Nat):Int):=by rw [show (j:Int).tdiv 10=((j / 10:Nat):Int) from by rw [Int.ofNat_tdiv];rfl];exact IntWalk.i64_in _ om
 have hm:(j:Int).tmod 10=((j % 10:Nat):Int):=by rw [Int.ofNat_tmod];rfl
 have q6:((j:Int).tmod 10 < 0)=False:=eq_false (by rw [hm];omega);have q7:IntKind.i64.wrap ((j:Int).tmod 10)=(j:Int).tmod 10:=IntWalk.i64_in _ (by rw [hm];omega);refine fN 9 (aj3 @q2 @q6 @q7) ?_;refine gB ?_;have F:=aj3 @q2 @q6 @q7;refine gP 4 ?_;clear F;refine gY ?_;have q5:((dig j).size+acc.size<=9223372036854775807)=True:=eq_true (by rw [Zil];omega);change Runs _ _ _ _ ⟨(22,.d (.one (.lit (.string (dig j)))))::_,_⟩ _
 refine fR (ai @q2 @q5) ?_;have hd:=Zil j;have F:=ai @q2 @q3;refine gG ?_;exact ⟨(j / 10,dig j++acc),⟨rfl,by rw [ByteArray.size_append,hd];omega⟩,gw,gw,om⟩
theorem gSs {e:Env} {K:St->Prop} {ds:List (Option Nat)} {os:List Oper} {d t ty:Nat} {p:String} {ed:Array Edge} {x:Operand} {lo hi:Option Operand} {s:List (Nat × A)} {m:List (Nat × Bk)} {str r:ByteArray} (l h:Nat) (hb:l<=h∧h<=str.size) (hr:str.extract l h=r) (hK:Runs e ds 0 os ⟨(d,.d (.one (.lit (.string r))))::s,m⟩ K)
  (hx:evA s x=.d (.one (.lit (.string str))):=by exact sfx) (ht:Zbn e.P t=none:=by exact snx) (hu:Zle (e.P.underlying t)=true:=by exact snx)
  (hlo:loA (lo.map (evA s))=some (l:Int):=by exact sfx) (hhi:hiA str.size (hi.map (evA s))=some (h:Int):=by exact sfx):Runs e ds 0 (⟨some d,.slice t x lo hi none,ty,p,ed,none⟩::os) ⟨s,m⟩ K:=by
 have h1:ZeD e.P t (evA s x) (lo.map (evA s)) (hi.map (evA s)) none=some (.d (.one (.lit (.string r)))):=by
  rw [Ztm,ht,hx];unfold Zlz;simp only [strA,hlo,hhi,ZjE,hu,true_and,if_true];rw [if_pos ⟨om,om,om⟩,Tbx,Tbx,hr];rfl
 refine gP 1 hK ?_;have h2:Zfp e.P (qB 0) ⟨s,m⟩ (some d) ty (.slice t x lo hi none)=some ⟨(d,.d (.one (.lit (.string r))))::s,m⟩:=by
  simp only [Zfp,ZfX,Option.map_none,h1];rfl
 show ZiY (Zds (Zfp e.P (qB 0) ⟨s,m⟩ (some d) ty (.slice t x lo hi none)) _)=_;rw [h2];rfl
theorem ZtL {k:Nat} (h1:1<=k) (h2:k < 100):Con e0 179 [.one (.lit (.int .i64 (k:Int)))] [.one (.lit (.string (fmt2 k)))]:=by
 refine gI (ts:=[.slot 2]) 21 Tryz.func179 ?_;by_cases h:k < 10
 ·have q0:=lT k 10;have w1:=Zau (k:=k) om;refine fN 2 (ai @q0 @w1) ?_;refine gB ?_;have F:=@w1;refine gP 3 ?_;clear F;have F:=w1;refine gSs (r:=fmt2 k) k (k+1) ?_ ?_ ?_
  ·clear F w1 q0 h1 h2;revert k
   decide +kernel
  ·clear F w1 q0 h1 h2;revert k
   decide +kernel
  clear F;refine fR @w1 ?_;exact fD @w1
 have q0:=lF k 10;have w1:IntKind.i64.wrap ((k:Int) * 2)=((k * 2:Nat):Int):=Za4 om om om;have w2:IntKind.i64.wrap (((k * 2:Nat):Int)+2)=((k * 2+2:Nat):Int):=Za4 om om om;refine fN 3 (ai @q0 @w1) ?_;refine gB ?_;have F:=ai @w1 @w2;refine gP 5 ?_;clear F;have F:=w1;refine gSs (r:=fmt2 k) (k * 2) (k * 2+2) ?_ ?_ ?_
 ·clear F w1 w2 q0 h1;have h3:10<=k:=om;clear h;revert k
  decide +kernel
 ·have h3:10<=k:=om;clear F w1 w2 q0 h1 h;revert k
  decide +kernel
 clear F;refine fR @w1 ?_;exact fD @w1
theorem ZtM {k:Nat} (h1:1<=k) (h2:k < 100):Con e0 171 [.one (.lit (.int .i64 (k:Int))),.one (.lit (.int .i64 10))] [.one (.lit (.string (fmt2 k)))]:=by
 have cS:=ZtL h1 h2;have q0:((10:Int)=10)=True:=eq_true rfl;have q1:((0:Int)<=(k:Int))=True:=eq_true om;have q2:=lT k 100;refine gI (ts:=[.slot 4]) 17188391667 Tryz.func171 ?_;refine fN 3 (aj3 @q0 @q1 @q2) ?_;refine gB ?_;refine fC @q0 (cS) ?_;refine fR @q0 ?_;exact fD @q0
theorem ZxK {k:Nat} (h1:1<=k) (h2:k < 100):Con e0 156 [.one (.lit (.int .i64 (k:Int)))] [.one (.lit (.string (fmt2 k)))]:=by
 have cS:=ZtM h1 h2;refine gI (ts:=[.slot 2]) 5 Tryz.func156 ?_;refine fB @h1 ?_;refine fC @h1 (cS) ?_;refine fR @h1 ?_;exact fD @h1
theorem ZxL {k:Nat} (h1:1<=k) (h2:k < 100):Con e0 141 [.one (.lit (.int .i64 (k:Int)))] [.one (.lit (.string (fmt2 k)))]:=by
 have cS:=ZxK h1 h2;refine gI (ts:=[.slot 2]) 5 Tryz.func141 ?_;refine fB @h1 ?_;refine fC @h1 (cS) ?_;refine fR @h1 ?_;exact fD @h1
theorem Zq0 {k:Nat} (h1:1<=k) (h2:k < 100):Con e0 111 [.one (.lit (.int .i64 (k:Int)))] [.one (.lit (.string (fmt2 k)))]:=by
 have cS:=ZxL h1 h2;refine gI (ts:=[.slot 2]) 5 Tryz.func111 ?_;refine fB @h1 ?_;refine fC @h1 (cS) ?_;refine fR @h1 ?_;exact fD @h1
theorem ZbI.eq_iff {g:Sgn} {a b:Tm} (ha:ZbI g a) (hb:ZbI g b):Zah a b=0 ↔ a.name=b.name∧a.sort=b.sort:=by
 rw [ZeR];obtain ⟨h1,_,_,_,h2⟩:=ha;obtain ⟨h3,_,_,_,h4⟩:=hb;obtain ⟨o,n,s,l⟩:=a;obtain ⟨o',n',s',l'⟩:=b;simp only [Tm.op,Tm.args] at h1 h2 h3 h4;subst h1 h2 h3 h4;simp [Tm.name,Tm.sort]
section
variable {g:Sgn} {l:List Bd}
theorem Zj0:∀ (b:Bd),(ZbP b).drop 1=.lit (.string b.var.name)::.lit (.int .i64 b.var.sort)::.sl (Zaa b.var.args)::Zab b.to:=fun ⟨v,t⟩=>by cases v;simp [ZbP,Zab,Tm.sort,Tm.args,Tm.name]
theorem bds8 (l:List Bd):ZaA 8 (ZaL l)=true:=by
 refine List.all_eq_true.2 fun r hr=>?_;obtain ⟨y,hy,rfl⟩:=Tbi.1 hr;simp [ZbP,List.all_append,tmz]
theorem Zjo {l:List Bd} {i:Nat} {y:Bd} (h:l[i]?=some y) (v:Tm):ZaU (l.drop i) v=if Zah y.var v=0 then some y.to else ZaU (l.drop (i+1)) v:=by
 obtain ⟨hi,rfl⟩:=Tad.1 h;rw [List.drop_eq_getElem_cons hi];rfl
theorem Zq7 (hl:∀ y∈l,ZbI g y.var) (h8:l.length<=1000) {v:Tm} (hv:ZbI g v):Con e0 110 [.one (.sl (ZaL l)),.agg (Zab v)] [.agg (Zab ((ZaU l v).getD v)),.one (.lit (.bool (ZaU l v).isSome))]:=by
 have bl:=ZdL l;have bg:=Zf8 l;have bb:=bds8 l;refine gI (ts:=[.cell 4 39,.slot 5]) 134221755 Tryz.func110 ?_;refine fG (ai @bl @tmz) ?_;have F:=@tmz;refine gL (ι:=Nat) [5,7,10,11,27] [] (fun i=>[(10,A.d (.one (.lit (.int .i64 i))))]) (fun i=>[]) (fun i=>i<=l.length∧ZaU (l.drop i) v=ZaU l v) (fun i=>l.length - i) (0) (⟨Taj _,rfl⟩) (fun i hi=>?_);clear F;obtain ⟨hi,hlo⟩:=hi;by_cases hil:i < l.length
 rotate_left
 ·obtain rfl:i=l.length:=by omega
  have q2:=lF l.length l.length;rw [List.drop_length] at hlo;have e:ZaU l v=none:=hlo.symm;rw [e];have z1:(none:Option Tm).getD v=v:=rfl;exact fD (aj3 @q2 @z1 @tmz)
 have q2:=lT i l.length;obtain ⟨y,hy⟩:∃ y,l[i]?=some y:=⟨_,Taa hil⟩;rw [Zjo hy] at hlo;have hyv:=hl y (Tac hy);have hwi:=Zau (k:=i) om;have he:=ZbI.eq_iff hyv hv;by_cases h1:y.var.name=v.name;rotate_left
 ·have q3:(y.var.name.toList==v.name.toList)=false:=beq_eq_false_iff_ne.2 fun h=>h1 (toList_inj h);rw [if_neg (fun h=>h1 (he.1 h).1)] at hlo;have F:=aj11 @q2 @q3 @hwi @bl @bb @bg @hy @bdz @Zj0 @ZaC @tmz;refine gG ?_;exact ⟨i+1,⟨hil,hlo⟩,gw,gw,om⟩
 have q3:(y.var.name.toList==v.name.toList)=true:=by rw [h1];exact beq_self_eq_true _
 by_cases h2:y.var.sort=v.sort;rotate_left
 ·have q4:(y.var.sort=v.sort)=False:=eq_false h2;rw [if_neg (fun h=>h2 (he.1 h).2)] at hlo;have F:=aj12 @q2 @q3 @q4 @hwi @bl @bb @bg @hy @bdz @Zj0 @ZaC @tmz;refine gG ?_;exact ⟨i+1,⟨hil,hlo⟩,gw,gw,om⟩
 have q4:(y.var.sort=v.sort)=True:=eq_true h2;rw [if_pos (he.2 ⟨h1,h2⟩)] at hlo;rw [<- hlo];have z1:(some y.to).getD v=y.to:=rfl;exact fD (aj12 @q2 @q3 @q4 @z1 @bl @bb @bg @hy @bdz @Zj0 @ZaC @tmz)
theorem ZxR (hl:Zl1 l) {v:Tm} (hv:okTm v) (h8:l.length<=1000):Con e0 92 [.one (.sl (ZaL l)),.agg (Zab v)] [.agg (Zab ((ZaU l v).getD zTm)),.one (.lit (.bool (ZaU l v).isSome))]:=by
 have bl:=ZdL l;have bg:=Zf8 l;have bb:=bds8 l;have hz:=Zl8;refine gI (ts:=[.cell 4 39,.slot 5]) 525435 Tryz.func92 ?_;refine fG (ai @bl @tmz) ?_;have F:=@tmz;refine gL (ι:=Nat) [5,6,10,19] [] (fun i=>[(6,A.d (.one (.lit (.int .i64 i))))]) (fun i=>[]) (fun i=>i<=l.length∧ZaU (l.drop i) v=ZaU l v) (fun i=>l.length - i) (0) (⟨Taj _,rfl⟩) (fun i hi=>?_);clear F;obtain ⟨hi,hlo⟩:=hi;by_cases hil:i < l.length
 rotate_left
 ·obtain rfl:i=l.length:=by omega
  have q2:=lF l.length l.length;rw [List.drop_length] at hlo;have e:ZaU l v=none:=hlo.symm;rw [e];have z1:(none:Option Tm).getD zTm=zTm:=rfl;exact fD (aj5 @q2 @z1 @hz @bl @tmz)
 have q2:=lT i l.length;obtain ⟨y,hy⟩:∃ y,l[i]?=some y:=⟨_,Taa hil⟩;rw [Zjo hy] at hlo;have hwi:=Zau (k:=i) om;have cS:=Zei (hl y (Tac hy)).1 hv;refine fN 4 (aj3 @q2 @bl @tmz) ?_;refine gB ?_;refine fC (aj7 @bl @bb @bg @hy @bdz @ZaC @tmz) (cS) ?_;by_cases h1:Zah y.var v=0;rotate_left
 ·have q3:decide (Zah y.var v=0)=false:=decide_eq_false h1;rw [if_neg h1] at hlo;rw [q3];refine fR @tmz ?_;have F:=aj3 @hwi @bdz @tmz;refine gG ?_;exact ⟨i+1,⟨hil,hlo⟩,gw,gw,om⟩
 have q3:decide (Zah y.var v=0)=true:=decide_eq_true h1;rw [if_pos h1] at hlo;rw [q3,<- hlo];have z1:(some y.to).getD zTm=y.to:=rfl;refine fR @tmz ?_;exact fD (aj8 @z1 @bl @bb @bg @hy @bdz @ZaC @tmz)
structure SbsW (g:Sgn) (l:List Bd):Prop where
 len:l.length<=1000
 var:∀ y∈l,ZbI g y.var
 to':∀ y∈l,TermOk g y.to
theorem SbsOk.w (h:SbsOk g l):SbsW g l:=⟨Tbe h.len (by decide),h.var,h.to'⟩
theorem SbsW.okB (hg:SgnOk g) (h:SbsW g l):Zl1 l:=fun y hy=>⟨ZaI.ok hg _ _ (Tan _) (h.var y hy).term.form,ZaI.ok hg _ _ (Tan _) (h.to' y hy).form⟩
noncomputable def ap6 (g:Sgn) (l:List Bd) (t:Tm):Tm:=if t.op=-1 then (ZaU l t).getD t else match apTs g l t.args with
 | none=>zTm
 | some us=>match g.ops[t.op.toNat]? with
  | none=>zTm
  | some o=>match o.decls[0]? with
   | none=>zTm
   | some d=>mk6 g o d t.op us
theorem ZsY {t:Tm} (h:t.op=-1):ap6 g l t=(ZaU l t).getD t:=by unfold ap6;rw [if_pos h]
theorem Zzl {t:Tm} (h:t.op≠-1) (hn:apTs g l t.args=none):ap6 g l t=zTm:=by unfold ap6;rw [if_neg h,hn]
theorem ZBC {t:Tm} {us:List Tm} {o:Opr} {d:Dcl} (h:t.op≠-1) (hu:apTs g l t.args=some us) (ho:g.ops[t.op.toNat]?=some o) (hd:o.decls[0]?=some d):ap6 g l t=mk6 g o d t.op us:=by
 unfold ap6;rw [if_neg h,hu];simp only [ho,hd]
theorem ZkW {t u:Tm} (h:apT g l t=some u):ap6 g l t=u:=by
 by_cases ho:t.op=-1
 ·rw [ZhC ho,Taq] at h;rw [ZsY ho,h]
 ·rw [Zfg ho] at h;unfold ap6;rw [if_neg ho]
  cases h1:apTs g l t.args with
  | none=>rw [h1] at h;cases h
  | some us =>
   rw [h1,Option.bind_some] at h;unfold mkT at h
   cases h2:g.ops[t.op.toNat]? with
   | none=>rw [h2] at h;cases h
   | some o =>
    rw [h2] at h;simp only at h ⊢
    cases h3:o.decls[0]? with
    | none=>rw [h3] at h;cases h
    | some d =>
     rw [h3] at h;simp only at h ⊢;unfold mk6;rw [h];rfl
theorem ZnL {mc:C} (hg:SgnOk g) (hS:SbsW g l):∀ (n:Nat) {t:Tm},sizeTm t < n->TermOk g t->Con e0 69 [.one (.ptr (encX g mc)),.one (.sl (ZaL l)),.agg (Zab t)] [.agg (Zab ((apT g l t).getD zTm)),.one (.lit (.bool (apT g l t).isSome))]:=by
 intro n
 induction n with
 | zero=>exact fun {t} h _=>absurd h om
 | succ n IH =>
 intro t hsz ht;have hz:=Zl8;have h60:=ZpJ ht;by_cases hop:t.op=-1
 ·have hv:=ht.var hop;have q1:(t.op < 0)=True:=eq_true om;have cB:=Zq7 hS.var hS.len hv;have z1:(some ((ZaU l t).getD t)).getD zTm=(ZaU l t).getD t:=rfl;have z2:(some ((ZaU l t).getD t)).isSome=true:=rfl;rw [ZhC hop];refine gI (ts:=[.cell 6 39,.slot 7]) 2201036682727 Tryz.func69 ?_;refine fN 2 (ai @q1 @tmz) ?_;refine gB ?_;refine fC @tmz (cB) ?_;refine fR @tmz ?_;exact fD (aj3 @z1 @z2 @tmz)
 obtain ⟨o,d,hA⟩:=ht.form.node.resolve_left (fun hv=>hop hv.1);have q1:(t.op < 0)=False:=eq_false (by have:=hA.lo;omega);have cB:=fun us h1 h2=>ZxM (mc:=mc) hg hA.lo hA.at' hA.fst us h1 h2;refine gI (ts:=[.cell 6 39,.slot 7]) 2201036682727 Tryz.func69 ?_;refine fG (ai @q1 @tmz) ?_;have F:=ai @ZbX @tmz;refine gL (ι:=Nat × List Tm) [7,10,12,13,14,29,30,41] [10] (fun x=>[(29,A.d (.one (.lit (.int .i64 x.1)))),(10,.buf 10)]) (fun x=>[(10,.buf none 39 4 (Zaa x.2))]) (fun x=>x.1<=t.args.length∧apTs g l (t.args.take x.1)=some x.2) (fun x=>t.args.length - x.1) ((0,[])) (⟨Taj _,rfl⟩) (fun x hx=>?_);clear F
 obtain ⟨i,us⟩:=x;obtain ⟨hi,hus⟩:=hx;simp only at hi hus;dsimp only;have hul:=Zib hus;rw [List.length_take_of_le hi] at hul;have nl:=Zad us;have nr:ZaA 4 (Zaa us)=true:=ZdJ _;by_cases hil:i < t.args.length;rotate_left
 ·obtain rfl:i=t.args.length:=by omega
  have q2:=lF t.args.length t.args.length;rw [Tap] at hus;have e:apT g l t=mkO g o d t.op us:=by rw [Zfg hop,hus];exact ZpD hA.at' hA.fst us
  have cB:=cB us (fun u hu=>by
   obtain ⟨a,ha,hau⟩:=Zic hus u hu;exact Zl2 hg hS.to' _ a (Tan _) (ht.arg ha) hau) om
  rw [e];refine fN 13 (ai @q2 @tmz) ?_;refine gB ?_;refine fC @tmz (cB) ?_;refine fR @tmz ?_;exact fD @tmz
 have q2:=lT i t.args.length;obtain ⟨a,ha⟩:∃ a,t.args[i]?=some a:=⟨_,Taa hil⟩;have ham:=Tac ha;have hs1:=Za3 t;have hs2:=Zbu ham;have cA:=IH (t:=a) om (ht.arg ham);have hwi:=Zau (k:=i) om;have hmx:(us.length+1<=maxApp)=True:=eq_true (by unfold maxApp;omega);have hsn:apTs g l (t.args.take (i+1))=(apT g l a).map fun u=>us++[u]:=by rw [Zcj ha,Zje,hus];rfl
 refine fN 8 (aj4 @q2 @ha @ZaC @tmz) ?_;refine gB ?_;refine fC (aj3 @ha @ZaC @tmz) (cA) ?_;refine fR @tmz ?_
 cases hu:apT g l a with
 | none =>
  have z3:(none:Option Tm).isSome=false:=rfl;have z5:(none:Option Tm).getD zTm=zTm:=rfl;have e:apTs g l t.args=none:=Zjf ham hu;have e2:apT g l t=none:=by rw [Zfg hop,e];rfl
  rw [e2];exact fD (aj4 @z3 @z5 @hz @tmz)
 | some u =>
  have z3:(some u).isSome=true:=rfl;have z5:(some u).getD zTm=u:=rfl;rw [hu] at hsn;have ns:Zaa us++[Zab u]=Zaa (us++[u]):=by simp [Zbm]

  have F:=aj8 @z3 @z5 @nl @nr @ns @hmx @hwi @tmz;refine gG ?_;exact ⟨(i+1,us++[u]),⟨hil,hsn⟩,gw,gw,om⟩
theorem Zkv (hokg:Zdt g) (hg:SgnOk g) (hS:SbsW g l):∀ (n:Nat) {t:Tm},sizeTm t < n->TermOk g t->Con e0 55 [.agg (ZaN g),.one (.sl (ZaL l)),.agg (Zab t)] [.agg (Zab (ap6 g l t)),.one (.lit (.bool (apT g l t).isSome))]:=by
 intro n
 induction n with
 | zero=>exact fun {t} h _=>absurd h om
 | succ n IH =>
 intro t hsz ht;have hz:=Zl8;have h60:=ZpJ ht;have hok2:=ZaI.ok hg _ t (Tan _) ht.form;have hokB:Zl1 l:=hS.okB hg;by_cases hop:t.op=-1
 ·have q1:(t.op=-1)=True:=eq_true hop;have cB:=ZxR hokB hok2 hS.len;have z2:(some ((ZaU l t).getD t)).isSome=true:=rfl;rw [ZsY hop,ZhC hop];rw [ZaN] at *;refine gI (ts:=[.cell 6 39,.slot 7]) 70370900131823 Tryz.func55 ?_;refine fN 2 (ai @q1 @tmz) ?_;refine gB ?_;refine fC @tmz (cB) ?_;refine fR @tmz ?_
  cases hk:ZaU l t with
  | none =>
   have z1:(none:Option Tm).getD t=t:=rfl;have z3:(none:Option Tm).isSome=false:=rfl;rw [hk] at z2;exact fD (aj4 @z1 @z2 @z3 @tmz)
  | some u =>
   have z1:(some u).getD t=u:=rfl;have z3:(some u).isSome=true:=rfl;have z4:(some u).getD zTm=u:=rfl;rw [hk] at z2;exact fD (aj5 @z1 @z2 @z3 @z4 @tmz)
 obtain ⟨o,d,hA⟩:=ht.form.node.resolve_left (fun hv=>hop hv.1);have q1:(t.op=-1)=False:=eq_false hop;have cB:=fun us h1 h2=>ZtX hokg hg hA.lo hA.at' hA.fst us h1 h2;rw [ZaN] at *;refine gI (ts:=[.cell 6 39,.slot 7]) 70370900131823 Tryz.func55 ?_;refine fG (ai @q1 @tmz) ?_;have F:=ai @ZbX @tmz;refine gL (ι:=Nat × List Tm) [7,10,11,12,13,31,46] [10] (fun x=>[(11,A.d (.one (.lit (.int .i64 x.1)))),(10,.buf 10)]) (fun x=>[(10,.buf none 39 4 (Zaa x.2))]) (fun x=>x.1<=t.args.length∧apTs g l (t.args.take x.1)=some x.2) (fun x=>t.args.length - x.1) ((0,[])) (⟨Taj _,rfl⟩) (fun x hx=>?_);clear F
 obtain ⟨i,us⟩:=x;obtain ⟨hi,hus⟩:=hx;simp only at hi hus;dsimp only;have hul:=Zib hus;rw [List.length_take_of_le hi] at hul;have nl:=Zad us;have nr:ZaA 4 (Zaa us)=true:=ZdJ _;by_cases hil:i < t.args.length;rotate_left
 ·obtain rfl:i=t.args.length:=by omega
  have q2:=lF t.args.length t.args.length;rw [Tap] at hus;have e:apT g l t=mkO g o d t.op us:=by rw [Zfg hop,hus];exact ZpD hA.at' hA.fst us
  have cB:=cB us (fun u hu=>by
   obtain ⟨a,ha,hau⟩:=Zic hus u hu;exact Zl2 hg hS.to' _ a (Tan _) (ht.arg ha) hau) om
  rw [e,ZBC hop hus hA.at' hA.fst];refine fN 14 (ai @q2 @tmz) ?_;refine gB ?_;refine fC @tmz (cB) ?_;refine fR @tmz ?_;exact fD @tmz
 have q2:=lT i t.args.length;obtain ⟨a,ha⟩:∃ a,t.args[i]?=some a:=⟨_,Taa hil⟩;have ham:=Tac ha;have hs1:=Za3 t;have hs2:=Zbu ham;have cA:=IH (t:=a) om (ht.arg ham);have hwi:=Zau (k:=i) om;have hmx:(us.length+1<=maxApp)=True:=eq_true (by unfold maxApp;omega);have hsn:apTs g l (t.args.take (i+1))=(apT g l a).map fun u=>us++[u]:=by rw [Zcj ha,Zje,hus];rfl
 refine fN 10 (aj4 @q2 @ha @ZaC @tmz) ?_;refine gLt 11 10 12 ?_;refine fC (aj3 @ha @ZaC @tmz) (cA) ?_;refine fR @tmz ?_
 cases hu:apT g l a with
 | none =>
  have z3:(none:Option Tm).isSome=false:=rfl;have z5:(none:Option Tm).getD zTm=zTm:=rfl;have e:apTs g l t.args=none:=Zjf ham hu;have e2:apT g l t=none:=by rw [Zfg hop,e];rfl
  rw [e2,Zzl hop e];exact fD (aj4 @z3 @z5 @hz @tmz)
 | some u =>
  have z3:(some u).isSome=true:=rfl;have z5:ap6 g l a=u:=ZkW hu;rw [hu] at hsn;have ns:Zaa us++[Zab u]=Zaa (us++[u]):=by simp [Zbm]
  rw [z5];have F:=aj8 @z3 @z5 @nl @nr @ns @hmx @hwi @tmz;refine gG ?_;exact ⟨(i+1,us++[u]),⟨hil,hsn⟩,gw,gw,om⟩
end
section
variable {g:Sgn} {b:Nat}
def ZAW (g:Sgn) (b:Nat) (w:World):Prop:=(∀ c,c=b->¬ e0.E c)∧∃ M,Memo g M∧MapL w b M
noncomputable def eM (g:Sgn) (b:Nat):Env:=e0.plus (fun c=>c=b) (ZAW g b)
theorem ZeT:Fits e0 (fun c=>c=b) (ZAW g b):=⟨fun w w' hz hE ⟨h1,M,h2,h3⟩=>⟨h1,M,h2,MapL.stable b M w w' hz hE h3⟩,fun w h=>h.1⟩
theorem Con.m {f:FuncId} {args r:List D} (h:Con e0 f args r):Con (eM g b) f args r:=Con.up ZeT h
theorem ConE.m {f:FuncId} {args:List D} {R:List D->Prop} (h:ConE e0 f args R):ConE (eM g b) f args R:=ConE.up ZeT h
theorem ConR.m {f:FuncId} {args:List D} {ty sz:Nat} {rows:List (List C)} (h:ConR e0 f args ty sz rows):ConR (eM g b) f args ty sz rows:=ConR.up ZeT h
theorem ConI.m {f:FuncId} {ty sz:Nat} {rows rows':List (List C)} {args r:List D} (h:ConI e0 f ty sz rows args rows' r):ConI (eM g b) f ty sz rows args rows' r:=ConI.up ZeT h
theorem ConT.m {f:FuncId} {ty sz:Nat} {rows rows':List (List C)} {args:List D} (h:ConT e0 f ty sz rows args rows'):ConT (eM g b) f ty sz rows args rows':=ConT.up ZeT h
theorem ConP.m {f:FuncId} {args:List D} {pm:List Bk} {R:List D->List Bk->Prop} (h:ConP e0 f args pm R):ConP (eM g b) f args pm R:=ConP.up ZeT h
theorem ConP.imp {e:Env} {f:FuncId} {args:List D} {pm:List Bk} {R R':List D->List Bk->Prop} (h:ConP e f args pm R) (hR:∀ r pm,R r pm->R' r pm):ConP e f args pm R' :=
 ⟨h.1,fun w S vs hS hE hG hpm hap hvs=>(h.2 w S vs hS hE hG hpm hap hvs).mono fun en w' ⟨v,r,pm',h1,hr,hk⟩=>⟨v,r,pm',h1,hR r pm' hr,hk⟩⟩
end
section
variable {g:Sgn} {l:List Bd} {b:Nat}
end
section
variable {g:Sgn} {l:List Bd}
theorem Zj1 {t:Tm} (h:TermOk g t):bulkRow (Zab t)<=1048576:=by
 have h1:=ZnJ h.form;have h2:=h.size;omega
end
structure TwoU where
 a0:Value
 a1:Value
 a2:Value
 a3:Value
 b0:Value
 b1:Value
 b2:Value
 b3:Value
 E:Nat->Prop
 F:Nat->Prop
def TwoU.z:TwoU:=⟨.bool true,.bool true,.bool true,.bool true,.bool true,.bool true,.bool true,.bool true,fun _=>False,fun _=>False⟩
abbrev TwoU.okA (x:TwoU):Prop:=Zaj (.lit x.a0)=true∧Zaj (.lit x.a1)=true∧Zaj (.lit x.a2)=true∧Zaj (.lit x.a3)=true
abbrev TwoU.okB (x:TwoU):Prop:=Zaj (.lit x.b0)=true∧Zaj (.lit x.b1)=true∧Zaj (.lit x.b2)=true∧Zaj (.lit x.b3)=true
def TwoU.ok (i:Nat) (x:TwoU):Prop:=(i=3∨7<=i∧i<=10->x.okA)∧(6<=i∧i<=10->x.okB)
section
variable {g:Sgn}
theorem ZxV {l:List Bd} (hl:Zl1 l) (hn:l.length<=1000) {y:Bd} (hy:okBd y):Con e0 52 [.one (.sl (ZaL l)),.agg (Zab y.var),.agg (Zab y.to)] [.one (.sl (ZaL (putB l y)))]:=by
 have bl:=ZdL l;have bg:=Zf8 l;have bb:=bds8 l;have hbd:Zab y.var++Zab y.to=ZbP y:=rfl;have h7:∀ (c0 c1 c2 c3:C),List.take 4 (Zab y.var++[c0,c1,c2,c3])++(Zab y.to++List.drop 8 (Zab y.var++[c0,c1,c2,c3]))=ZbP y:=fun c0 c1 c2 c3=>by
  obtain ⟨⟨o,n,s,a⟩,t⟩:=y;simp [Zab,ZbP]
 refine gI (ts:=[.slot 6]) 4194807 Tryz.func52 ?_;refine fN 1 (ai @bl @tmz) ?_;refine gB ?_;refine fR @tmz ?_
 with_reducible refine ZeG ?_
 refine gM (ι:=Nat) [7,22] [] (fun i=>[(7,A.d (.one (.lit (.int .i64 i))))]) (fun i=>[]) (fun i=>i<=l.length∧putB l y=l.take i++y::l.drop i) ?_ (fun i hi=>Exists.intro _ (ai (Wk.refl _) ?_))
 ·refine fG @tmz ?_;have F:=@tmz;refine gL (ι:=Nat) [7,22] [] (fun i=>[(7,A.d (.one (.lit (.int .i64 i))))]) (fun i=>[]) (fun i=>i<=l.length∧∀ (j:Nat) x,j < i->l[j]?=some x->Zah x.var y.var < 0) (fun i=>l.length - i) (0) (⟨Taj _,fun j x h=>absurd h om⟩) (fun i hi=>?_);clear F;obtain ⟨hi,hall⟩:=hi;have stop:(∀ x,l[i]?=some x->¬ Zah x.var y.var < 0)->i<=l.length∧putB l y=l.take i++y::l.drop i:=fun h=>⟨hi,ZsV hi hall h⟩
  refine fN 2 @tmz ?_;by_cases hil:i < l.length;rotate_left
  ·have q2:=lF i l.length;have hst:=stop fun x hx=>by rw [List.getElem?_eq_none om] at hx;cases hx
   have F:=aj3 @q2 @bl @tmz;refine gG ?_;exact ⟨i,hst,gw,gw⟩
  have q2:=lT i l.length;obtain ⟨x,hx⟩:∃ x,l[i]?=some x:=⟨_,Taa hil⟩;have cC:=Zeo (hl x (Tac hx)).1 hy.1;have hwi:=Zau (k:=i) om;refine gB ?_;refine fC (aj8 @q2 @bl @bb @bg @hx @bdz @ZaC @tmz) (cC) ?_;by_cases hc:Zah x.var y.var < 0
  ·have q3:(Zah x.var y.var < 0)=True:=eq_true hc;have hnx:i+1<=l.length∧∀ (j:Nat) z,j < i+1->l[j]?=some z->Zah z.var y.var < 0:=⟨hil,fun j z hj hz=>by
    by_cases e:j=i
    ·subst e;rw [hx] at hz;injection hz with hz;subst hz;exact hc
    ·exact hall j z om hz⟩
   refine fR (ai @q3 @tmz) ?_;have F:=ai @hwi @tmz;refine gG ?_;exact ⟨i+1,hnx,gw,gw,om⟩
  ·have q3:(Zah x.var y.var < 0)=False:=eq_false hc;have hst:=stop fun z hz=>by rw [hx] at hz;injection hz with hz;subst hz;exact hc
   refine fR (ai @q3 @tmz) ?_;have F:=@tmz;refine gG ?_;exact ⟨i,hst,gw,gw⟩
 obtain ⟨hi,hput⟩:=hi;have s1:((i:Int)<=(l.length:Int))=True:=eq_true om;have s2:List.take i (ZaL l)=ZaL (l.take i):=by simp [ZaL]
 have s3:List.drop i (ZaL l)=ZaL (l.drop i):=by simp [ZaL]
 have s4:List.take l.length (ZaL l)=ZaL l:=by rw [<- bl,Tap]
 have l6:((l.take i).length+1+(l.drop i).length<=maxApp)=True:=eq_true (by simp only [Taw,Tax];unfold maxApp;omega);have l7:ZaL (l.take i++[y])++ZaL (l.drop i)=ZaL (putB l y):=by rw [hput];simp [ZaL]
 have l1:∀ l:List Bd,ZaA 8 (ZaL l)=true:=fun l=>bds8 l;have l2:((l.take i).length<=maxApp)=True:=eq_true (by rw [Taw];unfold maxApp;omega);have l3:=ZdL;have l4:((l.take i).length+1<=maxApp)=True:=eq_true (by rw [Taw];unfold maxApp;omega);have l5:ZaL (l.take i)++[ZbP y]=ZaL (l.take i++[y]):=by simp [ZaL]
 refine fN 4 @tmz ?_
 /- gk l9put -/
 refine gGk [(0,.d (.one (.sl (ZaL l)))),(4,.ref 4 0),(5,.ref 5 0),(6,.buf 6),(7,.d (.one (.lit (.int .i64 (i:Int)))))] [(4,.var none (Zab y.var)),(5,.var none (Zab y.to)),(6,.buf none 145 8 [])] [([(25,.d (.clip []))],[]),([(26,.d (.one (.sl (ZaL l))))],[]),([(27,.d (.one (.lit (.int .i64 (i:Int)))))],[]),([(28,.d (.one (.sl (ZaL (l.take i)))))],[]),([(29,.buf 29)],[(29,.buf none 145 8 (ZaL (l.take i)))]),([(30,.d (.agg (Zab y.var)))],[]),([(31,.d (.agg (Zab y.to)))],[]),([(32,.d (.agg (ZbP y)))],[]),([(33,.d (.clip [ZbP y]))],[]),([(34,.buf 34)],[(34,.buf none 145 8 (ZaL (l.take i++[y])))]),([(8,.buf 8)],[(8,.buf none 145 8 (ZaL (l.take i++[y])))])] (fun j=>([(4,9),(9,10)]:List (Nat × Nat)).lookup j) [] (⟨by simp [gs],by simp [gm]⟩) (fun j hj=>by simp at hj) ⟨?_,?_,?_,?_,?_,?_,?_,?_,?_,?_,?_,trivial⟩ ?_
 ·intro s' m' hB hD hI hJ;have F:=(ZbN.1 hB);simp only [lkS,lkM,List.getD_cons_zero,List.getD_cons_succ,and_true,true_and] at F;have F:=ai F (tmz);refine gO3 ?_;exact kS hB (Zbx.2 (by simp [lkS,lkM,gs,gm]))
 ·intro s' m' hB hD hI hJ;have F:=(ZbN.1 hB);simp only [lkS,lkM,List.getD_cons_zero,List.getD_cons_succ,and_true,true_and] at F;have F:=ai F (tmz);refine gO3 ?_;exact kS hB (Zbx.2 (by simp [lkS,lkM,gs,gm]))
 ·intro s' m' hB hD hI hJ;have F:=(ZbN.1 hB);simp only [lkS,lkM,List.getD_cons_zero,List.getD_cons_succ,and_true,true_and] at F;have F:=ai F (tmz);refine gO3 ?_;exact kS hB (Zbx.2 (by simp [lkS,lkM,gs,gm]))
 ·intro s' m' hB hD hI hJ;have F:=aj3 (ZbN.1 hB) (Zbx.1 (hD 1 (by decide) (.inl rfl))) (Zbx.1 (hD 2 (by decide) (.inl rfl)));simp only [lkS,lkM,List.getD_cons_zero,List.getD_cons_succ,and_true,true_and] at F;have F:=aj6 F bl bb s1 s2 tmz;refine gO3 ?_;exact kS hB (Zbx.2 (by simp [lkS,lkM,gs,gm]))
 ·intro s' m' hB hD hI hJ;have F:=aj3 (ZbN.1 hB) (Zbx.1 (hD 0 (by decide) (.inl rfl))) (Zbx.1 (hD 3 (by decide) (.inl rfl)));simp only [lkS,lkM,List.getD_cons_zero,List.getD_cons_succ,and_true,true_and] at F;have F:=aj5 F l1 l2 l3 tmz;refine gO3 ?_;exact kB hB (Zbx.2 (by simp [lkS,lkM,gs,gm]))
 ·intro s' m' hB hD hI hJ;have F:=(ZbN.1 hB);simp only [lkS,lkM,List.getD_cons_zero,List.getD_cons_succ,and_true,true_and] at F;have F:=ai F (tmz);refine gO3 ?_;exact kS hB (Zbx.2 (by simp [lkS,lkM,gs,gm]))
 ·intro s' m' hB hD hI hJ;have F:=(ZbN.1 hB);simp only [lkS,lkM,List.getD_cons_zero,List.getD_cons_succ,and_true,true_and] at F;have F:=ai F (tmz);refine gO3 ?_;exact kS hB (Zbx.2 (by simp [lkS,lkM,gs,gm]))
 ·intro s' m' hB hD hI hJ;have F:=aj3 (ZbN.1 hB) (Zbx.1 (hD 5 (by decide) (.inl rfl))) (Zbx.1 (hD 6 (by decide) (.inl rfl)));simp only [lkS,lkM,List.getD_cons_zero,List.getD_cons_succ,and_true,true_and] at F;have F:=aj3 F hbd tmz;refine gO3 ?_;exact kS hB (Zbx.2 (by simp [lkS,lkM,gs,gm,h7]))
 ·intro s' m' hB hD hI hJ;have F:=ai (ZbN.1 hB) (Zbx.1 (hD 7 (by decide) (.inl rfl)));simp only [lkS,lkM,List.getD_cons_zero,List.getD_cons_succ,and_true,true_and] at F;have F:=aj3 F bdz tmz;refine gO3 ?_;exact kS hB (Zbx.2 (by simp [lkS,lkM,gs,gm]))
 ·intro s' m' hB hD hI hJ;have F:=aj3 (ZbN.1 hB) (Zbx.1 (hD 4 (by decide) (.inr rfl))) (Zbx.1 (hD 8 (by decide) (.inl rfl)));simp only [lkS,lkM,List.getD_cons_zero,List.getD_cons_succ,and_true,true_and] at F;have F:=aj7 F l1 l3 l4 l5 bdz tmz;refine gO3 ?_;exact kE hB (Zbx.2 (by simp [lkS,lkM,gs,gm]))
 ·intro s' m' hB hD hI hJ;have F:=ai (ZbN.1 hB) (Zbx.1 (hD 9 (by decide) (.inr rfl)));simp only [lkS,lkM,List.getD_cons_zero,List.getD_cons_succ,and_true,true_and] at F;have F:=ai F (tmz);refine gO3 ?_;exact kE hB (Zbx.2 (by simp [lkS,lkM,gs,gm]))
 intro s' m' hB hP;refine ⟨_,_,hB.app (hP 10 (.inl (by decide)) (fun k h=>by simp [List.lookup] at h)),?_⟩;simp only [Taf,Tah,List.append_nil,List.getD_cons_zero,List.getD_cons_succ]
 /- gk end l9put -/
 refine ⟨_,Wk.refl _,?_⟩;have s5:((l.length:Int)<=(l.length:Int))=True:=eq_true om;have F:=aj10 @s1 @s3 @s4 @s5 @l1 @l3 @l6 @l7 @ZaC @tmz;refine gG ?_;exact gTz [6]
theorem Zzn (l:List Bd):(srtB l).length=l.length:=(Zg4 l).length_eq
end
end Go.Proofs.YtjoaefnnnbpflaaGreatDoor
namespace Go.Proofs.YtjoaefnnnbpflaaGreatDoor
open Go.RowKit
open Go.Sort (grow HoldsK putRowK flatK SWO PermIn SortedIn Holds mapBlock onCells putRow putCells get_flatK size_flatK)
theorem ZxW {w w':World} (h:Kept True (fun _=>False) w.heap.size w w'):∃ q os,w'=grow (w.drewN q) os:=by
 obtain ⟨p,hp⟩:=regrown_of_below (w:=w) (w':=w') ⟨h.os,h.tape,h.output,h.size,fun k hk=>h.block k hk id⟩;have hd:=h.drawn trivial;have e:p.d=w'.drawn:=by rw [hp];rfl
 refine ⟨w'.drawn - w.drawn,p.os,?_⟩;have e2:redrawn w p.d=w.drewN (w'.drawn - w.drawn):=by
  unfold redrawn World.drewN;rw [e,show w.drawn+(w'.drawn - w.drawn)=w'.drawn by omega]
 rw [<- e2];exact hp
abbrev SRow (w:World) (S:Nat->Prop) (Q:List C->Prop):={x:List C × List Value // Q x.1∧Zac w S x.1 x.2}
theorem Zp4 {w:World} {S:Nat->Prop} {b k:Nat} {Q:List C->Prop} (hk:∀ r,Q r->r.length=k):∀ (rows:List (List C)) (off:Nat),(∀ r∈rows,Q r)->Zar w S b off rows->∃ l:List (SRow w S Q),l.map (fun x=>x.1.1)=rows∧∀ (i:Nat) x,l[i]?=some x->∀ j u,x.1.2[j]?=some u->w.cell? ⟨b,off+i * k+j,none⟩=some u
 | [],off,_,_=>⟨[],rfl,fun i x h=>by simp at h⟩
 | r::rs,off,hQ,h=>by
  simp only [Zar] at h;obtain ⟨vs,h1,h2⟩:=h.1.vals;obtain ⟨l,e,hl⟩:=Zp4 hk rs (off+r.length) (fun x hx=>hQ x (Tal _ hx)) h.2;have hr:=hQ r Tas;refine ⟨⟨(r,vs),hr,h1⟩::l,by simp [e],fun i x hi j u hj=>?_⟩
  cases i with
  | zero =>
   simp only [Tat,Taq] at hi;subst hi;have:=h2 j u hj
   rwa [Nat.zero_mul,Nat.add_zero]
  | succ i =>
   have:=hl i x (by simpa using hi) j u hj;rw [hk r hr] at this
   rwa [show off+(i+1) * k+j=off+k+i * k+j by rw [Nat.succ_mul];omega]
theorem Zmc {w W:World} {S S2:Nat->Prop} {b k:Nat} {Q:List C->Prop} (hk:∀ r,Q r->r.length=k) (hv:∀ x:SRow w S Q,Zac W S2 x.1.1 x.1.2):∀ (l:List (SRow w S Q)) (off:Nat),(∀ (i:Nat) x,l[i]?=some x->∀ j u,x.1.2[j]?=some u->W.cell? ⟨b,off+i * k+j,none⟩=some u)->Zar W S2 b off (l.map (fun x=>x.1.1))
 | [],off,_=>by simp [Zar]
 | x::l,off,h=>by
  simp only [Tbt,Zar];refine ⟨Zai.of_vals _ _ off (hv x) fun j u hj=>?_,?_⟩
  ·have:=h 0 x rfl j u hj
   rwa [Nat.zero_mul,Nat.add_zero] at this
  ·rw [hk _ x.2.1];refine Zmc hk hv l (off+k) fun i y hi j u hj=>?_;have:=h (i+1) y (by simpa using hi) j u hj
   rwa [show off+(i+1) * k+j=off+k+i * k+j by rw [Nat.succ_mul];omega] at this
theorem Zp5 {α:Type} [Inhabited α] {enc:α->List Value} {k:Nat} {W:World} {b:Nat} {d:Array α} (hk:∀ x,(enc x).length=k) (h:HoldsK enc k W b 0 d) {i:Nat} {x:α} (hi:d.toList[i]?=some x) {j:Nat} {u:Value} (hj:(enc x)[j]?=some u):W.cell? ⟨b,0+i * k+j,none⟩=some u:=by
 have hil:i < d.size:=by have:=(Tad.1 hi).1;simpa using this
 have hjl:j < k:=by have:=(Tad.1 hj).1;rwa [hk] at this
 have ht:i * k+j < d.size * k:=by
  have:=Nat.mul_le_mul_right k (show i+1<=d.size from hil);rw [Nat.succ_mul] at this;omega
 have h1:=(h (i * k+j) (by rw [size_flatK];exact ht)).1;rw [get_flatK _ _ _ _ ht,show (i * k+j) / k=i by rw [Nat.add_comm,Nat.add_mul_div_right _ _ om,Nat.div_eq_of_lt hjl,Nat.zero_add],show (i * k+j) % k=j by rw [Nat.add_comm,Nat.add_mul_mod_self_right,Nat.mod_eq_of_lt hjl]] at h1;have e1:d[i]! = x:=by
  rw [getElem!_pos d i hil];have:=(Tad.1 hi).2;simpa using this
 have e2:(enc x)[j]! = u:=by
  rw [getElem!_pos (enc x) j (by rw [hk];exact hjl)];exact (Tad.1 hj).2
 rw [e1,e2,<- Tbw] at h1;exact h1
theorem ZxX {α:Type} [Inhabited α] {enc:α->List Value} {k:Nat} {w:World} {b:Nat} {l:List α} (hk:∀ x,(enc x).length=k) (hf:∀ o,w.frozen? ⟨b,o,none⟩=false) (h:∀ (i:Nat) x,l[i]?=some x->∀ j u,(enc x)[j]?=some u->w.cell? ⟨b,0+i * k+j,none⟩=some u):HoldsK enc k w b 0 l.toArray:=by
 intro t ht;refine ⟨?_,hf _⟩;rw [size_flatK] at ht;have ht':t < l.length * k:=by simpa using ht
 have k0 : 0 < k := by rcases Nat.eq_zero_or_pos k with e | e; · subst e; simp at ht'
                       ·exact e
 have hi:t / k < l.length:=Nat.div_lt_of_lt_mul (by rw [Nat.mul_comm];exact ht');have hj:t % k < k:=Nat.mod_lt _ k0;rw [get_flatK _ _ _ _ ht];have e1:l.toArray[t / k]! = l[t / k]:=by rw [getElem!_pos _ _ (by simpa using hi)];rfl
 rw [e1,getElem!_pos _ _ (by rw [hk];exact hj)];have:=h (t / k) l[t / k] (Taa hi) (t % k) _ (Taa (by rw [hk];exact hj))
 rwa [show 0+t / k * k+t % k=0+t by have:=Nat.div_add_mod' t k;omega] at this
theorem Zac.one {w:World} {S:Nat->Prop}:∀ {cs:List C} {us:List Value},cs.all Zaj=true->Zac w S cs us->∀ v∈us,v.oneCell'=true
 | [],[],_,_,v,h=>by simp at h
 | c::cs,u::us,hc,h,v,hv=>by
  simp only [List.all_cons,Tar] at hc;simp only [Zac] at h;rcases Tbg.1 hv with rfl | hv
  ·exact ZfY hc.1 h.1
  ·exact Zac.one hc.2 h.2 v hv
 | [],_::_,_,h,_,_=>by simp [Zac] at h
 | _::_,[],_,h,_,_=>by simp [Zac] at h
theorem Zzo {α:Type} [Inhabited α] {enc:α->List Value} {k:Nat} {w:World} {b n:Nat} {d:Array α} {os:Array Obj} {cur:Array Value} {ty:Nat} (hh:w.heap[b]?=some (.cells cur ty (0,0))):(sortWorldK enc k w b 0 n d os).heap[b]?=some (.cells (putCells id 0 (flatK enc k d) cur) ty (0,0)):=by
 have hb:b < w.heap.size:=(Tbl.1 hh).1;show ((w.heap.modify b (onCells (putCells id 0 (flatK enc k d))))++os)[b]?=_;rw [Array.getElem?_append_left (by simpa using hb),Array.getElem?_modify,if_pos rfl,hh];rfl
theorem ZkY {α:Type} [Inhabited α] {enc:α->List Value} {k:Nat} {w:World} {b n j:Nat} {d:Array α} {os:Array Obj} (hj:j < w.heap.size) (hne:j≠b):(sortWorldK enc k w b 0 n d os).heap[j]?=w.heap[j]?:=by
 show ((w.heap.modify b (onCells (putCells id 0 (flatK enc k d))))++os)[j]?=_;rw [Array.getElem?_append_left (by simpa using hj),Array.getElem?_modify,if_neg (fun e=>hne e.symm)]
theorem Zgj {α:Type} [Inhabited α] {enc:α->List Value} {k:Nat} {w:World} {b n:Nat} {d:Array α} {os:Array Obj}:w.heap.size<=(sortWorldK enc k w b 0 n d os).heap.size:=by
 show _<=((w.heap.modify b (onCells (putCells id 0 (flatK enc k d))))++os).size;simp
theorem ZxY {P:Program} (hP:e1.P=P) {ρ:Go.Shelf.Ren} (L:SlLaysF0.n6 P ρ) {k ty:Nat} (aE:∀ w,(isAgg (ρ.t 24)).run P w=.ok true w) (zE:∀ w,(Go.sizeOf (ρ.t 24)).run P w=.ok k w) (hbody:Zcm P (ρ.f 6)=true) {g:FuncId} (eg:∀ args w,(callFunc g args).run P w=.ok (.enter g args) w)
  {rows rows':List (List C)} {cf:List C->List C->Int} (hlen:rows.length < 4611686018427387904) (hg:∀ a∈rows,∀ b∈rows,Con e1 g [.agg a,.agg b] [.one (.lit (.int .i64 (cf a b)))])
  (h1:∀ a∈rows,¬ cf a a < 0) (h2:∀ a∈rows,∀ b∈rows,∀ c∈rows,cf a b < 0->cf b c < 0->cf a c < 0) (h3:∀ a∈rows,∀ b∈rows,∀ c∈rows,¬ cf a b < 0->¬ cf b c < 0->¬ cf a c < 0)
  (hu:∀ l:List (List C),l.Perm rows->(∀ (i j:Nat) a b,i < j->l[i]?=some a->l[j]?=some b->¬ cf b a < 0)->l=rows'):ConI e1 (ρ.f 6) ty k rows [.one (.fn g [])] rows' []:=by
 refine ⟨by rw [hP];exact hbody,fun w S v0 vs hS hE hvE hG hbuf hargs=>?_⟩;rw [hP]
 match vs,hargs with
 | [u],hargs =>
  obtain ⟨⟨us,rfl,hus⟩,_⟩:(∃ us:List Value,u=.func (.func g) #[] us.toArray∧Zac w S [] us)∧True:=by simpa [ZaB,DRel,Rep] using hargs
  have hus0:us=[]:=by cases us with
   | nil=>rfl
   | cons _ _=>simp [Zac] at hus
  subst hus0;obtain ⟨h0,hrl,hcase⟩:=hbuf;by_cases hne:rows=[]
  ·subst hne;have hr':rows'=[]:=(hu [] (List.Perm.refl _) (fun i j a b _ h=>by simp at h)).symm;subst hr';have hform:∃ p cap,v0=.slice p 0 cap:=by
    rcases hcase with ⟨_,a,rfl⟩ | ⟨b,cap,cur,rfl,_⟩
    ·exact ⟨a,0,rfl⟩
    ·exact ⟨_,cap,rfl⟩
   obtain ⟨p,cap,hv0⟩:=hform;rw [hv0];refine (AnyF.slices_SortFunc_none (P:=P) L p cap _ w).mono ?_;rintro e w' ⟨rfl,rfl⟩;rw [<- hv0];have hs:(fun b=>S b∨(w'.heap.size<=b∧b < w'.heap.size))=S:=by
    funext b;exact propext ⟨fun h=>h.elim id (fun h=>absurd h.2 om),.inl⟩
   refine ⟨_,rfl,Kept.refl ..,hG,?_,[],rfl,trivial⟩;rw [hs];exact ⟨h0,hrl,hcase⟩
  ·rcases hcase with ⟨e,_⟩ | ⟨b,cap,cur,rfl,hc,hbz,hSb,hh,hle,hmx,hcs,hrows⟩
   ·exact absurd e hne
   have hkr:∀ r,r∈rows->r.length=k:=fun r hr=>(hrl r hr).1;obtain ⟨l,hl,hcell⟩:=Zp4 (k:=k) (Q:=fun r=>r∈rows) hkr rows 0 (fun r h=>h) hrows;have hll:l.length=rows.length:=by have:=congrArg List.length hl;rwa [Tay] at this
   obtain ⟨x0,hx0⟩:∃ x,x∈l:=List.exists_mem_of_ne_nil _ (fun e=>hne (Tao (by rw [<- hll,e];rfl)))
   letI:Inhabited (SRow w S (fun r=>r∈rows)):=⟨x0⟩
   have hk:∀ x:SRow w S (fun r=>r∈rows),x.1.2.length=k:=fun x=>by rw [x.2.2.len];exact hkr _ x.2.1
   have h1c:∀ x:SRow w S (fun r=>r∈rows),∀ v∈x.1.2,v.oneCell'=true:=fun x=>Zac.one (hrl _ x.2.1).2 x.2.2;have hH:HoldsK (fun x:SRow w S (fun r=>r∈rows)=>x.1.2) k w b 0 l.toArray:=ZxX hk (fun o=>frozen_of_row w b o cur ty hh) hcell
   have keepV:∀ (m:Nat) (os:Array Obj) (dk:Array (SRow w S (fun r=>r∈rows))) (S2:Nat->Prop),(∀ b,S b->S2 b)->∀ x:SRow w S (fun r=>r∈rows),Zac (sortWorldK (fun x:SRow w S (fun r=>r∈rows)=>x.1.2) k w b 0 m dk os) S2 x.1.1 x.1.2:=fun m os dk S2 hS2 x =>
    Zac.keep2 Zgj (fun b' o hb'=>ZbG (ZkY (hS b' hb').1 (fun e:b'=b=>hSb (by rw [<- e];exact hb'))) o) hS2 x.2.2
   have hvb:vblk (.slice (some ⟨b,0,none⟩) rows.length cap)=some b:=by simp only [vblk];rw [if_neg om]
   have keepG:∀ (m:Nat) (os:Array Obj) (dk:Array (SRow w S (fun r=>r∈rows))),e1.G (sortWorldK (fun x:SRow w S (fun r=>r∈rows)=>x.1.2) k w b 0 m dk os):=fun m os dk =>
    Zow.keep w _ Zgj (fun b' hb'=>ZkY (hE b' hb') (fun e=>hvE b hvb (e ▸ hb'))) hG
   have hcmp:CmpLays P g #[] (fun x:SRow w S (fun r=>r∈rows)=>x.1.2) k (fun x y=>cf x.1.1 y.1.1) b 0 l.toArray.size w:=by
    intro m os dk hdk x y
    have hc:=(hg _ x.2.1 _ y.2.1).2 (sortWorldK (fun x:SRow w S (fun r=>r∈rows)=>x.1.2) k w b 0 m dk os) S [.agg x.1.2.toArray,.agg y.1.2.toArray] (fun b' hb'=>⟨Tbd (hS b' hb').1 Zgj,(hS b' hb').2⟩) (fun b' h=>Tbd (hE b' h) Zgj) (keepG m os dk)
     ⟨⟨_,rfl,keepV m os dk S (fun _ h=>h) x⟩,⟨_,rfl,keepV m os dk S (fun _ h=>h) y⟩,trivial⟩
    rw [hP] at hc;refine hc.mono ?_;rintro e w' ⟨v,rfl,hK,hG',hv⟩;have hv:v=.int .i64 (cf x.1.1 y.1.1):=by simpa [retA,ARel,DRel,Rep] using hv
    exact ⟨by rw [hv],ZxW (hK.all1 (keepG m os dk) hG')⟩
   have hO:SWO (ltOf (fun x y:SRow w S (fun r=>r∈rows)=>cf x.1.1 y.1.1)):=by
    refine ⟨fun x=>?_,fun x y z=>?_,fun x y z=>?_⟩ <;> simp only [ltOf,decide_eq_false_iff_not,decide_eq_true_eq]
    ·exact h1 _ x.2.1
    ·exact h2 _ x.2.1 _ y.2.1 _ z.2.1
    ·exact h3 _ x.2.1 _ y.2.1 _ z.2.1
   have hsort:=AnyQ.slices_SortFunc L k aE zE (fun x:SRow w S (fun r=>r∈rows)=>x.1.2) hk h1c (fun x y=>cf x.1.1 y.1.1) hO g #[] b 0 cap l.toArray w eg hcmp hH hbz (by simp only [List.size_toArray];omega);have hlz:l.toArray.size=rows.length:=by simpa using hll
   rw [hlz] at hsort;refine hsort.mono ?_;rintro e w' ⟨rfl,d',n,os,hp,hs,rfl⟩;obtain ⟨hp1,_,hp3⟩:=hp;rw [hlz] at hp1;have hex:∀ a:Array (SRow w S (fun r=>r∈rows)),a.size=rows.length->a.extract 0 rows.length=a:=fun a ha=>by rw [<- ha];simp
   rw [hex d' hp1,hex _ hlz] at hp3;have hperm:(d'.toList.map (fun x=>x.1.1)).Perm rows:=by
    have:=hp3.map (fun x:SRow w S (fun r=>r∈rows)=>x.1.1)
    rwa [show l.toArray.toList=l from rfl,hl] at this
   have hrows':d'.toList.map (fun x=>x.1.1)=rows':=hu _ hperm fun i j a c hij ha hc=>by
    simp only [Tba,Tav] at ha hc;obtain ⟨x,hx,rfl⟩:=ha;obtain ⟨y,hy,rfl⟩:=hc;have hjl:j < rows.length:=by have:=(Tad.1 hy).1;simpa [hp1] using this
    have:=hs i j (Taj _) hij hjl;have ex:d'[i]! = x:=by
     rw [getElem!_pos d' i om];have:=(Tad.1 hx).2;simpa using this
    have ey:d'[j]! = y:=by
     rw [getElem!_pos d' j om];have:=(Tad.1 hy).2;simpa using this
    rw [ex,ey] at this;simpa [ltOf] using this
   have hlr:rows'.length=rows.length:=by rw [<- hrows',Tay,Array.length_toList,hp1]
   have hW:HoldsK (fun x:SRow w S (fun r=>r∈rows)=>x.1.2) k (sortWorldK (fun x:SRow w S (fun r=>r∈rows)=>x.1.2) k w b 0 n d' os) b 0 d':=SWK.holds (d0:=l.toArray) ⟨n,os,rfl⟩ hbz hH (by rw [hp1,hlz]);refine ⟨_,rfl,⟨rfl,rfl,rfl,fun _=>Nat.le_add_right _ _,Zgj,fun j hj hn=>ZkY hj (fun e=>hn (.inr (by rw [hvb,e])))⟩,keepG n os d',⟨h0,fun r hr=>?_,.inr ⟨b,cap,_,by rw [hlr],hc,Tbd hbz Zgj,fun hn=>?_,Zzo hh,om,hmx,by simp [putCells,hcs],?_⟩⟩,[],rfl,trivial⟩
   ·rw [<- hrows'] at hr;exact hrl r (hperm.mem_iff.1 hr)
   ·rcases hn with hn | hn
    ·exact hSb hn
    ·omega
   ·rw [<- hrows'];exact Zmc (Q:=fun r=>r∈rows) hkr (keepV n os d' _ (fun b hb=>.inl hb)) d'.toList 0 fun i x hi j u hj=>Zp5 hk hW hi hj
end Go.Proofs.YtjoaefnnnbpflaaGreatDoor
namespace Go.Proofs.YtjoaefnnnbpflaaGreatDoor
open Go.Shelf
def ZxZ:Ren:=⟨fun | 6=>138 | 15=>155 | 14=>154 | 28=>169 | 29=>170 | 20=>161 | 21=>162 | 22=>163 | 23=>164 | 24=>165 | 25=>166 | 26=>167 | 27=>168 | 46=>174 | 47=>175 | 48=>176 | 49=>177 | 50=>178 | 57=>184 | n=>n,fun | 22=>37 | 24=>39 | 25=>143 | 3=>3 | 39=>184 | 0=>0 | 53=>202 | 55=>204 | 4=>4 | 46=>195 | 45=>194 | 50=>199 | 5=>5 | 9=>9 | 66=>206 | 70=>210 | 76=>216 | 77=>217 | n=>n,fun | n=>n⟩
theorem ZCw:Go.Proofs.SlLaysF0.n6 Tryz.prog ZxZ:={
 mixed:=by kernel_rfl,
 f6:=⟨Tryz.f138.name,by decide,Tryz.func138.trans (congrArg some (by kernel_rfl))⟩,
 f14:=⟨Tryz.f154.name,by decide,Tryz.func154.trans (congrArg some (by kernel_rfl))⟩,
 f15:=Tryz.func155.trans (congrArg some (by kernel_rfl)),
 f20:=⟨Tryz.f161.name,by decide,Tryz.func161.trans (congrArg some (by kernel_rfl))⟩,
 f21:=⟨Tryz.f162.name,by decide,Tryz.func162.trans (congrArg some (by kernel_rfl))⟩,
 f22:=⟨Tryz.f163.name,by decide,Tryz.func163.trans (congrArg some (by kernel_rfl))⟩,
 f23:=⟨Tryz.f164.name,by decide,Tryz.func164.trans (congrArg some (by kernel_rfl))⟩,
 f24:=⟨Tryz.f165.name,by decide,Tryz.func165.trans (congrArg some (by kernel_rfl))⟩,
 f25:=⟨Tryz.f166.name,by decide,Tryz.func166.trans (congrArg some (by kernel_rfl))⟩,
 f26:=⟨Tryz.f167.name,by decide,Tryz.func167.trans (congrArg some (by kernel_rfl))⟩,
 f27:=⟨Tryz.f168.name,by decide,Tryz.func168.trans (congrArg some (by kernel_rfl))⟩,
 f28:=Tryz.func169.trans (congrArg some (by kernel_rfl)),
 f29:=Tryz.func170.trans (congrArg some (by kernel_rfl)),
 f46:=⟨Tryz.f174.name,by decide,Tryz.func174.trans (congrArg some (by kernel_rfl))⟩,
 f47:=Tryz.func175.trans (congrArg some (by kernel_rfl)),
 f48:=Tryz.func176.trans (congrArg some (by kernel_rfl)),
 f49:=⟨Tryz.f177.name,by decide,Tryz.func177.trans (congrArg some (by kernel_rfl))⟩,
 f50:=⟨Tryz.f178.name,by decide,Tryz.func178.trans (congrArg some (by kernel_rfl))⟩,
 f57:=⟨Tryz.f184.name,by decide,Tryz.func184.trans (congrArg some (by kernel_rfl))⟩,
 t0:=Tryz.underlying0,
 a0:=Tryz.isAgg0,
 z0:=Tryz.sizeOf0,
 v0:=Tryz.zeroValue0,
 t3:=Tryz.underlying3,
 a3:=Tryz.isAgg3,
 z3:=Tryz.sizeOf3,
 v3:=Tryz.zeroValue3,
 t4:=Tryz.underlying4,
 a4:=Tryz.isAgg4,
 z4:=Tryz.sizeOf4,
 v4:=Tryz.zeroValue4,
 t5:=Tryz.underlying5,
 a5:=Tryz.isAgg5,
 z5:=Tryz.sizeOf5,
 v5:=Tryz.zeroValue5,
 t9:=Tryz.underlying9,
 a9:=Tryz.isAgg9,
 z9:=Tryz.sizeOf9,
 v9:=Tryz.zeroValue9,
 t22:=Tryz.underlying37,
 a22:=Tryz.isAgg37,
 z22:=Tryz.sizeOf37,
 v22:=Tryz.zeroValue37,
 t25:=Tryz.underlying143,
 a25:=Tryz.isAgg143,
 z25:=Tryz.sizeOf143,
 v25:=Tryz.zeroValue143,
 t39:=Tryz.underlying184,
 a39:=Tryz.isAgg184,
 z39:=Tryz.sizeOf184,
 v39:=Tryz.zeroValue184,
 t45:=Tryz.underlying194,
 a45:=Tryz.isAgg194,
 z45:=Tryz.sizeOf194,
 v45:=Tryz.zeroValue194,
 t46:=Tryz.underlying195,
 a46:=Tryz.isAgg195,
 z46:=Tryz.sizeOf195,
 v46:=Tryz.zeroValue195,
 t50:=Tryz.underlying199,
 a50:=Tryz.isAgg199,
 z50:=Tryz.sizeOf199,
 v50:=Tryz.zeroValue199,
 t53:=Tryz.underlying202,
 a53:=Tryz.isAgg202,
 z53:=Tryz.sizeOf202,
 v53:=Tryz.zeroValue202,
 t55:=Tryz.underlying204,
 a55:=Tryz.isAgg204,
 z55:=Tryz.sizeOf204,
 v55:=Tryz.zeroValue204,
 t66:=Tryz.underlying206,
 a66:=Tryz.isAgg206,
 z66:=Tryz.sizeOf206,
 v66:=Tryz.zeroValue206,
 t70:=Tryz.underlying210,
 a70:=Tryz.isAgg210,
 z70:=Tryz.sizeOf210,
 v70:=Tryz.zeroValue210,
 t76:=Tryz.underlying216,
 a76:=Tryz.isAgg216,
 z76:=Tryz.sizeOf216,
 v76:=Tryz.zeroValue216,
 t77:=Tryz.underlying217,
 a77:=Tryz.isAgg217,
 z77:=Tryz.sizeOf217,
 v77:=Tryz.zeroValue217 }
end Go.Proofs.YtjoaefnnnbpflaaGreatDoor
namespace Go.Proofs.YtjoaefnnnbpflaaGreatDoor
open Go.RowKit
theorem ZBE {f:FuncId} {ty sz:Nat} {rows rows':List (List C)} {args r:List D} (h:ConI e1 f ty sz rows args rows' r):ConI e0 f ty sz rows args rows' r :=
 ⟨h.1,fun w S v0 vs h1 h2 h3 h4 h5 h6=>(h.2 w S v0 vs h1 h2 h3 h4 h5 h6).mono fun en w' ⟨v,k1,k2,k3⟩=>⟨v,k1,⟨k2.os,k2.tape,k2.output,fun d=>d.elim,k2.size,k2.block⟩,k3⟩⟩
theorem ZtY (ts:List Tm) (hl:ts.length<=4000000):ConI e0 138 39 4 (Zaa ts) [.one (.fn 137 [])] (Zaa (Zaw ts)) []:=by
 have hrow:∀ a∈Zaa ts,a=Zab (unT a):=fun a ha=>by
  rw [Zbm] at ha;obtain ⟨t,_,rfl⟩:=Tbi.1 ha;rw [ZsR]
 exact ZBE (ZxY (P:=Tryz.prog) rfl ZCw (k:=4) (ty:=39) Tryz.isAgg39 Tryz.sizeOf39 (by kernel_rfl) (g:=137) (enters_of Tryz.func137 (by kernel_rfl) rfl) (rows:=Zaa ts) (rows':=Zaa (Zaw ts)) (cf:=fun a b=>Zah (unT a) (unT b)) (by rw [Zad];omega)
  (fun a ha b hb=>by
   have h:=ZeH (unT a) (unT b)
   rwa [<- hrow a ha,<- hrow b hb] at h)
  (fun a _=>by rw [Zdh];omega) (fun a _ b _ c _ h1 h2=>ZdD h1 h2) (fun a _ b _ c _ h1 h2=>by
   rw [Zcc (unT b) (unT a)] at h1;rw [Zcc (unT c) (unT b)] at h2;rw [Zcc (unT c) (unT a)];have:=ZbW (a:=unT c) (b:=unT b) (c:=unT a) om om;omega)
  (fun l hp hs=>by
   have hmem:∀ a∈l,a=Zab (unT a):=fun a ha=>hrow a (hp.mem_iff.1 ha);have hp2:(l.map unT).Perm ts:=by have:=hp.map unT;rwa [ZBm] at this
   have hup:Up (l.map unT):=by
    refine List.pairwise_iff_getElem.2 fun i j hi hj hij=>?_;simp only [List.getElem_map];simp only [Tay] at hi hj;have:=hs i j l[i] l[j] hij (Taa hi) (Taa hj);rw [Zcc (unT l[j]) (unT l[i])];omega
   have e:=ZjT (Zcd ts) hup ((Za9 ts).trans hp2.symm);rw [e,Zbm,List.map_map]
   conv=>lhs;rw [<- List.map_id l]
   exact List.map_congr_left fun a ha=>hmem a ha))
def RCut (a:Option Addr) (cap ty sz:Nat) (rows:List (List C)) (r:List D) (pm:List Bk):Prop:=r=[.one (.lit (.slice a rows.length cap))]∧pm=[.buf (some (a,cap)) ty sz rows]
theorem ZhF {m:List (Nat × Bk)} {a:Option Addr} {n cap:Nat}:lenA m (some true) [nrm m (.d (.one (.lit (.slice a n cap))))]=some (.d (.one (.lit (.int .i64 (n:Int))))):=by
 show lenA m (some true) [ZjG m a n cap (bufK a n cap m)]=_
 cases bufK a n cap m with
 | none=>rfl
 | some k =>
  show lenA m (some true) [nrmB a n cap k (gm m k)]=_
  cases hg:gm m k with
  | none=>rfl
  | some bk =>
   cases bk with
   | var o cs=>rfl
   | set E G=>rfl
   | buf o ty sz rows =>
    cases o with
    | none=>rfl
    | some q =>
     obtain ⟨a',cap'⟩:=q;simp only [nrmB];split
     ·rename_i h;show lenS (bufA (gm m k))=_;rw [hg,h.2.1];rfl
     ·rfl
theorem Zx0 {m:List (Nat × Bk)} {a:Option Addr} {l h cap sz:Nat}:lenA m (some true) [nrm m (.d (.one (.lit (sliced a l h cap sz))))]=some (.d (.one (.lit (.int .i64 ((h - l:Nat):Int))))):=ZhF
theorem ZtZ (l:List Tm) (k:Nat) (t:Tm):(Zaa l).set k (Zab t)=Zaa (l.set k t):=by rw [Zbm,Zbm,List.map_set]
theorem Zx1 {α:Type} {l:List α} {i:Nat} {x:α} (h:i < l.length):(l.set i x).take (i+1)=l.take i++[x]:=by
 rw [List.take_add_one,List.take_set_of_le (Tai _)];simp [h]
theorem ZsZ {l l':List Tm} {m:Nat} (h:l.drop m=l'.drop m) (i:Nat):l[m+i]?=l'[m+i]?:=by
 rw [<- Tbb,<- Tbb,h]
theorem Zzp {ts:List Tm} (h:ts.length < 2):ddT none ts=ts:=by
 match ts,h with
 | [],_=>rfl
 | [x],_=>rfl
theorem Zp6 (ts:List Tm) (hl:ts.length<=4000000) (a:Option Addr) (cap:Nat):ConP e0 139 [.one (.lit (.slice a ts.length cap)),.one (.fn 108 [])] [.buf (some (a,cap)) 39 4 (Zaa ts)] (RCut a cap 39 4 (Zaa (ddT none ts))):=by
 refine gIP (ts:=[.slot 4]) [1000] 562984581629171 Tryz.func139 ?_;by_cases h2:ts.length < 2
 ·have q1:=lT ts.length 2;refine fG (ai @q1 @tmz) ?_;rw [Zzp h2];exact (have F:=Zad;gTP (R:=RCut a cap 39 4 (Zaa ts)) [1000] ⟨by rw [Zad],rfl⟩)
 have q1:=lF ts.length 2;refine fG (ai @q1 @tmz) ?_;clear q1;obtain ⟨t0,ht0⟩:∃ t,ts[0]?=some t:=⟨_,Taa om⟩;have F:=@tmz;refine gL (ι:=Nat) [4,5,6,7,15,28,35,49] [] (fun x=>[(5,.d (.one (.lit (.int .i64 (x:Int)))))]) (fun x=>[]) (fun x=>1<=x∧x<=ts.length∧ddT none (ts.take x)=ts.take x) (fun x=>ts.length - x) (1) (⟨Tai _,om,by rw [ZBl ht0];cases ts with | nil=>simp at ht0 | cons y ys=>simp at ht0;simp [ht0]⟩) (fun x hx=>?_);clear F
 obtain ⟨hx1,hxn,hxd⟩:=hx;by_cases hlt:x < ts.length;rotate_left
 ·obtain rfl:x=ts.length:=by omega
  have q1:=lF ts.length ts.length;rw [Tap] at hxd;refine fG (ai @q1 @tmz) ?_;rw [hxd];exact (have F:=Zad;gTP (R:=RCut a cap 39 4 (Zaa ts)) [1000] ⟨by rw [Zad],rfl⟩)
 obtain ⟨u,hu⟩:∃ t,ts[x]?=some t:=⟨_,Taa hlt⟩;obtain ⟨z,rfl⟩:∃ z,x=z+1:=⟨x - 1,om⟩;obtain ⟨v,hv⟩:∃ t,ts[z]?=some t:=⟨_,Taa om⟩;have q1:=lT (z+1:Nat) ts.length;have w1:IntKind.i64.wrap (((z+1:Nat):Int) - 1)=(z:Int):=Za4 om om om;have w2:IntKind.i64.wrap (((z+1:Nat):Int)+1)=((z+1+1:Nat):Int):=Za4 om om om;have hz1:z+1 < ts.length:=hlt;have hz0:z < ts.length:=om;have hst:=Zpx hu hv;generalize hxx:z+1=x at *
 rw [show z+2=x+1 by omega] at hst;refine fB (ai @q1 @tmz) ?_;refine fC (aj8 @q1 @tmz @hu @hv @w1 @hz1 @hz0 @Zad) (ZgE u v) ?_;refine fR (ai @q1 @tmz) ?_;by_cases h0:Zah u v=0;rotate_left
 ·have q3:decide (Zah u v=0)=false:=decide_eq_false h0;rw [if_neg h0,hxd] at hst;have F:=ai @q3 @w2;refine gG ?_;exact ⟨x+1,⟨om,hlt,by rw [hst];simp [List.take_add_one,hu]⟩,gw,gw,om⟩
 have q3:decide (Zah u v=0)=true:=decide_eq_true h0;rw [if_pos h0,hxd] at hst;refine fN 7 (ai @q3 @tmz) ?_;refine gB ?_;have F:=ai @q3 @tmz;refine gP 2 ?_;clear F;have F:=Zad;refine gSub 1000 x ts.length ⟨om,by rw [Zad];exact Tai _⟩ ?_;clear F;refine fR @tmz ?_;refine fG @tmz ?_;have F:=@tmz;refine gL (ι:=Nat × Nat × List Tm) [5,7,35,49] [1000] (fun y=>[(7,.d (.one (.lit (.int .i64 (y.1:Int))))),(5,.d (.one (.lit (.int .i64 (y.2.1:Int)))))]) (fun y=>[(1000,.buf (some (a,cap)) 39 4 (Zaa y.2.2))]) (fun y=>1<=y.1∧x+y.1<=ts.length∧y.2.1+1<=x+y.1∧y.2.2.length=ts.length∧y.2.2.take y.2.1=ddT none (ts.take (x+y.1))∧y.2.2.drop (x+y.1 - 1)=ts.drop (x+y.1 - 1)) (fun y=>ts.length - y.1) ((1,x,ts)) (⟨Tai _,hlt,Tai _,rfl,hst.symm,rfl⟩) (fun y hy=>?_);clear F
 obtain ⟨j,k,us⟩:=y;obtain ⟨h1,h2',h3,h4,h5,h6⟩:=hy;simp only at h1 h2' h3 h4 h5 h6;dsimp only;have hn4:ts.length=us.length:=h4.symm;by_cases hj:j < ts.length - x
 ·obtain ⟨i,rfl⟩:∃ i,j=i+1:=⟨j - 1,om⟩;obtain ⟨u1,hu1⟩:∃ t,ts[x+i+1]?=some t:=⟨_,Taa om⟩;obtain ⟨v1,hv1⟩:∃ t,ts[x+i]?=some t:=⟨_,Taa om⟩;have e1:us[x+(i+1)]?=some u1:=by
   rw [<- hu1,show x+(i+1) - 1=x+i by omega] at *;exact ZsZ h6 1
  have e2:us[x+i]?=some v1:=by
   rw [<- hv1,show x+(i+1) - 1=x+i by omega] at *;exact ZsZ h6 0
  have q4:=lT (i+1:Nat) (ts.length - x:Nat);have w3:IntKind.i64.wrap (((i+1:Nat):Int) - 1)=(i:Int):=Za4 om om om;have w4:IntKind.i64.wrap (((i+1:Nat):Int)+1)=((i+1+1:Nat):Int):=Za4 om om om;have hst2:=Zpx hu1 hv1;rw [show x+i+2=x+(i+1+1) by omega,show x+i+1=x+(i+1) by omega,<- h5] at hst2;refine fN 11 (aj3 @q4 @Zx0 @tmz) ?_;refine gB ?_;have F:=ai @q4 @tmz;refine gP 3 ?_;clear F;have F:=Zad;refine ZxE (l:=x) (h:=ts.length) (rows:=Zaa us) 1000 (i+1) ⟨om,by rw [Zad];omega⟩ ?_
  clear F;have F:=aj3 @tmz @e1 @w3;refine gP 4 ?_;clear F;have F:=Zad;refine ZxE (l:=x) (h:=ts.length) (rows:=Zaa us) 1000 i ⟨om,by rw [Zad];omega⟩ ?_;clear F;refine fC (ai @tmz @e2) (ZgE u1 v1) ?_;refine fR @tmz ?_;by_cases h7:Zah u1 v1=0
  ·have q5:decide (Zah u1 v1=0)=true:=decide_eq_true h7;rw [if_pos h7] at hst2;have F:=ai @q5 @w4;refine gG ?_;exact ⟨(i+1+1,k,us),⟨by dsimp only;omega,by dsimp only;omega,by dsimp only;omega,h4,hst2.symm,by rw [show x+(i+1+1) - 1=x+(i+1) - 1+1 by omega,<- List.drop_drop,<- List.drop_drop,h6]⟩,gw,gw,om⟩
  ·have q5:decide (Zah u1 v1=0)=false:=decide_eq_false h7;rw [if_neg h7] at hst2;obtain ⟨ok,hok⟩:∃ t,us[k]?=some t:=⟨_,Taa om⟩;have w5:IntKind.i64.wrap ((k:Int)+1)=((k+1:Nat):Int):=Za4 om om om;have hkl:k < us.length:=om;refine fN 12 (ai @q5 @tmz) ?_;refine gB ?_;have F:=ai @q5 @tmz;refine gP 4 ?_;clear F;have F:=Zad;refine ZCt (l:=x) (h:=ts.length) (rows:=Zaa us) 1000 (i+1) ⟨om,by rw [Zad];omega⟩ ?_
   clear F;refine fR (aj6 @tmz @e1 @hok @hn4 @hkl @ZtZ) ?_;have F:=aj3 @w4 @w5 @hn4;refine gG ?_;exact ⟨(i+1+1,k+1,us.set k u1),⟨by dsimp only;omega,by dsimp only;omega,by dsimp only;omega,by rw [Taz];exact h4,by rw [hst2,Zx1 hkl],by rw [List.drop_set_of_lt om,show x+(i+1+1) - 1=x+(i+1) - 1+1 by omega,<- List.drop_drop,<- List.drop_drop,h6]⟩,gw,gw,om⟩
 ·have q4:=lF j (ts.length - x:Nat);have hjn:x+j=ts.length:=om;rw [hjn,Tap] at h5;have hkl:k < us.length:=om;refine fN 14 (aj3 @q4 @Zx0 @tmz) ?_;refine gB ?_;have F:=ai @q4 @tmz;refine gP 2 ?_;clear F;have F:=ai Zad hn4;refine gSub 1000 k us.length ⟨om,by rw [Zad];exact Tai _⟩ ?_;rw [show us.length=(Zaa us).length by rw [Zad]];refine ZB5 1000 (by rw [Zad];exact hkl) ?_;clear F;have hRl:((Zaa us).take k++List.replicate ((Zaa us).length - k) [C.lit (Value.int IntKind.i64 0),C.lit (Value.string ByteArray.empty),C.lit (Value.int IntKind.i64 0),C.sl []]).length=us.length:=by simp [Zad];omega
  have hRt:((Zaa us).take k++List.replicate ((Zaa us).length - k) [C.lit (Value.int IntKind.i64 0),C.lit (Value.string ByteArray.empty),C.lit (Value.int IntKind.i64 0),C.sl []]).take k=Zaa (ddT none ts):=by
   rw [List.take_append_of_le_length (by simp [Zad];omega),List.take_take,Nat.min_self,ZdW,h5]
  generalize (Zaa us).take k++List.replicate ((Zaa us).length - k) [C.lit (Value.int IntKind.i64 0),C.lit (Value.string ByteArray.empty),C.lit (Value.int IntKind.i64 0),C.sl []]=R at hRl hRt ⊢;refine fR @tmz ?_;refine fN 15 (ai @q4 @tmz) ?_;refine gB ?_;have F:=ai @q4 @tmz;refine gP 2 ?_;clear F;have F:=ai hRl hn4;refine gSub 1000 0 k ⟨om,by rw [hRl];omega⟩ ?_;clear F;rw [Zku];refine fR @tmz ?_;refine fG @tmz ?_
  refine pE [1000] [1000] (ZxD k (by rw [hRl];omega)) ?_;rw [hRt];have hk2:k=(Zaa (ddT none ts)).length:=by rw [Zad,<- h5,Taw];omega
  exact (have F:=Zad;gTP (R:=RCut a cap 39 4 (Zaa (ddT none ts))) [1000] ⟨by rw [<- hk2],rfl⟩)
theorem Zho (ts:List Tm):(Zaw ts).length=ts.length:=(Za9 ts).length_eq
theorem ZBF (ts:List Tm):ddT none (Zaw ts)=Zdi ts:=by rw [Zy4 (Zcd ts),ZqW (Za9 ts)]
theorem Zn9 (ts:List Tm) (hl:ts.length<=4000000) (a:Option Addr) (cap:Nat):ConP e0 105 [.one (.lit (.slice a ts.length cap))] [.buf (some (a,cap)) 39 4 (Zaa ts)] (RCut a cap 39 4 (Zaa (Zdi ts))):=by
 have hc:=Zp6 (Zaw ts) (by rw [Zho];exact hl) a cap;rw [Zho,ZBF] at hc;refine gIP (ts:=[.slot 2]) [1000] 5 Tryz.func105 ?_;refine fB @tmz ?_;have F:=@tmz;refine gCI (ZtY ts hl) (by rw [Zad,Zad,Zho]) ?_;clear F;refine fR @tmz ?_;refine fB @tmz ?_;have F:=@tmz;refine gCP [1000] [1000] (hc) ?_;clear F;rintro r pm ⟨rfl,rfl⟩;simp only [setA,retA,zipM,Taf,Tah];refine fR @tmz ?_;refine fG @tmz ?_;exact (have F:=Zad;gTP (R:=RCut a cap 39 4 (Zaa (Zdi ts))) [1000] ⟨rfl,rfl⟩)
theorem Zt0 {t x:Tm} {ts:List Tm} {i:Nat} (hx:ts[i]?=some x) (h:Zbo t ts=ts.take i++Zbo t (ts.drop i)) (hc:Zah x t < 0):Zbo t ts=ts.take (i+1)++Zbo t (ts.drop (i+1)):=by
 obtain ⟨hl,e⟩:=Tad.1 hx;rw [h,List.drop_eq_getElem_cons hl,e,Zbo,if_pos hc];simp [List.take_add_one,hx]
theorem Zt1 {t x:Tm} {ts:List Tm} {i:Nat} (hx:ts[i]?=some x) (h:Zbo t ts=ts.take i++Zbo t (ts.drop i)) (hc:Zah x t=0):Zbo t ts=ts:=by
 obtain ⟨hl,e⟩:=Tad.1 hx;rw [h,List.drop_eq_getElem_cons hl,e,Zbo,if_neg om,if_pos hc,<- e,<- List.drop_eq_getElem_cons hl,Tbm]
theorem Zt2 {t x:Tm} {ts:List Tm} {i:Nat} (hx:ts[i]?=some x) (h:Zbo t ts=ts.take i++Zbo t (ts.drop i)) (h1:¬ Zah x t < 0) (h2:¬ Zah x t=0):Zbo t ts=ts.take i++[t]++ts.drop i:=by
 obtain ⟨hl,e⟩:=Tad.1 hx;rw [h,List.drop_eq_getElem_cons hl,e,Zbo,if_neg h1,if_neg h2];simp
theorem Zx2 {t:Tm} {ts:List Tm} {i:Nat} (hi:ts.length<=i) (h:Zbo t ts=ts.take i++Zbo t (ts.drop i)):Zbo t ts=ts.take i++[t]++ts.drop i:=by
 rw [h,List.drop_eq_nil_of_le hi,Zbo];simp
theorem Zp7 (ts:List Tm) (t:Tm) (hts:Zax ts) (ht:okTm t) (hl:ts.length<=8000000):Con e0 127 [.one (.sl (Zaa ts)),.agg (Zab t)] [.one (.sl (Zaa (Zbo t ts)))]:=by
 refine gI (ts:=[.slot 4]) 8590459003 Tryz.func127 ?_;refine fG @tmz ?_;have F:=@tmz;refine gL (ι:=Nat) [5,19] [] (fun x=>[(5,.d (.one (.lit (.int .i64 (x:Int)))))]) (fun x=>[]) (fun x=>x<=ts.length∧Zbo t ts=ts.take x++Zbo t (ts.drop x)) (fun x=>ts.length - x) (0) (⟨Taj _,rfl⟩) (fun x hx=>?_);clear F;obtain ⟨hi,hf⟩:=hx;by_cases hlt:x < ts.length
 ·obtain ⟨a,ha⟩:∃ n,ts[x]?=some n:=⟨_,Taa hlt⟩;have q1:=lT x ts.length;have q4:IntKind.i64.wrap ((x:Int)+1)=(x:Int)+1:=IntWalk.i64_in _ om;have hcmp:=Zeo (hts.mem (Tac ha)) ht;refine fB (ai @q1 @tmz) ?_;refine fC (aj3 @q1 @tmz @ha) (hcmp) ?_;by_cases hc:Zah a t < 0
  ·have q2:(Zah a t < 0)=True:=eq_true hc;refine fR (aj3 @q1 @q2 @tmz) ?_;have hs:=Zt0 ha hf hc;have F:=ai @q4 @q2;refine gG ?_;exact ⟨x+1,⟨hlt,hs⟩,gw,gw,om⟩
  ·have q2:(Zah a t < 0)=False:=eq_false hc;refine fR (aj3 @q1 @q2 @tmz) ?_;refine fB (aj3 @q1 @q2 @tmz) ?_;refine fC (aj3 @q1 @tmz @ha) (Zei (hts.mem (Tac ha)) ht) ?_;by_cases h0:Zah a t=0
   ·have q3:decide (Zah a t=0)=true:=decide_eq_true h0;refine fR (aj3 @q1 @q3 @tmz) ?_;rw [Zt1 ha hf h0];exact fD (ai @q3 @tmz)
   ·have q3:decide (Zah a t=0)=false:=decide_eq_false h0;refine fR (aj3 @q1 @q3 @tmz) ?_;have hins:=Zt2 ha hf hc h0;refine fN 6 (ai @q3 @tmz) ?_;rw [hins,Zb6,Zb6,Ze9,<- ZdW,<- Zes];have hxl:((x:Int)<=(ts.length:Int))=True:=eq_true om;have r1:ZaA 4 ((Zaa ts).take x)=true:=by rw [ZdW];exact ZdJ _
    have r2:ZaA 4 ((Zaa ts).drop x)=true:=by rw [Zes];exact ZdJ _
    have n1:((Zaa ts).take x).length<=8000000:=by rw [Taw,Zad];omega
    have n2:((Zaa ts).drop x).length<=8000000:=by rw [Tax,Zad];omega
    have n3:((Zaa ts).take x).length+1<=maxApp:=by unfold maxApp;omega
    have n4:((Zaa ts).take x).length+1+((Zaa ts).drop x).length<=maxApp:=by unfold maxApp;omega
    have F:=aj6 r1 r2 hxl n3 n4 tmz;refine gA 7 4 ?_ (.inl rfl) ?_
    ·show 0+_<=maxApp;unfold maxApp;omega
    clear F;refine fR (aj6 @r1 @r2 @hxl @n3 @n4 @tmz) ?_;have tkA:(Zaa ts).take ts.length=Zaa ts:=by rw [<- Zad ts,Tap]
    have n5:((Zaa ts).take x++[Zab t]).length+((Zaa ts).drop x).length<=maxApp:=by simp only [Tae,Tag,Tak];omega
    have hll:((ts.length:Int)<=(ts.length:Int))=True:=eq_true (Int.le_refl _);have F:=aj9 @r1 @r2 @hxl @n3 @n4 @n5 @hll @tkA @tmz;refine gG ?_;exact gTz [4]
 ·have q1:=lF x ts.length;have hins:=Zx2 om hf;refine fN 6 (ai @q1 @tmz) ?_;rw [hins,Zb6,Zb6,Ze9,<- ZdW,<- Zes];have hxl:((x:Int)<=(ts.length:Int))=True:=eq_true om;have r1:ZaA 4 ((Zaa ts).take x)=true:=by rw [ZdW];exact ZdJ _
  have r2:ZaA 4 ((Zaa ts).drop x)=true:=by rw [Zes];exact ZdJ _
  have n1:((Zaa ts).take x).length<=8000000:=by rw [Taw,Zad];omega
  have n2:((Zaa ts).drop x).length<=8000000:=by rw [Tax,Zad];omega
  have n3:((Zaa ts).take x).length+1<=maxApp:=by unfold maxApp;omega
  have n4:((Zaa ts).take x).length+1+((Zaa ts).drop x).length<=maxApp:=by unfold maxApp;omega
  have F:=aj6 r1 r2 hxl n3 n4 tmz;refine gA 7 4 ?_ (.inl rfl) ?_
  ·show 0+_<=maxApp;unfold maxApp;omega
  clear F;refine fR (aj6 @r1 @r2 @hxl @n3 @n4 @tmz) ?_;have tkA:(Zaa ts).take ts.length=Zaa ts:=by rw [<- Zad ts,Tap]
  have n5:((Zaa ts).take x++[Zab t]).length+((Zaa ts).drop x).length<=maxApp:=by simp only [Tae,Tag,Tak];omega
  have hll:((ts.length:Int)<=(ts.length:Int))=True:=eq_true (Int.le_refl _);have F:=aj9 @r1 @r2 @hxl @n3 @n4 @n5 @hll @tkA @tmz;refine gG ?_;exact gTz [4]
def colT (l:List Tm) (r:List Tm):List Tm:=l.foldl (fun r t=>Zbo t r) r
theorem colT_nil0 {ts:List Tm}:colT (Zbb []) ts=ts:=by simp [colT,Zbb]
theorem Zzq (a b r:List Tm):colT (a++b) r=colT b (colT a r):=by unfold colT;rw [List.foldl_append]
theorem ZnP (t:Tm):∀ l:List Tm,(Zbo t l).length<=l.length+1
 | []=>by simp [Zbo]
 | x::xs=>by
  have:=ZnP t xs;simp only [Zbo];split
  ·simp only [Tag];omega
  ·split <;> simp only [Tag] <;> omega
theorem ZkZ:∀ (l r:List Tm),(colT l r).length<=r.length+l.length
 | [],r=>by simp [colT]
 | x::xs,r=>by
  have h1:=ZkZ xs (Zbo x r);have h2:=ZnP x r;simp only [colT,List.foldl_cons,Tag] at h1 ⊢;omega
theorem Zp8 {t:Tm} (ht:okTm t):∀ {l:List Tm},Zax l->Zax (Zbo t l)
 | [],_=>by simp only [Zbo,Zax];exact ⟨ht,trivial⟩
 | x::xs,h=>by
  simp only [Zax] at h;simp only [Zbo];split
  ·simp only [Zax];exact ⟨h.1,Zp8 ht h.2⟩
  ·split
   ·simp only [Zax];exact h
   ·simp only [Zax];exact ⟨ht,h⟩
theorem ZmT:∀ {l r:List Tm},Zax l->Zax r->Zax (colT l r)
 | [],r,_,h=>h
 | x::xs,r,h1,h2=>by
  simp only [Zax] at h1;exact ZmT (l:=xs) (r:=Zbo x r) h1.2 (Zp8 h1.1 h2)
theorem Zjq:∀ {a b:List Tm},Zax a->Zax b->Zax (a++b)
 | [],_,_,h=>h
 | x::xs,b,h1,h2=>by
  simp only [Zax] at h1;simp only [Taf,Zax];exact ⟨h1.1,Zjq h1.2 h2⟩
mutual
theorem Zk0:∀ t:Tm,(Zbp t).length<=1+bulkRow (Zab t)
 | .mk op nm so args=>by
  have:=Zjr args;simp only [Zbp,Zab,bulkRow,Za6,Zad];split
  ·simp
  ·omega
theorem Zjr:∀ ts:List Tm,(Zbb ts).length<=ts.length+bulkRows (Zaa ts)
 | []=>by simp [Zbb]
 | t::ts=>by
  have h1:=Zk0 t;have h2:=Zjr ts;simp only [Zbb,Zaa,bulkRows,Tae,Tag];omega
end
theorem Zx3 {t:Tm} (h:bulkRow (Zab t)<=1048576):(Zbp t).length<=1048576:=by
 obtain ⟨op,nm,so,args⟩:=t;have:=Zjr args;simp only [Zbp,Zab,bulkRow,Za6,Zad] at h ⊢;split
 ·simp
 ·omega
theorem Zjs:∀ (l:List Tm) (t:Tm),Zbb (l++[t])=Zbb l++Zbp t
 | [],t=>by simp [Zbb]
 | x::xs,t=>by simp [Zbb,Zjs xs t]
theorem ZgQ {l:List Tm} {i:Nat} {t:Tm} (h:l[i]?=some t):Zbb (l.take (i+1))=Zbb (l.take i)++Zbp t:=by
 rw [show l.take (i+1)=l.take i++[t] by simp [List.take_add_one,h],Zjs]
theorem Zip:∀ (l:List Tm) (i:Nat),(Zbb (l.take i)).length<=(Zbb l).length
 | [],i=>by simp [Zbb]
 | x::xs,0=>by simp [Zbb]
 | x::xs,i+1=>by have:=Zip xs i;simp only [Tbc,Zbb,Tae];omega
def visL (ts args:List Tm) (i:Nat):List Tm:=ts++Zbb (args.take i)
theorem ZB8 (ts args:List Tm):visL ts args 0=ts:=by simp [visL,Zbb]
theorem Zx4 {ts args:List Tm} {i:Nat} {b:Tm} (h:args[i]?=some b):visL ts args (i+1)=visL ts args i++Zbp b:=by
 unfold visL;rw [ZgQ h,Tbf]
theorem Zzr (ts args:List Tm):visL ts args args.length=ts++Zbb args:=by unfold visL;rw [Tap]
theorem ktF:ZaQ Tryz.prog 160=some .one:=by kernel_rfl
theorem ztF:ZaS Tryz.prog 160=some 1:=by kernel_rfl
theorem otF:ZaM Tryz.prog 160=some [.lit .nilFunc]:=by kernel_rfl
theorem Zx5:Zaj (.lit .nilFunc)=true:=rfl
theorem okFn {f:FuncId} {cs:List C}:Zaj (.fn f cs)=true:=rfl
theorem Zky:Zaa []=[]:=by simp [Zaa]
theorem gTPn {X:Prop} {P:Program} {ts:List RS} {R:List D->List Bk->Prop} {σ:St} {r:List D} {pm:List Bk} (ks:List Nat) (hR:R r pm) (hx:Zlq P ts R .normal σ->X:=by first | exact fun h=>h | exact fun h=>⟨_,Wk.refl _,h⟩) (hr:resD P σ ts=some r:=by exact sfy) (hg:getM σ.m ks=some pm:=by exact sny) (hn:ks.Nodup:=by decide) (hp:pm.all pinned=true:=by exact sny):X :=
 hx ⟨r,ks,pm,hg,hn,hp,hR,Zgu hr⟩
def ptr0 (b:Nat):Value:=.pointer (some ⟨b,0,none⟩)
def RVis (bo bv:Nat) (f:FuncId) (ty:Nat) (ts:List Tm) (r:List D) (pm:List Bk):Prop:=∃ a cap,r=[]∧pm=[.var (some bo) [.lit (.slice a ts.length cap)],.buf (some (a,cap)) ty 4 (Zaa ts),.var (some bv) [.fn f [.lit (ptr0 bo),.lit (ptr0 bv)]]]
theorem Zoa (t:Tm) (ts:List Tm) (a:Option Addr) (cap bo bv:Nat) (hne:bo≠bv) (hb:bulkRow (Zab t)<=1048576) (hl:ts.length+(Zbp t).length<=4000000)
  (h:∀ x∈t.args,∀ (us:List Tm) (a:Option Addr) (cap:Nat),us.length+(Zbp x).length<=4000000->ConP e0 104 [.agg (Zab x),.one (.lit (ptr0 bo)),.one (.lit (ptr0 bv))] [.var (some bo) [.lit (.slice a us.length cap)],.buf (some (a,cap)) 39 4 (Zaa us),.var (some bv) [.fn 104 [.lit (ptr0 bo),.lit (ptr0 bv)]]] (RVis bo bv 104 39 (us++Zbp x))) :
  ConP e0 104 [.agg (Zab t),.one (.lit (ptr0 bo)),.one (.lit (ptr0 bv))] [.var (some bo) [.lit (.slice a ts.length cap)],.buf (some (a,cap)) 39 4 (Zaa ts),.var (some bv) [.fn 104 [.lit (ptr0 bo),.lit (ptr0 bv)]]] (RVis bo bv 104 39 (ts++Zbp t)):=by
 obtain ⟨op,nm,so,args⟩:=t;have hc:Zab (.mk op nm so args)=[.lit (.int .i64 op),.lit (.string nm),.lit (.int .i64 so),.sl (Zaa args)]:=by simp only [Zab]
 have hn1:(bo=bv)=False:=eq_false hne;have hn2:(bv=bo)=False:=eq_false (fun e=>hne e.symm);simp only [Tm.args] at h;simp only [Zab,bulkRow,Za6,Zad] at hb;simp only [ptr0] at h ⊢;refine gIP (ts:=[]) [1001,1000,1002] 15728943 Tryz.func104 ?_;by_cases ho:op=-1
 ·have q1:(op=-1)=True:=eq_true ho;have e1:Zbp (.mk op nm so args)=[.mk (-1) nm so []]:=by simp only [Zbp,if_pos ho]
  rw [e1] at hl ⊢;simp only [Tag,Tak,Nat.zero_add] at hl;have hm:ts.length+1<=maxApp:=by unfold maxApp;omega
  have c1:Zab (.mk (-1) nm so [])=[.lit (.int .i64 (-1)),.lit (.string nm),.lit (.int .i64 so),.sl []]:=by simp only [Zab,Zaa]
  refine fN 2 (aj3 @hc @q1 @tmz) ?_
  have hR:∀ (a2:Option Addr) (cap2:Nat),RVis bo bv 104 39 (ts++[.mk (-1) nm so []]) [] [.var (some bo) [.lit (.slice a2 (ts.length+1) cap2)],.buf (some (a2,cap2)) 39 4 (Zaa ts++[[.lit (.int .i64 (-1)),.lit (.string nm),.lit (.int .i64 so),.sl []]]),.var (some bv) [.fn 104 [.lit (.pointer (some ⟨bo,0,none⟩)),.lit (.pointer (some ⟨bv,0,none⟩))]]]:=fun a2 cap2=>⟨a2,cap2,rfl,by
   rw [show Zaa (ts++[.mk (-1) nm so []])=Zaa ts++[[.lit (.int .i64 (-1)),.lit (.string nm),.lit (.int .i64 so),.sl []]] by rw [Zbm,Tbu,<- Zbm,Tbt,List.map_nil,c1],Tae];rfl⟩
  have a1:(ts.length < ts.length+1)=True:=eq_true (Tan _);have a2:∀ Z:List C,(Zaa ts++[Z])[ts.length]?=some Z:=fun Z=>by rw [Tbq (by rw [Zad];exact Tai _),Zad,Nat.sub_self];rfl
  have a3:∀ Z X:List C,(Zaa ts++[Z]).set ts.length X=Zaa ts++[X]:=fun Z X=>by rw [List.set_append_right _ _ (by rw [Zad];exact Tai _),Zad,Nat.sub_self];rfl
  have F:=aj10 a1 a2 a3 hc q1 @ZhF hm hn1 hn2 tmz;refine ZCp 8 ?_;refine gT1 8 ?_;refine gS 17 fun a2 cap2=>?_;refine ZbK ?_;refine gT2 9 11 ?_ ?_
  ·refine ZbK ?_;refine gT2 10 11 ?_ ?_
   ·refine ZbK ?_;refine gT1 11 ?_;refine ZbK ?_;refine gT0 ?_
    (refine wkI ?_;(refine fG @tmz ?_);exact (have F:=tmz;gTP [1001,17,1002] (hR a2 cap2)))
   ·refine ZbK ?_;refine gT1 10 ?_;refine ZbK ?_;refine gT0 ?_
    (refine wkI ?_;(refine fG @tmz ?_);exact (have F:=tmz;gTP [1001,17,1002] (hR a2 cap2)))
  ·refine ZbK ?_;refine gT1 9 ?_;refine ZbK ?_;refine gT1 10 ?_;refine ZbK ?_;refine gT0 ?_
   (refine wkI ?_;(refine fG @tmz ?_);exact (have F:=tmz;gTP [1001,17,1002] (hR a2 cap2)))
 ·have q1:(op=-1)=False:=eq_false ho;have e1:Zbp (.mk op nm so args)=Zbb args:=by simp only [Zbp,if_neg ho]
  rw [e1] at hl ⊢;have hal:args.length<=1048576:=om;refine fG (aj3 @hc @q1 @tmz) ?_;have F:=@ZB8;refine gL (ι:=Nat × Option Addr × Nat) [5,22,23] [1000,1001,1002] (fun x=>[(22,.d (.one (.lit (.int .i64 (x.1:Int)))))]) (fun x=>[(1001,.var (some bo) [.lit (.slice x.2.1 (visL ts args x.1).length x.2.2)]),(1000,.buf (some (x.2.1,x.2.2)) 39 4 (Zaa (visL ts args x.1))),(1002,.var (some bv) [.fn 104 [.lit (.pointer (some ⟨bo,0,none⟩)),.lit (.pointer (some ⟨bv,0,none⟩))]])]) (fun x=>x.1<=args.length) (fun x=>args.length - x.1) ((0,a,cap)) (Taj _) (fun x hx=>?_);clear F
  obtain ⟨i,a2,cap2⟩:=x;simp only at hx;dsimp only;by_cases hlt:i < args.length
  ·obtain ⟨b,hg⟩:∃ b,args[i]?=some b:=⟨_,Taa hlt⟩;have q2:=lT i args.length;have q4:IntKind.i64.wrap ((i:Int)+1)=(i:Int)+1:=IntWalk.i64_in _ om;have hvt:=ZgQ hg;have hle:=Zip args (i+1);rw [hvt,Tae] at hle;have hcon:=h b (Tac hg) (visL ts args i) a2 cap2 (by unfold visL;rw [Tae];omega);rw [<- Zx4 hg] at hcon;refine fB (aj6 @q2 @hc @Zad @ZbL @hg @tmz) ?_;have F:=aj4 @ktF @hn1 @hn2 @tmz;refine gCP [1001,1000,1002] [1001,1000,1002] (hcon) ?_;clear F
   rintro r pm ⟨a3,cap3,rfl,rfl⟩;simp only [ptr0,setA,retA,zipM,Taf,Tah];refine fR @tmz ?_;have F:=@q4;refine gG ?_;exact ⟨(i+1,a3,cap3),hlt,gw,gw,om⟩
  ·obtain rfl:i=args.length:=by omega
   have q2:=lF args.length args.length;refine fG @q2 ?_;have hR:RVis bo bv 104 39 (ts++Zbb args) [] [.var (some bo) [.lit (.slice a2 (visL ts args args.length).length cap2)],.buf (some (a2,cap2)) 39 4 (Zaa (visL ts args args.length)),.var (some bv) [.fn 104 [.lit (.pointer (some ⟨bo,0,none⟩)),.lit (.pointer (some ⟨bv,0,none⟩))]]]:=by
    rw [<- Zzr];exact ⟨a2,cap2,rfl,rfl⟩
   exact (have F:=tmz;gTPn [1001,1000,1002] hR)
theorem Zp9 (bo bv:Nat) (hne:bo≠bv) (n:Nat):∀ (t:Tm),Zba (Zab t) < n->bulkRow (Zab t)<=1048576->∀ (ts:List Tm) (a:Option Addr) (cap:Nat),ts.length+(Zbp t).length<=4000000->ConP e0 104 [.agg (Zab t),.one (.lit (ptr0 bo)),.one (.lit (ptr0 bv))] [.var (some bo) [.lit (.slice a ts.length cap)],.buf (some (a,cap)) 39 4 (Zaa ts),.var (some bv) [.fn 104 [.lit (ptr0 bo),.lit (ptr0 bv)]]] (RVis bo bv 104 39 (ts++Zbp t)):=by
 induction n with
 | zero=>exact fun _ h=>om
 | succ n ih =>
  intro t hn hb ts a cap hl;refine Zoa t ts a cap bo bv hne hb hl fun x hx us a cap hl2=>ih x ?_ ?_ us a cap hl2
  ·obtain ⟨op,nm,so,args⟩:=t;simp only [Zab,Zba,Zdb] at hn;simp only [Tm.args] at hx;obtain ⟨i,hi⟩:=Tbk hx;have hi':(Zaa args)[i]?=some (Zab x):=by rw [ZbL,hi];rfl
   have h1:=Zb9 hi';omega
  ·obtain ⟨op,nm,so,args⟩:=t;simp only [Zab,bulkRow,Za6] at hb;simp only [Tm.args] at hx;obtain ⟨i,hi⟩:=Tbk hx;have hi':(Zaa args)[i]?=some (Zab x):=by rw [ZbL,hi];rfl
   have h1:=Zcg hi';omega
theorem Zjt (t:Tm) (hb:bulkRow (Zab t)<=1048576):Con e0 65 [.agg (Zab t)] [.one (.sl (Zaa (Zb4 t)))]:=by
 have hv:=Zx3 hb;refine gI (ts:=[.slot 2]) 31 Tryz.func65 ?_;refine fN 1 @tmz ?_;refine gB ?_;have F:=@tmz;refine gP 1 ?_;clear F;refine gO 5 39 4 ?_;refine gS 5 fun a cap=>?_;refine fR @tmz ?_;refine fN 3 (aj3 @otF @ztF @tmz) ?_;refine pV 3 fun b3 hb3=>?_;refine pV 4 fun b4 hb4=>?_;have hne:b3≠b4:=fun e=>hb4 3 b3 _ (by decide) rfl e.symm;clear hb3 hb4;have hn1:(b3=b4)=False:=eq_false hne;have hn2:(b4=b3)=False:=eq_false (fun e=>hne e.symm)
 refine fN 4 (aj7 @ktF @ztF @Zx5 @okFn @hn1 @hn2 @tmz) ?_;refine gB ?_;have hcon:=Zp9 b3 b4 hne _ t (Tan _) om [] a cap (by simp;omega);have hdis:=fun (a:Option Addr) (cap:Nat)=>Zn9 (Zbp t) om a cap;simp only [ptr0,Tak,Tah,Zky] at hcon;have F:=aj4 @ktF @hn1 @hn2 @tmz;refine gCP [3,5,4] [3,5,4] (hcon) ?_;clear F;rintro r pm ⟨a2,cap2,rfl,rfl⟩;simp only [ptr0,setA,retA,zipM,Taf,Tah];refine fR @tmz ?_
 refine fB @tmz ?_;have F:=aj3 @hn1 @hn2 @tmz;refine gCP [5] [5] (hdis a2 cap2) ?_;clear F;rintro r pm ⟨rfl,rfl⟩;simp only [setA,retA,zipM,Taf,Tah];refine fR @tmz ?_;refine pD 5 [2] [] ?_ (hs:=by exact snv);exact fD @tmz
theorem ZnQ (nm:ByteArray) (so:Int):Con e0 53 [.one (.lit (.string nm)),.one (.lit (.int .i64 so))] [.agg (Zab (.mk (-1) nm so []))]:=by
 have c1:Zab (.mk (-1) nm so [])=[.lit (.int .i64 (-1)),.lit (.string nm),.lit (.int .i64 so),.sl []]:=by simp only [Zab,Zaa]
 rw [c1];refine gI (ts:=[.cell 4 39]) 19 Tryz.func53 ?_;exact fD @e0P
theorem ZnR {e:Env} {f:FuncId} {a:D} {rows:List (List C)} {r:List D} (h:Con e f [a,.one (.sl rows)] r):Con e f [a,.clip rows] r :=
 ⟨h.1,fun w S vs h1 h2 h3 h4=>h.2 w S vs h1 h2 h3 (by
  match vs,h4 with
  | [x,y],h4=>exact ⟨h4.1,h4.2.1.1,trivial⟩)⟩
theorem Zqa {op so:Int} {nm:ByteArray} {args:List Tm} (h:okTm (.mk op nm so args)):okTm (.mk (-1) nm so []):=by
 simp only [okTm,Zax,and_true] at h ⊢;exact ⟨by unfold I64;omega,h.2.1,h.2.2.1⟩
mutual
theorem ZnS:∀ {t:Tm},okTm t->Zax (Zbp t)
 | .mk op nm so args,h=>by
  simp only [Zbp];split
  ·simp only [Zax];exact ⟨Zqa h,trivial⟩
  ·simp only [okTm] at h;exact Ziq h.2.2.2
theorem Ziq:∀ {l:List Tm},Zax l->Zax (Zbb l)
 | [],_=>by simp [Zbb,Zax]
 | x::xs,h=>by
  simp only [Zax] at h;simp only [Zbb];exact Zjq (ZnS h.1) (Ziq h.2)
end
theorem Zir:∀ {l:List Tm} (i:Nat),Zax l->Zax (l.take i)
 | [],_,_=>by simp [Zax]
 | x::xs,0,_=>by simp [Zax]
 | x::xs,i+1,h=>by
  simp only [Zax] at h;simp only [Tbc,Zax];exact ⟨h.1,Zir i h.2⟩
theorem Zk1 (t:Tm) (ts:List Tm) (ht:okTm t) (hts:Zax ts) (hb:bulkRow (Zab t)<=1048576) (hl:ts.length+(Zbp t).length<=7000000) (h:∀ x∈t.args,∀ us:List Tm,Zax us->us.length+(Zbp x).length<=7000000->Con e0 89 [.agg (Zab x),.one (.sl (Zaa us))] [.one (.sl (Zaa (colT (Zbp x) us)))]) :
  Con e0 89 [.agg (Zab t),.one (.sl (Zaa ts))] [.one (.sl (Zaa (colT (Zbp t) ts)))]:=by
 obtain ⟨op,nm,so,args⟩:=t;have hc:Zab (.mk op nm so args)=[.lit (.int .i64 op),.lit (.string nm),.lit (.int .i64 so),.sl (Zaa args)]:=by simp only [Zab]
 simp only [Tm.args] at h;simp only [Zab,bulkRow,Za6,Zad] at hb;refine gI (ts:=[.slot 4]) 1048887 Tryz.func89 ?_;by_cases ho:op=-1
 ·have q1:(op=-1)=True:=eq_true ho;have e1:Zbp (.mk op nm so args)=[.mk (-1) nm so []]:=by simp only [Zbp,if_pos ho]
  rw [e1] at hl ⊢;simp only [Tag,Tak,Nat.zero_add] at hl;have hI:=Zp7 ts (.mk (-1) nm so []) hts (Zqa ht) om;refine fB (aj3 @hc @q1 @tmz) ?_;refine fC @hc (ZnQ nm so) ?_;refine fC @hc (hI) ?_;refine fR @hc ?_;simp only [colT,List.foldl_cons,List.foldl_nil];exact fD @tmz
 ·have q1:(op=-1)=False:=eq_false ho;have e1:Zbp (.mk op nm so args)=Zbb args:=by simp only [Zbp,if_neg ho]
  rw [e1] at hl ⊢;have hk:Zax args:=by simp only [okTm] at ht;exact ht.2.2.2
  refine fG (aj3 @hc @q1 @tmz) ?_;have F:=ai ((fun (r:List Tm)=>(colT_nil0:colT (Zbb []) r=r))) @tmz;refine gL (ι:=Nat) [1,5,20] [] (fun x=>[(5,.d (.one (.lit (.int .i64 (x:Int))))),(1,.d (.one (.sl (Zaa (colT (Zbb (args.take x)) ts)))))]) (fun x=>[]) (fun x=>x<=args.length) (fun x=>args.length - x) (0) (Taj _) (fun x hx=>?_);clear F;by_cases hlt:x < args.length
  ·obtain ⟨b,hg⟩:∃ b,args[x]?=some b:=⟨_,Taa hlt⟩;have q2:=lT x args.length;have q4:IntKind.i64.wrap ((x:Int)+1)=(x:Int)+1:=IntWalk.i64_in _ om;have hvt:=ZgQ hg;have hle:=Zip args (x+1);rw [hvt,Tae] at hle;have hcl:=ZkZ (Zbb (args.take x)) ts;have hcon:=h b (Tac hg) (colT (Zbb (args.take x)) ts) (ZmT (Ziq (Zir x hk)) hts) om;rw [<- Zzq,<- hvt] at hcon;refine fB (aj3 @q2 @hc @tmz) ?_;refine fC (aj4 @q2 @hc @hg @tmz) (hcon) ?_
   refine fR @tmz ?_;have F:=@q4;refine gG ?_;exact ⟨x+1,hlt,gw,gw,om⟩
  ·obtain rfl:x=args.length:=by omega
   have q2:=lF args.length args.length;rw [Tap];exact fD (aj3 @q2 @hc @tmz)
theorem Zmd (n:Nat):∀ t:Tm,Zba (Zab t) < n->okTm t->bulkRow (Zab t)<=1048576->∀ ts:List Tm,Zax ts->ts.length+(Zbp t).length<=7000000->Con e0 89 [.agg (Zab t),.one (.sl (Zaa ts))] [.one (.sl (Zaa (colT (Zbp t) ts)))]:=by
 induction n with
 | zero=>exact fun _ h=>om
 | succ n ih =>
  intro t hn ht hb ts hts hl;refine Zk1 t ts ht hts hb hl fun x hx us hus hl2=>?_;obtain ⟨op,nm,so,args⟩:=t;simp only [Zab,Zba,Zdb] at hn;simp only [Zab,bulkRow,Za6] at hb;simp only [okTm] at ht;simp only [Tm.args] at hx;obtain ⟨i,hi⟩:=Tbk hx;have hi':(Zaa args)[i]?=some (Zab x):=by rw [ZbL,hi];rfl
  have h1:=Zb9 hi';have h2:=Zcg hi';exact ih x om (ht.2.2.2.mem hx) om us hus hl2
theorem Zju {t:Tm} (ht:okTm t) (hb:bulkRow (Zab t)<=1048576):Con e0 49 [.agg (Zab t)] [.one (.sl (Zaa (Zb4 t)))]:=by
 have hv:=Zk0 t;have hcon:=Zmd _ t (Tan _) ht hb [] trivial (by simp;omega);have hcon:=ZnR (by rw [Zky] at hcon;exact hcon);rw [show colT (Zbp t) []=Zb4 t from rfl] at hcon;refine gI (ts:=[.slot 2]) 7 Tryz.func49 ?_;refine fB @tmz ?_;refine fC @tmz (hcon) ?_;refine fR @tmz ?_;exact fD @tmz
theorem Zt3 {l:List Tm} (h:Zax l):Zax (Zdi l):=ZmT (r:=[]) h trivial
theorem Zme {t:Tm} (h:okTm t):Zax (Zb4 t):=Zt3 (ZnS h)
theorem Zzs (l:List Tm):(Zdi l).length<=l.length:=by have:=ZkZ l [];simpa [colT,Zdi] using this
theorem Zga (t:Tm):(Zb4 t).length<=1+bulkRow (Zab t):=Tbe (Zzs _) (Zk0 t)
theorem Zoc {vs:List Tm} {p:Tm->Bool} {i:Nat} {a:Tm} (h:vs[i]?=some a):(vs.take (i+1)).any p=((vs.take i).any p || p a):=by
 rw [List.take_add_one,h];simp
theorem Zod {vs:List Tm} {p:Tm->Bool} {i:Nat} {a:Tm} (h:vs[i]?=some a):(vs.take (i+1)).all p=((vs.take i).all p && p a):=by
 rw [List.take_add_one,h];simp
theorem Zgb {α:Type} {vs:List α} {p:α->Bool} {i:Nat} {a:α} (h:vs[i]?=some a):(vs.take (i+1)).all p=((vs.take i).all p && p a):=by
 rw [List.take_add_one,h];simp
theorem Zeb {α:Type} {vs:List α} {p:α->Bool} {a:α} (h:a∈vs) (hp:p a=false):vs.all p=false:=by
 rw [List.all_eq_false];exact ⟨a,h,by simp [hp]⟩
structure Eqn where
 l:Tm
 r:Tm
 cs:List (Tm × Tm)
def Zb5 (c:Tm × Tm):List C:=Zab c.1++Zab c.2
def ZaE (e:Eqn):List C:=Zab e.l++(Zab e.r++[.sl (e.cs.map Zb5)])
def ZoE (c:Tm × Tm):Prop:=okTm c.1∧okTm c.2
def Zj3 (e:Eqn):Prop:=okTm e.l∧okTm e.r∧∀ c∈e.cs,ZoE c
theorem ZB9 {row:List C} (h:Zal (Zaf .cond) row):∃ c,row=Zb5 c∧ZoE c:=by
 obtain ⟨i0,t1,i2,r3,i4,t5,i6,r7,rfl,g0,g1,g2,g3,g4,g5,g6,g7⟩:=ZcN h;obtain ⟨a,rfl,ha⟩:=ZlC g3;obtain ⟨a',rfl,ha'⟩:=ZlC g7;refine ⟨(.mk i0 t1 i2 a,.mk i4 t5 i6 a'),by simp [Zb5,Zab],?_⟩;simp only [ZoE,okTm];exact ⟨⟨g0,g1,g2,ha⟩,g4,g5,g6,ha'⟩
theorem Zs0:∀ {rows:List (List C)},Zam (Zaf .cond) rows->∃ cs:List (Tm × Tm),rows=cs.map Zb5∧∀ c∈cs,ZoE c
 | [],_=>⟨[],rfl,by simp⟩
 | r::rs,h=>by
  simp only [Zam] at h;obtain ⟨c,rfl,hc⟩:=ZB9 h.1;obtain ⟨cs,rfl,hcs⟩:=Zs0 h.2;exact ⟨c::cs,rfl,by intro x hx;rcases Tbg.1 hx with rfl | hx;exact hc;exact hcs x hx⟩
theorem ZCa {row:List C} (h:Zal (Zaf .eqn) row):∃ e,row=ZaE e∧Zj3 e:=by
 obtain ⟨i0,t1,i2,r3,i4,t5,i6,r7,r8,rfl,g0,g1,g2,g3,g4,g5,g6,g7,g8⟩:=Zc4 h;obtain ⟨a,rfl,ha⟩:=ZlC g3;obtain ⟨a',rfl,ha'⟩:=ZlC g7;obtain ⟨cs,rfl,hcs⟩:=Zs0 g8;refine ⟨⟨.mk i0 t1 i2 a,.mk i4 t5 i6 a',cs⟩,by simp [ZaE,Zab],?_,?_,hcs⟩
 ·simp only [okTm];exact ⟨g0,g1,g2,ha⟩
 ·simp only [okTm];exact ⟨g4,g5,g6,ha'⟩
theorem tm4 (t:Tm):∃ a b c d,Zab t=[a,b,c,d]:=by
 obtain ⟨op,nm,so,args⟩:=t;simp only [Zab];exact ⟨_,_,_,_,rfl⟩
theorem ZeU (t:Tm) (l:List C):(Zab t++l).take 4=Zab t:=by obtain ⟨a,b,c,d,h⟩:=tm4 t;rw [h];rfl
theorem Zfl (t:Tm) (l:List C):(Zab t++l).drop 4=l:=by obtain ⟨a,b,c,d,h⟩:=tm4 t;rw [h];rfl
theorem Zqb (e:Eqn):(ZaE e).take 4=Zab e.l:=ZeU _ _
theorem Zk3 (e:Eqn):(ZaE e).drop 4=Zab e.r++[.sl (e.cs.map Zb5)]:=Zfl _ _
theorem Zqc (e:Eqn):(ZaE e).drop 8=[.sl (e.cs.map Zb5)]:=by
 rw [show (8:Nat)=4+4 from rfl,<- List.drop_drop,Zk3,Zfl]
theorem ZhG (e:Eqn):(ZaE e).length=9:=by simp [ZaE,(tmz.2.2.2.2.1:∀ t,(Zab t).length=4)]
theorem Zk4 (e:Eqn):(ZaE e).take 9=ZaE e:=List.take_of_length_le (by rw [ZhG];exact Tai _)
theorem Zk5 (e:Eqn):(ZaE e).drop 9=[]:=List.drop_of_length_le (by rw [ZhG];exact Tai _)
theorem Zt4 (e:Eqn):(ZaE e).all Zaj=true:=by
 simp only [ZaE,List.all_append,(tmz.2.2.2.2.2.2.2.1:∀ t,(Zab t).all Zaj=true),Bool.true_and];rfl
theorem ZA1 (e:Eqn):valT TK.one (ZaE e)=some (A.d (.one (.lit (.int .i64 e.l.op)))):=by
 obtain ⟨⟨op,nm,so,args⟩,r,cs⟩:=e;simp [ZaE,Zab,valT,Tm.op]
theorem Zjv (c:Tm × Tm):(Zb5 c).length=8:=by simp [Zb5,(tmz.2.2.2.2.1:∀ t,(Zab t).length=4)]
theorem Zqd (c:Tm × Tm):(Zb5 c).take 4=Zab c.1:=ZeU _ _
theorem Zqe (c:Tm × Tm):(Zb5 c).drop 4=Zab c.2:=Zfl _ _
theorem Zqf (c:Tm × Tm):(Zb5 c).take 8=Zb5 c:=List.take_of_length_le (by rw [Zjv];exact Tai _)
theorem Zqg (c:Tm × Tm):(Zb5 c).drop 8=[]:=List.drop_of_length_le (by rw [Zjv];exact Tai _)
theorem Zt5 (c:Tm × Tm):(Zb5 c).all Zaj=true:=by
 simp only [Zb5,List.all_append,(tmz.2.2.2.2.2.2.2.1:∀ t,(Zab t).all Zaj=true),Bool.true_and]
theorem Zs1 (cs:List (Tm × Tm)):ZaA 8 (cs.map Zb5)=true:=by
 induction cs with
 | nil=>rfl
 | cons c cs ih=>simp only [Tbt,ZhV,Zjv,ih];simp [Zt5]
theorem eqz:type_of% (aj15 Zqb Zk3 Zqc ZhG Zk4 Zk5 Zt4 ZA1 Zjv Zqd Zqe Zqf Zqg Zt5 (aj3 Zs1 ZeU Zfl)):=aj15 Zqb Zk3 Zqc ZhG Zk4 Zk5 Zt4 ZA1 Zjv Zqd Zqe Zqf Zqg Zt5 (aj3 Zs1 ZeU Zfl)
noncomputable def ZbA (g:Sgn) (l r:Tm):Bool:=Zb3 g l && (Zb3 g r && decide (ZaO g l=ZaO g r))
def hasB (vs:List Tm) (v:Tm):Bool:=vs.any fun a=>decide (Zah v a=0)
def ZdO (vs:List Tm) (t:Tm):Bool:=(Zb4 t).all (hasB vs)
noncomputable def cndB (g:Sgn) (vs:List Tm) (c:Tm × Tm):Bool:=ZbA g c.1 c.2 && (ZdO vs c.1 && ZdO vs c.2)
noncomputable def eqnB (g:Sgn) (e:Eqn):Bool:=ZbA g e.l e.r && (!decide (e.l.op=-1) && (decide (e.cs.length<=2) && (decide ((Zb4 e.l).length<=5) && (ZdO (Zb4 e.l) e.r && e.cs.all (cndB g (Zb4 e.l))))))
noncomputable def ZcO (g:Sgn) (e:Eqn):Bool:=ZcX g && eqnB g e
theorem Zq8 {s:ByteArray} (h:ZaG s=true):s.size<=12:=by
 simp only [ZaG,Tar,decide_eq_true_eq] at h;exact h.1.1.1.2
mutual
theorem Zg9 {g:Sgn}:∀ {t:Tm},ZaI g t->bulkRow (Zab t)+1<=14 * sizeTm t
 | .mk op nm so args,h=>by
  simp only [ZaI] at h;obtain ⟨hn,ha,_⟩:=h;have h1:=Zmf ha;have h2:nm.size<=12:=by
   rcases hn with hn | ⟨o,d,hn⟩
   ·exact Zq8 hn.2.1
   ·have:=hn.nm;simp only [Tm.name] at this;rw [this];exact Taj _
  simp only [Zab,bulkRow,Za6,sizeTm];omega
theorem Zmf {g:Sgn}:∀ {ts:List Tm},Zda g ts->(Zaa ts).length+bulkRows (Zaa ts)<=14 * sizeTms ts
 | [],_=>by simp [Zaa,bulkRows]
 | t::ts,h=>by
  simp only [Zda] at h;have h1:=Zg9 h.1;have h2:=Zmf h.2;simp only [Zaa,bulkRows,Tag,sizeTms];omega
end
theorem Zjw {g:Sgn} {t:Tm} (h:Zb3 g t=true):bulkRow (Zab t)<=1048576:=by
 have:=Zg9 (Zeh.1 h).form;have:=(Zeh.1 h).size;omega
theorem Zkz {g:Sgn} (hokg:Zdt g) (hg:SgnOk g) {l r:Tm} (hl:okTm l) (hr:okTm r) (hbl:bulkRow (Zab l)<=1048576) (hbr:bulkRow (Zab r)<=1048576):Con e0 48 [.agg (ZaN g),.agg (Zab l),.agg (Zab r)] [.one (.lit (.bool (ZbA g l r)))]:=by
 have b1:=Zhn hbl;have b2:=Zhn hbr;have cF1:=ZlY hokg hg hl b1;have cF2:=ZlY hokg hg hr b2;have cK1:=fun h=>Zf6 hokg hg (t:=l) h;have cK2:=fun h=>Zf6 hokg hg (t:=r) h;rw [ZaN] at cF1 cF2 cK1 cK2;refine gI 127 Tryz.func48 ?_;refine fB (ai @tmz @Zay) ?_;refine fC @tmz (Zhj b1) ?_;by_cases h1:sizeTm l<=60∧depthTm l<=20;rotate_left
 ·have hf:ZbA g l r=false:=by rw [ZbA,ZgD fun h=>h1 ⟨h.size,h.depth⟩];rfl
  have h1':decide (sizeTm l<=60∧depthTm l<=20)=false:=by simp only [decide_eq_false_iff_not];exact h1
  refine fR (ai @tmz @h1') ?_;exact fT @hf
 have h1':decide (sizeTm l<=60∧depthTm l<=20)=true:=by simp only [decide_eq_true_eq];exact h1
 refine fC (ai @tmz @h1') (cF1) ?_;have e1:=Zhg (g:=g) h1.1 h1.2
 cases hF1:ZbM g l with
 | false =>
  have hf:ZbA g l r=false:=by rw [ZbA,<- e1,hF1];rfl
  refine fR (ai @tmz @h1') ?_;exact fT @hf
 | true =>
  refine fC (ai @tmz @h1') (Zhj b2) ?_;by_cases h2:sizeTm r<=60∧depthTm r<=20;rotate_left
  ·have hf:ZbA g l r=false:=by rw [ZbA,ZgD (t:=r) fun h=>h2 ⟨h.size,h.depth⟩];simp
   have h2':decide (sizeTm r<=60∧depthTm r<=20)=false:=by simp only [decide_eq_false_iff_not];exact h2
   refine fR (aj3 @tmz @h1' @h2') ?_;exact fT @hf
  have h2':decide (sizeTm r<=60∧depthTm r<=20)=true:=by simp only [decide_eq_true_eq];exact h2
  refine fC (aj3 @tmz @h1' @h2') (cF2) ?_;have e2:=Zhg (g:=g) h2.1 h2.2
  cases hF2:ZbM g r with
  | false =>
   have hf:ZbA g l r=false:=by rw [ZbA,<- e2,hF2];simp
   refine fR (aj3 @tmz @h1' @h2') ?_;exact fT @hf
  | true =>
   have ef:ZbA g l r=decide (ZaO g l=ZaO g r):=by rw [ZbA,<- e1,<- e2,hF1,hF2];rfl
   refine fC (aj3 @tmz @h1' @h2') (cK1 (Zf5.1 hF1).node) ?_;refine fC (aj3 @tmz @h1' @h2') (cK2 (Zf5.1 hF2).node) ?_;refine fR (aj3 @tmz @h1' @h2') ?_;exact fT @ef
theorem any_nil0 {p:Tm->Bool}:([]:List Tm).any p=false:=rfl
theorem ZfQ {t:Tm} {vs:List Tm} (ht:okTm t) (hvs:Zax vs) (hb:bulkRow (Zab t)<=1048576) (hl:vs.length<=8000000):Con e0 50 [.agg (Zab t),.one (.sl (Zaa vs))] [.one (.lit (.bool (ZdO vs t)))]:=by
 have hok:=Zme ht;have hle:=Zga t;have cV:=Zju ht hb;have eW:ZdO vs t=(Zb4 t).all (hasB vs):=rfl;rw [eW];clear eW;generalize Zb4 t=us at hok hle cV ⊢;refine gI 68720542199 Tryz.func50 ?_;refine fB @tmz ?_;refine fC @tmz (cV) ?_;refine fR @tmz ?_;refine fG @tmz ?_;have F:=@e0P;refine gL (ι:=Nat) [4,6,7,8,14,20,36] [] (fun x=>[(6,A.d (.one (.lit (.int .i64 x))))]) (fun x=>[]) (fun x=>x<=us.length∧(us.take x).all (hasB vs)=true) (fun x=>us.length - x) (0) (⟨Taj _,rfl⟩) (fun x hx=>?_);clear F
 obtain ⟨hxl,hall⟩:=hx;by_cases hlt:x < us.length;rotate_left
 ·have q1:¬ ((x:Int) < (us.length:Int)):=om;obtain rfl:x=us.length:=by omega
  rw [Tap] at hall;exact fT (aj3 @tmz @q1 @hall)
 have q1:(x:Int) < (us.length:Int):=om;obtain ⟨v,hv⟩:∃ a,us[x]?=some a:=⟨_,Taa hlt⟩;have hvo:=hok.mem (Tac hv);have hw1:=Zau (k:=x) om;refine fG (ai @tmz @q1) ?_;have F:=((fun (p:Tm->Bool)=>(any_nil0:([]:List Tm).any p=false)));refine gL (ι:=Nat) [7,8,20] [] (fun y=>[(7,.d (.one (.lit (.bool ((vs.take y).any fun a=>decide (Zah v a=0)))))),(8,A.d (.one (.lit (.int .i64 y))))]) (fun y=>[]) (fun y=>y<=vs.length) (fun y=>vs.length - y) (0) (Taj _) (fun y hy=>?_);clear F
 by_cases hlt2:y < vs.length;rotate_left
 ·have q2:¬ ((y:Int) < (vs.length:Int)):=om;obtain rfl:y=vs.length:=by omega
  rw [Tap]
  cases hh:hasB vs v with
  | true =>
   have e:(vs.any fun a=>decide (Zah v a=0))=true:=hh;have hq:x+1<=us.length∧(us.take (x+1)).all (hasB vs)=true:=⟨hlt,by rw [Zod hv,hall,hh];rfl⟩;have F:=aj5 @tmz @q1 @q2 @e @hw1;refine gG ?_;exact ⟨x+1,hq,gw,gw,om⟩
  | false =>
   have e:(vs.any fun a=>decide (Zah v a=0))=false:=hh;have hf:us.all (hasB vs)=false:=Zeb (Tac hv) hh;exact fT (aj5 @tmz @q1 @q2 @e @hf)
 have q2:(y:Int) < (vs.length:Int):=om;obtain ⟨a,ha⟩:∃ a,vs[y]?=some a:=⟨_,Taa hlt2⟩;have hao:=hvs.mem (Tac ha);have hw2:=Zau (k:=y) om;have hst:=Zoc (p:=fun a=>decide (Zah v a=0)) ha
 cases hc:(vs.take y).any fun a=>decide (Zah v a=0) with
 | true =>
  rw [hc,Bool.true_or] at hst;refine fG (aj3 @tmz @q1 @q2) ?_;have F:=aj4 @tmz @q2 @hst @hw2;refine gG ?_;exact ⟨y+1,hlt2,gw,gw,om⟩
 | false =>
  rw [hc,Bool.false_or] at hst;refine fB (aj3 @tmz @q1 @q2) ?_;refine fC (aj5 @tmz @q1 @q2 @hv @ha) (Zei hvo hao) ?_;refine fR (aj3 @tmz @q1 @q2) ?_;have F:=aj4 @tmz @q2 @hst @hw2;refine gG ?_;exact ⟨y+1,hlt2,gw,gw,om⟩
theorem Zqh (e:Eqn):bulkRow (ZaE e)=bulkRow (Zab e.l)+(bulkRow (Zab e.r)+(e.cs.length+bulkRows (e.cs.map Zb5))):=by
 rw [ZaE,ZgL,ZgL];simp [bulkRow,Za6]
theorem Zqi {cs:List (Tm × Tm)} {c:Tm × Tm} (h:c∈cs):bulkRow (Zab c.1)+bulkRow (Zab c.2)<=bulkRows (cs.map Zb5):=by
 obtain ⟨i,hi⟩:=Tbk h;have:(cs.map Zb5)[i]?=some (Zb5 c):=by rw [Tba,hi];rfl
 have:=Zcg this;rw [Zb5,ZgL] at this;exact this
theorem Zq9 {g:Sgn} {e:Eqn} (hokg:Zdt g) (he:Zj3 e) (hb:bulkRow (ZaE e)<=1048576):Con e0 19 [.agg (ZaN g),.agg (ZaE e)] [.one (.lit (.bool (ZcO g e)))]:=by
 rw [Zqh] at hb;obtain ⟨hol,hor,hoc⟩:=he;have cS:=ZqT hokg;rw [ZaN] at cS;refine gI 151115728032372933787903 Tryz.func19 ?_;refine fB (aj3 @tmz @eqz @Zay) ?_;refine fC (aj3 @tmz @eqz @Zay) (cS) ?_;by_cases hs:ZcX g=true;rotate_left
 ·have hs':ZcX g=false:=by simpa using hs
  have hf:ZcO g e=false:=by simp [ZcO,hs']
  refine fR (aj4 @tmz @eqz @Zay @hs') ?_;exact fT @hf
 have hg:=Znl.1 hs;have ei:ZcO g e=eqnB g e:=by simp [ZcO,hs]
 rw [ei];have cP:=Zkz hokg hg hol hor om om;rw [ZaN] at cP;refine fC (aj4 @tmz @eqz @Zay @hs) (cP) ?_
 cases hP:ZbA g e.l e.r with
 | false =>
  have hf:eqnB g e=false:=by simp [eqnB,hP]
  refine fR (aj4 @tmz @eqz @Zay @hs) ?_;exact fT @hf
 | true =>
  by_cases h1:e.l.op=-1
  ·have hf:eqnB g e=false:=by simp [eqnB,h1]
   refine fR (aj5 @tmz @eqz @Zay @hs @h1) ?_;exact fT @hf
  have h1':(e.l.op=-1)=False:=eq_false h1;by_cases h2:e.cs.length<=2;rotate_left
  ·have hf:eqnB g e=false:=by simp [eqnB,h2]
   have h2':(2:Int) < (e.cs.length:Int):=om;refine fR (aj6 @tmz @eqz @Zay @hs @h1' @h2') ?_;exact fT @hf
  have h2':¬ ((2:Int) < (e.cs.length:Int)):=om;have cV:=Zju hol om;have hvo:=Zme hol;have hvl:=Zga e.l;have cWr:=ZfQ hor hvo om om;refine fR (aj6 @tmz @eqz @Zay @hs @h1' @h2') ?_;refine fB (aj3 @tmz @eqz @Zay) ?_;refine fC (aj3 @tmz @eqz @Zay) (cV) ?_;refine fR (aj3 @tmz @eqz @Zay) ?_;by_cases h3:(Zb4 e.l).length<=5;rotate_left
  ·have hf:eqnB g e=false:=by simp [eqnB,h3]
   have h3':(5:Int) < ((Zb4 e.l).length:Int):=om;exact fT (aj5 @tmz @eqz @Zay @h3' @hf)
  have h3':¬ ((5:Int) < ((Zb4 e.l).length:Int)):=om;refine fB (aj4 @tmz @eqz @Zay @h3') ?_;refine fC (aj4 @tmz @eqz @Zay @h3') (cWr) ?_
  cases hW:ZdO (Zb4 e.l) e.r with
  | false =>
   have hf:eqnB g e=false:=by simp [eqnB,hW]
   refine fR (aj4 @tmz @eqz @Zay @h3') ?_;exact fT @hf
  | true =>
   have ea:eqnB g e=e.cs.all (cndB g (Zb4 e.l)):=by simp [eqnB,hP,h1,h2,h3,hW]
   rw [ea];refine fR (aj4 @tmz @eqz @Zay @h3') ?_;refine fG (aj3 @tmz @eqz @Zay) ?_;generalize Zb4 e.l=vs at *;have F:=@e0P;refine gL (ι:=Nat) [4,6,7,49,77] [] (fun x=>[(6,A.d (.one (.lit (.int .i64 x))))]) (fun x=>[]) (fun x=>x<=e.cs.length∧(e.cs.take x).all (cndB g vs)=true) (fun x=>e.cs.length - x) (0) (⟨Taj _,rfl⟩) (fun x hx=>?_);clear F;obtain ⟨hxl,hall⟩:=hx;by_cases hlt:x < e.cs.length;rotate_left
   ·have q1:¬ ((x:Int) < (e.cs.length:Int)):=om;obtain rfl:x=e.cs.length:=by omega
    rw [Tap] at hall;exact fT (aj5 @tmz @eqz @Zay @q1 @hall)
   have q1:(x:Int) < (e.cs.length:Int):=om;obtain ⟨c,hc⟩:∃ a,e.cs[x]?=some a:=⟨_,Taa hlt⟩;have hm:=Tac hc;have hco:=hoc c hm;have hcb:=Zqi hm;have hw1:=Zau (k:=x) om;have cPc:=Zkz hokg hg hco.1 hco.2 om om;rw [ZaN] at cPc;have cW1:=ZfQ hco.1 hvo om om;have cW2:=ZfQ hco.2 hvo om om;refine fB (aj5 @tmz @eqz @Zay @q1 @hc) ?_;refine fC (aj4 @tmz @eqz @Zay @hc) (cPc) ?_
   cases hPc:ZbA g c.1 c.2 with
   | false =>
    have hf:e.cs.all (cndB g vs)=false:=Zeb hm (by simp [cndB,hPc]);refine fR (aj3 @tmz @eqz @Zay) ?_;exact fT @hf
   | true =>
    refine fC (aj4 @tmz @eqz @Zay @hc) (cW1) ?_
    cases hW1:ZdO vs c.1 with
    | false =>
     have hf:e.cs.all (cndB g vs)=false:=Zeb hm (by simp [cndB,hW1]);refine fR (aj3 @tmz @eqz @Zay) ?_;exact fT @hf
    | true =>
     refine fC (aj4 @tmz @eqz @Zay @hc) (cW2) ?_
     cases hW2:ZdO vs c.2 with
     | false =>
      have hf:e.cs.all (cndB g vs)=false:=Zeb hm (by simp [cndB,hW2]);refine fR (aj3 @tmz @eqz @Zay) ?_;exact fT @hf
     | true =>
      have hq:x+1<=e.cs.length∧(e.cs.take (x+1)).all (cndB g vs)=true:=⟨hlt,by rw [Zgb hc,hall];simp [cndB,hPc,hW1,hW2]⟩;refine fR (aj3 @tmz @eqz @Zay) ?_;have F:=aj4 @tmz @eqz @Zay @hw1;refine gG ?_;exact ⟨x+1,hq,gw,gw,om⟩
theorem Zqj (t a:Tm):Con e0 107 [.agg (Zab a),.one (.ptr (Zab t))] [.one (.lit (.bool (decide (Zah t a=0))))]:=by
 refine gI 15 Tryz.func107 ?_;refine fB @tmz ?_;refine fC @tmz (ZgE t a) ?_;refine fR @tmz ?_;exact fT @tmz
theorem Zra (ts:List Tm) (t:Tm) (hl:ts.length<=big):Con e0 66 [.one (.sl (Zaa ts)),.agg (Zab t)] [.one (.lit (.bool (hasB ts t)))]:=by
 have c:=Zk2 (ts:=ts) (f:=107) (caps:=[.ptr (Zab t)]) (P:=fun a=>decide (Zah t a=0)) hl fun a _=>Zqj t a;have eh:hasB ts t=ts.any fun a=>decide (Zah t a=0):=rfl;rw [eh];refine gI 27 Tryz.func66 ?_;refine fB @tmz ?_;refine fC @tmz (c) ?_;refine fR @tmz ?_;exact fT @tmz
mutual
theorem Zs2:∀ {t:Tm} {l:List Tm},okTm t->Zax l->Zax (ordT t l)
 | .mk op nm so args,l,h,hl=>by
  simp only [ordT];split
  ·split
   ·exact hl
   ·exact Zjq hl (by simp only [Zax,and_true];exact h)
  ·simp only [okTm] at h;exact Zk6 h.2.2.2 hl
theorem Zk6:∀ {ts l:List Tm},Zax ts->Zax l->Zax (ZbJ ts l)
 | [],l,_,hl=>by simpa only [ZbJ] using hl
 | t::ts,l,h,hl=>by
  simp only [Zax] at h;simp only [ZbJ];exact Zk6 h.2 (Zs2 h.1 hl)
end
theorem Zt6 {ts:List Tm} {i:Nat} {t:Tm} (h:ts[i]?=some t) (l:List Tm):ZbJ (ts.take (i+1)) l=ordT t (ZbJ (ts.take i) l):=by
 rw [show ts.take (i+1)=ts.take i++[t] by simp [List.take_add_one,h],Zik]
theorem Zt7 {ts:List Tm} {i:Nat} {t:Tm} (h:ts[i]?=some t):sizeTms (ts.take i)+sizeTm t<=sizeTms ts:=by
 have h1:ts=ts.take i++t::ts.drop (i+1):=by
  obtain ⟨hi,rfl⟩:=Tad.1 h;rw [<- List.drop_eq_getElem_cons hi,Tbm]
 conv=>rhs;rw [h1,Zfy]
 simp only [sizeTms];omega
theorem Zzt {l:List Tm} {t x:Tm} {i:Nat} (hx:l[i]?=some x) (h:Zah x t=0):hasV l t=true:=by
 rw [hasV,List.any_eq_true];exact ⟨x,Tac hx,decide_eq_true h⟩
theorem Zx6 {l:List Tm} {t x:Tm} {i:Nat} (hx:l[i]?=some x) (h:¬ Zah x t=0) (h0:hasV (l.take i) t=false):hasV (l.take (i+1)) t=false:=by
 rw [show l.take (i+1)=l.take i++[x] by simp [List.take_add_one,hx]];unfold hasV at h0 ⊢;rw [List.any_append,h0];simp [h]
theorem Zmg (t:Tm) (ht:okTm t) (l:List Tm) (hl:Zax l) (hn:l.length+sizeTm t<=1000000)
  (h:∀ x∈t.args,∀ m:List Tm,Zax m->m.length+sizeTm x<=1000000->Con e0 51 [.agg (Zab x),.one (.sl (Zaa m))] [.one (.sl (Zaa (ordT x m)))]):Con e0 51 [.agg (Zab t),.one (.sl (Zaa l))] [.one (.sl (Zaa (ordT t l)))]:=by
 have hs0:=Za3 t;obtain ⟨op,nm,so,args⟩:=t;have hc:Zab (.mk op nm so args)=[.lit (.int .i64 op),.lit (.string nm),.lit (.int .i64 so),.sl (Zaa args)]:=by simp only [Zab]
 simp only [Tm.args] at h hs0;refine gI (ts:=[.slot 4]) 8592040567 Tryz.func51 ?_;by_cases hop:op=-1
 ·have q1:(op=-1)=True:=eq_true hop;have e1:ordT (.mk op nm so args) l=if hasV l (.mk op nm so args) then l else l++[.mk op nm so args]:=by simp only [ordT,if_pos hop]
  rw [e1];refine fG (aj3 @hc @q1 @tmz) ?_;have F:=@tmz;refine gL (ι:=Nat) [4,5,13,21] [] (fun i=>[(5,A.d (.one (.lit (.int .i64 i))))]) (fun i=>[]) (fun i=>i<=l.length∧hasV (l.take i) (.mk op nm so args)=false) (fun i=>l.length - i) (0) (⟨Taj _,rfl⟩) (fun i hi=>?_);clear F;obtain ⟨hi,hno⟩:=hi;by_cases hlt:i < l.length;rotate_left
  ·obtain rfl:i=l.length:=by omega
   have q2:=lF l.length l.length;rw [Tap] at hno;rw [hno,if_neg (by decide)];refine fN 7 (ai @q2 @tmz) ?_;have r1:ZaA 4 (Zaa l)=true:=ZdJ _;have n3:l.length+1<=maxApp:=by unfold maxApp;omega
   have e2:Zaa (l++[Tm.mk op nm so args])=Zaa l++[[.lit (.int .i64 op),.lit (.string nm),.lit (.int .i64 so),.sl (Zaa args)]]:=by rw [Zb6,Ze9,hc]
   rw [e2];have F:=aj4 r1 n3 hc tmz;refine gA 5 2 ?_ (.inl rfl) ?_
   ·show 0+_<=maxApp;rw [Zad];unfold maxApp;omega
   clear F;refine fR (aj4 @r1 @n3 @hc @tmz) ?_;have F:=aj4 @r1 @n3 @hc @tmz;refine gG ?_;exact gTz [4]
  obtain ⟨x,hx⟩:∃ x,l[i]?=some x:=⟨_,Taa hlt⟩;have q2:=lT i l.length;have q4:=Zau (k:=i) om;have cS:=Zei (hl.mem (Tac hx)) ht;rw [hc] at cS;refine fB (ai @q2 @tmz) ?_;refine fC (aj4 @q2 @hx @hc @tmz) (cS) ?_;by_cases h0:Zah x (.mk op nm so args)=0
  ·have q3:decide (Zah x (.mk op nm so args)=0)=true:=decide_eq_true h0;rw [Zzt hx h0,if_pos rfl];refine fR (ai @q3 @tmz) ?_;exact fD (ai @q3 @tmz)
  ·have q3:decide (Zah x (.mk op nm so args)=0)=false:=decide_eq_false h0;have hs:=Zx6 hx h0 hno;refine fR (ai @q3 @tmz) ?_;have F:=ai @q3 @q4;refine gG ?_;exact ⟨i+1,⟨hlt,hs⟩,gw,gw,om⟩
 ·have q1:(op=-1)=False:=eq_false hop;have e1:ordT (.mk op nm so args) l=ZbJ args l:=by simp only [ordT,if_neg hop]
  have hka:Zax args:=by simp only [okTm] at ht;exact ht.2.2.2
  rw [e1];have hal:args.length<=1048576:=by simp only [okTm] at ht;have:=ZbB args;omega
  have z0:Zaa (ZbJ [] l)=Zaa l:=by simp only [ZbJ]
  refine fG (aj3 @hc @q1 @tmz) ?_;have F:=@z0;refine gL (ι:=Nat) [1,6,33] [] (fun i=>[(6,A.d (.one (.lit (.int .i64 i)))),(1,.d (.one (.sl (Zaa (ZbJ (args.take i) l)))))]) (fun i=>[]) (fun i=>i<=args.length) (fun i=>args.length - i) (0) (Taj _) (fun i hi=>?_);clear F;by_cases hlt:i < args.length;rotate_left
  ·obtain rfl:i=args.length:=by omega
   have q2:=lF args.length args.length;rw [Tap];exact fD (aj3 @q2 @hc @tmz)
  obtain ⟨x,hx⟩:∃ x,args[i]?=some x:=⟨_,Taa hlt⟩;have q2:=lT i args.length;have q4:=Zau (k:=i) om;have h1:=Zg5 (args.take i) l;have h2:=Zt7 hx;have hcon:=h x (Tac hx) (ZbJ (args.take i) l) (Zk6 (Zir i hka) hl) om;rw [<- Zt6 hx] at hcon;refine fB (aj3 @q2 @hc @tmz) ?_;refine fC (aj4 @q2 @hc @hx @tmz) (hcon) ?_;refine fR @tmz ?_;have F:=@q4;refine gG ?_;exact ⟨i+1,hlt,gw,gw,om⟩
theorem Zjx:∀ (n:Nat) (t:Tm),sizeTm t < n->okTm t->∀ l:List Tm,Zax l->l.length+sizeTm t<=1000000->Con e0 51 [.agg (Zab t),.one (.sl (Zaa l))] [.one (.sl (Zaa (ordT t l)))]
 | 0,_,h,_,_,_,_=>om
 | n+1,t,h,ht,l,hl,hn=>Zmg t ht l hl hn fun x hx m hm hmn=>by
  have hs:=Za3 t;have h1:=Zbu hx;refine Zjx n x om ?_ m hm hmn;obtain ⟨op,nm,so,args⟩:=t;simp only [okTm] at ht;exact ht.2.2.2.mem hx
section
variable {g:Sgn} {L:ByteArray}
theorem renW {t:Tm} (ht:TermOk g t) (hL:ZaG L=true) (h1:L.size=1) {l:List Bd} (hp:l.Perm (renB L (ordT t []))):SbsW g l:=by
 have hR:=ZxI ht ht.size hL h1;have hl:=Zij t [];have h2:=hp.length_eq;rw [Zdo] at h2;have hs:=ht.size;simp only [Tak,Nat.zero_add] at hl;exact ⟨om,fun y hy=>(hR y (hp.mem_iff.1 hy)).var,fun y hy=>(hR y (hp.mem_iff.1 hy)).to'.term⟩
theorem Zx7 (hg:SgnOk g) {t u:Tm} (ht:TermOk g t) (hL:ZaG L=true) (h1:L.size=1) (hu:TermOk g u):∃ w,apT g (renB L (ordT t [])) u=some w∧TermOk g w:=by
 have hR:=ZxI ht ht.size hL h1;obtain ⟨w,h,_⟩:=ZpQ hg hR _ u (Tan _) hu;exact ⟨w,h,Zl2 hg (fun y hy=>(hR y hy).to'.term) _ u (Tan _) hu h⟩
theorem Zx8 {ls:List Tm} {i:Nat} {v:Tm} (h:ls[i]?=some v):putB (srtB (renB L (ls.take i))) (ZdM L i v)=srtB (renB L (ls.take (i+1))):=by
 have hi:=(Tad.1 h).1;rw [show ls.take (i+1)=ls.take i++[v] by simp [List.take_add_one,h],ZnE,ZxF,Taw,Nat.min_eq_left om]
theorem eqA (u v:Tm):(Zab u++(Zab v++[C.sl []])).all Zaj=true∧(Zab u++(Zab v++[C.sl []])).length=9∧(Zab u++(Zab v++[C.sl []])).take 9=Zab u++(Zab v++[C.sl []])∧(Zab u++(Zab v++[C.sl []])).drop 9=[]:=⟨Zt4 ⟨u,v,[]⟩,ZhG ⟨u,v,[]⟩,Zk4 ⟨u,v,[]⟩,Zk5 ⟨u,v,[]⟩⟩
theorem eqD (u v:Tm):∀ (c0 c1 c2 c3 c4:C),Zab u++Zab v++List.drop 8 (Zab u++[c0,c1,c2,c3,c4])=Zab u++(Zab v++[c4]):=fun c0 c1 c2 c3 c4=>by
 obtain ⟨o,n,s,a⟩:=u;simp [Zab]
theorem Zoe (hok:Zdt g) (hg:SgnOk g) {e:Eqn} (he:Zj3 e) (hl:TermOk g e.l) (hr:TermOk g e.r) (hL:ZaG L=true) (h1:L.size=1) {u v:Tm} (hu:apT g (renB L (ordT e.l [])) e.l=some u) (hv:apT g (renB L (ordT e.l [])) e.r=some v):Con e0 21 [.agg (ZaN g),.agg (ZaE e),.one (.lit (.string L))] [.agg (ZaE ⟨u,v,[]⟩)]:=by
 have hsz:=hl.size;have cO:=Zjx _ e.l (Tan _) he.1 [] trivial (by simp only [Tak];omega);rw [ZbX] at cO;have cO:=ZnR cO;have hlk:=Zzh (L:=L) (ZnH e.l [] List.Pairwise.nil);have hW:=renW hl hL h1 (Zg4 (renB L (ordT e.l [])));have aL:=Zkv hok hg hW _ (Tan _) hl;have aR:=Zkv hok hg hW _ (Tan _) hr;have hu2:apT g (srtB (renB L (ordT e.l []))) e.l=some u:=by rw [ZkQ hlk];exact hu
 have hv2:apT g (srtB (renB L (ordT e.l []))) e.r=some v:=by rw [ZkQ hlk];exact hv
 rw [ZkW hu2,hu2] at aL;rw [ZkW hv2,hv2] at aR;have hvar:=ZsX hl.form;have hlen:=Zij e.l [];have hko:=Zs2 (l:=[]) he.1 trivial;simp only [Tak,Nat.zero_add] at hlen;clear hu hv hu2 hv2 hlk hW;generalize ordT e.l []=ls at *;rw [ZaN] at aL aR ⊢;have z0:ZaL (srtB (renB L []))=[]:=rfl;have h7:=eqD u v;obtain ⟨a1,a2,a3,a4⟩:=eqA u v;have hen:ZaE ⟨u,v,[]⟩=Zab u++(Zab v++[.sl []]):=rfl;rw [hen];refine gI (ts:=[.cell 6 42]) 2103263 Tryz.func21 ?_
 refine fB (ai @eqz @tmz) ?_;refine fC (ai @eqz @tmz) (cO) ?_;refine fR (ai @eqz @tmz) ?_;refine fG @tmz ?_;refine Zdn (ZfG [8] (by simp only [pz,↓reduceIte,Nat.reduceEqDiff,Nat.reduceAdd,Nat.reduceSub,Nat.reduceMul,Nat.reduceLeDiff,Nat.reduceBEq,Tam,decide_true,decide_false,Int.reduceLE,Int.reduceToNat,Int.reduceLT,Int.reduceEq,eq_self,Nat.reduceShiftRight,Nat.reduceAnd,Nat.reduceBneDiff,tmz];exact rfl)) fun σ' hσ=>?_
 subst hσ;have F:=@z0;refine gL (ι:=Nat) [8,9,21] [] (fun i=>[(9,A.d (.one (.lit (.int .i64 i)))),(8,.d (.one (.sl (ZaL (srtB (renB L (ls.take i)))))))]) (fun i=>[]) (fun i=>i<=ls.length) (fun i=>ls.length - i) (0) (Taj _) (fun i hi=>?_);clear F;by_cases hlt:i < ls.length;rotate_left
 ·obtain rfl:i=ls.length:=by omega
  have q2:=lF ls.length ls.length;rw [Tap];refine fB (aj3 @q2 @eqz @tmz) ?_;refine fC (ai @eqz @tmz) (aL) ?_;refine fR (ai @eqz @tmz) ?_;refine fB (ai @eqz @tmz) ?_;refine fC (ai @eqz @tmz) (aR) ?_;refine fR (ai @eqz @tmz) ?_;exact fD (aj7 @h7 @a1 @a2 @a3 @a4 @eqz @tmz)
 obtain ⟨x,hx⟩:∃ x,ls[i]?=some x:=⟨_,Taa hlt⟩;have hV:=hvar x (Tac hx);have hkx:=hko.mem (Tac hx);have q2:=lT i ls.length;have hwi:=Zau (k:=i) om;have cF:=ZqZ (k:=i+1) om om;have hfs:=Zg6 (i+1);have hfs2:(fmt2 (i+1)).size<=2:=by rw [hfs];split <;> omega
 have q5:(L.size+(fmt2 (i+1)).size<=9223372036854775807)=True:=eq_true om;have cV:=ZnQ (L++fmt2 (i+1)) x.sort;have hks:Zl1 (srtB (renB L (ls.take i))):=fun y hy=>by
  obtain ⟨j,w,hw,rfl⟩:=Zii ((Zg4 _).mem_iff.1 hy);have hwm:=List.mem_of_mem_take (Tac hw);have hj:j < 100:=by have:=(Tad.1 hw).1;rw [Taw] at this;omega
  have hkw:=hko.mem hwm;have hf2:=Zg6 (j+1);refine ⟨hkw,?_⟩;obtain ⟨o,n,s,a⟩:=w;simp only [okTm] at hkw;simp only [ZdM,okTm,Zax,Tm.sort,and_true];exact ⟨by unfold I64;omega,by rw [ByteArray.size_append,hf2,h1];unfold maxLen;split <;> omega,hkw.2.2.1⟩
 have hky:okBd (ZdM L i x):=by
  refine ⟨hkx,?_⟩;obtain ⟨o,n,s,a⟩:=x;simp only [okTm] at hkx;simp only [ZdM,okTm,Zax,Tm.sort,and_true];exact ⟨by unfold I64;omega,by rw [ByteArray.size_append,h1];unfold maxLen;omega,hkx.2.2.1⟩
 have cP:=ZxV hks (by rw [Zzn,Zdo,Taw];omega) hky;rw [Zx8 hx] at cP;simp only [ZdM] at cP;refine fB (ai @q2 @tmz) ?_;refine fC (aj4 @hwi @hx @ZaC @tmz) (cF) ?_;refine fC (aj4 @q5 @hx @ZaC @tmz) (cV) ?_;refine fC (aj3 @hx @ZaC @tmz) (cP) ?_;refine fR @tmz ?_;have F:=ai @hwi @tmz;refine gG ?_;exact ⟨i+1,hlt,gw,gw,om⟩
end
theorem Zqk {l:List Bd} {v:Tm} (h8:l.length<=1000) (heq:∀ y∈l,(Zah y.var v=0 ↔ y.var.name=v.name∧y.var.sort=v.sort)) (a:Option Addr) (cap:Nat):ConP e0 110 [.one (.lit (.slice a l.length cap)),.agg (Zab v)] [.buf (some (a,cap)) 145 8 (ZaL l)] (fun r pm=>r=[.agg (Zab ((ZaU l v).getD v)),.one (.lit (.bool (ZaU l v).isSome))]∧pm=[.buf (some (a,cap)) 145 8 (ZaL l)]):=by
 have bl:=ZdL l;have bg:=Zf8 l;have bb:=bds8 l;refine gIP (ts:=[.cell 4 39,.slot 5]) [1000] 134221755 Tryz.func110 ?_;refine fG (aj3 @ZhF @bl @tmz) ?_;have F:=@tmz;refine gL (ι:=Nat) [5,7,10,11,27] [] (fun i=>[(10,A.d (.one (.lit (.int .i64 i))))]) (fun i=>[]) (fun i=>i<=l.length∧ZaU (l.drop i) v=ZaU l v) (fun i=>l.length - i) (0) (⟨Taj _,rfl⟩) (fun i hi=>?_);clear F;obtain ⟨hi,hlo⟩:=hi;by_cases hil:i < l.length
 rotate_left
 ·obtain rfl:i=l.length:=by omega
  have q2:=lF l.length l.length;rw [List.drop_length] at hlo;have e:ZaU l v=none:=hlo.symm;rw [e];have z1:(none:Option Tm).getD v=v:=rfl;refine fG (ai @q2 @tmz) ?_;exact (have F:=ai bl tmz;gTP (R:=fun r pm=>r=[.agg (Zab ((none:Option Tm).getD v)),.one (.lit (.bool (none:Option Tm).isSome))]∧pm=[.buf (some (a,cap)) 145 8 (ZaL l)]) [1000] ⟨rfl,rfl⟩)
 have q2:=lT i l.length;obtain ⟨y,hy⟩:∃ y,l[i]?=some y:=⟨_,Taa hil⟩;rw [Zjo hy] at hlo;have hwi:=Zau (k:=i) om;have he:=heq y (Tac hy);by_cases h1:y.var.name=v.name;rotate_left
 ·have q3:(y.var.name.toList==v.name.toList)=false:=beq_eq_false_iff_ne.2 fun h=>h1 (toList_inj h);rw [if_neg (fun h=>h1 (he.1 h).1)] at hlo;have F:=aj12 @q2 @q3 @hil @hwi @bl @bb @bg @hy @bdz @Zj0 @ZaC @tmz;refine gG ?_;exact ⟨i+1,⟨hil,hlo⟩,gw,gw,om⟩
 have q3:(y.var.name.toList==v.name.toList)=true:=by rw [h1];exact beq_self_eq_true _
 by_cases h2:y.var.sort=v.sort;rotate_left
 ·have q4:(y.var.sort=v.sort)=False:=eq_false h2;rw [if_neg (fun h=>h2 (he.1 h).2)] at hlo;have F:=aj13 @q2 @q3 @q4 @hil @hwi @bl @bb @bg @hy @bdz @Zj0 @ZaC @tmz;refine gG ?_;exact ⟨i+1,⟨hil,hlo⟩,gw,gw,om⟩
 have q4:(y.var.sort=v.sort)=True:=eq_true h2;rw [if_pos (he.2 ⟨h1,h2⟩)] at hlo;rw [<- hlo];have z1:(some y.to).getD v=y.to:=rfl;refine fG (aj13 @q2 @q3 @q4 @hil @z1 @bl @bb @bg @hy @bdz @Zj0 @ZaC @tmz) ?_;exact (have F:=ai bl tmz;gTP (R:=fun r pm=>r=[.agg (Zab ((some y.to).getD v)),.one (.lit (.bool (some y.to).isSome))]∧pm=[.buf (some (a,cap)) 145 8 (ZaL l)]) [1000] ⟨rfl,rfl⟩)
theorem ZCb {g:Sgn} {L:ByteArray} {ts:List Tm} (hts:∀ x∈ts,ZbI g x) {t:Tm} (hf:ZaI g t):∀ y∈renB L ts,(Zah y.var t=0 ↔ y.var.name=t.name∧y.var.sort=t.sort):=fun y hy=>by
 obtain ⟨i,v,hv,rfl⟩:=Zii hy;have hV:=hts v (Tac hv);rcases hf.node with h | ⟨o,d,h⟩
 ·exact ZbI.eq_iff hV h
 ·have h1:=h.lo;have h2:=h.nm;constructor
  ·intro e;have:v=t:=ZeR.1 e;subst this;have:=hV.1;omega
  ·rintro ⟨e,_⟩;have e:v.name=t.name:=e;rw [h2] at e;have:=hV.2.1;rw [e] at this;exact absurd this (by decide)
def RRen (bo bl bv:Nat) (f:FuncId) (ty:Nat) (L:ByteArray) (ts:List Tm) (r:List D) (pm:List Bk):Prop:=∃ a cap,r=[]∧pm=[.var (some bo) [.lit (.slice a ts.length cap)],.buf (some (a,cap)) ty 8 (ZaL (renB L ts)),.var (some bl) [.lit (.string L)],.var (some bv) [.fn f [.lit (ptr0 bo),.lit (ptr0 bl),.lit (ptr0 bv)]]]
def RenC (bo bl bv:Nat) (L:ByteArray) (t:Tm) (ts:List Tm) (a:Option Addr) (cap:Nat) (us:List Tm):Prop:=ConP e0 109 [.agg (Zab t),.one (.lit (ptr0 bo)),.one (.lit (ptr0 bl)),.one (.lit (ptr0 bv))] [.var (some bo) [.lit (.slice a ts.length cap)],.buf (some (a,cap)) 145 8 (ZaL (renB L ts)),.var (some bl) [.lit (.string L)],.var (some bv) [.fn 109 [.lit (ptr0 bo),.lit (ptr0 bl),.lit (ptr0 bv)]]] (RRen bo bl bv 109 145 L us)
def ordL (ts args:List Tm) (i:Nat):List Tm:=ZbJ (args.take i) ts
theorem ZCc (ts args:List Tm):ordL ts args 0=ts:=by simp [ordL,ZbJ]
theorem Zx9 {ts args:List Tm} {i:Nat} {b:Tm} (h:args[i]?=some b):ordL ts args (i+1)=ordT b (ordL ts args i):=by
 unfold ordL;rw [show args.take (i+1)=args.take i++[b] by simp [List.take_add_one,h],Zik]
theorem Zzu (ts args:List Tm):ordL ts args args.length=ZbJ args ts:=by unfold ordL;rw [Tap]
theorem Zt8 (L:ByteArray) (ts:List Tm) (v:Tm):ZaL (renB L (ts++[v]))=ZaL (renB L ts)++[ZbP (ZdM L ts.length v)]:=by rw [ZnE];simp [ZaL]
theorem Zrb {ts:List Tm} {i:Nat} {t:Tm} (h:ts[i]?=some t):sizeTms (ts.take i)+sizeTm t<=sizeTms ts:=by
 have h1:ts=ts.take i++t::ts.drop (i+1):=by
  obtain ⟨hi,rfl⟩:=Tad.1 h;rw [<- List.drop_eq_getElem_cons hi,Tbm]
 conv=>rhs;rw [h1,Zfy]
 simp only [sizeTms];omega
theorem Zzv {g:Sgn} {ts args:List Tm} {i:Nat} (hf:∀ a∈args,ZaI g a) (hts:∀ x∈ts,ZbI g x):∀ x∈ordL ts args i,ZbI g x:=fun x hx=>by
 rcases Zjk (g:=g) (args.take i) ts (fun a ha l x hx=>ZkR _ a (Tan _) (hf a (List.mem_of_mem_take ha)) l x hx) x hx with h | h
 ·exact hts x h
 ·exact h
theorem Zrc {g:Sgn} {L:ByteArray} (hL:L.size<=4) (t:Tm) (hf:ZaI g t) (ts:List Tm) (hts:∀ x∈ts,ZbI g x) (a:Option Addr) (cap bo bl bv:Nat) (n1:bo≠bl) (n2:bo≠bv) (n3:bl≠bv) (hn:ts.length+sizeTm t<=98)
  (h:∀ x∈t.args,∀ (us:List Tm) (a:Option Addr) (cap:Nat),(∀ y∈us,ZbI g y)->us.length+sizeTm x<=98->RenC bo bl bv L x us a cap (ordT x us)):RenC bo bl bv L t ts a cap (ordT t ts):=by
 unfold RenC at h ⊢;have hbt:=Zqk (l:=renB L ts) (v:=t) (by rw [Zdo];omega) (ZCb hts hf) a cap;rw [ZxG,Zdo] at hbt;have hnode:=hf.node;have hfa:=(Zbd.1 hf).2.1;have hs0:=Za3 t;have hbl:=Zdo (L:=L) (l:=ts);generalize hzz:((ZaU (renB L ts) t).getD t)=zt at hbt;clear hzz;obtain ⟨op,nm,so,args⟩:=t;have hc:Zab (.mk op nm so args)=[.lit (.int .i64 op),.lit (.string nm),.lit (.int .i64 so),.sl (Zaa args)]:=by simp only [Zab]
 have m1:(bo=bl)=False:=eq_false n1;have m2:(bl=bo)=False:=eq_false (fun e=>n1 e.symm);have m3:(bo=bv)=False:=eq_false n2;have m4:(bv=bo)=False:=eq_false (fun e=>n2 e.symm);have m5:(bl=bv)=False:=eq_false n3;have m6:(bv=bl)=False:=eq_false (fun e=>n3 e.symm);simp only [Tm.args] at h hs0 hfa;simp only [ptr0] at h ⊢;rw [hc] at hbt;have e8:=ZdL (renB L ts);rw [Zdo] at e8;refine gIP (ts:=[]) [1001,1000,1003,1002] 2061586399583 Tryz.func109 ?_
 refine fB (ai @hc @tmz) ?_;have F:=aj7 @m1 @m2 @m3 @m4 @m5 @m6 @tmz;refine gCP [1000] [1000] (hbt) ?_;clear F;rintro r pm ⟨rfl,rfl⟩;simp only [setA,retA,zipM,Taf,Tah];refine fR (aj7 @m1 @m2 @m3 @m4 @m5 @m6 @tmz) ?_;by_cases hop:op=-1
 ·have hV:ZbI g (.mk op nm so args):=by
   rcases hnode with h | ⟨o,d,h⟩
   ·exact h
   ·have:=h.lo;simp only [Tm.op] at this;omega
  have ha:args=[]:=hV.2.2.2.2;subst ha;have q1:(op < 0)=True:=eq_true om;have e1:ordT (.mk op nm so []) ts=if hasV ts (.mk op nm so []) then ts else ts++[.mk op nm so []]:=by simp only [ordT,if_pos hop]
  rw [e1]
  cases hk:hasV ts (.mk op nm so []) with
  | true =>
   rw [if_pos rfl];refine fG (aj5 @q1 @hk @hc @ZbX @tmz) ?_;have F:=@tmz;refine gL (ι:=Unit) [8,39,40] [] (fun x=>[(39,.d (.one (.lit (.int .i64 0))))]) (fun x=>[]) (fun x=>True) (fun x=>0) (()) (trivial) (fun x hx=>?_);clear F;have q2:((0:Int) < 0)=False:=eq_false (by decide);have q3:((0:Int) < ((0:Nat):Int))=False:=eq_false (by decide);refine fG (aj3 @q2 @q3 @tmz) ?_;exact (have F:=tmz;gTPn [1001,1000,1003,1002] (R:=RRen bo bl bv 109 145 L ts) ⟨a,cap,rfl,rfl⟩)
  | false =>
   rw [if_neg (by decide)];have cF:=Zq0 (k:=ts.length+1) om om;have hwl:IntKind.i64.wrap ((ts.length:Int)+1)=((ts.length+1:Nat):Int):=Za4 om om om;have hfs:=Zg6 (ts.length+1);have q5:(L.size+(fmt2 (ts.length+1)).size<=9223372036854775807)=True:=eq_true (by rw [hfs];split <;> omega);have hm:(ZaL (renB L ts)).length+1<=maxApp:=by rw [e8];unfold maxApp;omega
   have hm2:ts.length+1<=maxApp:=by unfold maxApp;omega
   have bb:=bds8 (renB L ts);have hbd:ZbP (ZdM L ts.length (.mk op nm so []))=[.lit (.int .i64 op),.lit (.string nm),.lit (.int .i64 so),.sl [],.lit (.int .i64 (-1)),.lit (.string (L++fmt2 (ts.length+1))),.lit (.int .i64 so),.sl []]:=by simp [ZbP,ZdM,Zab,Zaa,Tm.sort]
   refine fN 3 (aj5 @q1 @hk @hc @ZbX @tmz) ?_;refine gB ?_;refine fC (aj12 @hwl @hc @e8 @ZhF @ZbX @m1 @m2 @m3 @m4 @m5 @m6 @tmz) (cF) ?_;have F:=aj15 @q5 @hc @ZhF @hm @hm2 @e8 @bb @ZbX @m1 @m2 @m3 @m4 @m5 @m6 @tmz;refine gP 7 ?_;clear F;refine gS 35 fun a2 cap2=>?_;refine fR (aj9 @ZhF @e8 @m1 @m2 @m3 @m4 @m5 @m6 @tmz) ?_;refine fG (aj5 @q1 @hk @hc @ZbX @tmz) ?_;have F:=@tmz;refine gL (ι:=Unit) [8,39,40] [] (fun x=>[(39,.d (.one (.lit (.int .i64 0))))]) (fun x=>[]) (fun x=>True) (fun x=>0) (()) (trivial) (fun x hx=>?_);clear F
   have q2:((0:Int) < 0)=False:=eq_false (by decide);have q3:((0:Int) < ((0:Nat):Int))=False:=eq_false (by decide);refine fG (aj3 @q2 @q3 @tmz) ?_;exact (have F:=tmz;gTPn [1001,35,1003,1002] (R:=RRen bo bl bv 109 145 L (ts++[.mk op nm so []])) ⟨a2,cap2,rfl,by rw [Zt8,hbd,Tae]⟩)
 ·have h0:0<=op:=by
   rcases hnode with h | ⟨o,d,h⟩
   ·exact absurd h.1 hop
   ·exact h.lo
  have q1:(op < 0)=False:=eq_false om;have e1:ordT (.mk op nm so args) ts=ZbJ args ts:=by simp only [ordT,if_neg hop]
  rw [e1];have hal:=ZbB args;refine fG (aj3 @q1 @hc @tmz) ?_;have F:=@ZCc;refine gL (ι:=Nat × Option Addr × Nat) [8,39,40] [1000,1001,1002,1003] (fun x=>[(39,A.d (.one (.lit (.int .i64 x.1))))]) (fun x=>[(1001,.var (some bo) [.lit (.slice x.2.1 (ordL ts args x.1).length x.2.2)]),(1000,.buf (some (x.2.1,x.2.2)) 145 8 (ZaL (renB L (ordL ts args x.1)))),(1003,.var (some bl) [.lit (.string L)]),(1002,.var (some bv) [.fn 109 [.lit (.pointer (some ⟨bo,0,none⟩)),.lit (.pointer (some ⟨bl,0,none⟩)),.lit (.pointer (some ⟨bv,0,none⟩))]])]) (fun x=>x.1<=args.length) (fun x=>args.length - x.1) ((0,a,cap)) (Taj _) (fun x hx=>?_);clear F
  obtain ⟨i,a2,cap2⟩:=x;simp only at hx;dsimp only;by_cases hlt:i < args.length
  ·obtain ⟨b,hg⟩:∃ b,args[i]?=some b:=⟨_,Taa hlt⟩;have q2:=lT i args.length;have q4:=Zau (k:=i) om;have h1:=Zg5 (args.take i) ts;have h2:=Zrb hg;have hcon:=h b (Tac hg) (ordL ts args i) a2 cap2 (Zzv hfa hts) (by unfold ordL;omega);rw [<- Zx9 hg] at hcon;refine fB (aj6 @q2 @hc @Zad @ZbL @hg @tmz) ?_;have F:=aj8 @ktF @m1 @m2 @m3 @m4 @m5 @m6 @tmz;refine gCP [1001,1000,1003,1002] [1001,1000,1003,1002] (hcon) ?_;clear F
   rintro r pm ⟨a3,cap3,rfl,rfl⟩;simp only [ptr0,setA,retA,zipM,Taf,Tah];refine fR @tmz ?_;have F:=@q4;refine gG ?_;exact ⟨(i+1,a3,cap3),hlt,gw,gw,om⟩
  ·obtain rfl:i=args.length:=by omega
   have q2:=lF args.length args.length;refine fG @q2 ?_;have hR:RRen bo bl bv 109 145 L (ZbJ args ts) [] [.var (some bo) [.lit (.slice a2 (ordL ts args args.length).length cap2)],.buf (some (a2,cap2)) 145 8 (ZaL (renB L (ordL ts args args.length))),.var (some bl) [.lit (.string L)],.var (some bv) [.fn 109 [.lit (.pointer (some ⟨bo,0,none⟩)),.lit (.pointer (some ⟨bl,0,none⟩)),.lit (.pointer (some ⟨bv,0,none⟩))]]]:=by
    rw [<- Zzu];exact ⟨a2,cap2,rfl,rfl⟩
   exact (have F:=tmz;gTPn [1001,1000,1003,1002] hR)
theorem Zmi {g:Sgn} {L:ByteArray} (hL:L.size<=4) (bo bl bv:Nat) (n1:bo≠bl) (n2:bo≠bv) (n3:bl≠bv):∀ (n:Nat) (t:Tm),sizeTm t < n->ZaI g t->∀ (ts:List Tm) (a:Option Addr) (cap:Nat),(∀ x∈ts,ZbI g x)->ts.length+sizeTm t<=98->RenC bo bl bv L t ts a cap (ordT t ts)
 | 0,_,h,_,_,_,_,_,_=>om
 | n+1,t,hs,hf,ts,a,cap,hts,hn=>Zrc hL t hf ts hts a cap bo bl bv n1 n2 n3 hn fun x hx us a cap hus hl=>by
  have h1:=Za3 t;have h2:=Zbu hx;exact Zmi hL bo bl bv n1 n2 n3 n x om ((Zbd.1 hf).2.1 x hx) us a cap hus hl
theorem Zql {g:Sgn} {L:ByteArray} (hL:L.size<=4) {t:Tm} (hf:ZaI g t) (hs:sizeTm t<=60):Con e0 68 [.agg (Zab t),.one (.lit (.string L))] [.one (.sl (ZaL (renB L (ordT t []))))]:=by
 refine gI (ts:=[.slot 4]) 127 Tryz.func68 ?_;refine fN 1 @tmz ?_;refine gB ?_;have F:=@tmz;refine gP 1 ?_;clear F;refine gO 7 145 8 ?_;refine gS 7 fun a cap=>?_;refine fR @tmz ?_;refine fN 3 (aj3 @otF @ztF @tmz) ?_;refine pV 5 fun b5 hb5=>?_;refine pV 3 fun b3 hb3=>?_;refine pV 6 fun b6 hb6=>?_;have n1:b5≠b3:=fun e=>hb3 5 b5 _ (by decide) rfl e.symm;have n2:b5≠b6:=fun e=>hb6 5 b5 _ (by decide) rfl e.symm
 have n3:b3≠b6:=fun e=>hb6 3 b3 _ (by decide) rfl e.symm;clear hb5 hb3 hb6;have m1:(b5=b3)=False:=eq_false n1;have m2:(b3=b5)=False:=eq_false (fun e=>n1 e.symm);have m3:(b5=b6)=False:=eq_false n2;have m4:(b6=b5)=False:=eq_false (fun e=>n2 e.symm);have m5:(b3=b6)=False:=eq_false n3;have m6:(b6=b3)=False:=eq_false (fun e=>n3 e.symm);refine fN 4 (aj11 @ktF @ztF @Zx5 @okFn @m1 @m2 @m3 @m4 @m5 @m6 @tmz) ?_
 refine gB ?_;have hcon:=Zmi hL b5 b3 b6 n1 n2 n3 _ t (Tan _) hf [] a cap (fun x hx=>by cases hx) (by simp;omega);unfold RenC at hcon;have z0:ZaL (renB L [])=[]:=rfl;simp only [ptr0,Tak,z0] at hcon;have F:=aj8 @ktF @m1 @m2 @m3 @m4 @m5 @m6 @tmz;refine gCP [5,7,3,6] [5,7,3,6] (hcon) ?_;clear F;rintro r pm ⟨a2,cap2,rfl,rfl⟩;simp only [ptr0,setA,retA,zipM,Taf,Tah];refine fR @tmz ?_;refine fG @tmz ?_;have e9:(ZaL (renB L (ordT t []))).length=(ordT t []).length:=by rw [ZdL,Zdo]
 refine pD 7 [4] [] ?_ (hs:=by exact snv);exact fD (ai @e9 @tmz)
def Zdk (cs:List (Tm × Tm)):List Tm:=cs.flatMap fun c=>[c.1,c.2]
def AL (e:Eqn) (x:Nat):List (List C):=Zaa (e.r::Zdk (e.cs.take x))
def s6 (e:Eqn):Nat->A
 | 0=>.d (.clip (AL e 0))
 | _+1=>.buf 6
def m6 (e:Eqn):Nat->List (Nat × Bk)
 | 0=>[]
 | x+1=>[(6,.buf none 39 4 (AL e (x+1)))]
theorem s6_0 (e:Eqn):s6 e 0=.d (.clip [Zab e.r]):=by simp [s6,AL,Zdk,Zaa]
theorem m6_0 (e:Eqn):m6 e 0=[]:=rfl
theorem s6_s (e:Eqn) (x:Nat):s6 e (x+1)=.buf 6:=rfl
theorem m6_s (e:Eqn) (x:Nat):m6 e (x+1)=[(6,.buf none 39 4 (AL e (x+1)))]:=rfl
theorem ZCy (e:Eqn) (x:Nat):(s6 e x=.d (.clip (AL e x))∧m6 e x=[])∨(s6 e x=.buf 6∧m6 e x=[(6,.buf none 39 4 (AL e x))]):=by
 cases x with
 | zero=>exact .inl ⟨rfl,rfl⟩
 | succ x=>exact .inr ⟨rfl,rfl⟩
theorem ZBG (e:Eqn) (x:Nat):ZaA 4 (AL e x)=true:=ZdJ _
theorem ZnT (cs:List (Tm × Tm)):(Zdk cs).length=2 * cs.length:=by
 induction cs with
 | nil=>rfl
 | cons c cs ih=>simp only [Zdk,List.flatMap_cons,Tae,Tag,Tak] at ih ⊢;omega
theorem ZCd (e:Eqn) (x:Nat):(AL e x).length<=1+2 * e.cs.length:=by
 rw [AL,Zad,Tag,ZnT,Taw];omega
theorem ZBH {e:Eqn} {x:Nat} {c:Tm × Tm} (h:e.cs[x]?=some c):AL e x++[Zab c.1,Zab c.2]=AL e (x+1):=by
 have h1:Zdk (e.cs.take (x+1))=Zdk (e.cs.take x)++[c.1,c.2]:=by
  rw [List.take_add_one,h];simp [Zdk]
 rw [AL,AL,h1,<- Taf,Zb6];simp [Zaa]
theorem Zs3 {g:Sgn} {vs:List Tm}:∀ {cs:List (Tm × Tm)},(cs.all fun c=>ZbA g c.1 c.2)=true->cs.all (cndB g vs)=(Zdk cs).all (ZdO vs)
 | [],_=>rfl
 | c::cs,h=>by
  simp only [List.all_cons,Tar] at h;have ih:=Zs3 (vs:=vs) h.2;rw [List.all_cons,ih,cndB,h.1,Bool.true_and];simp [Zdk,List.all_cons,Bool.and_assoc]
theorem ZCe {g:Sgn} {l r:Tm} (h:ZbA g l r=true):Zb3 g l=true:=by simp only [ZbA,Tar] at h;exact h.1
theorem ZCf {g:Sgn} {l r:Tm} (h:ZbA g l r=true):Zb3 g r=true:=by simp only [ZbA,Tar] at h;exact h.2.1
theorem ZnU {g:Sgn}:∀ {cs:List (Tm × Tm)},(cs.all fun c=>ZbA g c.1 c.2)=true->∀ t∈Zdk cs,Zb3 g t=true
 | [],_,t,ht=>by simp [Zdk] at ht
 | c::cs,h,t,ht=>by
  simp only [List.all_cons,Tar] at h;simp only [Zdk,List.flatMap_cons,Tbh,Tbg,List.not_mem_nil,or_false] at ht;rcases ht with (rfl | rfl) | ht
  ·exact ZCe h.1
  ·exact ZCf h.1
  ·exact ZnU h.2 t ht
theorem ZCg {g:Sgn} {t:Tm} (h:Zb3 g t=true):t.op < 0 ↔ t.op=-1:=by
 rcases (Zeh.1 h).form.node with hn | ⟨o,d,hn⟩
 ·have:=hn.1;omega
 ·have:=hn.lo;omega
noncomputable def eqnR (g:Sgn) (e:Eqn) (vs:List Tm):Bool:=decide (vs.length<=5) && (ZdO vs e.r && e.cs.all (cndB g vs))
section
variable {g:Sgn} {mc:C}
theorem Zt9 (hg:SgnOk g) {e:Eqn} (he:Zj3 e) (hb:bulkRow (ZaE e)<=1048576):Con e0 28 [.one (.ptr (encX g mc)),.agg (ZaE e)] [.one (.lit (.bool (eqnB g e)))]:=by
 rw [Zqh] at hb;obtain ⟨hol,hor,hoc⟩:=he;have cT:=fun (t:Tm) (h:okTm t) (hb:bulkRow (Zab t)<=1048576)=>ZqU (mc:=mc) hg h (Zhn hb);have cK:=fun (t:Tm) (h:Zb3 g t=true)=>Zh6 (mc:=mc) hg (Zeh.1 h).form.node;refine gI 334100219233902667600601412539771 Tryz.func28 ?_;refine fB (ai @tmz @eqz) ?_;refine fC (ai @tmz @eqz) (cT e.l hol om) ?_
 cases hL:Zb3 g e.l with
 | false =>
  have hf:eqnB g e=false:=by simp [eqnB,ZbA,hL]
  refine fR (ai @tmz @eqz) ?_;exact fT @hf
 | true =>
 refine fC (ai @tmz @eqz) (cT e.r hor om) ?_
 cases hR:Zb3 g e.r with
 | false =>
  have hf:eqnB g e=false:=by simp [eqnB,ZbA,hR]
  refine fR (ai @tmz @eqz) ?_;exact fT @hf
 | true =>
 refine fC (ai @tmz @eqz) (cK e.l hL) ?_;refine fC (ai @tmz @eqz) (cK e.r hR) ?_;by_cases hk:ZaO g e.l=ZaO g e.r;rotate_left
 ·have hf:eqnB g e=false:=by simp [eqnB,ZbA,hk]
  have hk':(ZaO g e.l=ZaO g e.r)=False:=eq_false hk;refine fR (aj3 @tmz @eqz @hk') ?_;exact fT @hf
 have hk':(ZaO g e.l=ZaO g e.r)=True:=eq_true hk;have hP:ZbA g e.l e.r=true:=by simp [ZbA,hL,hR,hk]
 by_cases h1:e.l.op=-1
 ·have hf:eqnB g e=false:=by simp [eqnB,h1]
  have h1':(e.l.op < 0)=True:=eq_true om;refine fR (aj4 @tmz @eqz @hk' @h1') ?_;exact fT @hf
 have h1':(e.l.op < 0)=False:=eq_false fun h=>h1 ((ZCg hL).1 h);by_cases h2:e.cs.length<=2;rotate_left
 ·have hf:eqnB g e=false:=by simp [eqnB,h2]
  have h2':=lT 2 e.cs.length;refine fR (aj5 @tmz @eqz @hk' @h1' @h2') ?_;exact fT @hf
 have h2':=lF 2 e.cs.length;have ea:eqnB g e=eqnR g e (Zb4 e.l):=by simp [eqnB,eqnR,hP,h1,h2]
 rw [ea];clear ea;have cV:=Zjt e.l (Zjw hL);have hvl:=Zga e.l;refine fR (aj5 @tmz @eqz @hk' @h1' @h2') ?_;refine fB (ai @tmz @eqz) ?_;refine fC (ai @tmz @eqz) (cV) ?_;refine fR (ai @tmz @eqz) ?_;generalize Zb4 e.l=vs at *;have hvb:vs.length<=big:=by unfold big;omega
 refine fG (ai @tmz @eqz) ?_;have F:=ai (s6_0 e) (m6_0 e);refine gL (ι:=Nat) [4,6,8,57,58,83] [6] (fun x=>[(57,A.d (.one (.lit (.int .i64 x)))),(6,s6 e x)]) (fun x=>m6 e x) (fun x=>x<=e.cs.length∧((e.cs.take x).all fun c=>ZbA g c.1 c.2)=true) (fun x=>e.cs.length - x) 0 ⟨Taj _,rfl⟩ (fun x hx=>?_) (hmm:=fun x=>rfl);clear F;obtain ⟨hxl,hall⟩:=hx;rcases ZCy e x with ⟨es,em⟩ | ⟨es,em⟩
 all_goals (
  simp only [es,em,Tah,Taf];clear es em;by_cases hlt:x < e.cs.length
  ·have q1:(x:Int) < (e.cs.length:Int):=om;obtain ⟨c,hc⟩:∃ a,e.cs[x]?=some a:=⟨_,Taa hlt⟩;have hm:=Tac hc;have hco:=hoc c hm;have hcb:=Zqi hm;have hw1:=Zau (k:=x) om;have hst:=ZBH hc;have hrb:=ZBG e x;have hal:=ZCd e x;have hmx:(AL e x).length+2<=maxApp:=by unfold maxApp;omega
   have es1:=s6_s e x;have em1:=m6_s e x;have hcf:ZbA g c.1 c.2=false->eqnR g e vs=false:=fun h=>by
    have:e.cs.all (cndB g vs)=false:=Zeb hm (by simp [cndB,h]);simp [eqnR,this]
   refine fB (aj4 @tmz @eqz @q1 @hc) ?_;refine fC (ai @tmz @eqz) (cT c.1 hco.1 om) ?_
   cases hL1:Zb3 g c.1 with
   | false =>
    have hf:=hcf (by simp [ZbA,hL1]);refine fR (ai @tmz @eqz) ?_;exact fT @hf
   | true =>
   refine fC (ai @tmz @eqz) (cT c.2 hco.2 om) ?_
   cases hR1:Zb3 g c.2 with
   | false =>
    have hf:=hcf (by simp [ZbA,hR1]);refine fR (ai @tmz @eqz) ?_;exact fT @hf
   | true =>
   refine fC (ai @tmz @eqz) (cK c.1 hL1) ?_;refine fC (ai @tmz @eqz) (cK c.2 hR1) ?_;by_cases hk1:ZaO g c.1=ZaO g c.2;rotate_left
   ·have hf:=hcf (by simp [ZbA,hk1]);have hk1':(ZaO g c.1=ZaO g c.2)=False:=eq_false hk1;refine fR (aj3 @tmz @eqz @hk1') ?_;exact fT @hf
   have hk1':(ZaO g c.1=ZaO g c.2)=True:=eq_true hk1;have hPc:ZbA g c.1 c.2=true:=by simp [ZbA,hL1,hR1,hk1]
   have hq:x+1<=e.cs.length∧((e.cs.take (x+1)).all fun c=>ZbA g c.1 c.2)=true:=⟨hlt,by rw [Zgb hc,hall,hPc];rfl⟩;refine fR (aj3 @tmz @eqz @hk1') ?_;have F:=aj8 @tmz @eqz @hw1 @hst @hrb @hmx @es1 @em1;refine gG ?_;exact ⟨x+1,hq,gw,gw,om⟩
  obtain rfl:x=e.cs.length:=by omega
  have q1:¬ ((e.cs.length:Int) < (e.cs.length:Int)):=om;rw [Tap] at hall;have eA:AL e e.cs.length=Zaa (e.r::Zdk e.cs):=by rw [AL,Tap]
  rw [eA];have er:eqnR g e vs=(decide (vs.length<=5) && (e.r::Zdk e.cs).all (ZdO vs)):=by rw [eqnR,Zs3 hall,List.all_cons]
  rw [er];have hall2:∀ t∈e.r::Zdk e.cs,Zb3 g t=true:=fun t ht=>by
   rcases Tbg.1 ht with rfl | ht
   ·exact hR
   ·exact ZnU hall t ht
  have hsl:(e.r::Zdk e.cs).length<=5:=by rw [Tag,ZnT];omega
  generalize e.r::Zdk e.cs=all at *;refine fG (aj3 @tmz @eqz @q1) ?_;have F:=@e0P;refine gL (ι:=Nat) [4,10,12,94,95,99,100,101,102,108] [] (fun y=>[(94,A.d (.one (.lit (.int .i64 y))))]) (fun y=>[]) (fun y=>y<=all.length∧(all.take y).all (ZdO vs)=true) (fun y=>all.length - y) (0) (⟨Taj _,rfl⟩) (fun y hy=>?_);clear F;obtain ⟨hyl,hally⟩:=hy;by_cases hlt2:y < all.length;rotate_left
  ·have q2:¬ ((y:Int) < (all.length:Int)):=om;obtain rfl:y=all.length:=by omega
   rw [Tap] at hally;have e5:decide ((vs.length:Int)<=5)=decide (vs.length<=5):=by rw [decide_eq_decide];omega
   exact fT (aj4 @tmz @q2 @hally @e5)
  have q2:(y:Int) < (all.length:Int):=om;obtain ⟨t,ht⟩:∃ a,all[y]?=some a:=⟨_,Taa hlt2⟩;have hw2:=Zau (k:=y) om;have hmt:=Tac ht;have cVt:=Zjt t (Zjw (hall2 t hmt));have hus:=Zga t;have hub:=Zjw (hall2 t hmt);have eW:ZdO vs t=(Zb4 t).all (hasB vs):=rfl;refine fB (aj4 @tmz @q2 @hlt2 @ht) ?_;refine fC (aj3 @tmz @hlt2 @ht) (cVt) ?_;refine fR @tmz ?_;refine fG @tmz ?_;generalize Zb4 t=us at *;have F:=@e0P;refine gL (ι:=Nat) [4,12,101,102,108] [] (fun z=>[(101,A.d (.one (.lit (.int .i64 z))))]) (fun z=>[]) (fun z=>z<=us.length∧(us.take z).all (hasB vs)=true) (fun z=>us.length - z) (0) (⟨Taj _,rfl⟩) (fun z hz=>?_);clear F
  obtain ⟨hzl,hallz⟩:=hz;by_cases hlt3:z < us.length;rotate_left
  ·have q3:¬ ((z:Int) < (us.length:Int)):=om;obtain rfl:z=us.length:=by omega
   rw [Tap] at hallz;have hq:y+1<=all.length∧(all.take (y+1)).all (ZdO vs)=true:=⟨hlt2,by rw [Zgb ht,hally,eW,hallz];rfl⟩;have F:=aj3 @tmz @q3 @hw2;refine gG ?_;exact ⟨y+1,hq,gw,gw,om⟩
  have q3:(z:Int) < (us.length:Int):=om;obtain ⟨v,hv⟩:∃ a,us[z]?=some a:=⟨_,Taa hlt3⟩;have hw3:=Zau (k:=z) om;refine fB (aj3 @tmz @q3 @hv) ?_;refine fC @tmz (Zra vs v hvb) ?_
  cases hh:hasB vs v with
  | false =>
   have hf:all.all (ZdO vs)=false:=Zeb hmt (by rw [eW];exact Zeb (Tac hv) hh);refine fR @tmz ?_;exact fT @hf
  | true =>
   have hq:z+1<=us.length∧(us.take (z+1)).all (hasB vs)=true:=⟨hlt3,by rw [Zgb hv,hallz,hh];rfl⟩;refine fR @tmz ?_
   (have F:=ai @tmz @hw3;refine gG ?_;exact ⟨z+1,hq,gw,gw,om⟩))
end
def zE:Eqn:=⟨zTm,zTm,[]⟩
theorem zE_u:ZaE zE=[.lit (.int .i64 0),.lit (.string ByteArray.empty),.lit (.int .i64 0),.sl [],.lit (.int .i64 0),.lit (.string ByteArray.empty),.lit (.int .i64 0),.sl [],.sl []]:=by simp [ZaE,zE,zTm,Zab,Zaa]
noncomputable def reE (g:Sgn) (e:Eqn) (L:ByteArray):Option Eqn:=if ZcO g e=true∧e.cs.length=0∧L.size=1∧ZaG L=true then some ⟨(apT g (renB L (ordT e.l [])) e.l).getD zTm,(apT g (renB L (ordT e.l [])) e.r).getD zTm,[]⟩ else none
section
variable {g:Sgn} {e:Eqn} {L:ByteArray}
theorem Zmk (h:¬ (ZcO g e=true∧e.cs.length=0∧L.size=1∧ZaG L=true)):reE g e L=none:=by unfold reE;rw [if_neg h]
theorem ZdP (h:ZcO g e=true):SgnOk g∧eqnB g e=true∧TermOk g e.l∧TermOk g e.r:=by
 simp only [ZcO,Tar] at h;have h2:=h.2;simp only [eqnB,ZbA,Tar] at h2;exact ⟨Znl.1 h.1,h.2,Zeh.1 h2.1.1,Zeh.1 h2.1.2.1⟩
theorem Zj5 (h1:ZcO g e=true) (h2:e.cs.length=0) (h3:L.size=1) (h4:ZaG L=true):∃ u v,apT g (renB L (ordT e.l [])) e.l=some u∧apT g (renB L (ordT e.l [])) e.r=some v∧TermOk g u∧TermOk g v∧reE g e L=some ⟨u,v,[]⟩:=by
 obtain ⟨hg,_,hl,hr⟩:=ZdP h1;obtain ⟨u,hu,ku⟩:=Zx7 hg hl h4 h3 hl;obtain ⟨v,hv,kv⟩:=Zx7 hg hl h4 h3 hr;refine ⟨u,v,hu,hv,ku,kv,?_⟩;unfold reE;rw [if_pos ⟨h1,h2,h3,h4⟩,hu,hv];rfl
theorem ZnV {u v:Tm} (hu:okTm u) (hv:okTm v):Zal (Zaf .eqn) (ZaE ⟨u,v,[]⟩):=by
 obtain ⟨o,n,s,a⟩:=u;obtain ⟨o',n',s',a'⟩:=v;simp only [okTm] at hu hv;have:=ZmU (i0:=o) (t1:=n) (i2:=s) (r3:=Zaa a) (i4:=o') (t5:=n') (i6:=s') (r7:=Zaa a') (r8:=[]) hu.1 hu.2.1 hu.2.2.1 (Zf3 _ hu.2.2.2) hv.1 hv.2.1 hv.2.2.1 (Zf3 _ hv.2.2.2) (by simp [Zam]);simpa [ZaE,Zab] using this
theorem Zs7 (hg:SgnOk g) {u:Tm} (h:TermOk g u):okTm u:=ZaI.ok hg _ u (Tan _) h.form
theorem Zs8:okTm zTm:=by simp [zTm,okTm,Zax,I64,maxLen]
theorem ZCz:Zal (Zaf .eqn) (ZaE ((reE g e L).getD zE)):=by
 by_cases h:ZcO g e=true∧e.cs.length=0∧L.size=1∧ZaG L=true
 ·obtain ⟨u,v,_,_,ku,kv,e1⟩:=Zj5 h.1 h.2.1 h.2.2.1 h.2.2.2;rw [e1];exact ZnV (Zs7 (ZdP h.1).1 ku) (Zs7 (ZdP h.1).1 kv)
 ·rw [Zmk h];exact ZnV Zs8 Zs8
theorem ZCh:bulkRow (ZaE ((reE g e L).getD zE))<=1048576:=by
 by_cases h:ZcO g e=true∧e.cs.length=0∧L.size=1∧ZaG L=true
 ·obtain ⟨u,v,_,_,ku,kv,e1⟩:=Zj5 h.1 h.2.1 h.2.2.1 h.2.2.2;rw [e1];have h1:=Zg9 ku.form;have h2:=Zg9 kv.form;have h3:=ku.size;have h4:=kv.size;show bulkRow (Zab u++(Zab v++[.sl []]))<=1048576;rw [ZgL,ZgL];simp only [bulkRow,Za6,bulkRows,Tak];omega
 ·rw [Zmk h];show bulkRow (ZaE zE)<=1048576;rw [zE_u];simp [bulkRow,Za6,bulkRows]
theorem Zua (hok:Zdt g) (he:Zj3 e) (hb:bulkRow (ZaE e)<=1048576) (hLs:L.size<=1048576):Con e0 6 [.agg (ZaN g),.agg (ZaE e),.one (.lit (.string L))] [.agg (ZaE ((reE g e L).getD zE)),.one (.lit (.bool (reE g e L).isSome))]:=by
 have cE:=Zq9 hok he hb;have cN:=Ze6 (s:=L) (by unfold maxLen;omega);have hno:¬ (ZcO g e=true∧e.cs.length=0∧L.size=1∧ZaG L=true)->ZaE ((reE g e L).getD zE)=[.lit (.int .i64 0),.lit (.string ByteArray.empty),.lit (.int .i64 0),.sl [],.lit (.int .i64 0),.lit (.string ByteArray.empty),.lit (.int .i64 0),.sl [],.sl []]∧(reE g e L).isSome=false:=fun h=>by rw [Zmk h];exact ⟨zE_u,rfl⟩
 have cR:=fun (h1:ZcO g e=true) (h3:L.size=1) (h4:ZaG L=true) u v hu hv=>Zoe (L:=L) (u:=u) (v:=v) hok (ZdP h1).1 he (ZdP h1).2.2.1 (ZdP h1).2.2.2 h4 h3 hu hv;rw [ZaN] at cE cR ⊢;refine gI (ts:=[.cell 6 42,.slot 7]) 268435935 Tryz.func6 ?_;refine fB (ai @eqz @tmz) ?_;refine fC (ai @eqz @tmz) (cE) ?_
 cases h1:ZcO g e with
 | false =>
  obtain ⟨n1,n2⟩:=hno fun h=>by rw [h1] at h;cases h.1
  rw [n1,n2];refine fR (ai @eqz @tmz) ?_;exact fD @tmz
 | true =>
 by_cases h2:e.cs.length=0;rotate_left
 ·have q2:=lT 0 e.cs.length;obtain ⟨n1,n2⟩:=hno fun h=>h2 h.2.1;rw [n1,n2];refine fR (aj3 @q2 @eqz @tmz) ?_;exact fD @tmz
 have q2:=lF 0 e.cs.length;by_cases h3:L.size=1;rotate_left
 ·have q3:((L.size:Int)=1)=False:=eq_false om;obtain ⟨n1,n2⟩:=hno fun h=>h3 h.2.2.1;rw [n1,n2];refine fR (aj4 @q2 @q3 @eqz @tmz) ?_;exact fD @tmz
 have q3:((L.size:Int)=1)=True:=eq_true om;refine fC (aj4 @q2 @q3 @eqz @tmz) (cN) ?_
 cases h4:ZaG L with
 | false =>
  obtain ⟨n1,n2⟩:=hno fun h=>by rw [h4] at h;cases h.2.2.2
  rw [n1,n2];refine fR (aj4 @q2 @q3 @eqz @tmz) ?_;exact fD @tmz
 | true =>
 obtain ⟨u,v,hu,hv,ku,kv,e5⟩:=Zj5 h1 h2 h3 h4;rw [e5];have cR:=cR h1 h3 h4 u v hu hv;have cU:=Zf9 u (Zj1 ku);have cV:=Zf9 v (Zj1 kv);have h7:=eqD u v;obtain ⟨a1,a2,a3,a4⟩:=eqA u v;simp only [Option.getD_some,Option.isSome_some];have hen:ZaE ⟨u,v,[]⟩=Zab u++(Zab v++[.sl []]):=rfl;have b1:(Zab u++(Zab v++[C.sl []])).take 4=Zab u:=ZeU _ _;have b2:(Zab u++(Zab v++[C.sl []])).drop 4=Zab v++[C.sl []]:=Zfl _ _
 have b3:(Zab v++[C.sl []]).take 4=Zab v:=ZeU _ _;rw [hen] at cR ⊢;refine fR (aj4 @q2 @q3 @eqz @tmz) ?_;refine fB (ai @eqz @tmz) ?_;refine fC (ai @eqz @tmz) (cR) ?_;refine fR (aj6 @a1 @a2 @a3 @a4 @eqz @tmz) ?_;refine fB (ai @eqz @tmz) ?_;refine fC (aj9 @a1 @a2 @a3 @a4 @b1 @b2 @b3 @eqz @tmz) (cU) ?_;refine fC (aj9 @a1 @a2 @a3 @a4 @b1 @b2 @b3 @eqz @tmz) (cV) ?_;refine fR (aj7 @h7 @a1 @a2 @a3 @a4 @eqz @tmz) ?_
 exact fD (aj7 @h7 @a1 @a2 @a3 @a4 @eqz @tmz)
theorem Zub {mc:C} (hg:SgnOk g) (hl:TermOk g e.l) (hr:TermOk g e.r) (hL:ZaG L=true) (h1:L.size=1) {u v:Tm} (hu:apT g (renB L (ordT e.l [])) e.l=some u) (hv:apT g (renB L (ordT e.l [])) e.r=some v):Con e0 30 [.one (.ptr (encX g mc)),.agg (ZaE e),.one (.lit (.string L))] [.agg (ZaE ⟨u,v,[]⟩),.one (.lit (.bool true))]:=by
 have cR:=Zql (g:=g) (L:=L) om hl.form hl.size;have hW:=renW hl hL h1 (List.Perm.refl _);have aL:=ZnL (mc:=mc) hg hW _ (Tan _) hl;have aR:=ZnL (mc:=mc) hg hW _ (Tan _) hr;rw [hu] at aL;rw [hv] at aR;simp only [Option.getD_some,Option.isSome_some] at aL aR;have h7:=eqD u v;obtain ⟨a1,a2,a3,a4⟩:=eqA u v;have hen:ZaE ⟨u,v,[]⟩=Zab u++(Zab v++[.sl []]):=rfl;rw [hen];generalize renB L (ordT e.l [])=bs at *
 refine gI (ts:=[.cell 6 42,.slot 7]) 8151 Tryz.func30 ?_;refine fB (ai @eqz @tmz) ?_;refine fC (ai @eqz @tmz) (cR) ?_;refine fR (ai @eqz @tmz) ?_;refine fB (ai @eqz @tmz) ?_;refine fC (ai @eqz @tmz) (aL) ?_;refine fR (ai @eqz @tmz) ?_;refine fB (ai @eqz @tmz) ?_;refine fC (ai @eqz @tmz) (aR) ?_;refine fR (ai @eqz @tmz) ?_;refine fG (ai @eqz @tmz) ?_;exact fD (aj7 @h7 @a1 @a2 @a3 @a4 @eqz @tmz)
theorem Zml:Za2 [] [.set (fun _=>False) (fun w=>Zae w (ZaE zE) (fun _=>False) [.int .i64 0,.string ByteArray.empty,.int .i64 0,.slice none 0 0,.int .i64 0,.string ByteArray.empty,.int .i64 0,.slice none 0 0,.slice none 0 0])]:=fun w S _ _ =>
 ⟨fun x hx=>by
  simp only [Tbg,List.not_mem_nil,or_false] at hx;subst hx;refine ⟨fun b h=>h.elim,?_,Zae.stable _ _ _⟩;rw [zE_u];have hn:∀ {cs us},Zae w cs (fun _=>False) us->Zae w (.sl []::cs) (fun _=>False) (.slice none 0 0::us):=fun h=>Zae.cons (fun _=>False) (fun _=>False) Zs6 h (fun _ q=>q) (fun _ q=>q) fun _ q=>q.elim;exact Zae.lit (Zae.lit (Zae.lit (hn (Zae.lit (Zae.lit (Zae.lit (hn (hn Zae.nil)))))))),ZdX _,fun g ⟨x,hx,hg⟩=>by
  simp only [Tbg,List.not_mem_nil,or_false] at hx;subst hx;exact hg.elim⟩
theorem zEF:Zc8 (ZaE zE) false [.agg [.lit (.int .i64 0),.lit (.string ByteArray.empty),.lit (.int .i64 0),.lit (.slice none 0 0),.lit (.int .i64 0),.lit (.string ByteArray.empty),.lit (.int .i64 0),.lit (.slice none 0 0),.lit (.slice none 0 0)],.one (.lit (.bool false))] [.set (fun _=>False) (fun w=>Zae w (ZaE zE) (fun _=>False) [.int .i64 0,.string ByteArray.empty,.int .i64 0,.slice none 0 0,.int .i64 0,.string ByteArray.empty,.int .i64 0,.slice none 0 0,.slice none 0 0])]:=⟨_,_,rfl,by rw [zE_u];rfl,rfl,rfl⟩
theorem Zrd (hok:Zdt g) (he:Zj3 e) (hb:bulkRow (ZaE e)<=1048576) (hLs:L.size<=1048576):ConP e0 9 [.agg (ZaN g),.agg (ZaE e),.one (.lit (.string L))] [] (Zc8 (ZaE ((reE g e L).getD zE)) (reE g e L).isSome):=by
 have cN:=Ze5 (s:=L) (by unfold maxLen;omega);have hno:¬ (ZcO g e=true∧e.cs.length=0∧L.size=1∧ZaG L=true)->Zc8 (ZaE ((reE g e L).getD zE)) (reE g e L).isSome=Zc8 (ZaE zE) false:=fun h=>by rw [Zmk h];rfl
 by_cases hg:SgnOk g;rotate_left
 ·have c:=ZmM hok hg;rw [hno fun h=>hg (ZdP h.1).1];rw [ZaN] at c ⊢;refine gIP (ts:=[.cell 6 42,.slot 7]) [] 563499709237215 Tryz.func9 ?_;refine fN 1 (ai @eqz @tmz) ?_;refine gB ?_;refine fC (ai @eqz @tmz) (c) ?_;refine fR (ai @eqz @tmz) ?_;refine fN 3 (ai @eqz @tmz) ?_;refine gB ?_;refine (have F:=tmz;gX ?_);refine fR @tmz ?_;refine fG @tmz ?_;refine pE [] [1001] Zml ?_;exact (have F:=tmz;gTP (R:=Zc8 (ZaE zE) false) [1001] zEF)
 have c:=ZqV hok hg;rw [ZaN] at c ⊢;refine gIP (ts:=[.cell 6 42,.slot 7]) [] 563499709237215 Tryz.func9 ?_;refine fN 1 (ai @eqz @tmz) ?_;refine gB ?_;have F:=ai @eqz @tmz;refine gCE (c) ?_;clear F;rintro r ⟨b,rfl⟩;have cE:=Zt9 (mc:=.lit (.map (some b))) hg he hb;have cR:=fun (h1:ZcO g e=true) (h3:L.size=1) (h4:ZaG L=true) u v hu hv=>Zub (mc:=.lit (.map (some b))) (L:=L) (e:=e) (u:=u) (v:=v) hg (ZdP h1).2.2.1 (ZdP h1).2.2.2 h4 h3 hu hv
 generalize C.lit (.map (some b))=mc at cE cR ⊢;refine fR (aj4 @ZBT @ZjL @eqz @tmz) ?_;refine fN 2 (ai @eqz @tmz) ?_;refine gB ?_;refine fC (ai @eqz @tmz) (cE) ?_;have hie:ZcO g e=eqnB g e:=by unfold ZcO;rw [Zf4 hg];rfl
 rw [<- hie]
 cases h1:ZcO g e with
 | false =>
  rw [hno fun h=>by rw [h1] at h;cases h.1];refine fR (ai @eqz @tmz) ?_;refine fN 3 (ai @eqz @tmz) ?_;refine gB ?_;refine (have F:=tmz;gX ?_);refine fR @tmz ?_;refine fG @tmz ?_;refine pE [] [1001] Zml ?_;exact (have F:=tmz;gTP (R:=Zc8 (ZaE zE) false) [1001] zEF)
 | true =>
 by_cases h2:e.cs.length=0;rotate_left
 ·have q2:=lT 0 e.cs.length;rw [hno fun h=>h2 h.2.1];refine fR (aj3 @q2 @eqz @tmz) ?_;refine fN 3 (ai @eqz @tmz) ?_;refine gB ?_;refine (have F:=tmz;gX ?_);refine fR @tmz ?_;refine fG @tmz ?_;refine pE [] [1001] Zml ?_;exact (have F:=tmz;gTP (R:=Zc8 (ZaE zE) false) [1001] zEF)
 have q2:=lF 0 e.cs.length;by_cases h3:L.size=1;rotate_left
 ·have q3:((L.size:Int)=1)=False:=eq_false om;rw [hno fun h=>h3 h.2.2.1];refine fR (aj4 @q2 @q3 @eqz @tmz) ?_;refine fN 3 (ai @eqz @tmz) ?_;refine gB ?_;refine (have F:=tmz;gX ?_);refine fR @tmz ?_;refine fG @tmz ?_;refine pE [] [1001] Zml ?_;exact (have F:=tmz;gTP (R:=Zc8 (ZaE zE) false) [1001] zEF)
 have q3:((L.size:Int)=1)=True:=eq_true om;refine fC (aj4 @q2 @q3 @eqz @tmz) (cN) ?_
 cases h4:ZaG L with
 | false =>
  rw [hno fun h=>by rw [h4] at h;cases h.2.2.2];refine fR (aj4 @q2 @q3 @eqz @tmz) ?_;refine fN 3 (ai @eqz @tmz) ?_;refine gB ?_;refine (have F:=tmz;gX ?_);refine fR @tmz ?_;refine fG @tmz ?_;refine pE [] [1001] Zml ?_;exact (have F:=tmz;gTP (R:=Zc8 (ZaE zE) false) [1001] zEF)
 | true =>
 obtain ⟨u,v,hu,hv,ku,kv,e5⟩:=Zj5 h1 h2 h3 h4;rw [e5];have cR:=cR h1 h3 h4 u v hu hv;have cU:=Zjm u (Zj1 ku);have cV:=Zjm v (Zj1 kv);obtain ⟨a1,a2,a3,a4⟩:=eqA u v;have hen:ZaE ⟨u,v,[]⟩=Zab u++(Zab v++[.sl []]):=rfl;have b1:(Zab u++(Zab v++[C.sl []])).take 4=Zab u:=ZeU _ _;have b2:(Zab u++(Zab v++[C.sl []])).drop 4=Zab v++[C.sl []]:=Zfl _ _;have b3:(Zab v++[C.sl []]).take 4=Zab v:=ZeU _ _;rw [hen] at cR
 refine fR (aj4 @q2 @q3 @eqz @tmz) ?_;refine fN 4 (ai @eqz @tmz) ?_;refine gB ?_;refine fC (ai @eqz @tmz) (cR) ?_;refine fR (aj6 @a1 @a2 @a3 @a4 @eqz @tmz) ?_;refine fN 7 (ai @eqz @tmz) ?_
 /- gk renq -/
 refine gGx (X:=UU) [(10,.ref 10 0)] [(10,.var none (Zab u++(Zab v++[C.sl []])))] (fun _ x=>x.ok) (fun x=>[([(51,.ref 10 0)],[]),([(52,.d (.agg (Zab u)))],[]),([(53,.d (.agg [.lit (x.v 2 0),.lit (x.v 2 1),.lit (x.v 2 2),.lit (x.v 2 3)]))],[(1003,.set (x.E 2) (fun w=>Zae w (Zab u) (x.E 2) [x.v 2 0,x.v 2 1,x.v 2 2,x.v 2 3]))]),([(54,.ref 10 4)],[]),([(55,.d (.agg (Zab v)))],[]),([(56,.d (.agg [.lit (x.v 5 0),.lit (x.v 5 1),.lit (x.v 5 2),.lit (x.v 5 3)]))],[(1006,.set (x.E 5) (fun w=>Zae w (Zab v) (x.E 5) [x.v 5 0,x.v 5 1,x.v 5 2,x.v 5 3]))]),([(57,.d (.agg [.lit (x.v 2 0),.lit (x.v 2 1),.lit (x.v 2 2),.lit (x.v 2 3),.lit (x.v 5 0),.lit (x.v 5 1),.lit (x.v 5 2),.lit (x.v 5 3),.lit (.slice none 0 0)]))],[(1003,.set (x.E 2) (fun w=>Zae w (Zab u) (x.E 2) [x.v 2 0,x.v 2 1,x.v 2 2,x.v 2 3])),(1006,.set (x.E 5) (fun w=>Zae w (Zab v) (x.E 5) [x.v 5 0,x.v 5 1,x.v 5 2,x.v 5 3]))]),([(6,.ref 6 0)],[(6,.var none [.lit (x.v 2 0),.lit (x.v 2 1),.lit (x.v 2 2),.lit (x.v 2 3),.lit (x.v 5 0),.lit (x.v 5 1),.lit (x.v 5 2),.lit (x.v 5 3),.lit (.slice none 0 0)]),(1003,.set (x.E 2) (fun w=>Zae w (Zab u) (x.E 2) [x.v 2 0,x.v 2 1,x.v 2 2,x.v 2 3])),(1006,.set (x.E 5) (fun w=>Zae w (Zab v) (x.E 5) [x.v 5 0,x.v 5 1,x.v 5 2,x.v 5 3]))]),([(7,.d (.one (.lit (.bool true))))],[]),([(6,.ref 6 0)],[(6,.var none [.lit (.int .i64 0),.lit (.string ByteArray.empty),.lit (.int .i64 0),.sl [],.lit (.int .i64 0),.lit (.string ByteArray.empty),.lit (.int .i64 0),.sl [],.sl []])])]) (fun j=>([(2,6),(5,6),(6,7),(9,7)]:List (Nat × Nat)).lookup j) [9] (⟨by simp [gs],by simp [gm]⟩) (fun j hj=>by simp only [Tbg,List.not_mem_nil,or_false] at hj;rcases hj with rfl <;> exact ⟨UU.z,UU.z_ok,by simp [gs],by simp [gm]⟩) ⟨?_,?_,?_,?_,?_,?_,?_,?_,?_,trivial⟩ ?_
 ·intro s' m' hB hD hI hJ;have F:=ZbN.1 hB;simp only [lkS,lkM,List.getD_cons_zero,List.getD_cons_succ,and_true,true_and] at F;have F:=aj7 F b1 b2 b3 a1 a2 tmz;refine gO3 ?_;exact xS hB (ZbT.2 ⟨UU.z,UU.z_ok,by simp [lkS,lkM,gs,gm,ZaX,UU.two,UU.vs,UU.sl]⟩)
 ·intro s' m' hB hD hI hJ;have F:=ZbN.1 hB;simp only [lkS,lkM,List.getD_cons_zero,List.getD_cons_succ,and_true,true_and] at F;obtain ⟨x0,o0,F0⟩:=ZbT.1 (hD 0 (by decide) (.inl rfl));simp only [lkS,lkM,List.getD_cons_zero,List.getD_cons_succ,and_true,true_and] at F0;have F:=ai F F0;have F:=aj7 F b1 b2 b3 a1 a2 tmz;refine gO3 ?_;exact xS hB (ZbT.2 ⟨UU.z,UU.z_ok,by simp [lkS,lkM,gs,gm,ZaX,F0,UU.two,UU.vs,UU.sl]⟩)
 ·intro s' m' hB hD hI hJ;have F:=ZbN.1 hB;simp only [lkS,lkM,List.getD_cons_zero,List.getD_cons_succ,and_true,true_and] at F;obtain ⟨x1,o1,F1⟩:=ZbT.1 (hD 1 (by decide) (.inl rfl));simp only [lkS,lkM,List.getD_cons_zero,List.getD_cons_succ,and_true,true_and] at F1;have F:=ai F F1;have F:=aj7 F b1 b2 b3 a1 a2 tmz;refine gCP [] [1003] (cU) ?_;rintro r pm ⟨us,E2,rfl,hu,hok,rfl⟩;rw [Zhw] at hu;obtain ⟨u0,u1,u2,u3,rfl⟩:=len4 hu
  rw [show Zag [u0,u1,u2,u3]=[.lit u0,.lit u1,.lit u2,.lit u3] from rfl] at hok ⊢;simp only [setA,retA,zipM,Taf,Tah];refine ZbK ?_;exact xP hB (ZbT.2 ⟨UU.vs [u0,u1,u2,u3] E2,UU.vs_ok hok,by simp [lkS,lkM,gs,gm,UU.two,UU.vs,UU.sl]⟩)
 ·intro s' m' hB hD hI hJ;have F:=ZbN.1 hB;simp only [lkS,lkM,List.getD_cons_zero,List.getD_cons_succ,and_true,true_and] at F;have F:=aj7 F b1 b2 b3 a1 a2 tmz;refine gO3 ?_;exact xS hB (ZbT.2 ⟨UU.z,UU.z_ok,by simp [lkS,lkM,gs,gm,ZaX,UU.two,UU.vs,UU.sl]⟩)
 ·intro s' m' hB hD hI hJ;have F:=ZbN.1 hB;simp only [lkS,lkM,List.getD_cons_zero,List.getD_cons_succ,and_true,true_and] at F;obtain ⟨x3,o3,F3⟩:=ZbT.1 (hD 3 (by decide) (.inl rfl));simp only [lkS,lkM,List.getD_cons_zero,List.getD_cons_succ,and_true,true_and] at F3;have F:=ai F F3;have F:=aj7 F b1 b2 b3 a1 a2 tmz;refine gO3 ?_;exact xS hB (ZbT.2 ⟨UU.z,UU.z_ok,by simp [lkS,lkM,gs,gm,ZaX,F3,UU.two,UU.vs,UU.sl]⟩)
 ·intro s' m' hB hD hI hJ;have F:=ZbN.1 hB;simp only [lkS,lkM,List.getD_cons_zero,List.getD_cons_succ,and_true,true_and] at F;obtain ⟨x4,o4,F4⟩:=ZbT.1 (hD 4 (by decide) (.inl rfl));simp only [lkS,lkM,List.getD_cons_zero,List.getD_cons_succ,and_true,true_and] at F4;have F:=ai F F4;have F:=aj7 F b1 b2 b3 a1 a2 tmz;refine gCP [] [1006] (cV) ?_;rintro r pm ⟨us,E2,rfl,hu,hok,rfl⟩;rw [Zhw] at hu;obtain ⟨u0,u1,u2,u3,rfl⟩:=len4 hu
  rw [show Zag [u0,u1,u2,u3]=[.lit u0,.lit u1,.lit u2,.lit u3] from rfl] at hok ⊢;simp only [setA,retA,zipM,Taf,Tah];refine ZbK ?_;exact xP hB (ZbT.2 ⟨UU.vs [u0,u1,u2,u3] E2,UU.vs_ok hok,by simp [lkS,lkM,gs,gm,UU.two,UU.vs,UU.sl]⟩)
 ·intro s' m' hB hD hI hJ;have F:=ZbN.1 hB;simp only [lkS,lkM,List.getD_cons_zero,List.getD_cons_succ,and_true,true_and] at F;obtain ⟨x2,o2,F2⟩:=ZbT.1 (hD 2 (by decide) (.inr rfl));obtain ⟨x5,o5,F5⟩:=ZbT.1 (hD 5 (by decide) (.inr rfl));simp only [lkS,lkM,List.getD_cons_zero,List.getD_cons_succ,and_true,true_and] at F2;have F:=ai F F2;simp only [lkS,lkM,List.getD_cons_zero,List.getD_cons_succ,and_true,true_and] at F5
  have F:=ai F F5;have F:=ai F (UU.v_ok o2);have F:=ai F (UU.v_ok o5);have F:=aj7 F b1 b2 b3 a1 a2 tmz;refine gX ?_;refine ZbK ?_;exact xS hB (ZbT.2 ⟨(UU.two 2 x2 (x5)),(UU.two_ok o2 (o5)),by simp [lkS,lkM,gs,gm,ZaX,F2,F5,UU.two]⟩)
 ·intro s' m' hB hD hI hJ;have F:=ZbN.1 hB;simp only [lkS,lkM,List.getD_cons_zero,List.getD_cons_succ,and_true,true_and] at F;obtain ⟨x6,o6,F6⟩:=ZbT.1 (hD 6 (by decide) (.inr rfl));obtain ⟨x9,o9,F9⟩:=ZbT.1 (hI 9 (by decide) (by decide));simp only [lkS,lkM,List.getD_cons_zero,List.getD_cons_succ,and_true,true_and] at F6;have F:=ai F F6;simp only [lkS,lkM,List.getD_cons_zero,List.getD_cons_succ,and_true,true_and] at F9
  have F:=ai F F9;have F:=ai F (UU.v_ok o6);have F:=aj7 F b1 b2 b3 a1 a2 tmz;refine gO3 ?_;exact xM hB (ZbT.2 ⟨x6,o6,by simp [lkS,lkM,gs,gm,ZaX,F6,F9,UU.two,UU.vs,UU.sl]⟩)
 ·intro s' m' hB hD hI hJ;have F:=ZbN.1 hB;simp only [lkS,lkM,List.getD_cons_zero,List.getD_cons_succ,and_true,true_and] at F;have F:=aj7 F b1 b2 b3 a1 a2 tmz;refine gO3 ?_;exact xS hB (ZbT.2 ⟨UU.z,UU.z_ok,by simp [lkS,lkM,gs,gm,ZaX,UU.two,UU.vs,UU.sl]⟩)
 intro s' m' hB hP;obtain ⟨x7,o7,P7⟩:=hP 7 (.inl (by decide)) (fun k h=>by simp [List.lookup] at h);obtain ⟨x8,o8,P8⟩:=hP 8 (.inl (by decide)) (fun k h=>by simp [List.lookup] at h);refine ⟨_,_,(hB.app P7).app P8,?_⟩;simp only [Taf,Tah,List.append_nil,List.getD_cons_zero,List.getD_cons_succ]
 /- gk end renq -/
 refine ⟨_,Wk.refl _,?_⟩;refine pE [1003,1006] [1001] (ZgJ (G':=fun w=>Zae w (ZaE ⟨u,v,[]⟩) (fun b=>x7.E 2 b∨x7.E 5 b) [x7.v 2 0,x7.v 2 1,x7.v 2 2,x7.v 2 3,x7.v 5 0,x7.v 5 1,x7.v 5 2,x7.v 5 3,.slice none 0 0]) (fun w h1 h2 hd=>?_) (Zae.stable _ _ _)) ?_
 ·have h3:Zae w (Zab v++[.sl []]) (x7.E 5) ([x7.v 5 0,x7.v 5 1,x7.v 5 2,x7.v 5 3]++[.slice none 0 0]):=Zae.append (x7.E 5) (fun _=>False) h2 (Zae.cons (fun _=>False) (fun _=>False) Zs6 Zae.nil (fun _ q=>q) (fun _ q=>q) fun _ q=>q.elim) (fun _ q=>q) (fun _ q=>q.elim) fun _ _ q=>q;exact Zae.append (x7.E 2) (x7.E 5) h1 h3 (fun _ q=>.inl q) (fun _ q=>.inr q) hd
 exact (have F:=tmz;gTP (R:=Zc8 (ZaE ⟨u,v,[]⟩) true) [1001] ⟨[x7.v 2 0,x7.v 2 1,x7.v 2 2,x7.v 2 3,x7.v 5 0,x7.v 5 1,x7.v 5 2,x7.v 5 3,.slice none 0 0],fun b=>x7.E 2 b∨x7.E 5 b,rfl,by rw [ZhG];rfl,by simp only [Zag,Tbt,List.map_nil,List.all_cons,List.all_nil,UU.v_ok o7,Bool.true_and,Bool.and_true];rfl,rfl⟩)
end
theorem ZhK {row0:List C} (hok0:Zal (sigF) row0) {row1:List C} (hok1:Zal (Zaf .eqn) row1) {s2:ByteArray} {wr:List C} (hokw:Zal (Zaf .eqn) wr) {R1:Bool} (hBw0:bulkRow row0<=1048576->bulkRow row1<=1048576->s2.size<=1048576->(bulkRow row0)+(bulkRow row1)<=1048576->bulkRow wr<=1048576) (hsp0:bulkRow row0<=1048576->bulkRow row1<=1048576->s2.size<=1048576->(bulkRow row0)+(bulkRow row1)<=1048576->Con e0 6 [.agg row0,.agg row1,.one (.lit (.string s2))] [.agg wr,.one (.lit (.bool R1))]) (him0:bulkRow row0<=1048576->bulkRow row1<=1048576->s2.size<=1048576->(bulkRow row0)+(bulkRow row1)<=1048576->ConP e0 9 [.agg row0,.agg row1,.one (.lit (.string s2))] [] (Zc8 wr R1)):Con e0 3 [.agg row0,.agg row1,.one (.lit (.string s2))] [.one (.lit (.bool true))]:=by
 have okc0:=hok0.cells;obtain ⟨len0,tk0,dr0⟩:=hok0.take (n:=3) rfl;have okc1:=hok1.cells;obtain ⟨len1,tk1,dr1⟩:=hok1.take (n:=9) rfl;have okcw:=hokw.cells;obtain ⟨lenw,tkw,drw⟩:=hokw.take (n:=9) rfl;refine gI 96036724122186068312338857298150031327 Tryz.func3 ?_;by_cases hb2:(s2.size:Int)<=1048576;rotate_left
 ·have n1:((s2.size:Int) > 1048576)=True:=eq_true om;exact fT (aj14 @okc0 @len0 @tk0 @dr0 @okc1 @len1 @tk1 @dr1 @Zaz @okcw @lenw @tkw @drw @n1)
 have n1:((s2.size:Int) > 1048576)=False:=eq_false om;refine fG (aj14 @okc0 @len0 @tk0 @dr0 @okc1 @len1 @tk1 @dr1 @Zaz @okcw @lenw @tkw @drw @n1) ?_;clear n1;have hB2:s2.size<=1048576:=om;have hL0_0:(0:Int)<=1048576:=om;have hL0_1:(1048576:Int)<=1048576:=om;refine gB ?_;refine fC (aj13 @okc0 @len0 @tk0 @dr0 @okc1 @len1 @tk1 @dr1 @Zaz @okcw @lenw @tkw @drw) (Zmp hok0 hL0_0 hL0_1) ?_;refine fR (aj13 @okc0 @len0 @tk0 @dr0 @okc1 @len1 @tk1 @dr1 @Zaz @okcw @lenw @tkw @drw) ?_
 by_cases hb0:((bulkRow row0:Nat):Int)<=1048576;rotate_left
 ·have n1:sub 1048576 (bulkRow row0:Nat)=-1:=ZaJ om;have n2:(-1:Int) < 0:=om;exact fT (ai @n1 @n2)
 have nq:sub 1048576 (bulkRow row0:Nat)=1048576 - ((bulkRow row0:Nat):Nat):=Za8 om;rw [nq];clear nq;have hB0:bulkRow row0<=1048576:=om;have hL1_0:(0:Int)<=1048576 - ((bulkRow row0:Nat):Nat):=om;have hL1_1:(1048576:Int) - ((bulkRow row0:Nat):Nat)<=1048576:=om;generalize hgl0:(1048576:Int) - ((bulkRow row0:Nat):Nat)=L1 at *;have n2:¬ (L1 < 0):=om;refine fG (aj14 @n2 @okc0 @len0 @tk0 @dr0 @okc1 @len1 @tk1 @dr1 @Zaz @okcw @lenw @tkw @drw) ?_
 clear n2 hb0;refine gB ?_;refine fC (aj13 @okc0 @len0 @tk0 @dr0 @okc1 @len1 @tk1 @dr1 @Zaz @okcw @lenw @tkw @drw) (ZmY hok1 hL1_0 hL1_1) ?_;refine fR (aj13 @okc0 @len0 @tk0 @dr0 @okc1 @len1 @tk1 @dr1 @Zaz @okcw @lenw @tkw @drw) ?_;by_cases hb1:((bulkRow row1:Nat):Int)<=L1;rotate_left
 ·have n1:sub L1 (bulkRow row1:Nat)=-1:=ZaJ om;have n2:(-1:Int) < 0:=om;exact fT (ai @n1 @n2)
 have nq:sub L1 (bulkRow row1:Nat)=L1 - ((bulkRow row1:Nat):Nat):=Za8 om;rw [nq];clear nq;have hB1:bulkRow row1<=1048576:=om;have hL2_0:(0:Int)<=L1 - ((bulkRow row1:Nat):Nat):=om;have hL2_1:(L1:Int) - ((bulkRow row1:Nat):Nat)<=1048576:=om;generalize hgl1:(L1:Int) - ((bulkRow row1:Nat):Nat)=L2 at *;have n2:¬ (L2 < 0):=om;refine fG (aj14 @n2 @okc0 @len0 @tk0 @dr0 @okc1 @len1 @tk1 @dr1 @Zaz @okcw @lenw @tkw @drw) ?_
 clear n2 hb1;have hBt:(bulkRow row0)+(bulkRow row1)<=1048576:=om;have hsp:=hsp0 hB0 hB1 hB2 hBt;have him:=him0 hB0 hB1 hB2 hBt;have hBw:=hBw0 hB0 hB1 hB2 hBt;have hcw:cntTop wr<=16 * bulkRow wr:=Zha _ _ hokw;have cE:=ZhJ hokw;have cT0:=Zmr hok0 hB0;have cP0:=ZgS hok0 hB0;have cQ0:=Zmq hok0;have hc0:cntTop row0<=16 * bulkRow row0:=Zha _ _ hok0;have cT1:=ZmZ hok1 hB1;have cP1:=Zhb hok1 hB1;have cQ1:=ZhJ hok1
 have hc1:cntTop row1<=16 * bulkRow row1:=Zha _ _ hok1;refine gLt 9 8 10 ?_;refine fC (aj13 @okc0 @len0 @tk0 @dr0 @okc1 @len1 @tk1 @dr1 @Zaz @okcw @lenw @tkw @drw) (cT0) ?_;refine fC (aj13 @okc0 @len0 @tk0 @dr0 @okc1 @len1 @tk1 @dr1 @Zaz @okcw @lenw @tkw @drw) (cT1) ?_;refine fC (aj13 @okc0 @len0 @tk0 @dr0 @okc1 @len1 @tk1 @dr1 @Zaz @okcw @lenw @tkw @drw) (hsp) ?_;refine fR (aj13 @okc0 @len0 @tk0 @dr0 @okc1 @len1 @tk1 @dr1 @Zaz @okcw @lenw @tkw @drw) ?_
 refine fB (aj13 @okc0 @len0 @tk0 @dr0 @okc1 @len1 @tk1 @dr1 @Zaz @okcw @lenw @tkw @drw) ?_;have F:=aj13 @okc0 @len0 @tk0 @dr0 @okc1 @len1 @tk1 @dr1 @Zaz @okcw @lenw @tkw @drw;refine gCP [] [1000] (cP0) ?_;clear F;rintro r pm ⟨us0,E0,rfl,hu0,cu0,rfl⟩;rw [len0] at hu0;obtain ⟨lu0,tu0,du0⟩:=Zk8 hu0;simp only [setA,retA,zipM,Taf,Tah];refine fR (aj15 @okc0 @len0 @tk0 @dr0 @okc1 @len1 @tk1 @dr1 @Zaz @okcw @lenw @tkw @drw @lu0 (aj3 @tu0 @du0 @cu0)) ?_
 refine fB (aj15 @okc0 @len0 @tk0 @dr0 @okc1 @len1 @tk1 @dr1 @Zaz @okcw @lenw @tkw @drw @lu0 (aj3 @tu0 @du0 @cu0)) ?_;have F:=aj15 @okc0 @len0 @tk0 @dr0 @okc1 @len1 @tk1 @dr1 @Zaz @okcw @lenw @tkw @drw @lu0 (aj3 @tu0 @du0 @cu0);refine gCP [] [1001] (cP1) ?_;clear F;rintro r pm ⟨us1,E1,rfl,hu1,cu1,rfl⟩;rw [len1] at hu1;obtain ⟨lu1,tu1,du1⟩:=Zk8 hu1;simp only [setA,retA,zipM,Taf,Tah];refine fR (aj16 @okc0 @len0 @tk0 @dr0 @okc1 @len1 @tk1 @dr1 @Zaz @okcw @lenw @tkw @drw @lu0 @tu0 (aj6 @du0 @cu0 @lu1 @tu1 @du1 @cu1)) ?_
 refine fB (aj16 @okc0 @len0 @tk0 @dr0 @okc1 @len1 @tk1 @dr1 @Zaz @okcw @lenw @tkw @drw @lu0 @tu0 (aj6 @du0 @cu0 @lu1 @tu1 @du1 @cu1)) ?_;have F:=aj16 @okc0 @len0 @tk0 @dr0 @okc1 @len1 @tk1 @dr1 @Zaz @okcw @lenw @tkw @drw @lu0 @tu0 (aj6 @du0 @cu0 @lu1 @tu1 @du1 @cu1);refine gCP [1000,1001] [1100,1000,1001] (Zs4 (lits:=[.agg (Zag us0),.agg (Zag us1),.one (.lit (.string s2))]) [.set E0 (fun w=>Zae w row0 E0 us0),.set E1 (fun w=>Zae w row1 E1 us1)] him ⟨.tree Tas,.tree (Tal _ Tas),.same,trivial⟩ rfl (fun _ _ h=>Zc8.lits h)) ?_;clear F
 rintro r pm ⟨q1,⟨usg,Eg,rfl,hug,cug,rfl⟩,rfl⟩;rw [lenw] at hug;obtain ⟨lug,tug,dug⟩:=Zk8 hug;simp only [setA,retA,zipM,Taf,Tah];refine fR (aj16 @okc0 @len0 @tk0 @dr0 @okc1 @len1 @tk1 @dr1 @Zaz @okcw @lenw @tkw @drw @lu0 @tu0 (aj10 @du0 @cu0 @lu1 @tu1 @du1 @cu1 @lug @tug @dug @cug)) ?_;refine fB (aj16 @okc0 @len0 @tk0 @dr0 @okc1 @len1 @tk1 @dr1 @Zaz @okcw @lenw @tkw @drw @lu0 @tu0 (aj10 @du0 @cu0 @lu1 @tu1 @du1 @cu1 @lug @tug @dug @cug)) ?_
 have F:=aj16 @okc0 @len0 @tk0 @dr0 @okc1 @len1 @tk1 @dr1 @Zaz @okcw @lenw @tkw @drw @lu0 @tu0 (aj10 @du0 @cu0 @lu1 @tu1 @du1 @cu1 @lug @tug @dug @cug);refine gCP [1100] [1100] (ZhH (lits:=[.agg (Zag usg),.agg wr]) [.set Eg (fun w=>Zae w wr Eg usg)] cE ⟨.tree Tas,.same,trivial⟩ rfl rfl) ?_;clear F;rintro r pm ⟨rfl,rfl⟩;simp only [setA,retA,zipM,Taf,Tah];refine fR (aj16 @okc0 @len0 @tk0 @dr0 @okc1 @len1 @tk1 @dr1 @Zaz @okcw @lenw @tkw @drw @lu0 @tu0 (aj11 @du0 @cu0 @lu1 @tu1 @du1 @cu1 @lug @tug @dug @cug @beq_self_eq_true.{0})) ?_
 refine fB (aj16 @okc0 @len0 @tk0 @dr0 @okc1 @len1 @tk1 @dr1 @Zaz @okcw @lenw @tkw @drw @lu0 @tu0 (aj11 @du0 @cu0 @lu1 @tu1 @du1 @cu1 @lug @tug @dug @cug @beq_self_eq_true.{0})) ?_;refine fC (aj16 @okc0 @len0 @tk0 @dr0 @okc1 @len1 @tk1 @dr1 @Zaz @okcw @lenw @tkw @drw @lu0 @tu0 (aj10 @du0 @cu0 @lu1 @tu1 @du1 @cu1 @lug @tug @dug @cug)) (cT0) ?_;have F:=aj16 @okc0 @len0 @tk0 @dr0 @okc1 @len1 @tk1 @dr1 @Zaz @okcw @lenw @tkw @drw @lu0 @tu0 (aj10 @du0 @cu0 @lu1 @tu1 @du1 @cu1 @lug @tug @dug @cug);refine gCP [1000] [1000] (ZhH (lits:=[.agg (Zag us0),.agg row0]) [.set E0 (fun w=>Zae w row0 E0 us0)] cQ0 ⟨.tree Tas,.same,trivial⟩ rfl rfl) ?_;clear F
 rintro r pm ⟨rfl,rfl⟩;simp only [setA,retA,zipM,Taf,Tah];refine fR (aj16 @okc0 @len0 @tk0 @dr0 @okc1 @len1 @tk1 @dr1 @Zaz @okcw @lenw @tkw @drw @lu0 @tu0 (aj10 @du0 @cu0 @lu1 @tu1 @du1 @cu1 @lug @tug @dug @cug)) ?_;refine fB (aj16 @okc0 @len0 @tk0 @dr0 @okc1 @len1 @tk1 @dr1 @Zaz @okcw @lenw @tkw @drw @lu0 @tu0 (aj10 @du0 @cu0 @lu1 @tu1 @du1 @cu1 @lug @tug @dug @cug)) ?_;refine fC (aj16 @okc0 @len0 @tk0 @dr0 @okc1 @len1 @tk1 @dr1 @Zaz @okcw @lenw @tkw @drw @lu0 @tu0 (aj10 @du0 @cu0 @lu1 @tu1 @du1 @cu1 @lug @tug @dug @cug)) (cT1) ?_
 have F:=aj16 @okc0 @len0 @tk0 @dr0 @okc1 @len1 @tk1 @dr1 @Zaz @okcw @lenw @tkw @drw @lu0 @tu0 (aj10 @du0 @cu0 @lu1 @tu1 @du1 @cu1 @lug @tug @dug @cug);refine gCP [1001] [1001] (ZhH (lits:=[.agg (Zag us1),.agg row1]) [.set E1 (fun w=>Zae w row1 E1 us1)] cQ1 ⟨.tree Tas,.same,trivial⟩ rfl rfl) ?_;clear F;rintro r pm ⟨rfl,rfl⟩;simp only [setA,retA,zipM,Taf,Tah];refine fR (aj16 @okc0 @len0 @tk0 @dr0 @okc1 @len1 @tk1 @dr1 @Zaz @okcw @lenw @tkw @drw @lu0 @tu0 (aj10 @du0 @cu0 @lu1 @tu1 @du1 @cu1 @lug @tug @dug @cug)) ?_
 refine fB (aj16 @okc0 @len0 @tk0 @dr0 @okc1 @len1 @tk1 @dr1 @Zaz @okcw @lenw @tkw @drw @lu0 @tu0 (aj10 @du0 @cu0 @lu1 @tu1 @du1 @cu1 @lug @tug @dug @cug)) ?_;have F:=aj16 @okc0 @len0 @tk0 @dr0 @okc1 @len1 @tk1 @dr1 @Zaz @okcw @lenw @tkw @drw @lu0 @tu0 (aj10 @du0 @cu0 @lu1 @tu1 @du1 @cu1 @lug @tug @dug @cug);refine gCP [1000] [1000] (Zj9 hok0 (1) E0 us0 om cu0 om om) ?_;clear F;rintro r pm ⟨F0,rfl,rfl⟩
 simp only [setA,retA,zipM,Taf,Tah];refine fR (aj16 @okc0 @len0 @tk0 @dr0 @okc1 @len1 @tk1 @dr1 @Zaz @okcw @lenw @tkw @drw @lu0 @tu0 (aj10 @du0 @cu0 @lu1 @tu1 @du1 @cu1 @lug @tug @dug @cug)) ?_;refine fB (aj16 @okc0 @len0 @tk0 @dr0 @okc1 @len1 @tk1 @dr1 @Zaz @okcw @lenw @tkw @drw @lu0 @tu0 (aj10 @du0 @cu0 @lu1 @tu1 @du1 @cu1 @lug @tug @dug @cug)) ?_;have F:=aj16 @okc0 @len0 @tk0 @dr0 @okc1 @len1 @tk1 @dr1 @Zaz @okcw @lenw @tkw @drw @lu0 @tu0 (aj10 @du0 @cu0 @lu1 @tu1 @du1 @cu1 @lug @tug @dug @cug);refine gCP [1001] [1001] (ZgR hok1 (1+(cntTop row0:Int)) E1 us1 om cu1 om om) ?_;clear F
 rintro r pm ⟨F1,rfl,rfl⟩;simp only [setA,retA,zipM,Taf,Tah];refine fR (aj16 @okc0 @len0 @tk0 @dr0 @okc1 @len1 @tk1 @dr1 @Zaz @okcw @lenw @tkw @drw @lu0 @tu0 (aj10 @du0 @cu0 @lu1 @tu1 @du1 @cu1 @lug @tug @dug @cug)) ?_;refine fG (aj16 @okc0 @len0 @tk0 @dr0 @okc1 @len1 @tk1 @dr1 @Zaz @okcw @lenw @tkw @drw @lu0 @tu0 (aj10 @du0 @cu0 @lu1 @tu1 @du1 @cu1 @lug @tug @dug @cug)) ?_;have nk:(1+(cntTop row0:Int)+(cntTop row1:Int) < 0)=False:=eq_false om
 refine gB ?_;have F:=aj16 @okc0 @len0 @tk0 @dr0 @okc1 @len1 @tk1 @dr1 @Zaz @okcw @lenw @tkw @drw @lu0 @tu0 (aj11 @du0 @cu0 @lu1 @tu1 @du1 @cu1 @lug @tug @dug @cug @nk);refine gCP [1100] [1100] (ZhH (lits:=[.agg (Zag usg),.agg wr]) [.set Eg (fun w=>Zae w wr Eg usg)] cE ⟨.tree Tas,.same,trivial⟩ rfl rfl) ?_;clear F;rintro r pm ⟨rfl,rfl⟩;simp only [setA,retA,zipM,Taf,Tah];refine fR (aj16 @okc0 @len0 @tk0 @dr0 @okc1 @len1 @tk1 @dr1 @Zaz @okcw @lenw @tkw @drw @lu0 @tu0 (aj12 @du0 @cu0 @lu1 @tu1 @du1 @cu1 @lug @tug @dug @cug @nk @beq_self_eq_true.{0})) ?_
 refine fB (aj16 @okc0 @len0 @tk0 @dr0 @okc1 @len1 @tk1 @dr1 @Zaz @okcw @lenw @tkw @drw @lu0 @tu0 (aj12 @du0 @cu0 @lu1 @tu1 @du1 @cu1 @lug @tug @dug @cug @nk @beq_self_eq_true.{0})) ?_;have F:=aj16 @okc0 @len0 @tk0 @dr0 @okc1 @len1 @tk1 @dr1 @Zaz @okcw @lenw @tkw @drw @lu0 @tu0 (aj11 @du0 @cu0 @lu1 @tu1 @du1 @cu1 @lug @tug @dug @cug @nk);refine gCP [1100] [1100] (ZgR hokw 1 Eg usg om cug om om) ?_;clear F
 rintro r pm ⟨Fg,rfl,rfl⟩;simp only [setA,retA,zipM,Taf,Tah];refine fR (aj16 @okc0 @len0 @tk0 @dr0 @okc1 @len1 @tk1 @dr1 @Zaz @okcw @lenw @tkw @drw @lu0 @tu0 (aj11 @du0 @cu0 @lu1 @tu1 @du1 @cu1 @lug @tug @dug @cug @nk)) ?_;refine fG (aj16 @okc0 @len0 @tk0 @dr0 @okc1 @len1 @tk1 @dr1 @Zaz @okcw @lenw @tkw @drw @lu0 @tu0 (aj11 @du0 @cu0 @lu1 @tu1 @du1 @cu1 @lug @tug @dug @cug @nk)) ?_;have nm:(1+(cntTop wr:Int) < 0)=False:=eq_false om
 have cH:=Zk7 hokw om 1 om om;refine gB ?_;have F:=aj16 @okc0 @len0 @tk0 @dr0 @okc1 @len1 @tk1 @dr1 @Zaz @okcw @lenw @tkw @drw @lu0 @tu0 (aj12 @du0 @cu0 @lu1 @tu1 @du1 @cu1 @lug @tug @dug @cug @nk @nm);refine gCP [1100] [1100] (ZhH (lits:=[.agg (Zag usg),.one (.lit (.int .i64 1))]) [.set Fg (fun w=>Zae w (Zcq 1 wr) Fg usg)] cH ⟨.tree Tas,.same,trivial⟩ rfl rfl) ?_;clear F;rintro r pm ⟨rfl,rfl⟩;simp only [setA,retA,zipM,Taf,Tah]
 refine fR (aj16 @okc0 @len0 @tk0 @dr0 @okc1 @len1 @tk1 @dr1 @Zaz @okcw @lenw @tkw @drw @lu0 @tu0 (aj12 @du0 @cu0 @lu1 @tu1 @du1 @cu1 @lug @tug @dug @cug @nk @nm)) ?_;refine fG (aj16 @okc0 @len0 @tk0 @dr0 @okc1 @len1 @tk1 @dr1 @Zaz @okcw @lenw @tkw @drw @lu0 @tu0 (aj13 @du0 @cu0 @lu1 @tu1 @du1 @cu1 @lug @tug @dug @cug @nk @nm @beq_self_eq_true.{0})) ?_;have cD:=Zya him;refine gLt 9 8 10 ?_;refine fC (aj13 @okc0 @len0 @tk0 @dr0 @okc1 @len1 @tk1 @dr1 @Zaz @okcw @lenw @tkw @drw) (cT0) ?_
 refine fC (aj13 @okc0 @len0 @tk0 @dr0 @okc1 @len1 @tk1 @dr1 @Zaz @okcw @lenw @tkw @drw) (cT1) ?_;refine fC (aj16 @okc0 @len0 @tk0 @dr0 @okc1 @len1 @tk1 @dr1 @Zaz @okcw @lenw @tkw @drw @lu0 @tu0 (aj12 @du0 @cu0 @lu1 @tu1 @du1 @cu1 @lug @tug @dug @cug @nk @nm)) (cD) ?_;refine fR (aj16 @okc0 @len0 @tk0 @dr0 @okc1 @len1 @tk1 @dr1 @Zaz @okcw @lenw @tkw @drw @lu0 @tu0 (aj12 @du0 @cu0 @lu1 @tu1 @du1 @cu1 @lug @tug @dug @cug @nk @nm)) ?_
 refine fB (aj16 @okc0 @len0 @tk0 @dr0 @okc1 @len1 @tk1 @dr1 @Zaz @okcw @lenw @tkw @drw @lu0 @tu0 (aj12 @du0 @cu0 @lu1 @tu1 @du1 @cu1 @lug @tug @dug @cug @nk @nm)) ?_;refine fC (aj16 @okc0 @len0 @tk0 @dr0 @okc1 @len1 @tk1 @dr1 @Zaz @okcw @lenw @tkw @drw @lu0 @tu0 (aj12 @du0 @cu0 @lu1 @tu1 @du1 @cu1 @lug @tug @dug @cug @nk @nm)) (cE) ?_;refine fR (aj16 @okc0 @len0 @tk0 @dr0 @okc1 @len1 @tk1 @dr1 @Zaz @okcw @lenw @tkw @drw @lu0 @tu0 (aj13 @du0 @cu0 @lu1 @tu1 @du1 @cu1 @lug @tug @dug @cug @nk @nm @beq_self_eq_true.{0})) ?_
 refine fB (aj16 @okc0 @len0 @tk0 @dr0 @okc1 @len1 @tk1 @dr1 @Zaz @okcw @lenw @tkw @drw @lu0 @tu0 (aj13 @du0 @cu0 @lu1 @tu1 @du1 @cu1 @lug @tug @dug @cug @nk @nm @beq_self_eq_true.{0})) ?_;have F:=aj16 @okc0 @len0 @tk0 @dr0 @okc1 @len1 @tk1 @dr1 @Zaz @okcw @lenw @tkw @drw @lu0 @tu0 (aj12 @du0 @cu0 @lu1 @tu1 @du1 @cu1 @lug @tug @dug @cug @nk @nm);refine gCP [1100] [1100] (ZhH (lits:=[.agg (Zag usg),.one (.lit (.int .i64 1))]) [.set Fg (fun w=>Zae w (Zcq 1 wr) Fg usg)] cH ⟨.tree Tas,.same,trivial⟩ rfl rfl) ?_;clear F
 rintro r pm ⟨rfl,rfl⟩;simp only [setA,retA,zipM,Taf,Tah];refine fR (aj16 @okc0 @len0 @tk0 @dr0 @okc1 @len1 @tk1 @dr1 @Zaz @okcw @lenw @tkw @drw @lu0 @tu0 (aj12 @du0 @cu0 @lu1 @tu1 @du1 @cu1 @lug @tug @dug @cug @nk @nm)) ?_;exact fT (aj16 @okc0 @len0 @tk0 @dr0 @okc1 @len1 @tk1 @dr1 @Zaz @okcw @lenw @tkw @drw @lu0 @tu0 (aj13 @du0 @cu0 @lu1 @tu1 @du1 @cu1 @lug @tug @dug @cug @nk @nm @beq_self_eq_true.{0}))
theorem Zhp (w:World) (hT:ZcV w) (row0:List C) (S0:Nat->Prop) (us0:List Value) (hok0:Zal (sigF) row0) (hv0:Zac w S0 row0 us0) (row1:List C) (S1:Nat->Prop) (us1:List Value) (hok1:Zal (Zaf .eqn) row1) (hv1:Zac w S1 row1 us1) (s2:ByteArray) (hs2:s2.size<=maxLen) :
  Calls Tryz.prog 3 #[(.agg us0.toArray:Value),(.agg us1.toArray:Value),(.string s2:Value)] w fun e w'=>e=.returned (.bool true)∧Below w.heap.size w w':=by
 obtain ⟨g,rfl,k0⟩:=ZBS hok0;obtain ⟨e,rfl,k1⟩:=ZCa hok1
 have hc:=(ZhK hok0 hok1 (ZCz) (fun b0 b1 b2 bt=>ZCh) (fun b0 b1 b2 bt=>Zua k0 k1 b1 b2) (fun b0 b1 b2 bt=>Zrd k0 k1 b1 b2)).2 w (fun b=>b < w.heap.size∧b≠3) [(.agg us0.toArray:Value),(.agg us1.toArray:Value),(.string s2:Value)] (fun b hb=>⟨hb.1,hb.2⟩) (ZBV hT) hT
  ⟨⟨us0,rfl,Zac.off (Zw3 hT) _ _ _ hok0 hv0.inside'⟩,⟨us1,rfl,Zac.off (Zw3 hT) _ _ _ hok1 hv1.inside'⟩,rfl,trivial⟩
 refine hc.mono fun e w' ⟨v,h1,h2,h3,h4⟩=>⟨?_,h2.belowT hT h3⟩;have h4:v=.bool true:=by simpa [retA,ARel,DRel,Rep] using h4
 rw [h1,h4]
end Go.Proofs.YtjoaefnnnbpflaaGreatDoor
