/-
  Part of a proof.
-/
import Derived.Test.YtaenibhihgfehaaGreatDoorBUnifyCard0
import Derived.Test.YtaenibhihgfehaaGreatDoorBUnifyCard1
import Derived.Test.YtaenibhihgfehaaGreatDoorBUnifyCard2
import Derived.Test.YtaenibhihgfehaaGreatDoorBUnifyCard3
import Derived.Test.YtaenibhihgfehaaGreatDoorBUnifyCard4
import Derived.Shelf.Lays7
import Derived.Test.YtaenibhihgfehaaGreatDoorChecked
import Derived.Shelf.Spec.TrailingZeros
import Derived.Shelf.SlSortCmp.WholeK
import Derived.Shelf.SlSortCmp.NoneTotal
import Derived.Lib.QuietBelow
import Derived.Shelf.SlLaysF0
import Derived.Shelf.Lays8
import Derived.Shelf.Spec.SlicesGrow
set_option linter.unusedSimpArgs false
set_option linter.unusedVariables false
set_option linter.defProp false
set_option maxHeartbeats 400000000
set_option maxRecDepth 100000
namespace Go.Proofs.YtaenibhihgfehaaGreatDoor
open Go.Shelf
end Go.Proofs.YtaenibhihgfehaaGreatDoor
namespace Go.Proofs.YtaenibhihgfehaaGreatDoor
open Go.RowKit
variable{G3 G4 G5:Prop}
section
variable{g:Sgn}{mc:C}
end
section
variable{g:Sgn}
end
section
variable{g:Sgn}
def AppOk.len7(hg:SgnOk g){t:Tm}{o:Opr}{d:Dcl}(hA:AppOk g t o d):t.Y.length<=7:=by
 cases ha:o.Θ with
 |true=>exact(hA.asc ha).2
 |false =>
  rw[hA.nas ha];have:=(hg.Z o (Tac hA.at')).ar d hA.fst;omega
def AppOk.dlen(hg:SgnOk g){t:Tm}{o:Opr}{d:Dcl}(hA:AppOk g t o d)(ha:o.Θ=false):∀f∈o.Z,f.Y.length=t.Y.length:=by
 intro f hf;rw[hA.nas ha];exact((hg.Z o (Tac hA.at')).all d hA.fst f hf).len
def ZoU{t a:Tm}{i:Nat}(h:t.Y[i]?=some a):(t.Y.take i).map (av g)++[av g a]=(t.Y.take (i+1)).map (av g):=by
 rw[List.take_add_one,h,Tbw];rfl
end
def m61(b:G5)(h:Bx G5->G4:=by
 intro B0
 have nK:(nR (up g.V)).length=g.V.O.length:=by rw[gH,(rA (SortsOk.subsIn hs.Ψ)).1]
 have rr:=iS (l:=up g.V);exact B0.o nK rr):G4:=h ⟨b⟩
def ZnF(x:Int):aI e0 215 [GT x] [GW (decide (0<=x/\x<65536))]:=by
 refine gI 5 Tryz.func215 ?_;by_cases h1:0<=x
 ·by_cases h2:x<65536
  ·exact fT (ai @h1 @h2)
  ·exact fT (ai @h1 @h2)
 ·exact fT @h1
def Ztm{a:Nat}(h:a<65536):decide (0<=(a:Int)/\(a:Int)<65536):=decide_eq_true om
def Zyt{a b:Nat}(ha:a<65536)(hb:b<65536):aI e0 230 [GT a,GT b] [GW (decide (a&&&b=a))]:=by
 have cA:=ZnF (a:Int);have cB:=ZnF (b:Int);rw[Ztm ha]at cA;rw[Ztm hb]at cB;have h2:decide (((a&&&b:Nat):Int)=(a:Int))=decide (a&&&b=a):=by
  rw[Bool.eq_iff_iff,decide_eq_true_eq,decide_eq_true_eq];omega
 refine gI (ts:=[.slot 4]) 19 Tryz.func230 ?_;refine cg 1 @ae @ae (cA) ?_;refine fC @ae (cB) ?_;exact iF (aj3 (wK (a:=a) (b:=b) om om) @h2 @ae) @ae
def ZqN{a:Nat}(ha:a<65536):aI e0 193 [GT a] [.I (.sl (nR (cj a)))]:=by
 have cS:=ZnF (a:Int);rw[Ztm ha]at cS;refine gI 67613 Tryz.func193 ?_;refine fG @aJ ?_;have F:=@Zxo;refine gL (ι:=Nat) [3,4,11,16] [3] (λk=>[(4,GU k),(3,.Υ 3)]) (λk=>[(3,.Υ none 3 1 (nR (mo a k)))]) (λk=>k<=16) (λk=>16-k) (0) om (λk hk=>?_);by_cases am:k<16;rotate_left
 ·exact m120
 have q1:=lT k 16;have hw:=bW (k:=k) om;refine m132 λl2 l3 l4 c8=>?_;refine cq 5 @aJ @aJ (uE (a:=a) (k:=k) om am) @aJ ?_
 cases hb:bG a k with
 |false =>
  rw[<- ZqC hb];have F:=aj3 @q1 @bw @hw;exact EM
 |true =>
  rw[<- ZoA hb]at l4;have F:=aj7 @q1 @bw @l2 @l3 @l4 @c8 @hw;exact EM
section
variable{g:Sgn}
def ZHE(hs:SortsOk g.V){k:Int}(h0:0<=k)(h1:k<g.V.O.length):fy g k=db (λj=>bG ((up g.V).getD j 0) k.toNat=true) g.V.O.length :=
 FE (Be hs h0 h1).2 λi hi=>by
  rw[ZjA hs k i];simp only[hi,true_and];rfl
def ZoV(aq:kL g)(hs:SortsOk g.V){k:Int}(h0:0<=k)(h1:k<g.V.O.length):aI e0 217 [.agg (gt g.V),GT k] [GT (fy g k:Nat)]:=by
 have hN:=hs.n8;have cS:=Zhj (s:=g.V) aq.1;rw[E7 hs]at cS;have cI:=zr k 0 ((g.V.O.length:Int)-1);rw[decide_eq_true om]at cI;have cU:=CD hs.n8 hs.m16 (SortsOk.subsIn hs.Ψ);obtain⟨kn,rfl⟩:∃kn:Nat,k=kn:=⟨k.toNat,om⟩;rw[ZHE hs h0 h1];simp only[Tbz];rw[gt]at cS cU⊢;have fI:IntKind.i64.wrap ((g.V.O.length:Int)-1)=(g.V.O.length:Int)-1:=Znw (by have:=hs.n1;omega) om
 refine m61 λnK rr=>?_;generalize hP:(λj=>bG ((up g.V).getD j 0) kn=true)=P;have mV:∀i,db P (i+1)=db P i ||| (if bG ((up g.V).getD i 0) kn=true then 2 ^ i else 0):=λi=>by
  subst hP;rw[db];congr 1;split<;>rename_i h<;>simp[h]
 have z0:((db P 0:Nat):Int)=0:=rfl;refine gI (ts:=[.slot 4]) 17247502583 Tryz.func217 ?_;refine cg 2 @ae @ae (cS) ?_;refine oZ (ai @fI @ae) (cI) (ai @fI @ae) ?_;refine cg 4 @ae @ae (cU) ?_;refine ec @ae @ae ?_;have F:=ai @z0 @ae;refine gL (ι:=Nat) [5,7,26,34] [] (λi=>[(7,GU i),(5,GU (db P i))]) (λi=>[]) (λi=>i<=g.V.O.length) (λi=>g.V.O.length-i) (0) (Taj _) (λi hi=>?_)
 by_cases am:i<g.V.O.length;rotate_left
 ·exact m79
 have gp:=bW (k:=i) om;have hu:=(rA (SortsOk.subsIn hs.Ψ)).get am;have h2p:2 ^ i<2 ^ g.V.O.length:=Nat.pow_lt_pow_right om am;have nS:=zp (iU (Tbd (sx P i) (Tbt om hi)) hN) (iU h2p hN);refine cq 8 (aj3 (lT i g.V.O.length) @nK @ae) (aj6 (gN hu.1) @rr @nK @am @bw @ae) (uE (a:=(up g.V).getD i 0) (k:=kn) (iU hu.2 hN) om) @ae ?_
 cases ht:bG ((up g.V).getD i 0) kn with
 |false =>
  have e:=mV i;rw[ht,if_neg (by simp),Nat.or_zero]at e;rw[<- e];have F:=ai @gp @ae;exact yV
 |true =>
  have e:=mV i;rw[ht,if_pos rfl]at e;rw[<- e]at nS;refine cq 9 @ae @ae (Zg7 (k:=i) om) (ai @nS @ae) ?_;have F:=ai @gp @ae;exact yV
end
section
variable{g:Sgn}
def Fx(g:Sgn)(b:Nat)(t:Tm)(l:List (ByteArray×Value))(r:AS)(pm:GQ):Prop:=∃l',r=[GT (av g t:Nat)]/\pm=[ff b l']/\mE g l'/\jl g (ah t) l l'
def ZIJ:∀(b:Nat)(l:List (ByteArray×Value)),pinned (ff b l):=λ_ _=>rfl
end
section
variable{g:Sgn}
def RAlg(g:Sgn)(r:AS)(pm:GQ):Prop:=∃b:Nat,r=[.I (.ptr (bx g (.A (.map (some b))))),GW true]/\pm=[ff b []]
def Zvp(aq:kL g)(hg:SgnOk g):aT e0 28 [.agg (ck g)] [] (RAlg g):=by
 have hs:oS g:=Zgk hg;have c:=Zje aq;rw[hs,ck]at c;have c2:=Zlt aq.1 hg.V;rw[gt,wR]at c2;rw[ck];refine dX (ts:=[.slot 2,.slot 3]) [] 287 Tryz.func28 ?_;refine cq 1 @ae @ae (c) @ae ?_;refine cq 3 @ae @ae (c2) @ae ?_;refine dC 4 @ae 2 @ae ?_;refine gMk λb=>?_
 refine fR @ae ?_;refine rp (vH [19] (by have F:=@ae;exact iK)) λy' G6=>?_;subst G6;exact(have F:=ae;ee (R:=RAlg g) [17] ⟨b,rfl,rfl⟩ (hp:=rfl))
end
section
variable{g:Sgn}{l:GP}
def dp.term{t:Tm}(h:dp g t):TermOk g t:=by
 have qv:t.Y=[]:=h.2.2.2.2;have hf:e6 g t:=mH.2 ⟨.inl h,(by rw[qv];intro a ha;cases ha),.inl h.1⟩;have h1:=iB t;rw[qv,ZqK]at h1;have h2:=ZoH t;exact⟨om,om,hf⟩
def TermOk.var{t:Tm}(h:TermOk g t)(ho:t.op=-1):dp g t:=h.Η.node.resolve_right λ⟨o,d,hA⟩=>by have:=hA.lo;omega
end
def m261(h:G3:=by
 rcases ht.Η.node with h|⟨o,d,h⟩
 ·exact h
 ·have:=h.lo;omega):G3:=h
def m113(h:G3:=by
 cases h:fx l t with
 |none=>simp only[Option.getD_none,qv]
 |some u =>
  obtain⟨y,hy,_,rfl⟩:=Zin h;simp only[Option.getD_some,(hR y hy).to'.2.2.2.2]):G3:=h
structure RenAt(g:Sgn)(y:Bd):Prop where
 var:dp g y.var
 to':dp g y.to
 kd':kd g.V y.to.sort=kd g.V y.var.sort
def qk(g:Sgn)(l:GP):Prop:=∀y∈l,RenAt g y
def Zin:∀{l:GP}{v u:Tm},fx l v=some u->∃y∈l,y.var=v/\y.to=u
 | b::l,v,u,h=>by
  simp only[fx]at h;split at h
  ·rename_i e;injection h with h
   exact⟨b,Tas,ro.1 e,h⟩
  ·obtain⟨y,hy,h⟩:=Zin h;exact⟨y,Tal _ hy,h⟩
def ZlL{o:Opr}{op:Int}:∀{us:AI},(∀b∈us,(o.Θ->b.op≠op)/\(o.Ω≠0->b.op≠o.Ω-1))->cd o op us=us
 |[],_=>rfl
 |b::us,h=>by
  have h1:=h b Tas;rw[cd,List.flatMap_cons,show us.flatMap (fo o op)=us from ZlL λb hb=>h b (Tal _ hb),fo,if_neg λe=>h1.1 e.1 e.2,if_neg λe=>h1.2 e.1 e.2];rfl
def ZES{g:Sgn}{l:GP}(hR:qk g l){t:Tm}(ht:t.op=-1):((fx l t).getD t).op=-1/\dS g ((fx l t).getD t)=dS g t:=by
 cases h:fx l t with
 |none=>exact⟨ht,rfl⟩
 |some u =>
  obtain⟨y,hy,rfl,rfl⟩:=Zin h;have:=hR y hy;refine⟨this.to'.1,?_⟩;show dS g y.to=_;unfold dS;rw[if_pos this.to'.1,if_pos this.var.1,this.kd']
structure RenTo(g:Sgn)(l:GP)(t u:Tm):Prop where
 size:ah u=ah t
 depth:aH u=aH t
 kind:dS g u=dS g t
 op:u.op=t.op
 Y:t.op≠-1->∃o us,g.ops[t.op.toNat]?=some o/\bU g l t.Y=some us/\u.Y=bC o us/\(o.comm->o.Θ=false->us.length=2)
def ZtE{g:Sgn}{l:GP}:∀{ts:AI},(∀a∈ts,∃u,co g l a=some u/\RenTo g l a u)->∃us,bU g l ts=some us/\au us=au ts/\aB us=aB ts/\∀(i:Nat)b,us[i]?=some b->∃a,ts[i]?=some a/\co g l a=some b/\RenTo g l a b
 |[],_=>⟨[],by simp only[bU],rfl,rfl,λi b h=>by simp at h⟩
 | t::ts,h=>by
  obtain⟨u,h1,h2⟩:=h t Tas;obtain⟨us,h3,h4,h5,h6⟩:=ZtE (ts:=ts) λa ha=>h a (Tal _ ha);refine⟨u::us,by simp only[bU,h1,h3,Option.bind_some,Option.map_some],by simp only[au,h2.size,h4],by simp only[aB,h2.depth,h5],λi b hb=>?_⟩
  cases i with
  |zero =>
   simp only[Tat,Taq]at hb;subst hb;exact⟨t,rfl,h1,h2⟩
  |succ i=>exact h6 i b (by simpa using hb)
def Zke {g:Sgn} (hg:SgnOk g) {l:GP} (hR:qk g l):∀(n:Nat)(t:Tm),ah t<n->TermOk g t->∃u,co g l t=some u/\RenTo g l t u
 |0,t,hn,_=>om
 | n+1,t,hn,ht=>by
  by_cases hv:t.op=-1
  ·have hV:dp g t:=by
    exact m261
   have qv:t.Y=[]:=hV.2.2.2.2;have h1:=ZES hR hv;refine⟨_,yt hv,?_,?_,h1.2,by rw[h1.1,hv],λh=>absurd hv h⟩
   ·rw[iB,iB t,qv]
    exact m113
   ·rw[zh,zh t,qv]
    exact m113
  ·obtain⟨o,d,hA⟩:∃o d,AppOk g t o d:=by
    rcases ht.Η.node with h|h
    ·exact absurd h.1 hv
    ·exact h
   have hRt:Zjz g t.op t.Y:=(mH.1 ht.Η).2.2.resolve_left hv;have hs:=hn;rw[iB]at hs;obtain⟨us,h1,h2,h3,h4⟩:=ZtE (g:=g) (l:=l) (ts:=t.Y) λa ha=>by
    have:=kv ha;exact Zke hg hR n a om (ht.arg ha)
   have hl:us.length=t.Y.length:=Zkc h1;have DE:=λh=>Opr.deg2 hg hA.at' h d (Tac hA.fst);have nN:cd o t.op us=us:=ZlL λb hb=>by
    obtain⟨i,hi⟩:=Tbl hb;obtain⟨a,ha,_,mO⟩:=h4 i b hi;have zW:=hRt o d hA.at' hA.fst i a ha;rw[mO.op];exact⟨zW.nest,zW.Ω⟩
   have hS:au (bC o us)=au t.Y:=by rw[Zfd (uF o us),h2]
   have hD:aB (bC o us)=aB t.Y:=by rw[ZfO (uF o us),h3]
   have ky:ah (b7 t.op (bC o us))=ah t:=by rw[iB,iB t];exact congrArg (1+·) hS
   have Ge:aH (b7 t.op (bC o us))=aH t:=by rw[zh,zh t];exact congrArg (1+·) hD
   refine⟨b7 t.op (bC o us),?_,ky,Ge,?_,rfl,λ_=>⟨o,us,hA.at',h1,rfl,λhc ha=>by rw[hl,hA.nas ha];exact DE (.inr (.inl hc))⟩⟩
   ·rw[sS hv,h1,Option.bind_some,vS hA.at' hA.fst,lX,nN,if_neg,if_pos,qI,if_neg,if_neg]
    ·rintro(⟨ha,hb⟩|hb|hb)
     ·rw[Zil,hl]at hb;have:=(hA.asc ha).2;omega
     ·rw[ky]at hb;have:=ht.size;omega
     ·rw[Ge]at hb;have:=ht.depth;omega
    ·rintro⟨hu,hb⟩;rw[hl]at hb
     cases ha:o.Θ with
     |true=>have:=(hA.asc ha).1;omega
     |false =>
      have:=hA.nas ha;have:=DE (.inr (.inr hu));omega
    ·intro i b hb;obtain⟨a,ha,_,mO⟩:=h4 i b hb;have zW:=hRt o d hA.at' hA.fst i a ha;have e7:=(Tad.1 ha).1;have am:eG o i<d.Y.length:=by
      unfold eG
      cases iQ:o.Θ with
      |true=>rw[if_pos rfl,DE (.inl iQ)];omega
      |false=>rw[if_neg (by simp),<- hA.nas iQ];exact e7
     exact⟨_,Taa am,by rw[mO.kind];exact zW.kind _ (Taa am)⟩
    ·rintro(⟨ha,hb⟩|⟨ha,hb⟩)
     ·rw[hl]at hb;have:=(hA.asc ha).1;omega
     ·rw[hl]at hb;exact hb (hA.nas ha)
   ·unfold dS;rw[if_neg hv,if_neg (show(b7 t.op (bC o us)).op≠-1 from hv)];rfl
def ci(k:Nat):ByteArray:=if k<10 then⟨#[UInt8.ofNat (48+k)]⟩else⟨#[UInt8.ofNat (48+k / 10),UInt8.ofNat (48+k % 10)]⟩
section
variable{L:ByteArray}{l:AI}
def ZtF{s:ByteArray}(h0:∀(i:Nat)(h:i<s.size),ow (s[i].toNat:Int))(h1:∀h:0<s.size,¬(s[0].toNat:Int)<=57):j5 s 0:=by
 unfold j5;rw[List.all_eq_true];intro i hi;have dR:i<s.size:=by simpa using hi
 rw[(by unfold CU;rw[dif_pos dR]:CU s i=(s[i].toNat:Int)),h0 i dR]
 cases i with
 |zero=>simpa using h1 dR
 |succ i=>simp
def ZtG{s:ByteArray}(h:j5 s 0)(h0:0<s.size):ow (s[0].toNat:Int)/\¬(s[0].toNat:Int)<=57:=by
 rw[ZkN h0,Tar,Tar]at h;exact⟨h.1.1,by simpa using h.1.2⟩
def Zo6{k:Nat}(hk:k<100):∀(i:Nat)(h:i<(ci k).size),48<=(ci k)[i].toNat/\(ci k)[i].toNat<=57:=by
 have:∀k<100,(ci k).data.toList.all (λb=>decide (48<=b.toNat/\b.toNat<=57)):=by decide +kernel
 intro i h
 have h2:=List.all_eq_true.1 (this k hk) ((ci k)[i]) (by
  have:(ci k)[i]=(ci k).data[i]'h:=rfl;rw[this,Array.mem_toList_iff];exact Array.getElem_mem _)
 simpa using h2
def ZlM(k:Nat):(ci k).size=if k<10 then 1 else 2:=by
 unfold ci;split<;>rfl
def ZtH{L M:ByteArray}(h1:L.size=1)(h:0<(L++M).size):(L++M)[0]=L[0]'om:=ByteArray.getElem_append_left om
def ZtI{L M:ByteArray}(h1:L.size=1){i:Nat}(h:i+1<(L++M).size)(h2:i<M.size):(L++M)[i+1]=M[i]:=by
 rw[ByteArray.getElem_append_right om];simp only[h1,Nat.add_sub_cancel]
def ZyF {L:ByteArray} (hL:jc L) (h1:L.size=1) {k:Nat} (hk:k<100):jc (L++ci k):=by
 have hs:(L++ci k).size=1+(ci k).size:=by rw[ByteArray.size_append,h1]
 have h2:=ZlM k;have hb:1<=(ci k).size/\(ci k).size<=2:=by rw[h2];split<;>omega
 simp only[jc,Tar]at hL;have hf:=ZtG hL.2 om;have d0:=Zo6 hk 0 om;have g1:(L++ci k)[1]'om=(ci k)[0]'om:=ZtI h1 (i:=0) om om;have hn:j5 (L++ci k) 0:=by
  refine ZtF (λi hi=>?_) (λh0=>?_)
  ·cases i with
   |zero=>rw[ZtH h1 hi];exact hf.1
   |succ i =>
    have DI:i<(ci k).size:=om;rw[ZtI h1 hi DI];have:=Zo6 hk i DI;simp only[ow,Bool.or_eq_true,decide_eq_true_eq];omega
  ·rw[ZtH h1 h0];exact hf.2
 have aP:∀(b c:UInt8)(r:List UInt8),57<c.toNat->(L++ci k).toList≠b::c::r:=λb c r hc e=>by
  rw[ByteArray.toList_eq]at e;have e1:(L++ci k).data.toList[1]?=some c:=by rw[e];rfl
  have e2:(L++ci k).data.toList[1]?=some ((L++ci k)[1]'om):=by
   rw[Taa (by rw[Array.length_toList];exact(by omega:1<(L++ci k).size))];rfl
  rw[e2,g1]at e1;injection e1 with e1
  rw[e1]at d0;omega
 have n2:=aP 97 110 [100] (by decide);simp only[jc,hn,Bool.and_true,Tar,decide_eq_true_eq,Bool.not_eq_true',beq_eq_false_iff_ne];exact⟨⟨om,(aP 105 102 [] (by decide))⟩,n2⟩
end
end Go.Proofs.YtaenibhihgfehaaGreatDoor
namespace Go.Proofs.YtaenibhihgfehaaGreatDoor
open Go.RowKit
open Go.Sort (grow HoldsK putRowK flatK SWO PermIn SortedIn Holds mapBlock onCells putRow putCells get_flatK size_flatK)
variable{G3 G4 G5:Prop}
def m206(h:G3:=by
 rw[getElem!_pos d i e7];have:=(Tad.1 hi).2;simpa using this):G3:=h
def m190(h:G3:=by
 rw[Array.getElem?_append_left (by simpa using hb),Array.getElem?_modify,if_pos rfl,hh];rfl):G3:=h
def m176(h:G3:=by
 rw[Array.getElem?_append_left (by simpa using hj),Array.getElem?_modify,if_neg (λe=>aP e.symm)]):G3:=h
def Zq5{w w':World}(h:Kept True (λ_=>False) w.heap.size w w'):∃q os,w'=grow (w.drewN q) os:=by
 obtain⟨p,hp⟩:=regrown_of_below (w:=w) (w':=w') ⟨h.os,h.tape,h.output,h.size,λk hk=>h.block k hk id⟩;have hd:=h.drawn trivial;have e:p.d=w'.drawn:=by rw[hp];rfl
 refine⟨w'.drawn-w.drawn,p.os,?_⟩;have e2:redrawn w p.d=w.drewN (w'.drawn-w.drawn):=by
  unfold redrawn World.drewN;rw[e,show w.drawn+(w'.drawn-w.drawn)=w'.drawn by omega]
 rw[<- e2];exact hp
abbrev SRow(w:World)(S:GO)(Q:we->Prop):={x:we×GK // Q x.1/\aC w S x.1 x.2}
def ZnH{w:World}{S:GO}{b k:Nat}{Q:we->Prop}(hk:∀r,Q r->r.length=k):∀(rows:sh)(off:Nat),(∀r∈rows,Q r)->ct w S b off rows->∃l:List (SRow w S Q),l.map (λx=>x.1.1)=rows/\∀(i:Nat)x,l[i]?=some x->∀j u,x.1.2[j]?=some u->w.cell? ⟨b,off+i*k+j,none⟩=some u
 |[],off,_,_=>⟨[],rfl,λi x h=>by simp at h⟩
 | r::rs,off,hQ,h=>by
  simp only[ct]at h;obtain⟨vs,h1,h2⟩:=h.1.vals;obtain⟨l,e,hl⟩:=ZnH hk rs (off+r.length) (λx hx=>hQ x (Tal _ hx)) h.2;have hr:=hQ r Tas;refine⟨⟨(r,vs),hr,h1⟩::l,by simp[e],λi x hi j u hj=>?_⟩
  cases i with
  |zero =>
   simp only[Tat,Taq]at hi;subst hi;have:=h2 j u hj
   rwa [Nat.zero_mul,Nat.add_zero]
  |succ i =>
   have:=hl i x (by simpa using hi) j u hj;rw[hk r hr]at this
   rwa [show off+(i+1)*k+j=off+k+i*k+j by rw[Nat.succ_mul];omega]
def Zkg{w W:World}{S S2:GO}{b k:Nat}{Q:we->Prop}(hk:∀r,Q r->r.length=k)(hv:∀x:SRow w S Q,aC W S2 x.1.1 x.1.2):∀(l:List (SRow w S Q))(off:Nat),(∀(i:Nat)x,l[i]?=some x->∀j u,x.1.2[j]?=some u->W.cell? ⟨b,off+i*k+j,none⟩=some u)->ct W S2 b off (l.map (λx=>x.1.1))
 |[],off,_=>by simp[ct]
 | x::l,off,h=>by
  simp only[Tbv,ct];refine⟨a8.of_vals _ _ off (hv x) λj u hj=>?_,?_⟩
  ·have:=h 0 x rfl j u hj
   rwa [Nat.zero_mul,Nat.add_zero]at this
  ·rw[hk _ x.2.1];refine Zkg hk hv l (off+k) λi y hi j u hj=>?_;have:=h (i+1) y (by simpa using hi) j u hj
   rwa [show off+(i+1)*k+j=off+k+i*k+j by rw[Nat.succ_mul];omega]at this
def ZtL{α:Type}[Inhabited α]{enc:α->GK}{k:Nat}{W:World}{b:Nat}{d:Array α}(hk:∀x,(enc x).length=k)(h:HoldsK enc k W b 0 d){i:Nat}{x:α}(hi:d.toList[i]?=some x){j:Nat}{u:Value}(hj:(enc x)[j]?=some u):W.cell? ⟨b,0+i*k+j,none⟩=some u:=by
 have e7:i<d.size:=by have:=(Tad.1 hi).1;simpa using this
 have lJ:j<k:=by have:=(Tad.1 hj).1;rwa [hk]at this
 have ht:i*k+j<d.size*k:=by
  have:=Nat.mul_le_mul_right k (show i+1<=d.size from e7);rw[Nat.succ_mul]at this;omega
 have h1:=(h (i*k+j) (by rw[size_flatK];exact ht)).1;rw[get_flatK _ _ _ _ ht,show(i*k+j) / k=i by rw[Nat.add_comm,Nat.add_mul_div_right _ _ om,Nat.div_eq_of_lt lJ,Nat.zero_add],show(i*k+j) % k=j by rw[Nat.add_comm,Nat.add_mul_mod_self_right,Nat.mod_eq_of_lt lJ]]at h1;have e1:d[i]! = x:=by
  exact m206
 have e2:(enc x)[j]! = u:=by
  rw[getElem!_pos (enc x) j (by rw[hk];exact lJ)];exact(Tad.1 hj).2
 rw[e1,e2,<- Tby]at h1;exact h1
def ZCQ{α:Type}[Inhabited α]{enc:α->GK}{k:Nat}{w:World}{b:Nat}{l:List α}(hk:∀x,(enc x).length=k)(hf:∀o,w.frozen? ⟨b,o,none⟩=false)(h:∀(i:Nat)x,l[i]?=some x->∀j u,(enc x)[j]?=some u->w.cell? ⟨b,0+i*k+j,none⟩=some u):HoldsK enc k w b 0 l.toArray:=by
 intro t ht;refine⟨?_,hf _⟩;rw[size_flatK]at ht;have Gt:t<l.length*k:=by simpa using ht
 have k0 : 0 < k := by rcases Nat.eq_zero_or_pos k with e|e; · subst e; simp at Gt
                       ·exact e
 have hi:t / k<l.length:=Nat.div_lt_of_lt_mul (by rw[Nat.mul_comm];exact Gt);have hj:t % k<k:=Nat.mod_lt _ k0;rw[get_flatK _ _ _ _ ht];have e1:l.toArray[t / k]! = l[t / k]:=by rw[getElem!_pos _ _ (by simpa using hi)];rfl
 rw[e1,getElem!_pos _ _ (by rw[hk];exact hj)];have:=h (t / k) l[t / k] (Taa hi) (t % k) _ (Taa (by rw[hk];exact hj))
 rwa [show 0+t / k*k+t % k=0+t by have:=Nat.div_add_mod' t k;omega]at this
def aC.I{w:World}{S:GO}:∀{cs:we}{us:GK},cs.all bQ->aC w S cs us->∀v∈us,v.oneCell'=true
 |[],[],_,_,v,h=>by simp at h
 |c::cs,u::us,hc,h,v,hv=>by
  simp only[List.all_cons,Tar]at hc;simp only[aC]at h;rcases Tbh.1 hv with rfl|hv
  ·exact Zhs hc.1 h.1
  ·exact aC.I hc.2 h.2 v hv
 |[],_::_,_,h,_,_=>by simp[aC]at h
 |_::_,[],_,h,_,_=>by simp[aC]at h
def ZEV{α:Type}[Inhabited α]{enc:α->GK}{k:Nat}{w:World}{b n:Nat}{d:Array α}{os:Array Obj}{bf:Array Value}{ty:Nat}(hh:w.heap[b]?=some (.cells bf ty (0,0))):(sortWorldK enc k w b 0 n d os).heap[b]?=some (.cells (putCells id 0 (flatK enc k d) bf) ty (0,0)):=by
 have hb:b<w.heap.size:=(Tbm.1 hh).1;show((w.heap.modify b (onCells (putCells id 0 (flatK enc k d))))++os)[b]?=_;exact m190
def ZnI{α:Type}[Inhabited α]{enc:α->GK}{k:Nat}{w:World}{b n j:Nat}{d:Array α}{os:Array Obj}(hj:j<w.heap.size)(aP:j≠b):(sortWorldK enc k w b 0 n d os).heap[j]?=w.heap[j]?:=by
 show((w.heap.modify b (onCells (putCells id 0 (flatK enc k d))))++os)[j]?=_;exact m176
def Ft{α:Type}[Inhabited α]{enc:α->GK}{k:Nat}{w:World}{b n:Nat}{d:Array α}{os:Array Obj}:w.heap.size<=(sortWorldK enc k w b 0 n d os).heap.size:=by
 show _<=((w.heap.modify b (onCells (putCells id 0 (flatK enc k d))))++os).size;simp
def ZCR {P:Program} (hP:e1.P=P) {ρ:Go.Shelf.Ren} (L:SlLaysF0.n6 P ρ) {k ty:Nat} (aE:∀w,(isAgg (ρ.t 24)).run P w=.ok true w) (zE:∀w,(Go.sizeOf (ρ.t 24)).run P w=.ok k w) (fF:qN P (ρ.f 6)) {g:FuncId} (eg:∀args w,(callFunc g args).run P w=.ok (.enter g args) w)
  {rows rows':sh} {cf:we->we->Int} (bh:rows.length<4611686018427387904) (hg:∀a∈rows,∀b∈rows,aI e1 g [.agg a,.agg b] [GT (cf a b)])
  (h1:∀a∈rows,¬cf a a<0) (h2:∀a∈rows,∀b∈rows,∀c∈rows,cf a b<0->cf b c<0->cf a c<0) (h3:∀a∈rows,∀b∈rows,∀c∈rows,¬cf a b<0->¬cf b c<0->¬cf a c<0)
  (hu:∀l:sh,l.Perm rows->(∀(i j:Nat)a b,i<j->l[i]?=some a->l[j]?=some b->¬cf b a<0)->l=rows'):jH e1 (ρ.f 6) ty k rows [.I (.fn g [])] rows' []:=by
 refine⟨by rw[hP];exact fF,λw S v0 vs hS hE hvE hG f9 bS=>?_⟩;rw[hP]
 match vs,bS with
 | [u],bS =>
  obtain⟨⟨us,rfl,d7⟩,_⟩:(∃us:GK,u=.func (.func g) #[] us.toArray/\aC w S [] us)/\True:=by simpa[dt,aX,aR]using bS
  have D6:us=[]:=by cases us with
   |nil=>rfl
   |cons _ _=>simp[aC]at d7
  subst D6;obtain⟨h0,c9,nM⟩:=f9;by_cases aP:rows=[]
  ·subst aP;have rT:rows'=[]:=(hu [] (List.Perm.refl _) (λi j a b _ h=>by simp at h)).symm;subst rT;have pQ:∃p cap,v0=.slice p 0 cap:=by
    rcases nM with⟨_,a,rfl⟩|⟨b,cap,bf,rfl,_⟩
    ·exact⟨a,0,rfl⟩
    ·exact⟨_,cap,rfl⟩
   obtain⟨p,cap,vf⟩:=pQ;rw[vf];refine(AnyF.slices_SortFunc_none (P:=P) L p cap _ w).mono ?_;rintro e w' ⟨rfl,rfl⟩;rw[<- vf];have hs:(λb=>S b\/(w'.heap.size<=b/\b<w'.heap.size))=S:=by
    funext b;exact propext ⟨λh=>h.elim id (λh=>absurd h.2 om),.inl⟩
   refine⟨_,rfl,Kept.refl ..,hG,?_,[],rfl,trivial⟩;rw[hs];exact⟨h0,c9,nM⟩
  ·rcases nM with⟨e,_⟩|⟨b,cap,bf,rfl,hc,yO,Du,hh,cw,c8,gc,cn⟩
   ·exact absurd e aP
   have ny:∀r,r∈rows->r.length=k:=λr hr=>(c9 r hr).1;obtain⟨l,hl,iq⟩:=ZnH (k:=k) (Q:=λr=>r∈rows) ny rows 0 (λr h=>h) cn;have pT:l.length=rows.length:=by have:=congrArg List.length hl;rwa [Tay]at this
   obtain⟨x0,iw⟩:∃x,x∈l:=List.exists_mem_of_ne_nil _ (λe=>aP (Tao (by rw[<- pT,e];rfl)))
   letI:Inhabited (SRow w S (λr=>r∈rows)):=⟨x0⟩
   have hk:∀x:SRow w S (λr=>r∈rows),x.1.2.length=k:=λx=>by rw[x.2.2.len];exact ny _ x.2.1
   have h1c:∀x:SRow w S (λr=>r∈rows),∀v∈x.1.2,v.oneCell':=λx=>aC.I (c9 _ x.2.1).2 x.2.2;have hH:HoldsK (λx:SRow w S (λr=>r∈rows)=>x.1.2) k w b 0 l.toArray:=ZCQ hk (λo=>frozen_of_row w b o bf ty hh) iq
   have nZ:∀(m:Nat)(os:Array Obj)(dk:Array (SRow w S (λr=>r∈rows)))(S2:GO),(∀b,S b->S2 b)->∀x:SRow w S (λr=>r∈rows),aC (sortWorldK (λx:SRow w S (λr=>r∈rows)=>x.1.2) k w b 0 m dk os) S2 x.1.1 x.1.2:=λm os dk S2 hS2 x =>
    aC.keep2 Ft (λb' o cu=>rq (ZnI (hS b' cu).1 (λe:b'=b=>Du (by rw[<- e];exact cu))) o) hS2 x.2.2
   have gW:aO (.slice (some ⟨b,0,none⟩) rows.length cap)=some b:=by simp only[aO];rw[if_neg om]
   have nY:∀(m:Nat)(os:Array Obj)(dk:Array (SRow w S (λr=>r∈rows))),e1.G (sortWorldK (λx:SRow w S (λr=>r∈rows)=>x.1.2) k w b 0 m dk os):=λm os dk =>
    Zov.Ε w _ Ft (λb' cu=>ZnI (hE b' cu) (λe=>hvE b gW (e▸cu))) hG
   have uY:CmpLays P g #[] (λx:SRow w S (λr=>r∈rows)=>x.1.2) k (λx y=>cf x.1.1 y.1.1) b 0 l.toArray.size w:=by
    intro m os dk rN x y
    have hc:=(hg _ x.2.1 _ y.2.1).2 (sortWorldK (λx:SRow w S (λr=>r∈rows)=>x.1.2) k w b 0 m dk os) S [.agg x.1.2.toArray,.agg y.1.2.toArray] (λb' cu=>⟨Tbd (hS b' cu).1 Ft,(hS b' cu).2⟩) (λb' h=>Tbd (hE b' h) Ft) (nY m os dk)
     ⟨⟨_,rfl,nZ m os dk S (λ_ h=>h) x⟩,⟨_,rfl,nZ m os dk S (λ_ h=>h) y⟩,trivial⟩
    rw[hP]at hc;refine hc.mono ?_;rintro e w' ⟨v,rfl,hK,Dq,hv⟩;have hv:v=.int .i64 (cf x.1.1 y.1.1):=by simpa[aQ,aw,aX,aR]using hv
    exact⟨by rw[hv],Zq5 (hK.all1 (nY m os dk) Dq)⟩
   have hO:SWO (ltOf (λx y:SRow w S (λr=>r∈rows)=>cf x.1.1 y.1.1)):=by
    refine⟨λx=>?_,λx y z=>?_,λx y z=>?_⟩<;>simp only[ltOf,decide_eq_false_iff_not,decide_eq_true_eq]
    ·exact h1 _ x.2.1
    ·exact h2 _ x.2.1 _ y.2.1 _ z.2.1
    ·exact h3 _ x.2.1 _ y.2.1 _ z.2.1
   have rX:=AnyQ.slices_SortFunc L k aE zE (λx:SRow w S (λr=>r∈rows)=>x.1.2) hk h1c (λx y=>cf x.1.1 y.1.1) hO g #[] b 0 cap l.toArray w eg uY hH yO (by simp only[List.size_toArray];omega);have Ak:l.toArray.size=rows.length:=by simpa using pT
   rw[Ak]at rX;refine rX.mono ?_;rintro e w' ⟨rfl,d',n,os,hp,hs,rfl⟩;obtain⟨lP,_,tH⟩:=hp;rw[Ak]at lP;have nv:∀a:Array (SRow w S (λr=>r∈rows)),a.size=rows.length->a.extract 0 rows.length=a:=λa ha=>by rw[<- ha];simp
   rw[nv d' lP,nv _ Ak]at tH;have d5:(d'.toList.map (λx=>x.1.1)).Perm rows:=by
    have:=tH.map (λx:SRow w S (λr=>r∈rows)=>x.1.1)
    rwa [show l.toArray.toList=l from rfl,hl]at this
   have kl:d'.toList.map (λx=>x.1.1)=rows':=hu _ d5 λi j a c qW ha hc=>by
    simp only[Tba,Tav]at ha hc;obtain⟨x,hx,rfl⟩:=ha;obtain⟨y,hy,rfl⟩:=hc;have lJ:j<rows.length:=by have:=(Tad.1 hy).1;simpa[lP]using this
    have:=hs i j (Taj _) qW lJ;have ex:d'[i]! = x:=by
     rw[getElem!_pos d' i om];have:=(Tad.1 hx).2;simpa using this
    have ey:d'[j]! = y:=by
     rw[getElem!_pos d' j om];have:=(Tad.1 hy).2;simpa using this
    rw[ex,ey]at this;simpa[ltOf]using this
   have u9:rows'.length=rows.length:=by rw[<- kl,Tay,Array.length_toList,lP]
   have hW:HoldsK (λx:SRow w S (λr=>r∈rows)=>x.1.2) k (sortWorldK (λx:SRow w S (λr=>r∈rows)=>x.1.2) k w b 0 n d' os) b 0 d':=SWK.holds (d0:=l.toArray) ⟨n,os,rfl⟩ yO hH (by rw[lP,Ak]);refine⟨_,rfl,⟨rfl,rfl,rfl,λ_=>Nat.le_add_right _ _,Ft,λj hj hn=>ZnI hj (λe=>hn (.inr (by rw[gW,e])))⟩,nY n os d',⟨h0,λr hr=>?_,.inr ⟨b,cap,_,by rw[u9],hc,Tbd yO Ft,λhn=>?_,ZEV hh,om,c8,by simp[putCells,gc],?_⟩⟩,[],rfl,trivial⟩
   ·rw[<- kl]at hr;exact c9 r (d5.mem_iff.1 hr)
   ·rcases hn with hn|hn
    ·exact Du hn
    ·omega
   ·rw[<- kl];exact Zkg (Q:=λr=>r∈rows) ny (nZ n os d' _ (λb hb=>.inl hb)) d'.toList 0 λi x hi j u hj=>ZtL hk hW hi hj
end Go.Proofs.YtaenibhihgfehaaGreatDoor
namespace Go.Proofs.YtaenibhihgfehaaGreatDoor
open Go.Shelf
def ZCS:Ren:=⟨λ|6=>64|15=>74|14=>115|28=>138|29=>139|20=>164|21=>165|22=>166|23=>167|24=>168|25=>169|26=>170|27=>171|46=>202|47=>184|48=>185|49=>203|50=>204|57=>224|n=>n,λ|22=>44|24=>46|25=>124|3=>3|39=>130|0=>0|53=>190|55=>192|4=>4|46=>183|45=>182|50=>187|5=>5|9=>9|66=>224|70=>107|76=>242|77=>243|n=>n,λ|n=>n⟩
def ZJf:Go.Proofs.SlLaysF0.n6 Tryz.prog ZCS:={
 mixed:=by kernel_rfl,
 f6:=⟨Tryz.f64.name,by decide,Tryz.func64.trans (congrArg some (by kernel_rfl))⟩,
 f14:=⟨Tryz.f115.name,by decide,Tryz.func115.trans (congrArg some (by kernel_rfl))⟩,
 f15:=Tryz.func74.trans (congrArg some (by kernel_rfl)),
 f20:=⟨Tryz.f164.name,by decide,Tryz.func164.trans (congrArg some (by kernel_rfl))⟩,
 f21:=⟨Tryz.f165.name,by decide,Tryz.func165.trans (congrArg some (by kernel_rfl))⟩,
 f22:=⟨Tryz.f166.name,by decide,Tryz.func166.trans (congrArg some (by kernel_rfl))⟩,
 f23:=⟨Tryz.f167.name,by decide,Tryz.func167.trans (congrArg some (by kernel_rfl))⟩,
 f24:=⟨Tryz.f168.name,by decide,Tryz.func168.trans (congrArg some (by kernel_rfl))⟩,
 f25:=⟨Tryz.f169.name,by decide,Tryz.func169.trans (congrArg some (by kernel_rfl))⟩,
 f26:=⟨Tryz.f170.name,by decide,Tryz.func170.trans (congrArg some (by kernel_rfl))⟩,
 f27:=⟨Tryz.f171.name,by decide,Tryz.func171.trans (congrArg some (by kernel_rfl))⟩,
 f28:=Tryz.func138.trans (congrArg some (by kernel_rfl)),
 f29:=Tryz.func139.trans (congrArg some (by kernel_rfl)),
 f46:=⟨Tryz.f202.name,by decide,Tryz.func202.trans (congrArg some (by kernel_rfl))⟩,
 f47:=Tryz.func184.trans (congrArg some (by kernel_rfl)),
 f48:=Tryz.func185.trans (congrArg some (by kernel_rfl)),
 f49:=⟨Tryz.f203.name,by decide,Tryz.func203.trans (congrArg some (by kernel_rfl))⟩,
 f50:=⟨Tryz.f204.name,by decide,Tryz.func204.trans (congrArg some (by kernel_rfl))⟩,
 f57:=⟨Tryz.f224.name,by decide,Tryz.func224.trans (congrArg some (by kernel_rfl))⟩,
 t0:=Tryz.underlying0,
 a0:=Tryz.isAgg0,
 z0:=Tryz.sizeOf0,
 v0:=Tryz.zeroValue0,
 t3:=Tryz.underlying3,
 a3:=Tryz.isAgg3,
 z3:=Tryz.sizeOf3,
 v3:=Tryz.zeroValue3,
 t4:=Tryz.underlying4,
 a4:=Tryz.isAgg4,
 z4:=Tryz.sizeOf4,
 v4:=Tryz.zeroValue4,
 t5:=Tryz.underlying5,
 a5:=Tryz.isAgg5,
 z5:=Tryz.sizeOf5,
 v5:=Tryz.zeroValue5,
 t9:=Tryz.underlying9,
 a9:=Tryz.isAgg9,
 z9:=Tryz.sizeOf9,
 v9:=Tryz.zeroValue9,
 t22:=Tryz.underlying44,
 a22:=Tryz.isAgg44,
 z22:=Tryz.sizeOf44,
 v22:=Tryz.zeroValue44,
 t25:=Tryz.underlying124,
 a25:=Tryz.isAgg124,
 z25:=Tryz.sizeOf124,
 v25:=Tryz.zeroValue124,
 t39:=Tryz.underlying130,
 a39:=Tryz.isAgg130,
 z39:=Tryz.sizeOf130,
 v39:=Tryz.zeroValue130,
 t45:=Tryz.underlying182,
 a45:=Tryz.isAgg182,
 z45:=Tryz.sizeOf182,
 v45:=Tryz.zeroValue182,
 t46:=Tryz.underlying183,
 a46:=Tryz.isAgg183,
 z46:=Tryz.sizeOf183,
 v46:=Tryz.zeroValue183,
 t50:=Tryz.underlying187,
 a50:=Tryz.isAgg187,
 z50:=Tryz.sizeOf187,
 v50:=Tryz.zeroValue187,
 t53:=Tryz.underlying190,
 a53:=Tryz.isAgg190,
 z53:=Tryz.sizeOf190,
 v53:=Tryz.zeroValue190,
 t55:=Tryz.underlying192,
 a55:=Tryz.isAgg192,
 z55:=Tryz.sizeOf192,
 v55:=Tryz.zeroValue192,
 t66:=Tryz.underlying224,
 a66:=Tryz.isAgg224,
 z66:=Tryz.sizeOf224,
 v66:=Tryz.zeroValue224,
 t70:=Tryz.underlying107,
 a70:=Tryz.isAgg107,
 z70:=Tryz.sizeOf107,
 v70:=Tryz.zeroValue107,
 t76:=Tryz.underlying242,
 a76:=Tryz.isAgg242,
 z76:=Tryz.sizeOf242,
 v76:=Tryz.zeroValue242,
 t77:=Tryz.underlying243,
 a77:=Tryz.isAgg243,
 z77:=Tryz.sizeOf243,
 v77:=Tryz.zeroValue243 }
end Go.Proofs.YtaenibhihgfehaaGreatDoor
namespace Go.Proofs.YtaenibhihgfehaaGreatDoor
open Go.RowKit
variable{G3 G4 G5:Prop}
def Zxz{f:FuncId}{ty sz:Nat}{rows rows':sh}{args r:AS}(h:jH e1 f ty sz rows args rows' r):jH e0 f ty sz rows args rows' r :=
 ⟨h.1,λw S v0 vs h1 h2 h3 h4 h5 h6=>(h.2 w S v0 vs h1 h2 h3 h4 h5 h6).mono λen w'⟨v,k1,k2,k3⟩=>⟨v,k1,⟨k2.os,k2.tape,k2.output,λd=>d.elim,k2.size,k2.block⟩,k3⟩⟩
def ZyI (ts:AI) (hl:ts.length<=4000000):jH e0 64 46 4 (az ts) [.I (.fn 65 [])] (az (fM ts)) []:=by
 have fw:∀a∈az ts,a=ax (ne a):=λa ha=>by
  rw[oq]at ha;obtain⟨t,_,rfl⟩:=Tbj.1 ha;rw[Zmu]
 exact Zxz (ZCR (P:=Tryz.prog) rfl ZJf (k:=4) (ty:=46) Tryz.isAgg46 Tryz.sizeOf46 (by kernel_rfl) (g:=65) (enters_of Tryz.func65 (by kernel_rfl) rfl) (rows:=az ts) (rows':=az (fM ts)) (cf:=λa b=>aU (ne a) (ne b)) (by rw[cc];omega)
  (λa ha b hb=>by
   have h:=Fo (ne a) (ne b)
   rwa [<- fw a ha,<- fw b hb]at h)
  (λa _=>by rw[Cp];omega) (λa _ b _ c _ h1 h2=>Zej h1 h2) (λa _ b _ c _ h1 h2=>by
   rw[sj (ne b) (ne a)]at h1;rw[sj (ne c) (ne b)]at h2;rw[sj (ne c) (ne a)];have:=EX (a:=ne c) (b:=ne b) (c:=ne a) om om;omega)
  (λl hp hs=>by
   have iR:∀a∈l,a=ax (ne a):=λa ha=>fw a (hp.mem_iff.1 ha);have nA:(l.map ne).Perm ts:=by have:=hp.map ne;rwa [ZHG]at this
   have Av:Up (l.map ne):=by
    refine List.pairwise_iff_getElem.2 λi j hi hj qW=>?_;simp only[List.getElem_map];simp only[Tay]at hi hj;have:=hs i j l[i] l[j] qW (Taa hi) (Taa hj);rw[sj (ne l[j]) (ne l[i])];omega
   have e:=Zmt (CE ts) Av ((vI ts).trans nA.symm);rw[e,oq,List.map_map]
   conv=>lhs;rw[<- List.map_id l]
   exact List.map_congr_left λa ha=>iR a ha))
def m178(h:G3:=by
 exact(have F:=cc;ee (R:=wC a cap 46 4 (az ts)) [1000] ⟨by rw[cc],rfl⟩)):G3:=h
def wC(a:BY)(cap ty sz:Nat)(rows:sh)(r:AS)(pm:GQ):Prop:=r=[.I (.A (.slice a rows.length cap))]/\pm=[.Υ (some (a,cap)) ty sz rows]
def ZCT {m:it} {a:BY} {n cap:Nat}:kp m (some true) [fz m (GY (.A (.slice a n cap)))]=some (GU (n:Int)):=by
 show kp m (some true) [C7 m a n cap (j8 a n cap m)]=_
 cases j8 a n cap m with
 |none=>rfl
 | some k =>
  show kp m (some true) [vx a n cap k (gm m k)]=_
  cases hg:gm m k with
  |none=>rfl
  | some bk =>
   cases bk with
   |var o cs=>rfl
   |set E G=>rfl
   | Υ o ty sz rows =>
    cases o with
    |none=>rfl
    |some q =>
     obtain⟨a',bF⟩:=q;simp only[vx];split
     ·rename_i h;show vj (rC (gm m k))=_;rw[hg,h.2.1];rfl
     ·rfl
def ZCU{m:it}{a:BY}{l h cap sz:Nat}:kp m (some true) [fz m (GY (.A (sliced a l h cap sz)))]=some (GU ((h-l:Nat):Int)):=ZCT
def ZyJ(l:AI)(k:Nat)(t:Tm):(az l).set k (ax t)=az (l.set k t):=by rw[oq,oq,List.map_set]
def ZCV{α:Type}{l:List α}{i:Nat}{x:α}(h:i<l.length):(l.set i x).take (i+1)=l.take i++[x]:=by
 rw[List.take_add_one,List.take_set_of_le (Tai _)];simp[h]
def ZxA{l l':AI}{m:Nat}(h:l.drop m=l'.drop m)(i:Nat):l[m+i]?=l'[m+i]?:=by
 rw[<- Tbb,<- Tbb,h]
def ZEW{ts:AI}(h:ts.length<2):ke none ts=ts:=by
 match ts,h with
 |[],_=>rfl
 |[x],_=>rfl
def ZtM(ts:AI)(hl:ts.length<=4000000)(a:BY)(cap:Nat):aT e0 66 [.I (.A (.slice a ts.length cap)),.I (.fn 67 [])] [.Υ (some (a,cap)) 46 4 (az ts)] (wC a cap 46 4 (az (ke none ts))):=by
 refine dX (ts:=[.slot 4]) [1000] 562984581629171 Tryz.func66 ?_;by_cases h2:ts.length<2
 ·refine fG (ai (lT ts.length 2) @ae) ?_;rw[ZEW h2];exact m178
 have q1:=lF ts.length 2;refine fG (ai @q1 @ae) ?_;clear q1;obtain⟨t0,tM⟩:∃t,ts[0]?=some t:=⟨_,Taa om⟩;have F:=@ae;refine gL (ι:=Nat) [4,5,6,7,15,28,35,49] [] (λx=>[(5,GU (x:Int))]) (λx=>[]) (λx=>1<=x/\x<=ts.length/\ke none (ts.take x)=ts.take x) (λx=>ts.length-x) (1) (⟨Tai _,om,by rw[ZHF tM];cases ts with|nil=>simp at tM|cons y ys=>simp at tM;simp[tM]⟩) (λx hx=>?_)
 obtain⟨oG,hxn,hxd⟩:=hx;by_cases am:x<ts.length;rotate_left
 ·obtain rfl:x=ts.length:=by omega
  have q1:=lF ts.length ts.length;rw[Tap]at hxd;refine fG (ai @q1 @ae) ?_;rw[hxd];exact m178
 obtain⟨u,hu⟩:∃t,ts[x]?=some t:=⟨_,Taa am⟩;obtain⟨z,rfl⟩:∃z,x=z+1:=⟨x-1,om⟩;obtain⟨v,hv⟩:∃t,ts[z]?=some t:=⟨_,Taa om⟩;have q1:=lT (z+1:Nat) ts.length;have w1:IntKind.i64.wrap (((z+1:Nat):Int)-1)=(z:Int):=kJ om om om;have w2:IntKind.i64.wrap (((z+1:Nat):Int)+1)=((z+1+1:Nat):Int):=kJ om om om;have tP:z+1<ts.length:=am;have hz0:z<ts.length:=om;have aZ:=Ztn hu hv;generalize hxx:z+1=x at *
 rw[show z+2=x+1 by omega]at aZ;refine ce (ai @q1 @ae) (aj8 @q1 @ae @hu @hv @w1 @tP @hz0 @cc) (Zgo u v) (ai @q1 @ae) ?_;by_cases h0:aU u v=0;rotate_left
 ·have q3:decide (aU u v=0)=false:=decide_eq_false h0;rw[if_neg h0,hxd]at aZ;have F:=ai @q3 @w2;refine gG ?_;exact⟨x+1,⟨om,am,by rw[aZ];simp[List.take_add_one,hu]⟩,gw,gw,om⟩
 have q3:decide (aU u v=0):=decide_eq_true h0;rw[if_pos h0,hxd]at aZ;refine dC 7 (ai @q3 @ae) 2 (ai @q3 @ae) ?_;have F:=cc;refine zS 1000 x ts.length ⟨om,by rw[cc];exact Tai _⟩ ?_;refine ec @ae @ae ?_;have F:=@ae;refine gL (ι:=Nat×Nat×AI) [5,7,35,49] [1000] (λy=>[(7,GU (y.1:Int)),(5,GU (y.2.1:Int))]) (λy=>[(1000,.Υ (some (a,cap)) 46 4 (az y.2.2))]) (λy=>1<=y.1/\x+y.1<=ts.length/\y.2.1+1<=x+y.1/\y.2.2.length=ts.length/\y.2.2.take y.2.1=ke none (ts.take (x+y.1))/\y.2.2.drop (x+y.1-1)=ts.drop (x+y.1-1)) (λy=>ts.length-y.1) ((1,x,ts)) (⟨Tai _,am,Tai _,rfl,aZ.symm,rfl⟩) (λy hy=>?_)
 obtain⟨j,k,us⟩:=y;obtain⟨h1,oC,h3,h4,h5,h6⟩:=hy;simp only at h1 oC h3 h4 h5 h6;dsimp only;have hn4:ts.length=us.length:=h4.symm;by_cases hj:j<ts.length-x
 ·obtain⟨i,rfl⟩:∃i,j=i+1:=⟨j-1,om⟩;obtain⟨u1,yU⟩:∃t,ts[x+i+1]?=some t:=⟨_,Taa om⟩;obtain⟨v1,Ax⟩:∃t,ts[x+i]?=some t:=⟨_,Taa om⟩;have e1:us[x+(i+1)]?=some u1:=by
   rw[<- yU,show x+(i+1)-1=x+i by omega]at *;exact ZxA h6 1
  have e2:us[x+i]?=some v1:=by
   rw[<- Ax,show x+(i+1)-1=x+i by omega]at *;exact ZxA h6 0
  have q4:=lT (i+1:Nat) (ts.length-x:Nat);have w3:IntKind.i64.wrap (((i+1:Nat):Int)-1)=(i:Int):=kJ om om om;have w4:IntKind.i64.wrap (((i+1:Nat):Int)+1)=((i+1+1:Nat):Int):=kJ om om om;have tL:=Ztn yU Ax;rw[show x+i+2=x+(i+1+1) by omega,show x+i+1=x+(i+1) by omega,<- h5]at tL;refine dC 11 (aj3 @q4 @ZCU @ae) 3 (ai @q4 @ae) ?_;have F:=cc;refine ZCF (l:=x) (h:=ts.length) (rows:=az us) 1000 (i+1) ⟨om,by rw[cc];omega⟩ ?_
  clear F;have F:=aj3 @ae @e1 @w3;refine gP 4 ?_;have F:=cc;refine ZCF (l:=x) (h:=ts.length) (rows:=az us) 1000 i ⟨om,by rw[cc];omega⟩ ?_;refine oZ (ai @ae @e2) (Zgo u1 v1) @ae ?_;by_cases h7:aU u1 v1=0
  ·have q5:decide (aU u1 v1=0):=decide_eq_true h7;rw[if_pos h7]at tL;have F:=ai @q5 @w4;refine gG ?_;exact⟨(i+1+1,k,us),⟨by dsimp only;omega,by dsimp only;omega,by dsimp only;omega,h4,tL.symm,by rw[show x+(i+1+1)-1=x+(i+1)-1+1 by omega,<- List.drop_drop,<- List.drop_drop,h6]⟩,gw,gw,om⟩
  ·have q5:decide (aU u1 v1=0)=false:=decide_eq_false h7;rw[if_neg h7]at tL;obtain⟨ok,aq⟩:∃t,us[k]?=some t:=⟨_,Taa om⟩;have w5:IntKind.i64.wrap ((k:Int)+1)=((k+1:Nat):Int):=kJ om om om;have jF:k<us.length:=om;refine dC 12 (ai @q5 @ae) 4 (ai @q5 @ae) ?_;have F:=cc;refine ZJc (l:=x) (h:=ts.length) (rows:=az us) 1000 (i+1) ⟨om,by rw[cc];omega⟩ ?_
   clear F;refine fR (aj6 @ae @e1 @aq @hn4 @jF @ZyJ) ?_;have F:=aj3 @w4 @w5 @hn4;refine gG ?_;exact⟨(i+1+1,k+1,us.set k u1),⟨by dsimp only;omega,by dsimp only;omega,by dsimp only;omega,by rw[Taz];exact h4,by rw[tL,ZCV jF],by rw[List.drop_set_of_lt om,show x+(i+1+1)-1=x+(i+1)-1+1 by omega,<- List.drop_drop,<- List.drop_drop,h6]⟩,gw,gw,om⟩
 ·have q4:=lF j (ts.length-x:Nat);have DK:x+j=ts.length:=om;rw[DK,Tap]at h5;have jF:k<us.length:=om;refine dC 14 (aj3 @q4 @ZCU @ae) 2 (ai @q4 @ae) ?_;have F:=ai cc hn4;refine zS 1000 k us.length ⟨om,by rw[cc];exact Tai _⟩ ?_;rw[show us.length=(az us).length by rw[cc]];refine ZIE 1000 (by rw[cc];exact jF) ?_;have uU:((az us).take k++List.replicate ((az us).length-k) [C.A (Value.int IntKind.i64 0),C.A (Value.string ByteArray.empty),C.A (Value.int IntKind.i64 0),C.sl []]).length=us.length:=by simp[cc];omega
  have hRt:((az us).take k++List.replicate ((az us).length-k) [C.A (Value.int IntKind.i64 0),C.A (Value.string ByteArray.empty),C.A (Value.int IntKind.i64 0),C.sl []]).take k=az (ke none ts):=by
   rw[List.take_append_of_le_length (by simp[cc];omega),List.take_take,Nat.min_self,ZeS,h5]
  generalize (az us).take k++List.replicate ((az us).length-k) [C.A (Value.int IntKind.i64 0),C.A (Value.string ByteArray.empty),C.A (Value.int IntKind.i64 0),C.sl []]=R at uU hRt⊢;refine fR @ae ?_;refine dC 15 (ai @q4 @ae) 2 (ai @q4 @ae) ?_;have F:=ai uU hn4;refine zS 1000 0 k ⟨om,by rw[uU];omega⟩ ?_;rw[Zna];refine ec @ae @ae ?_
  refine pE [1000] [1000] (ZCE k (by rw[uU];omega)) ?_;rw[hRt];have eK:k=(az (ke none ts)).length:=by rw[cc,<- h5,Taw];omega
  exact(have F:=cc;ee (R:=wC a cap 46 4 (az (ke none ts))) [1000] ⟨by rw[<- eK],rfl⟩)
def Zjk(ts:AI):(fM ts).length=ts.length:=(vI ts).length_eq
def ZHO(ts:AI):ke none (fM ts)=pB ts:=by rw[ZEL (CE ts),Zvh (vI ts)]
def Zhl(ts:AI)(hl:ts.length<=4000000)(a:BY)(cap:Nat):aT e0 31 [.I (.A (.slice a ts.length cap))] [.Υ (some (a,cap)) 46 4 (az ts)] (wC a cap 46 4 (az (pB ts))):=by
 have hc:=ZtM (fM ts) (by rw[Zjk];exact hl) a cap;rw[Zjk,ZHO]at hc;refine dX (ts:=[.slot 2]) [1000] 5 Tryz.func31 ?_;refine fB @ae ?_;have F:=@ae;refine gCI (ZyI ts hl) (by rw[cc,cc,Zjk]) ?_;refine fR @ae ?_;refine fB @ae ?_;have F:=@ae;refine cQ [1000] [1000] (hc) ?_;rintro r pm ⟨rfl,rfl⟩;refine m7 ?_;refine ec @ae @ae ?_;exact(have F:=cc;ee (R:=wC a cap 46 4 (az (pB ts))) [1000] ⟨rfl,rfl⟩)
def vq(b:G5)(h:Bx G5->G4:=by
 intro B0
 obtain⟨hl,e⟩:=Tad.1 hx;exact B0.o hl e):G4:=h ⟨b⟩
def m191(h:G3:=by
 split
 ·simp only[Tag];omega
 ·split<;>simp only[Tag]<;>omega):G3:=h
def m14(h:G3:=by
 have uu:((x:Int)<=ts.length)=True:=eq_true om;have r1:ZaD 4 ((az ts).take x):=by rw[ZeS];exact uL _
 have r2:ZaD 4 ((az ts).drop x):=by rw[ZfF];exact uL _
 have n1:((az ts).take x).length<=8000000:=by rw[Taw,cc];omega
 have n2:((az ts).drop x).length<=8000000:=by rw[Tax,cc];omega
 have n3:((az ts).take x).length+1<=al:=by unfold al;omega
 have n4:((az ts).take x).length+1+((az ts).drop x).length<=al:=by unfold al;omega
 have F:=aj6 r1 r2 uu n3 n4 ae;refine gA 7 4 ?_ (.inl rfl) ?_
 ·show 0+_<=al;unfold al;omega
 clear F;refine fR (aj6 @r1 @r2 @uu @n3 @n4 @ae) ?_;have n5:((az ts).take x++[ax t]).length+((az ts).drop x).length<=al:=by simp only[Tae,Tag,Tak];omega
 have pT:((ts.length:Int)<=ts.length)=True:=eq_true (Int.le_refl _);have F:=aj9 @r1 @r2 @uu @n3 @n4 @n5 @pT (by rw[<- cc ts,Tap]:(az ts).take ts.length=az ts) @ae;refine gG ?_;exact xi [4]):G3:=h
def ZyK{t x:Tm}{ts:AI}{i:Nat}(hx:ts[i]?=some x)(h:fm t ts=ts.take i++fm t (ts.drop i))(hc:aU x t<0):fm t ts=ts.take (i+1)++fm t (ts.drop (i+1)):=by
 refine vq λhl e=>?_;rw[h,List.drop_eq_getElem_cons hl,e,fm,if_pos hc];simp[List.take_add_one,hx]
def ZyL{t x:Tm}{ts:AI}{i:Nat}(hx:ts[i]?=some x)(h:fm t ts=ts.take i++fm t (ts.drop i))(hc:aU x t=0):fm t ts=ts:=by
 refine vq λhl e=>?_;rw[h,List.drop_eq_getElem_cons hl,e,fm,if_neg om,if_pos hc,<- e,<- List.drop_eq_getElem_cons hl,Tbn]
def ZyM{t x:Tm}{ts:AI}{i:Nat}(hx:ts[i]?=some x)(h:fm t ts=ts.take i++fm t (ts.drop i))(h1:¬aU x t<0)(h2:¬aU x t=0):fm t ts=ts.take i++[t]++ts.drop i:=by
 refine vq λhl e=>?_;rw[h,List.drop_eq_getElem_cons hl,e,fm,if_neg h1,if_neg h2];simp
def ZCW{t:Tm}{ts:AI}{i:Nat}(hi:ts.length<=i)(h:fm t ts=ts.take i++fm t (ts.drop i)):fm t ts=ts.take i++[t]++ts.drop i:=by
 rw[h,List.drop_eq_nil_of_le hi,fm];simp
def ZlN(ts:AI)(t:Tm)(ve:dI ts)(ht:bc t)(hl:ts.length<=8000000):aI e0 53 [.I (.sl (az ts)),.agg (ax t)] [.I (.sl (az (fm t ts)))]:=by
 refine gI (ts:=[.slot 4]) 8590459003 Tryz.func53 ?_;refine fG @ae ?_;have F:=@ae;refine gL (ι:=Nat) [5,19] [] (λx=>[(5,GU (x:Int))]) (λx=>[]) (λx=>x<=ts.length/\fm t ts=ts.take x++fm t (ts.drop x)) (λx=>ts.length-x) (0) (⟨Taj _,rfl⟩) (λx hx=>?_);obtain⟨hi,hf⟩:=hx;by_cases am:x<ts.length
 ·obtain⟨a,ha⟩:∃n,ts[x]?=some n:=⟨_,Taa am⟩;have q1:=lT x ts.length;refine vl λq4=>?_;refine eH (ai @q1 @ae) (aj3 @q1 @ae @ha) ((Cn (ve.mem (Tac ha)) ht)) ?_;by_cases hc:aU a t<0
  ·have q2:(aU a t<0)=True:=eq_true hc;refine fR (aj3 @q1 @q2 @ae) ?_;have F:=ai @q4 @q2;refine gG ?_;exact⟨x+1,⟨am,(ZyK ha hf hc)⟩,gw,gw,om⟩
  ·have q2:(aU a t<0)=False:=eq_false hc;refine fR (aj3 @q1 @q2 @ae) ?_;refine eH (aj3 @q1 @q2 @ae) (aj3 @q1 @ae @ha) (Fh (ve.mem (Tac ha)) ht) ?_;by_cases h0:aU a t=0
   ·have q3:decide (aU a t=0):=decide_eq_true h0;refine fR (aj3 @q1 @q3 @ae) ?_;rw[ZyL ha hf h0];exact fD (ai @q3 @ae)
   ·have q3:decide (aU a t=0)=false:=decide_eq_false h0;refine fR (aj3 @q1 @q3 @ae) ?_;refine fN 6 (ai @q3 @ae) ?_;rw[(ZyM ha hf hc h0),zj,zj,Zhw,<- ZeS,<- ZfF];exact m14
 ·refine fN 6 (ai (lF x ts.length) @ae) ?_;rw[(ZCW om hf),zj,zj,Zhw,<- ZeS,<- ZfF];exact m14
def iP(l:AI)(r:AI):AI:=l.foldl (λr t=>fm t r) r
def uR{ts:AI}:iP (iA []) ts=ts:=by simp[iP,iA]
def ZEX(a b r:AI):iP (a++b) r=iP b (iP a r):=by unfold iP;rw[List.foldl_append]
def ZlO(t:Tm):∀l:AI,(fm t l).length<=l.length+1
 |[]=>by simp[fm]
 |x::xs=>by
  have:=ZlO t xs;simp only[fm];exact m191
def ZnJ:∀(l r:AI),(iP l r).length<=r.length+l.length
 |[],r=>by simp[iP]
 |x::xs,r=>by
  have h1:=ZnJ xs (fm x r);have h2:=ZlO x r;simp only[iP,List.foldl_cons,Tag]at h1⊢;omega
def ZtN{t:Tm}(ht:bc t):∀{l:AI},dI l->dI (fm t l)
 |[],_=>by simp only[fm,dI];exact⟨ht,trivial⟩
 | x::xs,h=>by
  simp only[dI]at h;simp only[fm];split
  ·simp only[dI];exact⟨h.1,ZtN ht h.2⟩
  ·split
   ·simp only[dI];exact h
   ·simp only[dI];exact⟨ht,h⟩
def Zp4:∀{l r:AI},dI l->dI r->dI (iP l r)
 |[],r,_,h=>h
 |x::xs,r,h1,h2=>by
  simp only[dI]at h1;exact Zp4 (l:=xs) (r:=fm x r) h1.2 (ZtN h1.1 h2)
def Zq6:∀{a b:AI},dI a->dI b->dI (a++b)
 |[],_,_,h=>h
 |x::xs,b,h1,h2=>by
  simp only[dI]at h1;simp only[Taf,dI];exact⟨h1.1,Zq6 h1.2 h2⟩
def m183(b:G5)(h:Bx G5->G4:=by
 intro B0
 simp only[i7,aD,aQ,aM,Taf,Tah];refine fR @ae ?_;refine fB @ae ?_;have F:=aj3 @fI @fh @ae;refine cQ [5] [5] (Ac a2 du) ?_;exact B0.o F):G4:=h ⟨b⟩
def m30(b:G5)(h:Bx G5->G4:=by
 intro B0
 refine dC 1 @ae 1 @ae ?_;refine gO 5 46 4 ?_;refine gS 5 λa cap=>?_;refine fR @ae ?_;refine fN 3 (aj3 @otF @ztF @ae) ?_;refine pV 3 λb3 uX=>?_;refine pV 4 λb4 tu=>?_;have aP:b3≠b4:=λe=>tu 3 b3 _ (by decide) rfl e.symm;clear uX tu;have fI:(b3=b4)=False:=eq_false aP;have fh:(b4=b3)=False:=eq_false (λe=>aP e.symm);refine kQ 4 (aj7 @ktF @ztF @ZCY @bQ.eq_4 @fI @fh @ae) ?_;have ca:=ZlR b3 b4 aP _ t (Tan _) om [] a cap (by simp;omega);have Ac:=λ(a:BY)(cap:Nat)=>Zhl (gf t) om a cap;simp only[i7,Tak,Tah,Zjl]at ca;have F:=aj4 @ktF @fI @fh @ae;refine cQ [3,5,4] [3,5,4] (ca) ?_;exact B0.o a cap b3 b4 aP fI fh Ac ca F):G4:=h ⟨b⟩
mutual
theorem ZnK:∀t:Tm,(gf t).length<=1+ag (ax t)
 |.mk op nm so args=>by
  have:=ZlP args;simp only[gf,ax,ag,jE,cc];split
  ·simp
  ·omega
theorem ZlP:∀ts:AI,(iA ts).length<=ts.length+ak (az ts)
 |[]=>by simp[iA]
 |t::ts=>by
  have h1:=ZnK t;have h2:=ZlP ts;simp only[iA,az,ak,Tae,Tag];omega
end
def Zq7{t:Tm}(h:ag (ax t)<=1048576):(gf t).length<=1048576:=by
 obtain⟨op,nm,so,args⟩:=t;have:=ZlP args;simp only[gf,ax,ag,jE,cc]at h⊢;split
 ·simp
 ·omega
def ZlQ:∀(l:AI)(t:Tm),iA (l++[t])=iA l++gf t
 |[],t=>by simp[iA]
 |x::xs,t=>by simp[iA,ZlQ xs t]
def Zir{l:AI}{i:Nat}{t:Tm}(h:l[i]?=some t):iA (l.take (i+1))=iA (l.take i)++gf t:=by
 rw[show l.take (i+1)=l.take i++[t] by simp[List.take_add_one,h],ZlQ]
def Zkh:∀(l:AI)(i:Nat),(iA (l.take i)).length<=(iA l).length
 |[],i=>by simp[iA]
 |x::xs,0=>by simp[iA]
 |x::xs,i+1=>by have:=Zkh xs i;simp only[Tbc,iA,Tae];omega
def mj(ts args:AI)(i:Nat):AI:=ts++iA (args.take i)
def ZIK(ts args:AI):mj ts args 0=ts:=by simp[mj,iA]
def ZCX{ts args:AI}{i:Nat}{b:Tm}(h:args[i]?=some b):mj ts args (i+1)=mj ts args i++gf b:=by
 unfold mj;rw[Zir h,Tbg]
def ZEY(ts args:AI):mj ts args args.length=ts++iA args:=by unfold mj;rw[Tap]
def ktF:rm Tryz.prog 126=some .I:=by kernel_rfl
def ztF:sR Tryz.prog 126=some 1:=by kernel_rfl
def otF:jU Tryz.prog 126=some [.A .nilFunc]:=by kernel_rfl
def ZCY:bQ (.A .nilFunc):=rfl
def Zjl:az []=[]:=by simp[az]
def mM{X:Prop}{P:Program}{ts:List RS}{R:AS->GQ->Prop}{σ:St}{r:AS}{pm:GQ}(ks:GN)(hR:R r pm)(hx:FO P ts R .normal σ->X:=by first|exactλh=>h|exactλh=>⟨_,Wk.refl _,h⟩)(hr:lY P σ ts=some r:=by exact sfy)(hg:ei σ.m ks=some pm:=by exact j0)(hn:ks.Nodup:=by decide)(hp:pm.all pinned:=by exact j0):X :=
 hx ⟨r,ks,pm,hg,hn,hp,hR,CC hr⟩
def i7(b:Nat):Value:=.pointer (some ⟨b,0,none⟩)
def wE(bo bv:Nat)(f:FuncId)(ty:Nat)(ts:AI)(r:AS)(pm:GQ):Prop:=∃a cap,r=[]/\pm=[.var (some bo) [.A (.slice a ts.length cap)],.Υ (some (a,cap)) ty 4 (az ts),.var (some bv) [.fn f [.A (i7 bo),.A (i7 bv)]]]
def ZrJ (t:Tm) (ts:AI) (a:BY) (cap bo bv:Nat) (aP:bo≠bv) (hb:ag (ax t)<=1048576) (hl:ts.length+(gf t).length<=4000000)
  (h:∀x∈t.Y,∀(us:AI)(a:BY)(cap:Nat),us.length+(gf x).length<=4000000->aT e0 68 [.agg (ax x),.I (.A (i7 bo)),.I (.A (i7 bv))] [.var (some bo) [.A (.slice a us.length cap)],.Υ (some (a,cap)) 46 4 (az us),.var (some bv) [.fn 68 [.A (i7 bo),.A (i7 bv)]]] (wE bo bv 68 46 (us++gf x))) :
  aT e0 68 [.agg (ax t),.I (.A (i7 bo)),.I (.A (i7 bv))] [.var (some bo) [.A (.slice a ts.length cap)],.Υ (some (a,cap)) 46 4 (az ts),.var (some bv) [.fn 68 [.A (i7 bo),.A (i7 bv)]]] (wE bo bv 68 46 (ts++gf t)):=by
 obtain⟨op,nm,so,args⟩:=t;have hc:ax (.mk op nm so args)=[GS op,.A (.string nm),GS so,.sl (az args)]:=by simp only[ax]
 have fI:(bo=bv)=False:=eq_false aP;have fh:(bv=bo)=False:=eq_false (λe=>aP e.symm);simp only[Tm.Y]at h;simp only[ax,ag,jE,cc]at hb;simp only[i7]at h⊢;refine dX (ts:=[]) [1001,1000,1002] 15728943 Tryz.func68 ?_;by_cases ho:op=-1
 ·have q1:(op=-1)=True:=eq_true ho;have e1:gf (.mk op nm so args)=[.mk (-1) nm so []]:=by simp only[gf,if_pos ho]
  rw[e1]at hl⊢;simp only[Tag,Tak,Nat.zero_add]at hl;have hm:ts.length+1<=al:=by unfold al;omega
  have c1:ax (.mk (-1) nm so [])=[GS (-1),.A (.string nm),GS so,.sl []]:=by simp only[ax,az]
  refine fN 2 (aj3 @hc @q1 @ae) ?_
  have hR:∀(a2:BY)(du:Nat),wE bo bv 68 46 (ts++[.mk (-1) nm so []]) [] [.var (some bo) [.A (.slice a2 (ts.length+1) du)],.Υ (some (a2,du)) 46 4 (az ts++[[GS (-1),.A (.string nm),GS so,.sl []]]),.var (some bv) [.fn 68 [.A (.pointer (some ⟨bo,0,none⟩)),.A (.pointer (some ⟨bv,0,none⟩))]]]:=λa2 du=>⟨a2,du,rfl,by
   rw[show az (ts++[.mk (-1) nm so []])=az ts++[[GS (-1),.A (.string nm),GS so,.sl []]] by rw[oq,Tbw,<- oq,Tbv,List.map_nil,c1],Tae];rfl⟩
  have a1:(ts.length<ts.length+1)=True:=eq_true (Tan _);have a2:∀Z:we,(az ts++[Z])[ts.length]?=some Z:=λZ=>by rw[Tbr (by rw[cc];exact Tai _),cc,Nat.sub_self];rfl
  have a3:∀Z X:we,(az ts++[Z]).set ts.length X=az ts++[X]:=λZ X=>by rw[List.set_append_right _ _ (by rw[cc];exact Tai _),cc,Nat.sub_self];rfl
  have F:=aj10 a1 a2 a3 hc q1 @ZCT hm fI fh ae;refine ZI5 8 ?_;refine gT1 8 ?_;refine gS 17 λa2 du=>?_;refine sm ?_;refine gT2 9 11 ?_ ?_
  ·refine sm ?_;refine gT2 10 11 ?_ ?_
   ·refine sm ?_;refine gT1 11 ?_;refine sm ?_;refine Dk ?_
    (refine B9 ?_;(refine fG @ae ?_);exact(have F:=ae;ee [1001,17,1002] (hR a2 du)))
   ·refine sm ?_;refine gT1 10 ?_;refine sm ?_;refine Dk ?_
    (refine B9 ?_;(refine fG @ae ?_);exact(have F:=ae;ee [1001,17,1002] (hR a2 du)))
  ·refine sm ?_;refine gT1 9 ?_;refine sm ?_;refine gT1 10 ?_;refine sm ?_;refine Dk ?_
   (refine B9 ?_;(refine fG @ae ?_);exact(have F:=ae;ee [1001,17,1002] (hR a2 du)))
 ·have q1:(op=-1)=False:=eq_false ho;have e1:gf (.mk op nm so args)=iA args:=by simp only[gf,if_neg ho]
  rw[e1]at hl⊢;have di:args.length<=1048576:=om;refine fG (aj3 @hc @q1 @ae) ?_;have F:=@ZIK;refine gL (ι:=Nat×BY×Nat) [5,22,23] [1000,1001,1002] (λx=>[(22,GU (x.1:Int))]) (λx=>[(1001,.var (some bo) [.A (.slice x.2.1 (mj ts args x.1).length x.2.2)]),(1000,.Υ (some (x.2.1,x.2.2)) 46 4 (az (mj ts args x.1))),(1002,.var (some bv) [.fn 68 [.A (.pointer (some ⟨bo,0,none⟩)),.A (.pointer (some ⟨bv,0,none⟩))]])]) (λx=>x.1<=args.length) (λx=>args.length-x.1) ((0,a,cap)) (Taj _) (λx hx=>?_);clear F
  obtain⟨i,a2,du⟩:=x;simp only at hx;dsimp only;by_cases am:i<args.length
  ·obtain⟨b,hg⟩:∃b,args[i]?=some b:=⟨_,Taa am⟩;have q2:=lT i args.length;have q4:IntKind.i64.wrap ((i:Int)+1)=(i:Int)+1:=IntWalk.i64_in _ om;have wv:=Zir hg;have cw:=Zkh args (i+1);rw[wv,Tae]at cw;have ca:=h b (Tac hg) (mj ts args i) a2 du (by unfold mj;rw[Tae];omega);rw[<- ZCX hg]at ca;refine fB (aj6 @q2 @hc @cc @rt @hg @ae) ?_;have F:=aj4 @ktF @fI @fh @ae;refine cQ [1001,1000,1002] [1001,1000,1002] (ca) ?_;clear F
   rintro r pm ⟨a3,fZ,rfl,rfl⟩;simp only[i7,aD,aQ,aM,Taf,Tah];refine fR @ae ?_;have F:=@q4;refine gG ?_;exact⟨(i+1,a3,fZ),am,gw,gw,om⟩
  ·obtain rfl:i=args.length:=by omega
   have q2:=lF args.length args.length;refine fG @q2 ?_;have hR:wE bo bv 68 46 (ts++iA args) [] [.var (some bo) [.A (.slice a2 (mj ts args args.length).length du)],.Υ (some (a2,du)) 46 4 (az (mj ts args args.length)),.var (some bv) [.fn 68 [.A (.pointer (some ⟨bo,0,none⟩)),.A (.pointer (some ⟨bv,0,none⟩))]]]:=by
    rw[<- ZEY];exact⟨a2,du,rfl,rfl⟩
   exact(have F:=ae;mM [1001,1000,1002] hR)
def ZlR(bo bv:Nat)(aP:bo≠bv)(n:Nat):∀(t:Tm),mI (ax t)<n->ag (ax t)<=1048576->∀(ts:AI)(a:BY)(cap:Nat),ts.length+(gf t).length<=4000000->aT e0 68 [.agg (ax t),.I (.A (i7 bo)),.I (.A (i7 bv))] [.var (some bo) [.A (.slice a ts.length cap)],.Υ (some (a,cap)) 46 4 (az ts),.var (some bv) [.fn 68 [.A (i7 bo),.A (i7 bv)]]] (wE bo bv 68 46 (ts++gf t)):=by
 induction n with
 |zero=>exactλ_ h=>om
 |succ n ih =>
  intro t hn hb ts a cap hl;refine ZrJ t ts a cap bo bv aP hb hl λx hx us a cap tG=>ih x ?_ ?_ us a cap tG
  ·obtain⟨op,nm,so,args⟩:=t;exact m44
  ·obtain⟨op,nm,so,args⟩:=t;simp only[ax,ag,jE]at hb;simp only[Tm.Y]at hx;obtain⟨i,hi⟩:=Tbl hx;have h1:=A5 (by rw[rt,hi];rfl:(az args)[i]?=some (ax x));omega
def ZtO(t:Tm)(hb:ag (ax t)<=1048576):aI e0 32 [.agg (ax t)] [.I (.sl (az (dq t)))]:=by
 have hv:=Zq7 hb;refine gI (ts:=[.slot 2]) 31 Tryz.func32 ?_;refine m30 λa cap b3 b4 aP fI fh Ac ca F=>?_;rintro r pm ⟨a2,du,rfl,rfl⟩;refine m183 λF=>?_;rintro r pm ⟨rfl,rfl⟩;refine m7 ?_;refine fR @ae ?_;refine pD 5 [2] [] ?_ (hs:=by exact dE);exact fD @ae
def Zq8(nm:ByteArray)(so:Int):aI e0 154 [.I (.A (.string nm)),GT so] [.agg (ax (.mk (-1) nm so []))]:=by
 rw[(by simp only[ax,az]:ax (.mk (-1) nm so [])=[GS (-1),.A (.string nm),GS so,.sl []])];refine gI (ts:=[.cell 4 46]) 19 Tryz.func154 ?_;exact fD @aJ
def ZCZ{e:Env}{f:FuncId}{a:D}{rows:sh}{r:AS}(h:aI e f [a,.I (.sl rows)] r):aI e f [a,.Ζ rows] r :=
 ⟨h.1,λw S vs h1 h2 h3 h4=>h.2 w S vs h1 h2 h3 (by
  match vs,h4 with
  |[x,y],h4=>exact⟨h4.1,h4.2.1.1,trivial⟩)⟩
def ZtP{op so:Int}{nm:ByteArray}{args:AI}(h:bc (.mk op nm so args)):bc (.mk (-1) nm so []):=by
 simp only[bc,dI,and_true]at h⊢;exact⟨by unfold iT;omega,h.2.1,h.2.2.1⟩
mutual
theorem Zq9:∀{t:Tm},bc t->dI (gf t)
 |.mk op nm so args,h=>by
  simp only[gf];split
  ·simp only[dI];exact⟨ZtP h,trivial⟩
  ·simp only[bc]at h;exact Zki h.2.2.2
theorem Zki:∀{l:AI},dI l->dI (iA l)
 |[],_=>by simp[iA,dI]
 |x::xs,h=>by
  simp only[dI]at h;simp only[iA];exact Zq6 (Zq9 h.1) (Zki h.2)
end
def Zpa:∀{l:AI}(i:Nat),dI l->dI (l.take i)
 |[],_,_=>by simp[dI]
 |x::xs,0,_=>by simp[dI]
 |x::xs,i+1,h=>by
  simp only[dI]at h;simp only[Tbc,dI];exact⟨h.1,Zpa i h.2⟩
def ZnL(t:Tm)(ts:AI)(ht:bc t)(ve:dI ts)(hb:ag (ax t)<=1048576)(hl:ts.length+(gf t).length<=7000000)(h:∀x∈t.Y,∀us:AI,dI us->us.length+(gf x).length<=7000000->aI e0 97 [.agg (ax x),.I (.sl (az us))] [.I (.sl (az (iP (gf x) us)))]) :
  aI e0 97 [.agg (ax t),.I (.sl (az ts))] [.I (.sl (az (iP (gf t) ts)))]:=by
 obtain⟨op,nm,so,args⟩:=t;have hc:ax (.mk op nm so args)=[GS op,.A (.string nm),GS so,.sl (az args)]:=by simp only[ax]
 simp only[Tm.Y]at h;simp only[ax,ag,jE,cc]at hb;refine gI (ts:=[.slot 4]) 1048887 Tryz.func97 ?_;by_cases ho:op=-1
 ·have q1:(op=-1)=True:=eq_true ho;have e1:gf (.mk op nm so args)=[.mk (-1) nm so []]:=by simp only[gf,if_pos ho]
  rw[e1]at hl⊢;simp only[Tag,Tak,Nat.zero_add]at hl;have hI:=ZlN ts (.mk (-1) nm so []) ve (ZtP ht) om;refine fB (aj3 @hc @q1 @ae) ?_;refine fC @hc (Zq8 nm so) ?_;refine fC @hc (hI) ?_;refine fR @hc ?_;simp only[iP,List.foldl_cons,List.foldl_nil];exact fD @ae
 ·have q1:(op=-1)=False:=eq_false ho;have e1:gf (.mk op nm so args)=iA args:=by simp only[gf,if_neg ho]
  rw[e1]at hl⊢;have hk:dI args:=by simp only[bc]at ht;exact ht.2.2.2
  refine fG (aj3 @hc @q1 @ae) ?_;have F:=ai ((λ(r:AI)=>(uR:iP (iA []) r=r))) @ae;refine gL (ι:=Nat) [1,5,20] [] (λx=>[(5,GU (x:Int)),(1,GY (.sl (az (iP (iA (args.take x)) ts))))]) (λx=>[]) (λx=>x<=args.length) (λx=>args.length-x) (0) (Taj _) (λx hx=>?_);clear F;by_cases am:x<args.length
  ·obtain⟨b,hg⟩:∃b,args[x]?=some b:=⟨_,Taa am⟩;have q2:=lT x args.length;have q4:IntKind.i64.wrap ((x:Int)+1)=(x:Int)+1:=IntWalk.i64_in _ om;have wv:=Zir hg;have cw:=Zkh args (x+1);rw[wv,Tae]at cw;have iH:=ZnJ (iA (args.take x)) ts;have ca:=h b (Tac hg) (iP (iA (args.take x)) ts) (Zp4 (Zki (Zpa x hk)) ve) om;rw[<- ZEX,<- wv]at ca;refine fB (aj3 @q2 @hc @ae) ?_;refine fC (aj4 @q2 @hc @hg @ae) (ca) ?_
   refine fR @ae ?_;have F:=@q4;refine gG ?_;exact⟨x+1,am,gw,gw,om⟩
  ·obtain rfl:x=args.length:=by omega
   have q2:=lF args.length args.length;rw[Tap];exact fD (aj3 @q2 @hc @ae)
def Zpb(n:Nat):∀t:Tm,mI (ax t)<n->bc t->ag (ax t)<=1048576->∀ts:AI,dI ts->ts.length+(gf t).length<=7000000->aI e0 97 [.agg (ax t),.I (.sl (az ts))] [.I (.sl (az (iP (gf t) ts)))]:=by
 induction n with
 |zero=>exactλ_ h=>om
 |succ n ih =>
  intro t hn ht hb ts ve hl;refine ZnL t ts ht ve hb hl λx hx us d7 tG=>?_;obtain⟨op,nm,so,args⟩:=t;simp only[ax,mI,vM]at hn;simp only[ax,ag,jE]at hb;simp only[bc]at ht;simp only[Tm.Y]at hx;obtain⟨i,hi⟩:=Tbl hx;have dR:(az args)[i]?=some (ax x):=by rw[rt,hi];rfl
  have h1:=yk dR;have h2:=A5 dR;exact ih x om (ht.2.2.2.mem hx) om us d7 tG
def Zgq{t:Tm}(ht:bc t)(hb:ag (ax t)<=1048576):aI e0 52 [.agg (ax t)] [.I (.sl (az (dq t)))]:=by
 have hv:=ZnK t;have ca:=Zpb _ t (Tan _) ht hb [] trivial (by simp;omega);have ca:=ZCZ (by rw[Zjl]at ca;exact ca);rw[show iP (gf t) []=dq t from rfl]at ca;refine gI (ts:=[.slot 2]) 7 Tryz.func52 ?_;refine eH @ae @ae (ca) ?_;exact iF @ae @ae
def ZyN{l:AI}(h:dI l):dI (pB l):=Zp4 (r:=[]) h trivial
def ZyO{t:Tm}(h:bc t):dI (dq t):=ZyN (Zq9 h)
def Zkj(l:AI):(pB l).length<=l.length:=by have:=ZnJ l [];simpa[iP,pB]using this
def Zhz(t:Tm):(dq t).length<=1+ag (ax t):=Tbe (Zkj _) (ZnK t)
def ZrK{vs:AI}{p:Tm->Bool}{i:Nat}{a:Tm}(h:vs[i]?=some a):(vs.take (i+1)).any p=((vs.take i).any p||p a):=by
 rw[List.take_add_one,h];simp
def ZrL{vs:AI}{p:Tm->Bool}{i:Nat}{a:Tm}(h:vs[i]?=some a):(vs.take (i+1)).all p=((vs.take i).all p&&p a):=by
 rw[List.take_add_one,h];simp
def ZC0{α:Type}{vs:List α}{p:α->Bool}{a:α}(h:a∈vs)(hp:p a=false):vs.all p=false:=by
 rw[List.all_eq_false];exact⟨a,h,by simp[hp]⟩
def m239(h:G3:=by
 have F:=aj4 @ae @q2 @aZ @Ay;refine gG ?_;exact⟨y+1,kT,gw,gw,om⟩):G3:=h
structure Eqn where
 l:Tm
 r:Tm
 cs:List (Tm×Tm)
def dN(vs:AI)(v:Tm):Bool:=vs.any λa=>decide (aU v a=0)
def Zsj(vs:AI)(t:Tm):Bool:=(dq t).all (dN vs)
def wZ{p:Tm->Bool}:([]:AI).any p=false:=rfl
def ZrM{t:Tm}{vs:AI}(ht:bc t)(d8:dI vs)(hb:ag (ax t)<=1048576)(hl:vs.length<=8000000):aI e0 100 [.agg (ax t),.I (.sl (az vs))] [GW (Zsj vs t)]:=by
 have aq:=ZyO ht;have cw:=Zhz t;have cV:=Zgq ht hb;have eW:Zsj vs t=(dq t).all (dN vs):=rfl;rw[eW];clear eW;generalize dq t=us at aq cw cV⊢;refine gI 68720542199 Tryz.func100 ?_;refine eH @ae @ae (cV) ?_;refine ec @ae @ae ?_;have F:=@aJ;refine gL (ι:=Nat) [4,6,7,8,14,20,36] [] (λx=>[(6,GU x)]) (λx=>[]) (λx=>x<=us.length/\(us.take x).all (dN vs)) (λx=>us.length-x) (0) (⟨Taj _,rfl⟩) (λx hx=>?_)
 obtain⟨uu,hall⟩:=hx;by_cases am:x<us.length;rotate_left
 ·have q1:¬((x:Int)<us.length):=om;obtain rfl:x=us.length:=by omega
  rw[Tap]at hall;exact fT (aj3 @ae @q1 @hall)
 have q1:(x:Int)<us.length:=om;obtain⟨v,hv⟩:∃a,us[x]?=some a:=⟨_,Taa am⟩;have hvo:=aq.mem (Tac hv);have gp:=bW (k:=x) om;refine fG (ai @ae @q1) ?_;have F:=((λ(p:Tm->Bool)=>(wZ:([]:AI).any p=false)));refine gL (ι:=Nat) [7,8,20] [] (λy=>[(7,GX ((vs.take y).any λa=>decide (aU v a=0))),(8,GU y)]) (λy=>[]) (λy=>y<=vs.length) (λy=>vs.length-y) (0) (Taj _) (λy hy=>?_)
 by_cases kT:y<vs.length;rotate_left
 ·have q2:¬((y:Int)<vs.length):=om;obtain rfl:y=vs.length:=by omega
  rw[Tap]
  cases hh:dN vs v with
  |true =>
   have e:(vs.any λa=>decide (aU v a=0)):=hh;have hq:x+1<=us.length/\(us.take (x+1)).all (dN vs):=⟨am,by rw[ZrL hv,hall,hh];rfl⟩;have F:=aj5 @ae @q1 @q2 @e @gp;refine gG ?_;exact⟨x+1,hq,gw,gw,om⟩
  |false =>
   have e:(vs.any λa=>decide (aU v a=0))=false:=hh;have hf:us.all (dN vs)=false:=ZC0 (Tac hv) hh;exact fT (aj5 @ae @q1 @q2 @e @hf)
 have q2:(y:Int)<vs.length:=om;obtain⟨a,ha⟩:∃a,vs[y]?=some a:=⟨_,Taa kT⟩;have hao:=d8.mem (Tac ha);have Ay:=bW (k:=y) om;have aZ:=ZrK (p:=λa=>decide (aU v a=0)) ha
 cases hc:(vs.take y).any λa=>decide (aU v a=0)with
 |true =>
  rw[hc,Bool.true_or]at aZ;refine fG (aj3 @ae @q1 @q2) ?_;exact m239
 |false =>
  rw[hc,Bool.false_or]at aZ;refine ce (aj3 @ae @q1 @q2) (aj5 @ae @q1 @q2 @hv @ha) (Fh hvo hao) (aj3 @ae @q1 @q2) ?_;exact m239
def wz(n:Nat):ByteArray:=⟨#[119]⟩++ci n
def wV(n:Nat)(k:Int):Tm:=.mk (-1) (wz n) k []
structure USt where
 b:GP
 Γ:GP
 Δ:Nat
def bI{α β:Type}(f:β->α->Option β):β->List α->Option β
 |b,[]=>some b
 |b,a::l=>(f b a).bind λb'=>bI f b' l
def ba{α β:Type}(f:α->Option β):List α->Option (List β)
 |[]=>some []
 |a::l=>(f a).bind λb=>(ba f l).map (b::·)
def Zpd{α β:Type}{f:β->α->Option β}{a:α}:∀{l:List α}{b:β},bI f b (l++[a])=(bI f b l).bind λb'=>f b' a
 |[],b=>by simp only[Tah,bI,Option.bind_some];cases f b a<;>rfl
 |x::l,b=>by
  simp only[Taf,bI]
  cases f b x with
  |none=>rfl
  |some c=>exact Zpd (l:=l)
def Zrb{α β:Type}{f:α->Option β}{a:α}:∀{l:List α},ba f (l++[a])=(ba f l).bind λm=>(f a).map λb=>m++[b]
 |[]=>by
  simp only[Tah,ba,Option.bind_some]
  cases f a<;>rfl
 | x::l=>by
  simp only[Taf,ba]
  cases f x with
  |none=>rfl
  |some c =>
   simp only[Option.bind_some];rw[Zrb (l:=l)]
   cases ba f l with
   |none=>rfl
   |some m=>cases f a<;>rfl
section
variable{g:Sgn}
noncomputable def qq(g:Sgn)(s:GP)(e:Bd):Option Bd:=(co g s e.var).bind λx=>(co g s e.to).map λy=>⟨x,y⟩
noncomputable def cJ(g:Sgn)(st:USt)(v t:Tm):Option USt:=(mapA g [⟨v,t⟩] st.b).bind λb'=>(ba (qq g [⟨v,t⟩]) st.Γ).map λr'=>⟨iz b' ⟨v,t⟩,r',st.Δ⟩
def fj(g:Sgn)(D:Nat)(i:Nat):Prop:=D.testBit i=true/\∀j,j<g.V.O.length->j≠i->D.testBit j->(dw g i).testBit j=false
noncomputable def dY(g:Sgn)(a k:Int):Nat:=db (fj g (fy g a&&&fy g k)) g.V.O.length
def v6(st:USt)(t:Tm):USt:=⟨st.b,t.Y.map (λa=>⟨a,a⟩)++st.Γ,st.Δ⟩
def fQ{α:Type}(l:List α):Option (List α):=if l.length<=64 then some l else none
noncomputable def sZ(S:USt->Int->Option (List USt)):List Int->USt->Option (List USt)
 |[],st=>some [st]
 |k::ks,st=>(S st k).bind λl=>bI (λout s=>(sZ S ks ⟨s.b,s.Γ.tail,s.Δ⟩).bind λmore=>fQ (out++more)) [] l
noncomputable def zC(g:Sgn)(S:USt->Int->Option (List USt))(o:Opr)(t:Tm)(st:USt)(k:Int)(out:List USt)(d:Dcl):Option (List USt) :=
 if(dw g d.Β).testBit k.toNat=true then(sZ S d.Y (v6 st t)).bind λl=>(if o.comm/\d.Y[0]?≠d.Y[1]? then(sZ S d.Y.reverse (v6 st t)).map λm=>out++l++m else some (out++l)).bind fQ
 else some out
noncomputable def varW(g:Sgn)(st:USt)(t:Tm)(k:Int):Option (List USt):=ba (λi:Nat=>cJ g ⟨st.b,st.Γ,st.Δ+1⟩ t (wV (st.Δ+1) i)) (cj (dY g t.sort k))
noncomputable def ZyP(g:Sgn)(S:USt->Int->Option (List USt))(st:USt)(k:Int):Option (List USt):=match st.Γ with
 |[]=>none
 |e::_=>if(av g e.var).testBit k.toNat=true then some [st]else if e.var.op=-1 then varW g st e.var k else match g.ops[e.var.op.toNat]? with
  |none=>none
  |some o=>bI (zC g S o e.var st k) [] o.Z
noncomputable def ly(g:Sgn):Nat->USt->Int->Option (List USt)
 |0=>λ_ _=>none
 |n+1=>ZyP g (ly g n)
noncomputable def v7(g:Sgn)(st:USt)(a b:Tm):Option (List USt) :=
 if(dw g a.sort).testBit b.sort.toNat=true\/(dw g b.sort).testBit a.sort.toNat=true then(if(dw g b.sort).testBit a.sort.toNat=true then cJ g st a b else cJ g st b a).map λs=>[s]
 else ba (λi:Nat=>(cJ g ⟨st.b,st.Γ,st.Δ+1⟩ a (wV (st.Δ+1) i)).bind λs=>cJ g s b (wV (st.Δ+1) i)) (cj (dY g a.sort b.sort))
noncomputable def pu(g:Sgn)(st:USt)(v t:Tm):Option (List USt) :=
 if bR v t=true\/dS g v≠dS g t then some []else(ly g (ah t+1) ⟨st.b,⟨t,t⟩::st.Γ,st.Δ⟩ v.sort).bind (ba λs=>match s.Γ with
  |[]=>none
  |e::r=>cJ g ⟨s.b,r,s.Δ⟩ v e.var)
noncomputable def uf(g:Sgn)(b:GP)(fresh:Nat)(x y:Tm)(r:GP):Option (List USt) :=
 if aU x y=0 then some [⟨b,r,fresh⟩]
 else if x.op=-1/\y.op=-1 then v7 g ⟨b,r,fresh⟩ x y
 else if y.op=-1 then pu g ⟨b,r,fresh⟩ y x
 else if x.op=-1 then pu g ⟨b,r,fresh⟩ x y
 else if x.op≠y.op then some []
 else some (⟨b,(x.Y.zip y.Y).map (λp=>⟨p.1,p.2⟩)++r,fresh⟩::match g.ops[x.op.toNat]? with
  |none=>[]
  |some o=>if o.comm=true then[⟨b,(x.Y.zip y.Y.reverse).map (λp=>⟨p.1,p.2⟩)++r,fresh⟩]else[])
noncomputable def oR(g:Sgn)(aj:AI):Nat->(List (GP)×Nat)->USt->Option (List (GP)×Nat)
 |0,_,_=>none
 |n+1,(out,left),st=>match st.Γ with
  |[]=>(fQ (cb aN (st.b.filter λy=>dN aj y.var) out)).map λo=>(o,left)
  |e::r=>if left=0 then none else(uf g st.b st.Δ e.var e.to r).bind (bI (oR g aj n) (out,left-1))
end
def xQ(h:G3:=by
 refine gG ?_;exact⟨k+1,qX,gw,gw,om⟩):G3:=h
section
variable{g:Sgn}
def nC(g:Sgn)(D i k:Nat):Prop:=bG D i=true/\∀j,j<k->j≠i->bG D j->bG ((up g.V).getD i 0) j=false
def nC.full{D i:Nat}:nC g D i g.V.O.length↔fj g D i:=by
 unfold nC fj dw bG;simp only[Tbz]
def nC.yes{D i k:Nat}(h:nC g D i k)(q:k=i\/bG D k=false\/bG ((up g.V).getD i 0) k=false):nC g D i (k+1):=⟨h.1,λj hj aP ht=>by
 by_cases e:j=k
 ·subst e;rcases q with q|q|q
  ·exact absurd q aP
  ·rw[ht]at q;cases q
  ·exact q
 ·exact h.2 j om aP ht⟩
def nC.down{D i k:Nat}(h:nC g D i (k+1)):nC g D i k:=⟨h.1,λj hj=>h.2 j om⟩
open Classical in
noncomputable def mN(g:Sgn)(D i k:Nat):Bool:=decide (nC g D i k)
open Classical in
def ZJh(g:Sgn)(D i:Nat):mN g D i 0=bG D i:=by
 unfold mN
 cases h:bG D i with
 |true=>exact decide_eq_true ⟨h,λj hj=>absurd hj om⟩
 |false=>exact decide_eq_false λq=>by rw[q.1]at h;cases h
open Classical in
def Zp5{D i k:Nat}(h:mN g D i k)(q:k=i\/bG D k=false\/bG ((up g.V).getD i 0) k=false):mN g D i (k+1):=decide_eq_true ((of_decide_eq_true h).yes q)
open Classical in
def ZIL{D i k:Nat}(h:mN g D i k=false):mN g D i (k+1)=false:=decide_eq_false λq=>of_decide_eq_false h q.down
open Classical in
def ZHP{D i k:Nat}(h:¬k=i)(h1:bG D k)(h2:bG ((up g.V).getD i 0) k):mN g D i (k+1)=false:=decide_eq_false λq=>by
 have:=q.2 k (Tan _) h h1;rw[h2]at this;cases this
open Classical in
def ZtQ{D i:Nat}:mN g D i g.V.O.length=true↔fj g D i:=by
 unfold mN;rw[decide_eq_true_eq];exact nC.full
def ZHQ (aq:kL g) (hs:SortsOk g.V) {D:Nat} (hD:D<2 ^ g.V.O.length):aI e0 216 [.agg (gt g.V),GT D] [GT (db (fj g D) g.V.O.length)]:=by
 have hN:=hs.n8;have Dr:=hs.n1;have hp:2 ^ g.V.O.length<=2 ^ 8:=Tbt (by decide) hN;have cS:=Zhj (s:=g.V) aq.1;rw[E7 hs]at cS;have cB:=Zg7 (k:=g.V.O.length) om;have hw0:IntKind.i64.wrap (((2 ^ g.V.O.length:Nat):Int)-1)=((2 ^ g.V.O.length-1:Nat):Int):=by
  have:0<2 ^ g.V.O.length:=Nat.two_pow_pos _;exact kJ om om om
 have cI:=Zyt (a:=D) (b:=2 ^ g.V.O.length-1) om om;rw[decide_eq_true (by rw[Nat.and_two_pow_sub_one_eq_mod];exact Nat.mod_eq_of_lt hD)]at cI;have cU:=CD hs.n8 hs.m16 (SortsOk.subsIn hs.Ψ);rw[gt]at cS cU⊢;refine m61 λnK rr=>?_;have hDs:=iU hD hN;have z0:((db (fj g D) 0:Nat):Int)=0:=rfl;refine gI (ts:=[.slot 4]) 4611686293846361079 Tryz.func216 ?_;refine cg 2 @ae @ae (cS) ?_;refine fC @ae (cB) ?_;refine oZ (ai @hw0 @ae) (cI) @ae ?_;refine cg 4 @ae @ae (cU) ?_;refine ec @ae @ae ?_;have F:=ai @z0 @ae;refine gL (ι:=Nat) [5,7,8,9,29,38,62] [] (λi=>[(7,GU i),(5,GU (db (fj g D) i))]) (λi=>[]) (λi=>i<=g.V.O.length) (λi=>g.V.O.length-i) (0) (Taj _) (λi hi=>?_)
 by_cases am:i<g.V.O.length;rotate_left
 ·exact m79
 have gp:=bW (k:=i) om;have hu:=(rA (SortsOk.subsIn hs.Ψ)).get am;have ru:=gN hu.1;have h2p:2 ^ i<2 ^ g.V.O.length:=Nat.pow_lt_pow_right om am;have nS:=zp (iU (Tbd (sx (fj g D) i) (Tbt om hi)) hN) (iU h2p hN);refine cg 8 (aj3 (lT i g.V.O.length) @nK @ae) @ae (uE (a:=D) (k:=i) hDs om) ?_;rw[<- (ZJh g D i)];refine ec @ae @ae ?_;have F:=@ae;refine gL (ι:=Nat) [8,9,38] [] (λk=>[(9,GU k),(8,GX (mN g D i k))]) (λk=>[]) (λk=>k<=g.V.O.length) (λk=>g.V.O.length-k) (0) (Taj _) (λk hk=>?_);by_cases qX:k<g.V.O.length;rotate_left
 ·obtain rfl:k=g.V.O.length:=by omega
  refine fN 13 (aj3 (lF g.V.O.length g.V.O.length) @nK @ae) ?_
  cases hb:mN g D i g.V.O.length with
  | false =>
   have e:db (fj g D) (i+1)=db (fj g D) i:=by
    rw[db,if_neg (λq=>by rw[ZtQ.2 q]at hb;cases hb),Nat.or_zero]
   have F:=aj3 @gp @e @ae;exact yV
  | true =>
   have e:db (fj g D) i ||| 2 ^ i=db (fj g D) (i+1):=by
    rw[db,if_pos (ZtQ.1 hb)]
   rw[e]at nS;refine cq 14 @ae @ae (Zg7 (k:=i) om) (ai @nS @ae) ?_;have F:=ai @gp @ae;exact yV
 have Ay:=bW (k:=k) om;have cH:=uE (a:=D) (k:=k) hDs om;have FU:=uE (a:=(up g.V).getD i 0) (k:=k) (iU hu.2 hN) om;refine fN 12 (aj3 (lT k g.V.O.length) @nK @ae) ?_
 cases hb:mN g D i k with
 |false =>
  have F:=aj3 @Ay (ZIL hb) @ae;exact xQ
 |true =>
 by_cases qz:k=i
 ·have F:=aj4 @Ay (eq_true om:((k:Int)=i)=True) (Zp5 hb (.inl qz)) @ae;exact xQ
 have q3:((k:Int)=i)=False:=eq_false om;refine gB ?_;refine fC (ai @q3 @ae) (cH) ?_
 cases hd:bG D k with
 |false =>
  refine fR (ai @q3 @ae) ?_;have F:=aj3 @Ay (Zp5 hb (.inr (.inl hd))) @ae;exact xQ
 |true =>
 refine fC (aj7 @q3 @ru @rr @nK @am @bw @ae) (FU) ?_
 cases lH:bG ((up g.V).getD i 0) k with
 |false =>
  refine fR (ai @q3 @ae) ?_;have F:=aj3 @Ay (Zp5 hb (.inr (.inr lH))) @ae;exact xQ
 |true =>
  refine fR (ai @q3 @ae) ?_;have F:=aj3 @Ay (ZHP qz hd lH) @ae;exact xQ
def Zpe(aq:kL g)(hs:SortsOk g.V){a k:Int}(ha:0<=a/\a<g.V.O.length)(hk:0<=k/\k<g.V.O.length):aI e0 194 [.agg (gt g.V),GT a,GT k] [GT (dY g a k)]:=by
 have hN:=hs.n8;have cA:=ZoV aq hs ha.1 ha.2;have cK:=ZoV aq hs hk.1 hk.2;have h1:=(Be hs ha.1 ha.2).2;have hb:=wK (iU h1 hN) (iU ((Be hs hk.1 hk.2).2) hN);have cG:=ZHQ aq hs (D:=fy g a&&&fy g k) (Tbf Nat.and_le_left h1);rw[gt]at cA cK cG⊢;refine gI (ts:=[.slot 6]) 79 Tryz.func194 ?_;refine cg 1 @ae @ae (cA) ?_;refine fC @ae (cK) ?_;refine fC (ai @hb @ae) (cG) ?_
 exact iF @ae @ae
end
def m242(h:G3:=by
 rw[hA.nas ha];exact(hg.Z o (Tac ho)).ar d hA.fst):G3:=h
def m216(h:G3:=by
 obtain⟨a,ha,rfl⟩:=Tbj.1 hs;exact Zgn hg (bS a ha).node):G3:=h
def m212(h:G3:=by
 exact yj λb _=>by unfold Ca sM;rw[if_neg (by simp[ha]),hc];simp):G3:=h
def El(h:G3:=by
 exact(have F:=ae;ee (R:=Fx g b t l) [1000] hR (hp:=rfl))):G3:=h
section
variable{g:Sgn}
def ZtR(hg:SgnOk g)(hF:∀o∈g.ops,o.Θ=false/\o.Ω=0):∀(n:Nat){t:Tm},ah t<n->e6 g t->aI e0 196 [.agg (ck g),.agg (ax t)] [GT ((av g t:Nat):Int)]:=by
 intro n
 induction n with
 |zero=>exactλ{t}h _=>absurd h om
 |succ n IH =>
 intro t bP hf;obtain⟨pW,bS,_⟩:=mH.1 hf;have cU:=CD hg.V.n8 hg.V.m16 (SortsOk.subsIn hg.V.Ψ);rw[gt]at cU;by_cases bE:t.op=-1
 ·have hv:dp g t:=pW.resolve_right λ⟨o,d,hA⟩=>by have:=hA.lo;omega
  have q1:(t.op=-1)=True:=eq_true bE;obtain⟨k,hk⟩:∃k:Nat,t.sort=k:=⟨t.sort.toNat,by have:=hv.2.2.1;omega⟩;have tC:=yr hg.V hv.2.2.1 hv.2.2.2.1;have tC:=gN tC.1;rw[(EY (g:=g) bE)];have ul:=gH (l:=up g.V);rw[(rA (SortsOk.subsIn hg.V.Ψ)).1]at ul;have i0:0<=t.sort:=hv.2.2.1;have i1:(t.sort.toNat<g.V.O.length)=True:=eq_true (by have:=hv.2.2.2.1;omega)
  rw[ck];refine gI (ts:=[.slot 4]) 4629704814991770879 Tryz.func196 ?_;refine cg 2 (ai @q1 @ae) @ae (cU) ?_;exact iF (aj6 @i0 @i1 @ul (iS (l:=up g.V)) @tC @ae) @ae
 have q1:(t.op=-1)=False:=eq_false bE;obtain⟨o,d,hA⟩:∃o d,AppOk g t o d:=pW.resolve_left λhv=>bE hv.1;have h0:=hA.lo;have ho:=hA.at';have h7:=hA.len7 hg
 have ih:∀a∈t.Y,aI e0 196 [.agg (ck g),.agg (ax a)] [GT ((av g a:Nat):Int)]:=λa ha=>IH (by
  have h1:=iB t;have h2:=kv ha;omega) (bS a ha)
 clear IH;have e:=Zjg bE ho;rw[e];have kZ:∀s∈t.Y.map (av g),s<2 ^ g.V.O.length:=λs hs=>by
  exact m216
 have lS:(t.Y.map (av g)).length=t.Y.length:=Tay _;rw[ck]at ih⊢;have qA:nR []=[]:=rfl;have tM:t.Y.take 0=[]:=rfl;refine gI (ts:=[.slot 4]) 4629704814991770879 Tryz.func196 ?_;refine fG (ai @q1 @ae) ?_;have F:=aj3 @qA @tM @ae;refine gL (ι:=Nat) [5,6,23] [5] (λi=>[(6,GU i),(5,.Υ 5)]) (λi=>[(5,.Υ none 3 1 (nR ((t.Y.take i).map (av g))))]) (λi=>i<=t.Y.length) (λi=>t.Y.length-i) (0) (Taj _) (λi hi=>?_)
 have nl:=gH (l:=(t.Y.take i).map (av g));rw[Tay,List.length_take_of_le hi]at nl;have nr:=iS (l:=(t.Y.take i).map (av g));by_cases e7:i<t.Y.length
 ·have q2:=lT i t.Y.length;obtain⟨a,pe⟩:∃a,t.Y[i]?=some a:=⟨_,Taa e7⟩;have cA:=ih a (Tac pe);have ns:=ZhR (l:=(t.Y.take i).map (av g)) (av g a);rw[ZoU pe]at ns;refine cq 7 (ai @q2 @ae) (aj3 @pe @bw @ae) (cA) (aj5 @nl @nr @ns (eq_true (by unfold al;omega):(i+1<=al)=True) @ae) ?_;have F:=ai (bW (k:=i) om) @ae;refine gG ?_;exact⟨i+1,e7,gw,gw,om⟩
 obtain rfl:i=t.Y.length:=by omega
 have q2:=lF t.Y.length t.Y.length;rw[Tap]at nl nr⊢;have am:=λb=>Zgn hg (t:=b);have hD:=hA.dlen hg;rw[<- lS]at hD;have cF:=λ(ha:o.Θ=false)=>Zm0 hg h0 ho (t.Y.map (av g)) (hD ha);have h2:=Opr.deg2 hg ho;rw[ck]at cF;clear hi e7;have ha:o.Θ=false:=(hF o (Tac ho)).1;have h3:t.Y.length<=3:=by
  exact m242
 have cF:=cF ha (by rw[lS];exact h3) kZ
 cases hc:o.comm with
 | true =>
  have e2:db (tc g o (t.Y.map (av g))) g.V.O.length ||| db (tc g o (t.Y.map (av g)).reverse) g.V.O.length=qr g o (t.Y.map (av g)):=by
   unfold qr;rw[ZoP];exact m212
  have pn:=zp (iU (sx (tc g o (t.Y.map (av g))) g.V.O.length) hg.V.n8) (iU (sx (tc g o (t.Y.map (av g)).reverse) g.V.O.length) hg.V.n8);rw[e2]at pn;have cG:=Zm0 hg h0 ho (t.Y.map (av g)).reverse (by rw[List.length_reverse];exact hD ha) (by rw[List.length_reverse,lS];exact h3) (λs hs=>kZ s (List.mem_reverse.1 hs));rw[ck]at cG;have tG:(t.Y.map (av g)).length=2:=by rw[lS,hA.nas ha];exact h2 (.inr (.inl hc)) d (Tac hA.fst)
  clear e2  hD h2 ih bS e;rw[lS]at tG;generalize qr g o (t.Y.map (av g))=V at pn⊢;generalize db (tc g o (t.Y.map (av g))) g.V.O.length=V1 at pn cF;generalize db (tc g o (t.Y.map (av g)).reverse) g.V.O.length=V2 at pn cG;have hl3:=lS;rw[tG]at hl3 nl;obtain⟨s1,s2,hs12⟩:∃s1 s2,t.Y.map (av g)=[s1,s2]:=by
   match t.Y.map (av g),hl3 with
   |[x,y],_=>exact⟨x,y,rfl⟩
  rw[hs12]at cF cG nr nl⊢;simp only[List.reverse_cons,List.reverse_nil,Tah,List.singleton_append]at cG;have cG:=ZCn cG;have g0:(nR [s1,s2])[0]?=some [GS s1]:=rfl;have g1:(nR [s1,s2])[1]?=some [GS s2]:=rfl;refine fN 14 (aj7 @q2 @ha @hc @h0 @ho @cz @ae) ?_;refine rp (vH [5] (by have F:=@ae;exact iK)) λy' G6=>?_
  subst G6;refine gB ?_;refine fC @ae (cF) ?_;refine fC (aj5 @nl @nr @g0 @g1 @ae) (cG) ?_;exact iF (ai @pn @ae) @ae
 | false =>
  have e2:db (tc g o (t.Y.map (av g))) g.V.O.length=qr g o (t.Y.map (av g)):=by
   unfold qr;exact m212
  rw[e2]at cF;refine cg 15 (aj7 @q2 @ha @hc @h0 @ho @cz @ae) @ae (cF) ?_;exact iF @ae @ae
def ZkV(hg:SgnOk g)(hF:∀o∈g.ops,o.Θ=false/\o.Ω=0)(b:Nat):∀(n:Nat){t:Tm},ah t<n->ah t<=60->e6 g t->∀l,mE g l->aT e0 177 [.I (.ptr (bx g (.A (.map (some b))))),.agg (ax t)] [ff b l] (Fx g b t l):=by
 intro n
 induction n with
 |zero=>exactλ{t}h _ _ _ _=>absurd h om
 |succ n IH =>
 intro t bP h60 hf l hM;obtain⟨pW,bS,_⟩:=mH.1 hf;by_cases bE:t.op=-1
 ·have hv:dp g t:=pW.resolve_right λ⟨o,d,hA⟩=>by have:=hA.lo;omega
  have q1:(t.op<0)=True:=eq_true om;have tC:=yr hg.V hv.2.2.1 hv.2.2.2.1;have tC:=gN tC.1;have e:=EY (g:=g) bE;have ul:=gH (l:=up g.V);rw[(rA (SortsOk.subsIn hg.V.Ψ)).1]at ul;have ur:=iS (l:=up g.V);have i0:0<=t.sort:=hv.2.2.1;have i1:(t.sort.toNat<g.V.O.length)=True:=eq_true (by have:=hv.2.2.2.1;omega);have hR:Fx g b t l [GT (dw g t.sort:Nat)] [ff b l]:=⟨l,by rw[e],rfl,hM,jl.refl⟩
  clear IH bS;unfold nR at ul ur tC;refine dX (ts:=[.slot 4]) [1000] 604463053930783360175611 Tryz.func177 ?_;refine fG (aj8 @q1 @i0 @i1 @ul @ur @tC @lu @ae) ?_;exact El
 have q1:(t.op<0)=False:=eq_false (by
  obtain⟨o,d,hA⟩:∃o d,AppOk g t o d:=pW.resolve_left λhv=>bE hv.1;have:=hA.lo;omega)
 obtain⟨o,d,hA⟩:∃o d,AppOk g t o d:=pW.resolve_left λhv=>bE hv.1;refine dX (ts:=[.slot 4]) [1000] 604463053930783360175611 Tryz.func177 ?_;refine cq 3 (ai @q1 @ae) @ae ((ZCI hg hf h60)) @ae ?_;refine dC 4 @ae 5 (ai @lu @ae) ?_
 cases jM:jV l (ko t)with
 |some v =>
  have hv:=hM t hf v jM;subst hv;have hR:Fx g b t l [GT (av g t:Nat)] [ff b l]:=⟨l,rfl,rfl,hM,jl.refl⟩;refine(have F:=ae;gLo 1000 Zmy yy ZCJ (v:=.int .i64 (av g t:Nat)) (f:=true) (by rw[jM];rfl) (by rw[jM];rfl) ?_);refine ec @ae @ae ?_;exact El
 |none =>
 refine(have F:=ae;gLo 1000 Zmy yy ZCJ (v:=.int .i64 0) (f:=false) (by rw[jM];rfl) (by rw[jM];rfl) ?_);have h7:=hA.len7 hg;have qA:nR []=[]:=rfl;have tM:t.Y.take 0=[]:=rfl;refine ec @ae @ae ?_;have F:=aj3 @qA @tM @ae;refine gL (ι:=Nat×List (ByteArray×Value)) [8,10,41,42] [8,1000] (λx=>[(41,GU x.1),(8,.Υ 8)]) (λx=>[(8,.Υ none 3 1 (nR ((t.Y.take x.1).map (av g)))),(1000,ff b x.2)]) (λx=>x.1<=t.Y.length/\mE g x.2/\jl g (ah t-1) l x.2) (λx=>t.Y.length-x.1) ((0,l)) (⟨Taj _,hM,jl.refl⟩) (λx hx=>?_)
 obtain⟨i,l1⟩:=x;obtain⟨hi,hM1,hG1⟩:=hx;simp only at hi hM1 hG1;dsimp only;have nl:=gH (l:=(t.Y.take i).map (av g));rw[Tay,List.length_take_of_le hi]at nl;have nr:=iS (l:=(t.Y.take i).map (av g));by_cases e7:i<t.Y.length
 ·have q2:=lT i t.Y.length;obtain⟨a,pe⟩:∃a,t.Y[i]?=some a:=⟨_,Taa e7⟩;have sD:=Tac pe;have mV:=iB t;have po:=kv sD;have cA:=IH (t:=a) om om (bS a sD) l1 hM1;have ns:=ZhR (l:=(t.Y.take i).map (av g)) (av g a);rw[ZoU pe]at ns;have c8:(i+1<=al)=True:=eq_true (by unfold al;omega);have hw:=bW (k:=i) om;refine kQ 11 (aj4 @q2 @pe @bw @ae) ?_;have F:=aj5 @ZIJ @lu @pe @bw @ae;refine cQ [1000] [1000] (hpn:=rfl) (cA) ?_
  rintro r pm ⟨l2,rfl,rfl,hM2,hG2⟩;refine m7 ?_;refine fR (aj5 @nl @nr @ns @c8 @ae) ?_;have F:=ai @hw @ae;refine gG ?_;exact⟨(i+1,l2),⟨e7,hM2,hG1.trans (hG2.mono om)⟩,gw,gw,om⟩
 obtain rfl:i=t.Y.length:=by omega
 have q2:=lF t.Y.length t.Y.length;rw[Tap]at nl nr⊢;clear IH;have h0:=hA.lo;have ho:=hA.at';have e:=Zjg bE ho;have BP:jV l1 (ko t)=none:=hG1 t hf (by have:=iB t;omega) jM;have hR:Fx g b t l [GT (av g t:Nat)] [ff b (l1++[(ko t,.int .i64 (av g t:Nat))])]:=⟨_,rfl,rfl,hM1.snoc hg hf,(hG1.mono om).trans (jl.snoc hg hf)⟩;have kZ:∀s∈t.Y.map (av g),s<2 ^ g.V.O.length:=λs hs=>by
  exact m216
 have lS:(t.Y.map (av g)).length=t.Y.length:=Tay _;have h3:o.Θ=false->t.Y.length<=3:=λha=>by
  exact m242
 have hD:=hA.dlen hg;have h2:=Opr.deg2 hg ho;have cR:=λh1 h2=>Zvf (mc:=.A (.map (some b))) hg h0 ho (t.Y.map (av g)) h1 h2 kZ;have eR:=ZHu hg ho (sets:=t.Y.map (av g));rw[lS]at cR eR;have ha:o.Θ=false:=(hF o (Tac ho)).1;rw[<- e]at eR;clear bS e kZ;by_cases cw:t.Y.length<=2
 ·have q3:((t.Y.length:Int)<=2)=True:=eq_true om;have cR:=cR (hD ha) om;rw[eR λha=>by have:=(hA.asc ha).1;omega]at cR;refine cq 16 (aj5 @q2 @q3 @nl @nr @ae) (ai @lu @ae) (cR) @ae ?_;refine dC 19 @ae 6 (ai @lu @ae) ?_;refine(have F:=ae;gUp 1000 Zmy yy BP ?_);refine ec @ae @ae ?_;exact El
 have q3:((t.Y.length:Int)<=2)=False:=eq_false om;have cR:=cR (hD ha) (h3 ha);rw[eR λeU=>by rw[ha]at eU;cases eU]at cR;refine cq 16 (aj10 @q2 @q3 @nl @nr @ha @h0 @ho @lu @cz @ae) (ai @lu @ae) (cR) @ae ?_;refine dC 19 @ae 6 (ai @lu @ae) ?_;refine(have F:=ae;gUp 1000 Zmy yy BP ?_);refine ec @ae @ae ?_;exact(have F:=ae;ee (R:=Fx g b t l) [1000] hR (hp:=rfl))
end
section
variable{g:Sgn}{b:Nat}
def ZGZ(g:Sgn)(b:Nat)(w:World):Prop:=(∀c,c=b->¬e0.E c)/\∃M,mE g M/\kF w b M
noncomputable def eM(g:Sgn)(b:Nat):Env:=e0.plus (λc=>c=b) (ZGZ g b)
def eMP:∀(g:Sgn)(b:Nat),(eM g b).P=Tryz.prog:=λ_ _=>rfl
def yn:Fits e0 (λc=>c=b) (ZGZ g b):=⟨λw w' hz hE⟨h1,M,h2,h3⟩=>⟨h1,M,h2,kF.Κ b M w w' hz hE h3⟩,λw h=>h.1⟩
def v8:(eM g b).Ok:=yn.ok Zse
def aI.m{f:FuncId}{args r:AS}(h:aI e0 f args r):aI (eM g b) f args r:=aI.up yn h
def fX.m{f:FuncId}{args:AS}{R:AS->Prop}(h:fX e0 f args R):fX (eM g b) f args R:=fX.up yn h
def sO.m{f:FuncId}{args:AS}{ty sz:Nat}{rows:sh}(h:sO e0 f args ty sz rows):sO (eM g b) f args ty sz rows:=sO.up yn h
def jH.m{f:FuncId}{ty sz:Nat}{rows rows':sh}{args r:AS}(h:jH e0 f ty sz rows args rows' r):jH (eM g b) f ty sz rows args rows' r:=jH.up yn h
def sP.m{f:FuncId}{ty sz:Nat}{rows rows':sh}{args:AS}(h:sP e0 f ty sz rows args rows'):sP (eM g b) f ty sz rows args rows':=sP.up yn h
def aT.m{f:FuncId}{args:AS}{pm:GQ}{R:AS->GQ->Prop}(h:aT e0 f args pm R):aT (eM g b) f args pm R:=aT.up yn h
def aT.imp{e:Env}{f:FuncId}{args:AS}{pm:GQ}{R R':AS->GQ->Prop}(h:aT e f args pm R)(hR:∀r pm,R r pm->R' r pm):aT e f args pm R' :=
 ⟨h.1,λw S vs hS hE hG gV li d8=>(h.2 w S vs hS hE hG gV li d8).mono λen w'⟨v,r,bj,h1,hr,hk⟩=>⟨v,r,bj,h1,hR r bj hr,hk⟩⟩
def Zvq(hg:SgnOk g)(hF:∀o∈g.ops,o.Θ=false/\o.Ω=0){t:Tm}(hs:ah t<=60)(hf:e6 g t):aI (eM g b) 177 [.I (.ptr (bx g (.A (.map (some b))))),.agg (ax t)] [GT (av g t:Nat)] :=
 ZE0 (ι:=List (ByteArray×Value)) (G:=λM w=>kF w b M) (ok:=mE g) yn (kF.Κ b) (λw h=>h.2) (λw M h1 h2 h3=>⟨h1,M,h2,h3⟩) (ZkV hg hF b _ (Tan _) hs hf [] mE.nil).1
  λM hM=>(ZkV hg hF b _ (Tan _) hs hf M hM).imp λr pm⟨M',h1,h2,h3,_⟩=>⟨h1,M',h3,h2⟩
def pM{ay:Nat}{c:Code}{s:d3}{m m2:it}{Q:PX->St->Prop}(g:Sgn)(b k:Nat)(hK:de (eM g b) ay c ⟨s,m2⟩ Q)(hm:gm m k=some (ff b []):=by exact oJ)(hr:aA k m=m2:=by exact dE):de e0 ay c ⟨s,m⟩ Q:=by
 subst hr;exact ZHR k yn.st hm (λhd=>⟨yn,λw h=>⟨hd,[],mE.nil,h⟩⟩) λ_=>hK
def gXm{K:GR}{ds:By}{os:GL}{d t ty:Nat}{p:String}{ed:Array Edge}{parts:List (Nat×Operand)}{s:d3}{m:it}{cs iE:we}(hK:an (eM g b) ds 0 os ⟨(d,.d (.agg iE))::s,m⟩ K)
  (hz:qm e0.P t=some cs:=by exact j0) (aZ:wG e0.P t:=by exact j0) (aq:cs.all bQ:=by first|rfl|exact j0) (hf:sw e0.P t cs (parts.map λp=>(p.1,aL s p.2))=some iE:=by exact jZ):an (eM g b) ds 0 (⟨some d,.build t parts.toArray,ty,p,ed,none⟩::os) ⟨s,m⟩ K:=gX hK hz aZ aq hf
def Zmz(a k:Nat):(a&&&2 ^ k=0)↔a.testBit k=false:=by
 constructor
 ·intro h;have:=congrArg (λx=>x.testBit k) h;simpa[Nat.testBit_and,Nat.testBit_two_pow]using this
 ·intro h;refine Nat.eq_of_testBit_eq λi=>?_;rw[Nat.testBit_and,Nat.testBit_two_pow,Nat.zero_testBit];by_cases e:k=i
  ·subst e;rw[h];rfl
  ·simp[e]
def ao:=aj3 @ae @eMP @lu
end
def m264(b:G5)(h:Bx G5->G4:=by
 intro B0
 have cB:=cB us (λu hu=>by
  obtain⟨a,ha,hau⟩:=Fe d7 u hu;exact yE hg hS.to' _ a (Tan _) (ht.arg ha) hau) om
 exact B0.o cB):G4:=h ⟨b⟩
def Er(h:G3:=by
 refine gG ?_;exact⟨i+1,⟨e7,d4⟩,gw,gw,om⟩):G3:=h
def dp.eq_iff{g:Sgn}{a b:Tm}(ha:dp g a)(hb:dp g b):aU a b=0↔a.name=b.name/\a.sort=b.sort:=by
 rw[ro];obtain⟨h1,_,_,_,h2⟩:=ha;obtain⟨h3,_,_,_,h4⟩:=hb;obtain⟨o,n,s,l⟩:=a;obtain⟨o',n',s',l'⟩:=b;simp only[Tm.op,Tm.Y]at h1 h2 h3 h4;subst h1 h2 h3 h4;simp[Tm.name,Tm.sort]
section
variable{g:Sgn}{l:GP}
def Zrd{l:GP}{i:Nat}{y:Bd}(h:l[i]?=some y)(v:Tm):fx (l.drop i) v=if aU y.var v=0 then some y.to else fx (l.drop (i+1)) v:=by
 obtain⟨hi,rfl⟩:=Tad.1 h;rw[List.drop_eq_getElem_cons hi];rfl
def Znc(hl:∀y∈l,dp g y.var)(h8:l.length<=1000){v:Tm}(hv:dp g v):aI e0 127 [.I (.sl (aK l)),.agg (ax v)] [.agg (ax ((fx l v).getD v)),.I (.A (.bool (fx l v).isSome))]:=by
 have bl:=fE l;have bg:=rv l;have bb:=eI l;refine gI (ts:=[.cell 4 46,.slot 5]) 134221755 Tryz.func127 ?_;refine fG (ai @bl @ae) ?_;have F:=@ae;refine gL (ι:=Nat) [5,7,10,11,27] [] (λi=>[(10,GU i)]) (λi=>[]) (λi=>i<=l.length/\fx (l.drop i) v=fx l v) (λi=>l.length-i) (0) (⟨Taj _,rfl⟩) (λi hi=>?_);obtain⟨hi,d4⟩:=hi;by_cases e7:i<l.length
 rotate_left
 ·obtain rfl:i=l.length:=by omega
  have q2:=lF l.length l.length;rw[List.drop_length]at d4;have e:fx l v=none:=d4.symm;rw[e];have z1:(none:Option Tm).getD v=v:=rfl;exact fD (aj3 @q2 @z1 @ae)
 have q2:=lT i l.length;obtain⟨y,hy⟩:∃y,l[i]?=some y:=⟨_,Taa e7⟩;rw[Zrd hy]at d4;have fV:=bW (k:=i) om;have he:=dp.eq_iff (hl y (Tac hy)) hv;by_cases h1:y.var.name=v.name;rotate_left
 ·have q3:(y.var.name.toList==v.name.toList)=false:=beq_eq_false_iff_ne.2 λh=>h1 (toList_inj h);rw[if_neg (λh=>h1 (he.1 h).1)]at d4;have F:=aj11 @q2 @q3 @fV @bl @bb @bg @hy @dz @Zyz @bw @ae;exact Er
 have q3:(y.var.name.toList==v.name.toList):=by rw[h1];exact beq_self_eq_true _
 by_cases h2:y.var.sort=v.sort;rotate_left
 ·have q4:(y.var.sort=v.sort)=False:=eq_false h2;rw[if_neg (λh=>h2 (he.1 h).2)]at d4;have F:=aj12 @q2 @q3 @q4 @fV @bl @bb @bg @hy @dz @Zyz @bw @ae;exact Er
 have q4:(y.var.sort=v.sort)=True:=eq_true h2;rw[if_pos (he.2 ⟨h1,h2⟩)]at d4;rw[<- d4];have z1:(some y.to).getD v=y.to:=rfl;exact fD (aj12 @q2 @q3 @q4 @z1 @bl @bb @bg @hy @dz @Zyz @bw @ae)
def ZC4(hl:uN l){v:Tm}(hv:bc v)(h8:l.length<=1000):aI e0 222 [.I (.sl (aK l)),.agg (ax v)] [.agg (ax ((fx l v).getD jS)),.I (.A (.bool (fx l v).isSome))]:=by
 have bl:=fE l;have bg:=rv l;have bb:=eI l;have hz:=Zpf;refine gI (ts:=[.cell 4 46,.slot 5]) 525435 Tryz.func222 ?_;refine fG (ai @bl @ae) ?_;have F:=@ae;refine gL (ι:=Nat) [5,6,10,19] [] (λi=>[(6,GU i)]) (λi=>[]) (λi=>i<=l.length/\fx (l.drop i) v=fx l v) (λi=>l.length-i) (0) (⟨Taj _,rfl⟩) (λi hi=>?_);obtain⟨hi,d4⟩:=hi;by_cases e7:i<l.length
 rotate_left
 ·obtain rfl:i=l.length:=by omega
  have q2:=lF l.length l.length;rw[List.drop_length]at d4;have e:fx l v=none:=d4.symm;rw[e];have z1:(none:Option Tm).getD jS=jS:=rfl;exact fD (aj5 @q2 @z1 @hz @bl @ae)
 have q2:=lT i l.length;obtain⟨y,hy⟩:∃y,l[i]?=some y:=⟨_,Taa e7⟩;rw[Zrd hy]at d4;have fV:=bW (k:=i) om;refine cg 4 (aj3 @q2 @bl @ae) (aj7 @bl @bb @bg @hy @dz @bw @ae) ((Fh (hl y (Tac hy)).1 hv)) ?_;by_cases h1:aU y.var v=0;rotate_left
 ·have q3:decide (aU y.var v=0)=false:=decide_eq_false h1;rw[if_neg h1]at d4;rw[q3];refine fR @ae ?_;have F:=aj3 @fV @dz @ae;exact Er
 have q3:decide (aU y.var v=0):=decide_eq_true h1;rw[if_pos h1]at d4;rw[q3,<- d4];have z1:(some y.to).getD jS=y.to:=rfl;exact iF @ae (aj8 @z1 @bl @bb @bg @hy @dz @bw @ae)
structure SbsW(g:Sgn)(l:GP):Prop where
 len:l.length<=1000
 var:∀y∈l,dp g y.var
 to':∀y∈l,TermOk g y.to
def SbsOk.w(h:SbsOk g l):SbsW g l:=⟨Tbe h.len (by decide),h.var,h.to'⟩
def SbsW.okB(hg:SgnOk g)(h:SbsW g l):uN l:=λy hy=>⟨e6.ok hg _ _ (Tan _) (h.var y hy).term.Η,e6.ok hg _ _ (Tan _) (h.to' y hy).Η⟩
noncomputable def xa(g:Sgn)(l:GP)(t:Tm):Tm:=if t.op=-1 then(fx l t).getD t else match bU g l t.Y with
 |none=>jS
 | some us=>match g.ops[t.op.toNat]? with
  |none=>jS
  |some o=>match o.Z[0]? with
   |none=>jS
   |some d=>GG g o d t.op us
def ZxB{t:Tm}(h:t.op=-1):xa g l t=(fx l t).getD t:=by unfold xa;rw[if_pos h]
def ZE6{t:Tm}(h:t.op≠-1)(hn:bU g l t.Y=none):xa g l t=jS:=by unfold xa;rw[if_neg h,hn]
def ZHU{t:Tm}{us:AI}{o:Opr}{d:Dcl}(h:t.op≠-1)(hu:bU g l t.Y=some us)(ho:g.ops[t.op.toNat]?=some o)(hd:o.Z[0]?=some d):xa g l t=GG g o d t.op us:=by
 unfold xa;rw[if_neg h,hu];simp only[ho,hd]
def Zkn {t u:Tm} (h:co g l t=some u):xa g l t=u:=by
 by_cases ho:t.op=-1
 ·rw[yt ho,Taq]at h;rw[ZxB ho,h]
 ·rw [sS ho]at h;unfold xa;rw[if_neg ho]
  cases h1:bU g l t.Y with
  |none=>rw[h1]at h;cases h
  | some us =>
   rw[h1,Option.bind_some]at h;unfold ww at h
   cases h2:g.ops[t.op.toNat]? with
   |none=>rw[h2]at h;cases h
   | some o =>
    rw[h2]at h;simp only at h⊢
    cases h3:o.Z[0]? with
    |none=>rw[h3]at h;cases h
    |some d =>
     rw[h3]at h;simp only at h⊢;unfold GG;rw[h];rfl
def Zvx{mc:C}(hg:SgnOk g)(hb:∀{t:Tm}{o:Opr}{d:Dcl},AppOk g t o d->∀us:AI,(∀a∈us,TermOk g a)->us.length<=1000->aI e0 181 [.I (.ptr (bx g mc)),GT t.op,.I (.sl (az us))] [.agg (ax ((lX g o d t.op us).getD jS)),.I (.A (.bool (lX g o d t.op us).isSome))])(hS:SbsW g l):∀(n:Nat){t:Tm},ah t<n->TermOk g t->aI e0 124 [.I (.ptr (bx g mc)),.I (.sl (aK l)),.agg (ax t)] [.agg (ax ((co g l t).getD jS)),.I (.A (.bool (co g l t).isSome))]:=by
 intro n
 induction n with
 |zero=>exactλ{t}h _=>absurd h om
 |succ n IH =>
 intro t bP ht;have hz:=Zpf;have h60:=Ztt ht;by_cases bE:t.op=-1
 ·have z1:(some ((fx l t).getD t)).getD jS=(fx l t).getD t:=rfl;have z2:(some ((fx l t).getD t)).isSome:=rfl;rw[yt bE];refine gI (ts:=[.cell 6 46,.slot 7]) 2201036682727 Tryz.func124 ?_;refine cg 2 (ai (eq_true om:(t.op<0)=True) @ae) @ae ((Znc hS.var hS.len (ht.var bE))) ?_;exact iF @ae (aj3 @z1 @z2 @ae)
 obtain⟨o,d,hA⟩:=ht.Η.node.resolve_left (λhv=>bE hv.1);have q1:(t.op<0)=False:=eq_false (by have:=hA.lo;omega);have cB:=λus h1 h2=>hb hA us h1 h2;refine gI (ts:=[.cell 6 46,.slot 7]) 2201036682727 Tryz.func124 ?_;refine fG (ai @q1 @ae) ?_;have F:=ai @Cr @ae;refine gL (ι:=Nat×AI) [7,10,12,13,14,29,30,41] [10] (λx=>[(29,GU x.1),(10,.Υ 10)]) (λx=>[(10,.Υ none 46 4 (az x.2))]) (λx=>x.1<=t.Y.length/\bU g l (t.Y.take x.1)=some x.2) (λx=>t.Y.length-x.1) ((0,[])) (⟨Taj _,rfl⟩) (λx hx=>?_)
 obtain⟨i,us⟩:=x;obtain⟨hi,d7⟩:=hx;simp only at hi d7;dsimp only;have qD:=Zkc d7;rw[List.length_take_of_le hi]at qD;have nl:=cc us;have nr:ZaD 4 (az us):=uL _;by_cases e7:i<t.Y.length;rotate_left
 ·obtain rfl:i=t.Y.length:=by omega
  have q2:=lF t.Y.length t.Y.length;rw[Tap]at d7;refine m264 λcB=>?_
  rw[(by rw[sS bE,d7];exact vS hA.at' hA.fst us:co g l t=lX g o d t.op us)];refine cg 13 (ai @q2 @ae) @ae (cB) ?_;exact iF @ae @ae
 have q2:=lT i t.Y.length;obtain⟨a,ha⟩:∃a,t.Y[i]?=some a:=⟨_,Taa e7⟩;have sD:=Tac ha;have mV:=iB t;have po:=kv sD;have fV:=bW (k:=i) om;have c8:(us.length+1<=al)=True:=eq_true (by unfold al;omega);have qZ:bU g l (t.Y.take (i+1))=(co g l a).map λu=>us++[u]:=by rw[Zgp ha,ZlE,d7];rfl
 refine cq 8 (aj4 @q2 @ha @bw @ae) (aj3 @ha @bw @ae) ((IH (t:=a) om (ht.arg sD))) @ae ?_
 cases hu:co g l a with
 |none =>
  have z3:(none:Option Tm).isSome=false:=rfl;have z5:(none:Option Tm).getD jS=jS:=rfl;have e:bU g l t.Y=none:=ZlF sD hu;rw[(by rw[sS bE,e];rfl:co g l t=none)];exact fD (aj4 @z3 @z5 @hz @ae)
 |some u =>
  have z3:(some u).isSome:=rfl;have z5:(some u).getD jS=u:=rfl;rw[hu]at qZ;have ns:az us++[ax u]=az (us++[u]):=by simp[oq]

  have F:=aj8 @z3 @z5 @nl @nr @ns @c8 @fV @ae;refine gG ?_;exact⟨(i+1,us++[u]),⟨e7,qZ⟩,gw,gw,om⟩
def Zko{mc:C}(hg:SgnOk g)(hF:∀o∈g.ops,o.Θ=false/\o.Ω=0)(hS:SbsW g l):∀(n:Nat){t:Tm},ah t<n->TermOk g t->aI e0 124 [.I (.ptr (bx g mc)),.I (.sl (aK l)),.agg (ax t)] [.agg (ax ((co g l t).getD jS)),.I (.A (.bool (co g l t).isSome))]:=Zvx hg (λhA us h1 h2=>ZyW hg (hF _ (Tac hA.at')).1 (hF _ (Tac hA.at')).2 hA.lo hA.at' hA.fst us h1 h2) hS
def ZrO(cZ:kL g)(hg:SgnOk g)(hb:∀{t:Tm}{o:Opr}{d:Dcl},AppOk g t o d->∀us:AI,(∀a∈us,TermOk g a)->us.length<=1000->aI e0 223 [.agg (ck g),GT t.op,.I (.sl (az us))] [.agg (ax (GG g o d t.op us)),.I (.A (.bool (lX g o d t.op us).isSome))])(hS:SbsW g l):∀(n:Nat){t:Tm},ah t<n->TermOk g t->aI e0 199 [.agg (ck g),.I (.sl (aK l)),.agg (ax t)] [.agg (ax (xa g l t)),.I (.A (.bool (co g l t).isSome))]:=by
 intro n
 induction n with
 |zero=>exactλ{t}h _=>absurd h om
 |succ n IH =>
 intro t bP ht;have hz:=Zpf;have h60:=Ztt ht;have dV:=e6.ok hg _ t (Tan _) ht.Η;have hokB:uN l:=hS.okB hg;by_cases bE:t.op=-1
 ·have q1:(t.op=-1)=True:=eq_true bE;have cB:=ZC4 hokB dV hS.len;have z2:(some ((fx l t).getD t)).isSome:=rfl;rw[ZxB bE,yt bE];rw[ck]at *;refine gI (ts:=[.cell 6 46,.slot 7]) 70370900131823 Tryz.func199 ?_;refine cq 2 (ai @q1 @ae) @ae (cB) @ae ?_
  cases hk:fx l t with
  |none =>
   have z1:(none:Option Tm).getD t=t:=rfl;have z3:(none:Option Tm).isSome=false:=rfl;rw[hk]at z2;exact fD (aj4 @z1 @z2 @z3 @ae)
  |some u =>
   have z1:(some u).getD t=u:=rfl;have z3:(some u).isSome:=rfl;have z4:(some u).getD jS=u:=rfl;rw[hk]at z2;exact fD (aj5 @z1 @z2 @z3 @z4 @ae)
 obtain⟨o,d,hA⟩:=ht.Η.node.resolve_left (λhv=>bE hv.1);have q1:(t.op=-1)=False:=eq_false bE;have cB:=λus h1 h2=>hb hA us h1 h2;rw[ck]at *;refine gI (ts:=[.cell 6 46,.slot 7]) 70370900131823 Tryz.func199 ?_;refine fG (ai @q1 @ae) ?_;have F:=ai @Cr @ae;refine gL (ι:=Nat×AI) [7,10,11,12,13,31,46] [10] (λx=>[(11,GU x.1),(10,.Υ 10)]) (λx=>[(10,.Υ none 46 4 (az x.2))]) (λx=>x.1<=t.Y.length/\bU g l (t.Y.take x.1)=some x.2) (λx=>t.Y.length-x.1) ((0,[])) (⟨Taj _,rfl⟩) (λx hx=>?_)
 obtain⟨i,us⟩:=x;obtain⟨hi,d7⟩:=hx;simp only at hi d7;dsimp only;have qD:=Zkc d7;rw[List.length_take_of_le hi]at qD;have nl:=cc us;have nr:ZaD 4 (az us):=uL _;by_cases e7:i<t.Y.length;rotate_left
 ·obtain rfl:i=t.Y.length:=by omega
  have q2:=lF t.Y.length t.Y.length;rw[Tap]at d7;have e:co g l t=lX g o d t.op us:=by rw[sS bE,d7];exact vS hA.at' hA.fst us
  refine m264 λcB=>?_
  rw[e,ZHU bE d7 hA.at' hA.fst];refine cg 14 (ai @q2 @ae) @ae (cB) ?_;exact iF @ae @ae
 have q2:=lT i t.Y.length;obtain⟨a,ha⟩:∃a,t.Y[i]?=some a:=⟨_,Taa e7⟩;have sD:=Tac ha;have mV:=iB t;have po:=kv sD;have cA:=IH (t:=a) om (ht.arg sD);have fV:=bW (k:=i) om;have c8:(us.length+1<=al)=True:=eq_true (by unfold al;omega);have qZ:bU g l (t.Y.take (i+1))=(co g l a).map λu=>us++[u]:=by rw[Zgp ha,ZlE,d7];rfl
 refine fN 10 (aj4 @q2 @ha @bw @ae) ?_;refine Dh 11 10 12 ?_;refine oZ (aj3 @ha @bw @ae) (cA) @ae ?_
 cases hu:co g l a with
 |none =>
  have z3:(none:Option Tm).isSome=false:=rfl;have z5:(none:Option Tm).getD jS=jS:=rfl;have e:bU g l t.Y=none:=ZlF sD hu;rw[(by rw[sS bE,e];rfl:co g l t=none),ZE6 bE e];exact fD (aj4 @z3 @z5 @hz @ae)
 |some u =>
  have z3:(some u).isSome:=rfl;have z5:xa g l a=u:=Zkn hu;rw[hu]at qZ;rw[z5];have F:=aj8 @z3 @z5 @nl @nr (by simp[oq]:az us++[ax u]=az (us++[u])) @c8 @fV @ae;refine gG ?_;exact⟨(i+1,us++[u]),⟨e7,qZ⟩,gw,gw,om⟩
def ZtV(cZ:kL g)(hg:SgnOk g)(hF:∀o∈g.ops,o.Θ=false/\o.Ω=0)(hS:SbsW g l):∀(n:Nat){t:Tm},ah t<n->TermOk g t->aI e0 199 [.agg (ck g),.I (.sl (aK l)),.agg (ax t)] [.agg (ax (xa g l t)),.I (.A (.bool (co g l t).isSome))]:=ZrO cZ hg (λhA us h1 h2=>Zvw cZ hg (hF _ (Tac hA.at')).1 (hF _ (Tac hA.at')).2 hA.lo hA.at' hA.fst us h1 h2) hS
end
section
variable{g:Sgn}
def Zt1{v:Tm}:∀{l m:GP},fx (l++m) v=(fx l v).or (fx m v)
 |[],m=>by simp only[Tah,fx,Option.none_or]
 |x::l,m=>by
  simp only[Taf,fx];split
  ·rfl
  ·exact Zt1
def Zrj {b:GP} {v:Tm}:∀{a m:GP},mapA g b a=some m->fx m v=(fx a v).bind (co g b)
 |[],m,h=>by
  simp only[mapA,Taq]at h;subst h;rfl
 | y::a,m,h=>by
  simp only[mapA]at h
  cases h1:co g b y.to with
  |none=>rw[h1]at h;cases h
  | some t =>
   rw[h1,Option.bind_some]at h
   cases h2:mapA g b a with
   |none=>rw[h2]at h;cases h
   |some k =>
    rw[h2,Option.map_some,Taq]at h;subst h;simp only[fx];split
    ·simp only[Option.bind_some,h1]
    ·exact Zrj h2
def ZxE (hg:SgnOk g) {a b m:GP} (ha:∀y∈a,TermOk g y.to) (hb:∀y∈b,TermOk g y.to) (hm:mapA g b a=some m):∀(n:Nat){t x y z:Tm},ah t<n->TermOk g t->co g a t=some x->co g b x=some y->co g (m++b) t=some z->y=z
 |0,_,_,_,_,h,_,_,_,_=>om
 | n+1,t,x,y,z,hn,ht,hx,hy,hz=>by
  by_cases hv:t.op=-1
  ·rw[yt hv,Taq]at hx hz;rw[Zt1,Zrj hm]at hz
   cases hl:fx a t with
   |some u =>
    rw[hl]at hx hz;have hx:u=x:=hx;subst hx;rw[Option.bind_some,hy]at hz;exact hz
   |none =>
    rw[hl]at hx hz;have hx:t=x:=hx;subst hx;rw[yt hv,Taq]at hy;rw[<- hy,<- hz];simp only[Option.bind_none,Option.none_or]
  ·obtain⟨o,d,hA⟩:=ht.Η.node.app hv;rw[sS hv]at hx hz;obtain⟨us,d7,hx⟩:=Option.bind_eq_some_iff.1 hx;obtain⟨zs,sK,hz⟩:=Option.bind_eq_some_iff.1 hz;have hut:=Zri hg ha (λc hc=>ht.arg hc) d7;obtain⟨h1,h2⟩:=ZHW hg hA.lo hA.at' hA.fst hb hut hx hy;refine h2 zs z ?_ hz;rw[(Zix h1)];congr 1;obtain⟨e1,e2⟩:=Zhd d7;obtain⟨e3,e4⟩:=Zhd sK;rw[e1,e3,List.map_map];refine List.map_congr_left λc hc=>?_
   obtain⟨u,hu⟩:=e2 c hc;obtain⟨w,hw⟩:=e4 c hc;have hum:u∈us:=by rw[e1];exact Tbj.2 ⟨c,hc,by rw[jo,hu];rfl⟩
   obtain⟨v,rc⟩:=h1 u hum;have hs:=iB t;have BT:=kv hc;have:=ZxE hg ha hb hm n om (ht.arg hc) hu rc hw;show jo g b (jo g a c)=jo g (m++b) c;rw[show jo g a c=u by rw[jo,hu];rfl,show jo g b u=v by rw[jo,rc];rfl,show jo g (m++b) c=w by rw[jo,hw];rfl];exact this
noncomputable def rn(g:Sgn)(y:Bd)(t:Tm):Tm:=(co g [y] t).getD t
def ZHX{y:Bd}(h:RenAt g y):qk g [y]:=λz hz=>by rw[Tbk.1 hz];exact h
def uH(hg:SgnOk g){y:Bd}(h:RenAt g y){t:Tm}(ht:TermOk g t):co g [y] t=some (rn g y t)/\RenTo g [y] t (rn g y t)/\TermOk g (rn g y t):=by
 obtain⟨u,h1,h2⟩:=Zke hg (ZHX h) _ t (Tan _) ht;rw[(by rw[rn,h1];rfl:rn g y t=u)];exact⟨h1,h2,yE hg (λz hz=>by rw[Tbk.1 hz];exact h.to'.term) _ t (Tan _) ht h1⟩
noncomputable def dF(g:Sgn)(ms:GP)(t:Tm):Tm:=ms.foldl (λt y=>rn g y t) t
def ZjF(ms ns:GP)(t:Tm):dF g (ms++ns) t=dF g ns (dF g ms t):=by simp[dF,List.foldl_append]
def vU(hg:SgnOk g):∀{ms:GP}{t:Tm},qk g ms->TermOk g t->TermOk g (dF g ms t)/\ah (dF g ms t)=ah t/\dS g (dF g ms t)=dS g t/\(dF g ms t).op=t.op
 |[],t,_,ht=>⟨ht,rfl,rfl,rfl⟩
 |y::ms,t,hR,ht=>by
  obtain⟨_,h2,h3⟩:=uH hg (hR y Tas) ht;obtain⟨k1,k2,k3,k4⟩:=vU hg (ms:=ms) (t:=rn g y t) (λz hz=>hR z (Tal _ hz)) h3;exact⟨k1,by rw[<- h2.size];exact k2,by rw[<- h2.kind];exact k3,by rw[<- h2.op];exact k4⟩
def mp(g:Sgn)(f:Tm->Tm)(e:Bd):Bd:=⟨e.var,f e.to⟩
def m2(f:Tm->Tm)(e:Bd):Bd:=⟨f e.var,f e.to⟩
def Zp7(hg:SgnOk g){y:Bd}(h:RenAt g y):∀{b:GP},(∀e∈b,TermOk g e.to)->mapA g [y] b=some (b.map (mp g (rn g y)))
 |[],_=>rfl
 |e::b,hb=>by
  rw[mapA,(uH hg h (hb e Tas)).1,Option.bind_some,Zp7 hg h λz hz=>hb z (Tal _ hz)];rfl
def ZxF(hg:SgnOk g){y:Bd}(h:RenAt g y):∀{r:GP},(∀e∈r,TermOk g e.var/\TermOk g e.to)->ba (qq g [y]) r=some (r.map (m2 (rn g y)))
 |[],_=>rfl
 |e::r,hr=>by
  obtain⟨h1,h2⟩:=hr e Tas;rw[ba,qq,(uH hg h h1).1,Option.bind_some,(uH hg h h2).1,Option.map_some,Option.bind_some,ZxF hg h λz hz=>hr z (Tal _ hz)];rfl
structure UTm(g:Sgn)(st:USt):Prop where
 b:∀e∈st.b,dp g e.var/\TermOk g e.to
 Γ:∀e∈st.Γ,TermOk g e.var/\TermOk g e.to
noncomputable def oK(g:Sgn)(y:Bd)(st:USt):USt:=⟨iz (st.b.map (mp g (rn g y))) y,st.Γ.map (m2 (rn g y)),st.Δ⟩
def Zt2(hg:SgnOk g){y:Bd}(h:RenAt g y){st:USt}(hU:UTm g st):cJ g st y.var y.to=some (oK g y st):=by
 have e:(⟨y.var,y.to⟩:Bd)=y:=rfl;rw[cJ,e,Zp7 hg h λz hz=>(hU.b z hz).2,Option.bind_some,ZxF hg h hU.Γ];rfl
def UTm.rn(hg:SgnOk g){y:Bd}(h:RenAt g y){st:USt}(hU:UTm g st):UTm g (oK g y st):=by
 refine⟨λe he=>?_,λe he=>?_⟩
 ·rcases Tbh.1 ((t6 _ _).mem_iff.1 he)with rfl|he
  ·exact⟨h.var,h.to'.term⟩
  ·obtain⟨z,hz,rfl⟩:=Tbj.1 he;exact⟨(hU.b z hz).1,(uH hg h (hU.b z hz).2).2.2⟩
 ·obtain⟨z,hz,rfl⟩:=Tbj.1 he;exact⟨(uH hg h (hU.Γ z hz).1).2.2,(uH hg h (hU.Γ z hz).2).2.2⟩
noncomputable def stM(g:Sgn)(ms:GP)(st:USt):USt:=ms.foldl (λs y=>oK g y ⟨s.b,s.Γ,s.Δ+1⟩) st
def ZxG(ms ns:GP)(st:USt):stM g (ms++ns) st=stM g ns (stM g ms st):=by simp[stM,List.foldl_append]
def ZjG(hg:SgnOk g):∀{ms:GP}{st:USt},qk g ms->UTm g st->UTm g (stM g ms st)
 |[],_,_,h=>h
 |y::ms,st,hR,h=>ZjG hg (ms:=ms) (λz hz=>hR z (Tal _ hz)) (UTm.rn hg (st:=⟨st.b,st.Γ,st.Δ+1⟩) (hR y Tas) ⟨h.b,h.Γ⟩)
def A9:∀(ms:GP)(st:USt),(stM g ms st).Δ=st.Δ+ms.length
 |[],_=>rfl
 |y::ms,st=>by
  have:=A9 ms (oK g y ⟨st.b,st.Γ,st.Δ+1⟩);show(stM g ms (oK g y ⟨st.b,st.Γ,st.Δ+1⟩)).Δ=_;rw[this];simp only[oK,Tag];omega
def Cw:∀(ms:GP)(b r:GP)(c:Nat),(stM g ms ⟨b,r,c⟩).Γ=r.map (m2 (dF g ms))
 |[],b,r,c=>by
  show r=_;rw[show(m2 (dF g []))=(id:Bd->Bd)from funext λe=>rfl,List.map_id]
 |y::ms,b,r,c=>by
  show(stM g ms (oK g y ⟨b,r,c+1⟩)).Γ=_;rw[oK,Cw ms,List.map_map];rfl
def ZyY:∀(ms:GP)(b r r':GP)(c:Nat),(stM g ms ⟨b,r,c⟩).b=(stM g ms ⟨b,r',c⟩).b
 |[],_,_,_,_=>rfl
 |y::ms,b,r,r',c=>by
  show(stM g ms (oK g y ⟨b,r,c+1⟩)).b=(stM g ms (oK g y ⟨b,r',c+1⟩)).b;rw[oK,oK];exact ZyY ms _ _ _ _
def Zkt{ms:GP}{b r:GP}{e:Bd}{c:Nat}:(⟨(stM g ms ⟨b,e::r,c⟩).b,(stM g ms ⟨b,e::r,c⟩).Γ.tail,(stM g ms ⟨b,e::r,c⟩).Δ⟩:USt)=stM g ms ⟨b,r,c⟩:=by
 have h4:=A9 (g:=g) ms ⟨b,e::r,c⟩;have h5:=A9 (g:=g) ms ⟨b,r,c⟩;rw[(ZyY (g:=g) ms b (e::r) r c),(Cw (g:=g) ms b (e::r) c),h4,Tbv,List.tail_cons,<- (Cw (g:=g) ms b r c)];simp only at h5⊢;rw[<- h5]
end
inductive DW(subs:List (Int×Int))(j:Nat):Nat->Nat->Prop
 |start:DW subs j 0 j
 |next {r:Nat} {p:Int×Int}:p∈subs->DW subs j r p.2.toNat->DW subs j (r+1) p.1.toNat
section
variable{n:Nat}{subs:List (Int×Int)}
def DW.trans{i j k r:Nat}(h:DW subs j r i):∀{q:Nat},DW subs k q j->∃m,DW subs k m i:=by
 induction h with
 |start=>exactλh=>⟨_,h⟩
 |next hp _ ih =>
  intro q hq;obtain⟨m,hm⟩:=ih hq;exact⟨_,.next hp hm⟩
def ZE9 (hs:jf n subs) {j:Nat} (hj:j<n) {q i:Nat} (hq:DW subs j q i):∃r,r<=n/\DW subs j r i:=by
 classical
 let R:Nat->Nat->Prop:=λr x=>∃q,q<=r/\DW subs j q x
 let c:Nat->Nat:=λr=>((List.range n).filter λx=>decide (R r x)).length
 have d6:∀r,((List.range n).filter λx=>decide (R r x))=(((List.range n).filter λx=>decide (R (r+1) x)).filter λx=>decide (R r x)):=λr=>by
  exact m145
 have cw:∀r,c r<=c (r+1):=λr=>by
  exact m225
 have am:∀r x,DW subs j r x->x<n:=λr x h=>by
  cases h with
  |start=>exact hj
  |next hp _=>have:=hs _ hp;omega
 have aZ:∀r,c (r+1)=c r->∀x,R (r+1) x->R r x:=λr e x hx=>by
  exact m45
 have hall:∀r,(∀x,R (r+1) x->R r x)->∀q x,DW subs j q x->R r x:=λr hs q x hw=>by
  induction hw with
  |start=>exact⟨0,Taj _,.start⟩
  |next hp _ ih =>
   obtain⟨q,hq,hw⟩:=ih;exact hs _ ⟨q+1,om,.next hp hw⟩
 have pR:∀r,r+1<=c r\/∃r',r' < r/\∀x,R (r'+1) x->R r' x:=λr=>by
  induction r with
  | zero =>
   left;have:j∈(List.range n).filter λx=>decide (R 0 x):=by
    simp only[List.mem_filter,List.mem_range,decide_eq_true_eq];exact⟨hj,0,Tai _,.start⟩
   exact List.length_pos_of_mem this
  |succ r ih =>
   exact m122
 rcases pR n with h|⟨r',h1,h2⟩
 ·exact m250
 ·obtain⟨q',hq',hw⟩:=hall r' h2 q i hq;exact⟨q',om,hw⟩
def Zi1{l:GN}{p:Int×Int}(hl:bq n l)(hp:0<=p.1/\p.1<n/\0<=p.2/\p.2<n)(i j:Nat):((ox l p).getD i 0).testBit j=true↔(l.getD i 0).testBit j=true\/(i=p.1.toNat/\(l.getD p.2.toNat 0).testBit j):=by
 unfold ox;rw[Zij (by rw[hl.1];omega)];by_cases e:i=p.1.toNat
 ·subst e;rw[if_pos rfl,Nat.testBit_or,Bool.or_eq_true];simp only[true_and]
 ·rw[if_neg e];simp only[e,false_and,or_false]
def Zjn:∀{ps:List (Int×Int)}{l:GN},bq n l->jf n ps->∀i j,(l.getD i 0).testBit j->((ps.foldl ox l).getD i 0).testBit j=true
 |[],l,_,_,i,j,h=>h
 |p::ps,l,hl,hs,i,j,h=>Zjn (ps:=ps) (hl.sub (hs p Tas)) (λq hq=>hs q (Tal _ hq)) i j ((Zi1 hl (hs p Tas) i j).2 (.inl h))
def Zpk:∀{ps:List (Int×Int)}{l:GN},bq n l->jf n ps->∀{p:Int×Int}{j:Nat},p∈ps->(l.getD p.2.toNat 0).testBit j->((ps.foldl ox l).getD p.1.toNat 0).testBit j=true
 |q::ps,l,hl,hs,p,j,hp,h=>by
  have hq:=hs q Tas;have mz:jf n ps:=λq hq=>hs q (Tal _ hq);rcases Tbh.1 hp with rfl|hp
  ·exact Zjn (hl.sub hq) mz _ _ ((Zi1 hl hq _ j).2 (.inr ⟨rfl,h⟩))
  ·exact Zpk (hl.sub hq) mz hp ((Zi1 hl hq _ j).2 (.inl h))
def Zjo(hs:jf n subs){l:GN}(hl:bq n l){i j:Nat}:∀{k m:Nat},k<=m->((pF subs k l).getD i 0).testBit j->((pF subs m l).getD i 0).testBit j=true
 |k,0,h,hb=>by
  have:k=0:=om;subst this;exact hb
 |k,m+1,h,hb=>by
  by_cases e:k=m+1
  ·subst e;exact hb
  ·exact Zjn (bq.iter hs m hl) hs i j (Zjo hs hl om hb)
def ZG1(hs:jf n subs){j:Nat}(hj:j<n){r i:Nat}(h:DW subs j r i):((pF subs r (iL n)).getD i 0).testBit j:=by
 induction h with
 |start =>
  show((iL n).getD j 0).testBit j=true;rw[(by simp[iL,List.getD,hj]:(iL n).getD j 0=2 ^ j),Nat.testBit_two_pow];simp
 |next hp _ ih=>exact Zpk (bq.iter hs _ (bq.start _)) hs hp ih
def ZG2{s:Srt}(hs:jf s.O.length s.Ψ){i j:Nat}(h:((up s).getD i 0).testBit j):∃r,DW s.Ψ j r i:=by
 have BI:∀{subs:List (Int×Int)}{l:GN},bq s.O.length l->jf s.O.length subs->(∀p∈subs,p∈s.Ψ)->(∀i j,(l.getD i 0).testBit j->∃r,DW s.Ψ j r i)->∀i j,((subs.foldl ox l).getD i 0).testBit j->∃r,DW s.Ψ j r i:=λ{subs}=>by
  induction subs with
  |nil=>exactλ_ _ _ h=>h
  |cons p ps ih =>
   intro l hk wt hi h;refine m246 λhp i j hb=>?_;rcases(Zi1 hk hp i j).1 hb with hc|⟨e,hc⟩
   ·exact h _ _ hc
   ·subst e;obtain⟨r,hr⟩:=h _ _ hc;exact⟨r+1,.next (hi p Tas) hr⟩
 have xv:∀k,∀i j,((pF s.Ψ k (iL s.O.length)).getD i 0).testBit j->∃r,DW s.Ψ j r i:=λk=>by
  exact m37
 exact xv _ i j h
def ZFa{s:Srt}(hs:jf s.O.length s.Ψ){i j k:Nat}(hk:k<s.O.length)(h1:((up s).getD i 0).testBit j)(h2:((up s).getD j 0).testBit k):((up s).getD i 0).testBit k:=by
 obtain⟨r,hr⟩:=ZG2 hs h1;obtain⟨q,hq⟩:=ZG2 hs h2;obtain⟨m,hm⟩:=hr.trans hq;obtain⟨t,ht,hw⟩:=ZE9 hs hk hm;exact Zjo hs (bq.start _) ht (ZG1 hs hk hw)
def Zp8{s:Srt}(hs:jf s.O.length s.Ψ){i:Nat}(hi:i<s.O.length):((up s).getD i 0).testBit i:=Zjo hs (bq.start _) (Taj _) (ZG1 hs hi .start)
end
section
variable{g:Sgn}
def mu(g:Sgn)(k:Int):Nat:=(cj (fy g k)).length
def Fu(hs:SortsOk g.V){k:Int}{i:Nat}:i∈cj (fy g k)↔i<g.V.O.length/\(dw g i).testBit k.toNat:=by
 have:=hs.n8;simp only[cj,mo,List.mem_filter,List.mem_range];rw[ZjA hs];exact⟨λh=>h.2,λh=>⟨om,h⟩⟩
def ZJk(hs:SortsOk g.V)(k:Int):mu g k<=8:=by
 have h8:=hs.n8;have:cj (fy g k)=(cj (fy g k)).filter λi=>decide (i<8):=by
  refine(List.filter_eq_self.2 λi hi=>?_).symm;have:=((Fu hs).1 hi).1;simp;omega
 unfold mu;rw[this,cj,mo,List.filter_filter];have e:(List.range 16).filter (λi=>decide (i<8)&&(fy g k).testBit i)=(((List.range 16).filter λi=>decide (i<8)).filter λi=>(fy g k).testBit i):=by
  rw[List.filter_filter];congr 1;funext i;exact Bool.and_comm _ _
 rw[e];exact Tbe (List.length_filter_le _ _) (by decide)
def ZJl(hs:SortsOk g.V){i k:Int}(sH:0<=i)(hi:i<g.V.O.length)(iY:0<=k)(hk:k<g.V.O.length)(h:(dw g i).testBit k.toNat)(aP:i≠k):mu g i<mu g k:=by
 have hS:=SortsOk.subsIn hs.Ψ;have ik:i.toNat<g.V.O.length:=om;have kk:k.toNat<g.V.O.length:=om;have ie:i.toNat≠k.toNat:=om;have h1:∀x∈cj (fy g i),x∈cj (fy g k):=λx hx=>by
  obtain⟨a,b⟩:=(Fu hs).1 hx;exact(Fu hs).2 ⟨a,ZFa hS kk b h⟩
 have h2:k.toNat∈cj (fy g k):=(Fu hs).2 ⟨kk,Zp8 hS kk⟩;have h3:k.toNat∉cj (fy g i):=λhx=>by
  obtain⟨_,b⟩:=(Fu hs).1 hx;have:=hs.pairs i.toNat k.toNat ik kk;exact this ⟨ie,h,b⟩
 have e:cj (fy g i)=(cj (fy g k)).filter λx=>(fy g i).testBit x:=by
  simp only[cj,mo,List.filter_filter];refine List.filter_congr λx hx=>?_
  cases hb:(fy g i).testBit x with
  |false=>simp
  |true =>
   have:=h1 x (by simp only[cj,mo,List.mem_filter];exact⟨hx,hb⟩);simp only[cj,mo,List.mem_filter]at this;simp[this.2]
 unfold mu;rcases Nat.lt_or_ge (cj (fy g i)).length (cj (fy g k)).length with h|h
 ·exact h
 ·exfalso;have hl:=List.length_filter_le (λx=>(fy g i).testBit x) (cj (fy g k));rw[<- e]at hl;have e2:=List.length_filter_eq_length_iff.1 (show((cj (fy g k)).filter λx=>(fy g i).testBit x).length=(cj (fy g k)).length by rw[<- e];omega) _ h2
  exact h3 (by
   simp only[cj,mo,List.mem_filter]at h2⊢;exact⟨h2.1,e2⟩)
def ZIO(hs:SortsOk g.V){k:Int}(iY:0<=k)(hk:k<g.V.O.length):1<=mu g k:=by
 have kk:k.toNat<g.V.O.length:=om;exact List.length_pos_of_mem ((Fu hs).2 ⟨kk,Zp8 (SortsOk.subsIn hs.Ψ) kk⟩)
end
def m126(h:G3:=by
 rw[Zix λc hc=>⟨c,h1 c hc⟩];congr 1
 conv=>rhs;rw[<- List.map_id t.Y]
 refine List.map_congr_left λc hc=>?_;rw[jo,h1 c hc];rfl):G3:=h
def B6(h:G3:=by
 simp only[oB,Tbv,List.sum_cons]at h2⊢;omega):G3:=h
section
open Classical
variable{g:Sgn}
def TermOk.varOk{t:Tm}(ht:TermOk g t)(hv:t.op=-1):dp g t:=by
 exact m261
def vP{v t:Tm}(ht:t.Y=[]):bR v t=true↔v=t:=by
 rw[uA,ht];simp
def zA{y:Bd}{t:Tm}(ht:t.op=-1):rn g y t=if y.var=t then y.to else t:=by
 rw[rn,yt ht];simp only[fx,Option.getD_some];by_cases h:y.var=t
 ·rw[if_pos (ro.2 h),if_pos h];rfl
 ·rw[if_neg (λq=>h (ro.1 q)),if_neg h];rfl
def ZC9 (hg:SgnOk g) {y:Bd} (h:RenAt g y) {v:Tm} (hv:v.op=-1):∀(n:Nat){t:Tm},ah t<n->TermOk g t->bR v (rn g y t)->(v=y.to/\bR y.var t)\/(v≠y.var/\bR v t)
 |0,_,hn,_,_=>om
 | n+1,t,hn,ht,ho=>by
  by_cases bE:t.op=-1
  ·have hV:=ht.varOk bE;rw[zA bE]at ho;by_cases e:y.var=t
   ·rw[if_pos e]at ho;exact .inl ⟨(vP h.to'.2.2.2.2).1 ho,(vP hV.2.2.2.2).2 e⟩
   ·rw[if_neg e]at ho;exact .inr ⟨λq=>e (by rw[<- q];exact(vP hV.2.2.2.2).1 ho),ho⟩
  ·obtain⟨h1,h2,_⟩:=uH hg h ht;obtain⟨o,us,_,h4,h5,_⟩:=h2.Y bE;rcases uA.1 ho with e|⟨a,ha,hoa⟩
   ·exfalso;apply bE;rw[<- h2.op,<- e,hv]
   ·rw[h5]at ha;obtain⟨c,hc,hce⟩:=Fe h4 a ((uF o us).mem_iff.1 ha);have hea:a=rn g y c:=by rw[rn,hce];rfl
    have hs:=iB t;have BT:=kv hc;rcases ZC9 hg h hv n om (ht.arg hc) (by rw[<- hea];exact hoa)with⟨h6,h7⟩|⟨h6,h7⟩
    ·exact .inl ⟨h6,uA.2 (.inr ⟨c,hc,h7⟩)⟩
    ·exact .inr ⟨h6,uA.2 (.inr ⟨c,hc,h7⟩)⟩
def ZG3 (hg:SgnOk g) {y:Bd} (h:RenAt g y):∀(n:Nat){t:Tm},ah t<n->TermOk g t->bR y.var t=false->rn g y t=t
 |0,_,hn,_,_=>om
 | n+1,t,hn,ht,ho=>by
  by_cases bE:t.op=-1
  ·rw[zA bE,if_neg];intro e;rw[uA.2 (.inl e)]at ho
   cases ho
  ·obtain⟨o,d,hA⟩:=ht.Η.node.app bE;have h1:∀c∈t.Y,co g [y] c=some c:=λc hc=>by
    have hs:=iB t;have BT:=kv hc;have hoc:bR y.var c=false:=by
     cases hb:bR y.var c with
     |false=>rfl
     |true=>rw[uA.2 (.inr ⟨c,hc,hb⟩)]at ho;cases ho
    have:=ZG3 hg h n om (ht.arg hc) hoc;rw[(uH hg h (ht.arg hc)).1,this]
   have h2:bU g [y] t.Y=some t.Y:=by
    exact m126
   rw[rn,sS bE,h2,Option.bind_some,Zkr hg ht hA];rfl
def Live(L:AI)(x:Tm):Prop:=∀v,v.op=-1->bR v x->v∈L
def Live.arg{L:AI}{x a:Tm}(h:Live L x)(ha:a∈x.Y):Live L a:=λv hv ho=>h v hv (uA.2 (.inr ⟨a,ha,ho⟩))
def Live.rep(hg:SgnOk g){y:Bd}(h:RenAt g y){L:AI}{x:Tm}(hx:TermOk g x)(hL:Live L x):Live (L.map (rn g y)) (rn g y x):=λv hv ho=>by
 rcases ZC9 hg h hv _ (Tan _) hx ho with⟨rfl,h2⟩|⟨h1,h2⟩
 ·exact Tbj.2 ⟨y.var,hL _ h.var.1 h2,by rw[zA h.var.1,if_pos rfl]⟩
 ·exact Tbj.2 ⟨v,hL v hv h2,by rw[zA hv,if_neg (λe=>h1 e.symm)]⟩
noncomputable def mL(g:Sgn)(ms:GP)(L:AI):AI:=L.map (dF g ms)
def Zpl(L:AI):mL g [] L=L:=by
 have e:dF g []=(id:Tm->Tm):=funext λt=>rfl;rw[mL,e,List.map_id]
def ZHY(y:Bd)(ms:GP)(L:AI):mL g (y::ms) L=mL g ms (L.map (rn g y)):=by
 rw[mL,mL,List.map_map];rfl
def Zpm(ms ns:GP)(L:AI):mL g (ms++ns) L=mL g ns (mL g ms L):=by
 rw[mL,mL,mL,List.map_map];exact List.map_congr_left λt _=>ZjF ms ns t
def Live.ms(hg:SgnOk g):∀{ms:GP}{L:AI}{x:Tm},qk g ms->TermOk g x->Live L x->Live (mL g ms L) (dF g ms x)
 |[],L,x,_,_,h=>by rw[Zpl];exact h
 |y::ms,L,x,hR,hx,h=>by
  have hy:=hR y Tas;rw[ZHY];exact Live.ms hg (ms:=ms) (x:=rn g y x) (λz hz=>hR z (Tal _ hz)) (uH hg hy hx).2.2 (h.rep hg hy hx)
def Zpn(hg:SgnOk g):∀{ms:GP}{L:AI}{x:Tm},qk g ms->TermOk g x->Live L x->(∀y∈ms,y.var∉L)->dF g ms x=x
 |[],_,_,_,_,_,_=>rfl
 | y::ms,L,x,hR,hx,hL,hd=>by
  have hy:=hR y Tas
  have e:rn g y x=x:=ZG3 hg hy _ (Tan _) hx (by
   cases hb:bR y.var x with
   |false=>rfl
   |true=>exact absurd (hL _ hy.var.1 hb) (hd y Tas))
  show dF g ms (rn g y x)=x;rw[e];exact Zpn hg (λz hz=>hR z (Tal _ hz)) hx hL λz hz=>hd z (Tal _ hz)
def ZnP{y:Bd}(h:RenAt g y){v:Tm}(hv:dp g v):dp g (rn g y v):=by
 rw[zA hv.1];split
 ·exact h.to'
 ·exact hv
def Zrk:∀{ms:GP}{v:Tm},qk g ms->dp g v->dp g (dF g ms v)
 |[],_,_,h=>h
 |y::ms,v,hR,h=>Zrk (ms:=ms) (v:=rn g y v) (λz hz=>hR z (Tal _ hz)) (ZnP (hR y Tas) h)
def ZFb:∀{j k:Nat},j<100->k<100->ci j=ci k->j=k:=λ{j k}hj hk h=>by
 have:=(by decide +kernel:∀a b:Fin 100,ci a.val=ci b.val->a=b) ⟨j,hj⟩ ⟨k,hk⟩ h;exact congrArg Fin.val this
def ZHZ{j k:Nat}(hj:j<100)(hk:k<100)(h:wz j=wz k):j=k:=by
 refine ZFb hj hk ?_;have h2:=congrArg (λx:ByteArray=>x.data.toList) h;simp only[wz,ByteArray.data_append,Array.toList_append]at h2;exact ByteArray.ext (Array.toList_inj.1 (List.append_cancel_left h2))
def Zsl{n i:Nat}(hn:n<100)(hi:i<g.V.O.length):dp g (wV n i) :=
 ⟨rfl,ZyF (by decide +kernel) (by decide) hn,Tca i,Int.ofNat_lt.2 hi,rfl⟩
def nD(c:Nat)(v:Tm):Prop:=∀(j:Nat)(k:Int),j<100->v=wV j k->j<=c
def nD.mono{c d:Nat}{v:Tm}(h:nD c v)(hcd:c<=d):nD d v:=λj k hj e=>Tbe (h j k hj e) hcd
def nD.new{c n:Nat}{k:Int}(hn:n<100)(h:n<=c):nD c (wV n k):=λj k' hj e=>by
 have h1:wz n=wz j:=by
  have:=congrArg Tm.name e;exact this
 have:=ZHZ hn hj h1;omega
def oB(g:Sgn)(L:AI):Nat:=(L.map λv=>mu g v.sort).sum
def ZDa{f:Tm->Tm}:∀{L:AI},(∀v∈L,mu g (f v).sort<=mu g v.sort)->oB g (L.map f)<=oB g L
 |[],_=>Tai _
 |v::L,h=>by
  have h1:=h v Tas;have h2:=ZDa (L:=L) λw hw=>h w (Tal _ hw);exact B6
def Zt3{f:Tm->Tm}{x:Tm}:∀{L:AI},(∀v∈L,mu g (f v).sort<=mu g v.sort)->x∈L->mu g (f x).sort<mu g x.sort->oB g (L.map f)+1<=oB g L
 |v::L,h,hx,am=>by
  have h1:=h v Tas;have h2:=ZDa (L:=L) λw hw=>h w (Tal _ hw);rcases Tbh.1 hx with rfl|hx
  ·exact B6
  ·have h3:=Zt3 (L:=L) (λw hw=>h w (Tal _ hw)) hx am;simp only[oB,Tbv,List.sum_cons]at h3⊢;omega
structure LivOk(g:Sgn)(L:AI)(c:Nat):Prop where
 var:∀v∈L,dp g v/\nD c v
 bg:oB g L+c<=64
structure WayOk(g:Sgn)(c:Nat)(L:AI)(ms:GP):Prop where
 ren:qk g ms
 bg:oB g (mL g ms L)+ms.length<=oB g L
 new:∀v∈mL g ms L,v∈L\/∃(j:Nat)(k:Int),v=wV j k/\c<j/\j<=c+ms.length
 num:∀y∈ms,nD (c+ms.length) y.var
 dead:∀y∈ms,y.var∉mL g ms L
 src:∀y∈ms,y.var∈L\/∃(j:Nat)(k:Int),y.var=wV j k/\c<j/\j<100
 dist:ms.Pairwise λa b=>a.var≠b.var
 to:∀st:USt,UTm g st->(∀y∈st.b,Live L y.to)->∀y∈(stM g ms st).b,Live (mL g ms L) y.to
def WayOk.nil{c:Nat}{L:AI}:WayOk g c L [] :=
 ⟨λy hy=>by(cases hy),by rw[Zpl];exact Tai _,λv hv=>.inl (by rw[Zpl]at hv;exact hv),λy hy=>by(cases hy),λy hy=>by(cases hy),λy hy=>by(cases hy),.nil,λst _ h=>by rw[Zpl];exact h⟩
def WayOk.live{c:Nat}{L:AI}{ms:GP}(h:WayOk g c L ms)(hL:LivOk g L c):LivOk g (mL g ms L) (c+ms.length):=by
 have hb:=hL.bg;have iG:=h.bg;refine⟨λv hv=>⟨?_,?_⟩,om⟩
 ·obtain⟨w,hw,rfl⟩:=Tbj.1 hv;exact Zrk h.ren (hL.var w hw).1
 ·rcases h.new v hv with hv|⟨j,k,rfl,h1,h2⟩
  ·exact(hL.var v hv).2.mono om
  ·exact .new om h2
def WayOk.app (hg:SgnOk g) {c:Nat} {L:AI} {ms ns:GP} (hL:LivOk g L c) (h:WayOk g c L ms) (h':WayOk g (c+ms.length) (mL g ms L) ns):WayOk g c L (ms++ns):=by
 have tG:=h'.live (h.live hL);have hb:=hL.bg;have h1:=h.bg;have h2:=h'.bg;refine⟨λy hy=>(Tbi.1 hy).elim (h.ren y) (h'.ren y),by rw[Zpm,Tae];omega,λv hv=>?_,λy hy=>?_,λy hy=>?_,λy hy=>?_,List.pairwise_append.2 ⟨h.dist,h'.dist,λy hy z hz e=>?_⟩,λst hU hb=>by rw[ZxG,Zpm];exact h'.to _ (ZjG hg h.ren hU) (h.to st hU hb)⟩
 ·rw[Zpm]at hv;rw[Tae];rcases h'.new v hv with hv|⟨j,k,rfl,a,b⟩
  ·rcases h.new v hv with hv|⟨j,k,rfl,a,b⟩
   ·exact .inl hv
   ·exact .inr ⟨j,k,rfl,a,om⟩
  ·exact .inr ⟨j,k,rfl,om,om⟩
 ·rw[Tae];rcases Tbi.1 hy with hy|hy
  ·exact(h.num y hy).mono om
  ·exact(h'.num y hy).mono om
 ·rw[Zpm];rcases Tbi.1 hy with hy|hy
  ·intro hm;rcases h'.new _ hm with hm|⟨j,k,e,a,b⟩
   ·exact h.dead y hy hm
   ·have:=h.num y hy j k om e;omega
  ·exact h'.dead y hy
 ·rcases Tbi.1 hy with hy|hy
  ·exact h.src y hy
  ·rcases h'.src y hy with hm|⟨j,k,e,a,b⟩
   ·rcases h.new _ hm with hm|⟨j,k,e,a,b⟩
    ·exact .inl hm
    ·exact .inr ⟨j,k,e,a,om⟩
   ·exact .inr ⟨j,k,e,om,b⟩
 ·rcases h'.src z hz with hm|⟨j,k,q,a,b⟩
  ·rw[<- e]at hm;exact h.dead y hy hm
  ·have:=h.num y hy j k b (e.trans q);omega
def WayOk.I(hg:SgnOk g){c:Nat}{L:AI}(hL:LivOk g L c){x:Tm}(hx:x∈L){i:Nat}(hi:i<g.V.O.length)(hlow:(dw g i).testBit x.sort.toNat)(aP:(i:Int)≠x.sort):WayOk g c L [⟨x,wV (c+1) i⟩]:=by
 obtain⟨hV,hN⟩:=hL.var x hx;have hb:=hL.bg;have am:mu g (i:Int)<mu g x.sort:=ZJl hg.V (Tca i) (Int.ofNat_lt.2 hi) hV.2.2.1 hV.2.2.2.1 hlow aP;have hpos:1<=oB g L:=by
  have:=Zt3 (g:=g) (f:=λv=>if x=v then wV (c+1) i else v) (x:=x) (L:=L) (λv hv=>by
   by_cases e:x=v
   ·subst e;simp only[if_true];exact Nat.le_of_lt am
   ·simp only[if_neg e];exact Tai _) hx (by simp only[if_true];exact am)
  omega
 have hR:RenAt g ⟨x,wV (c+1) i⟩:=⟨hV,Zsl om hi,ZGT hg.V (Tca i) (Int.ofNat_lt.2 hi) hV.2.2.1 hV.2.2.2.1 hlow⟩;have he:∀v∈L,rn g ⟨x,wV (c+1) i⟩ v=if x=v then wV (c+1) i else v:=λv hv=>zA (hL.var v hv).1.1
 have hm:mL g [⟨x,wV (c+1) i⟩] L=L.map λv=>if x=v then wV (c+1) i else v:=List.map_congr_left λv hv=>he v hv
 refine⟨λy hy=>by rw[Tbk.1 hy];exact hR,?_,λv hv=>?_,λy hy=>?_,λy hy=>?_,λy hy=>.inl (by rw[Tbk.1 hy];exact hx),List.pairwise_singleton _ _,λst hU hb y hy=>?_⟩
 ·rw[hm];refine Zt3 (x:=x) (λv hv=>?_) hx (by simp only[if_true];exact am);by_cases e:x=v
  ·subst e;simp only[if_true];exact Nat.le_of_lt am
  ·simp only[if_neg e];exact Tai _
 ·rw[hm]at hv;obtain⟨w,hw,rfl⟩:=Tbj.1 hv;by_cases e:x=w
  ·exact .inr ⟨c+1,i,by simp only[if_pos e],om,by simp⟩
  ·exact .inl (by simp only[if_neg e];exact hw)
 ·rw[Tbk.1 hy];exact hN.mono om
 ·rw[Tbk.1 hy,hm];intro va;obtain⟨w,hw,e⟩:=Tbj.1 va;by_cases e2:x=w
  ·rw[if_pos e2]at e;have:=hN (c+1) i om e.symm;omega
  ·rw[if_neg e2]at e;exact e2 e.symm
 ·have hw0:rn g ⟨x,wV (c+1) i⟩ x=wV (c+1) i:=by rw[zA hV.1,if_pos rfl]
  rcases Tbh.1 ((t6 _ _).mem_iff.1 hy)with rfl|hy
  ·intro v hv ho;rw[(vP hR.to'.2.2.2.2).1 ho];exact Tbj.2 ⟨x,hx,hw0⟩
  ·obtain⟨z,hz,rfl⟩:=Tbj.1 hy;exact(hb z hz).rep hg hR (hU.b z hz).2
end
def m210(b:G5)(h:Bx G5->G4:=by
 intro B0
 have mB:∀y∈x.Y,ah y<n/\TermOk g y/\Live L y:=λy hy=>by
  have hs:=iB x;have BT:=kv hy;exact⟨om,hx.arg hy,hL.arg hy⟩
 exact B0.o mB):G4:=h ⟨b⟩
def m196(h:G3:=by
 ·rw[if_neg h8,if_neg h8,Option.bind_some,Option.bind_some,<- Zga,Tbw]):G3:=h
def Eo(h:G3:=by
 subst h;intro ms hm;rw[Tbk.1 hm];exact .nil):G3:=h
def m137(h:G3:=by
 rw[Option.map_some,Option.map_some,Option.map_some,Option.bind_some,Option.bind_some,<- Zga,Tbw,Tbw]):G3:=h
def vo(b:G5)(h:Bx G5->G4:=by
 intro B0
 rw[Option.map_some,Option.bind_some,Option.bind_some];exact B0.o):G4:=h ⟨b⟩
def m86(h:G3:=by
 obtain⟨z,hz,rfl⟩:=Tbj.1 hy;obtain⟨z1,z2,z3⟩:=hx z (Tal _ hz);obtain⟨t1,t2,_,_⟩:=vU hg pZ.ren z2;exact⟨by rw[t2];exact z1,t1,Live.ms hg pZ.ren z2 z3⟩):G3:=h
def m31(b:G5)(h:Bx G5->G4:=by
 intro B0
 have uW:UTm g ⟨b,xs.map jg++r,c⟩:=⟨hU.b,λe he=>hU.Γ e (Tal _ he)⟩;have Dv:=ZjG hg pZ.ren uW;have e1:(⟨(stM g ms ⟨b,jg x::(xs.map jg++r),c⟩).b,(stM g ms ⟨b,jg x::(xs.map jg++r),c⟩).Γ.tail,(stM g ms ⟨b,jg x::(xs.map jg++r),c⟩).Δ⟩:USt)=⟨(stM g ms ⟨b,r,c⟩).b,(xs.map (dF g ms)).map jg++r.map (m2 (dF g ms)),c+ms.length⟩:=by
  rw[Zkt,Zpo (r':=r)];congr 1;rw[Tbw,List.map_map,List.map_map];rfl
 have e0:stM g ms ⟨b,xs.map jg++r,c⟩=⟨(stM g ms ⟨b,r,c⟩).b,(xs.map (dF g ms)).map jg++r.map (m2 (dF g ms)),c+ms.length⟩:=by rw[<- e1,Zkt]
 exact B0.o uW Dv e1 e0):G4:=h ⟨b⟩
def Zhe{α H4 β H3:Type}{f:β->α->Option β}{f':H3->H4->Option H3}{F:H3->β}{G:H4->α}:∀{l:List H4}{out:H3},(∀a∈l,∀o,f (F o) (G a)=(f' o a).map F)->bI f (F out) (l.map G)=(bI f' out l).map F
 |[],out,_=>rfl
 | a::l,out,h=>by
  rw[Tbv,bI,bI,h a Tas out]
  cases f' out a with
  |none=>rfl
  |some o =>
   refine vo ?_;exact Zhe λa ha=>h a (Tal _ ha)
def ZlX{α β:Type}{f:List β->α->Option (List β)}{P:β->Prop}:∀{l:List α}{out r:List β},bI f out l=some r->(∀m∈out,P m)->(∀a∈l,∀o o',f o a=some o'->(∀m∈o,P m)->∀m∈o',P m)->∀m∈r,P m
 |[],out,r,h,h0,_=>by
  simp only[bI,Taq]at h;subst h;exact h0
 |a::l,out,r,h,h0,hs=>by
  rw[bI]at h;obtain⟨o,h1,h2⟩:=Option.bind_eq_some_iff.1 h;exact ZlX h2 (hs a Tas out o h1 h0) λa ha=>hs a (Tal _ ha)
def Zga{α β:Type}(f:α->β)(l:List α):fQ (l.map f)=(fQ l).map (List.map f):=by
 unfold fQ;rw[Tay];split<;>rfl
def ZhC{α:Type}{l m:List α}(h:fQ l=some m):m=l:=by
 unfold fQ at h;split at h
 ·injection h with h;exact h.symm
 ·cases h
section
variable{g:Sgn}
noncomputable def iN(g:Sgn)(W:Tm->Int->Nat->Option (List (GP))):List Int->AI->Nat->Option (List (GP))
 |k::ks,x::xs,c=>(W x k c).bind λl=>bI (λout ms=>(iN g W ks (xs.map (dF g ms)) (c+ms.length)).bind λmore=>fQ (out++more.map (ms++·))) [] l
 |_,_,_=>some [[]]
noncomputable def C4(g:Sgn)(W:Tm->Int->Nat->Option (List (GP)))(o:Opr)(xs:AI)(k:Int)(c:Nat)(out:List (GP))(d:Dcl):Option (List (GP)) :=
 if(dw g d.Β).testBit k.toNat=true then(iN g W d.Y xs c).bind λl=>(if o.comm/\d.Y[0]?≠d.Y[1]? then(iN g W d.Y.reverse xs c).map λm=>out++l++m else some (out++l)).bind fQ
 else some out
noncomputable def C5(g:Sgn)(W:Tm->Int->Nat->Option (List (GP)))(x:Tm)(k:Int)(c:Nat):Option (List (GP)) :=
 if(av g x).testBit k.toNat=true then some [[]]else if x.op=-1 then some ((cj (dY g x.sort k)).map λi:Nat=>[⟨x,wV (c+1) i⟩])else match g.ops[x.op.toNat]? with
  |none=>none
  |some o=>bI (C4 g W o x.Y k c) [] o.Z
noncomputable def nf(g:Sgn):Nat->Tm->Int->Nat->Option (List (GP))
 |0=>λ_ _ _=>none
 |n+1=>C5 g (nf g n)
def pw(g:Sgn)(k:Int):Prop:=0<=k/\k<g.V.O.length
def Bn(g:Sgn)(W:Tm->Int->Nat->Option (List (GP)))(n:Nat):Prop:=∀x k c L l,ah x<n->TermOk g x->Live L x->LivOk g L c->pw g k->W x k c=some l->∀ms∈l,WayOk g c L ms
def Zp9(hg:SgnOk g){W:Tm->Int->Nat->Option (List (GP))}{n:Nat}(hW:Bn g W n):∀{ks:List Int}{xs:AI}{c:Nat}{L:AI}{l:List (GP)},(∀x∈xs,ah x<n/\TermOk g x/\Live L x)->LivOk g L c->(∀k∈ks,pw g k)->iN g W ks xs c=some l->∀ms∈l,WayOk g c L ms
 |[],xs,c,L,l,_,hL,_,h=>by
  simp only[iN,Taq]at h;exact Eo
 |k::ks,[],c,L,l,_,hL,_,h=>by
  simp only[iN,Taq]at h;exact Eo
 |k::ks,x::xs,c,L,l,hx,hL,hk,h=>by
  rw[iN]at h;obtain⟨l1,h1,h2⟩:=Option.bind_eq_some_iff.1 h;have iw:=hx x Tas;have hw:=hW x k c L l1 iw.1 iw.2.1 iw.2.2 hL (hk k Tas) h1;refine ZlX h2 (λm hm=>by cases hm) λms oE o o' he ho=>?_;obtain⟨more,h3,h4⟩:=Option.bind_eq_some_iff.1 he;rw[ZhC h4];intro m hm;rcases Tbi.1 hm with hm|hm
  ·exact ho m hm
  ·obtain⟨ns,uq,rfl⟩:=Tbj.1 hm;have pZ:=hw ms oE;refine pZ.app hg hL (Zp9 hg hW (λy hy=>?_) (pZ.live hL) (λk dZ=>hk k (Tal _ dZ)) h3 ns uq);exact m86
def Zhf(hg:SgnOk g){i:Nat}{o:Opr}(ho:g.ops[i]?=some o){d:Dcl}(hd:d∈o.Z):pw g d.Β/\∀k∈d.Y,pw g k:=by
 have hm:=Tac ho;obtain⟨f,hf,_⟩:=hg.first ho;have h:=(hg.Z o hm).all f hf d hd;exact⟨h.Β,h.Y⟩
def Cx(hg:SgnOk g){a k:Int}{i:Nat}(hi:i∈cj (dY g a k)):i<g.V.O.length/\(dw g i).testBit a.toNat/\(dw g i).testBit k.toNat:=by
 simp only[cj,mo,List.mem_filter]at hi;obtain⟨h1,h2,_⟩:=(zu _ _ _).1 hi.2;rw[Nat.testBit_and,Tar]at h2;exact⟨h1,((ZjA hg.V _ _).1 h2.1).2,((ZjA hg.V _ _).1 h2.2).2⟩
def ZFc (hg:SgnOk g) {W:Tm->Int->Nat->Option (List (GP))} {n:Nat} (hW:Bn g W n):Bn g (C5 g W) (n+1):=by
 intro x k c L l hn hx hL hc hk h;unfold C5 at h;by_cases h1:(av g x).testBit k.toNat=true
 ·rw[if_pos h1,Taq]at h;exact Eo
 ·rw [if_neg h1]at h;by_cases h2:x.op=-1
  ·rw[if_pos h2,Taq]at h;subst h;intro ms hm;obtain⟨i,hi,rfl⟩:=Tbj.1 hm;obtain⟨i1,i2,i3⟩:=Cx hg hi;refine .I hg hc (hL x h2 ((vP (hx.varOk h2).2.2.2.2).2 rfl)) i1 i2 λe=>h1 ?_;rw[EY h2,<- e];exact i3
  ·rw[if_neg h2]at h;obtain⟨o,d,hA⟩:=hx.Η.node.app h2;rw[hA.at']at h;refine ZlX h (λm hm=>by cases hm) λd hd out o' he ho=>?_;unfold C4 at he;have ji:=Zhf hg hA.at' hd;refine m210 λmB=>?_
   by_cases h3:(dw g d.Β).testBit k.toNat=true
   ·rw[if_pos h3]at he;obtain⟨l1,h4,h5⟩:=Option.bind_eq_some_iff.1 he;have wq:=Zp9 hg hW mB hc ji.2 h4;obtain⟨l2,h6,h7⟩:=Option.bind_eq_some_iff.1 h5;rw[ZhC h7];by_cases h8:o.comm/\d.Y[0]?≠d.Y[1]?
    ·rw[if_pos h8]at h6;obtain⟨m,h9,rfl⟩:=Tav.1 h6;have hm:=Zp9 hg hW mB hc (λk hk=>ji.2 k (List.mem_reverse.1 hk)) h9;intro q hq;rcases Tbi.1 hq with hq|hq
     ·exact(Tbi.1 hq).elim (ho q) (wq q)
     ·exact hm q hq
    ·rw[if_neg h8,Taq]at h6;subst h6;intro q hq;exact(Tbi.1 hq).elim (ho q) (wq q)
   ·rw[if_neg h3,Taq]at he;subst he;exact ho
def yv(hg:SgnOk g):∀n:Nat,Bn g (nf g n) n
 |0=>λx k c L l hn=>om
 |n+1=>ZFc hg (yv hg n)
def jg(t:Tm):Bd:=⟨t,t⟩
def Zsm(g:Sgn)(S:USt->Int->Option (List USt))(W:Tm->Int->Nat->Option (List (GP)))(n:Nat):Prop:=∀x k c L b r,ah x<n->TermOk g x->Live L x->LivOk g L c->pw g k->UTm g ⟨b,jg x::r,c⟩->S ⟨b,jg x::r,c⟩ k=(W x k c).map (List.map λms=>stM g ms ⟨b,jg x::r,c⟩)
def Zpo{ms:GP}{b r r':GP}{c:Nat}:stM g ms ⟨b,r,c⟩=⟨(stM g ms ⟨b,r',c⟩).b,r.map (m2 (dF g ms)),c+ms.length⟩:=by
 rw[<- (ZyY (g:=g) ms b r r' c),<- (Cw (g:=g) ms b r c),<- show _=c+ms.length from(A9 (g:=g) ms ⟨b,r,c⟩)]
def ZnQ (hg:SgnOk g) {S:USt->Int->Option (List USt)} {W:Tm->Int->Nat->Option (List (GP))} {n:Nat} (hW:Bn g W n) (hS:Zsm g S W n):∀{ks:List Int}{xs:AI}{c:Nat}{L:AI}{b r:GP},ks.length=xs.length->(∀x∈xs,ah x<n/\TermOk g x/\Live L x)->LivOk g L c->(∀k∈ks,pw g k)->UTm g ⟨b,xs.map jg++r,c⟩->sZ S ks ⟨b,xs.map jg++r,c⟩=(iN g W ks xs c).map (List.map λms=>stM g ms ⟨b,r,c⟩)
 |[],xs,c,L,b,r,hl,_,_,_,_=>by
  have:xs=[]:=Tao hl.symm;subst this;rfl
 |k::ks,[],c,L,b,r,hl,_,_,_,_=>by simp at hl
 | k::ks,x::xs,c,L,b,r,hl,hx,hL,hk,hU=>by
  have iw:=hx x Tas;have iY:=hk k Tas;rw[sZ,iN,Tbv,Taf,(hS x k c L b (xs.map jg++r) iw.1 iw.2.1 iw.2.2 hL iY hU)]
  cases hw:W x k c with
  |none=>rfl
  | some l =>
   refine vo ?_;refine Zhe (F:=List.map λms=>stM g ms ⟨b,r,c⟩) (out:=[]) λms oE out=>?_;have pZ:=(hW x k c L l iw.1 iw.2.1 iw.2.2 hL iY hw) ms oE;refine m31 λuW Dv e1 e0=>?_
   rw[e1];rw[e0]at Dv;have e2:(⟨(stM g ms ⟨b,r,c⟩).b,r.map (m2 (dF g ms)),c+ms.length⟩:USt)=stM g ms ⟨b,r,c⟩:=(Zpo (r':=r)).symm;rw[ZnQ hg hW hS (by simpa using hl) (λy hy=>by
    obtain⟨z,hz,rfl⟩:=Tbj.1 hy;obtain⟨z1,z2,z3⟩:=hx z (Tal _ hz);obtain⟨t1,t2,_,_⟩:=vU hg pZ.ren z2;exact⟨by rw[t2];exact z1,t1,Live.ms hg pZ.ren z2 z3⟩) (pZ.live hL) (λk dZ=>hk k (Tal _ dZ)) Dv,e2]
   cases iN g W ks (xs.map (dF g ms)) (c+ms.length)with
   |none=>rfl
   |some more =>
    rw[Option.map_some,Option.bind_some,Option.bind_some,<- Zga,Tbw,List.map_map];congr 2;exact List.map_congr_left λns _=>(ZxG ms ns _).symm
def ZxH(hg:SgnOk g){x:Tm}{b r:GP}{c i:Nat}(hR:RenAt g ⟨x,wV (c+1) i⟩)(hU:UTm g ⟨b,r,c⟩):cJ g ⟨b,r,c+1⟩ x (wV (c+1) i)=some (stM g [⟨x,wV (c+1) i⟩] ⟨b,r,c⟩) :=
 Zt2 hg hR (st:=⟨b,r,c+1⟩) ⟨hU.b,hU.Γ⟩
def ZnR{α β:Type}{f:α->Option β}{h:α->β}:∀{l:List α},(∀a∈l,f a=some (h a))->ba f l=some (l.map h)
 |[],_=>rfl
 |a::l,hl=>by
  rw[ba,hl a Tas,Option.bind_some,ZnR λa ha=>hl a (Tal _ ha)];rfl
def jb(g:Sgn):Prop:=∀o∈g.ops,o.Θ=false/\o.Ω=0
def ZH0 (hg:SgnOk g) (hF:jb g) {S:USt->Int->Option (List USt)} {W:Tm->Int->Nat->Option (List (GP))} {n:Nat} (hW:Bn g W n) (hS:Zsm g S W n):Zsm g (ZyP g S) (C5 g W) (n+1):=by
 intro x k c L b r hn hx hL hc hk hU;unfold ZyP C5;show(if(av g x).testBit k.toNat=true then _ else _)=_;by_cases h1:(av g x).testBit k.toNat=true
 ·rw[if_pos h1,if_pos h1];rfl
 ·rw [if_neg h1,if_neg h1];show(if x.op=-1 then _ else _)=_;by_cases h2:x.op=-1
  ·rw[if_pos h2,if_pos h2,Option.map_some,varW,List.map_map];refine ZnR λi hi=>?_;obtain⟨i1,i2,i3⟩:=Cx hg hi;have hw:=WayOk.I hg hc (hL x h2 ((vP (hx.varOk h2).2.2.2.2).2 rfl)) i1 i2 λe=>h1 (by rw[EY h2,<- e];exact i3);exact ZxH hg (hw.ren _ (Tbk.2 rfl)) hU
  ·rw [if_neg h2,if_neg h2];obtain⟨o,d0,hA⟩:=hx.Η.node.app h2;show(match g.ops[x.op.toNat]? with|none=>none|some o=>bI (zC g S o x ⟨b,jg x::r,c⟩ k) [] o.Z)=_;rw[hA.at'];refine m210 λmB=>?_
   have rI:o.Θ=false:=(hF o (Tac hA.at')).1;have z8:UTm g ⟨b,x.Y.map jg++(jg x::r),c⟩:=⟨hU.b,λe he=>by
    rcases Tbi.1 he with he|he
    ·obtain⟨y,hy,rfl⟩:=Tbj.1 he;exact⟨hx.arg hy,hx.arg hy⟩
    ·exact hU.Γ e he⟩
   have key:=Zhe (f:=zC g S o x ⟨b,jg x::r,c⟩ k) (f':=C4 g W o x.Y k c) (F:=List.map λms=>stM g ms ⟨b,jg x::r,c⟩) (G:=λd:Dcl=>d) (l:=o.Z) (out:=[]) (λd hd out=>by
    have ji:=Zhf hg hA.at' hd;have jX:=hA.dlen hg rI d hd;have eo:v6 ⟨b,jg x::r,c⟩ x=⟨b,x.Y.map jg++(jg x::r),c⟩:=rfl;unfold zC C4;by_cases h3:(dw g d.Β).testBit k.toNat=true
    ·rw [if_pos h3,if_pos h3,eo,ZnQ hg hW hS jX mB hc ji.2 z8]
     cases iN g W d.Y x.Y c with
     |none=>rfl
     | some l =>
      refine vo ?_;by_cases h8:o.comm/\d.Y[0]?≠d.Y[1]?
      ·rw[if_pos h8,if_pos h8,ZnQ hg hW hS (by rw[List.length_reverse];exact jX) mB hc (λk hk=>ji.2 k (List.mem_reverse.1 hk)) z8]
       cases iN g W d.Y.reverse x.Y c with
       |none=>rfl
       |some m =>
        exact m137
      exact m196
    ·rw[if_neg h3,if_neg h3];rfl)
   rw[List.map_id']at key;exact key
def Zkw(hg:SgnOk g)(hF:jb g):∀n:Nat,Zsm g (ly g n) (nf g n) n
 |0=>λx k c L b r hn=>om
 |n+1=>ZH0 hg hF (yv hg n) (Zkw hg hF n)
end
def m149(h:G3:=by
 simp only[dK,iN,Option.bind_some,Option.map_some,Tbv,List.map_nil,List.append_nil];exact tZ (by simp)):G3:=h
def tZ{α:Type}{l:List α}(h:l.length<=64):fQ l=some l:=if_pos h
def uB{α:Type}{l:List α}(h:¬l.length<=64):fQ l=none:=if_neg h
def Zkx {α β:Type} {f f':List β->α->Option (List β)} (h:α->Option (List β)):∀{l:List α}{out:List β},(∀a∈l,∀o,f o a=(h a).map (o++·))->(∀a∈l,∀o:List β,o.length<=64->f' o a=(h a).bind λm=>fQ (o++m))->out.length<=64->(bI f out l).bind fQ=bI f' out l
 |[],out,_,_,hl=>tZ hl
 | a::l,out,h1,h2,hl=>by
  have iD:∀(l:List α)(o:List β),(∀a∈l,∀o,f o a=(h a).map (o++·))->¬o.length<=64->(bI f o l).bind fQ=none:=λl=>by
   induction l with
   |nil=>intro o _ ho;exact uB ho
   |cons b l ih =>
    intro o hb ho;rw[bI,hb b Tas o]
    cases h b with
    |none=>rfl
    |some m=>exact ih _ (λa ha=>hb a (Tal _ ha)) (by rw[Tae];omega)
  have pL:∀a∈l,∀o,f o a=(h a).map (o++·):=λb hb=>h1 b (Tal _ hb);rw[bI,bI,h1 a Tas out,h2 a Tas out hl]
  cases h a with
  |none=>rfl
  |some m =>
   refine vo ?_;by_cases hm:(out++m).length<=64
   ·rw[tZ hm,Option.bind_some];exact Zkx h pL (λb hb=>h2 b (Tal _ hb)) hm
   ·rw[uB hm];exact iD l _ pL hm
section
variable{g:Sgn}
noncomputable def e8(g:Sgn)(M:GP):GP:=M.foldl (λb y=>b.map (mp g (rn g y))++[y]) []
def Zi3(M:GP)(y:Bd):e8 g (M++[y])=(e8 g M).map (mp g (rn g y))++[y]:=by
 simp[e8,List.foldl_append]
def ZnS{α:Type}{P:List α->Prop}(h0:P [])(h1:∀l a,P l->P (l++[a]))(l:List α):P l:=by
 have:∀n(l:List α),l.length=n->P l:=λn=>by
  induction n with
  |zero=>intro l hl;rw[Tao hl];exact h0
  |succ n ih =>
   intro l hl;have aP:l≠[]:=λe=>by rw[e]at hl;cases hl
   rw[<- List.dropLast_concat_getLast aP];exact h1 _ _ (ih _ (by rw[List.length_dropLast];omega))
 exact this _ l rfl
def CM (hg:SgnOk g) (M:GP):qk g M->qk g (e8 g M)/\∀t,TermOk g t->co g (e8 g M) t=some (dF g M t):=by
 induction M using ZnS with
 | h0 =>
  intro _;refine⟨λy hy=>(by cases hy),λt ht=>?_⟩;obtain⟨u,h1,h2⟩:=Zke hg (l:=[]) (λy hy=>by cases hy) _ t (Tan _) ht;have hu:=yE hg (l:=[]) (λy hy=>by cases hy) _ t (Tan _) ht h1;have key:∀(n:Nat)(t:Tm),ah t<n->TermOk g t->co g [] t=some t:=λn=>by
   induction n with
   |zero=>intro t hn;omega
   | succ n ih =>
    intro t hn ht;by_cases hv:t.op=-1
    ·rw[yt hv];rfl
    ·obtain⟨o,d,hA⟩:=ht.Η.node.app hv;have h1:∀c∈t.Y,co g [] c=some c:=λc hc=>by
      have hs:=iB t;have BT:=kv hc;exact ih c om (ht.arg hc)
     have h2:bU g [] t.Y=some t.Y:=by
      exact m126
     rw[sS hv,h2,Option.bind_some,Zkr hg ht hA]
  exact key _ t (Tan _) ht
 | h1 M y ih =>
  intro hR;have hRM:qk g M:=λz hz=>hR z (List.mem_append_left _ hz);have hy:RenAt g y:=hR y (List.mem_append_right _ (Tbk.2 rfl));obtain⟨i1,i2⟩:=ih hRM;have hb:∀e∈e8 g M,TermOk g e.to:=λe he=>(i1 e he).to'.term;have hR2:qk g (e8 g (M++[y])):=λz hz=>by
   rw[Zi3]at hz;rcases Tbi.1 hz with hz|hz
   ·obtain⟨e,he,rfl⟩:=Tbj.1 hz;have h1:=i1 e he;refine⟨h1.var,ZnP hy h1.to',?_⟩;have hk:=(uH hg hy h1.to'.term).2.1.kind;have hv:=(ZnP hy h1.to').1;unfold dS at hk;rw[if_pos hv,if_pos h1.to'.1]at hk;have hk:kd g.V (rn g y e.to).sort=kd g.V e.to.sort:=by exact_mod_cast hk
    exact hk.trans h1.kd'
   ·rw[Tbk.1 hz];exact hy
  refine⟨hR2,λt ht=>?_⟩;obtain⟨u,h1,_⟩:=Zke hg hR2 _ t (Tan _) ht;have hx:=i2 t ht;have hm:=Zp7 hg hy hb;have D0:=(uH hg hy ((vU hg hRM ht).1)).1;rw[h1];rw[Zi3]at h1;have:=ZxE hg hb (λz hz=>by rw[Tbk.1 hz];exact hy.to'.term) hm _ (Tan _) ht hx D0 h1;rw[<- this,ZjF];rfl
noncomputable def dK(g:Sgn)(V:Tm->Int->GP->Option (List (GP))):List Int->AI->GP->Option (List (GP))
 |k::ks,x::xs,M=>(V x k M).bind λl=>bI (λout M'=>((dK g V ks xs M').bind fQ).map (out++·)) [] l
 |_,_,M=>some [M]
noncomputable def kf(g:Sgn)(V:Tm->Int->GP->Option (List (GP)))(o:Opr)(xs:AI)(k:Int)(M:GP)(out:List (GP))(d:Dcl):Option (List (GP)) :=
 if(dw g d.Β).testBit k.toNat=true then(dK g V d.Y xs M).bind λl=>if o.comm=true/\d.Y[0]?≠d.Y[1]? then(dK g V d.Y.reverse xs M).map λm=>out++l++m else some (out++l)
 else some out
noncomputable def C6(g:Sgn)(c0:Nat)(V:Tm->Int->GP->Option (List (GP)))(t:Tm)(k:Int)(M:GP):Option (List (GP)) :=
 if(av g (dF g M t)).testBit k.toNat=true then some [M]else if(dF g M t).op=-1 then fQ ((cj (dY g (dF g M t).sort k)).map λi:Nat=>M++[⟨dF g M t,wV (c0+M.length+1) i⟩])else match g.ops[(dF g M t).op.toNat]? with
  |none=>none
  |some o=>(bI (kf g V o (dF g M t).Y k M) [] o.Z).bind fQ
noncomputable def df(g:Sgn)(c0:Nat):Nat->Tm->Int->GP->Option (List (GP))
 |0=>λ_ _ _=>none
 |n+1=>C6 g c0 (df g c0 n)
structure DeadM(g:Sgn)(c0:Nat)(M:GP)(L:AI):Prop where
 ren:qk g M
 num:∀y∈M,nD (c0+M.length) y.var
 dead:∀y∈M,y.var∉L
 live:LivOk g L (c0+M.length)
def DeadM.app{c0:Nat}{M ms:GP}{L:AI}(h:DeadM g c0 M L)(hw:WayOk g (c0+M.length) L ms):DeadM g c0 (M++ms) (mL g ms L):=by
 have hl:=hw.live h.live;have e:c0+(M++ms).length=c0+M.length+ms.length:=by rw[Tae];omega
 have hb:=h.live.bg;have iG:=hl.bg;refine⟨λy hy=>(Tbi.1 hy).elim (h.ren y) (hw.ren y),λy hy=>?_,λy hy=>?_,by rw[e];exact hl⟩
 ·rw[e];rcases Tbi.1 hy with hy|hy
  ·exact(h.num y hy).mono om
  ·exact hw.num y hy
 ·rcases Tbi.1 hy with hy|hy
  ·intro hm;rcases hw.new _ hm with hm|⟨j,k,q,a,b⟩
   ·exact h.dead y hy hm
   ·have:=h.num y hy j k om q;omega
  ·exact hw.dead y hy
def Zsn(g:Sgn)(c0:Nat)(V:Tm->Int->GP->Option (List (GP)))(W:Tm->Int->Nat->Option (List (GP)))(n:Nat):Prop:=∀t k M L,ah t<n->TermOk g t->Live L (dF g M t)->DeadM g c0 M L->pw g k->V t k M=(W (dF g M t) k (c0+M.length)).map (List.map (M++·))
def ZxI (hg:SgnOk g) {c0:Nat} {V:Tm->Int->GP->Option (List (GP))} {W:Tm->Int->Nat->Option (List (GP))} {n:Nat} (hW:Bn g W n) (hV:Zsn g c0 V W n):∀{ks:List Int}{xs:AI}{M:GP}{L:AI},(∀x∈xs,ah x<n/\TermOk g x/\Live L (dF g M x))->DeadM g c0 M L->(∀k∈ks,pw g k)->(dK g V ks xs M).bind fQ=(iN g W ks (xs.map (dF g M)) (c0+M.length)).map (List.map (M++·))
 |[],xs,M,L,_,_,_=>by
  exact m149
 |k::ks,[],M,L,_,_,_=>by
  exact m149
 | k::ks,x::xs,M,L,hx,hD,hk=>by
  have iw:=hx x Tas;have iY:=hk k Tas;obtain⟨t1,t2,_,_⟩:=vU hg hD.ren iw.2.1;rw[dK,Tbv,iN,hV x k M L iw.1 iw.2.1 iw.2.2 hD iY]
  cases hw:W (dF g M x) k (c0+M.length)with
  |none=>rfl
  | some l =>
   refine vo ?_;rw[Zkx (f':=λo M'=>((dK g V ks xs M').bind fQ).bind λm=>fQ (o++m)) (λM'=>(dK g V ks xs M').bind fQ) (λ_ _ _=>rfl) (λ_ _ _ _=>rfl) (by simp)];refine Zhe (F:=List.map (M++·)) (out:=[]) λms oE out=>?_;have pZ:=(hW _ k _ L l (by rw[t2];exact iw.1) t1 iw.2.2 hD.live iY hw) ms oE;have Ge:=hD.app pZ;rw[ZxI hg hW hV (ks:=ks) (xs:=xs) (M:=M++ms) (L:=mL g ms L) (λy hy=>by
    obtain⟨z1,z2,z3⟩:=hx y (Tal _ hy);refine⟨z1,z2,?_⟩;rw[ZjF];exact Live.ms hg pZ.ren (vU hg hD.ren z2).1 z3) Ge (λk dZ=>hk k (Tal _ dZ))]
   have e1:(xs.map (dF g M)).map (dF g ms)=xs.map (dF g (M++ms)):=by
    rw[List.map_map];exact List.map_congr_left λz _=>(ZjF M ms z).symm
   rw[e1,(by rw[Tae];omega:c0+(M++ms).length=c0+M.length+ms.length)]
   cases iN g W ks (xs.map (dF g (M++ms))) (c0+M.length+ms.length)with
   |none=>rfl
   | some more =>
    rw[Option.map_some,Option.bind_some,Option.bind_some,<- Zga,Tbw,List.map_map];congr 2;exact List.map_congr_left λns _=>by
     show M++ms++ns=M++(ms++ns);rw[Tbg]
def ZFd (hg:SgnOk g) {c0:Nat} {V:Tm->Int->GP->Option (List (GP))} {W:Tm->Int->Nat->Option (List (GP))} {n:Nat} (hW:Bn g W n) (hV:Zsn g c0 V W n):Zsn g c0 (C6 g c0 V) (C5 g W) (n+1):=by
 intro t k M L hn ht hL hD hk;obtain⟨t1,t2,_,_⟩:=vU hg hD.ren ht;unfold C6 C5;generalize hx:dF g M t=x at *;by_cases h1:(av g x).testBit k.toNat=true
 ·rw[if_pos h1,if_pos h1,Option.map_some,Tbv,List.map_nil,List.append_nil]
 ·rw [if_neg h1,if_neg h1];by_cases h2:x.op=-1
  ·rw[if_pos h2,if_pos h2,Option.map_some,List.map_map];refine tZ ?_;rw[Tay];exact Tbe (A6 _ _) (by decide)
  ·rw [if_neg h2,if_neg h2];obtain⟨o,d0,hA⟩:=t1.Η.node.app h2;rw[hA.at'];have hid:∀y∈x.Y,dF g M y=y:=λy hy=>Zpn hg hD.ren (t1.arg hy) (hL.arg hy) hD.dead;have mB:∀y∈x.Y,ah y<n/\TermOk g y/\Live L (dF g M y):=λy hy=>by
    have hs:=iB x;have BT:=kv hy;exact⟨om,t1.arg hy,by rw[hid y hy];exact hL.arg hy⟩
   have hmap:x.Y.map (dF g M)=x.Y:=by
    conv=>rhs;rw[<- List.map_id x.Y]
    exact List.map_congr_left λy hy=>hid y hy
   have hall:∀ks:List Int,(∀k∈ks,pw g k)->(dK g V ks x.Y M).bind fQ=(iN g W ks x.Y (c0+M.length)).map (List.map (M++·)):=λks uo=>by
    have:=ZxI hg hW hV (ks:=ks) mB hD uo;rw[hmap]at this;exact this
   show(bI (kf g V o x.Y k M) [] o.Z).bind fQ=(bI (C4 g W o x.Y k (c0+M.length)) [] o.Z).map _
   rw[Zkx (f':=λout d=>if(dw g d.Β).testBit k.toNat=true then((dK g V d.Y x.Y M).bind fQ).bind λl=>(if o.comm/\d.Y[0]?≠d.Y[1]? then((dK g V d.Y.reverse x.Y M).bind fQ).map λm=>out++l++m else some (out++l)).bind fQ else some out)
    (λd=>if(dw g d.Β).testBit k.toNat=true then(dK g V d.Y x.Y M).bind λl=>if o.comm=true/\d.Y[0]?≠d.Y[1]? then(dK g V d.Y.reverse x.Y M).map λm=>l++m else some l else some []) ?_ ?_ (by simp)]
   ·have key:=Zhe (f:=λout d=>if(dw g d.Β).testBit k.toNat=true then((dK g V d.Y x.Y M).bind fQ).bind λl=>(if o.comm/\d.Y[0]?≠d.Y[1]? then((dK g V d.Y.reverse x.Y M).bind fQ).map λm=>out++l++m else some (out++l)).bind fQ else some out) (f':=C4 g W o x.Y k (c0+M.length)) (F:=List.map (M++·)) (G:=λd:Dcl=>d) (l:=o.Z) (out:=[]) (λd hd out=>by
     have ji:=Zhf hg hA.at' hd;unfold C4;by_cases h3:(dw g d.Β).testBit k.toNat=true
     ·simp only[if_pos h3];rw[hall d.Y ji.2]
      cases iN g W d.Y x.Y (c0+M.length)with
      |none=>rfl
      | some l =>
       refine vo ?_;by_cases h8:o.comm/\d.Y[0]?≠d.Y[1]?
       ·rw[if_pos h8,if_pos h8,hall d.Y.reverse (λk hk=>ji.2 k (List.mem_reverse.1 hk))]
        cases iN g W d.Y.reverse x.Y (c0+M.length)with
        |none=>rfl
        |some m =>
         exact m137
       exact m196
     ·simp only[if_neg h3];rfl)
    rw[List.map_id']at key;exact key
   ·intro d hd out;unfold kf;by_cases h3:(dw g d.Β).testBit k.toNat=true
    ·simp only[if_pos h3]
     cases dK g V d.Y x.Y M with
     |none=>rfl
     | some l =>
      rw[Option.bind_some,Option.bind_some];by_cases h8:o.comm/\d.Y[0]?≠d.Y[1]?
      ·rw[if_pos h8,if_pos h8]
       cases dK g V d.Y.reverse x.Y M with
       |none=>rfl
       |some m=>rw[Option.map_some,Option.map_some,Option.map_some,Tbg]
      ·rw[if_neg h8,if_neg h8];rfl
    ·simp only[if_neg h3,Option.map_some,List.append_nil]
   ·intro d hd out mT;by_cases h3:(dw g d.Β).testBit k.toNat=true
    ·simp only[if_pos h3]
     cases dK g V d.Y x.Y M with
     |none=>rfl
     | some l =>
      rw[Option.bind_some,Option.bind_some];by_cases hl:l.length<=64
      ·rw[tZ hl,Option.bind_some];by_cases h8:o.comm/\d.Y[0]?≠d.Y[1]?
       ·rw[if_pos h8,if_pos h8]
        cases dK g V d.Y.reverse x.Y M with
        |none=>rfl
        |some m =>
         rw[Option.bind_some,Option.map_some,Option.bind_some];by_cases hm:m.length<=64
         ·rw[tZ hm,Option.map_some,Option.bind_some,Tbg]
         ·rw[uB hm,uB (by simp only[Tae];omega:¬(out++(l++m)).length<=64)];rfl
       ·rw[if_neg h8,if_neg h8];rfl
      ·rw[uB hl];by_cases h8:o.comm/\d.Y[0]?≠d.Y[1]?
       ·rw[if_pos h8]
        cases dK g V d.Y.reverse x.Y M with
        |none=>rfl
        |some m =>
         show none=fQ (out++(l++m));rw[uB (by simp only[Tae];omega:¬(out++(l++m)).length<=64)]
       ·rw[if_neg h8];show none=fQ (out++l);rw[uB (by simp only[Tae];omega:¬(out++l).length<=64)]
    ·simp only[if_neg h3,Option.bind_some,List.append_nil];exact(tZ mT).symm
def ZmC(hg:SgnOk g)(c0:Nat):∀n:Nat,Zsn g c0 (df g c0 n) (nf g n) n
 |0=>λt k M L hn=>om
 |n+1=>ZFd hg (yv hg n) (ZmC hg c0 n)
end
section
variable{g:Sgn}{l:GP}{b:Nat}
end
section
variable{g:Sgn}{l:GP}
def ZxJ{t:Tm}(h:TermOk g t):ag (ax t)<=1048576:=by
 have h1:=zf h.Η;have h2:=h.size;omega
end
structure TwoU where
 a0:Value
 a1:Value
 a2:Value
 a3:Value
 b0:Value
 b1:Value
 b2:Value
 b3:Value
 E:Nat->Prop
 F:Nat->Prop
def TwoU.z:TwoU:=⟨.bool true,.bool true,.bool true,.bool true,.bool true,.bool true,.bool true,.bool true,λ_=>False,λ_=>False⟩
abbrev TwoU.okA(x:TwoU):Prop:=bQ (.A x.a0)=true/\bQ (.A x.a1)/\bQ (.A x.a2)/\bQ (.A x.a3)=true
abbrev TwoU.okB(x:TwoU):Prop:=bQ (.A x.b0)=true/\bQ (.A x.b1)/\bQ (.A x.b2)/\bQ (.A x.b3)=true
def TwoU.ok(i:Nat)(x:TwoU):Prop:=(i=3\/7<=i/\i<=10->x.okA)/\(6<=i/\i<=10->x.okB)
def xT(h:G3:=by
 intro s' m' hB hD hI hJ;have F:=(wH.1 hB);refine BZ λF=>?_;have F:=ai F (ae);exact m50):G3:=h
def m50(h:G3:=by
 refine ip ?_;exact kS hB (fO.2 (by simp[gF,gz,gs,gm]))):G3:=h
def BZ(b:G5)(h:Bx G5->G4:=by
 intro B0
 simp only[gF,gz,List.getD_cons_zero,List.getD_cons_succ,and_true,true_and]at F;exact B0.o F):G4:=h ⟨b⟩
section
variable{g:Sgn}
def ZDc {l:GP} (hl:uN l) (hn:l.length<=1000) {y:Bd} (hy:xV y):aI e0 200 [.I (.sl (aK l)),.agg (ax y.var),.agg (ax y.to)] [.I (.sl (aK (iz l y)))]:=by
 have bl:=fE l;have bg:=rv l;have bb:=eI l;have hbd:ax y.var++ax y.to=dQ y:=rfl;have h7:∀(c0 c1 c2 c3:C),List.take 4 (ax y.var++[c0,c1,c2,c3])++(ax y.to++List.drop 8 (ax y.var++[c0,c1,c2,c3]))=dQ y:=λc0 c1 c2 c3=>by
  obtain⟨⟨o,n,s,a⟩,t⟩:=y;simp[ax,dQ]
 refine gI (ts:=[.slot 6]) 4194807 Tryz.func200 ?_;refine eQ 1 (ai @bl @ae) @ae ?_
 with_reducible refine Zh7 ?_
 refine gM (ι:=Nat) [7,22] [] (λi=>[(7,GU i)]) (λi=>[]) (λi=>i<=l.length/\iz l y=l.take i++y::l.drop i) ?_ (λi hi=>Exists.intro _ (ai (Wk.refl _) ?_))
 ·refine fG @ae ?_;have F:=@ae;refine gL (ι:=Nat) [7,22] [] (λi=>[(7,GU i)]) (λi=>[]) (λi=>i<=l.length/\∀(j:Nat)x,j<i->l[j]?=some x->aU x.var y.var<0) (λi=>l.length-i) (0) (⟨Taj _,λj x h=>absurd h om⟩) (λi hi=>?_);obtain⟨hi,hall⟩:=hi;have stop:(∀x,l[i]?=some x->¬aU x.var y.var<0)->i<=l.length/\iz l y=l.take i++y::l.drop i:=λh=>⟨hi,Zxt hi hall h⟩
  refine fN 2 @ae ?_;by_cases e7:i<l.length;rotate_left
  ·have aZ:=stop λx hx=>by rw[List.getElem?_eq_none om]at hx;cases hx
   have F:=aj3 (lF i l.length) @bl @ae;refine gG ?_;exact⟨i,aZ,gw,gw⟩
  have q2:=lT i l.length;obtain⟨x,hx⟩:∃x,l[i]?=some x:=⟨_,Taa e7⟩;have fV:=bW (k:=i) om;refine gB ?_;refine fC (aj8 @q2 @bl @bb @bg @hx @dz @bw @ae) ((Cn (hl x (Tac hx)).1 hy.1)) ?_;by_cases hc:aU x.var y.var<0
  ·have jk:i+1<=l.length/\∀(j:Nat)z,j<i+1->l[j]?=some z->aU z.var y.var<0:=⟨e7,λj z hj hz=>by
    by_cases e:j=i
    ·subst e;rw[hx]at hz;injection hz with hz;subst hz;exact hc
    ·exact hall j z om hz⟩
   refine fR (ai (eq_true hc:(aU x.var y.var<0)=True) @ae) ?_;have F:=ai @fV @ae;refine gG ?_;exact⟨i+1,jk,gw,gw,om⟩
  ·have aZ:=stop λz hz=>by rw[hx]at hz;injection hz with hz;subst hz;exact hc
   refine fR (ai (eq_false hc:(aU x.var y.var<0)=False) @ae) ?_;have F:=@ae;refine gG ?_;exact⟨i,aZ,gw,gw⟩
 obtain⟨hi,bn⟩:=hi;have s1:((i:Int)<=l.length)=True:=eq_true om;have s2:List.take i (aK l)=aK (l.take i):=by simp[aK]
 have s3:List.drop i (aK l)=aK (l.drop i):=by simp[aK]
 have s4:List.take l.length (aK l)=aK l:=by rw[<- bl,Tap]
 have l6:((l.take i).length+1+(l.drop i).length<=al)=True:=eq_true (by simp only[Taw,Tax];unfold al;omega);have l7:aK (l.take i++[y])++aK (l.drop i)=aK (iz l y):=by rw[bn];simp[aK]
 have l1:∀l:GP,ZaD 8 (aK l):=λl=>eI l;have l2:((l.take i).length<=al)=True:=eq_true (by rw[Taw];unfold al;omega);have l3:=fE;have l4:((l.take i).length+1<=al)=True:=eq_true (by rw[Taw];unfold al;omega);have l5:aK (l.take i)++[dQ y]=aK (l.take i++[y]):=by simp[aK]
 refine fN 4 @ae ?_
 /- gk l9put -/
 refine gGk [(0,GY (.sl (aK l))),(4,.ref 4 0),(5,.ref 5 0),(6,.Υ 6),(7,GU (i:Int))] [(4,.var none (ax y.var)),(5,.var none (ax y.to)),(6,.Υ none 110 8 [])] [([(25,.d (.Ζ []))],[]),([(26,GY (.sl (aK l)))],[]),([(27,GU (i:Int))],[]),([(28,GY (.sl (aK (l.take i))))],[]),([(29,.Υ 29)],[(29,.Υ none 110 8 (aK (l.take i)))]),([(30,.d (.agg (ax y.var)))],[]),([(31,.d (.agg (ax y.to)))],[]),([(32,.d (.agg (dQ y)))],[]),([(33,.d (.Ζ [dQ y]))],[]),([(34,.Υ 34)],[(34,.Υ none 110 8 (aK (l.take i++[y])))]),([(8,.Υ 8)],[(8,.Υ none 110 8 (aK (l.take i++[y])))])] (λj=>([(4,9),(9,10)]:List (Nat×Nat)).lookup j) [] (⟨by simp[gs],by simp[gm]⟩) (λj hj=>by simp at hj) ⟨?_,?_,?_,?_,?_,?_,?_,?_,?_,?_,?_,trivial⟩ ?_
 ·exact xT
 ·exact xT
 ·exact xT
 ·intro s' m' hB hD hI hJ;have F:=aj3 (wH.1 hB) (fO.1 (hD 1 (by decide) (.inl rfl))) (fO.1 (hD 2 (by decide) (.inl rfl)));refine BZ λF=>?_;have F:=aj6 F bl bb s1 s2 ae;exact m50
 ·intro s' m' hB hD hI hJ;have F:=aj3 (wH.1 hB) (fO.1 (hD 0 (by decide) (.inl rfl))) (fO.1 (hD 3 (by decide) (.inl rfl)));refine BZ λF=>?_;have F:=aj5 F l1 l2 l3 ae;refine ip ?_;exact kB hB (fO.2 (by simp[gF,gz,gs,gm]))
 ·exact xT
 ·exact xT
 ·intro s' m' hB hD hI hJ;have F:=aj3 (wH.1 hB) (fO.1 (hD 5 (by decide) (.inl rfl))) (fO.1 (hD 6 (by decide) (.inl rfl)));refine BZ λF=>?_;have F:=aj3 F hbd ae;refine ip ?_;exact kS hB (fO.2 (by simp[gF,gz,gs,gm,h7]))
 ·intro s' m' hB hD hI hJ;have F:=ai (wH.1 hB) (fO.1 (hD 7 (by decide) (.inl rfl)));refine BZ λF=>?_;have F:=aj3 F dz ae;exact m50
 ·intro s' m' hB hD hI hJ;have F:=aj3 (wH.1 hB) (fO.1 (hD 4 (by decide) (.inr rfl))) (fO.1 (hD 8 (by decide) (.inl rfl)));refine BZ λF=>?_;have F:=aj7 F l1 l3 l4 l5 dz ae;refine ip ?_;exact kE hB (fO.2 (by simp[gF,gz,gs,gm]))
 ·intro s' m' hB hD hI hJ;have F:=ai (wH.1 hB) (fO.1 (hD 9 (by decide) (.inr rfl)));refine BZ λF=>?_;have F:=ai F (ae);refine ip ?_;exact kE hB (fO.2 (by simp[gF,gz,gs,gm]))
 intro s' m' hB hP;refine⟨_,_,hB.app (hP 10 (.inl (by decide)) (λk h=>by simp[List.lookup]at h)),?_⟩;simp only[Taf,Tah,List.append_nil,List.getD_cons_zero,List.getD_cons_succ]
 /- gk end l9put -/
 refine⟨_,Wk.refl _,?_⟩;have F:=aj10 @s1 @s3 @s4 (eq_true om:((l.length:Int)<=l.length)=True) @l1 @l3 @l6 @l7 @bw @ae;refine gG ?_;exact xi [6]
end
def vr(v:Tm)(k:Nat):Tm:=.mk (-1) v.name k []
def Low(g:Sgn)(v:Tm)(k:Nat):Prop:=k<g.V.O.length/\(dw g k).testBit v.sort.toNat=true
def Fit(g:Sgn):AI->GN->Prop
 |[],[]=>True
 |v::vs,k::ks=>Low g v k/\Fit g vs ks
 |_,_=>False
def zb:AI->GN->GP
 |v::vs,k::ks=>⟨v,vr v k⟩::zb vs ks
 |_,_=>[]
def Low.var{g:Sgn}(hg:SgnOk g){v:Tm}{k:Nat}(hv:dp g v)(h:Low g v k):RenAt g ⟨v,vr v k⟩:=by
 refine⟨hv,⟨rfl,hv.2.1,Tca k,by exact Int.ofNat_lt.2 h.1,rfl⟩,?_⟩;exact ZGT hg.V (Tca k) (Int.ofNat_lt.2 h.1) hv.2.2.1 hv.2.2.2.1 h.2
def val(n:Nat):GN->Nat
 |[]=>0
 |d::c=>d*n ^ c.length+val n c
def Dig(n:Nat)(c:GN):Prop:=∀d∈c,d<n
def Fit.dig{g:Sgn}:∀{vs:AI}{ks:GN},Fit g vs ks->ks.length=vs.length/\Dig g.V.O.length ks
 |[],[],_=>⟨rfl,λd h=>by cases h⟩
 |v::vs,k::ks,h=>by
  have:=Fit.dig (vs:=vs) h.2;refine⟨by simp[this.1],λd hd=>?_⟩;rcases Tbh.1 hd with rfl|hd
  ·exact h.1.1
  ·exact this.2 d hd
def ZJm(cs:List (Tm×Tm)):AI:=cs.flatMap λc=>[c.1,c.2]
def AL(e:Eqn)(x:Nat):sh:=az (e.r::ZJm (e.cs.take x))
section
variable{g:Sgn}{mc:C}
end
end Go.Proofs.YtaenibhihgfehaaGreatDoor
namespace Go.Proofs.YtaenibhihgfehaaGreatDoor
open Go.Shelf
end Go.Proofs.YtaenibhihgfehaaGreatDoor
namespace Go.Proofs.YtaenibhihgfehaaGreatDoor
open Go.RowKit
variable{G3 G4 G5:Prop}
section
variable{g:Sgn}
def Zrl{e:Env}{f:FuncId}{a c:D}{rows:sh}{r:AS}(h:aI e f [a,.I (.sl rows),c] r):aI e f [a,.Ζ rows,c] r :=
 ⟨h.1,λw S vs hS hE hG hv=>h.2 w S vs hS hE hG (by
  match vs,hv with
  |[x,y,z],hv=>exact⟨hv.1,hv.2.1.1,hv.2.2⟩)⟩
end
def m247(h:G3:=by
 have:=this (l.take i) (l.drop i) h;rwa [Tbn]at this):G3:=h
def fp(st:USt):we:=[.sl (aK st.b),.sl (aK st.Γ),GS st.Δ]
section
variable{g:Sgn}
def rh(g:Sgn)(st:USt)(v t:Tm)(r:AS):Prop:=∃st':USt,r=[.agg (fp st'),.I (.A (.bool (cJ g st v t).isSome))]/\(∀u,cJ g st v t=some u->st'=u)/\UTm g st'/\st'.b.length<=st.b.length+1/\st'.Γ.length<=st.Γ.length
def UTm.bds{l:GP}(hg:SgnOk g)(h:∀e∈l,TermOk g e.var/\TermOk g e.to):uN l:=λy hy=>⟨e6.ok hg _ _ (Tan _) (h y hy).1.Η,e6.ok hg _ _ (Tan _) (h y hy).2.Η⟩
def sC(v t:Tm):∀(c0 c1 c2 c3:C),List.take 4 (ax v++[c0,c1,c2,c3])++ax t++List.drop 8 (ax v++[c0,c1,c2,c3])=dQ ⟨v,t⟩:=λc0 c1 c2 c3=>by
 obtain⟨o,n,s,a⟩:=v;simp[ax,dQ]
def Zt4:aK []=[]:=rfl
def sq(l m:GP):aK (l++m)=aK l++aK m:=by simp[aK]
def ZFe{s l:GP}{i:Nat}{y:Bd}(h:l[i]?=some y):mapA g s (l.take (i+1))=(mapA g s (l.take i)).bind λm=>(co g s y.to).map λt=>m++[⟨y.var,t⟩]:=by
 rw[List.take_add_one,h];exact ZqU _
def ZDe {s l:GP} {i:Nat} (h:mapA g s (l.take i)=none):mapA g s l=none:=by
 have:∀(m k:GP),mapA g s m=none->mapA g s (m++k)=none:=by
  intro m
  induction m with
  |nil=>intro k h;cases h
  | cons x m ih =>
   intro k h;simp only[Taf,mapA]at h⊢
   cases h1:co g s x.to with
   |none=>rfl
   | some u =>
    rw[h1]at h;rw[Option.bind_some]at h⊢
    rw[ih k (by cases h2:mapA g s m with
     |none=>rfl
     |some z=>rw[h2]at h;cases h)]
    rfl
 exact m247
def Zi4{α β:Type}{f:α->Option β}{l:List α}{i:Nat}{a:α}(h:l[i]?=some a):ba f (l.take (i+1))=(ba f (l.take i)).bind λm=>(f a).map λb=>m++[b]:=by
 rw[List.take_add_one,h];exact Zrb
def Zhg {α β:Type} {f:α->Option β} {l:List α} {i:Nat} (h:ba f (l.take i)=none):ba f l=none:=by
 have:∀(m k:List α),ba f m=none->ba f (m++k)=none:=by
  intro m
  induction m with
  |nil=>intro k h;cases h
  | cons x m ih =>
   intro k h;simp only[Taf,ba]at h⊢
   cases h1:f x with
   |none=>rfl
   | some u =>
    rw[h1]at h;rw[Option.bind_some]at h⊢
    rw[ih k (by cases h2:ba f m with
     |none=>rfl
     |some z=>rw[h2]at h;cases h)]
    rfl
 exact m247
def E9 (cZ:kL g) (hg:SgnOk g) (hF:∀o∈g.ops,o.Θ=false/\o.Ω=0) {st:USt} (hU:UTm g st) (qT:st.b.length<=200) (c9:st.Γ.length<=60000) {v t:Tm} (hv:dp g v) (ht:TermOk g t):fX e0 159 [.agg (ck g),.agg (fp st),.agg (ax v),.agg (ax t)] (rh g st v t):=by
 have hS:SbsW g [⟨v,t⟩]:=⟨by simp,λy hy=>by obtain rfl:=Tbk.1 hy;exact hv,λy hy=>by obtain rfl:=Tbk.1 hy;exact ht⟩;have cA:=λ{x:Tm}(hx:TermOk g x)=>Zrl (ZtV cZ hg hF hS _ (Tan _) hx);have hokv:xV ⟨v,t⟩:=hS.okB hg _ Tas;have apo:=λ{x u:Tm}(hx:TermOk g x)(hu:co g [⟨v,t⟩] x=some u)=>yE hg (λy hy=>by obtain rfl:=Tbk.1 hy;exact ht) _ x (Tan _) hx hu;have e1:aK [⟨v,t⟩]=[dQ ⟨v,t⟩]:=rfl
 have h7:=sC v t;have bl1:=fE st.b;have bg1:=rv st.b;have yK:=fE st.Γ;have bg2:=rv st.Γ;have b8:=λl=>eI l;obtain⟨B,r,n⟩:=st;obtain⟨hUb,hUr⟩:=hU;simp only at hUb hUr qT c9 bl1 bg1 yK bg2;simp only[fp];simp only[e1,ck]at cA;simp only[ck];refine Dg (ts:=[.cell 8 106,.slot 9]) 20282409608374037047556533387263 Tryz.func159 ?_;refine eQ 1 @ae (aj3 @h7 @dz @ae) ?_
 refine dC 2 @ae 2 @ae ?_;refine(have F:=ae;gX ?_);refine fR @ae ?_;refine pN 1000 110 8 ?_;refine fG @ae ?_;have F:=ai @Zt4 @ae;refine gL (ι:=Nat×GP×BY×Nat) [9,12,13,14,31,47] [11,1000] (λx=>[(12,GU x.1)]) (λx=>[(11,.var none [.A (.slice x.2.2.1 x.2.1.length x.2.2.2),.A (.slice none 0 0),GS n]),(1000,.Υ (some (x.2.2.1,x.2.2.2)) 110 8 (aK x.2.1))]) (λx=>x.1<=B.length/\x.2.1.length=x.1/\mapA g [⟨v,t⟩] (B.take x.1)=some x.2.1/\(∀e∈x.2.1,dp g e.var/\TermOk g e.to)) (λx=>B.length-x.1) ((0,[],none,0)) (⟨Taj _,rfl,rfl,λe he=>by cases he⟩) (λx hx=>?_)
 obtain⟨i,bs,a,cap⟩:=x;obtain⟨hi,sE,hmp,qU⟩:=hx;simp only at hi sE hmp qU;dsimp only;have bl:=fE bs;by_cases am:i<B.length
 ·have q1:=lT i B.length;obtain⟨y,hy⟩:∃y,B[i]?=some y:=⟨_,Taa am⟩;have vi:=hUb y (Tac hy);have fV:=bW (k:=i) om;have da:=ZFe (g:=g) (s:=[⟨v,t⟩]) hy;rw[hmp,Option.bind_some]at da;refine fN 6 (aj3 @q1 @bl1 @ae) ?_;refine Dh 12 11 13 ?_;refine fC (aj9 @q1 @bl1 @bg1 @b8 @hy @am @dz @bw @ae) (cA vi.2) ?_
  cases hu:co g [⟨v,t⟩] y.to with
  |none =>
   rw[hu]at da;have hn:cJ g ⟨B,r,n⟩ v t=none:=by unfold cJ;rw[ZDe da];rfl
   have z1:(none:Option Tm).isSome=false:=rfl;refine ec (ai @z1 @ae) (ai @z1 @ae) ?_;refine pN 1001 103 8 ?_;refine vA 1000 8 0 ?_ (hc:=by rw[bl];rfl);refine vA 1001 8 1 ?_;have hR:rh g ⟨B,r,n⟩ v t [.agg (fp ⟨bs,[],n⟩),GW false]:=⟨⟨bs,[],n⟩,by rw[hn];rfl,λu hu=>(by rw[hn]at hu;cases hu),⟨qU,λe he=>(by cases he)⟩,by dsimp only;omega,Taj _⟩;exact(have F:=ae;pc (R:=rh g ⟨B,r,n⟩ v t) [] hR)
  | some u =>
   rw[hu,Option.map_some]at da;have huT:=apo vi.2 hu;have z1:(some u).isSome:=rfl;have eb:aK bs++[dQ ⟨y.var,u⟩]=aK (bs++[⟨y.var,u⟩]):=by rw[sq];rfl
   have el:bs.length+1=(bs++[(⟨y.var,u⟩:Bd)]).length:=by simp
   have jk:i+1<=B.length/\(bs++[(⟨y.var,u⟩:Bd)]).length=i+1/\mapA g [⟨v,t⟩] (B.take (i+1))=some (bs++[⟨y.var,u⟩])/\(∀e∈bs++[(⟨y.var,u⟩:Bd)],dp g e.var/\TermOk g e.to):=⟨am,by simp[sE],da,λe he=>by
    rcases Tbi.1 he with he|he
    ·exact qU e he
    ·obtain rfl:=Tbk.1 he;exact⟨vi.1,huT⟩⟩
   refine fR (aj3 @z1 (Zkn hu) @ae) ?_;refine dC 9 (ai @z1 @ae) 12 (aj11 @bl1 @bg1 @b8 @hy @am (sC y.var u) @dz @bl (by unfold al;omega:bs.length+1<=al) @bw @ae) ?_;refine gS 60 λa2 du=>?_;refine fR (ai @bl @ae) ?_;refine pE [60] [1000] (CL _) ?_;rw[eb,el];have F:=ai @fV @ae;refine gG ?_;exact⟨(i+1,bs++[⟨y.var,u⟩],a2,du),jk,gw,gw,om⟩
 obtain rfl:i=B.length:=by omega
 have q1:=lF B.length B.length;rw[Tap]at hmp;have cP:=ZDc (l:=bs) (UTm.bds hg λe he=>⟨(qU e he).1.term,(qU e he).2⟩) om hokv;have eN:cJ g ⟨B,r,n⟩ v t=(ba (qq g [⟨v,t⟩]) r).map λr'=>⟨iz bs ⟨v,t⟩,r',n⟩:=by unfold cJ;rw[hmp];rfl
 have Dt:(iz bs ⟨v,t⟩).length<=B.length+1:=by rw[(t6 _ _).length_eq,Tag];omega
 have zZ:∀e∈iz bs ⟨v,t⟩,dp g e.var/\TermOk g e.to:=λe he=>by
  rcases Tbh.1 ((t6 _ _).mem_iff.1 he)with he|he
  ·subst he;exact⟨hv,ht⟩
  ·exact qU e he
 refine fN 10 (aj3 @q1 @bl1 @ae) ?_;refine vA 1000 11 0 ?_ (hc:=by rw[bl];rfl);simp only[List.set_cons_zero];refine gB ?_;refine oZ @ae (cP) @ae ?_;generalize iz bs ⟨v,t⟩=P at eN Dt zZ⊢;refine pN 1001 103 8 ?_;refine fG @ae ?_;have F:=ai @Zt4 @ae;refine gL (ι:=Nat×GP×BY×Nat) [9,15,16,17,18,19,72,104] [11,1001] (λx=>[(15,GU x.1)]) (λx=>[(11,.var none [.sl (aK P),.A (.slice x.2.2.1 x.2.1.length x.2.2.2),GS n]),(1001,.Υ (some (x.2.2.1,x.2.2.2)) 103 8 (aK x.2.1))]) (λx=>x.1<=r.length/\x.2.1.length=x.1/\ba (qq g [⟨v,t⟩]) (r.take x.1)=some x.2.1/\(∀e∈x.2.1,TermOk g e.var/\TermOk g e.to)) (λx=>r.length-x.1) ((0,[],none,0)) (⟨Taj _,rfl,rfl,λe he=>by cases he⟩) (λx hx=>?_)
 obtain⟨k,rs,a2,du⟩:=x;obtain⟨hk,nB,hmr,hrt⟩:=hx;simp only at hk nB hmr hrt;dsimp only;have yL:=fE rs;by_cases jF:k<r.length;rotate_left
 ·obtain rfl:k=r.length:=by omega
  have q2:=lF r.length r.length;rw[Tap]at hmr;rw[hmr,Option.map_some]at eN;refine fG (aj3 @q2 @yK @ae) ?_;refine vA 1001 8 1 ?_ (hc:=by rw[yL];rfl);have hR:rh g ⟨B,r,n⟩ v t [.agg (fp ⟨P,rs,n⟩),GW true]:=⟨⟨P,rs,n⟩,by rw[eN];rfl,λu hu=>(by rw[eN]at hu;injection hu),⟨zZ,hrt⟩,Dt,by dsimp only;omega⟩;exact(have F:=ae;pc (R:=rh g ⟨B,r,n⟩ v t) [] hR)
 have q2:=lT k r.length;obtain⟨y,hy⟩:∃y,r[k]?=some y:=⟨_,Taa jF⟩;have vi:=hUr y (Tac hy);have BX:=bW (k:=k) om;have da:=Zi4 (f:=qq g [⟨v,t⟩]) hy;rw[hmr,Option.bind_some]at da;have c1:=cA vi.1;have c2:=cA vi.2;have rP:qq g [⟨v,t⟩] y=none->rh g ⟨B,r,n⟩ v t [.agg (fp ⟨P,rs,n⟩),GW false]:=λh=>by
  rw[h]at da;rw[Zhg da]at eN;exact⟨⟨P,rs,n⟩,by rw[eN];rfl,λu hu=>(by rw[eN]at hu;cases hu),⟨zZ,hrt⟩,Dt,by dsimp only;omega⟩
 have z0:(none:Option Tm).isSome=false:=rfl;have z1:∀u:Tm,(some u).isSome:=λ_=>rfl;refine fN 14 (aj3 @q2 @yK @ae) ?_;refine Dh 12 11 13 ?_;have dW:=aj9 @q2 @yK @bg2 @b8 @hy @jF @dz @bw @ae;refine oZ dW (c1) @ae ?_;refine fN 15 @ae ?_;refine Dh 12 11 13 ?_;refine fC dW (c2) ?_
 cases h1:co g [⟨v,t⟩] y.var with
 |none =>
  refine ec @ae (ai @z0 @ae) ?_;refine vA 1001 8 1 ?_ (hc:=by rw[yL];rfl);exact(have F:=ae;pc (R:=rh g ⟨B,r,n⟩ v t) [] (rP (by unfold qq;rw[h1];rfl)))
 |some x1 =>
 cases h2:co g [⟨v,t⟩] y.to with
 |none =>
  refine ec @ae (aj3 @z0 @z1 @ae) ?_;refine vA 1001 8 1 ?_ (hc:=by rw[yL];rfl);exact(have F:=ae;pc (R:=rh g ⟨B,r,n⟩ v t) [] (rP (by unfold qq;rw[h1,h2];rfl)))
 |some x2 =>
 have e2:qq g [⟨v,t⟩] y=some ⟨x1,x2⟩:=by unfold qq;rw[h1,h2];rfl
 rw[e2,Option.map_some]at da;have eb:aK rs++[dQ ⟨x1,x2⟩]=aK (rs++[⟨x1,x2⟩]):=by rw[sq];rfl
 have el:rs.length+1=(rs++[(⟨x1,x2⟩:Bd)]).length:=by simp
 have jk:k+1<=r.length/\(rs++[(⟨x1,x2⟩:Bd)]).length=k+1/\ba (qq g [⟨v,t⟩]) (r.take (k+1))=some (rs++[⟨x1,x2⟩])/\(∀e∈rs++[(⟨x1,x2⟩:Bd)],TermOk g e.var/\TermOk g e.to):=⟨jF,by simp[nB],da,λe he=>by
  rcases Tbi.1 he with he|he
  ·exact hrt e he
  ·obtain rfl:=Tbk.1 he;exact⟨apo vi.1 h1,apo vi.2 h2⟩⟩
 refine fR (aj3 (Zkn h1) (Zkn h2) @ae) ?_;refine dC 18 (ai @z1 @ae) 7 (aj5 (sC x1 x2) @dz @yL (by unfold al;omega:rs.length+1<=al) @ae) ?_;refine gS 112 λa3 fZ=>?_;refine fR (ai @yL @ae) ?_;refine pE [112] [1001] (CL _) ?_;rw[eb,el];have F:=ai @BX @ae;refine gG ?_;exact⟨(k+1,rs++[⟨x1,x2⟩],a3,fZ),jk,gw,gw,om⟩
end
def ZJn:∀k:Fin 10,dig k.val++ByteArray.empty=ci k.val:=by decide +kernel
def ZIP:∀k:Fin 100,10<=k.val->dig (k.val / 10)++(dig k.val++ByteArray.empty)=ci k.val:=by decide +kernel
def ZDf{k:Nat}(h1:1<=k)(h2:k<100):mh k ByteArray.empty=ci k:=by
 rw[Zpi om];by_cases h:k<10
 ·rw[show k / 10=0 by omega,Zph];exact ZJn ⟨k,h⟩
 ·rw[Zpi om,show k / 10 / 10=0 by omega,Zph];exact ZIP ⟨k,h2⟩ (by show 10<=k;omega)
def Zvy{k:Nat}(h1:1<=k)(h2:k<100):aI e0 218 [GT (k:Int)] [.I (.A (.string (ci k)))]:=by
 rw[<- ZDf h1 h2];have q1:=lF k 0;refine gI (ts:=[.slot 2]) 134252733 Tryz.func218 ?_;refine fG (ai (eq_false om:((k:Int)=0)=False) @q1) ?_;have F:=@q1;refine gL (ι:=Nat×ByteArray) [0,4,5,11,15] [] (λx=>[(0,GU x.1),(4,GY (.A (.string x.2)))]) (λx=>[]) (λx=>mh k ByteArray.empty=mh x.1 x.2/\x.2.size+x.1<=k) (λx=>x.1) ((k,⟨#[]⟩)) (⟨rfl,by show 0+k<=k;omega⟩) (λx hx=>?_)
 obtain⟨j,qp⟩:=x;obtain⟨e1,e2⟩:=hx;simp only at e1 e2;rw[e1];clear e1;by_cases hj:j=0
 ·subst hj;rw[Zph];exact fD (ai (eq_true om:(((0:Nat):Int)=0)=True) @q1)
 have q2:((j:Int)=0)=False:=eq_false om;refine m162 λq3=>?_
 have hm:(j:Int).tmod 10=((j % 10:Nat):Int):=by rw[Int.ofNat_tmod];rfl
 have q6:((j:Int).tmod 10<0)=False:=eq_false (by rw[hm];omega);have q7:IntKind.i64.wrap ((j:Int).tmod 10)=(j:Int).tmod 10:=IntWalk.i64_in _ (by rw[hm];omega);refine dC 9 (aj3 @q2 @q6 @q7) 4 (aj3 @q2 @q6 @q7) ?_;refine gY ?_;change an _ _ _ _ ⟨(22,GY (.A (.string (dig j))))::_,_⟩ _
 exact m72
def gSs{e:Env}{K:GR}{ds:By}{os:GL}{d t ty:Nat}{p:String}{ed:Array Edge}{x:Operand}{lo hi:Option Operand}{s:d3}{m:it}{str r:ByteArray}(l h:Nat)(hb:l<=h/\h<=str.size)(hr:str.extract l h=r)(hK:an e ds 0 os ⟨(d,GY (.A (.string r)))::s,m⟩ K)
  (hx:aL s x=GY (.A (.string str)):=by exact iK) (ht:kK e.P t=none:=by exact oJ) (hu:Zn9 (e.P.underlying t):=by exact oJ)
  (d4:sa (lo.map (aL s))=some (l:Int):=by exact iK) (lm:rQ str.size (hi.map (aL s))=some (h:Int):=by exact iK):an e ds 0 (⟨some d,.slice t x lo hi none,ty,p,ed,none⟩::os) ⟨s,m⟩ K:=by
 have h1:Cz e.P t (aL s x) (lo.map (aL s)) (hi.map (aL s)) none=some (GY (.A (.string r))):=by
  rw[Zyd,ht,hx];unfold Zot;simp only[AQ,d4,lm,Zmc,hu,true_and,if_true];rw[if_pos ⟨om,om,om⟩,Tbz,Tbz,hr];rfl
 refine gP 1 hK ?_;have h2:yH e.P (qB 0) ⟨s,m⟩ (some d) ty (.slice t x lo hi none)=some ⟨(d,GY (.A (.string r)))::s,m⟩:=by
  simp only[yH,zK,Option.map_none,h1];rfl
 show FH (ql (yH e.P (qB 0) ⟨s,m⟩ (some d) ty (.slice t x lo hi none)) _)=_;rw[h2];rfl
def ZyZ{k:Nat}(h1:1<=k)(h2:k<100):aI e0 240 [GT (k:Int)] [.I (.A (.string (ci k)))]:=by
 refine gI (ts:=[.slot 2]) 21 Tryz.func240 ?_;by_cases h:k<10
 ·have q0:=lT k 10;have w1:=bW (k:=k) om;refine dC 2 (ai @q0 @w1) 3 @w1 ?_;have F:=w1;refine gSs (r:=ci k) k (k+1) ?_ ?_ ?_
  ·clear F w1 q0 h1 h2;revert k
   decide +kernel
  ·clear F w1 q0 h1 h2;revert k
   decide +kernel
  clear F;exact iF @w1 @w1
 have q0:=lF k 10;have w1:IntKind.i64.wrap ((k:Int)*2)=((k*2:Nat):Int):=kJ om om om;have w2:IntKind.i64.wrap (((k*2:Nat):Int)+2)=((k*2+2:Nat):Int):=kJ om om om;refine dC 3 (ai @q0 @w1) 5 (ai @w1 @w2) ?_;have F:=w1;refine gSs (r:=ci k) (k*2) (k*2+2) ?_ ?_ ?_
 ·clear F w1 w2 q0 h1;have h3:10<=k:=om;clear h;revert k
  decide +kernel
 ·have h3:10<=k:=om;clear F w1 w2 q0 h1 h;revert k
  decide +kernel
 clear F;exact iF @w1 @w1
def Zy0{k:Nat}(h1:1<=k)(h2:k<100):aI e0 234 [GT (k:Int),GT 10] [.I (.A (.string (ci k)))]:=by
 have q0:((10:Int)=10)=True:=eq_true rfl;refine gI (ts:=[.slot 4]) 17188391667 Tryz.func234 ?_;refine cg 3 (aj3 @q0 (eq_true om:((0:Int)<=k)=True) (lT k 100)) @q0 ((ZyZ h1 h2)) ?_;exact iF @q0 @q0
def ZDg{k:Nat}(h1:1<=k)(h2:k<100):aI e0 225 [GT (k:Int)] [.I (.A (.string (ci k)))]:=by
 refine gI (ts:=[.slot 2]) 5 Tryz.func225 ?_;refine eH @h1 @h1 ((Zy0 h1 h2)) ?_;exact iF @h1 @h1
def ZDh{k:Nat}(h1:1<=k)(h2:k<100):aI e0 206 [GT (k:Int)] [.I (.A (.string (ci k)))]:=by
 refine gI (ts:=[.slot 2]) 5 Tryz.func206 ?_;refine eH @h1 @h1 ((ZDg h1 h2)) ?_;exact iF @h1 @h1
def Zvz{k:Nat}(h1:1<=k)(h2:k<100):aI e0 176 [GT (k:Int)] [.I (.A (.string (ci k)))]:=by
 refine gI (ts:=[.slot 2]) 5 Tryz.func176 ?_;refine eH @h1 @h1 ((ZDh h1 h2)) ?_;exact iF @h1 @h1
def Ez(h:G3:=by
 refine gG ?_;exact⟨j+1,am,gw,gw,om⟩):G3:=h
def GD(h:G3:=by
 exact(have F:=ao;ee (R:=sQ _ _ _ _ _ _ _ _) [1000] hR)):G3:=h
section
variable{g:Sgn}
open Classical in
noncomputable def uj(g:Sgn)(D:Nat)(L:GN):Nat:=L.foldl (λa k=>if fj g D k then a ||| 2 ^ k else a) 0
open Classical in
def Zt5{D k:Nat}{L:GN}:uj g D (L++[k])=if fj g D k then uj g D L ||| 2 ^ k else uj g D L:=by
 unfold uj;rw[List.foldl_append];rfl
open Classical in
def ZxL {D i:Nat} {L:GN}:(uj g D L).testBit i=true↔i∈L/\fj g D i:=by
 refine ZnS (P:=λL=>(uj g D L).testBit i=true↔i∈L/\fj g D i) ?_ ?_ L
 ·simp[uj]
 ·intro L k ih;rw[Zt5];split
  ·rename_i h;rw[Nat.testBit_or,Bool.or_eq_true,ih,Nat.testBit_two_pow,decide_eq_true_eq,Tbi,Tbk];constructor
   ·rintro(⟨h1,h2⟩|rfl)
    ·exact⟨.inl h1,h2⟩
    ·exact⟨.inr rfl,h⟩
   ·rintro⟨h1|rfl,h2⟩
    ·exact .inl ⟨h1,h2⟩
    ·exact .inr rfl
  ·rename_i h;rw[ih,Tbi,Tbk];constructor
   ·rintro⟨h1,h2⟩;exact⟨.inl h1,h2⟩
   ·rintro⟨h1|rfl,h2⟩
    ·exact⟨h1,h2⟩
    ·exact absurd h2 h
def ZDi{D:Nat}{L:GN}(hD:D<2 ^ g.V.O.length):uj g D L<2 ^ g.V.O.length:=Nat.lt_pow_two_of_testBit _ λi hi=>by
 cases h:(uj g D L).testBit i with
 |false=>rfl
 |true =>
  have h1:=(ZxL.1 h).2.1;rw[Tbu (Tbd hD (Tbt om hi))]at h1
  cases h1
def ZFf{D:Nat}(hD:D<2 ^ g.V.O.length)(hN:g.V.O.length<=16):uj g D (cj D)=db (fj g D) g.V.O.length :=
 FE (ZDi hD) λi hi=>by
  rw[ZxL,Zj8 hD hN];exact⟨λh=>h.2,λh=>⟨h.1,h⟩⟩
def ZH1 (hs:SortsOk g.V) {D k:Nat} (hD:D<2 ^ g.V.O.length) (hk:D.testBit k):D&&&(up g.V).getD k 0=2 ^ k↔fj g D k:=by
 have hu:dw g (k:Int)=(up g.V).getD k 0:=rfl;have am:k<g.V.O.length:=by
  rcases Nat.lt_or_ge k g.V.O.length with h|h
  ·exact h
  ·rw[Tbu (Tbd hD (Tbt om h))]at hk
   cases hk
 constructor
 ·intro h;refine⟨hk,λj hj aP hDj=>?_⟩;have:=congrArg (λx=>Nat.testBit x j) h;simp only[Nat.testBit_and,hDj,Bool.true_and,Nat.testBit_two_pow]at this;rw[hu,this];exact decide_eq_false λe=>aP e.symm
 ·rintro⟨_,h⟩;refine Nat.eq_of_testBit_eq λj=>?_;rw[Nat.testBit_and,Nat.testBit_two_pow];by_cases e:k=j
  ·subst e;rw[hk,Zp8 (SortsOk.subsIn hs.Ψ) am];simp
  ·rw[decide_eq_false e];by_cases hj:j<g.V.O.length
   ·cases hDj:D.testBit j with
    |false=>rfl
    |true =>
     have:=h j hj (λq=>e q.symm) hDj;rw[hu]at this;rw[this];rfl
   ·rw[Tbu (Tbd hD (Tbt om om))];rfl
def Zng(hs:SortsOk g.V){D:Nat}(hD:D<2 ^ g.V.O.length)(r0 r1 r2:sh):aI e0 120 [.agg [.sl r0,.sl r1,.sl r2],GT D,.I (.sl (nR (up g.V)))] [GT (db (fj g D) g.V.O.length)]:=by
 have hN:=hs.n8;have hDs:=iU hD hN;have hp:2 ^ g.V.O.length<=2 ^ 8:=Tbt (by decide) hN;refine m61 λnK rr=>?_;have iR:=λk=>Zj8 (k:=k) hD (by omega:g.V.O.length<=16);have l1:(nR (cj D)).length=(cj D).length:=gH;have l2:=iS (l:=cj D);have l3:(cj D).length<=16:=A6 _ 16;have z0:((uj g D []:Nat):Int)=0:=rfl;refine gI (ts:=[.slot 6]) 33585863 Tryz.func120 ?_;refine cq 2 @ae @ae ((Zhu (a:=D) om)) (ai @l1 @ae) ?_
 rw[<- (ZFf hD om)];generalize cj D=L at *;refine fG @ae ?_;have F:=ai @z0 @ae;refine gL (ι:=Nat) [7,9,13,14,25] [] (λj=>[(13,GU j),(7,GU (uj g D (L.take j)))]) (λj=>[]) (λj=>j<=L.length) (λj=>L.length-j) (0) (Taj _) (λj hj=>?_);by_cases am:j<L.length;rotate_left
 ·obtain rfl:j=L.length:=by omega
  rw[Tap];exact fD (aj3 (lF L.length L.length) @l1 @ae)
 have q1:=lT j L.length;obtain⟨k,hk⟩:∃k,L[j]?=some k:=⟨_,Taa am⟩;have hkD:=(iR k).1 (Tac hk);have qX:k<g.V.O.length:=by
  rcases Nat.lt_or_ge k g.V.O.length with h|h
  ·exact h
  ·rw[Tbu (Tbd hD (Tbt om h))]at hkD
   cases hkD
 have hga:=ZH1 hs hD hkD;have hu:=(rA (SortsOk.subsIn hs.Ψ)).get qX;have ru:=gN hu.1;have rk:=gN hk;have Gg:=wK hDs (iU hu.2 hN);have wu:=vY (k:=k) om;have wj:=bW (k:=j) om;have h2p:2 ^ k<2 ^ g.V.O.length:=Nat.pow_lt_pow_right om qX;have hbo:=zp (iU (ZDi (L:=L.take j) hD) hN) (iU h2p hN);have aZ:uj g D (L.take (j+1))=uj g D (L.take j++[k]):=by rw[List.take_add_one,hk];rfl
 rw[Zt5]at aZ;by_cases hG:fj g D k
 ·rw[if_pos hG]at aZ;have q2:(((D&&&(up g.V).getD k 0:Nat):Int)=((2 ^ k:Nat):Int))=True:=eq_true (by rw[hga.2 hG]);rw[<- aZ]at hbo;generalize 2 ^ k=K at *;refine eQ 5 (aj7 @q1 @l1 @l2 @rk @am @bw @ae) (aj9 @Gg @wu @q2 @nK @rr @ru @qX @bw @ae) ?_;have F:=aj4 @hbo @wu @wj @ae;exact Ez
 ·rw[if_neg hG]at aZ;have q2:(((D&&&(up g.V).getD k 0:Nat):Int)=((2 ^ k:Nat):Int))=False:=eq_false λh=>hG (hga.1 om);rw[<- aZ];generalize 2 ^ k=K at *;refine eQ 5 (aj7 @q1 @l1 @l2 @rk @am @bw @ae) (aj9 @Gg @wu @q2 @nK @rr @ru @qX @bw @ae) ?_;have F:=ai @wj @ae;exact Ez
def Zpp{n:Nat}(h0:1<=n)(hn:n<100)(k:Int):aI e0 121 [GT n,GT k] [.agg (ax (wV n k))]:=by
 have e1:(⟨#[119]⟩:ByteArray)++ci n=wz n:=rfl
 have e2:((⟨#[119]⟩:ByteArray).size+(ci n).size<=9223372036854775807)=True:=eq_true (by
  have h1:(⟨#[119]⟩:ByteArray).size=1:=rfl;have h2:=ZlM n;split at h2<;>omega)
 have e3:ax (wV n k)=[GS (-1),.A (.string (wz n)),GS k,.sl []]:=rfl;rw[e3];refine gI (ts:=[.cell 4 46]) 19 Tryz.func121 ?_;refine cg 1 @ae @ae ((Zvz h0 hn)) ?_;exact iF (aj3 @e1 @e2 @ae) @ae
def uC(g:Sgn)(bm:Nat)(aj:AI)(s:Nat)(oc:Value)(f:Bool):we:=[.ptr (bx g (.A (.map (some bm)))),.sl (az aj),GS s,.A oc,GV f]
noncomputable def nI(g:Sgn)(v il t:Tm):Tm:=(co g [⟨v,il⟩] t).getD jS
noncomputable def oA(g:Sgn)(v il t:Tm):Bool:=(co g [⟨v,il⟩] t).isNone
def sQ(g:Sgn)(bm b:Nat)(aj:AI)(s:Nat)(oc:Value)(r0:AS)(f:Bool)(r:AS)(pm:GQ):Prop:=r=r0/\pm=[.var (some b) (uC g bm aj s oc f)]
def ZH2{v t:Tm}(hv:dp g v)(ht:TermOk g t):SbsW g [⟨v,t⟩]:=⟨by simp,λy hy=>by rw[Tbk.1 hy];exact hv,λy hy=>by rw[Tbk.1 hy];exact ht⟩
def ZkW(hg:SgnOk g)(hF:∀o∈g.ops,o.Θ=false/\o.Ω=0)(bm b:Nat)(aj:AI)(s:Nat)(oc:Value)(ho:bQ (.A oc))(f:Bool){t v t':Tm}(ht:TermOk g t)(hv:dp g v)(Gt:TermOk g t'):aT (eM g bm) 174 [.I (.A (.pointer (some ⟨b,0,none⟩))),.agg (ax t),.agg (ax v),.agg (ax t')] [.var (some b) (uC g bm aj s oc f)] (sQ g bm b aj s oc [.agg (ax (nI g v t' t))] (f||oA g v t' t)):=by
 have cA:=(Zrl (Zko (mc:=.A (.map (some bm))) hg hF (ZH2 hv Gt) _ (Tan _) ht)).m (g:=g) (b:=bm);rw[show aK [(⟨v,t'⟩:Bd)]=[dQ ⟨v,t'⟩]from rfl]at cA;have bl:=sC v t';have xt:=v8 (g:=g) (b:=bm);unfold uC;refine dX (ts:=[.cell 8 46]) [1000] 33556463 Tryz.func174 ?_;refine fN 1 @ao ?_;refine Dh 13 12 14 ?_;refine oZ (aj4 @bl @dz @ho @ao) (cA) @ao ?_
 cases hr:co g [⟨v,t'⟩] t with
 |some u =>
  have e2:oA g v t' t=false:=by unfold oA;rw[hr];rfl
  rw[(by unfold nI;rw[hr];rfl:nI g v t' t=u),e2];have z1:(some u).isSome:=rfl;have z2:(some u).getD jS=u:=rfl;have hR:sQ g bm b aj s oc [.agg (ax u)] (f||false) [.agg (ax u)] [.var (some b) [.ptr (bx g (.A (.map (some bm)))),.sl (az aj),GS s,.A oc,GV f]]:=⟨rfl,by rw[Bool.or_false];rfl⟩;refine fG (aj3 @z1 @z2 @ao) ?_;exact GD
 |none =>
  have e2:oA g v t' t:=by unfold oA;rw[hr];rfl
  rw[(by unfold nI;rw[hr];rfl:nI g v t' t=jS),e2];have z1:(none:Option Tm).isSome=false:=rfl;have z2:(none:Option Tm).getD jS=jS:=rfl;have hR:sQ g bm b aj s oc [.agg (ax jS)] (f||true) [.agg (ax jS)] [.var (some b) [.ptr (bx g (.A (.map (some bm)))),.sl (az aj),GS s,.A oc,GV true]]:=⟨rfl,by rw[Bool.or_true];rfl⟩;refine fG (aj4 @z1 @z2 @ho @ao) ?_;exact GD
end
section
open Classical
variable{g:Sgn}
def ZDj(hF:jb g){op:Int}{o:Opr}(ho:g.ops[op.toNat]?=some o){us:AI}{u:Tm}(h:ww g op us=some u):u=b7 op (bC o us):=by
 have hf:=hF o (Tac ho)
 cases hd:o.Z[0]? with
 |none =>
  simp only[ww,ho,hd]at h
  cases h
 |some d =>
  rw[vS ho hd]at h;obtain⟨_,_,hl⟩:=Fk h;rw[ZlL λb _=>⟨λq=>absurd (hf.1.symm.trans q) (by decide),λq=>absurd hf.2 q⟩,qI,if_neg λq=>q.1 hf.2]at hl;split at hl
  ·cases hl
  ·injection hl with hl;exact hl.symm
def ZDk (hF:jb g) {v t w:Tm} (hw:w.op=-1):∀(n:Nat){x u:Tm},ah x<n->TermOk g x->co g [⟨v,t⟩] x=some u->bR w u->(bR w t/\bR v x)\/(w≠v/\bR w x)
 |0,_,_,hn,_,_,_=>om
 | n+1,x,u,hn,hx,hu,ho=>by
  by_cases bE:x.op=-1
  ·rw[yt bE,Taq]at hu;simp only[fx]at hu;by_cases e:aU v x=0
   ·rw[if_pos e]at hu;have hu:t=u:=hu;subst hu;exact .inl ⟨ho,uA.2 (.inl (ro.1 e))⟩
   ·rw[if_neg e]at hu;have hu:x=u:=hu;subst hu;refine .inr ⟨λq=>e (ro.2 ?_),ho⟩;rw[<- q];exact(vP (hx.varOk bE).2.2.2.2).1 ho
  ·obtain⟨o,d,hA⟩:=hx.Η.node.app bE;rw[sS bE]at hu;obtain⟨us,h1,h2⟩:=Option.bind_eq_some_iff.1 hu;have e:=ZDj hF hA.at' h2;subst e;rcases uA.1 ho with e|⟨a,ha,hoa⟩
   ·exfalso;apply bE;rw[e]at hw;exact hw
   ·obtain⟨c,hc,hce⟩:=Fe h1 a ((uF o us).mem_iff.1 ha);have hs:=iB x;have BT:=kv hc;rcases ZDk hF hw n om (hx.arg hc) hce hoa with⟨h6,h7⟩|⟨h6,h7⟩
    ·exact .inl ⟨h6,uA.2 (.inr ⟨c,hc,h7⟩)⟩
    ·exact .inr ⟨h6,uA.2 (.inr ⟨c,hc,h7⟩)⟩
noncomputable def AO(L:AI)(v:Tm):AI:=L.filter λx=>decide (x≠v)
def Fv{L:AI}{v w:Tm}:w∈AO L v↔w∈L/\w≠v:=by simp[AO]
def Zrm{v:Tm}:∀{L:AI},oB g (AO L v)<=oB g L
 |[]=>Tai _
 |w::L=>by
  have h2:=Zrm (v:=v) (L:=L);unfold AO at h2⊢;by_cases e:w=v
  ·subst e;rw[List.filter_cons_of_neg (by simp)];exact B6
  ·rw[List.filter_cons_of_pos (by simp[e])];exact B6
def ZDl{v:Tm}(hp:1<=mu g v.sort):∀{L:AI},v∈L->oB g (AO L v)+1<=oB g L
 |w::L,hv=>by
  by_cases e:w=v
  ·subst e;have h2:=Zrm (g:=g) (v:=w) (L:=L);unfold AO at h2⊢;rw[List.filter_cons_of_neg (by simp)];exact B6
  ·have h2:=ZDl hp (L:=L) ((Tbh.1 hv).resolve_left λq=>e q.symm);unfold AO at h2⊢;rw[List.filter_cons_of_pos (by simp[e])];exact B6
def Live.bnd(hF:jb g){L:AI}{v t x u:Tm}(ht:Live L t)(ho:bR v t=false)(hx:TermOk g x)(hL:Live L x)(hu:co g [⟨v,t⟩] x=some u):Live (AO L v) u:=λw hw how=>by
 rcases ZDk hF hw _ (Tan _) hx hu how with⟨h1,_⟩|⟨h1,h2⟩
 ·refine Fv.2 ⟨ht w hw h1,λe=>?_⟩;subst e;rw[ho]at h1;cases h1
 ·exact Fv.2 ⟨hL w hw h2,h1⟩
structure UInv(g:Sgn)(L:AI)(st:USt):Prop where
 tm:UTm g st
 var:∀v∈L,dp g v/\nD st.Δ v
 bg:oB g L+st.b.length<=64
 fr:st.Δ<=st.b.length
 Γ:∀e∈st.Γ,Live L e.var/\Live L e.to
 up:qf st.b
 dead:∀y∈st.b,y.var∉L/\nD st.Δ y.var
 to:∀y∈st.b,Live L y.to
def UInv.liv{L:AI}{st:USt}(h:UInv g L st):LivOk g L st.Δ:=⟨h.var,by have:=h.bg;have:=h.fr;omega⟩
def Fl{α β:Type}{f:α->Option β}:∀{l:List α}{m:List β},ba f l=some m->∀y∈m,∃x∈l,f x=some y
 |[],m,h,y,hy=>by
  simp only[ba,Taq]at h;subst h;cases hy
 |a::l,m,h,y,hy=>by
  rw[ba]at h;obtain⟨b,h1,h2⟩:=Option.bind_eq_some_iff.1 h;obtain⟨m',h3,rfl⟩:=Tav.1 h2;rcases Tbh.1 hy with rfl|hy
  ·exact⟨a,Tas,h1⟩
  ·obtain⟨x,hx,he⟩:=Fl h3 y hy;exact⟨x,Tal _ hx,he⟩
def ZxM{s:GP}{e y:Bd}(h:qq g s e=some y):co g s e.var=some y.var/\co g s e.to=some y.to:=by
 unfold qq at h;obtain⟨x,h1,h2⟩:=Option.bind_eq_some_iff.1 h;obtain⟨z,h3,rfl⟩:=Tav.1 h2;exact⟨h1,h3⟩
def Zrn{s:GP}:∀{l m:GP},mapA g s l=some m->m.map (·.var)=l.map (·.var)
 |[],m,h=>by simp only[mapA,Taq]at h;subst h;rfl
 |y::l,m,h=>by
  simp only[mapA]at h;obtain⟨t,h1,h2⟩:=Option.bind_eq_some_iff.1 h;obtain⟨m',h3,rfl⟩:=Tav.1 h2;simp only[Tbv,Zrn h3]
def Zt6{l m:GP}(h:m.map (·.var)=l.map (·.var))(hl:qf l):qf m:=by
 have h1:(l.map (·.var)).Pairwise λx y=>aU x y<0:=List.pairwise_map.2 hl;rw[<- h]at h1;exact List.pairwise_map.1 h1
def Ziy{l m:GP}(h:m.map (·.var)=l.map (·.var)){y:Bd}(hy:y∈m):∃z∈l,z.var=y.var:=by
 have:y.var∈m.map (·.var):=Tbj.2 ⟨y,hy,rfl⟩;rw[h]at this;obtain⟨z,hz,e⟩:=Tbj.1 this;exact⟨z,hz,e⟩
def UInv.bnd(hg:SgnOk g)(hF:jb g){L:AI}{st s:USt}(h:UInv g L st){v t:Tm}(hv:v∈L)(ht:TermOk g t)(D4:Live L t)(ho:bR v t=false)(hb:cJ g st v t=some s):UInv g (AO L v) s:=by
 obtain⟨b',h1,h2⟩:=Option.bind_eq_some_iff.1 hb;obtain⟨r',h3,rfl⟩:=Tav.1 h2;have kX:∀z∈[(⟨v,t⟩:Bd)],TermOk g z.to:=λz hz=>by rw[Tbk.1 hz];exact ht
 have hk:=Zrn h1;have bh:b'.length=st.b.length:=by have:=congrArg List.length hk;simpa using this
 have hV:=(h.var v hv).1;have hbud:=ZDl (ZIO hg.V hV.2.2.1 hV.2.2.2.1) hv;have DB:=h.bg;have nO:=h.fr;have kA:(iz b' ⟨v,t⟩).length=st.b.length+1:=by rw[(t6 _ _).length_eq,Tag,bh]
 refine⟨⟨λe he=>?_,λe he=>?_⟩,λw hw=>h.var w (Fv.1 hw).1,by simp only[kA];omega,by simp only[kA];omega,λe he=>?_,?_,λy hy=>?_,λy hy=>?_⟩
 ·rcases Tbh.1 ((t6 _ _).mem_iff.1 he)with rfl|he
  ·exact⟨hV,ht⟩
  ·obtain⟨z,hz,e1⟩:=Ziy hk he;obtain⟨z',hz',_,li⟩:=(ZlG h1).2 e he;exact⟨by rw[<- e1];exact(h.tm.b z hz).1,yE hg kX _ _ (Tan _) (h.tm.b z' hz').2 li⟩
 ·obtain⟨z,hz,li⟩:=Fl h3 e he;obtain⟨a1,a2⟩:=ZxM li;exact⟨yE hg kX _ _ (Tan _) (h.tm.Γ z hz).1 a1,yE hg kX _ _ (Tan _) (h.tm.Γ z hz).2 a2⟩
 ·obtain⟨z,hz,li⟩:=Fl h3 e he;obtain⟨a1,a2⟩:=ZxM li;exact⟨D4.bnd hF ho (h.tm.Γ z hz).1 (h.Γ z hz).1 a1,D4.bnd hF ho (h.tm.Γ z hz).2 (h.Γ z hz).2 a2⟩
 ·refine Zp0 (Zt6 hk h.up) λx hx e=>?_;obtain⟨z,hz,e1⟩:=Ziy hk hx;have:=(h.dead z hz).1;rw[e1,ro.1 e]at this;exact this hv
 ·rcases Tbh.1 ((t6 _ _).mem_iff.1 hy)with rfl|hy
  ·exact⟨λq=>(Fv.1 q).2 rfl,(h.var v hv).2⟩
  ·obtain⟨z,hz,e1⟩:=Ziy hk hy;rw[<- e1];exact⟨λq=>(h.dead z hz).1 (Fv.1 q).1,(h.dead z hz).2⟩
 ·rcases Tbh.1 ((t6 _ _).mem_iff.1 hy)with rfl|hy
  ·intro w hw how;refine Fv.2 ⟨D4 w hw how,λe=>?_⟩;subst e;rw[ho]at how;cases how
  ·obtain⟨z,hz,_,li⟩:=(ZlG h1).2 y hy;exact D4.bnd hF ho (h.tm.b z hz).2 (h.to z hz) li
def Zt7:∀{ms:GP}{st:USt},qf st.b->(∀y∈ms,∀x∈st.b,x.var≠y.var)->ms.Pairwise (λa b=>a.var≠b.var)->qf (stM g ms st).b/\(stM g ms st).b.length=st.b.length+ms.length/\∀x∈(stM g ms st).b,(∃z∈st.b,z.var=x.var)\/∃y∈ms,y.var=x.var
 |[],st,hU,_,_=>⟨hU,rfl,λx hx=>.inl ⟨x,hx,rfl⟩⟩
 | y::ms,st,hU,hk,hd=>by
  have dG:=List.pairwise_cons.1 hd;have DN:(st.b.map (mp g (rn g y))).map (·.var)=st.b.map (·.var):=by rw[List.map_map];rfl
  have uW:qf (oK g y ⟨st.b,st.Γ,st.Δ+1⟩).b:=Zp0 (Zt6 DN hU) λx hx e=>by
   obtain⟨z,hz,e1⟩:=Ziy DN hx;exact hk y Tas z hz (e1.trans (ro.1 e))
  have hm:∀x∈(oK g y ⟨st.b,st.Γ,st.Δ+1⟩).b,x=y\/∃z∈st.b,z.var=x.var:=λx hx=>by
   rcases Tbh.1 ((t6 _ _).mem_iff.1 hx)with rfl|hx
   ·exact .inl rfl
   ·exact .inr (Ziy DN hx)
  obtain⟨i1,i2,i3⟩:=Zt7 (ms:=ms) (st:=oK g y ⟨st.b,st.Γ,st.Δ+1⟩) uW (λz hz x hx=>by
   rcases hm x hx with rfl|⟨w,hw,e⟩
   ·exact dG.1 z hz
   ·rw[<- e];exact hk z (Tal _ hz) w hw) dG.2
  have hl:(oK g y ⟨st.b,st.Γ,st.Δ+1⟩).b.length=st.b.length+1:=by
   simp only[oK];rw[(t6 _ _).length_eq,Tag,Tay]
  refine⟨i1,?_,λx hx=>?_⟩
  ·show(stM g ms (oK g y ⟨st.b,st.Γ,st.Δ+1⟩)).b.length=_;rw[i2,hl,Tag];omega
  ·rcases i3 x hx with⟨z,hz,e⟩|⟨z,hz,e⟩
   ·rcases hm z hz with rfl|⟨w,hw,e2⟩
    ·exact .inr ⟨z,Tas,e⟩
    ·exact .inl ⟨w,hw,e2.trans e⟩
   ·exact .inr ⟨z,Tal _ hz,e⟩
def UInv.way(hg:SgnOk g){L:AI}{st:USt}(h:UInv g L st){ms:GP}(hw:WayOk g st.Δ L ms):UInv g (mL g ms L) (stM g ms st):=by
 have DB:=h.bg;have nO:=h.fr;have hwb:=hw.bg;have hl:=hw.live h.liv;have hf:=A9 (g:=g) ms st;obtain⟨i1,i2,i3⟩:=Zt7 (g:=g) (ms:=ms) (st:=st) h.up (λy hy x hx e=>by
  rcases hw.src y hy with hm|⟨j,k,q,a,b⟩
  ·rw[<- e]at hm;exact(h.dead x hx).1 hm
  ·have:=(h.dead x hx).2 j k b (e.trans q);omega) hw.dist
 refine⟨ZjG hg hw.ren h.tm,λv hv=>by rw[hf];exact hl.var v hv,by rw[i2];omega,by rw[hf,i2];omega,λe he=>?_,i1,λx hx=>?_,hw.to st h.tm h.to⟩
 ·rw[show st=⟨st.b,st.Γ,st.Δ⟩from rfl,Cw]at he;obtain⟨z,hz,rfl⟩:=Tbj.1 he;exact⟨Live.ms hg hw.ren (h.tm.Γ z hz).1 (h.Γ z hz).1,Live.ms hg hw.ren (h.tm.Γ z hz).2 (h.Γ z hz).2⟩
 ·rw[hf];rcases i3 x hx with⟨z,hz,e⟩|⟨z,hz,e⟩
  ·rw[<- e];refine⟨λhm=>?_,(h.dead z hz).2.mono om⟩;rcases hw.new _ hm with hm|⟨j,k,q,a,b⟩
   ·exact(h.dead z hz).1 hm
   ·have:=(h.dead z hz).2 j k om q;omega
  ·rw[<- e];exact⟨hw.dead z hz,hw.num z hz⟩
end
def m207(b:G5)(h:Bx G5->G4:=by
 intro B0
 have hk:pw g v.sort:=⟨hV.2.2.1,hV.2.2.2.1⟩;have hD:DeadM g s.Δ [] L:=⟨λy hy=>by(cases hy),λy hy=>by(cases hy),λy hy=>by(cases hy),hI.liv⟩;exact B0.o hk hD):G4:=h ⟨b⟩
def fA{α β:Type}(R:α->β->Prop):Option α->Option β->Prop
 |none,none=>True
 |some a,some b=>R a b
 |_,_=>False
def F2{α β:Type}(R:α->β->Prop):List α->List β->Prop
 |[],[]=>True
 |a::l,b::m=>R a b/\F2 R l m
 |_,_=>False
def fA.bind{α β H4 H3:Type}{R:α->β->Prop}{R':H4->H3->Prop}{f:α->Option H4}{f':β->Option H3}:∀{x:Option α}{y:Option β},fA R x y->(∀a b,x=some a->y=some b->R a b->fA R' (f a) (f' b))->fA R' (x.bind f) (y.bind f')
 |none,none,_,_=>trivial
 |some a,some b,h,hf=>hf a b rfl rfl h
 |none,some _,h,_=>h.elim
 |some _,none,h,_=>h.elim
def fA.map{α β H4 H3:Type}{R:α->β->Prop}{R':H4->H3->Prop}{f:α->H4}{f':β->H3}:∀{x:Option α}{y:Option β},fA R x y->(∀a b,R a b->R' (f a) (f' b))->fA R' (x.map f) (y.map f')
 |none,none,_,_=>trivial
 |some a,some b,h,hf=>hf a b h
 |none,some _,h,_=>h.elim
 |some _,none,h,_=>h.elim
def fA.trans{α:Type}{R:α->α->Prop}(hR:∀a b c,R a b->R b c->R a c):∀{x y z:Option α},fA R x y->fA R y z->fA R x z
 |none,none,none,_,_=>trivial
 |some a,some b,some c,h,h'=>hR a b c h h'
 |none,some _,_,h,_=>h.elim
 |some _,none,_,h,_=>h.elim
 |none,none,some _,_,h=>h.elim
 |some _,some _,none,_,h=>h.elim
def ZnU{α β γ:Type}{R:β->γ->Prop}{f:α->Option β}{f':α->Option γ}:∀{l:List α},(∀a∈l,fA R (f a) (f' a))->fA (F2 R) (ba f l) (ba f' l)
 |[],_=>trivial
 |a::l,h=>by
  rw[ba,ba];refine(h a Tas).bind λb c _ _ hbc=>?_;exact(ZnU λx hx=>h x (Tal _ hx)).map λ_ _ q=>⟨hbc,q⟩
def Zro{α β γ:Type}{f:β->Option γ}{h:α->β}:∀{l:List α},ba f (l.map h)=ba (λa=>f (h a)) l
 |[]=>rfl
 |a::l=>by rw[Tbv,ba,ba,Zro]
def Zt8{α β:Type}{f f':α->Option β}:∀{l:List α},(∀a∈l,f a=f' a)->ba f l=ba f' l
 |[],_=>rfl
 |a::l,h=>by rw[ba,ba,h a Tas,Zt8 λx hx=>h x (Tal _ hx)]
def Zrp{α H4 β H3:Type}{RB:β->H3->Prop}{RA:α->H4->Prop}{f:β->α->Option β}{f':H3->H4->Option H3}:∀{l:List α}{m:List H4}{b:β}{b':H3},F2 RA l m->RB b b'->(∀a∈l,∀a' b b',RA a a'->RB b b'->fA RB (f b a) (f' b' a'))->fA RB (bI f b l) (bI f' b' m)
 |[],[],b,b',_,hb,_=>hb
 |a::l,a'::m,b,b',h,hb,hf=>by
  rw[bI,bI];refine(hf a Tas a' b b' h.1 hb).bind λc c' _ _ hc=>?_;exact Zrp h.2 hc λx hx=>hf x (Tal _ hx)
 |[],_::_,_,_,h,_,_=>h.elim
 |_::_,[],_,_,h,_,_=>h.elim
section
variable{g:Sgn}
noncomputable def dT(g:Sgn)(st:USt)(v t:Tm):Option USt:=(mapA g [⟨v,t⟩] st.b).bind λb'=>(ba (qq g [⟨v,t⟩]) st.Γ).map λr'=>⟨b'++[⟨v,t⟩],r',st.Δ⟩
noncomputable def wW(g:Sgn)(st:USt)(a b:Tm):Option (List USt) :=
 if(dw g b.sort).testBit a.sort.toNat=true then(dT g st a b).map λs=>[s]
 else if(dw g a.sort).testBit b.sort.toNat=true then(dT g st b a).map λs=>[s]
 else ba (λi:Nat=>(dT g ⟨st.b,st.Γ,st.Δ+1⟩ a (wV (st.Δ+1) i)).bind λs=>dT g s b (wV (st.Δ+1) i)) (cj (dY g a.sort b.sort))
noncomputable def zF(g:Sgn)(ms:GP)(st:USt):Option USt:=bI (λs y=>dT g s y.var y.to) st ms
noncomputable def pt(g:Sgn)(st:USt)(v t:Tm):Option (List USt) :=
 if bR v t=true\/dS g v≠dS g t then some []else(df g st.Δ (ah t+1) t v.sort []).bind (ba λms=>(zF g ms st).bind λs=>(co g (e8 g ms) t).bind λx=>dT g ⟨s.b,s.Γ,st.Δ+ms.length⟩ v x)
noncomputable def Bo(g:Sgn)(b:GP)(fresh:Nat)(x y:Tm)(r:GP):Option (List USt) :=
 if aU x y=0 then some [⟨b,r,fresh⟩]
 else if x.op=-1/\y.op=-1 then wW g ⟨b,r,fresh⟩ x y
 else if x.op=-1 then pt g ⟨b,r,fresh⟩ x y
 else if y.op=-1 then pt g ⟨b,r,fresh⟩ y x
 else if x.op≠y.op then some []
 else some (⟨b,(x.Y.zip y.Y).map (λp=>⟨p.1,p.2⟩)++r,fresh⟩::match g.ops[x.op.toNat]? with
  |none=>[]
  |some o=>if o.comm=true then[⟨b,(x.Y.zip y.Y.reverse).map (λp=>⟨p.1,p.2⟩)++r,fresh⟩]else[])
def lh(aj:AI)(b:GP):GP:=aj.filterMap λv=>(fx b v).map λt=>⟨v,t⟩
def wb(aj:AI)(b:GP)(out:List (GP)):Option (List (GP)):=if(out.any λo=>decide (aN o (lh aj b)=0))=true then some out else fQ (out++[lh aj b])
noncomputable def bK(g:Sgn)(aj:AI):Nat->(List (GP)×Nat)->USt->Option (List (GP)×Nat)
 |0,_,_=>none
 |n+1,(out,sol),st=>match st.Γ with
  |[]=>(wb aj st.b out).map λo=>(o,sol)
  |e::r=>if 3000<=sol then none else(Bo g st.b st.Δ e.var e.to r).bind (bI (bK g aj n) (out,sol+1))
def kH(s t:USt):Prop:=s.b.Perm t.b/\s.Γ=t.Γ/\s.Δ=t.Δ
def ZDm {s:GP} {l m:GP} (h:l.Perm m):fA List.Perm (mapA g s l) (mapA g s m):=by
 induction h with
 |nil=>exact .nil
 |cons y _ ih =>
  simp only[mapA]
  cases co g s y.to with
  |none=>trivial
  |some t=>exact ih.map λ_ _ q=>q.cons _
 | swap y z l =>
  simp only[mapA]
  cases co g s y.to with
  |none =>
   cases co g s z.to with
   |none=>trivial
   |some u=>cases mapA g s l<;>trivial
  | some t =>
   cases co g s z.to with
   |none=>cases mapA g s l<;>trivial
   |some u =>
    cases mapA g s l with
    |none=>trivial
    |some k=>exact .swap _ _ _
 |trans _ _ i1 i2=>exact fA.trans (R:=List.Perm) (λ_ _ _ a b=>List.Perm.trans a b) i1 i2
def zz{s t:USt}(h:kH s t)(v x:Tm):fA kH (cJ g s v x) (dT g t v x):=by
 obtain⟨h1,h2,h3⟩:=h;unfold cJ dT;rw[h2,h3];refine(ZDm h1).bind λa b _ _ mO=>?_
 cases ba (qq g [⟨v,x⟩]) t.Γ with
 |none=>trivial
 |some r=>exact⟨(t6 _ _).trans ((mO.cons _).trans (List.perm_append_singleton _ _).symm),rfl,rfl⟩
def Zt9{s t:USt}(h:kH s t)(a b:Tm):fA (F2 kH) (v7 g s a b) (wW g t a b):=by
 unfold v7 wW;by_cases h1:(dw g b.sort).testBit a.sort.toNat=true
 ·rw[if_pos (.inr h1),if_pos h1,if_pos h1];exact(zz h a b).map λ_ _ q=>⟨q,trivial⟩
 ·by_cases h2:(dw g a.sort).testBit b.sort.toNat=true
  ·rw[if_pos (.inl h2),if_neg h1,if_neg h1,if_pos h2];exact(zz h b a).map λ_ _ q=>⟨q,trivial⟩
  ·rw[if_neg (λq=>q.elim h2 h1),if_neg h1,if_neg h2];have e:s.Δ=t.Δ:=h.2.2;rw[e];refine ZnU λi _=>?_;exact(zz (s:=⟨s.b,s.Γ,t.Δ+1⟩) (t:=⟨t.b,t.Γ,t.Δ+1⟩) ⟨h.1,h.2.1,rfl⟩ a _).bind λ_ _ _ _ q=>zz q b _
def ZnV(hg:SgnOk g):∀{ms:GP}{s t:USt},qk g ms->UTm g s->s.b.Perm t.b->s.Γ=t.Γ->∃u,zF g ms t=some u/\(stM g ms s).b.Perm u.b/\(stM g ms s).Γ=u.Γ
 |[],s,t,_,_,h1,h2=>⟨t,rfl,h1,h2⟩
 | y::ms,s,t,hR,hU,h1,h2=>by
  have hy:=hR y Tas;have uW:UTm g ⟨s.b,s.Γ,s.Δ+1⟩:=⟨hU.b,hU.Γ⟩;have hr:=zz (g:=g) (s:=⟨s.b,s.Γ,s.Δ+1⟩) (t:=⟨t.b,t.Γ,s.Δ+1⟩) ⟨h1,h2,rfl⟩ y.var y.to;rw[Zt2 hg hy uW]at hr;have ef:∀c:Nat,dT g ⟨t.b,t.Γ,c⟩ y.var y.to=(dT g t y.var y.to).map λu=>⟨u.b,u.Γ,c⟩:=λc=>by
   unfold dT;simp only
   cases mapA g [⟨y.var,y.to⟩] t.b with
   |none=>rfl
   |some b'=>cases ba (qq g [⟨y.var,y.to⟩]) t.Γ<;>rfl
  rw[ef]at hr
  cases hb:dT g t y.var y.to with
  |none=>rw[hb]at hr;exact hr.elim
  |some u =>
   rw[hb]at hr;have hr:kH (oK g y ⟨s.b,s.Γ,s.Δ+1⟩) ⟨u.b,u.Γ,s.Δ+1⟩:=hr;obtain⟨w,i1,i2,i3⟩:=ZnV hg (ms:=ms) (s:=oK g y ⟨s.b,s.Γ,s.Δ+1⟩) (t:=u) (λz hz=>hR z (Tal _ hz)) (UTm.rn hg hy uW) hr.1 hr.2.1;refine⟨w,?_,i2,i3⟩;show bI _ t (y::ms)=_;rw[bI,hb,Option.bind_some];exact i1
def ZxN(hg:SgnOk g)(hF:jb g){L:AI}{st:USt}(hI:UInv g L st){v t:Tm}(hV:dp g v)(ht:TermOk g t)(hL:Live L t):pu g st v t=if bR v t=true\/dS g v≠dS g t then some []else(nf g (ah t+1) t v.sort st.Δ).bind (ba λms=>cJ g (stM g ms st) v (dF g ms t)):=by
 unfold pu;split
 ·rfl
 ·have hU:UTm g ⟨st.b,jg t::st.Γ,st.Δ⟩:=⟨hI.tm.b,λe he=>by
   rcases Tbh.1 he with rfl|he
   ·exact⟨ht,ht⟩
   ·exact hI.tm.Γ e he⟩
  show((ly g (ah t+1) ⟨st.b,jg t::st.Γ,st.Δ⟩ v.sort).bind _)=_;rw[(Zkw hg hF _ t v.sort st.Δ L st.b st.Γ (Tan _) ht hL hI.liv ⟨hV.2.2.1,hV.2.2.2.1⟩ hU)]
  cases nf g (ah t+1) t v.sort st.Δ with
  |none=>rfl
  |some l =>
   rw[Option.map_some,Option.bind_some,Option.bind_some,Zro];refine Zt8 λms _=>?_;have e1:(stM g ms ⟨st.b,jg t::st.Γ,st.Δ⟩).Γ=⟨dF g ms t,dF g ms t⟩::st.Γ.map (m2 (dF g ms)):=Cw ms _ _ _;have e2:(stM g ms ⟨st.b,jg t::st.Γ,st.Δ⟩).Δ=st.Δ+ms.length:=A9 ms _;have e3:(⟨(stM g ms ⟨st.b,jg t::st.Γ,st.Δ⟩).b,st.Γ.map (m2 (dF g ms)),st.Δ+ms.length⟩:USt)=stM g ms st:=(Zpo (r:=st.Γ) (r':=jg t::st.Γ)).symm
   simp only[e1,e2,e3]
def Zua(hg:SgnOk g)(hF:jb g){L:AI}{s st:USt}(hR:kH s st)(hI:UInv g L s){v t:Tm}(hV:dp g v)(ht:TermOk g t)(hL:Live L t):fA (F2 kH) (pu g s v t) (pt g st v t):=by
 obtain⟨p1,p2,p3⟩:=hR;rw[ZxN hg hF hI hV ht hL];unfold pt;by_cases hc:bR v t\/dS g v≠dS g t
 ·rw[if_pos hc,if_pos hc];trivial
 ·rw[if_neg hc,if_neg hc];refine m207 λhk hD=>?_;rw[<- p3,(ZmC hg s.Δ (ah t+1) t v.sort [] L (Tan _) ht hL hD hk)];show fA _ _ (((nf g (ah t+1) t v.sort s.Δ).map (List.map λm=>m)).bind _)
  cases hl:nf g (ah t+1) t v.sort s.Δ with
  |none=>trivial
  |some l =>
   rw[Option.map_some,List.map_id',Option.bind_some,Option.bind_some];refine ZnU λms oE=>?_;have pZ:=yv hg _ t v.sort s.Δ L l (Tan _) ht hL hI.liv hk hl ms oE;obtain⟨u,h1,h2,h3⟩:=ZnV hg pZ.ren hI.tm p1 p2;rw[h1,Option.bind_some,(CM hg ms pZ.ren).2 t ht,Option.bind_some];exact zz (s:=stM g ms s) (t:=⟨u.b,u.Γ,s.Δ+ms.length⟩) ⟨h2,h3,A9 ms s⟩ v _
def Zub (hg:SgnOk g) (hF:jb g) {L:AI} {b b':GP} (hb:b.Perm b') {c:Nat} {x y:Tm} {r:GP} (hI:UInv g L ⟨b,r,c⟩) (hx:TermOk g x/\Live L x) (hy:TermOk g y/\Live L y):fA (F2 kH) (uf g b c x y r) (Bo g b' c x y r):=by
 have hR:kH ⟨b,r,c⟩ ⟨b',r,c⟩:=⟨hb,rfl,rfl⟩;unfold uf Bo;by_cases h0:aU x y=0
 ·rw[if_pos h0,if_pos h0];exact⟨hR,trivial⟩
 ·rw [if_neg h0,if_neg h0];by_cases h1:x.op=-1/\y.op=-1
  ·rw[if_pos h1,if_pos h1];exact Zt9 hR x y
  ·rw [if_neg h1,if_neg h1];by_cases kC:y.op=-1
   ·have oG:¬x.op=-1:=λq=>h1 ⟨q,kC⟩;rw[if_pos kC,if_neg oG,if_pos kC];exact Zua hg hF hR hI (hy.1.varOk kC) hx.1 hx.2
   ·rw [if_neg kC,if_neg kC];by_cases oG:x.op=-1
    ·rw[if_pos oG,if_pos oG];exact Zua hg hF hR hI (hx.1.varOk oG) hy.1 hy.2
    ·rw[if_neg oG,if_neg oG];by_cases h2:x.op≠y.op
     ·rw[if_pos h2,if_pos h2];trivial
     ·rw[if_neg h2,if_neg h2];refine⟨⟨hb,rfl,rfl⟩,?_⟩
      cases g.ops[x.op.toNat]? with
      |none=>trivial
      |some o =>
       simp only;by_cases hc:o.comm=true
       ·rw[if_pos hc,if_pos hc];exact⟨⟨hb,rfl,rfl⟩,trivial⟩
       ·rw[if_neg hc,if_neg hc];trivial
end
section
variable{g:Sgn}
structure PPre(g:Sgn)(n:Nat)(L:AI)(st:USt)(xs:AI):Prop where
 Γ:∃r,st.Γ=xs.map jg++r
 xs:∀x∈xs,ah x<n/\TermOk g x/\Live L x
 liv:LivOk g L st.Δ
 tm:UTm g st
 bb:st.b.length+oB g L<=130
def Zuc:∀{ms:GP}{st:USt},(stM g ms st).b.length=st.b.length+ms.length
 |[],st=>rfl
 |y::ms,st=>by
  show(stM g ms (oK g y ⟨st.b,st.Γ,st.Δ+1⟩)).b.length=_;rw[Zuc (ms:=ms)];simp only[oK,(t6 _ _).length_eq,Tag,Tay];omega
def PPre.next(hg:SgnOk g)(hF:jb g){n:Nat}{L:AI}{st:USt}{x:Tm}{xs:AI}(h:PPre g n L st (x::xs)){k:Int}(hk:pw g k){l:List USt}(hl:ly g n st k=some l):∀s∈l,s.Γ.length=st.Γ.length/\∃L' AX,AX.length=xs.length/\PPre g n L' ⟨s.b,s.Γ.tail,s.Δ⟩ AX:=by
 intro s hs;obtain⟨b,rest,c⟩:=st;obtain⟨⟨r,hr⟩,hx,hL,hU,hb⟩:=h;simp only at hr hL hb;rw[Tbv,Taf]at hr;subst hr;have iw:=hx x Tas;have h2:=Zkw hg hF n x k c L b (xs.map jg++r) iw.1 iw.2.1 iw.2.2 hL hk hU;rw[h2]at hl;obtain⟨w,hw,hl⟩:=Tav.1 hl;subst hl;obtain⟨ms,oE,rfl⟩:=Tbj.1 hs;have pZ:=yv hg n x k c L w iw.1 iw.2.1 iw.2.2 hL hk hw ms oE;refine m31 λuW Dv e1 e0=>?_
 rw[e0]at Dv;refine⟨by rw[Cw];simp,mL g ms L,xs.map (dF g ms),Tay _,?_⟩;rw[e1];refine⟨⟨_,rfl⟩,λy hy=>?_,pZ.live hL,Dv,?_⟩
 ·exact m86
 ·have h3:=pZ.bg;simp only[Zuc];omega
end
def RNwV(b:Nat)(x y:C)(n:Nat)(k:Int)(r:AS)(pm:GQ):Prop:=r=[.agg (ax (wV (n+1) k))]/\pm=[.var (some b) [x,y,GS ((n+1:Nat):Int)]]
def Znh(b:Nat)(x y:C){n:Nat}(hn:n+1<100)(k:Int):aT e0 195 [.I (.A (.pointer (some ⟨b,0,none⟩))),GT k] [.var (some b) [x,y,GS n]] (RNwV b x y n k):=by
 have e1:(⟨#[119]⟩:ByteArray)++ci (n+1)=wz (n+1):=rfl
 have e2:((⟨#[119]⟩:ByteArray).size+(ci (n+1)).size<=9223372036854775807)=True:=eq_true (by
  have h1:(⟨#[119]⟩:ByteArray).size=1:=rfl;have h2:=ZlM (n+1);split at h2<;>omega)
 refine dX (ts:=[.cell 4 46]) [1000] 19 Tryz.func195 ?_;refine eQ 1 @ae (ai (bW (k:=n) om) @ae) ?_;refine cg 2 @ae @ae ((Zvy (k:=n+1) om hn)) ?_;refine oZ (aj3 @e1 @e2 @ae) ((Zq8 (wz (n+1)) k)) @ae ?_;exact(have F:=ae;ee (R:=RNwV b x y n k) [1000] ⟨rfl,rfl⟩)
def m179(h:G3:=by
 have h2:2 ^ g.V.O.length<=2 ^ 8:=Tbt (by decide) hN;show db _ _<_;omega):G3:=h
def m94(h:G3:=by
 refine fR (aj4 @yD @aD.eq_1 @ku @ae) ?_;refine dC 7 @ae 1 (ai @ku @ae) ?_;have F:=ai ku ae;refine Df ?_;refine fR (ai @ku @ae) ?_;exact(have F:=ae;pc (R:=ri _) [8] hR)):G3:=h
section
variable{g:Sgn}
def tj(l:AI):GP:=l.map λa=>⟨a,a⟩
def ZIR:aK (tj [])=[]:=rfl
def ZDn{l:AI}{i:Nat}{a:Tm}(h:l[i]?=some a):aK (tj (l.take (i+1)))=aK (tj (l.take i))++[dQ ⟨a,a⟩]:=by
 unfold tj;rw[List.take_add_one,h,Tbw,sq];rfl
def Zud(l:AI):(aK (tj l)).length=l.length:=by rw[fE];exact Tay ..
def ZvB{st:USt}{t:Tm}(ha:t.Y.length<=1000)(hr:st.Γ.length<=100000):aI e0 198 [.agg (fp st),.agg (ax t)] [.agg (fp (v6 st t))]:=by
 obtain⟨B,r,n⟩:=st;have er:aK (tj t.Y)++aK r=aK (v6 ⟨B,r,n⟩ t).Γ:=(sq _ _).symm;have bl:=fE r;have b8:=λl=>eI l;have c8:t.Y.length+r.length<=al:=by simp only at hr;unfold al;omega
 have e0':v6 ⟨B,r,n⟩ t=⟨B,(v6 ⟨B,r,n⟩ t).Γ,n⟩:=rfl;simp only[fp];refine gI (ts:=[.cell 4 106]) 4223 Tryz.func198 ?_;refine fN 1 @ae ?_;refine fG @ae ?_;have F:=ai @ZIR @ae;refine gL (ι:=Nat) [5,6,12] [5] (λi=>[(6,GU i),(5,.Υ 5)]) (λi=>[(5,.Υ none 103 8 (aK (tj (t.Y.take i))))]) (λi=>i<=t.Y.length) (λi=>t.Y.length-i) (0) (Taj _) (λi hi=>?_)
 by_cases am:i<t.Y.length
 ·have q1:=lT i t.Y.length;obtain⟨a,hy⟩:∃a,t.Y[i]?=some a:=⟨_,Taa am⟩;have fV:=bW (k:=i) om;have h8:=sC a a;have aZ:=(ZDn hy).symm;have hl:=Zud (t.Y.take i);rw[Taw,Nat.min_eq_left hi]at hl;have F:=aj11 @q1 @hy @am @h8 @dz @hl (by unfold al;omega:i+1<=al) @aZ @fV @bw @ae;exact yV
 obtain rfl:i=t.Y.length:=by omega
 rw[Tap];refine dC 6 (ai (lF t.Y.length t.Y.length) @ae) 4 (aj6 (Zud t.Y) @bl @b8 @c8 @er @ae) ?_;refine gS 32 λa cap=>?_;refine ec @ae @ae ?_;refine vA 32 4 1 ?_ (hc:=by first|rfl|simp);exact(have F:=ae;gTd)
def ri(x:Option (List USt))(r:AS):Prop:=∃l:List USt,r=[.I (.sl (l.map fp)),GW x.isSome]/\(∀m,x=some m->l=m)/\l.length<=16
def ZDo(st:USt):(fp st).length=3:=rfl
def ZG9(st:USt):(fp st).all bQ:=rfl
def ZHa(st:USt):(fp st).take 3=fp st:=rfl
def ku:=aj3 ZDo ZG9 ZHa
def uI(l:List USt):(l.map fp).length=l.length:=Tay ..
def wd(l:List USt):ZaD 3 (l.map fp):=uD (λa=>rfl) l
def ZxO(a k:Nat):bG a k=a.testBit k:=rfl
noncomputable def tV(g:Sgn)(st:USt)(a b:Tm)(i:Nat):Option USt:=(cJ g ⟨st.b,st.Γ,st.Δ+1⟩ a (wV (st.Δ+1) i)).bind λs=>cJ g s b (wV (st.Δ+1) i)
def Zue(cZ:kL g)(hg:SgnOk g)(hF:∀o∈g.ops,o.Θ=false/\o.Ω=0){st:USt}(hU:UTm g st)(qT:st.b.length<=150)(c9:st.Γ.length<=60000)(nO:st.Δ+1<100){a b:Tm}(ha:dp g a)(hb:dp g b):fX e0 156 [.agg (ck g),.agg (fp st),.agg (ax a),.agg (ax b)] (ri (v7 g st a b)):=by
 have hs:=hg.V;have hN:=hs.n8;have cU:=CD hs.n8 hs.m16 (SortsOk.subsIn hs.Ψ);refine m61 λnK rr=>?_;obtain⟨ka,tF⟩:∃k:Nat,a.sort=k:=⟨a.sort.toNat,by have:=ha.2.2.1;omega⟩;obtain⟨kb,DM⟩:∃k:Nat,b.sort=k:=⟨b.sort.toNat,by have:=hb.2.2.1;omega⟩;have ra:=ha.2.2.2.1;have rb:=hb.2.2.2.1;have ga:=yr hs ha.2.2.1 ra;have gb:=yr hs hb.2.2.1 rb;have ua:=gN ga.1;have ub:=gN gb.1;have cC:=Zpe cZ hs ⟨ha.2.2.1,ra⟩ ⟨hb.2.2.1,rb⟩;have iH:dY g a.sort b.sort<65536:=by
  have h1:=sx (fj g (fy g a.sort&&&fy g b.sort)) g.V.O.length;exact m179
 have cL:=ZqN iH;have Aj:=λi(hi:i∈cj (dY g a.sort b.sort))=>(Cx hg hi).1;have eV:v7 g st a b=if bG (dw g a.sort) kb=true\/bG (dw g b.sort) ka=true then(if bG (dw g b.sort) ka=true then cJ g st a b else cJ g st b a).map λs=>[s]else ba (tV g st a b) (cj (dY g a.sort b.sort)):=by
  unfold v7 bG;rw[tF,DM];rfl
 rw[eV];clear eV;have cH1:=uE (a:=dw g a.sort) (k:=kb) (iU ga.2 hN) om;have FU:=uE (a:=dw g b.sort) (k:=ka) (iU gb.2 hN) om;have cAB:=E9 cZ hg hF hU om c9 ha hb.term;have cBA:=E9 cZ hg hF hU om c9 hb ha.term;rw[tF]at ga ua ra cC cL iH Aj cH1;rw[DM]at gb ub rb cC cL iH Aj FU;rw[tF,DM];simp only[Tbz]at ua ub;simp only[ck]at cAB cBA⊢;simp only[gt]at cU cC;obtain⟨B,r,n⟩:=st
 simp only[fp]at cAB cBA⊢;have qa:ka<g.V.O.length:=om;have qb:kb<g.V.O.length:=om;refine Dg 162259276980329095355802381713407 Tryz.func156 ?_;refine cq 1 @ae @ae (cU) @ae ?_;refine fN 3 @ae ?_;refine gM (ι:=Bool) [43] [] (λu=>[(43,GX u)]) (λu=>[]) (λu=>u=(bG (dw g ka) kb||bG (dw g kb) ka)) ?_ (λu hu=>Exists.intro _ (ai (Wk.refl _) ?_))
 ·refine gB ?_;refine fC (aj8 @tF @DM @ua @rr @nK @qa @bw @ae) (cH1) ?_
  cases h1:bG (dw g ka) kb with
  |true =>
   refine fR @ae ?_;exact⟨true,rfl,(have F:=ae;gw),(have F:=ae;gw)⟩
  |false =>
   refine oZ (aj8 @tF @DM @ub @rr @nK @qb @bw @ae) (FU) @ae ?_;exact⟨bG (dw g kb) ka,rfl,(have F:=ae;gw),(have F:=ae;gw)⟩
 have hRL:∀(s1:USt)(x y:Tm),(∀q,cJ g ⟨B,r,n⟩ x y=some q->s1=q)->ri ((cJ g ⟨B,r,n⟩ x y).map λs=>[s]) [.I (.sl [fp s1]),.I (.A (.bool (cJ g ⟨B,r,n⟩ x y).isSome))]:=λs1 x y h=>⟨[s1],by rw[Option.isSome_map];rfl,λm hm=>by
  cases hq:cJ g ⟨B,r,n⟩ x y with
  |none=>rw[hq]at hm;cases hm
  |some q=>rw[hq]at hm;injection hm with hm;rw[<- hm,h q hq],by simp⟩
 cases u with
 | true =>
  have pn:bG (dw g ka) kb\/bG (dw g kb) ka:=by
   cases h1:bG (dw g ka) kb with
   |true=>exact .inl rfl
   |false=>rw[h1,Bool.false_or]at hu;exact .inr hu.symm
  rw[if_pos pn];refine cg 4 @ae (aj8 @tF @DM @ub @rr @nK @qb @bw @ae) (FU) ?_
  cases h2:bG (dw g kb) ka with
  |true =>
   rw[if_pos rfl];refine fR @ae ?_;refine kQ 6 @ae ?_;have F:=@ae;refine xg (cAB) ?_;rintro r' ⟨s1,rfl,h3,-⟩;have hR:=hRL s1 a b h3;exact m94
  |false =>
   rw[if_neg (by simp)];refine fR @ae ?_;refine kQ 6 @ae ?_;have F:=@ae;refine xg (cBA) ?_;rintro r' ⟨s1,rfl,h3,-⟩;have hR:=hRL s1 b a h3;exact m94
 |false =>
 have pn:¬(bG (dw g ka) kb\/bG (dw g kb) ka):=λh=>by
  rcases h with h|h
  ·rw[h]at hu;cases hu
  ·rw[h,Bool.or_true]at hu;cases hu
 rw[if_neg pn];clear pn hu cH1 FU cAB cBA hRL;generalize dY g ka kb=D at cC cL Aj⊢;have hL16:(cj D).length<=16:=A6 D 16;have lL:=gH (l:=cj D);have rL:=iS (l:=cj D);refine cg 8 @ae (aj3 @tF @DM @ae) (cC) ?_;refine fC @ae (cL) ?_;refine ec @ae @ae ?_;have F:=ai (@List.map_nil.{0,0}) @ae;refine gL (ι:=Nat×List USt) [8,9,11,15,16,17,18,19,20,21,77,107] [11] (λx=>[(15,GU x.1),(11,.Υ 11)]) (λx=>[(11,.Υ none 106 3 (x.2.map fp))]) (λx=>x.1<=(cj D).length/\x.2.length=x.1/\ba (tV g ⟨B,r,n⟩ a b) ((cj D).take x.1)=some x.2) (λx=>(cj D).length-x.1) ((0,[])) (⟨Taj _,rfl,rfl⟩) (λx hx=>?_)
 obtain⟨i,L⟩:=x;obtain⟨hi,hLl,hm⟩:=hx;simp only at hi hLl hm;dsimp only;have bL:=uI L;have bB:=wd L;by_cases am:i<(cj D).length;rotate_left
 ·obtain rfl:i=(cj D).length:=by omega
  have q1:=lF ((cj D).length) ((cj D).length);rw[Tap]at hm;have hR:ri (ba (tV g ⟨B,r,n⟩ a b) (cj D)) [.I (.sl (L.map fp)),GW true]:=⟨L,by rw[hm];rfl,λm h=>by rw[hm]at h;injection h,om⟩;refine fG (aj3 @q1 @lL @ae) ?_;exact(have F:=ae;pc (R:=ri _) [8] hR)
 have q1:=lT i ((cj D).length);obtain⟨k,hk⟩:∃k,(cj D)[i]?=some k:=⟨_,Taa am⟩;have xw:=Aj k (Tac hk);have gk:=gN hk;have fV:=bW (k:=i) om;have da:=Zi4 (f:=tV g ⟨B,r,n⟩ a b) hk;rw[hm,Option.bind_some]at da;have hW:=Zsl (g:=g) (n:=n+1) (i:=k) nO xw;have eF:tV g ⟨B,r,n⟩ a b k=(cJ g ⟨B,r,n+1⟩ a (wV (n+1) k)).bind λs=>cJ g s b (wV (n+1) k):=rfl;have yN:UTm g ⟨B,r,n+1⟩:=⟨hU.b,hU.Γ⟩
 have c1:=E9 cZ hg hF yN (show B.length<=200 by simp only at qT;omega) c9 ha hW.term;simp only[ck,fp]at c1;have rP:tV g ⟨B,r,n⟩ a b k=none->ri (ba (tV g ⟨B,r,n⟩ a b) (cj D)) [.I (.sl []),GW false]:=λh=>by
  rw[h]at da;exact⟨[],by rw[Zhg da];rfl,λm hm=>(by rw[Zhg da]at hm;cases hm),by simp⟩
 have z0:(none:Option USt).isSome=false:=rfl;have z1:∀u:USt,(some u).isSome:=λ_=>rfl;refine fN 13 (aj3 @q1 @lL @ae) ?_;refine pV 16 λb16 hb16=>?_;clear hb16;refine gB ?_;have F:=aj7 @hk @gk @lL @rL @am @bw @ae;refine cQ [16] [16] (Znh b16 (.sl (aK B)) (.sl (aK r)) nO k) ?_;rintro r' pm ⟨rfl,rfl⟩;simp only[aD,aQ,aM,Taf,Tah];refine fR @ae ?_;refine kQ 14 @ae ?_
 have F:=@ae;refine xg (c1) ?_;rintro r' ⟨s1,rfl,h1,z8,iG,oF⟩;have c2:=E9 cZ hg hF z8 (by simp only at qT iG;omega) (by simp only at c9 oF;omega) hb hW.term;simp only[ck]at c2;refine fR (aj4 @yD @aD.eq_1 @ku @ae) ?_;refine kQ 15 @ae ?_;have F:=ai @ku @ae;refine xg (c2) ?_;rintro r' ⟨s2,rfl,h2,-⟩;refine fR (aj4 @yD @aD.eq_1 @ku @ae) ?_
 cases mV:cJ g ⟨B,r,n+1⟩ a (wV (n+1) k)with
 |none =>
  refine fG (ai @z0 @ae) ?_;exact(have F:=ae;pc (R:=ri _) [8] (rP (by rw[eF,mV];rfl)))
 |some u1 =>
 obtain rfl:=h1 u1 mV;rw[mV,Option.bind_some]at eF
 cases po:cJ g s1 b (wV (n+1) k)with
 |none =>
  refine fG (aj3 @z0 @z1 @ae) ?_;exact(have F:=ae;pc (R:=ri _) [8] (rP (by rw[eF,po])))
 |some u2 =>
 obtain rfl:=h2 u2 po;rw[eF,po,Option.map_some]at da;have F:=aj8 @z1 @ku @bL @bB (by unfold al;omega:L.length+1<=al) (@Tbw.{0,0}) @fV @ae;refine gG ?_;exact⟨(i+1,L++[s2]),⟨am,by simp[hLl],da⟩,gw,gw,om⟩
end
def Ew(h:G3:=by
 exact(have F:=ae;pc (R:=g8 _ _) [8] hR)):G3:=h
def m174(h:G3:=by
 refine gG ?_;exact⟨(i+1,out++more,false),⟨am,hol2,λh=>(by cases h),λ_=>sI⟩,gw,gw,om⟩):G3:=h
section
variable{g:Sgn}
def g8(N:Nat)(x:Option (List USt))(r:AS):Prop:=∃l:List USt,r=[.I (.sl (l.map fp)),GW x.isSome]/\(∀m,x=some m->l=m)/\l.length<=N
def ZHb(g:Sgn)(n:Nat):Prop:=∀{st:USt}{x:Tm}{xs L:AI}{k:Int},PPre g n L st (x::xs)->st.Γ.length+10*n<=60000->pw g k->fX e0 158 [.agg (ck g),.agg (fp st),GT k] (g8 64 (ly g n st k))
def ZDq(l:GP):(aK l).drop 1=aK l.tail:=by cases l<;>rfl
def ZhG(l:GP):((aK l).take l.length).drop 1=aK l.tail:=by rw[<- fE,Tap];exact ZDq l
noncomputable def ZHc(S:USt->Int->Option (List USt))(ks:List Int)(out:List USt)(s:USt):Option (List USt):=(sZ S ks ⟨s.b,s.Γ.tail,s.Δ⟩).bind λmore=>fQ (out++more)
def zi{α β:Type}{f:β->α->Option β}{b:β}{l:List α}{i:Nat}{a:α}(h:l[i]?=some a):bI f b (l.take (i+1))=(bI f b (l.take i)).bind λc=>f c a:=by
 rw[List.take_add_one,h];exact Zpd
def yp {α β:Type} {f:β->α->Option β} {b:β} {l:List α} {i:Nat} (h:bI f b (l.take i)=none):bI f b l=none:=by
 have:∀(m k:List α)(b:β),bI f b m=none->bI f b (m++k)=none:=by
  intro m
  induction m with
  |nil=>intro k b h;cases h
  | cons x m ih =>
   intro k b h;simp only[Taf,bI]at h⊢
   cases h1:f b x with
   |none=>rfl
   |some u =>
    rw[h1]at h;exact ih k u h
 have:=this (l.take i) (l.drop i) b h
 rwa [Tbn]at this
def ZlZ{α:Type}{l:List α}(h:l.length<=64):fQ l=some l:=if_pos h
def Zy4 (cZ:kL g) (hg:SgnOk g) (hF:jb g) {n:Nat} (hS:ZHb g n) {ks:List Int} (uo:∀k∈ks,pw g k) (jF:ks.length<=100):∀(q:Nat){xs L:AI}{st:USt}{j:Nat},xs.length=q->j+q=ks.length->PPre g n L st xs->st.Γ.length+10*n<=60000->fX e0 197 [.agg (ck g),.agg (fp st),.I (.sl (ks.map ij)),GT j] (g8 (64*(q+1)) (sZ (ly g n) (ks.drop j) st)):=by
 intro q
 induction q with
 |zero =>
  intro xs L st j uu hj hP hr;have ej:ks.drop j=[]:=List.drop_eq_nil_of_le om;rw[ej];have lk:(ks.map ij).length=ks.length:=Tay ..;have hR:g8 (64*(0+1)) (sZ (ly g n) [] st) [.I (.sl [fp st]),GW true]:=⟨[st],rfl,λm h=>by rw[sZ]at h;injection h,by simp⟩;refine Dg 1099512807231 Tryz.func197 ?_;refine dC 2 (aj3 @lk (eq_true om:((j:Int)=ks.length)=True) @ae) 1 (ai @ku @ae) ?_;have F:=ai ku ae;refine Df ?_;refine fR (ai @ku @ae) ?_;exact Ew
 | succ q ih =>
  intro xs L st j uu hj hP hr;obtain⟨x,xs,rfl⟩:∃x ys,xs=x::ys:=by
   cases xs with
   |nil=>simp at uu
   |cons x ys=>exact⟨x,ys,rfl⟩
  have uu:xs.length=q:=by simpa using uu
  obtain⟨k,hk⟩:∃k,ks[j]?=some k:=⟨_,Taa om⟩;have hkR:=uo k (Tac hk);have ej:ks.drop j=k::ks.drop (j+1):=by
   obtain⟨h1,rfl⟩:=Tad.1 hk;exact List.drop_eq_getElem_cons h1
  rw[ej,show sZ (ly g n) (k::ks.drop (j+1)) st=(ly g n st k).bind λl=>bI (ZHc (ly g n) (ks.drop (j+1))) [] l from by rw[sZ];rfl];have jk:=λl(hl:ly g n st k=some l)=>hP.next hg hF hkR hl;have cS:=hS hP hr hkR;have lk:(ks.map ij).length=ks.length:=Tay ..;have gk:(ks.map ij)[j]?=some (ij k):=by rw[Tba,hk];rfl
  have q1:((j:Int)=ks.length)=False:=eq_false om;have lJ:j<ks.length:=om;have wj:=bW (k:=j) om;simp only[ck]at cS ih⊢;obtain⟨B,r,c⟩:=st;simp only at hr;refine Dg 1099512807231 Tryz.func197 ?_;refine fN 3 (aj3 @lk @q1 @ae) ?_;refine rE ?_;refine zR 8 9 ?_;refine zR 9 10 ?_;have F:=ae;refine gNn 10 [0,1,2,3,4,5] [6,7,8,9] ?_;have F:=aj7 gk lk lJ @bw ku @iM ae;refine uk ?_
  have F:=ae;refine Di cS ?_;rintro r' ⟨l,rfl,hl,Ah⟩;have F:=ae;refine tr ?_;refine fR @ae ?_;have hrl1:1<=r.length:=by
   obtain⟨r',rT⟩:=hP.Γ;have:r.length=(jg x::xs.map jg++r').length:=by rw[<- Tbv,<- rT]
   simp at this;omega
  clear cS gk lk;generalize ly g n ⟨B,r,c⟩ k=W at hl jk⊢;generalize hf:ZHc (ly g n) (ks.drop (j+1))=f;have aZ:0<=l.length/\([]:List USt).length<=64*(q+2)/\(W.isSome->W=some l/\bI f [] (l.take 0)=some []/\([]:List USt).length<=64)/\(W.isSome=false->(W.bind λl=>bI f [] l)=none):=⟨Taj _,Taj _,λh=>by
   cases W with
   |none=>cases h
   |some m=>exact⟨by rw[hl m rfl],rfl,Taj _⟩,λh=>by
   cases W with
   |none=>rfl
   |some m=>cases h⟩
  refine fG @ae ?_;have F:=ai (@List.map_nil.{0,0}) @ae;refine gL (ι:=Nat×List USt×Bool) [11,12,13,14,15,16,40] [12] (λx=>[(13,GU x.1),(12,.Υ 12),(11,GX x.2.2)]) (λx=>[(12,.Υ none 106 3 (x.2.1.map fp))]) (λx=>x.1<=l.length/\x.2.1.length<=64*(q+2)/\(x.2.2->W=some l/\bI f [] (l.take x.1)=some x.2.1/\x.2.1.length<=64)/\(x.2.2=false->(W.bind λl=>bI f [] l)=none)) (λx=>l.length-x.1) ((0,[],W.isSome)) (aZ) (λx hx=>?_)
  obtain⟨i,out,ok⟩:=x;obtain⟨hi,pX,hy,hn⟩:=hx;simp only at hi pX hy hn;dsimp only;have bO:=uI out;have bB:=wd out;have ll:=uI l;have lB:=wd l;have fq:(ok->i=l.length)->g8 (64*(q+1+1)) (W.bind λl=>bI f [] l) [.I (.sl (out.map fp)),GW ok]:=λhe=>by
   cases ok with
   |false=>exact⟨out,by rw[hn rfl];rfl,λm h=>(by rw[hn rfl]at h;cases h),pX⟩
   |true =>
    obtain⟨h1,h2,_⟩:=hy rfl;have:=he rfl;subst this;rw[Tap]at h2;exact⟨out,by rw[h1,Option.bind_some,h2];rfl,λm h=>(by rw[h1,Option.bind_some,h2]at h;injection h),pX⟩
  by_cases am:i<l.length;rotate_left
  ·have hR:=fq λ_=>om;refine fG (aj3 (lF i l.length) @ll @ae) ?_;exact Ew
  have q2:=lT i l.length
  cases ok with
  |false =>
   have hR:=fq λh=>by cases h
   refine fG (aj3 @q2 @ll @ae) ?_;exact Ew
  |true =>
  clear fq hn;obtain⟨hW,mv,ho64⟩:=hy rfl;obtain⟨s,hs⟩:∃s,l[i]?=some s:=⟨_,Taa am⟩;obtain⟨At,L',AX,hxs',hP'⟩:=jk l hW s (Tac hs);simp only at At;have cI:=ih (j:=j+1) om om hP' (by rw[List.length_tail];omega:s.Γ.tail.length+10*n<=60000);have gi:(l.map fp)[i]?=some [.sl (aK s.b),.sl (aK s.Γ),GS s.Δ]:=by rw[Tba,hs];rfl
  have bs:=fE s.Γ;have yM:((1:Int)<=s.Γ.length)=True:=eq_true om;have ev:=ZhG s.Γ;have cw:((s.Γ.length:Int)<=s.Γ.length)=True:=eq_true (Int.le_refl _);have b8:=λl=>eI l;have fV:=bW (k:=i) om;have da:=zi (f:=f) (b:=[]) hs;rw[mv,Option.bind_some]at da;have jM:f out s=(sZ (ly g n) (ks.drop (j+1)) ⟨s.b,s.Γ.tail,s.Δ⟩).bind λmore=>fQ (out++more):=by rw[<- hf];rfl
  simp only[fp]at cI;refine eQ 8 (aj3 @q2 @ll @ae) (aj6 @gi @ll @lB @am @bw @ae) ?_;refine eQ 9 @ae (aj6 @bs @b8 @yM @cw @ev @ae) ?_;refine kQ 10 @ae ?_;have F:=ai @wj @ae;refine xg (cI) ?_;rintro r' ⟨more,rfl,hm,DO⟩;have bM:=uI more;have hol2:(out++more).length<=64*(q+2):=by rw[Tae];omega
  have nV:f out s=none->(W.bind λl=>bI f [] l)=none:=λh=>by
   rw[h]at da;rw[hW,Option.bind_some];exact yp da
  refine fR (aj3 @yD @aD.eq_1 @ae) ?_;refine eQ 11 @ae (aj6 @bO @bB @bM (wd more) (by unfold al;omega:out.length+more.length<=al) @ae) ?_
  cases hp:sZ (ly g n) (ks.drop (j+1)) ⟨s.b,s.Γ.tail,s.Δ⟩with
  |none =>
   rw[hp]at jM;have sI:=nV jM;have z0:(none:Option (List USt)).isSome=false:=rfl;have F:=aj4 @z0 @fV (@Tbw.{0,0}) @ae;exact m174
  |some m =>
  obtain rfl:=hm m hp;rw[hp,Option.bind_some]at jM;have z1:(some more).isSome:=rfl;by_cases rF:(out++more).length<=64
  ·have e:=ZlZ rF;rw[e]at jM;rw[jM]at da;have F:=aj8 @z1 (eq_true (by rw[Tae]at rF;omega):(((out.length+more.length:Nat):Int)<=64)=True) @fV @bO @bM (@Tbw.{0,0}) (@Tae.{0}) @ae;refine gG ?_;exact⟨(i+1,out++more,true),⟨am,hol2,λ_=>⟨hW,da,rF⟩,λh=>(by cases h)⟩,gw,gw,om⟩
  ·have e:fQ (out++more)=none:=if_neg rF;rw[e]at jM;have sI:=nV jM;have F:=aj8 @z1 (eq_false (by rw[Tae]at rF;omega):(((out.length+more.length:Nat):Int)<=64)=False) @fV @bO @bM (@Tbw.{0,0}) (@Tae.{0}) @ae;exact m174
end
def AD(h:G3:=by
 exact(have F:=ae;pc (R:=g8 _ _) [6] hRn)):G3:=h
section
variable{g:Sgn}
def PPre.opened(hg:SgnOk g){n:Nat}{L:AI}{st:USt}{x:Tm}{xs:AI}(h:PPre g (n+1) L st (x::xs)):PPre g n L (v6 st x) x.Y:=by
 obtain⟨⟨r,hr⟩,hx,hL,hU,hb⟩:=h;obtain⟨h1,h2,h3⟩:=hx x Tas;refine⟨⟨st.Γ,rfl⟩,λy hy=>⟨by have:=iB x;have:=kv hy;omega,h2.arg hy,h3.arg hy⟩,hL,⟨hU.b,λe he=>?_⟩,hb⟩;rcases Tbi.1 he with he|he
 ·obtain⟨y,hy,rfl⟩:=Tbj.1 he;exact⟨h2.arg hy,h2.arg hy⟩
 ·exact hU.Γ e he
def Zy5{e:Env}{f:FuncId}{args r:AS}(h:aI e f args r):fX e f args (λy=>y=r):=⟨h.1,λw S vs hS hE hG d8=>(h.2 w S vs hS hE hG d8).mono λen w'⟨v,h1,h2⟩=>⟨v,r,h1,rfl,h2⟩⟩
def ZDr{e:Env}{f:FuncId}{a b c:D}{rows:sh}{R:AS->Prop}(h:fX e f [a,b,.I (.sl rows),c] R):fX e f [a,b,.Ζ rows,c] R :=
 ⟨h.1,λw S vs hS hE hG hv=>h.2 w S vs hS hE hG (by
  match vs,hv with
  |[x,y,z,u],hv=>exact⟨hv.1,hv.2.1,hv.2.2.1.1,hv.2.2.2⟩)⟩
def Zuf{N:Nat}:g8 N none [.I (.sl []),GW false]:=⟨[],rfl,λm hm=>(by cases hm),Taj _⟩
def CF{N:Nat}{l:List USt}(h:l.length<=N):g8 N (some l) [.I (.sl (l.map fp)),GW true]:=⟨l,rfl,λm hm=>(by injection hm),h⟩
noncomputable def AV(g:Sgn)(st:USt)(t:Tm)(i:Nat):Option USt:=cJ g ⟨st.b,st.Γ,st.Δ+1⟩ t (wV (st.Δ+1) i)
def ZJo(cZ:kL g)(hg:SgnOk g)(hF:jb g):∀n:Nat,ZHb g n:=by
 intro n
 induction n with
 |zero=>exactλ{st x xs L k}hP=>absurd (hP.xs x Tas).1 om
 |succ n IH =>
 intro st x xs L k hP hr hk;have hO:=hP.opened hg;obtain⟨bP,hT,hLv⟩:=hP.xs x Tas;have hN:=hg.V.n8;obtain⟨kn,rfl⟩:∃kn:Nat,k=kn:=⟨k.toNat,by have:=hk.1;omega⟩;have jF:=hk.2;have eS:ly g (n+1) st kn=if bG (av g x) kn=true then some [st]else if x.op=-1 then ba (AV g st x) (cj (dY g x.sort kn))else(g.ops[x.op.toNat]?).bind λo=>bI (zC g (ly g n) o x st kn) [] o.Z:=by
  obtain⟨B,R,c⟩:=st;obtain⟨r,hr⟩:=hP.Γ;simp only at hr;subst hr
  show(if bG (av g x) kn=true then _ else if x.op=-1 then _ else match g.ops[x.op.toNat]? with
   |none=>none
   |some o=>bI (zC g (ly g n) o x ⟨B,(x::xs).map jg++r,c⟩ kn) [] o.Z)=_
  cases g.ops[x.op.toNat]?<;>rfl
 rw[eS];clear eS;have wh:st.Γ[0]?=some ⟨x,x⟩:=by
  obtain⟨r,hr⟩:=hP.Γ;rw[hr];rfl
 have uU:0<st.Γ.length:=by
  obtain⟨r,hr⟩:=hP.Γ;rw[hr];simp
 have cS:=ZtR hg hF _ (Tan _) hT.Η;have cH:=uE (a:=av g x) (k:=kn) (iU (Zgn hg hT.Η.node) hN) om;have cU:=CD hN hg.V.m16 (SortsOk.subsIn hg.V.Ψ);have nK:(nR (up g.V)).length=g.V.O.length:=by rw[gH,(rA (SortsOk.subsIn hg.V.Ψ)).1]
 have rr:=iS (l:=up g.V);have bl:=fE st.Γ;have bg:=rv st.Γ;have b8:=λl=>eI l;have hU:=hP.tm;have hbb:=hP.bb;have Gm:=hP.liv.bg;have cP:=λ(q:Nat)(ks:List Int)(h1:∀k∈ks,pw g k)(h2:ks.length<=100)(h3:x.Y.length=ks.length)(h4:(v6 st x).Γ.length+10*n<=60000)=>Zy4 cZ hg hF (n:=n) IH h1 h2 ks.length (j:=0) h3 om hO h4;have cO:=ZvB (st:=st) (t:=x);clear IH;obtain⟨B,R,c⟩:=st
 simp only at wh uU bl bg hbb Gm hr;simp only[ck,fp]at cS cP cO⊢;simp only[gt]at cU;refine Dg 11596387843523484519055843575141120260119199711 Tryz.func158 ?_;refine eQ 1 @ae (aj7 @bl @bg @b8 @wh @uU @dz @ae) ?_;refine cg 2 @ae @ae (cS) ?_;refine oZ @ae (cH) @ae ?_
 cases h1:bG (av g x) kn with
 |true =>
  rw[if_pos rfl];have hR:=CF (N:=64) (l:=[⟨B,R,c⟩]) (by simp);refine dC 3 @ae 1 (ai @ku @ae) ?_;have F:=ai ku ae;refine Df ?_;refine fR (ai @ku @ae) ?_;exact(have F:=ae;pc (R:=g8 _ _) [6] hR)
 |false =>
 rw[if_neg (by simp)];clear cS cH h1;by_cases bE:x.op=-1
 ·rw[if_pos bE];have q1:(x.op=-1)=True:=eq_true bE;have hV:=hT.varOk bE;obtain⟨kx,jG⟩:∃kx:Nat,x.sort=kx:=⟨x.sort.toNat,by have:=hV.2.2.1;omega⟩;have cC:=Zpe cZ hg.V ⟨hV.2.2.1,hV.2.2.2.1⟩ hk;have iH:dY g x.sort kn<65536:=by
   have h1:=sx (fj g (fy g x.sort&&&fy g kn)) g.V.O.length;exact m179
  have cL:=ZqN iH;have Aj:=λi(hi:i∈cj (dY g x.sort kn))=>(Cx hg hi).1;simp only[gt]at cC;clear cP cO cU;generalize dY g x.sort kn=D at cC cL Aj⊢;have hL16:(cj D).length<=16:=A6 D 16;have lL:=gH (l:=cj D);have rL:=iS (l:=cj D);refine cg 6 (ai @q1 @ae) @ae (cC) ?_;refine fC @ae (cL) ?_;refine ec @ae @ae ?_;have F:=ai (@List.map_nil.{0,0}) @ae;refine gL (ι:=Nat×List USt) [6,7,9,11,12,13,14,15,49,67] [9] (λz=>[(11,GU z.1),(9,.Υ 9)]) (λz=>[(9,.Υ none 106 3 (z.2.map fp))]) (λz=>z.1<=(cj D).length/\z.2.length=z.1/\ba (AV g ⟨B,R,c⟩ x) ((cj D).take z.1)=some z.2) (λz=>(cj D).length-z.1) ((0,[])) (⟨Taj _,rfl,rfl⟩) (λz hz=>?_)
  obtain⟨i,M⟩:=z;obtain⟨hi,hLl,hm⟩:=hz;simp only at hi hLl hm;dsimp only;have bL:=uI M;have bB:=wd M;by_cases am:i<(cj D).length;rotate_left
  ·obtain rfl:i=(cj D).length:=by omega
   have q2:=lF ((cj D).length) ((cj D).length);rw[Tap]at hm;rw[hm];refine fG (aj3 @q2 @lL @ae) ?_;exact(have F:=ae;pc (R:=g8 _ _) [6] (CF (N:=64) (l:=M) om))
  have q2:=lT i ((cj D).length);obtain⟨k,fv⟩:∃k,(cj D)[i]?=some k:=⟨_,Taa am⟩;have xw:=Aj k (Tac fv);have gk:=gN fv;have fV:=bW (k:=i) om;have da:=Zi4 (f:=AV g ⟨B,R,c⟩ x) fv;rw[hm,Option.bind_some]at da;have nO:c+1<100:=om;have hW:=Zsl (g:=g) (n:=c+1) (i:=k) nO xw;have eF:AV g ⟨B,R,c⟩ x k=cJ g ⟨B,R,c+1⟩ x (wV (c+1) k):=rfl;have yN:UTm g ⟨B,R,c+1⟩:=⟨hU.b,hU.Γ⟩;have c1:=E9 cZ hg hF yN (show B.length<=200 by omega) (show R.length<=60000 by omega) hV hW.term
  simp only[ck,fp]at c1;have z0:(none:Option USt).isSome=false:=rfl;have z1:∀u:USt,(some u).isSome:=λ_=>rfl;refine fN 11 (aj3 @q2 @lL @ae) ?_;refine pV 12 λb12 hb12=>?_;clear hb12;refine gB ?_;have F:=aj7 @fv @gk @lL @rL @am @bw @ae;refine cQ [12] [12] (Znh b12 (.sl (aK B)) (.sl (aK R)) nO k) ?_;rintro r' pm ⟨rfl,rfl⟩;refine m7 ?_;refine fR @ae ?_
  refine kQ 12 @ae ?_;have F:=@ae;refine xg (c1) ?_;rintro r' ⟨s1,rfl,h1,-⟩;refine fR (aj4 @yD @aD.eq_1 @ku @ae) ?_
  cases mV:cJ g ⟨B,R,c+1⟩ x (wV (c+1) k)with
  |none =>
   rw[eF,mV]at da;rw[Zhg da];refine fG (ai @z0 @ae) ?_;exact(have F:=ae;pc (R:=g8 _ _) [6] (Zuf (N:=64)))
  |some u1 =>
  obtain rfl:=h1 u1 mV;rw[eF,mV,Option.map_some]at da;have F:=aj8 @z1 @ku @bL @bB (by unfold al;omega:M.length+1<=al) (@Tbw.{0,0}) @fV @ae;refine gG ?_;exact⟨(i+1,M++[s1]),⟨am,by simp[hLl],da⟩,gw,gw,om⟩
 rw[if_neg bE];have q1:(x.op=-1)=False:=eq_false bE;obtain⟨o,d0,hA⟩:=hT.Η.node.app bE;rw[hA.at',Option.bind_some];have h0:=hA.lo;have ho:=hA.at';have nz:=Tac ho;have rI:o.Θ=false:=(hF o nz).1;have h3:x.Y.length<=3:=by rw[hA.nas rI];exact(hg.Z o nz).ar d0 hA.fst
 have jX:o.Z.length<=4:=(hg.Z o nz).len4;have h2:=Opr.deg2 hg ho;have hrO:(v6 ⟨B,R,c⟩ x).Γ.length+10*n<=60000:=by
  simp only[v6,Tae,Tay];omega
 have cO:=Zy5 (cO om (by show R.length<=_;omega));have rO:=λd hd=>((hg.Z o nz).all d0 hA.fst d hd);have hdL:=hA.dlen hg rI;generalize hf:zC g (ly g n) o x ⟨B,R,c⟩ kn=f;generalize hO':v6 ⟨B,R,c⟩ x=O at *;obtain⟨Ob,Or,Oc⟩:=O;simp only at cP cO hrO;refine kQ 17 (ai @q1 @ae) ?_;refine ec (aj4 @h0 @ho @cz @ae) @ae ?_;have F:=ai (@List.map_nil.{0,0}) @ae;refine gL (ι:=Nat×List USt) [6,7,9,17,18,19,20,21,22,83,100,112,128,147,153] [9] (λz=>[(17,GU z.1),(9,.Υ 9)]) (λz=>[(9,.Υ none 106 3 (z.2.map fp))]) (λz=>z.1<=o.Z.length/\z.2.length<=64/\bI f [] (o.Z.take z.1)=some z.2) (λz=>o.Z.length-z.1) ((0,[])) (⟨Taj _,Taj _,rfl⟩) (λz hz=>?_)
 obtain⟨i,out⟩:=z;obtain⟨hi,rF,mv⟩:=hz;simp only at hi rF mv;dsimp only;have bO:=uI out;have bB:=wd out;by_cases am:i<o.Z.length;rotate_left
 ·obtain rfl:i=o.Z.length:=by omega
  have q2:=lF o.Z.length o.Z.length;rw[Tap]at mv;rw[mv];refine fG (ai @q2 @ae) ?_;exact(have F:=ae;pc (R:=g8 _ _) [6] (CF (N:=64) (l:=out) rF))
 have q2:=lT i o.Z.length;obtain⟨d,wm⟩:∃d,o.Z[i]?=some d:=⟨_,Taa am⟩;have pP:=Tac wm;have ji:=Zhf hg ho pP;have xp:=hdL d pP;have fV:=bW (k:=i) om;have da:=zi (f:=f) (b:=[]) wm;rw[mv,Option.bind_some]at da;have nw:f out d=zC g (ly g n) o x ⟨B,R,c⟩ kn out d:=by rw[hf]
 unfold zC at nw;rw[hO']at nw;obtain⟨dn,ep⟩:∃dn:Nat,d.Β=dn:=⟨d.Β.toNat,by have:=ji.1.1;omega⟩;have hdN:=ji.1.2;have gu:=yr hg.V ji.1.1 hdN;have ua:=gN gu.1;have cH:=uE (a:=dw g d.Β) (k:=kn) (iU gu.2 hN) om;rw[ep]at ua cH hdN nw;have hdN:dn<g.V.O.length:=om;simp only[Tbz]at ua;have cP1:=cP d.Y.length d.Y ji.2 om xp.symm hrO;rw[show((0:Nat):Int)=0 from rfl,List.drop_zero]at cP1
 have nV:f out d=none->bI f [] o.Z=none:=λh=>by
  rw[h]at da;exact yp da
 have hRn:=Zuf (N:=64);refine eQ 21 (ai @q2 @ae) (aj5 @wm @am @jD @bw @ae) ?_;refine cg 22 @ae @ae (cU) ?_;refine oZ (aj7 @ep @ua @rr @nK @hdN @bw @ae) (cH) @ae ?_
 cases hb:bG (dw g dn) kn with
 |false =>
  rw[if_neg (by rw[<- ZxO,Tbz,hb];simp)]at nw;rw[nw]at da;have F:=ai @fV @ae;refine gG ?_;exact⟨(i+1,out),⟨am,rF,da⟩,gw,gw,om⟩
 |true =>
 rw[if_pos (by rw[<- ZxO,Tbz,hb])]at nw;refine fN 23 @ae ?_;refine rE ?_;refine zR 8 9 ?_;refine zR 9 10 ?_;have F:=ae;refine gNn 10 [0,1,2,4,5] [3,6,7,8,9] ?_;have F:=aj3 ku @iM ae;refine uk ?_;have F:=ai ku ae;refine Di cO ?_;rintro r' rfl;have F:=ai ku ae;refine Di cP1 ?_;rintro r' ⟨l,rfl,hl,Ah⟩;have F:=ae;refine tr ?_;refine fR @ae ?_
 have z0:(none:Option (List USt)).isSome=false:=rfl;have z1:∀u:List USt,(some u).isSome:=λ_=>rfl
 cases hp:sZ (ly g n) d.Y ⟨Ob,Or,Oc⟩with
 |none =>
  rw[hp,Option.bind_none]at nw;rw[nV nw];refine fG (ai @z0 @ae) ?_;exact AD
 |some l2 =>
 obtain rfl:=hl l2 hp;rw[hp,Option.bind_some]at nw;have lL:=uI l;have lB:=wd l;have Ah:l.length<=256:=om;have c8:out.length+l.length<=al:=by unfold al;omega
 refine eQ 26 (ai @z1 @ae) (aj6 @bO @bB @lL @lB @c8 @ae) ?_;rw[<- Tbw];obtain⟨o2,nS⟩:∃o2,o2=out++l:=⟨_,rfl⟩;rw[<- nS]at nw⊢;have l2:o2.length<=320:=by rw[nS,Tae];omega
 clear nS lL lB Ah c8 hl bO bB;have bO:=uI o2;have bB:=wd o2;have hyd:o.comm->∃u v,d.Y=[u,v]:=λhc=>by
  have:=h2 (.inr (.inl hc)) d pP;rcases h:d.Y with _|⟨u,_|⟨v,_|⟨w,r⟩⟩⟩<;>rw[h]at this<;>simp at this
  exact⟨u,v,rfl⟩
 refine fN 27 @ae ?_;refine gM (ι:=Bool) [128] [] (λy=>[(128,GX y)]) (λy=>[]) (λy=>y=decide (o.comm/\d.Y[0]?≠d.Y[1]?)) ?_ (λy hy=>Exists.intro _ (ai (Wk.refl _) ?_))
 ·refine gB ?_
  cases iv:o.comm with
  |false =>
   refine fR @ae ?_;exact⟨false,by simp,(have F:=ae;gw),(have F:=ae;gw)⟩
  |true =>
   obtain⟨u,v,BV⟩:=hyd iv;have e0:d.Y[0]?=some u:=by rw[BV];rfl
   have e1:d.Y[1]?=some v:=by rw[BV];rfl
   have el:d.Y.length=2:=by rw[BV];rfl
   by_cases aP:u=v
   ·refine fR (aj6 @e0 @e1 @el (eq_true aP:(u=v)=True) @iM @ae) ?_;exact⟨false,by rw[e0,e1,aP];simp,(have F:=ae;gw),(have F:=ae;gw)⟩
   ·refine fR (aj6 @e0 @e1 @el (eq_false aP:(u=v)=False) @iM @ae) ?_;exact⟨true,by rw[e0,e1];simp[aP],(have F:=ae;gw),(have F:=ae;gw)⟩
 cases y with
 |false =>
  have hyc:=of_decide_eq_false hy.symm;rw[if_neg hyc,Option.bind_some]at nw;refine fN 32 @ae ?_;have xX:=Nat.lt_or_ge 64 o2.length;rcases xX with xX|xX
  ·rw[uB om]at nw;rw[nV nw];refine fG (aj3 (lT 64 o2.length) @bO @ae) ?_;exact AD
  rw[ZlZ xX]at nw;rw[nw]at da;have F:=aj4 (lF 64 o2.length) @bO @fV @ae;refine gG ?_;exact⟨(i+1,o2),⟨am,xX,da⟩,gw,gw,om⟩
 | true =>
  have hyc:=of_decide_eq_true hy.symm;rw[if_pos hyc]at nw;obtain⟨u,v,BV⟩:=hyd hyc.1;have e0:d.Y[0]?=some u:=by rw[BV];rfl
  have e1:d.Y[1]?=some v:=by rw[BV];rfl
  have el:d.Y.length=2:=by rw[BV];rfl
  have FV:=cP d.Y.reverse.length d.Y.reverse (λk hk=>ji.2 k (List.mem_reverse.1 hk)) (by rw[List.length_reverse];omega) (by rw[List.length_reverse];exact xp.symm) hrO;rw[show((0:Nat):Int)=0 from rfl,List.drop_zero,show d.Y.reverse.map ij=[[GS v],[GS u]]from by rw[BV];rfl]at FV
  replace FV:=ZDr FV
  refine fN 28 @ae ?_;refine rE ?_;refine zR 15 16 ?_;refine zR 16 17 ?_;have F:=ae;refine gNn 17 [0,1,2,4,5,6,7,8,9,10,11,12] [3,13,14,15,16] ?_;have F:=aj6 e0 e1 el ku @iM ae;refine uk ?_;have F:=ai ku ae;refine Di cO ?_;rintro r' rfl;have F:=ai ku ae;refine Di FV ?_;rintro r' ⟨m,rfl,hm,DO⟩;have F:=ae;refine tr ?_;refine fR @ae ?_
  cases nA:sZ (ly g n) d.Y.reverse ⟨Ob,Or,Oc⟩with
  |none =>
   rw[nA,Option.map_none,Option.bind_none]at nw;rw[nV nw];refine fG (ai @z0 @ae) ?_;exact AD
  |some m2 =>
  obtain rfl:=hm m2 nA;rw[nA,Option.map_some,Option.bind_some]at nw;have Ah:m.length<=256:=by rw[List.length_reverse]at DO;omega
  refine eQ 31 (ai @z1 @ae) (aj6 @bO @bB (uI m) (wd m) (by unfold al;omega:o2.length+m.length<=al) @ae) ?_;rw[<- Tbw];obtain⟨o3,ho3⟩:∃o3,o3=o2++m:=⟨_,rfl⟩;rw[<- ho3]at nw⊢;have b3:=uI o3;refine fN 32 @ae ?_;have xX:=Nat.lt_or_ge 64 o3.length;rcases xX with xX|xX
  ·rw[uB om]at nw;rw[nV nw];refine fG (aj3 (lT 64 o3.length) @b3 @ae) ?_;exact AD
  rw[ZlZ xX]at nw;rw[nw]at da;have F:=aj4 (lF 64 o3.length) @b3 @fV @ae;refine gG ?_;exact⟨(i+1,o3),⟨am,xX,da⟩,gw,gw,om⟩
end
def EJ(b:G5)(h:Bx G5->G4:=by
 intro B0
 simp only[aD,aQ,aM,uC,Taf,Tah];exact B0.o):G4:=h ⟨b⟩
section
variable{g:Sgn}
noncomputable def eY(g:Sgn)(v t:Tm)(l:GP):GP:=l.map λy=>⟨y.var,nI g v t y.to⟩
noncomputable def iO(g:Sgn)(v t:Tm)(l:GP):Bool:=l.any λy=>oA g v t y.to
noncomputable def jP(g:Sgn)(v t:Tm)(l:GP):GP:=l.map λy=>⟨nI g v t y.var,nI g v t y.to⟩
noncomputable def iV(g:Sgn)(v t:Tm)(l:GP):Bool:=l.any λy=>oA g v t y.var||oA g v t y.to
def ZiA(v t:Tm)(l:GP):(eY g v t l).length=l.length:=Tay ..
def ZnW(v t:Tm)(l:GP):(jP g v t l).length=l.length:=Tay ..
def ZDs{v t y:Tm×Tm->Tm}{v' t':Tm}{l:GP}{i:Nat}{e:Bd}(h:l[i]?=some e):eY g v' t' (l.take (i+1))=eY g v' t' (l.take i)++[⟨e.var,nI g v' t' e.to⟩]:=by
 rw[List.take_add_one,h];simp[eY]
def ZDt{v t:Tm}{l:GP}{i:Nat}{e:Bd}(h:l[i]?=some e):iO g v t (l.take (i+1))=(iO g v t (l.take i)||oA g v t e.to):=by
 rw[List.take_add_one,h];simp[iO,List.any_append]
def ZDu{v t:Tm}{l:GP}{i:Nat}{e:Bd}(h:l[i]?=some e):jP g v t (l.take (i+1))=jP g v t (l.take i)++[⟨nI g v t e.var,nI g v t e.to⟩]:=by
 rw[List.take_add_one,h];simp[jP]
def ZDv{v t:Tm}{l:GP}{i:Nat}{e:Bd}(h:l[i]?=some e):iV g v t (l.take (i+1))=(iV g v t (l.take i)||oA g v t e.var||oA g v t e.to):=by
 rw[List.take_add_one,h];simp[iV,List.any_append,Bool.or_assoc]
def Cd(g:Sgn)(bm b:Nat)(aj:AI)(s:Nat)(oc:Value)(l:GP)(f:Bool)(r:AS)(pm:GQ):Prop:=∃a cap,r=[.I (.A (.slice a l.length cap))]/\pm=[.var (some b) (uC g bm aj s oc f),.Υ (some (a,cap)) 110 8 (aK l)]
def Zug(hg:SgnOk g)(hF:∀o∈g.ops,o.Θ=false/\o.Ω=0)(bm b:Nat)(aj:AI)(s:Nat)(oc:Value)(ho:bQ (.A oc))(f:Bool){l:GP}{v t:Tm}(hl:∀y∈l,TermOk g y.to)(pT:l.length<=60000)(hv:dp g v)(ht:TermOk g t):aT (eM g bm) 175 [.I (.A (.pointer (some ⟨b,0,none⟩))),.I (.sl (aK l)),.agg (ax v),.agg (ax t)] [.var (some b) (uC g bm aj s oc f)] (Cd g bm b aj s oc (eY g v t l) (f||iO g v t l)):=by
 have xt:=v8 (g:=g) (b:=bm);have cR:=λf{x:Tm}(hx:TermOk g x)=>ZkW hg hF bm b aj s oc ho f hx hv ht;have bl:=fE l;have gl:=rv l;have b8:=λl=>eI l;have z0:aK (eY g v t [])=[]:=rfl;have z1:(f||iO g v t [])=f:=by simp[iO]
 unfold uC at *;refine dX (ts:=[.slot 8]) [1000] 125903 Tryz.func175 ?_;refine fG (ai @bl @ao) ?_;have F:=aj4 @z0 @z1 @ho @ao;refine gL (ι:=Nat) [9,11,15,16] [9,1000] (λi=>[(15,GU i),(9,.Υ 9)]) (λi=>[(9,.Υ none 110 8 (aK (eY g v t (l.take i)))),(1000,.var (some b) [.ptr (bx g (.A (.map (some bm)))),.sl (az aj),GS s,.A oc,GV ((f||iO g v t (l.take i)))])]) (λi=>i<=l.length) (λi=>l.length-i) (0) (Taj _) (λi hi=>?_)
 have zO:=fE (eY g v t (l.take i));rw[ZiA,Taw,Nat.min_eq_left hi]at zO;by_cases am:i<l.length;rotate_left
 ·obtain rfl:i=l.length:=by omega
  have q1:=lF l.length l.length;rw[Tap]at zO⊢;refine fG (ai @q1 @ao) ?_;refine pS 8 λa cap=>?_;have hR:Cd g bm b aj s oc (eY g v t l) (f||iO g v t l) [.I (.A (.slice a (aK (eY g v t l)).length cap))] [.var (some b) [.ptr (bx g (.A (.map (some bm)))),.sl (az aj),GS s,.A oc,GV ((f||iO g v t l))],.Υ (some (a,cap)) 110 8 (aK (eY g v t l))]:=⟨a,cap,by rw[fE],rfl⟩
  exact(have F:=ao;ee (R:=Cd _ _ _ _ _ _ _ _) [1000,8] hR)
 have q1:=lT i l.length;obtain⟨e,he⟩:∃e,l[i]?=some e:=⟨_,Taa am⟩;have wi:=bW (k:=i) om;have c1:=cR (f||iO g v t (l.take i)) (hl e (Tac he));rw[Bool.or_assoc,<- ZDt he]at c1;have h8:=sC e.var (nI g v t e.to);have eb:aK (eY g v t (l.take i))++[dQ ⟨e.var,nI g v t e.to⟩]=aK (eY g v t (l.take (i+1))):=by rw[ZDs (v:=λ_=>v) (t:=λ_=>v) (y:=λ_=>v) he,sq];rfl
 have c8:i+1<=al:=by unfold al;omega
 refine fN 5 (aj9 @q1 @bl @gl @b8 @he @am @dz @bw @ao) ?_;refine rE ?_;have F:=ao;refine xh 11 [1000] [0,1,2,3,4,5,6,7] [8,9,10] ?_;have F:=ai dz ao;refine uk ?_;have F:=ai dz ao;refine tq [1000] [1000] c1 ?_;rintro _ _ ⟨rfl,rfl⟩;refine EJ ?_;have F:=aj3 h8 dz ao;refine tr ?_;refine fR (aj6 @zO @b8 @eb @c8 @dz @ao) ?_;have F:=ai @wi @ao;exact yV
def lz(st:USt):we:=[.sl (aK st.Γ),.sl (aK st.b),GS st.Δ]
noncomputable def dL(g:Sgn)(st:USt)(v t:Tm):USt:=⟨eY g v t st.b++[⟨v,t⟩],jP g v t st.Γ,st.Δ⟩
noncomputable def j7(g:Sgn)(st:USt)(v t:Tm):Bool:=iV g v t st.Γ||iO g v t st.b
def Zrq(hg:SgnOk g)(hF:∀o∈g.ops,o.Θ=false/\o.Ω=0)(bm b:Nat)(aj:AI)(s:Nat)(oc:Value)(ho:bQ (.A oc))(f:Bool){st:USt}{v t:Tm}(hU:UTm g st)(qT:st.b.length<=50000)(c9:st.Γ.length<=60000)(hv:dp g v)(ht:TermOk g t):aT (eM g bm) 119 [.I (.A (.pointer (some ⟨b,0,none⟩))),.agg (lz st),.agg (ax v),.agg (ax t)] [.var (some b) (uC g bm aj s oc f)] (sQ g bm b aj s oc [.agg (lz (dL g st v t))] (f||j7 g st v t)):=by
 have xt:=v8 (g:=g) (b:=bm);have cR:=λf{x:Tm}(hx:TermOk g x)=>ZkW hg hF bm b aj s oc ho f hx hv ht;obtain⟨B,r,n⟩:=st;obtain⟨hUb,hUr⟩:=hU;simp only at hUb hUr qT c9;have cI:=λf=>Zug hg hF bm b aj s oc ho f (l:=B) (λy hy=>(hUb y hy).2) om hv ht;have bl:=fE r;have gl:=rv r;have b8:=λl=>eI l;have z0:aK (jP g v t [])=[]:=rfl;have z1:(f||iV g v t [])=f:=by simp[iV]
 have zl:(aK (jP g v t [])).length=0:=rfl;unfold uC at *;simp only[lz];refine dX (ts:=[.cell 8 79]) [1000] 986095 Tryz.func119 ?_;refine dC 1 @ao 2 @ao ?_;refine(have F:=ao;gXm ?_);refine fR @ao ?_;refine pN 1001 76 8 ?_;refine fG (ai @bl @ao) ?_;have F:=aj4 @z0 @z1 @ho @ao;refine gL (ι:=Nat×BY×Nat) [11,18,19] [9,1000,1001] (λx=>[(18,GU x.1)]) (λx=>[(9,.var none [.A (.slice x.2.1 x.1 x.2.2),.A (.slice none 0 0),GS n]),(1001,.Υ (some (x.2.1,x.2.2)) 76 8 (aK (jP g v t (r.take x.1)))),(1000,.var (some b) [.ptr (bx g (.A (.map (some bm)))),.sl (az aj),GS s,.A oc,GV ((f||iV g v t (r.take x.1)))])]) (λx=>x.1<=r.length) (λx=>r.length-x.1) ((0,none,0)) (Taj _) (λx hx=>?_)
 obtain⟨i,a,cap⟩:=x;simp only at hx;have hi:=hx;dsimp only;have zO:=fE (jP g v t (r.take i));rw[ZnW,Taw,Nat.min_eq_left hi]at zO;by_cases am:i<r.length
 ·have q1:=lT i r.length;obtain⟨e,he⟩:∃e,r[i]?=some e:=⟨_,Taa am⟩;have heT:=hUr e (Tac he);have wi:=bW (k:=i) om;have c1:=cR (f||iV g v t (r.take i)) heT.1;have c2:=cR (f||iV g v t (r.take i)||oA g v t e.var) heT.2;rw[show(f||iV g v t (r.take i)||oA g v t e.var||oA g v t e.to)=(f||iV g v t (r.take (i+1))) by rw[ZDv he];simp only[Bool.or_assoc]]at c2;have h8:=sC (nI g v t e.var) (nI g v t e.to)
  have eb:aK (jP g v t (r.take i))++[dQ ⟨nI g v t e.var,nI g v t e.to⟩]=aK (jP g v t (r.take (i+1))):=by rw[ZDu he,sq];rfl
  have c8:i+1<=al:=by unfold al;omega
  refine fN 5 (aj9 @q1 @bl @gl @b8 @he @am @dz @bw @ao) ?_;refine rE ?_;have F:=ao;refine xh 16 [1000] [0,1,2,3,4,5,6,8,9,10,11,12] [7,13,14,15] ?_;have F:=ai dz ao;refine uk ?_;have F:=ai dz ao;refine tq [1000] [1000] c1 ?_;rintro _ _ ⟨rfl,rfl⟩;refine EJ ?_;have F:=ai dz ao;refine tq [1000] [1000] c2 ?_;rintro _ _ ⟨rfl,rfl⟩;refine EJ ?_
  have F:=aj3 h8 dz ao;refine tr ?_;have F:=aj6 @zO @b8 @eb @c8 @dz @ao;refine gP 1 ?_;refine gS 38 λa2 du=>?_;have bm2:(aK (jP g v t (r.take (i+1)))).length=i+1:=by rw[fE,ZnW,Taw];omega
  refine fR (aj4 @zO @bm2 @dz @ao) ?_;refine pE [38] [1001] (CL _) ?_;have F:=aj3 @wi @bm2 @ao;refine gG ?_;exact⟨(i+1,a2,du),am,gw,gw,om⟩
 obtain rfl:i=r.length:=by omega
 have q1:=lF r.length r.length;rw[Tap]at zO⊢;have cI:=cI (f||iV g v t r);rw[Bool.or_assoc]at cI;have h8:=sC v t;have bz:=fE (eY g v t B);have eb:aK (eY g v t B)++[dQ ⟨v,t⟩]=aK (eY g v t B++[⟨v,t⟩]):=by rw[sq];rfl
 have c8:(eY g v t B).length+1<=al:=by rw[ZiA];unfold al;omega
 refine fN 7 (ai @q1 @ao) ?_;refine vA 1001 9 0 ?_ (hc:=by rw[zO];rfl);simp only[List.set_cons_zero];refine rE ?_;have F:=ao;refine xh 10 [1000,1001] [0,1,2,3,4,6,7,8,9] [5] ?_;have F:=aj3 h8 dz ao;refine uk ?_;have F:=ai dz ao;refine tq [1000] [1000,1001] cI ?_;rintro _ _ ⟨a2,du,rfl,rfl⟩;refine EJ ?_;have F:=aj3 h8 dz ao;refine tr ?_
 have F:=aj6 @bz @b8 @eb @c8 @dz @ao;refine gP 1 ?_;refine gS 51 λa3 fZ=>?_;refine fR (aj3 @bz @dz @ao) ?_;refine vA 51 9 1 ?_ (hc:=by rw[<- eb,Tae,bz];rfl);simp only[List.set_cons_succ,List.set_cons_zero];have hR:sQ g bm b aj s oc [.agg (lz (dL g ⟨B,r,n⟩ v t))] (f||j7 g ⟨B,r,n⟩ v t) [.agg [.sl (aK (jP g v t r)),.sl (aK (eY g v t B++[⟨v,t⟩])),GS n]] [.var (some b) [.ptr (bx g (.A (.map (some bm)))),.sl (az aj),GS s,.A oc,GV ((f||(iV g v t r||iO g v t B)))]]:=⟨rfl,rfl⟩
 refine fG @ao ?_;exact GD
end
def m218(h:G3:=by
 rw[Tba,(List.getElem?_zip_eq_some (z:=(a,b))).2 ⟨h,h'⟩];rfl):G3:=h
def m204(h:G3:=by
 exact(have F:=ae;pc (R:=g8 _ _) [4] (CF (N:=64) (l:=[]) (Taj _)))):G3:=h
def m177(h:G3:=by
 have h1:=hA.fst;have h2:=hA'.fst;rw[h1]at h2;injection h2 with h2;rw[hA.nas rI,hA'.nas rI,h2]):G3:=h
def m88(h:G3:=by
 have F:=ai ku ae;refine Df ?_;refine fR (ai @ku @ae) ?_;exact(have F:=ae;pc (R:=g8 _ _) [4] hR)):G3:=h
section
variable{g:Sgn}
def ZxQ{L:AI}{B r:GP}{c:Nat}(hI:UInv g L ⟨B,r,c⟩){t:Tm}(ht:TermOk g t)(hL:Live L t):PPre g (ah t+1) L ⟨B,⟨t,t⟩::r,c⟩ [t] :=
 ⟨⟨r,rfl⟩,λz hz=>by obtain rfl:=Tbk.1 hz;exact⟨Tan _,ht,hL⟩,hI.liv,⟨hI.tm.b,λe he=>by
  rcases Tbh.1 he with rfl|he
  ·exact⟨ht,ht⟩
  ·exact hI.tm.Γ e he⟩,by have:=hI.bg;simp only at this⊢;omega⟩
def Znk(hg:SgnOk g)(hF:jb g){L:AI}{B r:GP}{c:Nat}(hI:UInv g L ⟨B,r,c⟩){t:Tm}{k:Int}(hk:pw g k)(ht:TermOk g t)(hL:Live L t){l:List USt}(h:ly g (ah t+1) ⟨B,⟨t,t⟩::r,c⟩ k=some l):∀s∈l,∃e r',s.Γ=e::r'/\TermOk g e.var/\UTm g ⟨s.b,r',s.Δ⟩/\s.b.length<=130/\r'.length=r.length:=by
 have hP:=ZxQ hI ht hL;intro s hs;obtain⟨h1,L',AX,aW,hP'⟩:=hP.next hg hF hk h s hs;have hUs:UTm g s:=by
  have h2:=Zkw hg hF (ah t+1) t k c L B r (Tan _) ht hL hI.liv hk hP.tm;rw[show(⟨B,jg t::r,c⟩:USt)=⟨B,⟨t,t⟩::r,c⟩from rfl,h]at h2;obtain⟨w,hw,hl⟩:=Tav.1 h2.symm;subst hl;obtain⟨ms,oE,rfl⟩:=Tbj.1 hs;exact ZjG hg ((yv hg _ t k c L w (Tan _) ht hL hI.liv hk hw ms oE).ren) hP.tm
 cases hr:s.Γ with
 |nil=>rw[hr]at h1;simp at h1
 |cons e r' =>
  rw[hr]at h1 hP';have hb:=hP'.bb;simp only[Tag]at h1;simp only at hb;exact⟨e,r',rfl,(hUs.Γ e (by rw[hr];exact Tas)).1,hP'.tm,om,om⟩
noncomputable def wX(g:Sgn)(v:Tm)(s:USt):Option USt:=match s.Γ with
 |[]=>none
 |e::r=>cJ g ⟨s.b,r,s.Δ⟩ v e.var
def sr(hg:SgnOk g){t:Tm}(ht:TermOk g t):bc t:=e6.ok hg _ _ (Tan _) ht.Η
def ZDw{B r:GP}{c:Nat}{p q:Tm}:pu g ⟨B,r,c⟩ p q=if bR p q=true\/dS g p≠dS g q then some []else(ly g (ah q+1) ⟨B,⟨q,q⟩::r,c⟩ p.sort).bind (ba (wX g p)):=rfl
noncomputable def zH(g:Sgn)(B:GP)(c:Nat)(r:GP)(p q:Tm):Option (List USt) :=
 if p.op=-1 then pu g ⟨B,r,c⟩ p q
 else if p.op≠q.op then some []
 else some (⟨B,(p.Y.zip q.Y).map (λe=>⟨e.1,e.2⟩)++r,c⟩::match g.ops[p.op.toNat]? with
  |none=>[]
  |some o=>if o.comm=true then[⟨B,(p.Y.zip q.Y.reverse).map (λe=>⟨e.1,e.2⟩)++r,c⟩]else[])
def jB(xs ys:AI):GP:=(xs.zip ys).map λe=>⟨e.1,e.2⟩
def ng(xs ys:AI)(i:Nat):sh:=aK ((jB xs ys).take i)
def ZDx(xs ys:AI):ng xs ys 0=[]:=rfl
def ZkC{xs ys:AI}(h:ys.length=xs.length):(jB xs ys).length=xs.length:=by
 unfold jB;rw[Tay,List.length_zip,h,Nat.min_self]
def ZDy{xs ys:AI}{i:Nat}{a b:Tm}(h:xs[i]?=some a)(h':ys[i]?=some b):ng xs ys i++[dQ ⟨a,b⟩]=ng xs ys (i+1):=by
 have e:(jB xs ys)[i]?=some ⟨a,b⟩:=by
  unfold jB;exact m218
 unfold ng;rw[List.take_add_one,e,sq];rfl
def Zuh{xs ys:AI}{i:Nat}(h:ys.length=xs.length)(hi:i<=xs.length):(ng xs ys i).length=i:=by
 unfold ng;rw[fE,Taw,ZkC h,Nat.min_eq_left hi]
def Zui{xs ys:AI}(h:ys.length=xs.length):ng xs ys xs.length=aK (jB xs ys):=by
 unfold ng;rw[<- ZkC h,Tap]
def ZFk{B r:GP}{c:Nat}{p q:Tm}{o:Opr}(h1:¬p.op=-1)(h2:p.op=q.op)(ho:g.ops[p.op.toNat]?=some o):zH g B c r p q=some (⟨B,jB p.Y q.Y++r,c⟩::if o.comm=true then[⟨B,jB p.Y q.Y.reverse++r,c⟩]else[]):=by
 unfold zH;rw[if_neg h1,if_neg (by simpa using h2)];simp only[ho];rfl
def ZDz (cZ:kL g) (hg:SgnOk g) (hF:jb g) {L:AI} {B r:GP} {c:Nat} (hI:UInv g L ⟨B,r,c⟩) {x y:Tm} (hx:TermOk g x/\Live L x) (hy:TermOk g y/\Live L y) (c9:r.length<=40000):fX e0 102 [.agg (ck g),.agg (fp ⟨B,⟨x,y⟩::r,c⟩)] (g8 64 (uf g B c x y r)):=by
 obtain⟨hx,mA⟩:=hx;obtain⟨hy,pq⟩:=hy;have hBg:=hI.bg;have nO:=hI.fr;simp only at hBg nO;have cS:=Fh (sr hg hx) (sr hg hy);have cV:=λ(hvx:dp g x)(Gv:dp g y)=>Zue cZ hg hF hI.tm (show B.length<=150 by omega) (show r.length<=60000 by omega) (show c+1<100 by omega) hvx Gv;have cO:=λ{p q:Tm}(hp:TermOk g p)(hq:TermOk g q)=>ZvC (sr hg hp) _ (Tan _) (sr hg hq) (by have:=hq.size;omega)
 have cK:=λ{p:Tm}(hp:TermOk g p)=>Zj9 cZ hg hp.Η.node;obtain⟨R,hR⟩:∃R:GP,R=⟨x,y⟩::r:=⟨_,rfl⟩;have wh:R[0]?=some ⟨x,y⟩:=by rw[hR];rfl
 have uU:0<R.length:=by rw[hR];simp
 have yM:((1:Int)<=R.length)=True:=eq_true om;have cw:((R.length:Int)<=R.length)=True:=eq_true (Int.le_refl _);have ev:=ZhG R;rw[show R.tail=r by rw[hR];rfl]at ev;have bl:=fE R;have bg:=rv R;have b8:=λl=>eI l;rw[<- hR];simp only[ck]at cV cK⊢;simp only[fp]at cV⊢;refine Dg 3138550867693346000660337311407392553309368784205455032319 Tryz.func102 ?_;refine fN 1 @ae ?_
 /- gk l20n -/
 refine gGk [(5,GX false),(4,.Υ 4),(3,.ref 3 0),(2,.ref 2 0)] [(3,.var none [.sl (aK B),.sl (aK R),GS c]),(4,.Υ none 106 3 []),(2,.var none [.sl (g.V.O.map vR),.sl (g.V.Ψ.map wN),.sl (g.ops.map nH)])] [([(22,.ref 3 1)],[]),([(23,GY (.sl (aK R)))],[]),([(24,GY (.ptr (dQ ⟨x,y⟩)))],[]),([(25,GY (.ptr (dQ ⟨x,y⟩)))],[]),([(26,.d (.agg (ax x)))],[]),([(27,.ref 3 1)],[]),([(28,GY (.sl (aK R)))],[]),([(29,GY (.ptr (dQ ⟨x,y⟩)))],[]),([(30,GY (.ptr (ax y)))],[]),([(31,.d (.agg (ax y)))],[]),([(6,.ref 6 0)],[(6,.var none [GS 0,.A (.string ByteArray.empty),GS 0,.sl []])]),([(7,.ref 7 0)],[(7,.var none [GS 0,.A (.string ByteArray.empty),GS 0,.sl []])]),([(6,.ref 6 0)],[(6,.var none (ax x))]),([(7,.ref 7 0)],[(7,.var none (ax y))])] (λj=>([(10,12),(11,13)]:List (Nat×Nat)).lookup j) [] (⟨by simp[gs],by simp[gm]⟩) (λj hj=>by simp at hj) ⟨?_,?_,?_,?_,?_,?_,?_,?_,?_,?_,?_,?_,?_,?_,trivial⟩ ?_
 iterate 14 (focus
  intro s' m' hB hD hI hJ;have F:=wH.1 hB
  try have F:=ai F (fO.1 (tqX (hD 0)))
  try have F:=ai F (fO.1 (tqX (hD 1)))
  try have F:=ai F (fO.1 (tqX (hD 2)))
  try have F:=ai F (fO.1 (tqX (hD 3)))
  try have F:=ai F (fO.1 (tqX (hD 4)))
  try have F:=ai F (fO.1 (tqX (hD 5)))
  try have F:=ai F (fO.1 (tqX (hD 6)))
  try have F:=ai F (fO.1 (tqX (hD 7)))
  try have F:=ai F (fO.1 (tqX (hD 8)))
  try have F:=ai F (fO.1 (tqX (hD 9)))
  try have F:=ai F (fO.1 (tqX (hD 10)))
  try have F:=ai F (fO.1 (tqX (hD 11)))
  simp only[gF,gz,List.getD_cons_zero,List.getD_cons_succ,and_true,true_and]at F;have F:=aj8 F bl bg b8 wh uU dz ae;refine ip ?_
  first|exact kS hB (fO.2 (by simp[gF,gz,gs,gm]))|exact kM hB (fO.2 (by simp[gF,gz,gs,gm,F]))|exact kB hB (fO.2 (by simp[gF,gz,gs,gm])))
 intro s' m' hB hP;refine⟨_,_,(hB.app (hP 12 (.inl (by decide)) (λk h=>by simp[List.lookup]at h))).app (hP 13 (.inl (by decide)) (λk h=>by simp[List.lookup]at h)),?_⟩;simp only[Taf,Tah,List.append_nil,List.getD_cons_zero,List.getD_cons_succ]
 /- gk end l20n -/
 refine⟨_,Wk.refl _,?_⟩;refine eQ 2 @ae (aj6 @bl @b8 @yM @cw @ev @ae) ?_;clear yM cw ev bl bg wh uU hR;refine cq 3 @ae @ae (cS) @ae ?_;unfold uf;by_cases h0:aU x y=0
 ·have q0:decide (aU x y=0):=decide_eq_true h0;rw[if_pos h0];have hR:=CF (N:=64) (l:=[⟨B,r,c⟩]) (by simp);refine dC 4 (ai @q0 @ae) 1 (ai @ku @ae) ?_;exact m88
 have q0:decide (aU x y=0)=false:=decide_eq_false h0;rw[if_neg h0];clear cS;by_cases kR:x.op=-1/\y.op=-1
 ·rw[if_pos kR];refine kQ 6 (aj4 @q0 (eq_true kR.1:(x.op=-1)=True) (eq_true kR.2:(y.op=-1)=True) @ae) ?_;have F:=@ae;refine xg (cV (hx.varOk kR.1) (hy.varOk kR.2)) ?_;rintro r' ⟨l,rfl,hl,Ah⟩;have hR:g8 64 (v7 g ⟨B,r,c⟩ x y) [.I (.sl (l.map fp)),.I (.A (.bool (v7 g ⟨B,r,c⟩ x y).isSome))]:=⟨l,rfl,hl,om⟩;refine fR (aj3 @yD @aD.eq_1 @ae) ?_
  exact(have F:=ae;pc (R:=g8 _ _) [] hR)
 rw[if_neg kR];clear cV;generalize hW:(if y.op=-1 then pu g ⟨B,r,c⟩ y x else _)=W;have q4:(x.op=-1)=False\/(x.op=-1)=True/\(y.op=-1)=False:=by
  by_cases h1:x.op=-1
  ·exact .inr ⟨eq_true h1,eq_false λh2=>kR ⟨h1,h2⟩⟩
  ·exact .inl (eq_false h1)
 refine fN 5 (ai @q0 @ae) ?_;refine gM (ι:=Bool) [48] [] (λu=>[(48,GX u)]) (λu=>[]) (λu=>u=false) ?_ (λu hu=>Exists.intro _ (ai (Wk.refl _) ?_))
 ·refine gB ?_;rcases q4 with q1|⟨q1,q2⟩
  ·refine fR (ai @q1 @ae) ?_;exact⟨false,rfl,(have F:=ae;gw),(have F:=ae;gw)⟩
  ·refine fR (aj3 @q1 @q2 @ae) ?_;exact⟨false,rfl,(have F:=ae;gw),(have F:=ae;gw)⟩
 subst hu;clear q4;refine fN 7 @ae ?_;refine gM (ι:=Bool) [58] [] (λv=>[(58,GX v)]) (λv=>[]) (λv=>v=decide (y.op=-1)) ?_ (λv hv=>Exists.intro _ (ai (Wk.refl _) ?_))
 ·refine gB ?_;refine fR @ae ?_;exact⟨decide (y.op=-1),rfl,(have F:=ae;gw),(have F:=ae;gw)⟩
 refine gM (ι:=Tm×Tm) [] [6,7] (λz=>[]) (λz=>[(6,.var none (ax z.1)),(7,.var none (ax z.2))]) (λz=>zH g B c r z.1 z.2=W/\TermOk g z.1/\Live L z.1/\TermOk g z.2/\Live L z.2/\z.2.op≠-1) ?_ (λz hz=>Exists.intro _ (ai (Wk.refl _) ?_))
 ·cases v with
  |true =>
   have h2:=of_decide_eq_true hv.symm;have h1:¬x.op=-1:=λh=>kR ⟨h,h2⟩;have F:=@ae;refine gG ?_;exact⟨(y,x),⟨(by rw[<- hW,if_pos h2];unfold zH;rw[if_pos h2]:zH g B c r y x=W),hy,pq,hx,mA,h1⟩,gw,gw⟩
  |false =>
   have h2:=of_decide_eq_false hv.symm;have F:=@ae;refine gG ?_;exact⟨(x,y),⟨(by rw[<- hW,if_neg h2];rfl:zH g B c r x y=W),hx,mA,hy,pq,h2⟩,gw,gw⟩
 obtain⟨p,q⟩:=z;obtain⟨rfl,hp,hpL,hq,hqL,hq1⟩:=hz;simp only at hp hpL hq hqL hq1;dsimp only;clear hW kR h0 q0;by_cases lP:p.op=-1
 ·have q1:(p.op=-1)=True:=eq_true lP;unfold zH;rw[if_pos lP];have hV:=hp.varOk lP;have hk:pw g p.sort:=⟨hV.2.2.1,hV.2.2.2.1⟩;have hqs:ah q<=60:=hq.size;have cO:=cO hp hq;have cKp:=cK hp;have cKq:=cK hq;have hSt:=λl(h:ly g (ah q+1) ⟨B,⟨q,q⟩::r,c⟩ p.sort=some l)=>Znk hg hF hI hk hq hqL h;have cT:=ZJo cZ hg hF (ah q+1) (ZxQ hI hq hqL) (by simp only[Tag];omega) hk;clear cK;rw[ZDw]
  simp only[ck,fp]at cT;refine fN 10 (ai @q1 @ae) ?_;refine gM (ι:=Bool) [75] [] (λu=>[(75,GX u)]) (λu=>[]) (λu=>u=decide (bR p q\/dS g p≠dS g q)) ?_ (λu hu=>Exists.intro _ (ai (Wk.refl _) ?_))
  ·refine gB ?_;refine fC @ae (cO) ?_
   cases ho:bR p q with
   |true =>
    refine fR @ae ?_;exact⟨true,by simp,(have F:=ae;gw),(have F:=ae;gw)⟩
   |false =>
    refine fC @ae (cKp) ?_;refine fC @ae (cKq) ?_;by_cases eK:dS g p=dS g q
    ·refine fR (ai (eq_true eK:(dS g p=dS g q)=True) @ae) ?_;exact⟨false,by simp[eK],(have F:=ae;gw),(have F:=ae;gw)⟩
    ·refine fR (ai (eq_false eK:(dS g p=dS g q)=False) @ae) ?_;exact⟨true,by simp[eK],(have F:=ae;gw),(have F:=ae;gw)⟩
  cases u with
  |true =>
   rw[if_pos (of_decide_eq_true hu.symm)];refine fG @ae ?_;exact m204
  |false =>
  rw[if_neg (of_decide_eq_false hu.symm)];clear cO cKp cKq hu;have h8:=sC q q;have br:=fE r;have e1:aK r=aK r:=rfl;have c8:1+r.length<=al:=by unfold al;omega
  have eR:[dQ ⟨q,q⟩]++aK r=aK (⟨q,q⟩::r):=rfl;refine dC 13 @ae 3 (aj3 @h8 @dz @ae) ?_;have F:=ai dz ae;refine Df ?_;have F:=aj6 @br @b8 @dz @c8 @eR @ae;refine gP 3 ?_;refine gS 83 λa cap=>?_;refine ec @ae @ae ?_;refine vA 83 8 1 ?_ (hc:=by first|rfl|simp);simp only[List.set_cons_succ,List.set_cons_zero];clear h8 br eR c8 e1
  refine gB ?_;have F:=@ae;refine xg (cT) ?_;rintro r' ⟨l,rfl,hl,Ah⟩;refine fR (aj3 @yD @aD.eq_1 @ae) ?_;clear cT;generalize ly g (ah q+1) ⟨B,⟨q,q⟩::r,c⟩ p.sort=Wq at hl hSt⊢;have aZ:0<=l.length/\([]:List USt).length<=0/\(Wq.isSome->Wq=some l/\ba (wX g p) (l.take 0)=some [])/\(Wq.isSome=false->(Wq.bind (ba (wX g p)))=none):=⟨Taj _,Taj _,λh=>by
   cases Wq with
   |none=>cases h
   |some m=>exact⟨by rw[hl m rfl],rfl⟩,λh=>by
   cases Wq with
   |none=>rfl
   |some m=>cases h⟩
  refine fG @ae ?_;have F:=ai (@List.map_nil.{0,0}) @ae;refine gL (ι:=Nat×List USt×Bool) [10,11,12,13,14,15,16,100] [11] (λw=>[(12,GU w.1),(11,.Υ 11),(10,GX w.2.2)]) (λw=>[(11,.Υ none 106 3 (w.2.1.map fp))]) (λw=>w.1<=l.length/\w.2.1.length<=w.1/\(w.2.2->Wq=some l/\ba (wX g p) (l.take w.1)=some w.2.1)/\(w.2.2=false->(Wq.bind (ba (wX g p)))=none)) (λw=>l.length-w.1) ((0,[],Wq.isSome)) (aZ) (λw hw=>?_)
  obtain⟨i,out,ok⟩:=w;obtain⟨hi,pX,hy,hn⟩:=hw;simp only at hi pX hy hn;dsimp only;have bO:=uI out;have bB:=wd out;have ll:=uI l;have lB:=wd l;have fq:(ok->i=l.length)->g8 64 (Wq.bind (ba (wX g p))) [.I (.sl (out.map fp)),GW ok]:=λhe=>by
   cases ok with
   |false=>exact⟨out,by rw[hn rfl];rfl,λm h=>(by rw[hn rfl]at h;cases h),om⟩
   |true =>
    obtain⟨h1,h2⟩:=hy rfl;have:=he rfl;subst this;rw[Tap]at h2;exact⟨out,by rw[h1,Option.bind_some,h2];rfl,λm h=>(by rw[h1,Option.bind_some,h2]at h;injection h),om⟩
  by_cases am:i<l.length;rotate_left
  ·have hR:=fq λ_=>om;refine fG (aj3 (lF i l.length) @ll @ae) ?_;exact(have F:=ae;pc (R:=g8 _ _) [4] hR)
  have q2:=lT i l.length
  cases ok with
  |false =>
   have hR:=fq λh=>by cases h
   refine fG (aj3 @q2 @ll @ae) ?_;exact(have F:=ae;pc (R:=g8 _ _) [4] hR)
  |true =>
  clear fq hn;obtain⟨Aa,hmo⟩:=hy rfl;obtain⟨s,hs⟩:∃s,l[i]?=some s:=⟨_,Taa am⟩;obtain⟨e,r',At,heT,hsU,wt,lS⟩:=hSt l Aa s (Tac hs);have gi:(l.map fp)[i]?=some [.sl (aK s.b),.sl (aK s.Γ),GS s.Δ]:=by rw[Tba,hs];rfl
  have bs:=fE s.Γ;have gs':=rv s.Γ;have gv:s.Γ[0]?=some e:=by rw[At];rfl
  have mV:0<s.Γ.length:=by rw[At];simp
  have yM:((1:Int)<=s.Γ.length)=True:=eq_true om;have cw:((s.Γ.length:Int)<=s.Γ.length)=True:=eq_true (Int.le_refl _);have ev:=ZhG s.Γ;rw[show s.Γ.tail=r' by rw[At];rfl]at ev;have es:wX g p s=cJ g ⟨s.b,r',s.Δ⟩ p e.var:=by unfold wX;rw[At]
  have fV:=bW (k:=i) om;have da:=Zi4 (f:=wX g p) hs;rw[hmo,Option.bind_some,es]at da;have cB:=E9 cZ hg hF hsU (show s.b.length<=200 by omega) (show r'.length<=60000 by omega) hV heT;simp only[ck,fp]at cB;have c8:out.length+1<=al:=by unfold al;omega
  refine eQ 19 (aj3 @q2 @ll @ae) (aj6 @gi @ll @lB @am @bw @ae) ?_;refine eQ 20 @ae (aj7 @bs @gs' @b8 @gv @mV @dz @ae) ?_;refine eQ 21 @ae (aj6 @bs @b8 @yM @cw @ev @ae) ?_;clear bs gs' gv mV yM cw ev gi;refine kQ 22 @ae ?_;have F:=@ae;refine xg (cB) ?_;rintro r'' ⟨s1,rfl,h1,-⟩;refine fR (aj4 @yD @aD.eq_1 @ku @ae) ?_
  cases hb:cJ g ⟨s.b,r',s.Δ⟩ p e.var with
  |none =>
   rw[hb]at da;have sI:(Wq.bind (ba (wX g p)))=none:=by rw[Aa,Option.bind_some];exact Zhg da
   have z0:(none:Option USt).isSome=false:=rfl;have F:=aj8 @z0 @ku @bO @bB @c8 (@Tbw.{0,0}) @fV @ae;refine gG ?_;exact⟨(i+1,out++[s1],false),⟨am,(by rw[Tae,List.length_singleton];omega),λh=>(by cases h),λ_=>sI⟩,gw,gw,om⟩
  |some u =>
   obtain rfl:=h1 u hb;rw[hb,Option.map_some]at da;have z1:(some s1).isSome:=rfl;have F:=aj8 @z1 @ku @bO @bB @c8 (@Tbw.{0,0}) @fV @ae;refine gG ?_;exact⟨(i+1,out++[s1],true),⟨am,(by rw[Tae,List.length_singleton];omega),λ_=>⟨Aa,da⟩,λh=>(by cases h)⟩,gw,gw,om⟩
 have q1:(p.op=-1)=False:=eq_false lP;by_cases aP:p.op=q.op;rotate_left
 ·rw[(by unfold zH;rw[if_neg lP,if_pos aP]:zH g B c r p q=some [])];refine fG (aj3 @q1 (eq_false aP:(p.op=q.op)=False) @ae) ?_;exact m204
 have q2:(p.op=q.op)=True:=eq_true aP;obtain⟨o,d,hA⟩:=hp.Η.node.app lP;obtain⟨o',d',hA'⟩:=hq.Η.node.app hq1;have ho:=hA.at';have h0:=hA.lo;obtain rfl:o=o':=by
  have:=hA'.at';rw[<- aP,ho]at this;injection this
 have rI:=(hF o (Tac ho)).1;have pT:q.Y.length=p.Y.length:=by
  exact m177
 have u9:q.Y.reverse.length=p.Y.length:=by rw[List.length_reverse];exact pT
 have hl7:=hA.len7 hg;rw[ZFk lP aP ho];clear cO cK;refine fG (aj3 @q1 @q2 @ae) ?_;have F:=aj3 (ZDx p.Y q.Y) (ZDx p.Y q.Y.reverse) @ae;refine gL (ι:=Nat) [17,18,19,142] [17,18] (λi=>[(19,GU i),(17,.Υ 17),(18,.Υ 18)]) (λi=>[(17,.Υ none 103 8 (ng p.Y q.Y i)),(18,.Υ none 103 8 (ng p.Y q.Y.reverse i))]) (λi=>i<=p.Y.length) (λi=>p.Y.length-i) (0) (Taj _) (λi hi=>?_)
 have lA:=Zuh pT hi;have lB:=Zuh u9 hi;have bA:ZaD 8 (ng p.Y q.Y i):=eI _;have bB:ZaD 8 (ng p.Y q.Y.reverse i):=eI _;by_cases am:i<p.Y.length
 ·have q3:=lT i p.Y.length;obtain⟨a,ha⟩:∃a,p.Y[i]?=some a:=⟨_,Taa am⟩;obtain⟨b,hb⟩:∃b,q.Y[i]?=some b:=⟨_,Taa om⟩;have lJ:p.Y.length-1-i<q.Y.length:=om;obtain⟨b',cu⟩:∃b,q.Y[p.Y.length-1-i]?=some b:=⟨_,Taa lJ⟩;have w1:IntKind.i64.wrap ((p.Y.length:Int)-1)=((p.Y.length-1:Nat):Int):=kJ om om om;have w2:IntKind.i64.wrap (((p.Y.length-1:Nat):Int)-(i:Int))=((p.Y.length-1-i:Nat):Int):=kJ om om om;have mw:i+1<=al:=by unfold al;omega
  refine eQ 33 (ai @q3 @ae) (aj13 @ha @hb @am (om:i<q.Y.length) @pT (sC a b) @dz @lA @bA @mw (ZDy ha hb) @bw @ae) ?_;refine eQ 34 @ae (aj15 @ha @cu @am @lJ @pT (sC a b') @dz @lB @bB @mw (ZDy ha (by rw[List.getElem?_reverse om,pT];exact cu:q.Y.reverse[i]?=some b')) @w1 @w2 @bw @ae) ?_;have F:=ai (bW (k:=i) om) @ae;refine gG ?_;exact⟨i+1,am,gw,gw,om⟩
 obtain rfl:i=p.Y.length:=by omega
 have q3:=lF p.Y.length p.Y.length;rw[Zui pT,Zui u9];clear lA lB bA bB hi;have lA:=fE (jB p.Y q.Y);have lB:=fE (jB p.Y q.Y.reverse);rw[ZkC pT]at lA;rw[ZkC u9]at lB;have br:=fE r;have c8:p.Y.length+r.length<=al:=by unfold al;omega
 have eA:aK (jB p.Y q.Y)++aK r=aK (jB p.Y q.Y++r):=(sq _ _).symm;have eB:aK (jB p.Y q.Y.reverse)++aK r=aK (jB p.Y q.Y.reverse++r):=(sq _ _).symm;refine dC 36 (ai @q3 @ae) 4 (aj6 @lA @br @b8 @c8 @eA @ae) ?_;refine gS 182 λa cap=>?_;refine ec @ae @ae ?_;refine vA 182 20 1 ?_ (hc:=by first|rfl|simp)
 simp only[List.set_cons_succ,List.set_cons_zero]
 cases iv:o.comm with
 |false =>
  rw[if_neg (by simp)];have hR:=CF (N:=64) (l:=[⟨B,jB p.Y q.Y++r,c⟩]) (by simp);refine gB ?_;refine fR (aj5 @h0 @ho @iv @cz @ae) ?_;refine dC 38 @ae 1 (ai @ku @ae) ?_;exact m88
 |true =>
  rw[if_pos rfl];have hR:=CF (N:=64) (l:=[⟨B,jB p.Y q.Y++r,c⟩,⟨B,jB p.Y q.Y.reverse++r,c⟩]) (by simp);refine gB ?_;refine fR (aj5 @h0 @ho @iv @cz @ae) ?_;refine dC 40 @ae 4 (aj6 @lB @br @b8 @c8 @eB @ae) ?_;refine gS 198 λa2 du=>?_;refine fR @ae ?_;refine fN 41 @ae ?_;refine vA 198 21 1 ?_ (hc:=by first|rfl|simp);simp only[List.set_cons_succ,List.set_cons_zero]
  refine gB ?_;have F:=ai @ku @ae;refine gP 2 ?_;exact m88
end
def ZkD:∀{l out:List (GP)},l.Pairwise (·≠·)->(∀b∈l,b∉out)->(eC aN l out).length=out.length+l.length
 |[],out,_,_=>rfl
 | b::l,out,hn,hd=>by
  have insN:∀{l:List (GP)},b∉l->(cb aN b l).length=l.length+1:=λ{l}=>by
   induction l with
   |nil=>intro _;rfl
   | cons x l ih =>
    intro h;simp only[cb];have h1:=ih λq=>h (Tal _ q);split
    ·simp only[Tag];omega
    ·split
     ·rename_i h0;exact absurd (ZiX _ _ h0) λe=>h (by rw[e];exact Tas)
     ·simp only[Tag]
  have h1:=List.pairwise_cons.1 hn;have e:eC aN (b::l) out=eC aN l (cb aN b out):=rfl;rw[e,ZkD h1.2 λx hx hm=>?_,insN (hd b Tas),Tag]
  ·omega
  ·rcases(Zio zL).1 hm with q|q
   ·exact h1.1 x hx q.symm
   ·exact hd x (Tal _ hx) q
def Zuj{α β:Type}{f:α->Option β}:∀{l:List α}{m:List β},ba f l=some m->∀y∈m,∃x∈l,f x=some y:=λh=>Fl h
section
open Classical
variable{g:Sgn}
def Zpq{p:Tm->Bool}:∀{L:AI},oB g (L.filter p)<=oB g L
 |[]=>Tai _
 |w::L=>by
  have h2:=Zpq (p:=p) (L:=L);rw[List.filter_cons];split
  ·exact B6
  ·exact B6
def UInv.drop{L:AI}{b r r':GP}{c:Nat}(h:UInv g L ⟨b,r',c⟩)(ht:∀e∈r,(TermOk g e.var/\TermOk g e.to)/\Live L e.var/\Live L e.to):UInv g L ⟨b,r,c⟩ :=
 ⟨⟨h.tm.b,λe he=>(ht e he).1⟩,h.var,h.bg,h.fr,λe he=>(ht e he).2,h.up,h.dead,h.to⟩
def Zhh{L:AI}{v:Tm}(hv:dp g v)(h:v∈L):Live L v:=λw _ ho=>by
 rw[(vP hv.2.2.2.2).1 ho];exact h
def ZmE{L:AI}{v:Tm}(hv:v.op=-1)(h:Live L v):v∈L:=h v hv (uA.2 (.inl rfl))
def ZhI{v w:Tm}(hw:dp g w)(h:v≠w):bR v w=false:=by
 cases hb:bR v w with
 |false=>rfl
 |true=>exact absurd ((vP hw.2.2.2.2).1 hb) h
def ZxR(hg:SgnOk g)(hF:jb g){L:AI}{st:USt}(hI:UInv g L st){v t:Tm}(hV:dp g v)(hv:v∈L)(ht:TermOk g t)(hL:Live L t)(ho:bR v t=false){ws:List (GP)}(h1:nf g (ah t+1) t v.sort st.Δ=some ws){ms:GP}(oE:ms∈ws){s:USt}(hb:cJ g (stM g ms st) v (dF g ms t)=some s):∃L',UInv g L' s:=by
 have hk:pw g v.sort:=⟨hV.2.2.1,hV.2.2.2.1⟩;have hLt:Live (L.filter λw=>bR w t) t:=λw hw how=>List.mem_filter.2 ⟨hL w hw how,how⟩
 have am:LivOk g (L.filter λw=>bR w t) st.Δ:=⟨λw hw=>hI.var w (List.mem_filter.1 hw).1,by
  have:=hI.liv.bg;have:=Zpq (g:=g) (p:=λw=>bR w t) (L:=L);omega⟩
 have DB:=am.bg;have wv:v∉L.filter λw=>bR w t:=λq=>by
  have:=(List.mem_filter.1 q).2;rw[ho]at this;cases this
 have hN:=(hI.var v hv).2;have hw:=yv hg _ t v.sort st.Δ L ws (Tan _) ht hL hI.liv hk h1 ms oE;have qF:=yv hg _ t v.sort st.Δ _ ws (Tan _) ht hLt am hk h1 ms oE;have hwb:=qF.bg;have hIm:=hI.way hg hw
 have hid:dF g ms v=v:=Zpn hg hw.ren (ms:=ms) (L:=[v]) (x:=v) ⟨by
  have:=hI.tm;exact(by
   rw[iB,hV.2.2.2.2];simp[au]),by rw[zh,hV.2.2.2.2];simp[aB],by
   refine mH.2 ⟨.inl hV,λa ha=>?_,.inl hV.1⟩;rw[hV.2.2.2.2]at ha;cases ha⟩ (Zhh hV Tas) λy hy hm=>by
  have e:=Tbk.1 hm;rcases qF.src y hy with q|⟨j,k,q,a,b⟩
  ·rw[e]at q;exact wv q
  ·have:=hN j k b (e.symm.trans q);omega
 refine⟨_,hIm.bnd hg hF (v:=v) (t:=dF g ms t) ?_ (vU hg hw.ren ht).1 (Live.ms hg hw.ren ht hL) ?_ hb⟩
 ·exact Tbj.2 ⟨v,hv,hid⟩
 ·cases hb:bR v (dF g ms t)with
  |false=>rfl
  |true =>
   exfalso;rcases qF.new _ (Live.ms hg hw.ren ht hLt v hV.1 hb)with q|⟨j,k,q,a,b⟩
   ·exact wv q
   ·have:=hN j k om q;omega
def Zuk(hg:SgnOk g)(hF:jb g){L:AI}{st:USt}(hI:UInv g L st){v t:Tm}(hV:dp g v)(hv:v∈L)(ht:TermOk g t)(hL:Live L t){l:List USt}(h:pu g st v t=some l):∀s∈l,∃L',UInv g L' s:=by
 rw[ZxN hg hF hI hV ht hL]at h;by_cases hc:bR v t\/dS g v≠dS g t
 ·rw[if_pos hc,Taq]at h;subst h;intro s hs;cases hs
 ·rw[if_neg hc]at h;obtain⟨ws,h1,h2⟩:=Option.bind_eq_some_iff.1 h;intro s hs;obtain⟨ms,oE,hb⟩:=Zuj h2 s hs;refine ZxR hg hF hI hV hv ht hL ?_ h1 oE hb
  cases hb:bR v t with
  |false=>rfl
  |true=>exact absurd (.inl hb) hc
def Zul(hg:SgnOk g)(hF:jb g){L:AI}{st:USt}(hI:UInv g L st){x y:Tm}(hx:dp g x)(hy:dp g y)(lV:TermOk g x)(lW:TermOk g y)(mA:x∈L)(pq:y∈L)(aP:x≠y){l:List USt}(h:v7 g st x y=some l):∀s∈l,∃L',UInv g L' s:=by
 unfold v7 at h;by_cases h1:(dw g x.sort).testBit y.sort.toNat\/(dw g y.sort).testBit x.sort.toNat=true
 ·rw[if_pos h1]at h;obtain⟨s,hs,rfl⟩:=Tav.1 h;intro u hu;rw[Tbk.1 hu];split at hs
  ·exact⟨_,hI.bnd hg hF mA lW (Zhh hy pq) (ZhI hy aP) hs⟩
  ·exact⟨_,hI.bnd hg hF pq lV (Zhh hx mA) (ZhI hx (Ne.symm aP)) hs⟩
 ·rw[if_neg h1]at h;intro u hu;obtain⟨i,hi,hb⟩:=Zuj h u hu;obtain⟨i1,i2,i3⟩:=Cx hg hi;have hw:=WayOk.I hg hI.liv mA i1 i2 λe=>h1 (.inl (by rw[<- e];exact i3));have DB:=hI.liv.bg;have hwb:=hw.bg;rw[ZxH hg (hw.ren _ (Tbk.2 rfl)) (hI.tm:UTm g ⟨st.b,st.Γ,st.Δ⟩),Option.bind_some]at hb;have hIw:=hI.way hg hw;have hwv:dp g (wV (st.Δ+1) (i:Int)):=Zsl (by simp only[List.length_singleton]at hwb;omega) i1
  have qF:TermOk g (wV (st.Δ+1) (i:Int)):=(hw.ren _ (Tbk.2 rfl)).to'.term
  have hwL:wV (st.Δ+1) (i:Int)∈mL g [⟨x,wV (st.Δ+1) i⟩] L:=Tbj.2 ⟨x,mA,by
   show rn g ⟨x,wV (st.Δ+1) i⟩ x=_;rw[zA hx.1,if_pos rfl]⟩
  have hyL':y∈mL g [⟨x,wV (st.Δ+1) i⟩] L:=Tbj.2 ⟨y,pq,by
   show rn g ⟨x,wV (st.Δ+1) i⟩ y=_;rw[zA hy.1,if_neg aP]⟩
  have hyw:y≠wV (st.Δ+1) (i:Int):=λe=>by
   have:=(hI.var y pq).2 (st.Δ+1) i (by simp only[List.length_singleton]at hwb;omega) e;omega
  exact⟨_,hIw.bnd hg hF hyL' qF (Zhh hwv hwL) (ZhI hwv hyw) hb⟩
def ZkE (hg:SgnOk g) (hF:jb g) {L:AI} {b r:GP} {c:Nat} (hI:UInv g L ⟨b,r,c⟩) {x y:Tm} (hx:TermOk g x/\Live L x) (hy:TermOk g y/\Live L y) {l:List USt} (h:uf g b c x y r=some l):∀s∈l,∃L',UInv g L' s:=by
 unfold uf at h;by_cases h0:aU x y=0
 ·rw[if_pos h0,Taq]at h;subst h;intro s hs;rw[Tbk.1 hs];exact⟨L,hI⟩
 ·rw [if_neg h0]at h;by_cases h1:x.op=-1/\y.op=-1
  ·rw[if_pos h1]at h;exact Zul hg hF hI (hx.1.varOk h1.1) (hy.1.varOk h1.2) hx.1 hy.1 (ZmE h1.1 hx.2) (ZmE h1.2 hy.2) (λe=>h0 (ro.2 e)) h
  ·rw [if_neg h1]at h;by_cases kC:y.op=-1
   ·rw[if_pos kC]at h;exact Zuk hg hF hI (hy.1.varOk kC) (ZmE kC hy.2) hx.1 hx.2 h
   ·rw [if_neg kC]at h;by_cases oG:x.op=-1
    ·rw[if_pos oG]at h;exact Zuk hg hF hI (hx.1.varOk oG) (ZmE oG hx.2) hy.1 hy.2 h
    ·rw [if_neg oG]at h;by_cases h2:x.op≠y.op
     ·rw[if_pos h2,Taq]at h;subst h;intro s hs;cases hs
     ·rw[if_neg h2,Taq]at h;have hz:∀ys:AI,(∀a∈ys,a∈y.Y)->UInv g L ⟨b,(x.Y.zip ys).map (λp=>⟨p.1,p.2⟩)++r,c⟩:=λys Eb=>hI.drop λe he=>by
       rcases Tbi.1 he with he|he
       ·obtain⟨p,hp,rfl⟩:=Tbj.1 he;have lP:=(List.of_mem_zip (a:=p.1) (b:=p.2) hp).1;have nA:=Eb _ (List.of_mem_zip (a:=p.1) (b:=p.2) hp).2;exact⟨⟨hx.1.arg lP,hy.1.arg nA⟩,hx.2.arg lP,hy.2.arg nA⟩
       ·exact⟨hI.tm.Γ e he,hI.Γ e he⟩
      subst h;intro s hs;rcases Tbh.1 hs with rfl|hs
      ·exact⟨L,hz _ λa ha=>ha⟩
      ·split at hs
       ·cases hs
       ·split at hs
        ·rw[Tbk.1 hs];exact⟨L,hz _ λa ha=>List.mem_reverse.1 ha⟩
        ·cases hs
def ZxS:∀{m:GP},Zsh m->∀{y:Bd},y∈m->fx m y.var=some y.to
 |z::m,h,y,hy=>by
  have h1:=List.pairwise_cons.1 h;simp only[fx];rcases Tbh.1 hy with rfl|hy
  ·rw[if_pos (ro.2 rfl)]
  ·rw[if_neg (h1.1 y hy)];exact ZxS h1.2 hy
def ZH6 {aj:AI} (hv:qK aj) {b b':GP} (hb:qf b) (hp:b.Perm b'):lh aj b'=b.filter λy=>dN aj y.var:=by
 have hd:Zsh b':=by
  have h1:Zsh b:=hb.dist;exact hp.pairwise h1 λ{x y}h e=>h (ro.2 (ro.1 e).symm)
 have hm:∀y,y∈lh aj b'↔y∈b.filter λy=>dN aj y.var:=λy=>by
  rw[List.mem_filter,lh,List.mem_filterMap,hp.mem_iff];constructor
  ·rintro⟨v,hvm,e⟩;obtain⟨t,ht,rfl⟩:=Tav.1 e;obtain⟨z,hz,e1,e2⟩:=Zin ht;subst e1;subst e2
   exact⟨hz,by
    simp only[dN,List.any_eq_true,decide_eq_true_eq];exact⟨z.var,hvm,ro.2 rfl⟩⟩
  ·rintro⟨h1,h2⟩;simp only[dN,List.any_eq_true,decide_eq_true_eq]at h2;obtain⟨v,hvm,e⟩:=h2;have e:=ro.1 e;subst e;exact⟨y.var,hvm,by rw[ZxS hd h1];rfl⟩
 have yU:qf (lh aj b'):=by
  unfold lh qf;refine List.Pairwise.filterMap (S:=λx y:Bd=>aU x.var y.var<0) _ ?_ hv;intro v w hvw y hy z hz;obtain⟨_,_,rfl⟩:=Tav.1 hy;obtain⟨_,_,rfl⟩:=Tav.1 hz;exact hvw
 have D5:qf (b.filter λy=>dN aj y.var):=List.Pairwise.filter _ hb;have mS:∀{l:GP},qf l->l.Nodup:=λ{l}h=>h.imp λ{x y}h e=>by
  subst e;have:aU x.var x.var=0:=ro.2 rfl;omega
 exact Ztu yU D5 ((List.perm_ext_iff_of_nodup (mS yU) (mS D5)).2 hm)
def Cf(p q:List (GP)×Nat):Prop:=p.1=eC aN q.1 []/\q.1.Pairwise (·≠·)/\p.2+q.2=3000/\q.1.length<=64
def Zl0 (hg:SgnOk g) (hF:jb g) {aj:AI} (hv:qK aj):∀(n:Nat){p q:List (GP)×Nat}{s t:USt}{L:AI},kH s t->UInv g L s->Cf p q->fA Cf (oR g aj n p s) (bK g aj n q t)
 |0,_,_,_,_,_,_,_,_=>trivial
 | n+1,(out,left),(tT,sol),s,t,L,hR,hI,hO=>by
  obtain⟨o1,o2,o3,o4⟩:=hO;simp only at o1 o2 o3 o4;obtain⟨b,r,c⟩:=s;obtain⟨b',r',c'⟩:=t;obtain⟨p1,p2,p3⟩:=hR;simp only at p1 p2 p3;subst p2;subst p3;unfold oR bK
  cases r with
  | nil =>
   simp only;have hk:=ZH6 hv hI.up p1;simp only at hk;rw[wb,hk];generalize (b.filter λy=>dN aj y.var)=f;have uZ:cb aN f out=eC aN (tT++[f]) []:=by rw[ZET,<- o1];rfl
   by_cases dD:f∈tT
   ·rw[if_pos (by
     simp only[List.any_eq_true,decide_eq_true_eq];exact⟨f,dD,zL.self f⟩)]
    have e:cb aN f out=out:=by
     rw[uZ,o1];exact ZEU zL λu=>by
      rw[Tbi,Tbk];exact⟨λh=>h.elim id λe=>by rw[e];exact dD,.inl⟩
    rw[e];have bh:out.length=tT.length:=by
     rw[o1,ZkD o2 λ_ _ h=>by cases h];simp
    rw[tZ om];exact⟨o1,o2,o3,o4⟩
   ·rw[if_neg (by
     simp only[List.any_eq_true,decide_eq_true_eq];rintro⟨u,hu,e⟩;rw[ZiX _ _ e]at hu;exact dD hu),uZ]
    have mS:(tT++[f]).Pairwise (·≠·):=List.pairwise_append.2 ⟨o2,List.pairwise_singleton _ _,λa ha z hz e=>dD (by rw[Tbk.1 hz]at e;rw[<- e];exact ha)⟩;have bh:(eC aN (tT++[f]) []).length=(tT++[f]).length:=by
     rw[ZkD mS λ_ _ h=>by cases h];simp
    by_cases hl:(tT++[f]).length<=64
    ·rw[tZ hl,tZ (by rw[bh];exact hl)];exact⟨rfl,mS,o3,hl⟩
    ·rw[uB hl,uB (by rw[bh];exact hl)];trivial
  | cons e r =>
   simp only;by_cases hl:left=0
   ·rw[if_pos hl,if_pos om];trivial
   ·rw[if_neg hl,if_neg om];have he:=hI.tm.Γ e Tas;have cw:=hI.Γ e Tas;have um:UInv g L ⟨b,r,c⟩:=hI.drop λz hz=>⟨hI.tm.Γ z (Tal _ hz),hI.Γ z (Tal _ hz)⟩;refine(Zub hg hF p1 um ⟨he.1,cw.1⟩ ⟨he.2,cw.2⟩).bind λl m wq _ Aj=>?_;have tE:=ZkE hg hF um ⟨he.1,cw.1⟩ ⟨he.2,cw.2⟩ wq;refine Zrp Aj ⟨o1,o2,by simp only;omega,o4⟩ λa ha a' p q hra hpq=>?_;obtain⟨L',nJ⟩:=tE a ha
    exact Zl0 hg hF hv n hra nJ hpq
def rd(x y:Tm):USt:=⟨[],[⟨x,y⟩],0⟩
def ZxT(hs:SortsOk g.V):∀L:AI,oB g L<=8*L.length
 |[]=>Tai _
 |v::L=>by
  have h1:=ZxT hs L;have h2:=ZJk hs v.sort;simp only[oB,Tbv,List.sum_cons,Tag]at h1⊢;omega
def fk(L:AI):Prop:=∀v∈L,v.name[0]?≠some 119
def ZFl{v:Tm}(h:v.name[0]?≠some 119):nD 0 v:=λj k _ e=>by
 exfalso;apply h;subst e;show(wz j)[0]?=some 119;have h1:(⟨#[119]⟩++ci j:ByteArray).size=1+(ci j).size:=by rw[ByteArray.size_append];rfl
 rw[wz,getElem?_pos _ _ (by rw[h1];omega)];rw[ByteArray.getElem_append_left (by decide)];rfl
def ZmF(hg:SgnOk g){x y:Tm}(hx:TermOk g x)(hy:TermOk g y){aj:AI}(hv:∀v∈aj,dp g v)(h8:aj.length<=8)(ho:fk aj)(aW:Live aj x)(km:Live aj y):UInv g aj (rd x y):=by
 have hb:=ZxT hg.V aj;refine⟨⟨λe he=>(by cases he),λe he=>?_⟩,λv h=>⟨hv v h,ZFl (ho v h)⟩,?_,Tai _,λe he=>?_,List.Pairwise.nil,λe he=>(by cases he),λe he=>(by cases he)⟩
 ·rw[Tbk.1 he];exact⟨hx,hy⟩
 ·show oB g aj+0<=64;omega
 ·rw[Tbk.1 he];exact⟨aW,km⟩
noncomputable def Zy6(g:Sgn)(aj:AI)(x y:Tm):Option (List (GP)):=(oR g aj 3001 ([],3000) (rd x y)).map (·.1)
noncomputable def Zpr(g:Sgn)(aj:AI)(x y:Tm):Option (List (GP)):=(bK g aj 3001 ([],0) (rd x y)).map λp=>eC aN p.1 []
def ZxU(hg:SgnOk g)(hF:jb g){x y:Tm}(hx:TermOk g x)(hy:TermOk g y){aj:AI}(ha:qK aj)(hv:∀v∈aj,dp g v)(h8:aj.length<=8)(ho:fk aj)(aW:Live aj x)(km:Live aj y):Zpr g aj x y=Zy6 g aj x y:=by
 have h:=Zl0 hg hF ha 3001 (p:=([],3000)) (q:=([],0)) (s:=rd x y) (t:=rd x y) (L:=aj) ⟨.refl _,rfl,rfl⟩ (ZmF hg hx hy hv h8 ho aW km) ⟨rfl,.nil,rfl,by simp⟩;unfold Zy6 Zpr
 cases h1:oR g aj 3001 ([],3000) (rd x y)with
 |none =>
  cases h2:bK g aj 3001 ([],0) (rd x y)with
  |none=>rfl
  |some q=>rw[h1,h2]at h;exact h.elim
 | some p =>
  cases h2:bK g aj 3001 ([],0) (rd x y)with
  |none=>rw[h1,h2]at h;exact h.elim
  |some q =>
   rw[h1,h2]at h;have h:Cf p q:=h;rw[Option.map_some,Option.map_some,h.1]
end
section
open Classical
variable{g:Sgn}
def CG{α β:Type}{f:β->α->Option β}{I:β->Prop}:∀{l:List α}{b r:β},bI f b l=some r->I b->(∀a∈l,∀b b',f b a=some b'->I b->I b')->I r
 |[],b,r,h,h0,_=>by
  simp only[bI,Taq]at h;subst h;exact h0
 |a::l,b,r,h,h0,hs=>by
  rw[bI]at h;obtain⟨o,h1,h2⟩:=Option.bind_eq_some_iff.1 h;exact CG h2 (hs a Tas b o h1 h0) λa ha=>hs a (Tal _ ha)
end
def Zum{α β:Type}{f:α->Option β}:∀{l:List α}{m:List β},ba f l=some m->m.length=l.length
 |[],m,h=>by simp only[ba,Taq]at h;subst h;rfl
 |a::l,m,h=>by
  rw[ba]at h;obtain⟨b,_,h2⟩:=Option.bind_eq_some_iff.1 h;obtain⟨k,h3,rfl⟩:=Tav.1 h2;rw[Tag,Tag,Zum h3]
section
variable{g:Sgn}
def ZiB{st u:USt}{v t:Tm}(h:cJ g st v t=some u):u.Γ.length=st.Γ.length:=by
 obtain⟨b',h1,h2⟩:=Option.bind_eq_some_iff.1 h;obtain⟨r',h3,rfl⟩:=Tav.1 h2;exact Zum h3
def Zun(hg:SgnOk g)(hF:jb g){L:AI}{B r:GP}{c:Nat}(hI:UInv g L ⟨B,r,c⟩){v t:Tm}(hV:dp g v)(ht:TermOk g t)(hL:Live L t){l:List USt}(h:pu g ⟨B,r,c⟩ v t=some l):∀s∈l,s.Γ.length<=r.length:=by
 rw[ZDw]at h;split at h
 ·injection h with h;subst h;intro s hs;cases hs
 ·obtain⟨m,h1,h2⟩:=Option.bind_eq_some_iff.1 h;intro s hs;obtain⟨u,hu,e⟩:=Fl h2 s hs;obtain⟨z,r',hr,_,_,_,hl⟩:=Znk hg hF hI ⟨hV.2.2.1,hV.2.2.2.1⟩ ht hL h1 u hu;unfold wX at e;rw[hr]at e;have:=ZiB e;simp only at this;omega
def ZDA(f:Tm×Tm->Bd)(xs ys:AI)(r:GP):((xs.zip ys).map f++r).length<=xs.length+r.length:=by
 rw[Tae,Tay,List.length_zip];omega
def ZFm(hg:SgnOk g)(hF:jb g){L:AI}{B r:GP}{c:Nat}(hI:UInv g L ⟨B,r,c⟩){x y:Tm}(hx:TermOk g x/\Live L x)(hy:TermOk g y/\Live L y){l:List USt}(h:uf g B c x y r=some l):∀s∈l,s.Γ.length<=r.length+7:=by
 unfold uf at h;by_cases h0:aU x y=0
 ·rw[if_pos h0]at h;injection h with h
  subst h;intro s hs;rw[Tbk.1 hs];simp only;omega
 rw[if_neg h0]at h;by_cases h1:x.op=-1/\y.op=-1
 ·rw[if_pos h1]at h;unfold v7 at h;split at h
  ·obtain⟨s,hs,rfl⟩:=Tav.1 h;intro u hu;rw[Tbk.1 hu];split at hs
   ·have:=ZiB hs;simp only at this;omega
   ·have:=ZiB hs;simp only at this;omega
  ·intro s hs;obtain⟨i,_,e⟩:=Fl h s hs;obtain⟨u,e1,e2⟩:=Option.bind_eq_some_iff.1 e;have h1:=ZiB e1;have h2:=ZiB e2;simp only at h1;omega
 rw[if_neg h1]at h;by_cases h2:y.op=-1
 ·rw[if_pos h2]at h;intro s hs;have:=Zun hg hF hI (hy.1.varOk h2) hx.1 hx.2 h s hs;omega
 rw[if_neg h2]at h;by_cases h3:x.op=-1
 ·rw[if_pos h3]at h;intro s hs;have:=Zun hg hF hI (hx.1.varOk h3) hy.1 hy.2 h s hs;omega
 rw[if_neg h3]at h;by_cases h4:x.op≠y.op
 ·rw[if_pos h4]at h;injection h with h
  subst h;intro s hs;cases hs
 rw[if_neg h4]at h;injection h with h
 subst h;obtain⟨o,d,hA⟩:=hx.1.Η.node.app h3;have h7:=hA.len7 hg;intro s hs;rcases Tbh.1 hs with rfl|hs
 ·have:=ZDA (λp=>⟨p.1,p.2⟩) x.Y y.Y r;simp only;omega
 ·rw[hA.at']at hs;simp only at hs;split at hs
  ·rw[Tbk.1 hs];have:=ZDA (λp=>⟨p.1,p.2⟩) x.Y y.Y.reverse r;simp only;omega
  ·cases hs
def lt(g:Sgn)(o:List (GP)):Prop:=∀x∈o,x.length<=64/\∀y∈x,TermOk g y.var/\TermOk g y.to
def lt.ok(hg:SgnOk g){o:List (GP)}(h:lt g o):∀x∈o,uN x/\x.length<=1000:=λx hx=>⟨λy hy=>⟨sr hg ((h x hx).2 y hy).1,sr hg ((h x hx).2 y hy).2⟩,by have:=(h x hx).1;omega⟩
def Zl1{α:Type}{l o:List α}(h:fQ l=some o):o=l/\l.length<=64:=by
 unfold fQ at h;split at h
 ·injection h with h;exact⟨h.symm,by assumption⟩
 ·cases h
def lt.ins{o:List (GP)}(h:lt g o){st:USt}{L:AI}(hI:UInv g L st)(p:Bd->Bool):lt g (cb aN (st.b.filter p) o):=λx hx=>by
 rcases(Zio zL).1 hx with rfl|hx
 ·have:=hI.bg;refine⟨Tbe (List.length_filter_le _ _) om,λy hy=>?_⟩;obtain⟨h1,h2⟩:=hI.tm.b y (List.mem_filter.1 hy).1;exact⟨h1.term,h2⟩
 ·exact h x hx
def ZnX (hg:SgnOk g) (hF:jb g) {aj:AI}:∀(n:Nat){out:List (GP)}{left:Nat}{st:USt}{L:AI}{p:List (GP)×Nat},UInv g L st->lt g out->out.length<=64->oR g aj n (out,left) st=some p->lt g p.1/\p.1.length<=64/\p.2<=left
 |0,_,_,_,_,_,_,_,_,h=>by cases h
 | n+1,out,left,⟨b,r,c⟩,L,p,hI,hO,hl,h=>by
  unfold oR at h
  cases r with
  |nil =>
   simp only at h;obtain⟨o,h1,rfl⟩:=Tav.1 h;obtain⟨rfl,h2⟩:=Zl1 h1;exact⟨hO.ins hI _,h2,Tai _⟩
  | cons e r =>
   simp only at h;split at h
   ·cases h
   obtain⟨l,h1,h2⟩:=Option.bind_eq_some_iff.1 h;have he:=hI.tm.Γ e Tas;have cw:=hI.Γ e Tas;have um:UInv g L ⟨b,r,c⟩:=hI.drop λz hz=>⟨hI.tm.Γ z (Tal _ hz),hI.Γ z (Tal _ hz)⟩;have tE:=ZkE hg hF um ⟨he.1,cw.1⟩ ⟨he.2,cw.2⟩ h1;have:=CG (I:=λq:List (GP)×Nat=>lt g q.1/\q.1.length<=64/\q.2<=left-1) h2 ⟨hO,hl,Tai _⟩ λs hs q q' hq hi=>by
    obtain⟨L',nJ⟩:=tE s hs;obtain⟨i1,i2,i3⟩:=hi;obtain⟨j1,j2,j3⟩:=ZnX hg hF n nJ i1 i2 hq;exact⟨j1,j2,om⟩
   exact⟨this.1,this.2.1,om⟩
end
end Go.Proofs.YtaenibhihgfehaaGreatDoor
