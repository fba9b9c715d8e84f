/-
  Part of a proof.
-/
import Derived.Test.YtbecmfjokofihaaGreatDoorBChainTermsCard0
import Derived.Test.YtbecmfjokofihaaGreatDoorBChainTermsCard1
import Derived.Test.YtbecmfjokofihaaGreatDoorBChainTermsCard2
import Derived.Test.YtbecmfjokofihaaGreatDoorBChainTermsCard3
import Derived.Test.YtbecmfjokofihaaGreatDoorBChainTermsCard4
import Derived.Shelf.Lays7
import Derived.Test.YtbecmfjokofihaaGreatDoorChecked
import Derived.Shelf.Spec.TrailingZeros
import Derived.Shelf.SlSortCmp.WholeK
import Derived.Shelf.SlSortCmp.NoneTotal
import Derived.Lib.QuietBelow
import Derived.Shelf.SlLaysF0
import Derived.Shelf.Lays8
import Derived.Shelf.Spec.SlicesGrow
set_option linter.unusedSimpArgs false
set_option linter.unusedVariables false
set_option maxHeartbeats 400000000
set_option maxRecDepth 100000
namespace Go.Proofs.YtbecmfjokofihaaGreatDoor
open Go.Shelf
def Zxb:Ren:=⟨fun | 27=>306 | 28=>327 | 29=>328 | n=>n,fun | 25=>217 | 3=>3 | 27=>301 | 22=>303 | 4=>4 | 53=>380 | 0=>0 | 5=>5 | 54=>381 | n=>n,fun | 0=>1 | 1=>2 | n=>n⟩
theorem tzZ:Go.Proofs.Lays7.n27 Tryz.prog Zxb:={
 mixed:=by kernel_rfl,
 f27:=Tryz.func306.trans (congrArg some (by kernel_rfl)),
 f28:=Tryz.func327.trans (congrArg some (by kernel_rfl)),
 f29:=Tryz.func328.trans (congrArg some (by kernel_rfl)),
 t0:=Tryz.underlying0,
 a0:=Tryz.isAgg0,
 z0:=Tryz.sizeOf0,
 v0:=Tryz.zeroValue0,
 i0:=by kernel_rfl,
 t3:=Tryz.underlying3,
 a3:=Tryz.isAgg3,
 z3:=Tryz.sizeOf3,
 v3:=Tryz.zeroValue3,
 i3:=by kernel_rfl,
 t4:=Tryz.underlying4,
 a4:=Tryz.isAgg4,
 z4:=Tryz.sizeOf4,
 v4:=Tryz.zeroValue4,
 i4:=by kernel_rfl,
 t5:=Tryz.underlying5,
 a5:=Tryz.isAgg5,
 z5:=Tryz.sizeOf5,
 v5:=Tryz.zeroValue5,
 i5:=by kernel_rfl,
 t22:=Tryz.underlying303,
 a22:=Tryz.isAgg303,
 z22:=Tryz.sizeOf303,
 v22:=Tryz.zeroValue303,
 i22:=by kernel_rfl,
 t25:=Tryz.underlying217,
 a25:=Tryz.isAgg217,
 z25:=Tryz.sizeOf217,
 v25:=Tryz.zeroValue217,
 i25:=by kernel_rfl,
 t27:=Tryz.underlying301,
 a27:=Tryz.isAgg301,
 z27:=Tryz.sizeOf301,
 v27:=Tryz.zeroValue301,
 i27:=by kernel_rfl,
 t53:=Tryz.underlying380,
 a53:=Tryz.isAgg380,
 z53:=Tryz.sizeOf380,
 v53:=Tryz.zeroValue380,
 i53:=by kernel_rfl,
 t54:=Tryz.underlying381,
 a54:=Tryz.isAgg381,
 z54:=Tryz.sizeOf381,
 g0:=by kernel_rfl,
 g1:=by kernel_rfl }
end Go.Proofs.YtbecmfjokofihaaGreatDoor
namespace Go.Proofs.YtbecmfjokofihaaGreatDoor
open Go.RowKit
theorem ZGH:∀ q:Fin 8,Lib.ctz 64 (2 ^ q.val)=q.val:=by decide
theorem ZHq {q:Nat} (hq:q < 8):az e0 306 [.one (.lit (.int .u64 ((2 ^ q:Nat):Int)))] [.one (.lit (.int .i64 (q:Int)))]:=by
 refine ⟨by kernel_rfl,fun w S vs hS hE hG hv=>?_⟩
 match vs,hv with
 | [v],hv =>
  have hv:v=.int .u64 ((2 ^ q:Nat):Int):=by simpa [cx,aW,aQ] using hv
  subst hv;have hp:2 ^ q < 2 ^ 8:=Nat.pow_lt_pow_right om hq;have hT:TabAt (Zxb.g 1) Lib.deBruijn64tab w:=fun j hj=>nC.cell hG j hj;refine (Any7.bits_TrailingZeros tzZ (2 ^ q) om w (fun _=>hT)).mono fun en w' ⟨h1,h2⟩=>?_;subst h2;rw [ZGH ⟨q,hq⟩] at h1;exact ⟨_,h1,Kept.refl _ _ _ _,hG,by simp [bh,ax,aW,aQ]⟩
theorem m250 {X Y:Prop} (b:Y) (h:Bx Y->X:=by
 intro B0
 have fg:=Zox (R:=R) (sets:=sets) (N:=g.sorts.names.length) (m:=m) om;have i8:=Zs6 (R:=R) (sets:=sets) (N:=g.sorts.names.length) (m:=m) hs mV hnp;exact B0.o fg i8):X:=h ⟨b⟩
theorem yH {X Y:Prop} (b:Y) (h:Bx Y->X:=by
 intro B0
 have w1:IntKind.i64.wrap ((m:Int) - 1)=((m - 1:Nat):Int):=dI om om om;exact B0.o w1):X:=h ⟨b⟩
theorem m131 {X Y:Prop} (b:Y) (h:Bx Y->X:=by
 intro B0
 rw [yh] at cR;have cR:=Zhr cR;have rv:v < 4611686018427387904:=by rw [hv];exact mH (nz _ _) hN
 have eO:=xC rv (mH (nz (fun b=>j7 R (ig g R sets p) (ig g R sets (m ^^^ p)) b) g.sorts.names.length) hN);rw [e] at eO;exact B0.o cR rv eO):X:=h ⟨b⟩
theorem m119 {p:Prop} (h:p:=by
 refine gG ?_;exact ⟨((p - 1) &&& m,bE (xP R sets g.sorts.names.length m ((p - 1) &&& m)) g.sorts.names.length),⟨om,by rw [Nat.and_assoc,Nat.and_self],rfl⟩,gw,gw,om⟩):p:=h
theorem m77 {X Y:Prop} (b:Y) (h:Bx Y->X:=by
 intro B0
 have qU:=jF.start (g:=g) (R:=R) (sets:=sets);have ro:∀ q,2 ^ q < 2 ^ sets.length->q < sets.length:=fun q h=>(Nat.pow_lt_pow_iff_right om).1 h;have hZ1:2 ^ 1<=2 ^ sets.length:=Tbs om gg;have hZ7:2 ^ sets.length<=2 ^ 7:=Tbs om DY;have tT:=fun M T (h:jF g R sets M T)=>h.1;have zG:=fun M T (h:jF g R sets M T)=>h.next;have qn:=fun M T (h:jF g R sets M T)=>h.zero;have yf:=fun M T (h:jF g R sets M T)=>h.2;exact B0.o qU ro hZ1 hZ7 tT zG qn yf):X:=h ⟨b⟩
theorem m53 {X Y:Prop} (b:Y) (h:Bx Y->X:=by
 intro B0
 have nl:=fr (l:=T.set m v);rw [Taz,tT _ _ hT] at nl;have nr:=fX (l:=T.set m v);have g1:(nR (T.set m v))[m]?=some [.lit (.int .i64 v)]:=e6 (Tbn (by rw [tT _ _ hT];exact sc));have g2:(nR (T.set m v))[p]?=some [.lit (.int .i64 (ig g R sets p))]:=e6 (by rw [Tbo om];exact hTp);have g3:(nR (T.set m v))[m ^^^ p]?=some [.lit (.int .i64 (ig g R sets (m ^^^ p)))]:=e6 (by rw [Tbo om];exact hTx);have ns:=fun x=>qJ (l:=T.set m v) m x;simp only [List.set_set] at ns;have i2:(p < Z)=True:=eq_true om;have i3:(m ^^^ p < Z)=True:=eq_true om;exact B0.o nl nr g1 g2 g3 ns i2 i3):X:=h ⟨b⟩
theorem m30 {X Y:Prop} (b:Y) (h:Bx Y->X:=by
 intro B0
 dsimp only;by_cases mY:p=0
 ·subst mY;have q3:=lF 0 (0:Nat);have e:v=ig g R sets m:=by rw [hv,i8];rfl
  subst e;have F:=aj3 @q3 @hw @ae;refine gG ?_;exact ⟨(m+1,T.set m (ig g R sets m)),⟨om,om,uX⟩,gw,gw,om⟩
 have q3:=lT 0 p;have wp:IntKind.i64.wrap ((p:Int) - 1)=((p - 1:Nat):Int):=dI om om om;have bap:=za (a:=p - 1) (b:=m) om om;have bx:=Ztk (a:=m) (b:=p) om om;have hxp:=Ztl oB mY om;have qu:(p - 1) &&& m<=p - 1:=Nat.and_le_left;have hTp:=(yf _ _ hT p om om).1 sT;have hTx:=(yf _ _ hT (m ^^^ p) hxp.1 om).1 hxp.2;have e:=fun b=>Zqy (R:=R) (sets:=sets) (N:=g.sorts.names.length) (m:=m) (p:=p) (b:=b) mY om oB;have e:v ||| bE (fun b=>j7 R (ig g R sets p) (ig g R sets (m ^^^ p)) b) g.sorts.names.length=bE (xP R sets g.sorts.names.length m ((p - 1) &&& m)) g.sorts.names.length:=by
  rw [hv,AC];exact li fun b _=>(e b).symm
 exact B0.o mY q3 wp bap bx hxp qu hTp hTx e):X:=h ⟨b⟩
theorem Ztl {p m:Nat} (h:p &&& m=p) (hp:p≠0) (hm:p≠m):1<=m ^^^ p∧m ^^^ p < m:=by
 have h1:=Zs4 hm;have h2:=(Zw0 h).2;have h3:m ^^^ p<=m:=by
  have h4:m ^^^ p<=p ||| (m ^^^ p):=Nat.right_le_or;rw [h2] at h4;exact h4
 have h4:m ^^^ p≠m:=fun e=>hp (by
  have:m ^^^ (m ^^^ p)=m ^^^ m:=by rw [e]
  rw [<- Nat.xor_assoc,Nat.xor_self,Nat.zero_xor] at this;exact this)
 omega
section
variable {g:Sgn} {mc:C}
theorem ZD3 (hg:SgnOk g) {i:Nat} {o:Opr} (ho:g.ops[i]?=some o) (ha:o.assoc=true) (hc:o.comm=true) {s t N:Nat}:bE (lX g o [s,t]) N=bE (fun b=>j7 (qD (bY g o)) s t b) N:=by
 refine li fun b _=>?_;unfold lX;rw [Ay (Opr.deg2 hg ho (.inl ha)),ZD1,hc];simp only [List.reverse_cons,List.reverse_nil,Tah,List.singleton_append,true_and];rw [Ay (Opr.deg2 hg ho (.inl ha))]
theorem ZGI {R:Nat->Nat->Nat->Prop} {N:Nat} (h:∀ a c b,R a c b->b < N):∀ a c b,qD R a c b->b < N:=fun a c b h1=>h1.elim (h a c b) (h c a b)
theorem ZpI (hg:SgnOk g) {op:Int} {o:Opr} (h0:0<=op) (ho:g.ops[op.toNat]?=some o) (ha:o.assoc=true) (hc:o.comm=true) (sets:List Nat) (gg:1<=sets.length) (DY:sets.length<=7) (hs:∀ s∈sets,s < 2 ^ g.sorts.names.length):az e0 245 [.one (.ptr (dJ g mc)),.one (.lit (.int .i64 op)),.one (.sl (nR sets))] [.one (.lit (.int .i64 ((ig g (bY g o) sets (2 ^ sets.length - 1):Nat):Int)))]:=by
 have hN:=hg.sorts.n8;refine te fun rl rr=>?_;have mu:=Opr.deg2 hg ho (.inl ha);rw [<- ZD2];have mV:=ZGI fun a c b (h:bY g o a c b)=>bY.lt hg (Tac ho) h;have yh:=fun s t=>ZD3 (s:=s) (t:=t) (N:=g.sorts.names.length) hg ho ha hc;generalize hRR:qD (bY g o)=R at mV yh ⊢;have yk:∀ m,ig g R sets m < 2 ^ g.sorts.names.length:=fun m=>nz _ _;have rq:=xS (k:=sets.length) om
 refine m77 fun qU ro hZ1 hZ7 tT zG qn yf=>?_
 generalize hZ:2 ^ sets.length=Z at rq qU ro hZ1 hZ7 tT zG qn yf ⊢;refine gI (ts:=[.slot 6]) 2199090890695 Tryz.func245 ?_;refine fG (aj7 @rl @rq (eq_true (by unfold ak;omega):((Z:Int)<=(ak:Int))=True) @Tbx @tl @bD @ae) ?_;generalize List.replicate Z 0=T0 at qU ⊢;have F:=@ae;refine gL (ι:=Nat × List Nat) [8,9,10,19,26,41] [8] (fun x=>[(9,A.d (.one (.lit (.int .i64 x.1)))),(8,.buf 8)]) (fun x=>[(8,.buf none 3 1 (nR x.2))]) (fun x=>1<=x.1∧x.1<=Z∧jF g R sets x.1 x.2) (fun x=>Z - x.1) ((1,T0)) (⟨Tai _,om,qU⟩) (fun x hx=>?_)
 clear qU T0;obtain ⟨m,T⟩:=x;obtain ⟨iy,sS,hT⟩:=hx;simp only at iy sS hT;dsimp only;have nl:=fr (l:=T);rw [tT _ _ hT] at nl;have nr:=fX (l:=T);by_cases sc:m < Z;rotate_left
 ·obtain rfl:m=Z:=by omega
  refine yH fun w1=>?_;exact fD (aj9 (lF m m) @rq @nl @nr (e6 ((yf _ _ hT (m - 1) om om).1 om)) @w1 (eq_true om:(m - 1 < m)=True) @bD @ae)
 have q1:=lT m Z;have hw:=bI (k:=m) om;refine yH fun w1=>?_;have ba:=za (a:=m) (b:=m - 1) om om;have ba2:=za (a:=m - 1) (b:=m) om om;rw [Nat.and_comm] at ba;have i0:(m < Z)=True:=eq_true sc;by_cases hA:(m - 1) &&& m=0
 ·obtain ⟨q,rfl⟩:=Zxa om hA;have hq:=ro q sc;rw [hA] at ba;have q2:(((0:Nat):Int)=0)=True:=eq_true rfl;have wu:IntKind.u64.wrap ((2 ^ q:Nat):Int)=((2 ^ q:Nat):Int):=by
   exact m201
  obtain ⟨s,qw⟩:∃ s,sets[q]?=some s:=⟨_,Taa hq⟩;have hbv:ig g R sets (2 ^ q)=s:=by unfold ig;exact Zw3 qw (hs s (Tac qw))
  have r1:=e6 qw;have uX:=zG _ _ hT sc;rw [hbv] at uX;have ns:=qJ (l:=T) (2 ^ q) s;obtain ⟨z,hz⟩:∃ z,T[2 ^ q]?=some z:=⟨_,Taa (by rw [tT _ _ hT];exact sc)⟩;have ng:=e6 hz;have cz:=ZHq (q:=q) om;have i2:(q < sets.length)=True:=eq_true hq;clear hbv hA;generalize 2 ^ q=M at *;refine bw 7 (aj7 @q1 @rq @w1 @ba @q2 @bD @ae) (aj5 @zq @Ar @xK @wu @ae) (cz) (aj11 @r1 @rl @rr @nl @nr @ns @ng @i0 @i2 @bD @ae) ?_
  have F:=ai @hw @ae;refine gG ?_;exact ⟨(M+1,T.set M s),⟨om,om,uX⟩,gw,gw,om⟩
 have q2:((((m - 1) &&& m:Nat):Int)=0)=False:=eq_false om;have hnp:∀ i,m≠2 ^ i:=fun i e=>hA (by subst e;exact Zw9 i);have hz:=qn _ _ hT iy sc;have se:nR (T.set m 0)=nR T:=by rw [hz]
 have ct:(m - 1) &&& m<=m - 1:=Nat.and_le_left;refine m250 fun fg i8=>?_;have uX:=zG _ _ hT sc;clear nl nr;refine fG (aj8 @rq @q1 @w1 @ba @ba2 @q2 @bD @ae) ?_;have F:=ai @se @ae;refine gL (ι:=Nat × Nat) [8,10,41] [8] (fun z=>[(10,A.d (.one (.lit (.int .i64 z.1)))),(8,.buf 8)]) (fun z=>[(8,.buf none 3 1 (nR (T.set m z.2)))]) (fun z=>z.1 < m∧z.1 &&& m=z.1∧z.2=bE (xP R sets g.sorts.names.length m z.1) g.sorts.names.length) (fun z=>z.1) (((m - 1) &&& m,0)) (⟨om,by rw [Nat.and_assoc,Nat.and_self],fg.symm⟩) (fun z hz=>?_)
 obtain ⟨p,v⟩:=z;obtain ⟨sT,oB,hv⟩:=hz;simp only at sT oB hv;refine m30 fun mY q3 wp bap bx hxp qu hTp hTx e=>?_
 have cR:=Zje (mc:=mc) hg h0 ho [ig g R sets p,ig g R sets (m ^^^ p)] (fun d hd=>mu d hd) (by simp) (fun s hs=>by
  simp only [Tbg,List.not_mem_nil,or_false] at hs;rcases hs with rfl | rfl <;> exact yk _)
 refine m131 fun cR rv eO=>?_;generalize bE (fun b=>j7 R (ig g R sets p) (ig g R sets (m ^^^ p)) b) g.sorts.names.length=tw at cR eO;refine m53 fun nl nr g1 g2 g3 ns i2 i3=>?_;clear e hv i8;refine bw 11 (ai @q3 @ae) (aj11 @nl @nr @g1 @g2 @g3 @i0 @i2 @i3 @bx @bD @ae) (cR) (aj8 @nl @nr @g1 @eO @ns @i0 @bD @ae) ?_;have F:=aj3 @wp @bap @ae;exact m119
end
section
variable {g:Sgn}
theorem ZCj (hg:SgnOk g) {op:Int} {o:Opr} (h0:0<=op) (ho:g.ops[op.toNat]?=some o) (ha:o.assoc=true) (sets:List Nat) (gg:1<=sets.length) (DY:sets.length<=7) (hs:∀ s∈sets,s < 2 ^ g.sorts.names.length):az e0 330 [.agg (bN g),.one (.lit (.int .i64 op)),.one (.sl (nR sets))] [.one (.lit (.int .i64 ((ig g (bY g o) sets (2 ^ sets.length - 1):Nat):Int)))]:=by
 have hN:=hg.sorts.n8;refine te fun rl rr=>?_;have mu:=Opr.deg2 hg ho (.inl ha);have cU:=Zh9 hg.sorts.n8 hg.sorts.m16 (SortsOk.subsIn hg.sorts.subs);rw [fZ] at cU;have mV:=fun a c b (h:bY g o a c b)=>bY.lt hg (Tac ho) h;have yh:∀ s t,bE (pl g o [s,t]) g.sorts.names.length=bE (fun b=>j7 (bY g o) s t b) g.sorts.names.length:=fun s t=>li fun b _=>Ay mu;have cG:=fun l=>Zj9 hg (Tac ho) l
 generalize hRR:bY g o=R at mV yh ⊢;have yk:∀ m,ig g R sets m < 2 ^ g.sorts.names.length:=fun m=>nz _ _;have cB:=ZiK (k:=sets.length) om;refine m77 fun qU ro hZ1 hZ7 tT zG qn yf=>?_;generalize hZ:2 ^ sets.length=Z at cB qU ro hZ1 hZ7 tT zG qn yf ⊢;rw [bN];refine gI (ts:=[.slot 6]) 281509890105295 Tryz.func330 ?_;refine bw 2 (ai @rl @ae) @ae (cU) @ae ?_;refine wz ?_;refine nI @ae (cB) ?_;refine dT (aj4 (eq_true (by unfold ak;omega):((Z:Int)<=(ak:Int))=True) @Tbx @tl @ae) (ai @bD @ae) ?_;generalize List.replicate Z 0=T0 at qU ⊢;have F:=@ae;refine gL (ι:=Nat × List Nat) [9,10,11,12,24,29,35,48] [9] (fun x=>[(10,A.d (.one (.lit (.int .i64 x.1)))),(9,.buf 9)]) (fun x=>[(9,.buf none 3 1 (nR x.2))]) (fun x=>1<=x.1∧x.1<=Z∧jF g R sets x.1 x.2) (fun x=>Z - x.1) ((1,T0)) (⟨Tai _,om,qU⟩) (fun x hx=>?_)
 clear qU T0;obtain ⟨m,T⟩:=x;obtain ⟨iy,sS,hT⟩:=hx;simp only at iy sS hT;dsimp only;refine bz 5 @ae @ae (cB) ?_;by_cases sc:m < Z;rotate_left
 ·obtain rfl:m=Z:=by omega
  have nl:=fr (l:=T);rw [tT _ _ hT] at nl;refine yH fun w1=>?_;refine fR (ai (lF m m) @ae) ?_;refine bz 16 @ae @ae (cB) ?_;exact bK (aj7 @nl (fX (l:=T)) (e6 ((yf _ _ hT (m - 1) om om).1 om)) @w1 (eq_true om:(m - 1 < m)=True) @bD @ae) @ae
 have hw:=bI (k:=m) om;refine yH fun w1=>?_;have ba2:=za (a:=m - 1) (b:=m) om om;have i0:(m < Z)=True:=eq_true sc;have hz:=qn _ _ hT iy sc;have uX:=zG _ _ hT sc;refine dT (ai (lT m Z) @ae) @ae ?_;have F:=ai (by rw [hz]:nR (T.set m 0)=nR T) @ae;refine gL (ι:=Nat × Nat) [9,11,29,35] [9] (fun y=>[(11,A.d (.one (.lit (.int .i64 y.1)))),(9,.buf 9)]) (fun y=>[(9,.buf none 3 1 (nR (T.set m y.2)))]) (fun y=>y.1<=sets.length∧(∀ q,m=2 ^ q->(q < y.1->y.2=ig g R sets m))∧((∀ q,q < y.1->m≠2 ^ q)->y.2=0)) (fun y=>sets.length - y.1) ((0,0)) (⟨om,fun q _ h=>om,fun _=>rfl⟩) (fun y hy=>?_)
 obtain ⟨i,v⟩:=y;obtain ⟨hi,sW,sX⟩:=hy;simp only at hi sW sX;dsimp only;by_cases ci:i < sets.length
 ·have dZ:=bI (k:=i) om;have cBi:=ZiK (k:=i) om;refine bz 10 (ai (lT i sets.length) @ae) @ae (cBi) ?_;by_cases e:m=2 ^ i
  ·have q4:((m:Int)=((2 ^ i:Nat):Int))=True:=eq_true (by rw [e]);obtain ⟨s,BV⟩:∃ s,sets[i]?=some s:=⟨_,Taa ci⟩;have hbv:ig g R sets m=s:=by rw [e];unfold ig;exact Zw3 BV (hs s (Tac BV))
   have r1:=e6 BV;have nl:=fr (l:=T.set m v);rw [Taz,tT _ _ hT] at nl;have nr:=fX (l:=T.set m v);have g1:(nR (T.set m v))[m]?=some [.lit (.int .i64 v)]:=e6 (Tbn (by rw [tT _ _ hT];exact sc));have ns:=fun x=>qJ (l:=T.set m v) m x;simp only [List.set_set] at ns;have i1:(i < sets.length)=True:=eq_true ci;have ue:(∀ q,q < i+1->m≠2 ^ q)->s=0:=fun h=>absurd e (h i om);clear cBi;generalize 2 ^ i=M at *
   refine fR (ai @q4 @ae) ?_;have F:=aj12 @dZ @r1 @rl @rr @nl @nr @g1 @ns @i0 @i1 @bD @ae;refine gG ?_;exact ⟨(i+1,s),⟨ci,fun q h1 h2=>hbv.symm,ue⟩,gw,gw,om⟩
  have q4:((m:Int)=((2 ^ i:Nat):Int))=False:=eq_false om
  have hv3:∀ q,m=2 ^ q->(q < i+1->v=ig g R sets m):=fun q h1 h2=>sW q h1 (by
   by_cases h3:q=i
   ·subst h3;exact absurd h1 e
   ·omega)
  have hv4:(∀ q,q < i+1->m≠2 ^ q)->v=0:=fun h=>sX fun q h1=>h q om;clear cBi;refine fR (ai @q4 @ae) ?_;have F:=ai @dZ @ae;refine gG ?_;exact ⟨(i+1,v),⟨ci,hv3,hv4⟩,gw,gw,om⟩
 obtain rfl:i=sets.length:=by omega
 have q3:=lF sets.length sets.length;have hz:=qn _ _ hT iy sc;have ct:(m - 1) &&& m<=m - 1:=Nat.and_le_left;refine fG (aj5 @q3 @w1 @ba2 @bD @ae) ?_;by_cases hA:(m - 1) &&& m=0
 ·obtain ⟨q,rfl⟩:=Zxa om hA;have hv:=sW q rfl (ro q sc);subst hv;rw [hA];have F:=@ae;refine gL (ι:=Nat) [12,48] [] (fun z=>[(12,A.d (.one (.lit (.int .i64 z))))]) (fun z=>[]) (fun z=>z=0) (fun z=>z) (0) (rfl) (fun z hz=>?_);subst hz;have q4:=lF 0 (0:Nat);generalize 2 ^ q=M at *;have F:=aj3 @q4 @hw @ae;refine gG ?_;exact ⟨(M+1,T.set M (ig g R sets M)),⟨om,om,uX⟩,gw,gw,om⟩
 have hnp:∀ i,m≠2 ^ i:=fun i e=>hA (by subst e;exact Zw9 i);have hv:=sX fun q _=>hnp q;subst hv;refine m250 fun fg i8=>?_;have F:=@ae;refine gL (ι:=Nat × Nat) [9,12,48] [9] (fun z=>[(12,A.d (.one (.lit (.int .i64 z.1)))),(9,.buf 9)]) (fun z=>[(9,.buf none 3 1 (nR (T.set m z.2)))]) (fun z=>z.1 < m∧z.1 &&& m=z.1∧z.2=bE (xP R sets g.sorts.names.length m z.1) g.sorts.names.length) (fun z=>z.1) (((m - 1) &&& m,0)) (⟨om,by rw [Nat.and_assoc,Nat.and_self],fg.symm⟩) (fun z hz=>?_)
 obtain ⟨p,v⟩:=z;obtain ⟨sT,oB,hv⟩:=hz;simp only at sT oB hv;refine m30 fun mY q3 wp bap bx hxp qu hTp hTx e=>?_
 have cR:=cG [ig g R sets p,ig g R sets (m ^^^ p)] (fun d hd=>mu d hd) (by simp) (fun s hs=>by
  simp only [Tbg,List.not_mem_nil,or_false] at hs;rcases hs with rfl | rfl <;> exact yk _)
 refine m131 fun cR rv eO=>?_;generalize bE (fun b=>j7 R (ig g R sets p) (ig g R sets (m ^^^ p)) b) g.sorts.names.length=tw at cR eO;refine m53 fun nl nr g1 g2 g3 ns i2 i3=>?_;clear e hv i8;refine bw 15 (ai @q3 @ae) (aj14 @nl @nr @g1 @g2 @g3 @i0 @i2 @i3 @bx @h0 @ho @bH @bD @ae) (cR) (aj8 @nl @nr @g1 @eO @ns @i0 @bD @ae) ?_;have F:=aj3 @wp @bap @ae;exact m119
end
theorem m255 {p:Prop} (h:p:=by
 rw [hA.nas ha];exact (hg.decls o (Tac ho)).ar d hA.fst):p:=h
theorem m230 {p:Prop} (h:p:=by
 obtain ⟨a,ha,rfl⟩:=Tbi.1 hs;exact ZfM hg (cd a ha).node):p:=h
theorem m224 {p:Prop} (h:p:=by
 exact li fun b _=>by unfold qA lX;rw [if_neg (by simp [ha]),hc];simp):p:=h
section
variable {g:Sgn}
theorem AppOk.len7 (hg:SgnOk g) {t:Tm} {o:Opr} {d:Dcl} (hA:AppOk g t o d):t.args.length<=7:=by
 cases ha:o.assoc with
 | true=>exact (hA.asc ha).2
 | false =>
  rw [hA.nas ha];have:=(hg.decls o (Tac hA.at')).ar d hA.fst;omega
theorem AppOk.dlen (hg:SgnOk g) {t:Tm} {o:Opr} {d:Dcl} (hA:AppOk g t o d) (ha:o.assoc=false):∀ f∈o.decls,f.args.length=t.args.length:=by
 intro f hf;rw [hA.nas ha];exact ((hg.decls o (Tac hA.at')).all d hA.fst f hf).len
theorem ZoG {t a:Tm} {i:Nat} (h:t.args[i]?=some a):(t.args.take i).map (ao g)++[ao g a]=(t.args.take (i+1)).map (ao g):=by
 rw [List.take_add_one,h,Tbv];rfl
theorem ZuT (hg:SgnOk g):∀ (n:Nat) {t:Tm},am t < n->dt g t->az e0 309 [.agg (bN g),.agg (an t)] [.one (.lit (.int .i64 ((ao g t:Nat):Int)))]:=by
 intro n
 induction n with
 | zero=>exact fun {t} h _=>absurd h om
 | succ n IH =>
 intro t bO hf;obtain ⟨nS,cd,_⟩:=nv.1 hf;have cU:=Zh9 hg.sorts.n8 hg.sorts.m16 (SortsOk.subsIn hg.sorts.subs);rw [fZ] at cU;by_cases co:t.op=-1
 ·have hv:oh g t:=nS.resolve_right fun ⟨o,d,hA⟩=>by have:=hA.lo;omega
  have q1:(t.op=-1)=True:=eq_true co;obtain ⟨k,hk⟩:∃ k:Nat,t.sort=k:=⟨t.sort.toNat,by have:=hv.2.2.1;omega⟩;have tZ:=Zju hg.sorts hv.2.2.1 hv.2.2.2.1;have tZ:=e6 tZ.1;rw [(Zja (g:=g) co)];have ul:=fr (l:=up g.sorts);rw [(wO (SortsOk.subsIn hg.sorts.subs)).1] at ul;have i0:0<=t.sort:=hv.2.2.1;have i1:(t.sort.toNat < g.sorts.names.length)=True:=eq_true (by have:=hv.2.2.2.1;omega)
  rw [bN];refine gI (ts:=[.slot 4]) 4629704814991770879 Tryz.func309 ?_;refine bz 2 (ai @q1 @ae) @ae (cU) ?_;exact bK (aj6 @i0 @i1 @ul (fX (l:=up g.sorts)) @tZ @ae) @ae
 have q1:(t.op=-1)=False:=eq_false co;obtain ⟨o,d,hA⟩:∃ o d,AppOk g t o d:=nS.resolve_left fun hv=>co hv.1;have h0:=hA.lo;have ho:=hA.at';have h7:=hA.len7 hg
 have ih:∀ a∈t.args,az e0 309 [.agg (bN g),.agg (an a)] [.one (.lit (.int .i64 ((ao g a:Nat):Int)))]:=fun a ha=>IH (by
  have h1:=oK t;have h2:=qd ha;omega) (cd a ha)
 clear IH;have e:=Zjb co ho;rw [e];have kf:∀ s∈t.args.map (ao g),s < 2 ^ g.sorts.names.length:=fun s hs=>by
  exact m230
 have fh:(t.args.map (ao g)).length=t.args.length:=Tay _;have cB:=fun (ha:o.assoc=true)=>ZCj hg h0 ho ha (t.args.map (ao g)) (by rw [fh];have:=(hA.asc ha).1;omega) (by rw [fh];exact h7) kf;have cC:=fun (ha:o.assoc=true)=>ZuS hg h0 ho ha (t.args.map (ao g)) (by rw [fh];have:=(hA.asc ha).1;omega) (by rw [fh];exact h7) kf;rw [bN] at ih cB cC ⊢;have kY:nR []=[]:=rfl;have rt:t.args.take 0=[]:=rfl
 refine gI (ts:=[.slot 4]) 4629704814991770879 Tryz.func309 ?_;refine fG (ai @q1 @ae) ?_;have F:=aj3 @kY @rt @ae;refine gL (ι:=Nat) [5,6,23] [5] (fun i=>[(6,A.d (.one (.lit (.int .i64 i)))),(5,.buf 5)]) (fun i=>[(5,.buf none 3 1 (nR ((t.args.take i).map (ao g))))]) (fun i=>i<=t.args.length) (fun i=>t.args.length - i) (0) (Taj _) (fun i hi=>?_);have nl:=fr (l:=(t.args.take i).map (ao g))
 rw [Tay,List.length_take_of_le hi] at nl;have nr:=fX (l:=(t.args.take i).map (ao g));by_cases ci:i < t.args.length
 ·have q2:=lT i t.args.length;obtain ⟨a,lw⟩:∃ a,t.args[i]?=some a:=⟨_,Taa ci⟩;have cA:=ih a (Tac lw);have ns:=Zjo (l:=(t.args.take i).map (ao g)) (ao g a);rw [ZoG lw] at ns;refine bw 7 (ai @q2 @ae) (aj3 @lw @bD @ae) (cA) (aj5 @nl @nr @ns (eq_true (by unfold ak;omega):(i+1<=ak)=True) @ae) ?_;have F:=ai (bI (k:=i) om) @ae;refine gG ?_;exact ⟨i+1,ci,gw,gw,om⟩
 obtain rfl:i=t.args.length:=by omega
 have q2:=lF t.args.length t.args.length;rw [Tap] at nl nr ⊢;have au:=fun b=>ZfM hg (t:=b);have hD:=hA.dlen hg;rw [<- fh] at hD;have cF:=fun (ha:o.assoc=false)=>ZmI hg h0 ho (t.args.map (ao g)) (hD ha);have h2:=Opr.deg2 hg ho;rw [bN] at cF;clear hi ci
 cases ha:o.assoc with
 | true =>
  cases hc:o.comm with
  | true =>
   have cB:=cB ha;have e2:ig g (bY g o) (t.args.map (ao g)) (2 ^ (t.args.map (ao g)).length - 1)=jl g o (t.args.map (ao g)):=by
    unfold ig jl;exact li fun b _=>by unfold qA;rw [if_pos ha,if_pos hc]
   rw [e2] at cB;refine bz 10 (aj7 @q2 @ha @hc @h0 @ho @bH @ae) @ae (cB) ?_;exact bK @ae @ae
  | false =>
   have cC:=cC ha;have e2:e7 g o (t.args.map (ao g)) 0 (t.args.map (ao g)).length=jl g o (t.args.map (ao g)):=by
    unfold e7 jl;exact li fun b _=>by unfold qA;rw [if_pos ha,if_neg (by simp [hc])]
   rw [e2] at cC;refine bz 12 (aj7 @q2 @ha @hc @h0 @ho @bH @ae) @ae (cC) ?_;exact bK @ae @ae
 | false =>
  have h3:t.args.length<=3:=by
   exact m255
  have cF:=cF ha (by rw [fh];exact h3) kf
  cases hc:o.comm with
  | true =>
   have e2:bE (pl g o (t.args.map (ao g))) g.sorts.names.length ||| bE (pl g o (t.args.map (ao g)).reverse) g.sorts.names.length=jl g o (t.args.map (ao g)):=by
    unfold jl;rw [AC];exact m224
   have eO:=xC (mH (nz (pl g o (t.args.map (ao g))) g.sorts.names.length) hg.sorts.n8) (mH (nz (pl g o (t.args.map (ao g)).reverse) g.sorts.names.length) hg.sorts.n8);rw [e2] at eO;have cG:=ZmI hg h0 ho (t.args.map (ao g)).reverse (by rw [List.length_reverse];exact hD ha) (by rw [List.length_reverse,fh];exact h3) (fun s hs=>kf s (List.mem_reverse.1 hs));rw [bN] at cG;have sa:(t.args.map (ao g)).length=2:=by rw [fh,hA.nas ha];exact h2 (.inr (.inl hc)) d (Tac hA.fst)
   clear e2 cB cC hD h2 ih cd e;rw [fh] at sa;generalize jl g o (t.args.map (ao g))=V at eO ⊢;generalize bE (pl g o (t.args.map (ao g))) g.sorts.names.length=V1 at eO cF;generalize bE (pl g o (t.args.map (ao g)).reverse) g.sorts.names.length=V2 at eO cG;have hl3:=fh;rw [sa] at hl3 nl;obtain ⟨s1,s2,hs12⟩:∃ s1 s2,t.args.map (ao g)=[s1,s2]:=by
    match t.args.map (ao g),hl3 with
    | [x,y],_=>exact ⟨x,y,rfl⟩
   rw [hs12] at cF cG nr nl ⊢;simp only [List.reverse_cons,List.reverse_nil,Tah,List.singleton_append] at cG;have cG:=Zhr cG;have g0:(nR [s1,s2])[0]?=some [.lit (.int .i64 s1)]:=rfl;have g1:(nR [s1,s2])[1]?=some [.lit (.int .i64 s2)]:=rfl;refine fN 14 (aj7 @q2 @ha @hc @h0 @ho @bH @ae) ?_;refine rI (wm [5] (by simp only [pz,↓reduceIte,Nat.reduceEqDiff,Nat.reduceAdd,Nat.reduceSub,Nat.reduceMul,Nat.reduceLeDiff,Nat.reduceBEq,Tam,decide_true,decide_false,Int.reduceLE,Int.reduceToNat,Int.reduceLT,Int.reduceEq,eq_self,Nat.reduceShiftRight,Nat.reduceAnd,Nat.reduceBneDiff,ae];exact rfl)) fun σ' hσ=>?_
   subst hσ;refine nI @ae (cF) ?_;refine fC (aj5 @nl @nr @g0 @g1 @ae) (cG) ?_;exact bK (ai @eO @ae) @ae
  | false =>
   have e2:bE (pl g o (t.args.map (ao g))) g.sorts.names.length=jl g o (t.args.map (ao g)):=by
    unfold jl;exact m224
   rw [e2] at cF;refine bz 15 (aj7 @q2 @ha @hc @h0 @ho @bH @ae) @ae (cF) ?_;exact bK @ae @ae
end
theorem m42 {p:Prop} (h:p:=by
 refine il 19 @ae 6 (ai @gH @ae) ?_;refine (have F:=ae;gUp 1000 ZhT xA hnone ?_);refine dT @ae @ae ?_;exact (have F:=ae;eU (R:=Ap g b t l) [1000] hR (hp:=rfl))):p:=h
section
variable {g:Sgn}
def Ap (g:Sgn) (b:Nat) (t:Tm) (l:List (ByteArray × Value)) (r:List D) (pm:List Bk):Prop:=∃ l',r=[.one (.lit (.int .i64 (ao g t:Nat)))]∧pm=[eI b l']∧lg g l'∧gV g (am t) l l'
theorem ZHs:∀ (b:Nat) (l:List (ByteArray × Value)),pinned (eI b l)=true:=fun _ _=>rfl
theorem Zlp (hg:SgnOk g) (b:Nat):∀ (n:Nat) {t:Tm},am t < n->am t<=60->dt g t->∀ l,lg g l->aR e0 160 [.one (.ptr (dJ g (.lit (.map (some b))))),.agg (an t)] [eI b l] (Ap g b t l):=by
 intro n
 induction n with
 | zero=>exact fun {t} h _ _ _ _=>absurd h om
 | succ n IH =>
 intro t bO h60 hf l hM;obtain ⟨nS,cd,_⟩:=nv.1 hf;by_cases co:t.op=-1
 ·have hv:oh g t:=nS.resolve_right fun ⟨o,d,hA⟩=>by have:=hA.lo;omega
  have q1:(t.op < 0)=True:=eq_true om;have tZ:=Zju hg.sorts hv.2.2.1 hv.2.2.2.1;have tZ:=e6 tZ.1;have e:=Zja (g:=g) co;have ul:=fr (l:=up g.sorts);rw [(wO (SortsOk.subsIn hg.sorts.subs)).1] at ul;have ur:=fX (l:=up g.sorts);have i0:0<=t.sort:=hv.2.2.1;have i1:(t.sort.toNat < g.sorts.names.length)=True:=eq_true (by have:=hv.2.2.2.1;omega);have hR:Ap g b t l [.one (.lit (.int .i64 (vZ g t.sort:Nat)))] [eI b l]:=⟨l,by rw [e],rfl,hM,gV.refl⟩
  clear IH cd;unfold nR at ul ur tZ;refine dK (ts:=[.slot 4]) [1000] 604463053930783360175611 Tryz.func160 ?_;refine fG (aj8 @q1 @i0 @i1 @ul @ur @tZ @gH @ae) ?_;exact (have F:=ae;eU (R:=Ap g b t l) [1000] hR (hp:=rfl))
 have q1:(t.op < 0)=False:=eq_false (by
  obtain ⟨o,d,hA⟩:∃ o d,AppOk g t o d:=nS.resolve_left fun hv=>co hv.1;have:=hA.lo;omega)
 obtain ⟨o,d,hA⟩:∃ o d,AppOk g t o d:=nS.resolve_left fun hv=>co hv.1;refine dK (ts:=[.slot 4]) [1000] 604463053930783360175611 Tryz.func160 ?_;refine bw 3 (ai @q1 @ae) @ae ((ZCh hg hf h60)) @ae ?_;refine il 4 @ae 5 (ai @gH @ae) ?_
 cases nO:jf l (jx t) with
 | some v =>
  have hv:=hM t hf v nO;subst hv;have hR:Ap g b t l [.one (.lit (.int .i64 (ao g t:Nat)))] [eI b l]:=⟨l,rfl,rfl,hM,gV.refl⟩;refine (have F:=ae;gLo 1000 ZhT xA ZCi (v:=.int .i64 (ao g t:Nat)) (f:=true) (by rw [nO];rfl) (by rw [nO];rfl) ?_);refine dT @ae @ae ?_;exact (have F:=ae;eU (R:=Ap g b t l) [1000] hR (hp:=rfl))
 | none =>
 refine (have F:=ae;gLo 1000 ZhT xA ZCi (v:=.int .i64 0) (f:=false) (by rw [nO];rfl) (by rw [nO];rfl) ?_);have h7:=hA.len7 hg;have kY:nR []=[]:=rfl;have rt:t.args.take 0=[]:=rfl;refine dT @ae @ae ?_;have F:=aj3 @kY @rt @ae;refine gL (ι:=Nat × List (ByteArray × Value)) [8,10,41,42] [8,1000] (fun x=>[(41,A.d (.one (.lit (.int .i64 x.1)))),(8,.buf 8)]) (fun x=>[(8,.buf none 3 1 (nR ((t.args.take x.1).map (ao g)))),(1000,eI b x.2)]) (fun x=>x.1<=t.args.length∧lg g x.2∧gV g (am t - 1) l x.2) (fun x=>t.args.length - x.1) ((0,l)) (⟨Taj _,hM,gV.refl⟩) (fun x hx=>?_)
 obtain ⟨i,l1⟩:=x;obtain ⟨hi,hM1,hG1⟩:=hx;simp only at hi hM1 hG1;dsimp only;have nl:=fr (l:=(t.args.take i).map (ao g));rw [Tay,List.length_take_of_le hi] at nl;have nr:=fX (l:=(t.args.take i).map (ao g));by_cases ci:i < t.args.length
 ·have q2:=lT i t.args.length;obtain ⟨a,lw⟩:∃ a,t.args[i]?=some a:=⟨_,Taa ci⟩;have wY:=Tac lw;have zQ:=oK t;have xi:=qd wY;have cA:=IH (t:=a) om om (cd a wY) l1 hM1;have ns:=Zjo (l:=(t.args.take i).map (ao g)) (ao g a);rw [ZoG lw] at ns;have dg:(i+1<=ak)=True:=eq_true (by unfold ak;omega);have hw:=bI (k:=i) om;refine nJ 11 (aj4 @q2 @lw @bD @ae) ?_;have F:=aj5 @ZHs @gH @lw @bD @ae;refine bR [1000] [1000] (hpn:=rfl) (cA) ?_
  rintro r pm ⟨l2,rfl,rfl,hM2,hG2⟩;refine m7 ?_;refine fR (aj5 @nl @nr @ns @dg @ae) ?_;have F:=ai @hw @ae;refine gG ?_;exact ⟨(i+1,l2),⟨ci,hM2,hG1.trans (hG2.mono om)⟩,gw,gw,om⟩
 obtain rfl:i=t.args.length:=by omega
 have q2:=lF t.args.length t.args.length;rw [Tap] at nl nr ⊢;clear IH;have h0:=hA.lo;have ho:=hA.at';have e:=Zjb co ho;have hnone:jf l1 (jx t)=none:=hG1 t hf (by have:=oK t;omega) nO;have hR:Ap g b t l [.one (.lit (.int .i64 (ao g t:Nat)))] [eI b (l1++[(jx t,.int .i64 (ao g t:Nat))])]:=⟨_,rfl,rfl,hM1.snoc hg hf,(hG1.mono om).trans (gV.snoc hg hf)⟩;have kf:∀ s∈t.args.map (ao g),s < 2 ^ g.sorts.names.length:=fun s hs=>by
  exact m230
 have fh:(t.args.map (ao g)).length=t.args.length:=Tay _;have h3:o.assoc=false->t.args.length<=3:=fun ha=>by
  exact m255
 have hD:=hA.dlen hg;have h2:=Opr.deg2 hg ho;have cR:=fun h1 h2=>Zje (mc:=.lit (.map (some b))) hg h0 ho (t.args.map (ao g)) h1 h2 kf;have cA:=fun h1 h2 h3=>ZpI (mc:=.lit (.map (some b))) hg h0 ho h1 h2 (t.args.map (ao g)) h3 (by rw [fh];exact h7) kf;have cW:=fun h1 h2 h3=>ZpJ (mc:=.lit (.map (some b))) hg h0 ho h1 h2 (t.args.map (ao g)) h3 (by rw [fh];exact h7) kf;have eR:=ZGu hg ho (sets:=t.args.map (ao g))
 rw [fh] at cR cA cW eR;have eA:o.assoc=true->o.comm=true->ig g (bY g o) (t.args.map (ao g)) (2 ^ t.args.length - 1)=ao g t:=fun ha hc=>by
  rw [e];unfold ig jl;exact li fun b _=>by unfold qA;rw [if_pos ha,if_pos hc,fh]
 have eC:o.assoc=true->o.comm=false->e7 g o (t.args.map (ao g)) 0 t.args.length=ao g t:=fun ha hc=>by
  rw [e];unfold e7 jl;exact li fun b _=>by unfold qA;rw [if_pos ha,if_neg (by simp [hc]),fh]
 rw [<- e] at eR;clear cd e kf;by_cases ct:t.args.length<=2
 ·have q3:((t.args.length:Int)<=2)=True:=eq_true om
  have cR:=cR (by
   cases ha:o.assoc with
   | true=>exact fun f hf=>by rw [h2 (.inl ha) f hf];have:=(hA.asc ha).1;omega
   | false=>exact hD ha) om
  rw [eR fun ha=>by have:=(hA.asc ha).1;omega] at cR;refine bw 16 (aj5 @q2 @q3 @nl @nr @ae) (ai @gH @ae) (cR) @ae ?_;exact m42
 have q3:((t.args.length:Int)<=2)=False:=eq_false om
 cases ha:o.assoc with
 | false =>
  have cR:=cR (hD ha) (h3 ha);rw [eR fun de=>by rw [ha] at de;cases de] at cR;refine bw 16 (aj10 @q2 @q3 @nl @nr @ha @h0 @ho @gH @bH @ae) (ai @gH @ae) (cR) @ae ?_;exact m42
 | true =>
  have h1:1<=t.args.length:=om
  cases hc:o.comm with
  | true =>
   have cA:=cA ha hc h1;rw [eA ha hc] at cA;refine bw 18 (aj11 @q2 @q3 @nl @nr @ha @hc @h0 @ho @gH @bH @ae) (ai @gH @ae) (cA) @ae ?_;exact m42
  | false =>
   have cW:=cW ha hc h1;rw [eC ha hc] at cW;refine bw 14 (aj11 @q2 @q3 @nl @nr @ha @hc @h0 @ho @gH @bH @ae) (ai @gH @ae) (cW) @ae ?_;exact m42
end
section
variable {g:Sgn}
noncomputable def fP (g:Sgn) (t:Tm):Nat:=if fA g=true∧d4 g t=true then ao g t else 0
theorem ZoH (aj:jk g) {t:Tm} (ht:aK t) (hb:am t<=fc):az e0 256 [.agg (bN g),.agg (an t)] [.one (.lit (.int .i64 ((fP g t:Nat):Int)))]:=by
 have cT:=yV aj ht hb;unfold fP;by_cases h:fA g=true∧d4 g t=true
 ·have e:(fA g && d4 g t)=true:=by rw [h.1,h.2];rfl
  have cS:=ZuT (tE.1 h.1) _ (Tan _) (mP.1 h.2).form;rw [if_pos h];rw [e] at cT;rw [bN] at cT cS ⊢;refine gI (ts:=[.slot 4]) 287 Tryz.func256 ?_;refine bw 1 @ae @ae (cT) @ae ?_;refine bz 3 @ae @ae (cS) ?_;exact bK @ae @ae
 ·have e:(fA g && d4 g t)=false:=by
   cases h1:fA g with
   | false=>rfl
   | true =>
    cases h2:d4 g t with
    | false=>rfl
    | true=>exact absurd ⟨h1,h2⟩ h
  have z0:(((0:Nat):Int))=0:=rfl;rw [if_neg h];rw [e] at cT;rw [bN] at cT ⊢;refine gI (ts:=[.slot 4]) 287 Tryz.func256 ?_;refine bz 1 @ae @ae (cT) ?_;exact bK @ae (ai @z0 @ae)
def RAlg (g:Sgn) (r:List D) (pm:List Bk):Prop:=∃ b:Nat,r=[.one (.ptr (dJ g (.lit (.map (some b))))),.one (.lit (.bool true))]∧pm=[eI b []]
theorem ZuU (aj:jk g) (hg:SgnOk g):aR e0 45 [.agg (bN g)] [] (RAlg g):=by
 have hs:fA g=true:=v8 hg;have c:=Zi6 aj;rw [hs,bN] at c;have c2:=Zic aj.1 hg.sorts;rw [fZ,tH] at c2;rw [bN];refine dK (ts:=[.slot 2,.slot 3]) [] 287 Tryz.func45 ?_;refine bw 1 @ae @ae (c) @ae ?_;refine bw 3 @ae @ae (c2) @ae ?_;refine il 4 @ae 2 @ae ?_;refine gMk fun b=>?_
 refine fR @ae ?_;refine rI (wm [19] (by simp only [pz,↓reduceIte,Nat.reduceEqDiff,Nat.reduceAdd,Nat.reduceSub,Nat.reduceMul,Nat.reduceLeDiff,Nat.reduceBEq,Tam,decide_true,decide_false,Int.reduceLE,Int.reduceToNat,Int.reduceLT,Int.reduceEq,eq_self,Nat.reduceShiftRight,Nat.reduceAnd,Nat.reduceBneDiff,ae];exact rfl)) fun σ' hσ=>?_;subst hσ;exact (have F:=ae;eU (R:=RAlg g) [17] ⟨b,rfl,rfl⟩ (hp:=rfl))
end
theorem m231 {p:Prop} (h:p:=by
 obtain rfl:j=j':=by omega
 rw [hp] at h1;injection h1 with h1;subst h1;exact gQ):p:=h
section
variable {g:Sgn} {l:List Bd}
theorem oh.term {t:Tm} (h:oh g t):TermOk g t:=by
 have uY:t.args=[]:=h.2.2.2.2;have hf:dt g t:=nv.2 ⟨.inl h,(by rw [uY];intro a ha;cases ha),.inl h.1⟩;have h1:=oK t;rw [uY,Zqq] at h1;have h2:=Zoi t;exact ⟨om,om,hf⟩
theorem TermOk.var {t:Tm} (h:TermOk g t) (ho:t.op=-1):oh g t:=h.form.node.resolve_right fun ⟨o,d,hA⟩=>by have:=hA.lo;omega
theorem ZuV (aj:jk g) (hl:wM l) (hv:∀ y∈l,am y.var<=fc) (ht:∀ y∈l,am y.to<=fc):az e0 171 [.agg (bN g),.one (.sl (je l))] [.one (.lit (.bool (fA g && ol g l)))]:=by
 have cS:=Zg1 aj;have bl:=xx l;have bg:=C4 l;have hT:=fun y (hy:y∈l)=>yV aj (hl y hy).1 (hv y hy);have hO:=fun y (hy:y∈l)=>ZoH aj (hl y hy).2 (ht y hy);have hC:=fun y z (hy:y∈l) (hz:z∈l)=>CY (hl y hy).1 (hl z hz).1;rw [bN] at cS hT hO ⊢;have bb:ZaB 8 (je l)=true:=by
  exact Cd
 refine gI (ts:=[.slot 4]) 1152991873351303287 Tryz.func171 ?_;refine bz 1 @ae @ae (cS) ?_
 cases hs:fA g with
 | false =>
  exact bK @ae @ae
 | true =>
 rw [Bool.true_and];by_cases h8:l.length<=8;rotate_left
 ·have hf:ol g l=false:=Zg7 fun h=>h8 h.len;rw [hf];exact bK (aj3 @bl (lT 8 l.length) @ae) @ae
 refine dT (aj3 @bl (lF 8 l.length) @ae) @ae ?_;have F:=@ae;refine gL (ι:=Nat) [4,5,6,18,46,60] [] (fun i=>[(5,A.d (.one (.lit (.int .i64 i))))]) (fun i=>[]) (fun i=>i<=l.length∧∀ (j:Nat) y,j < i->l[j]?=some y->SbsAt g l j y) (fun i=>l.length - i) (0) (⟨Taj _,fun j y h=>absurd h om⟩) (fun i hi=>?_);obtain ⟨hi,aD⟩:=hi;by_cases ci:i < l.length;rotate_left
 ·obtain rfl:i=l.length:=by omega
  have hf:ol g l=true:=Zj5 ⟨h8,fun j y hj=>aD j y (Tad.1 hj).1 hj⟩;rw [hf];exact fD (aj3 (lF l.length l.length) @bl @ae)
 have q2:=lT i l.length;obtain ⟨y,hy⟩:∃ y,l[i]?=some y:=⟨_,Taa ci⟩;have B9:=Tac hy;have bS:¬ SbsAt g l i y->ol g l=false:=fun h=>Zg7 fun h'=>h (h'.at' i y hy);have cT:=hT y B9;have cO:=hO y B9;rw [hs,Bool.true_and] at cT;refine fN 7 (aj8 @q2 @bl @bb @bg @hy @gN @bD @ae) ?_;by_cases co:y.var.op=-1;rotate_left
 ·have hf:=bS fun h=>co h.var.1;rw [hf];exact fD (aj3 (eq_false co:(y.var.op=-1)=False) @gN @ae)
 refine nI (aj3 (eq_true co:(y.var.op=-1)=True) @gN @ae) (cT) ?_;by_cases hTv:d4 g y.var=true;rotate_left
 ·have hf:=bS fun h=>hTv (wf h.var.term);rw [hf,(by simpa using hTv:d4 g y.var=false)];exact bK (ai @gN @ae) @ae
 have o9:=(mP.1 hTv).var co;have hg:=tE.1 hs;rw [hTv];refine fC (ai @gN @ae) (cO) ?_;obtain ⟨k,hk⟩:∃ k:Nat,y.var.sort=k:=⟨y.var.sort.toNat,by have:=o9.2.2.1;omega⟩;have hk8:k < 8:=by have:=o9.2.2.2.1;have:=hg.sorts.n8;omega
 have yv:fP g y.to < 4611686018427387904:=by
  unfold fP;split
  ·next h=>exact mH (ZfM hg (mP.1 h.2).form.node) hg.sorts.n8
  ·omega
 have cH:=Zhn (k:=k) yv om;have hte:fq (fP g y.to) k=true ↔ TermOk g y.to∧(ao g y.to).testBit y.var.sort.toNat=true:=by
  rw [fq,(om:y.var.sort.toNat=k)];unfold fP;by_cases h:d4 g y.to=true
  ·rw [if_pos ⟨hs,h⟩];exact ⟨fun h1=>⟨mP.1 h,h1⟩,fun h1=>h1.2⟩
  ·rw [if_neg fun h1=>h h1.2,Nat.zero_testBit];exact ⟨fun h1=>(by cases h1),fun h1=>absurd (wf h1.1) h⟩
 rw [<- hk] at cH;refine fC (ai @gN @ae) (cH) ?_
 cases hb:fq (fP g y.to) k with
 | false =>
  have hf:=bS fun h=>by rw [hte.2 ⟨h.to',h.srt⟩] at hb;cases hb
  rw [hf];exact bK (ai @gN @ae) @ae
 | true =>
 obtain ⟨b1,b2⟩:=hte.1 hb;refine fR (ai @gN @ae) ?_;have dZ:=bI (k:=i) om;have dh:(∀ (j:Nat) p,i=j+1->l[j]?=some p->aH p.var y.var < 0)->i+1<=l.length∧∀ (j:Nat) z,j < i+1->l[j]?=some z->SbsAt g l j z:=fun ho=>⟨ci,fun j z h1 h2=>by
  by_cases e:j=i
  ·subst e;rw [hy] at h2;injection h2 with h2
   subst h2;exact ⟨o9,ho,b1,b2⟩
  ·exact aD j z om h2⟩
 by_cases nP:i=0
 ·subst nP;have F:=aj4 (lF 0 (0:Nat)) @dZ @gN @ae;refine gG ?_;exact ⟨0+1,dh fun j p h=>absurd h om,gw,gw,om⟩
 obtain ⟨j,rfl⟩:∃ j,i=j+1:=⟨i - 1,om⟩;have q4:=lT 0 (j+1:Nat);obtain ⟨p,hp⟩:∃ p,l[j]?=some p:=⟨_,Taa om⟩;have wj:IntKind.i64.wrap (((j+1:Nat):Int) - 1)=(j:Int):=dI om om om;refine bz 9 @ae (aj10 @q4 @wj (eq_true om:(j < l.length)=True) @bl @bb @bg @hp @gN @bD @ae) ((hC p y (Tac hp) B9)) ?_;by_cases gQ:aH p.var y.var < 0
 ·have cy:=dh fun j' p' h h1=>by
   exact m231
  refine fR (aj3 (eq_false om:((0:Int)<=aH p.var y.var)=False) @gN @ae) ?_;have F:=aj3 @dZ @gN @ae;refine gG ?_;exact ⟨j+1+1,cy,gw,gw,om⟩
 ·have hf:=bS fun h=>gQ (h.ord j p rfl hp);rw [hf];exact bK (aj3 (eq_true om:((0:Int)<=aH p.var y.var)=True) @gN @ae) @ae
end
theorem m274 {X Y:Prop} (b:Y) (h:Bx Y->X:=by
 intro B0
 have cB:=cB us (fun u hu=>by
  obtain ⟨a,ha,hau⟩:=Zj4 cu u hu;exact Zjv hg hS.to' _ a (Tan _) (ht.arg ha) hau) om
 exact B0.o cB):X:=h ⟨b⟩
theorem Cq {X Y:Prop} (b:Y) (h:Bx Y->X:=by
 intro B0
 have q2:=lT i l.length;obtain ⟨y,hy⟩:∃ y,l[i]?=some y:=⟨_,Taa ci⟩;exact B0.o q2 y hy):X:=h ⟨b⟩
theorem Co {p:Prop} (h:p:=by
 refine gG ?_;exact ⟨i+1,⟨ci,eD⟩,gw,gw,om⟩):p:=h
theorem oh.eq_iff {g:Sgn} {a b:Tm} (ha:oh g a) (hb:oh g b):aH a b=0 ↔ a.name=b.name∧a.sort=b.sort:=by
 rw [n9];obtain ⟨h1,_,_,_,h2⟩:=ha;obtain ⟨h3,_,_,_,h4⟩:=hb;obtain ⟨o,n,s,l⟩:=a;obtain ⟨o',n',s',l'⟩:=b;simp only [Tm.op,Tm.args] at h1 h2 h3 h4;subst h1 h2 h3 h4;simp [Tm.name,Tm.sort]
section
variable {g:Sgn} {l:List Bd}
theorem ZqL {l:List Bd} {i:Nat} {y:Bd} (h:l[i]?=some y) (v:Tm):lq (l.drop i) v=if aH y.var v=0 then some y.to else lq (l.drop (i+1)) v:=by
 obtain ⟨hi,rfl⟩:=Tad.1 h;rw [List.drop_eq_getElem_cons hi];rfl
theorem ZuW (hl:∀ y∈l,oh g y.var) (h8:l.length<=1000) {v:Tm} (hv:oh g v):az e0 161 [.one (.sl (je l)),.agg (an v)] [.agg (an ((lq l v).getD v)),.one (.lit (.bool (lq l v).isSome))]:=by
 have bl:=xx l;have bg:=C4 l;have bb:=uP l;refine gI (ts:=[.cell 4 53,.slot 5]) 134221755 Tryz.func161 ?_;refine fG (ai @bl @ae) ?_;have F:=@ae;refine gL (ι:=Nat) [5,7,10,11,27] [] (fun i=>[(10,A.d (.one (.lit (.int .i64 i))))]) (fun i=>[]) (fun i=>i<=l.length∧lq (l.drop i) v=lq l v) (fun i=>l.length - i) (0) (⟨Taj _,rfl⟩) (fun i hi=>?_);obtain ⟨hi,eD⟩:=hi;by_cases ci:i < l.length
 rotate_left
 ·obtain rfl:i=l.length:=by omega
  have q2:=lF l.length l.length;rw [List.drop_length] at eD;have e:lq l v=none:=eD.symm;rw [e];have z1:(none:Option Tm).getD v=v:=rfl;exact fD (aj3 @q2 @z1 @ae)
 refine Cq fun q2 y hy=>?_;rw [ZqL hy] at eD;have dZ:=bI (k:=i) om;have he:=oh.eq_iff (hl y (Tac hy)) hv;by_cases h1:y.var.name=v.name;rotate_left
 ·have q3:(y.var.name.toList==v.name.toList)=false:=beq_eq_false_iff_ne.2 fun h=>h1 (toList_inj h);rw [if_neg (fun h=>h1 (he.1 h).1)] at eD;have F:=aj11 @q2 @q3 @dZ @bl @bb @bg @hy @gN @Zx0 @bD @ae;exact Co
 have q3:(y.var.name.toList==v.name.toList)=true:=by rw [h1];exact beq_self_eq_true _
 by_cases h2:y.var.sort=v.sort;rotate_left
 ·have q4:(y.var.sort=v.sort)=False:=eq_false h2;rw [if_neg (fun h=>h2 (he.1 h).2)] at eD;have F:=aj12 @q2 @q3 @q4 @dZ @bl @bb @bg @hy @gN @Zx0 @bD @ae;exact Co
 have q4:(y.var.sort=v.sort)=True:=eq_true h2;rw [if_pos (he.2 ⟨h1,h2⟩)] at eD;rw [<- eD];have z1:(some y.to).getD v=y.to:=rfl;exact fD (aj12 @q2 @q3 @q4 @z1 @bl @bb @bg @hy @gN @Zx0 @bD @ae)
theorem ZCn (hl:wM l) {v:Tm} (hv:aK v) (h8:l.length<=1000):az e0 257 [.one (.sl (je l)),.agg (an v)] [.agg (an ((lq l v).getD ck)),.one (.lit (.bool (lq l v).isSome))]:=by
 have bl:=xx l;have bg:=C4 l;have bb:=uP l;have hz:=oc;refine gI (ts:=[.cell 4 53,.slot 5]) 525435 Tryz.func257 ?_;refine fG (ai @bl @ae) ?_;have F:=@ae;refine gL (ι:=Nat) [5,6,10,19] [] (fun i=>[(6,A.d (.one (.lit (.int .i64 i))))]) (fun i=>[]) (fun i=>i<=l.length∧lq (l.drop i) v=lq l v) (fun i=>l.length - i) (0) (⟨Taj _,rfl⟩) (fun i hi=>?_);obtain ⟨hi,eD⟩:=hi;by_cases ci:i < l.length
 rotate_left
 ·obtain rfl:i=l.length:=by omega
  have q2:=lF l.length l.length;rw [List.drop_length] at eD;have e:lq l v=none:=eD.symm;rw [e];have z1:(none:Option Tm).getD ck=ck:=rfl;exact fD (aj5 @q2 @z1 @hz @bl @ae)
 refine Cq fun q2 y hy=>?_;rw [ZqL hy] at eD;have dZ:=bI (k:=i) om;refine bz 4 (aj3 @q2 @bl @ae) (aj7 @bl @bb @bg @hy @gN @bD @ae) ((tz (hl y (Tac hy)).1 hv)) ?_;by_cases h1:aH y.var v=0;rotate_left
 ·have q3:decide (aH y.var v=0)=false:=decide_eq_false h1;rw [if_neg h1] at eD;rw [q3];refine fR @ae ?_;have F:=aj3 @dZ @gN @ae;exact Co
 have q3:decide (aH y.var v=0)=true:=decide_eq_true h1;rw [if_pos h1] at eD;rw [q3,<- eD];have z1:(some y.to).getD ck=y.to:=rfl;exact bK @ae (aj8 @z1 @bl @bb @bg @hy @gN @bD @ae)
structure SbsW (g:Sgn) (l:List Bd):Prop where
 len:l.length<=1000
 var:∀ y∈l,oh g y.var
 to':∀ y∈l,TermOk g y.to
theorem SbsOk.w (h:SbsOk g l):SbsW g l:=⟨Tbe h.len (by decide),h.var,h.to'⟩
theorem SbsW.okB (hg:SgnOk g) (h:SbsW g l):wM l:=fun y hy=>⟨dt.ok hg _ _ (Tan _) (h.var y hy).term.form,dt.ok hg _ _ (Tan _) (h.to' y hy).form⟩
noncomputable def wT (g:Sgn) (l:List Bd) (t:Tm):Tm:=if t.op=-1 then (lq l t).getD t else match dO g l t.args with
 | none=>ck
 | some us=>match g.ops[t.op.toNat]? with
  | none=>ck
  | some o=>match o.decls[0]? with
   | none=>ck
   | some d=>yP g o d t.op us
theorem Zxe {t:Tm} (h:t.op=-1):wT g l t=(lq l t).getD t:=by unfold wT;rw [if_pos h]
theorem ZD7 {t:Tm} (h:t.op≠-1) (hn:dO g l t.args=none):wT g l t=ck:=by unfold wT;rw [if_neg h,hn]
theorem ZGK {t:Tm} {us:List Tm} {o:Opr} {d:Dcl} (h:t.op≠-1) (hu:dO g l t.args=some us) (ho:g.ops[t.op.toNat]?=some o) (hd:o.decls[0]?=some d):wT g l t=yP g o d t.op us:=by
 unfold wT;rw [if_neg h,hu];simp only [ho,hd]
theorem Ztm {t u:Tm} (h:ie g l t=some u):wT g l t=u:=by
 by_cases ho:t.op=-1
 ·rw [Zl6 ho,Taq] at h;rw [Zxe ho,h]
 ·rw [Dn ho] at h;unfold wT;rw [if_neg ho]
  cases h1:dO g l t.args with
  | none=>rw [h1] at h;cases h
  | some us =>
   rw [h1,Option.bind_some] at h;unfold mO at h
   cases h2:g.ops[t.op.toNat]? with
   | none=>rw [h2] at h;cases h
   | some o =>
    rw [h2] at h;simp only at h ⊢
    cases h3:o.decls[0]? with
    | none=>rw [h3] at h;cases h
    | some d =>
     rw [h3] at h;simp only at h ⊢;unfold yP;rw [h];rfl
theorem ZiU {mc:C} (hg:SgnOk g) (hS:SbsW g l):∀ (n:Nat) {t:Tm},am t < n->TermOk g t->az e0 87 [.one (.ptr (dJ g mc)),.one (.sl (je l)),.agg (an t)] [.agg (an ((ie g l t).getD ck)),.one (.lit (.bool (ie g l t).isSome))]:=by
 intro n
 induction n with
 | zero=>exact fun {t} h _=>absurd h om
 | succ n IH =>
 intro t bO ht;have hz:=oc;have h60:=ZgK ht;by_cases co:t.op=-1
 ·have z1:(some ((lq l t).getD t)).getD ck=(lq l t).getD t:=rfl;have z2:(some ((lq l t).getD t)).isSome=true:=rfl;rw [Zl6 co];refine gI (ts:=[.cell 6 53,.slot 7]) 2201036682727 Tryz.func87 ?_;refine bz 2 (ai (eq_true om:(t.op < 0)=True) @ae) @ae ((ZuW hS.var hS.len (ht.var co))) ?_;exact bK @ae (aj3 @z1 @z2 @ae)
 obtain ⟨o,d,hA⟩:=ht.form.node.resolve_left (fun hv=>co hv.1);have q1:(t.op < 0)=False:=eq_false (by have:=hA.lo;omega);have cB:=fun us h1 h2=>ZqC (mc:=mc) hg hA.lo hA.at' hA.fst us h1 h2;refine gI (ts:=[.cell 6 53,.slot 7]) 2201036682727 Tryz.func87 ?_;refine fG (ai @q1 @ae) ?_;have F:=ai @ww @ae;refine gL (ι:=Nat × List Tm) [7,10,12,13,14,29,30,41] [10] (fun x=>[(29,A.d (.one (.lit (.int .i64 x.1)))),(10,.buf 10)]) (fun x=>[(10,.buf none 53 4 (aq x.2))]) (fun x=>x.1<=t.args.length∧dO g l (t.args.take x.1)=some x.2) (fun x=>t.args.length - x.1) ((0,[])) (⟨Taj _,rfl⟩) (fun x hx=>?_)
 obtain ⟨i,us⟩:=x;obtain ⟨hi,cu⟩:=hx;simp only at hi cu;dsimp only;have dM:=Zne cu;rw [List.length_take_of_le hi] at dM;have nl:=bf us;have nr:ZaB 4 (aq us)=true:=oP _;by_cases ci:i < t.args.length;rotate_left
 ·obtain rfl:i=t.args.length:=by omega
  have q2:=lF t.args.length t.args.length;rw [Tap] at cu;refine m274 fun cB=>?_
  rw [(by rw [Dn co,cu];exact Zot hA.at' hA.fst us:ie g l t=nd g o d t.op us)];refine bz 13 (ai @q2 @ae) @ae (cB) ?_;exact bK @ae @ae
 have q2:=lT i t.args.length;obtain ⟨a,ha⟩:∃ a,t.args[i]?=some a:=⟨_,Taa ci⟩;have wY:=Tac ha;have zQ:=oK t;have xi:=qd wY;have dZ:=bI (k:=i) om;have dg:(us.length+1<=ak)=True:=eq_true (by unfold ak;omega);have qv:dO g l (t.args.take (i+1))=(ie g l a).map fun u=>us++[u]:=by rw [xr ha,Zlg,cu];rfl
 refine bw 8 (aj4 @q2 @ha @bD @ae) (aj3 @ha @bD @ae) ((IH (t:=a) om (ht.arg wY))) @ae ?_
 cases hu:ie g l a with
 | none =>
  have z3:(none:Option Tm).isSome=false:=rfl;have z5:(none:Option Tm).getD ck=ck:=rfl;have e:dO g l t.args=none:=Zlh wY hu;rw [(by rw [Dn co,e];rfl:ie g l t=none)];exact fD (aj4 @z3 @z5 @hz @ae)
 | some u =>
  have z3:(some u).isSome=true:=rfl;have z5:(some u).getD ck=u:=rfl;rw [hu] at qv;have ns:aq us++[an u]=aq (us++[u]):=by simp [mI]

  have F:=aj8 @z3 @z5 @nl @nr @ns @dg @dZ @ae;refine gG ?_;exact ⟨(i+1,us++[u]),⟨ci,qv⟩,gw,gw,om⟩
theorem ZuX (bW:jk g) (hg:SgnOk g) (hS:SbsW g l):∀ (n:Nat) {t:Tm},am t < n->TermOk g t->az e0 172 [.agg (bN g),.one (.sl (je l)),.agg (an t)] [.agg (an (wT g l t)),.one (.lit (.bool (ie g l t).isSome))]:=by
 intro n
 induction n with
 | zero=>exact fun {t} h _=>absurd h om
 | succ n IH =>
 intro t bO ht;have hz:=oc;have h60:=ZgK ht;have e9:=dt.ok hg _ t (Tan _) ht.form;have hokB:wM l:=hS.okB hg;by_cases co:t.op=-1
 ·have q1:(t.op=-1)=True:=eq_true co;have cB:=ZCn hokB e9 hS.len;have z2:(some ((lq l t).getD t)).isSome=true:=rfl;rw [Zxe co,Zl6 co];rw [bN] at *;refine gI (ts:=[.cell 6 53,.slot 7]) 70370900131823 Tryz.func172 ?_;refine bw 2 (ai @q1 @ae) @ae (cB) @ae ?_
  cases hk:lq l t with
  | none =>
   have z1:(none:Option Tm).getD t=t:=rfl;have z3:(none:Option Tm).isSome=false:=rfl;rw [hk] at z2;exact fD (aj4 @z1 @z2 @z3 @ae)
  | some u =>
   have z1:(some u).getD t=u:=rfl;have z3:(some u).isSome=true:=rfl;have z4:(some u).getD ck=u:=rfl;rw [hk] at z2;exact fD (aj5 @z1 @z2 @z3 @z4 @ae)
 obtain ⟨o,d,hA⟩:=ht.form.node.resolve_left (fun hv=>co hv.1);have q1:(t.op=-1)=False:=eq_false co;have cB:=fun us h1 h2=>ZoC bW hg hA.lo hA.at' hA.fst us h1 h2;rw [bN] at *;refine gI (ts:=[.cell 6 53,.slot 7]) 70370900131823 Tryz.func172 ?_;refine fG (ai @q1 @ae) ?_;have F:=ai @ww @ae;refine gL (ι:=Nat × List Tm) [7,10,11,12,13,31,46] [10] (fun x=>[(11,A.d (.one (.lit (.int .i64 x.1)))),(10,.buf 10)]) (fun x=>[(10,.buf none 53 4 (aq x.2))]) (fun x=>x.1<=t.args.length∧dO g l (t.args.take x.1)=some x.2) (fun x=>t.args.length - x.1) ((0,[])) (⟨Taj _,rfl⟩) (fun x hx=>?_)
 obtain ⟨i,us⟩:=x;obtain ⟨hi,cu⟩:=hx;simp only at hi cu;dsimp only;have dM:=Zne cu;rw [List.length_take_of_le hi] at dM;have nl:=bf us;have nr:ZaB 4 (aq us)=true:=oP _;by_cases ci:i < t.args.length;rotate_left
 ·obtain rfl:i=t.args.length:=by omega
  have q2:=lF t.args.length t.args.length;rw [Tap] at cu;have e:ie g l t=nd g o d t.op us:=by rw [Dn co,cu];exact Zot hA.at' hA.fst us
  refine m274 fun cB=>?_
  rw [e,ZGK co cu hA.at' hA.fst];refine bz 14 (ai @q2 @ae) @ae (cB) ?_;exact bK @ae @ae
 have q2:=lT i t.args.length;obtain ⟨a,ha⟩:∃ a,t.args[i]?=some a:=⟨_,Taa ci⟩;have wY:=Tac ha;have zQ:=oK t;have xi:=qd wY;have cA:=IH (t:=a) om (ht.arg wY);have dZ:=bI (k:=i) om;have dg:(us.length+1<=ak)=True:=eq_true (by unfold ak;omega);have qv:dO g l (t.args.take (i+1))=(ie g l a).map fun u=>us++[u]:=by rw [xr ha,Zlg,cu];rfl
 refine fN 10 (aj4 @q2 @ha @bD @ae) ?_;refine A4 11 10 12 ?_;refine fC (aj3 @ha @bD @ae) (cA) ?_;refine fR @ae ?_
 cases hu:ie g l a with
 | none =>
  have z3:(none:Option Tm).isSome=false:=rfl;have z5:(none:Option Tm).getD ck=ck:=rfl;have e:dO g l t.args=none:=Zlh wY hu;rw [(by rw [Dn co,e];rfl:ie g l t=none),ZD7 co e];exact fD (aj4 @z3 @z5 @hz @ae)
 | some u =>
  have z3:(some u).isSome=true:=rfl;have z5:wT g l a=u:=Ztm hu;rw [hu] at qv;rw [z5];have F:=aj8 @z3 @z5 @nl @nr (by simp [mI]:aq us++[an u]=aq (us++[u])) @dg @dZ @ae;refine gG ?_;exact ⟨(i+1,us++[u]),⟨ci,qv⟩,gw,gw,om⟩
end
section
variable {g:Sgn} {b:Nat}
def ZFR (g:Sgn) (b:Nat) (w:World):Prop:=(∀ c,c=b->¬ e0.E c)∧∃ M,lg g M∧jI w b M
noncomputable def eM (g:Sgn) (b:Nat):Env:=e0.plus (fun c=>c=b) (ZFR g b)
theorem eMP:∀ (g:Sgn) (b:Nat),(eM g b).P=Tryz.prog:=fun _ _=>rfl
theorem wn:Fits e0 (fun c=>c=b) (ZFR g b):=⟨fun w w' hz hE ⟨h1,M,h2,h3⟩=>⟨h1,M,h2,jI.stable b M w w' hz hE h3⟩,fun w h=>h.1⟩
theorem ZH0:(eM g b).Ok:=wn.ok Zn5
theorem az.m {f:FuncId} {args r:List D} (h:az e0 f args r):az (eM g b) f args r:=az.up wn h
theorem k9.m {f:FuncId} {args:List D} {R:List D->Prop} (h:k9 e0 f args R):k9 (eM g b) f args R:=k9.up wn h
theorem kh.m {f:FuncId} {args:List D} {ty sz:Nat} {rows:List (List C)} (h:kh e0 f args ty sz rows):kh (eM g b) f args ty sz rows:=kh.up wn h
theorem jG.m {f:FuncId} {ty sz:Nat} {rows rows':List (List C)} {args r:List D} (h:jG e0 f ty sz rows args rows' r):jG (eM g b) f ty sz rows args rows' r:=jG.up wn h
theorem qC.m {f:FuncId} {ty sz:Nat} {rows rows':List (List C)} {args:List D} (h:qC e0 f ty sz rows args rows'):qC (eM g b) f ty sz rows args rows':=qC.up wn h
theorem aR.m {f:FuncId} {args:List D} {pm:List Bk} {R:List D->List Bk->Prop} (h:aR e0 f args pm R):aR (eM g b) f args pm R:=aR.up wn h
theorem aR.imp {e:Env} {f:FuncId} {args:List D} {pm:List Bk} {R R':List D->List Bk->Prop} (h:aR e f args pm R) (hR:∀ r pm,R r pm->R' r pm):aR e f args pm R' :=
 ⟨h.1,fun w S vs hS hE hG iO lR dD=>(h.2 w S vs hS hE hG iO lR dD).mono fun en w' ⟨v,r,bX,h1,hr,hk⟩=>⟨v,r,bX,h1,hR r bX hr,hk⟩⟩
theorem ZoI (hg:SgnOk g) {t:Tm} (hs:am t<=60) (hf:dt g t):az (eM g b) 160 [.one (.ptr (dJ g (.lit (.map (some b))))),.agg (an t)] [.one (.lit (.int .i64 (ao g t:Nat)))] :=
 ZD8 (ι:=List (ByteArray × Value)) (G:=fun M w=>jI w b M) (ok:=lg g) wn (jI.stable b) (fun w h=>h.2) (fun w M h1 h2 h3=>⟨h1,M,h2,h3⟩) (Zlp hg b _ (Tan _) hs hf [] lg.nil).1
  fun M hM=>(Zlp hg b _ (Tan _) hs hf M hM).imp fun r pm ⟨M',h1,h2,h3,_⟩=>⟨h1,M',h3,h2⟩
theorem pM {ay:Nat} {c:Code} {s:List (Nat × A)} {m m2:List (Nat × Bk)} {Q:PX->St->Prop} (g:Sgn) (b k:Nat) (hK:cp (eM g b) ay c ⟨s,m2⟩ Q) (hm:gm m k=some (eI b []):=by exact nf) (hr:aA k m=m2:=by exact cJ):cp e0 ay c ⟨s,m⟩ Q:=by
 subst hr;exact ZGL k wn.st hm (fun hd=>⟨wn,fun w h=>⟨hd,[],lg.nil,h⟩⟩) fun _=>hK
theorem Zxf (a k:Nat):(a &&& 2 ^ k=0) ↔ a.testBit k=false:=by
 constructor
 ·intro h;have:=congrArg (fun x=>x.testBit k) h;simpa [Nat.testBit_and,Nat.testBit_two_pow] using this
 ·intro h;refine Nat.eq_of_testBit_eq fun i=>?_;rw [Nat.testBit_and,Nat.testBit_two_pow,Nat.zero_testBit];by_cases e:k=i
  ·subst e;rw [h];rfl
  ·simp [e]
theorem ee:type_of% (aj3 @ae @eMP @gH):=aj3 @ae @eMP @gH
end
theorem m186 {p:Prop} (h:p:=by
 have hf:=bS fun h=>by rw [wf h.to'] at hb;cases hb
 rw [hf];exact bK (ai @gN @ee) @ee):p:=h
theorem m96 {p:Prop} (h:p:=by
 have q6:(((ao g y.to &&& 2 ^ k:Nat):Int)=0)=True:=eq_true (by rw [hbp.2 nL];rfl);have hf:=bS fun h=>by rw [<- hkt,h.srt] at nL;cases nL
 rw [hf];generalize 2 ^ k=K at *;exact bK (aj6 @hk @rq @hba @q6 @gN @ee) @ee):p:=h
section
variable {g:Sgn} {l:List Bd} {b:Nat}
theorem ZCo (hg:SgnOk g) (hl:wM l) (ht:∀ y∈l,am y.to<=fc):az (eM g b) 86 [.one (.ptr (dJ g (.lit (.map (some b))))),.one (.sl (je l))] [.one (.lit (.bool (ol g l)))]:=by
 have heM:=ZH0 (g:=g) (b:=b);have bl:=xx l;have bg:=C4 l;have hV:=fun y (hy:y∈l)=>(Zjp (mc:=.lit (.map (some b))) hg (t:=y.var) (by have:=(hl y hy).1;revert this;cases y.var;simp only [aK,Tm.name];exact fun h=>h.2.1)).m (g:=g) (b:=b);have hT:=fun y (hy:y∈l)=>(C7 (mc:=.lit (.map (some b))) hg (hl y hy).2 (ht y hy)).m (g:=g) (b:=b);have hC:=fun y z (hy:y∈l) (hz:z∈l)=>(Zms (hl y hy).1 (hl z hz).1).m (g:=g) (b:=b)
 have bb:ZaB 8 (je l)=true:=by
  exact Cd
 by_cases h8:l.length<=8;rotate_left
 ·have hf:ol g l=false:=Zg7 fun h=>h8 h.len;rw [hf];refine gI (ts:=[.slot 4]) 72057594037943923 Tryz.func86 ?_;exact fD (aj3 (lT 8 l.length) @bl @ee)
 refine gI (ts:=[.slot 4]) 72057594037943923 Tryz.func86 ?_;refine fG (aj3 (lF 8 l.length) @bl @ee) ?_;have F:=@ee;refine gL (ι:=Nat) [4,5,6,12,13,56] [] (fun i=>[(12,A.d (.one (.lit (.int .i64 i))))]) (fun i=>[]) (fun i=>i<=l.length∧∀ (j:Nat) y,j < i->l[j]?=some y->SbsAt g l j y) (fun i=>l.length - i) (0) (⟨Taj _,fun j y h=>absurd h om⟩) (fun i hi=>?_);obtain ⟨hi,aD⟩:=hi;by_cases ci:i < l.length
 rotate_left
 ·obtain rfl:i=l.length:=by omega
  have hf:ol g l=true:=Zj5 ⟨h8,fun j y hj=>aD j y (Tad.1 hj).1 hj⟩;rw [hf];exact fD (aj3 (lF l.length l.length) @bl @ee)
 refine Cq fun q2 y hy=>?_;have B9:=Tac hy;have bS:¬ SbsAt g l i y->ol g l=false:=fun h=>Zg7 fun h'=>h (h'.at' i y hy);refine bz 6 (aj8 @q2 @bl @bb @bg @hy @gN @bD @ee) (ai @gN @ee) ((hV y B9)) ?_;by_cases o9:oh g y.var;rotate_left
 ·have hf:=bS fun h=>o9 h.var;rw [(by simp [uK,o9]:uK g y.var=false),hf];exact bK (ai @gN @ee) @ee
 rw [(by simp [uK,o9]:uK g y.var=true)];obtain ⟨k,hk⟩:∃ k:Nat,y.var.sort=k:=⟨y.var.sort.toNat,by have:=o9.2.2.1;omega⟩;have hk8:k < 8:=by have:=o9.2.2.2.1;have:=hg.sorts.n8;omega
 have hkt:y.var.sort.toNat=k:=om;have rq:=xS (k:=k) om;have dZ:=bI (k:=i) om;have cT:=hT y B9;have dh:TermOk g y.to->(ao g y.to).testBit k=true->(∀ (j:Nat) p,i=j+1->l[j]?=some p->aH p.var y.var < 0)->i+1<=l.length∧∀ (j:Nat) z,j < i+1->l[j]?=some z->SbsAt g l j z:=fun b1 b2 ho=>⟨ci,fun j z h1 h2=>by
  by_cases e:j=i
  ·subst e;rw [hy] at h2;injection h2 with h2
   subst h2;exact ⟨o9,ho,b1,by rw [hkt];exact b2⟩
  ·exact aD j z om h2⟩
 by_cases nP:i=0
 ·subst nP;have BO:∀ (j:Nat) p,0=j+1->l[j]?=some p->aH p.var y.var < 0:=fun j p h=>absurd h om;refine fC (aj4 (lF 0 (0:Nat)) @gN @bD @ee) (cT) ?_
  cases hb:d4 g y.to with
  | false =>
   exact m186
  | true =>
  have yw:=mP.1 hb;have yv:=mH (ZfM hg yw.form.node) hg.sorts.n8;have hba:=za yv (show 2 ^ k < 4611686018427387904 from Tbd (Nat.pow_lt_pow_right om hk8) (by decide));have hbp:=Zxf (ao g y.to) k;refine fC (ai @gN @ee) ((ZoI (b:=b) hg yw.size yw.form)) ?_
  cases nL:(ao g y.to).testBit k with
  | false =>
   exact m96
  | true =>
   have q6:(((ao g y.to &&& 2 ^ k:Nat):Int)=0)=False:=eq_false (fun h=>by rw [hbp.1 om] at nL;cases nL);have cy:=dh yw nL BO;generalize 2 ^ k=K at *;refine fR (aj6 @hk @rq @hba @q6 @gN @ee) ?_;have F:=aj3 @dZ @gN @ee;refine gG ?_;exact ⟨0+1,cy,gw,gw,om⟩
 obtain ⟨j,rfl⟩:∃ j,i=j+1:=⟨i - 1,om⟩;have q4:=lT 0 (j+1:Nat);obtain ⟨p,hp⟩:∃ p,l[j]?=some p:=⟨_,Taa om⟩;have wj:IntKind.i64.wrap (((j+1:Nat):Int) - 1)=(j:Int):=dI om om om;refine fC (aj10 @q4 @wj (eq_true om:(j < l.length)=True) @bl @bb @bg @hp @gN @bD @ee) ((hC p y (Tac hp) B9)) ?_;by_cases gQ:aH p.var y.var < 0;rotate_left
 ·have hf:=bS fun h=>gQ (h.ord j p rfl hp);rw [hf];exact bK (aj3 (eq_true om:((0:Int)<=aH p.var y.var)=True) @gN @ee) @ee
 have BO:∀ (j':Nat) p',j+1=j'+1->l[j']?=some p'->aH p'.var y.var < 0:=fun j' p' h h1=>by
  exact m231
 refine fC (aj4 (eq_false om:((0:Int)<=aH p.var y.var)=False) @gN @bD @ee) (cT) ?_
 cases hb:d4 g y.to with
 | false =>
  exact m186
 | true =>
 have yw:=mP.1 hb;have yv:=mH (ZfM hg yw.form.node) hg.sorts.n8;have hba:=za yv (show 2 ^ k < 4611686018427387904 from Tbd (Nat.pow_lt_pow_right om hk8) (by decide));have hbp:=Zxf (ao g y.to) k;refine fC (ai @gN @ee) ((ZoI (b:=b) hg yw.size yw.form)) ?_
 cases nL:(ao g y.to).testBit k with
 | false =>
  exact m96
 | true =>
  have q6:(((ao g y.to &&& 2 ^ k:Nat):Int)=0)=False:=eq_false (fun h=>by rw [hbp.1 om] at nL;cases nL);have cy:=dh yw nL BO;generalize 2 ^ k=K at *;refine fR (aj6 @hk @rq @hba @q6 @gN @ee) ?_;have F:=aj3 @dZ @gN @ee;refine gG ?_;exact ⟨j+1+1,cy,gw,gw,om⟩
end
section
variable {g:Sgn} {l:List Bd}
theorem Ztn (hb:l.length+ah (je l)<=1048576):∀ y∈l,ab (an y.var)<=1048576∧ab (an y.to)<=1048576:=fun y hy=>by
 have h1:=Zgy (List.mem_map_of_mem (f:=fS) hy);have h2:ab (fS y)=ab (an y.var)+ab (an y.to):=Df _ _;have h3:ah (l.map fS)=ah (je l):=rfl;omega
theorem uE {t:Tm} (h:TermOk g t):ab (an t)<=1048576:=by
 have h1:=ZiQ h.form;have h2:=h.size;omega
open Classical in
noncomputable def aS (g:Sgn) (l:List Bd) (t:Tm):Option Tm:=if fA g=true∧ol g l=true∧d4 g t=true then ie g l t else none
theorem Zhs:ol g l=true ↔ SbsOk g l:=by simp [ol]
theorem Zf8 (aj:jk g) (hl:wM l) (hb:l.length+ah (je l)<=1048576) {t:Tm} (ht:aK t) (htb:ab (an t)<=1048576):az e0 98 [.agg (bN g),.one (.sl (je l)),.agg (an t)] [.agg (an ((aS g l t).getD ck)),.one (.lit (.bool (aS g l t).isSome))]:=by
 have cS:=ZuV aj hl (fun y hy=>qe (Ztn hb y hy).1) (fun y hy=>qe (Ztn hb y hy).2);have cT:=yV aj ht (qe htb);have hz:=oc;have z1:(none:Option Tm).getD ck=ck:=rfl;have z2:(none:Option Tm).isSome=false:=rfl;by_cases h:fA g=true∧ol g l=true∧d4 g t=true;rotate_left
 ·rw [(by unfold aS;rw [if_neg h]:aS g l t=none)];rw [bN] at cS cT ⊢;refine gI (ts:=[.cell 6 53,.slot 7]) 537396207 Tryz.func98 ?_;refine bz 1 @ae @ae (cS) ?_
  cases h1:(fA g && ol g l) with
  | false =>
   exact bK @ae (aj4 @z1 @z2 @hz @ae)
  | true =>
  have h2:(fA g && d4 g t)=false:=by
   rw [Tar] at h1
   cases h3:d4 g t with
   | false=>rw [Bool.and_false]
   | true=>exact absurd ⟨h1.1,h1.2,h3⟩ h
  rw [h2] at cT;refine fC @ae (cT) ?_;exact bK @ae (aj4 @z1 @z2 @hz @ae)
 obtain ⟨h1,h2,h3⟩:=h;have hg:=tE.1 h1;have hS:=Zhs.1 h2;have hT:=mP.1 h3;have cA:=ZuX aj hg hS.w _ (Tan _) hT;rw [(by unfold aS;rw [if_pos ⟨h1,h2,h3⟩]:aS g l t=ie g l t)];rw [h1,h2] at cS;rw [h1,h3] at cT;rw [bN] at cS cT cA ⊢;refine gI (ts:=[.cell 6 53,.slot 7]) 537396207 Tryz.func98 ?_;refine bz 1 @ae @ae (cS) ?_;refine fC @ae (cT) ?_;refine fR @ae ?_;refine bw 3 @ae @ae (cA) @ae ?_
 cases hu:ie g l t with
 | none=>(exact fD (aj4 @z1 @z2 @hz @ae))
 | some u =>
  have z3:(some u).getD ck=u:=rfl;have z4:(some u).isSome=true:=rfl;rw [Ztm hu];refine bz 6 (aj3 @z3 @z4 @ae) @ae ((zf u (uE (Zjv hg hS.to' _ t (Tan _) hT hu)))) ?_;exact bK @ae (aj3 @z3 @z4 @ae)
theorem ZrV {t u:Tm} (h:aS g l t=some u):TermOk g u:=by
 unfold aS at h;split at h
 ·next hc=>exact Zjv (tE.1 hc.1) (Zhs.1 hc.2.1).to' _ t (Tan _) (mP.1 hc.2.2) h
 ·cases h
theorem ZHt {t u:Tm} (h:aS g l t=some u):SgnOk g:=by
 unfold aS at h;split at h
 ·next hc=>exact tE.1 hc.1
 ·cases h
end
end Go.Proofs.YtbecmfjokofihaaGreatDoor
namespace Go.Proofs.YtbecmfjokofihaaGreatDoor
open Go.RowKit
open Go.Sort (grow HoldsK putRowK flatK SWO PermIn SortedIn Holds mapBlock onCells putRow putCells get_flatK size_flatK)
theorem ZCp {w w':World} (h:Kept True (fun _=>False) w.heap.size w w'):∃ q os,w'=grow (w.drewN q) os:=by
 obtain ⟨p,hp⟩:=regrown_of_below (w:=w) (w':=w') ⟨h.os,h.tape,h.output,h.size,fun k hk=>h.block k hk id⟩;have hd:=h.drawn trivial;have e:p.d=w'.drawn:=by rw [hp];rfl
 refine ⟨w'.drawn - w.drawn,p.os,?_⟩;have e2:redrawn w p.d=w.drewN (w'.drawn - w.drawn):=by
  unfold redrawn World.drewN;rw [e,show w.drawn+(w'.drawn - w.drawn)=w'.drawn by omega]
 rw [<- e2];exact hp
abbrev SRow (w:World) (S:Nat->Prop) (Q:List C->Prop):={x:List C × List Value // Q x.1∧aC w S x.1 x.2}
theorem Zto {w:World} {S:Nat->Prop} {b k:Nat} {Q:List C->Prop} (hk:∀ r,Q r->r.length=k):∀ (rows:List (List C)) (off:Nat),(∀ r∈rows,Q r)->b7 w S b off rows->∃ l:List (SRow w S Q),l.map (fun x=>x.1.1)=rows∧∀ (i:Nat) x,l[i]?=some x->∀ j u,x.1.2[j]?=some u->w.cell? ⟨b,off+i * k+j,none⟩=some u
 | [],off,_,_=>⟨[],rfl,fun i x h=>by simp at h⟩
 | r::rs,off,hQ,h=>by
  simp only [b7] at h;obtain ⟨vs,h1,h2⟩:=h.1.vals;obtain ⟨l,e,hl⟩:=Zto hk rs (off+r.length) (fun x hx=>hQ x (Tal _ hx)) h.2;have hr:=hQ r Tas;refine ⟨⟨(r,vs),hr,h1⟩::l,by simp [e],fun i x hi j u hj=>?_⟩
  cases i with
  | zero =>
   simp only [Tat,Taq] at hi;subst hi;have:=h2 j u hj
   rwa [Nat.zero_mul,Nat.add_zero]
  | succ i =>
   have:=hl i x (by simpa using hi) j u hj;rw [hk r hr] at this
   rwa [show off+(i+1) * k+j=off+k+i * k+j by rw [Nat.succ_mul];omega]
theorem ZoK {w W:World} {S S2:Nat->Prop} {b k:Nat} {Q:List C->Prop} (hk:∀ r,Q r->r.length=k) (hv:∀ x:SRow w S Q,aC W S2 x.1.1 x.1.2):∀ (l:List (SRow w S Q)) (off:Nat),(∀ (i:Nat) x,l[i]?=some x->∀ j u,x.1.2[j]?=some u->W.cell? ⟨b,off+i * k+j,none⟩=some u)->b7 W S2 b off (l.map (fun x=>x.1.1))
 | [],off,_=>by simp [b7]
 | x::l,off,h=>by
  simp only [Tbu,b7];refine ⟨bn.of_vals _ _ off (hv x) fun j u hj=>?_,?_⟩
  ·have:=h 0 x rfl j u hj
   rwa [Nat.zero_mul,Nat.add_zero] at this
  ·rw [hk _ x.2.1];refine ZoK hk hv l (off+k) fun i y hi j u hj=>?_;have:=h (i+1) y (by simpa using hi) j u hj
   rwa [show off+(i+1) * k+j=off+k+i * k+j by rw [Nat.succ_mul];omega] at this
theorem Ztp {α:Type} [Inhabited α] {enc:α->List Value} {k:Nat} {W:World} {b:Nat} {d:Array α} (hk:∀ x,(enc x).length=k) (h:HoldsK enc k W b 0 d) {i:Nat} {x:α} (hi:d.toList[i]?=some x) {j:Nat} {u:Value} (hj:(enc x)[j]?=some u):W.cell? ⟨b,0+i * k+j,none⟩=some u:=by
 have ci:i < d.size:=by have:=(Tad.1 hi).1;simpa using this
 have lz:j < k:=by have:=(Tad.1 hj).1;rwa [hk] at this
 have ht:i * k+j < d.size * k:=by
  have:=Nat.mul_le_mul_right k (show i+1<=d.size from ci);rw [Nat.succ_mul] at this;omega
 have h1:=(h (i * k+j) (by rw [size_flatK];exact ht)).1;rw [get_flatK _ _ _ _ ht,show (i * k+j) / k=i by rw [Nat.add_comm,Nat.add_mul_div_right _ _ om,Nat.div_eq_of_lt lz,Nat.zero_add],show (i * k+j) % k=j by rw [Nat.add_comm,Nat.add_mul_mod_self_right,Nat.mod_eq_of_lt lz]] at h1;have e1:d[i]! = x:=by
  rw [getElem!_pos d i ci];have:=(Tad.1 hi).2;simpa using this
 have e2:(enc x)[j]! = u:=by
  rw [getElem!_pos (enc x) j (by rw [hk];exact lz)];exact (Tad.1 hj).2
 rw [e1,e2,<- Tbw] at h1;exact h1
theorem ZCq {α:Type} [Inhabited α] {enc:α->List Value} {k:Nat} {w:World} {b:Nat} {l:List α} (hk:∀ x,(enc x).length=k) (hf:∀ o,w.frozen? ⟨b,o,none⟩=false) (h:∀ (i:Nat) x,l[i]?=some x->∀ j u,(enc x)[j]?=some u->w.cell? ⟨b,0+i * k+j,none⟩=some u):HoldsK enc k w b 0 l.toArray:=by
 intro t ht;refine ⟨?_,hf _⟩;rw [size_flatK] at ht;have ht':t < l.length * k:=by simpa using ht
 have k0 : 0 < k := by rcases Nat.eq_zero_or_pos k with e | e; · subst e; simp at ht'
                       ·exact e
 have hi:t / k < l.length:=Nat.div_lt_of_lt_mul (by rw [Nat.mul_comm];exact ht');have hj:t % k < k:=Nat.mod_lt _ k0;rw [get_flatK _ _ _ _ ht];have e1:l.toArray[t / k]! = l[t / k]:=by rw [getElem!_pos _ _ (by simpa using hi)];rfl
 rw [e1,getElem!_pos _ _ (by rw [hk];exact hj)];have:=h (t / k) l[t / k] (Taa hi) (t % k) _ (Taa (by rw [hk];exact hj))
 rwa [show 0+t / k * k+t % k=0+t by have:=Nat.div_add_mod' t k;omega] at this
theorem aC.one {w:World} {S:Nat->Prop}:∀ {cs:List C} {us:List Value},cs.all aY=true->aC w S cs us->∀ v∈us,v.oneCell'=true
 | [],[],_,_,v,h=>by simp at h
 | c::cs,u::us,hc,h,v,hv=>by
  simp only [List.all_cons,Tar] at hc;simp only [aC] at h;rcases Tbg.1 hv with rfl | hv
  ·exact ZhA hc.1 h.1
  ·exact aC.one hc.2 h.2 v hv
 | [],_::_,_,h,_,_=>by simp [aC] at h
 | _::_,[],_,h,_,_=>by simp [aC] at h
theorem ZD9 {α:Type} [Inhabited α] {enc:α->List Value} {k:Nat} {w:World} {b n:Nat} {d:Array α} {os:Array Obj} {bc:Array Value} {ty:Nat} (hh:w.heap[b]?=some (.cells bc ty (0,0))):(sortWorldK enc k w b 0 n d os).heap[b]?=some (.cells (putCells id 0 (flatK enc k d) bc) ty (0,0)):=by
 have hb:b < w.heap.size:=(Tbl.1 hh).1;show ((w.heap.modify b (onCells (putCells id 0 (flatK enc k d))))++os)[b]?=_;rw [Array.getElem?_append_left (by simpa using hb),Array.getElem?_modify,if_pos rfl,hh];rfl
theorem Zni {α:Type} [Inhabited α] {enc:α->List Value} {k:Nat} {w:World} {b n j:Nat} {d:Array α} {os:Array Obj} (hj:j < w.heap.size) (bq:j≠b):(sortWorldK enc k w b 0 n d os).heap[j]?=w.heap[j]?:=by
 show ((w.heap.modify b (onCells (putCells id 0 (flatK enc k d))))++os)[j]?=_;rw [Array.getElem?_append_left (by simpa using hj),Array.getElem?_modify,if_neg (fun e=>bq e.symm)]
theorem Do {α:Type} [Inhabited α] {enc:α->List Value} {k:Nat} {w:World} {b n:Nat} {d:Array α} {os:Array Obj}:w.heap.size<=(sortWorldK enc k w b 0 n d os).heap.size:=by
 show _<=((w.heap.modify b (onCells (putCells id 0 (flatK enc k d))))++os).size;simp
theorem ZCr {P:Program} (hP:e1.P=P) {ρ:Go.Shelf.Ren} (L:SlLaysF0.n6 P ρ) {k ty:Nat} (aE:∀ w,(isAgg (ρ.t 24)).run P w=.ok true w) (zE:∀ w,(Go.sizeOf (ρ.t 24)).run P w=.ok k w) (io:ny P (ρ.f 6)=true) {g:FuncId} (eg:∀ args w,(callFunc g args).run P w=.ok (.enter g args) w)
  {rows rows':List (List C)} {cf:List C->List C->Int} (bu:rows.length < 4611686018427387904) (hg:∀ a∈rows,∀ b∈rows,az e1 g [.agg a,.agg b] [.one (.lit (.int .i64 (cf a b)))])
  (h1:∀ a∈rows,¬ cf a a < 0) (h2:∀ a∈rows,∀ b∈rows,∀ c∈rows,cf a b < 0->cf b c < 0->cf a c < 0) (h3:∀ a∈rows,∀ b∈rows,∀ c∈rows,¬ cf a b < 0->¬ cf b c < 0->¬ cf a c < 0)
  (hu:∀ l:List (List C),l.Perm rows->(∀ (i j:Nat) a b,i < j->l[i]?=some a->l[j]?=some b->¬ cf b a < 0)->l=rows'):jG e1 (ρ.f 6) ty k rows [.one (.fn g [])] rows' []:=by
 refine ⟨by rw [hP];exact io,fun w S v0 vs hS hE hvE hG ge cd=>?_⟩;rw [hP]
 match vs,cd with
 | [u],cd =>
  obtain ⟨⟨us,rfl,cu⟩,_⟩:(∃ us:List Value,u=.func (.func g) #[] us.toArray∧aC w S [] us)∧True:=by simpa [cx,aW,aQ] using cd
  have hus0:us=[]:=by cases us with
   | nil=>rfl
   | cons _ _=>simp [aC] at cu
  subst hus0;obtain ⟨h0,dX,rZ⟩:=ge;by_cases bq:rows=[]
  ·subst bq;have sU:rows'=[]:=(hu [] (List.Perm.refl _) (fun i j a b _ h=>by simp at h)).symm;subst sU;have eN:∃ p cap,v0=.slice p 0 cap:=by
    rcases rZ with ⟨_,a,rfl⟩ | ⟨b,cap,bc,rfl,_⟩
    ·exact ⟨a,0,rfl⟩
    ·exact ⟨_,cap,rfl⟩
   obtain ⟨p,cap,ue⟩:=eN;rw [ue];refine (AnyF.slices_SortFunc_none (P:=P) L p cap _ w).mono ?_;rintro e w' ⟨rfl,rfl⟩;rw [<- ue];have hs:(fun b=>S b∨(w'.heap.size<=b∧b < w'.heap.size))=S:=by
    funext b;exact propext ⟨fun h=>h.elim id (fun h=>absurd h.2 om),.inl⟩
   refine ⟨_,rfl,Kept.refl ..,hG,?_,[],rfl,trivial⟩;rw [hs];exact ⟨h0,dX,rZ⟩
  ·rcases rZ with ⟨e,_⟩ | ⟨b,cap,bc,rfl,hc,hbz,hSb,hh,ct,dg,ez,cn⟩
   ·exact absurd e bq
   have o8:∀ r,r∈rows->r.length=k:=fun r hr=>(dX r hr).1;obtain ⟨l,hl,jR⟩:=Zto (k:=k) (Q:=fun r=>r∈rows) o8 rows 0 (fun r h=>h) cn;have xf:l.length=rows.length:=by have:=congrArg List.length hl;rwa [Tay] at this
   obtain ⟨x0,zU⟩:∃ x,x∈l:=List.exists_mem_of_ne_nil _ (fun e=>bq (Tao (by rw [<- xf,e];rfl)))
   letI:Inhabited (SRow w S (fun r=>r∈rows)):=⟨x0⟩
   have hk:∀ x:SRow w S (fun r=>r∈rows),x.1.2.length=k:=fun x=>by rw [x.2.2.len];exact o8 _ x.2.1
   have h1c:∀ x:SRow w S (fun r=>r∈rows),∀ v∈x.1.2,v.oneCell'=true:=fun x=>aC.one (dX _ x.2.1).2 x.2.2;have hH:HoldsK (fun x:SRow w S (fun r=>r∈rows)=>x.1.2) k w b 0 l.toArray:=ZCq hk (fun o=>frozen_of_row w b o bc ty hh) jR
   have vF:∀ (m:Nat) (os:Array Obj) (dk:Array (SRow w S (fun r=>r∈rows))) (S2:Nat->Prop),(∀ b,S b->S2 b)->∀ x:SRow w S (fun r=>r∈rows),aC (sortWorldK (fun x:SRow w S (fun r=>r∈rows)=>x.1.2) k w b 0 m dk os) S2 x.1.1 x.1.2:=fun m os dk S2 hS2 x =>
    aC.keep2 Do (fun b' o dC=>qE (Zni (hS b' dC).1 (fun e:b'=b=>hSb (by rw [<- e];exact dC))) o) hS2 x.2.2
   have fj:aP (.slice (some ⟨b,0,none⟩) rows.length cap)=some b:=by simp only [aP];rw [if_neg om]
   have vE:∀ (m:Nat) (os:Array Obj) (dk:Array (SRow w S (fun r=>r∈rows))),e1.G (sortWorldK (fun x:SRow w S (fun r=>r∈rows)=>x.1.2) k w b 0 m dk os):=fun m os dk =>
    ZrO.keep w _ Do (fun b' dC=>Zni (hE b' dC) (fun e=>hvE b fj (e ▸ dC))) hG
   have hcmp:CmpLays P g #[] (fun x:SRow w S (fun r=>r∈rows)=>x.1.2) k (fun x y=>cf x.1.1 y.1.1) b 0 l.toArray.size w:=by
    intro m os dk hdk x y
    have hc:=(hg _ x.2.1 _ y.2.1).2 (sortWorldK (fun x:SRow w S (fun r=>r∈rows)=>x.1.2) k w b 0 m dk os) S [.agg x.1.2.toArray,.agg y.1.2.toArray] (fun b' dC=>⟨Tbd (hS b' dC).1 Do,(hS b' dC).2⟩) (fun b' h=>Tbd (hE b' h) Do) (vE m os dk)
     ⟨⟨_,rfl,vF m os dk S (fun _ h=>h) x⟩,⟨_,rfl,vF m os dk S (fun _ h=>h) y⟩,trivial⟩
    rw [hP] at hc;refine hc.mono ?_;rintro e w' ⟨v,rfl,hK,hG',hv⟩;have hv:v=.int .i64 (cf x.1.1 y.1.1):=by simpa [bh,ax,aW,aQ] using hv
    exact ⟨by rw [hv],ZCp (hK.all1 (vE m os dk) hG')⟩
   have hO:SWO (ltOf (fun x y:SRow w S (fun r=>r∈rows)=>cf x.1.1 y.1.1)):=by
    refine ⟨fun x=>?_,fun x y z=>?_,fun x y z=>?_⟩ <;> simp only [ltOf,decide_eq_false_iff_not,decide_eq_true_eq]
    ·exact h1 _ x.2.1
    ·exact h2 _ x.2.1 _ y.2.1 _ z.2.1
    ·exact h3 _ x.2.1 _ y.2.1 _ z.2.1
   have nT:=AnyQ.slices_SortFunc L k aE zE (fun x:SRow w S (fun r=>r∈rows)=>x.1.2) hk h1c (fun x y=>cf x.1.1 y.1.1) hO g #[] b 0 cap l.toArray w eg hcmp hH hbz (by simp only [List.size_toArray];omega);have hlz:l.toArray.size=rows.length:=by simpa using xf
   rw [hlz] at nT;refine nT.mono ?_;rintro e w' ⟨rfl,d',n,os,hp,hs,rfl⟩;obtain ⟨sT,_,qu⟩:=hp;rw [hlz] at sT;have pI:∀ a:Array (SRow w S (fun r=>r∈rows)),a.size=rows.length->a.extract 0 rows.length=a:=fun a ha=>by rw [<- ha];simp
   rw [pI d' sT,pI _ hlz] at qu;have ff:(d'.toList.map (fun x=>x.1.1)).Perm rows:=by
    have:=qu.map (fun x:SRow w S (fun r=>r∈rows)=>x.1.1)
    rwa [show l.toArray.toList=l from rfl,hl] at this
   have rp:d'.toList.map (fun x=>x.1.1)=rows':=hu _ ff fun i j a c nQ ha hc=>by
    simp only [Tba,Tav] at ha hc;obtain ⟨x,hx,rfl⟩:=ha;obtain ⟨y,hy,rfl⟩:=hc;have lz:j < rows.length:=by have:=(Tad.1 hy).1;simpa [sT] using this
    have:=hs i j (Taj _) nQ lz;have ex:d'[i]! = x:=by
     rw [getElem!_pos d' i om];have:=(Tad.1 hx).2;simpa using this
    have ey:d'[j]! = y:=by
     rw [getElem!_pos d' j om];have:=(Tad.1 hy).2;simpa using this
    rw [ex,ey] at this;simpa [ltOf] using this
   have hlr:rows'.length=rows.length:=by rw [<- rp,Tay,Array.length_toList,sT]
   have hW:HoldsK (fun x:SRow w S (fun r=>r∈rows)=>x.1.2) k (sortWorldK (fun x:SRow w S (fun r=>r∈rows)=>x.1.2) k w b 0 n d' os) b 0 d':=SWK.holds (d0:=l.toArray) ⟨n,os,rfl⟩ hbz hH (by rw [sT,hlz]);refine ⟨_,rfl,⟨rfl,rfl,rfl,fun _=>Nat.le_add_right _ _,Do,fun j hj hn=>Zni hj (fun e=>hn (.inr (by rw [fj,e])))⟩,vE n os d',⟨h0,fun r hr=>?_,.inr ⟨b,cap,_,by rw [hlr],hc,Tbd hbz Do,fun hn=>?_,ZD9 hh,om,dg,by simp [putCells,ez],?_⟩⟩,[],rfl,trivial⟩
   ·rw [<- rp] at hr;exact dX r (ff.mem_iff.1 hr)
   ·rcases hn with hn | hn
    ·exact hSb hn
    ·omega
   ·rw [<- rp];exact ZoK (Q:=fun r=>r∈rows) o8 (vF n os d' _ (fun b hb=>.inl hb)) d'.toList 0 fun i x hi j u hj=>Ztp hk hW hi hj
end Go.Proofs.YtbecmfjokofihaaGreatDoor
namespace Go.Proofs.YtbecmfjokofihaaGreatDoor
open Go.Shelf
def ZCs:Ren:=⟨fun | 6=>132 | 15=>141 | 14=>211 | 28=>231 | 29=>232 | 20=>279 | 21=>280 | 22=>281 | 23=>282 | 24=>283 | 25=>284 | 26=>285 | 27=>286 | 46=>320 | 47=>297 | 48=>298 | 49=>321 | 50=>322 | 57=>338 | n=>n,fun | 22=>40 | 24=>53 | 25=>149 | 3=>3 | 39=>217 | 0=>0 | 53=>301 | 55=>303 | 4=>4 | 46=>294 | 45=>293 | 50=>298 | 5=>5 | 9=>9 | 66=>350 | 70=>204 | 76=>373 | 77=>374 | n=>n,fun | n=>n⟩
theorem ZH1:Go.Proofs.SlLaysF0.n6 Tryz.prog ZCs:={
 mixed:=by kernel_rfl,
 f6:=⟨Tryz.f132.name,by decide,Tryz.func132.trans (congrArg some (by kernel_rfl))⟩,
 f14:=⟨Tryz.f211.name,by decide,Tryz.func211.trans (congrArg some (by kernel_rfl))⟩,
 f15:=Tryz.func141.trans (congrArg some (by kernel_rfl)),
 f20:=⟨Tryz.f279.name,by decide,Tryz.func279.trans (congrArg some (by kernel_rfl))⟩,
 f21:=⟨Tryz.f280.name,by decide,Tryz.func280.trans (congrArg some (by kernel_rfl))⟩,
 f22:=⟨Tryz.f281.name,by decide,Tryz.func281.trans (congrArg some (by kernel_rfl))⟩,
 f23:=⟨Tryz.f282.name,by decide,Tryz.func282.trans (congrArg some (by kernel_rfl))⟩,
 f24:=⟨Tryz.f283.name,by decide,Tryz.func283.trans (congrArg some (by kernel_rfl))⟩,
 f25:=⟨Tryz.f284.name,by decide,Tryz.func284.trans (congrArg some (by kernel_rfl))⟩,
 f26:=⟨Tryz.f285.name,by decide,Tryz.func285.trans (congrArg some (by kernel_rfl))⟩,
 f27:=⟨Tryz.f286.name,by decide,Tryz.func286.trans (congrArg some (by kernel_rfl))⟩,
 f28:=Tryz.func231.trans (congrArg some (by kernel_rfl)),
 f29:=Tryz.func232.trans (congrArg some (by kernel_rfl)),
 f46:=⟨Tryz.f320.name,by decide,Tryz.func320.trans (congrArg some (by kernel_rfl))⟩,
 f47:=Tryz.func297.trans (congrArg some (by kernel_rfl)),
 f48:=Tryz.func298.trans (congrArg some (by kernel_rfl)),
 f49:=⟨Tryz.f321.name,by decide,Tryz.func321.trans (congrArg some (by kernel_rfl))⟩,
 f50:=⟨Tryz.f322.name,by decide,Tryz.func322.trans (congrArg some (by kernel_rfl))⟩,
 f57:=⟨Tryz.f338.name,by decide,Tryz.func338.trans (congrArg some (by kernel_rfl))⟩,
 t0:=Tryz.underlying0,
 a0:=Tryz.isAgg0,
 z0:=Tryz.sizeOf0,
 v0:=Tryz.zeroValue0,
 t3:=Tryz.underlying3,
 a3:=Tryz.isAgg3,
 z3:=Tryz.sizeOf3,
 v3:=Tryz.zeroValue3,
 t4:=Tryz.underlying4,
 a4:=Tryz.isAgg4,
 z4:=Tryz.sizeOf4,
 v4:=Tryz.zeroValue4,
 t5:=Tryz.underlying5,
 a5:=Tryz.isAgg5,
 z5:=Tryz.sizeOf5,
 v5:=Tryz.zeroValue5,
 t9:=Tryz.underlying9,
 a9:=Tryz.isAgg9,
 z9:=Tryz.sizeOf9,
 v9:=Tryz.zeroValue9,
 t22:=Tryz.underlying40,
 a22:=Tryz.isAgg40,
 z22:=Tryz.sizeOf40,
 v22:=Tryz.zeroValue40,
 t25:=Tryz.underlying149,
 a25:=Tryz.isAgg149,
 z25:=Tryz.sizeOf149,
 v25:=Tryz.zeroValue149,
 t39:=Tryz.underlying217,
 a39:=Tryz.isAgg217,
 z39:=Tryz.sizeOf217,
 v39:=Tryz.zeroValue217,
 t45:=Tryz.underlying293,
 a45:=Tryz.isAgg293,
 z45:=Tryz.sizeOf293,
 v45:=Tryz.zeroValue293,
 t46:=Tryz.underlying294,
 a46:=Tryz.isAgg294,
 z46:=Tryz.sizeOf294,
 v46:=Tryz.zeroValue294,
 t50:=Tryz.underlying298,
 a50:=Tryz.isAgg298,
 z50:=Tryz.sizeOf298,
 v50:=Tryz.zeroValue298,
 t53:=Tryz.underlying301,
 a53:=Tryz.isAgg301,
 z53:=Tryz.sizeOf301,
 v53:=Tryz.zeroValue301,
 t55:=Tryz.underlying303,
 a55:=Tryz.isAgg303,
 z55:=Tryz.sizeOf303,
 v55:=Tryz.zeroValue303,
 t66:=Tryz.underlying350,
 a66:=Tryz.isAgg350,
 z66:=Tryz.sizeOf350,
 v66:=Tryz.zeroValue350,
 t70:=Tryz.underlying204,
 a70:=Tryz.isAgg204,
 z70:=Tryz.sizeOf204,
 v70:=Tryz.zeroValue204,
 t76:=Tryz.underlying373,
 a76:=Tryz.isAgg373,
 z76:=Tryz.sizeOf373,
 v76:=Tryz.zeroValue373,
 t77:=Tryz.underlying374,
 a77:=Tryz.isAgg374,
 z77:=Tryz.sizeOf374,
 v77:=Tryz.zeroValue374 }
end Go.Proofs.YtbecmfjokofihaaGreatDoor
namespace Go.Proofs.YtbecmfjokofihaaGreatDoor
open Go.RowKit
theorem ZGM {f:FuncId} {ty sz:Nat} {rows rows':List (List C)} {args r:List D} (h:jG e1 f ty sz rows args rows' r):jG e0 f ty sz rows args rows' r :=
 ⟨h.1,fun w S v0 vs h1 h2 h3 h4 h5 h6=>(h.2 w S v0 vs h1 h2 h3 h4 h5 h6).mono fun en w' ⟨v,k1,k2,k3⟩=>⟨v,k1,⟨k2.os,k2.tape,k2.output,fun d=>d.elim,k2.size,k2.block⟩,k3⟩⟩
theorem Zyi (ts:List Tm) (hl:ts.length<=4000000):jG e0 132 53 4 (aq ts) [.one (.fn 133 [])] (aq (cq ts)) []:=by
 have fF:∀ a∈aq ts,a=an (mF a):=fun a ha=>by
  rw [mI] at ha;obtain ⟨t,_,rfl⟩:=Tbi.1 ha;rw [ZwW]
 exact ZGM (ZCr (P:=Tryz.prog) rfl ZH1 (k:=4) (ty:=53) Tryz.isAgg53 Tryz.sizeOf53 (by kernel_rfl) (g:=133) (enters_of Tryz.func133 (by kernel_rfl) rfl) (rows:=aq ts) (rows':=aq (cq ts)) (cf:=fun a b=>aH (mF a) (mF b)) (by rw [bf];omega)
  (fun a ha b hb=>by
   have h:=Ax (mF a) (mF b)
   rwa [<- fF a ha,<- fF b hb] at h)
  (fun a _=>by rw [ze];omega) (fun a _ b _ c _ h1 h2=>ZgJ h1 h2) (fun a _ b _ c _ h1 h2=>by
   rw [tF (mF b) (mF a)] at h1;rw [tF (mF c) (mF b)] at h2;rw [tF (mF c) (mF a)];have:=wl (a:=mF c) (b:=mF b) (c:=mF a) om om;omega)
  (fun l hp hs=>by
   have kz:∀ a∈l,a=an (mF a):=fun a ha=>fF a (hp.mem_iff.1 ha);have oB:(l.map mF).Perm ts:=by have:=hp.map mF;rwa [ZGm] at this
   have hup:Up (l.map mF):=by
    refine List.pairwise_iff_getElem.2 fun i j hi hj nQ=>?_;simp only [List.getElem_map];simp only [Tay] at hi hj;have:=hs i j l[i] l[j] nQ (Taa hi) (Taa hj);rw [tF (mF l[j]) (mF l[i])];omega
   have e:=Zl4 (rJ ts) hup ((nu ts).trans oB.symm);rw [e,mI,List.map_map]
   conv=>lhs;rw [<- List.map_id l]
   exact List.map_congr_left fun a ha=>kz a ha))
theorem m182 {p:Prop} (h:p:=by
 exact (have F:=bf;eU (R:=uk a cap 53 4 (aq ts)) [1000] ⟨by rw [bf],rfl⟩)):p:=h
def uk (a:Option Addr) (cap ty sz:Nat) (rows:List (List C)) (r:List D) (pm:List Bk):Prop:=r=[.one (.lit (.slice a rows.length cap))]∧pm=[.buf (some (a,cap)) ty sz rows]
theorem ZCt {m:List (Nat × Bk)} {a:Option Addr} {n cap:Nat}:jz m (some true) [fu m (.d (.one (.lit (.slice a n cap))))]=some (.d (.one (.lit (.int .i64 (n:Int))))):=by
 show jz m (some true) [AP m a n cap (jn a n cap m)]=_
 cases jn a n cap m with
 | none=>rfl
 | some k =>
  show jz m (some true) [tm a n cap k (gm m k)]=_
  cases hg:gm m k with
  | none=>rfl
  | some bk =>
   cases bk with
   | var o cs=>rfl
   | set E G=>rfl
   | buf o ty sz rows =>
    cases o with
    | none=>rfl
    | some q =>
     obtain ⟨a',dz⟩:=q;simp only [tm];split
     ·rename_i h;show s5 (pq (gm m k))=_;rw [hg,h.2.1];rfl
     ·rfl
theorem ZCu {m:List (Nat × Bk)} {a:Option Addr} {l h cap sz:Nat}:jz m (some true) [fu m (.d (.one (.lit (sliced a l h cap sz))))]=some (.d (.one (.lit (.int .i64 ((h - l:Nat):Int))))):=ZCt
theorem Zyj (l:List Tm) (k:Nat) (t:Tm):(aq l).set k (an t)=aq (l.set k t):=by rw [mI,mI,List.map_set]
theorem ZCv {α:Type} {l:List α} {i:Nat} {x:α} (h:i < l.length):(l.set i x).take (i+1)=l.take i++[x]:=by
 rw [List.take_add_one,List.take_set_of_le (Tai _)];simp [h]
theorem Zxg {l l':List Tm} {m:Nat} (h:l.drop m=l'.drop m) (i:Nat):l[m+i]?=l'[m+i]?:=by
 rw [<- Tbb,<- Tbb,h]
theorem ZEa {ts:List Tm} (h:ts.length < 2):jq none ts=ts:=by
 match ts,h with
 | [],_=>rfl
 | [x],_=>rfl
theorem Ztq (ts:List Tm) (hl:ts.length<=4000000) (a:Option Addr) (cap:Nat):aR e0 134 [.one (.lit (.slice a ts.length cap)),.one (.fn 89 [])] [.buf (some (a,cap)) 53 4 (aq ts)] (uk a cap 53 4 (aq (jq none ts))):=by
 refine dK (ts:=[.slot 4]) [1000] 562984581629171 Tryz.func134 ?_;by_cases h2:ts.length < 2
 ·refine fG (ai (lT ts.length 2) @ae) ?_;rw [ZEa h2];exact m182
 have q1:=lF ts.length 2;refine fG (ai @q1 @ae) ?_;clear q1;obtain ⟨t0,rt⟩:∃ t,ts[0]?=some t:=⟨_,Taa om⟩;have F:=@ae;refine gL (ι:=Nat) [4,5,6,7,15,28,35,49] [] (fun x=>[(5,.d (.one (.lit (.int .i64 (x:Int)))))]) (fun x=>[]) (fun x=>1<=x∧x<=ts.length∧jq none (ts.take x)=ts.take x) (fun x=>ts.length - x) (1) (⟨Tai _,om,by rw [ZGl rt];cases ts with | nil=>simp at rt | cons y ys=>simp at rt;simp [rt]⟩) (fun x hx=>?_)
 obtain ⟨uf,hxn,hxd⟩:=hx;by_cases au:x < ts.length;rotate_left
 ·obtain rfl:x=ts.length:=by omega
  have q1:=lF ts.length ts.length;rw [Tap] at hxd;refine fG (ai @q1 @ae) ?_;rw [hxd];exact m182
 obtain ⟨u,hu⟩:∃ t,ts[x]?=some t:=⟨_,Taa au⟩;obtain ⟨z,rfl⟩:∃ z,x=z+1:=⟨x - 1,om⟩;obtain ⟨v,hv⟩:∃ t,ts[z]?=some t:=⟨_,Taa om⟩;have q1:=lT (z+1:Nat) ts.length;have w1:IntKind.i64.wrap (((z+1:Nat):Int) - 1)=(z:Int):=dI om om om;have w2:IntKind.i64.wrap (((z+1:Nat):Int)+1)=((z+1+1:Nat):Int):=dI om om om;have D3:z+1 < ts.length:=au;have xk:z < ts.length:=om;have bm:=ZsW hu hv;generalize hxx:z+1=x at *
 rw [show z+2=x+1 by omega] at bm;refine bp (ai @q1 @ae) (aj8 @q1 @ae @hu @hv @w1 @D3 @xk @bf) (uv u v) (ai @q1 @ae) ?_;by_cases h0:aH u v=0;rotate_left
 ·have q3:decide (aH u v=0)=false:=decide_eq_false h0;rw [if_neg h0,hxd] at bm;have F:=ai @q3 @w2;refine gG ?_;exact ⟨x+1,⟨om,au,by rw [bm];simp [List.take_add_one,hu]⟩,gw,gw,om⟩
 have q3:decide (aH u v=0)=true:=decide_eq_true h0;rw [if_pos h0,hxd] at bm;refine il 7 (ai @q3 @ae) 2 (ai @q3 @ae) ?_;have F:=bf;refine yd 1000 x ts.length ⟨om,by rw [bf];exact Tai _⟩ ?_;refine dT @ae @ae ?_;have F:=@ae;refine gL (ι:=Nat × Nat × List Tm) [5,7,35,49] [1000] (fun y=>[(7,.d (.one (.lit (.int .i64 (y.1:Int))))),(5,.d (.one (.lit (.int .i64 (y.2.1:Int)))))]) (fun y=>[(1000,.buf (some (a,cap)) 53 4 (aq y.2.2))]) (fun y=>1<=y.1∧x+y.1<=ts.length∧y.2.1+1<=x+y.1∧y.2.2.length=ts.length∧y.2.2.take y.2.1=jq none (ts.take (x+y.1))∧y.2.2.drop (x+y.1 - 1)=ts.drop (x+y.1 - 1)) (fun y=>ts.length - y.1) ((1,x,ts)) (⟨Tai _,au,Tai _,rfl,bm.symm,rfl⟩) (fun y hy=>?_)
 obtain ⟨j,k,us⟩:=y;obtain ⟨h1,js,h3,h4,h5,h6⟩:=hy;simp only at h1 js h3 h4 h5 h6;dsimp only;have hn4:ts.length=us.length:=h4.symm;by_cases hj:j < ts.length - x
 ·obtain ⟨i,rfl⟩:∃ i,j=i+1:=⟨j - 1,om⟩;obtain ⟨u1,uc⟩:∃ t,ts[x+i+1]?=some t:=⟨_,Taa om⟩;obtain ⟨v1,sW⟩:∃ t,ts[x+i]?=some t:=⟨_,Taa om⟩;have e1:us[x+(i+1)]?=some u1:=by
   rw [<- uc,show x+(i+1) - 1=x+i by omega] at *;exact Zxg h6 1
  have e2:us[x+i]?=some v1:=by
   rw [<- sW,show x+(i+1) - 1=x+i by omega] at *;exact Zxg h6 0
  have q4:=lT (i+1:Nat) (ts.length - x:Nat);have w3:IntKind.i64.wrap (((i+1:Nat):Int) - 1)=(i:Int):=dI om om om;have w4:IntKind.i64.wrap (((i+1:Nat):Int)+1)=((i+1+1:Nat):Int):=dI om om om;have vz:=ZsW uc sW;rw [show x+i+2=x+(i+1+1) by omega,show x+i+1=x+(i+1) by omega,<- h5] at vz;refine il 11 (aj3 @q4 @ZCu @ae) 3 (ai @q4 @ae) ?_;have F:=bf;refine ZB5 (l:=x) (h:=ts.length) (rows:=aq us) 1000 (i+1) ⟨om,by rw [bf];omega⟩ ?_
  clear F;have F:=aj3 @ae @e1 @w3;refine gP 4 ?_;have F:=bf;refine ZB5 (l:=x) (h:=ts.length) (rows:=aq us) 1000 i ⟨om,by rw [bf];omega⟩ ?_;refine fC (ai @ae @e2) (uv u1 v1) ?_;refine fR @ae ?_;by_cases h7:aH u1 v1=0
  ·have q5:decide (aH u1 v1=0)=true:=decide_eq_true h7;rw [if_pos h7] at vz;have F:=ai @q5 @w4;refine gG ?_;exact ⟨(i+1+1,k,us),⟨by dsimp only;omega,by dsimp only;omega,by dsimp only;omega,h4,vz.symm,by rw [show x+(i+1+1) - 1=x+(i+1) - 1+1 by omega,<- List.drop_drop,<- List.drop_drop,h6]⟩,gw,gw,om⟩
  ·have q5:decide (aH u1 v1=0)=false:=decide_eq_false h7;rw [if_neg h7] at vz;obtain ⟨ok,aj⟩:∃ t,us[k]?=some t:=⟨_,Taa om⟩;have w5:IntKind.i64.wrap ((k:Int)+1)=((k+1:Nat):Int):=dI om om om;have eX:k < us.length:=om;refine il 12 (ai @q5 @ae) 4 (ai @q5 @ae) ?_;have F:=bf;refine ZHV (l:=x) (h:=ts.length) (rows:=aq us) 1000 (i+1) ⟨om,by rw [bf];omega⟩ ?_
   clear F;refine fR (aj6 @ae @e1 @aj @hn4 @eX @Zyj) ?_;have F:=aj3 @w4 @w5 @hn4;refine gG ?_;exact ⟨(i+1+1,k+1,us.set k u1),⟨by dsimp only;omega,by dsimp only;omega,by dsimp only;omega,by rw [Taz];exact h4,by rw [vz,ZCv eX],by rw [List.drop_set_of_lt om,show x+(i+1+1) - 1=x+(i+1) - 1+1 by omega,<- List.drop_drop,<- List.drop_drop,h6]⟩,gw,gw,om⟩
 ·have q4:=lF j (ts.length - x:Nat);have sP:x+j=ts.length:=om;rw [sP,Tap] at h5;have eX:k < us.length:=om;refine il 14 (aj3 @q4 @ZCu @ae) 2 (ai @q4 @ae) ?_;have F:=ai bf hn4;refine yd 1000 k us.length ⟨om,by rw [bf];exact Tai _⟩ ?_;rw [show us.length=(aq us).length by rw [bf]];refine ZHi 1000 (by rw [bf];exact eX) ?_;have Bh:((aq us).take k++List.replicate ((aq us).length - k) [C.lit (Value.int IntKind.i64 0),C.lit (Value.string ByteArray.empty),C.lit (Value.int IntKind.i64 0),C.sl []]).length=us.length:=by simp [bf];omega
  have hRt:((aq us).take k++List.replicate ((aq us).length - k) [C.lit (Value.int IntKind.i64 0),C.lit (Value.string ByteArray.empty),C.lit (Value.int IntKind.i64 0),C.sl []]).take k=aq (jq none ts):=by
   rw [List.take_append_of_le_length (by simp [bf];omega),List.take_take,Nat.min_self,rH,h5]
  generalize (aq us).take k++List.replicate ((aq us).length - k) [C.lit (Value.int IntKind.i64 0),C.lit (Value.string ByteArray.empty),C.lit (Value.int IntKind.i64 0),C.sl []]=R at Bh hRt ⊢;refine fR @ae ?_;refine il 15 (ai @q4 @ae) 2 (ai @q4 @ae) ?_;have F:=ai Bh hn4;refine yd 1000 0 k ⟨om,by rw [Bh];omega⟩ ?_;rw [ZmF];refine dT @ae @ae ?_
  refine pE [1000] [1000] (ZB4 k (by rw [Bh];omega)) ?_;rw [hRt];have ec:k=(aq (jq none ts)).length:=by rw [bf,<- h5,Taw];omega
  exact (have F:=bf;eU (R:=uk a cap 53 4 (aq (jq none ts))) [1000] ⟨by rw [<- ec],rfl⟩)
theorem Zjf (ts:List Tm):(cq ts).length=ts.length:=(nu ts).length_eq
theorem ZGN (ts:List Tm):jq none (cq ts)=rP ts:=by rw [ZDM (rJ ts),ZuE (nu ts)]
theorem Zrh (ts:List Tm) (hl:ts.length<=4000000) (a:Option Addr) (cap:Nat):aR e0 66 [.one (.lit (.slice a ts.length cap))] [.buf (some (a,cap)) 53 4 (aq ts)] (uk a cap 53 4 (aq (rP ts))):=by
 have hc:=Ztq (cq ts) (by rw [Zjf];exact hl) a cap;rw [Zjf,ZGN] at hc;refine dK (ts:=[.slot 2]) [1000] 5 Tryz.func66 ?_;refine fB @ae ?_;have F:=@ae;refine gCI (Zyi ts hl) (by rw [bf,bf,Zjf]) ?_;refine iY @ae @ae ?_;have F:=@ae;refine bR [1000] [1000] (hc) ?_;rintro r pm ⟨rfl,rfl⟩;refine m7 ?_;refine dT @ae @ae ?_;exact (have F:=bf;eU (R:=uk a cap 53 4 (aq (rP ts))) [1000] ⟨rfl,rfl⟩)
theorem m21 {p:Prop} (h:p:=by
 have ug:((x:Int)<=(ts.length:Int))=True:=eq_true om;have r1:ZaB 4 ((aq ts).take x)=true:=by rw [rH];exact oP _
 have r2:ZaB 4 ((aq ts).drop x)=true:=by rw [sB];exact oP _
 have n1:((aq ts).take x).length<=8000000:=by rw [Taw,bf];omega
 have n2:((aq ts).drop x).length<=8000000:=by rw [Tax,bf];omega
 have n3:((aq ts).take x).length+1<=ak:=by unfold ak;omega
 have n4:((aq ts).take x).length+1+((aq ts).drop x).length<=ak:=by unfold ak;omega
 have F:=aj6 r1 r2 ug n3 n4 ae;refine gA 7 4 ?_ (.inl rfl) ?_
 ·show 0+_<=ak;unfold ak;omega
 clear F;refine fR (aj6 @r1 @r2 @ug @n3 @n4 @ae) ?_;have n5:((aq ts).take x++[an t]).length+((aq ts).drop x).length<=ak:=by simp only [Tae,Tag,Tak];omega
 have xf:((ts.length:Int)<=(ts.length:Int))=True:=eq_true (Int.le_refl _);have F:=aj9 @r1 @r2 @ug @n3 @n4 @n5 @xf (by rw [<- bf ts,Tap]:(aq ts).take ts.length=aq ts) @ae;refine gG ?_;exact uV [4]):p:=h
theorem Zyk {t x:Tm} {ts:List Tm} {i:Nat} (hx:ts[i]?=some x) (h:fJ t ts=ts.take i++fJ t (ts.drop i)) (hc:aH x t < 0):fJ t ts=ts.take (i+1)++fJ t (ts.drop (i+1)):=by
 obtain ⟨hl,e⟩:=Tad.1 hx;rw [h,List.drop_eq_getElem_cons hl,e,fJ,if_pos hc];simp [List.take_add_one,hx]
theorem Zyl {t x:Tm} {ts:List Tm} {i:Nat} (hx:ts[i]?=some x) (h:fJ t ts=ts.take i++fJ t (ts.drop i)) (hc:aH x t=0):fJ t ts=ts:=by
 obtain ⟨hl,e⟩:=Tad.1 hx;rw [h,List.drop_eq_getElem_cons hl,e,fJ,if_neg om,if_pos hc,<- e,<- List.drop_eq_getElem_cons hl,Tbm]
theorem Zym {t x:Tm} {ts:List Tm} {i:Nat} (hx:ts[i]?=some x) (h:fJ t ts=ts.take i++fJ t (ts.drop i)) (h1:¬ aH x t < 0) (h2:¬ aH x t=0):fJ t ts=ts.take i++[t]++ts.drop i:=by
 obtain ⟨hl,e⟩:=Tad.1 hx;rw [h,List.drop_eq_getElem_cons hl,e,fJ,if_neg h1,if_neg h2];simp
theorem ZCw {t:Tm} {ts:List Tm} {i:Nat} (hi:ts.length<=i) (h:fJ t ts=ts.take i++fJ t (ts.drop i)):fJ t ts=ts.take i++[t]++ts.drop i:=by
 rw [h,List.drop_eq_nil_of_le hi,fJ];simp
theorem Ztr (ts:List Tm) (t:Tm) (ub:b9 ts) (ht:aK t) (hl:ts.length<=8000000):az e0 124 [.one (.sl (aq ts)),.agg (an t)] [.one (.sl (aq (fJ t ts)))]:=by
 refine gI (ts:=[.slot 4]) 8590459003 Tryz.func124 ?_;refine fG @ae ?_;have F:=@ae;refine gL (ι:=Nat) [5,19] [] (fun x=>[(5,.d (.one (.lit (.int .i64 (x:Int)))))]) (fun x=>[]) (fun x=>x<=ts.length∧fJ t ts=ts.take x++fJ t (ts.drop x)) (fun x=>ts.length - x) (0) (⟨Taj _,rfl⟩) (fun x hx=>?_);obtain ⟨hi,hf⟩:=hx;by_cases au:x < ts.length
 ·obtain ⟨a,ha⟩:∃ n,ts[x]?=some n:=⟨_,Taa au⟩;have q1:=lT x ts.length;have q4:IntKind.i64.wrap ((x:Int)+1)=(x:Int)+1:=IntWalk.i64_in _ om;refine bU (ai @q1 @ae) (aj3 @q1 @ae @ha) ((CY (ub.mem (Tac ha)) ht)) ?_;by_cases hc:aH a t < 0
  ·have q2:(aH a t < 0)=True:=eq_true hc;refine fR (aj3 @q1 @q2 @ae) ?_;have F:=ai @q4 @q2;refine gG ?_;exact ⟨x+1,⟨au,(Zyk ha hf hc)⟩,gw,gw,om⟩
  ·have q2:(aH a t < 0)=False:=eq_false hc;refine fR (aj3 @q1 @q2 @ae) ?_;refine bU (aj3 @q1 @q2 @ae) (aj3 @q1 @ae @ha) (tz (ub.mem (Tac ha)) ht) ?_;by_cases h0:aH a t=0
   ·have q3:decide (aH a t=0)=true:=decide_eq_true h0;refine fR (aj3 @q1 @q3 @ae) ?_;rw [Zyl ha hf h0];exact fD (ai @q3 @ae)
   ·have q3:decide (aH a t=0)=false:=decide_eq_false h0;refine fR (aj3 @q1 @q3 @ae) ?_;refine fN 6 (ai @q3 @ae) ?_;rw [(Zym ha hf hc h0),pf,pf,wb,<- rH,<- sB];exact m21
 ·refine fN 6 (ai (lF x ts.length) @ae) ?_;rw [(ZCw om hf),pf,pf,wb,<- rH,<- sB];exact m21
def fM (l:List Tm) (r:List Tm):List Tm:=l.foldl (fun r t=>fJ t r) r
theorem sH {ts:List Tm}:fM (jj []) ts=ts:=by simp [fM,jj]
theorem ZEb (a b r:List Tm):fM (a++b) r=fM b (fM a r):=by unfold fM;rw [List.foldl_append]
theorem ZqN (t:Tm):∀ l:List Tm,(fJ t l).length<=l.length+1
 | []=>by simp [fJ]
 | x::xs=>by
  have:=ZqN t xs;simp only [fJ];split
  ·simp only [Tag];omega
  ·split <;> simp only [Tag] <;> omega
theorem Znj:∀ (l r:List Tm),(fM l r).length<=r.length+l.length
 | [],r=>by simp [fM]
 | x::xs,r=>by
  have h1:=Znj xs (fJ x r);have h2:=ZqN x r;simp only [fM,List.foldl_cons,Tag] at h1 ⊢;omega
theorem Zts {t:Tm} (ht:aK t):∀ {l:List Tm},b9 l->b9 (fJ t l)
 | [],_=>by simp only [fJ,b9];exact ⟨ht,trivial⟩
 | x::xs,h=>by
  simp only [b9] at h;simp only [fJ];split
  ·simp only [b9];exact ⟨h.1,Zts ht h.2⟩
  ·split
   ·simp only [b9];exact h
   ·simp only [b9];exact ⟨ht,h⟩
theorem ZpK:∀ {l r:List Tm},b9 l->b9 r->b9 (fM l r)
 | [],r,_,h=>h
 | x::xs,r,h1,h2=>by
  simp only [b9] at h1;exact ZpK (l:=xs) (r:=fJ x r) h1.2 (Zts h1.1 h2)
theorem ZqO:∀ {a b:List Tm},b9 a->b9 b->b9 (a++b)
 | [],_,_,h=>h
 | x::xs,b,h1,h2=>by
  simp only [b9] at h1;simp only [Taf,b9];exact ⟨h1.1,ZqO h1.2 h2⟩
mutual
theorem Znk:∀ t:Tm,(iV t).length<=1+ab (an t)
 | .mk op nm so args=>by
  have:=Zlq args;simp only [iV,an,ab,dN,bf];split
  ·simp
  ·omega
theorem Zlq:∀ ts:List Tm,(jj ts).length<=ts.length+ah (aq ts)
 | []=>by simp [jj]
 | t::ts=>by
  have h1:=Znk t;have h2:=Zlq ts;simp only [jj,aq,ah,Tae,Tag];omega
end
theorem ZCx {t:Tm} (h:ab (an t)<=1048576):(iV t).length<=1048576:=by
 obtain ⟨op,nm,so,args⟩:=t;have:=Zlq args;simp only [iV,an,ab,dN,bf] at h ⊢;split
 ·simp
 ·omega
theorem Zlr:∀ (l:List Tm) (t:Tm),jj (l++[t])=jj l++iV t
 | [],t=>by simp [jj]
 | x::xs,t=>by simp [jj,Zlr xs t]
theorem Zio {l:List Tm} {i:Nat} {t:Tm} (h:l[i]?=some t):jj (l.take (i+1))=jj (l.take i)++iV t:=by
 rw [show l.take (i+1)=l.take i++[t] by simp [List.take_add_one,h],Zlr]
theorem Zka:∀ (l:List Tm) (i:Nat),(jj (l.take i)).length<=(jj l).length
 | [],i=>by simp [jj]
 | x::xs,0=>by simp [jj]
 | x::xs,i+1=>by have:=Zka xs i;simp only [Tbc,jj,Tae];omega
def kO (ts args:List Tm) (i:Nat):List Tm:=ts++jj (args.take i)
theorem ZHu (ts args:List Tm):kO ts args 0=ts:=by simp [kO,jj]
theorem ZCy {ts args:List Tm} {i:Nat} {b:Tm} (h:args[i]?=some b):kO ts args (i+1)=kO ts args i++iV b:=by
 unfold kO;rw [Zio h,Tbf]
theorem ZEc (ts args:List Tm):kO ts args args.length=ts++jj args:=by unfold kO;rw [Tap]
theorem ktF:nZ Tryz.prog 213=some .one:=by kernel_rfl
theorem ztF:pd Tryz.prog 213=some 1:=by kernel_rfl
theorem otF:iJ Tryz.prog 213=some [.lit .nilFunc]:=by kernel_rfl
theorem ZHv:aY (.lit .nilFunc)=true:=rfl
theorem Zjg:aq []=[]:=by simp [aq]
theorem gTPn {X:Prop} {P:Program} {ts:List RS} {R:List D->List Bk->Prop} {σ:St} {r:List D} {pm:List Bk} (ks:List Nat) (hR:R r pm) (hx:DB P ts R .normal σ->X:=by first | exact fun h=>h | exact fun h=>⟨_,Wk.refl _,h⟩) (hr:lJ P σ ts=some r:=by exact sfy) (hg:ej σ.m ks=some pm:=by exact nh) (hn:ks.Nodup:=by decide) (hp:pm.all pinned=true:=by exact nh):X :=
 hx ⟨r,ks,pm,hg,hn,hp,hR,De hr⟩
def gq (b:Nat):Value:=.pointer (some ⟨b,0,none⟩)
def um (bo bv:Nat) (f:FuncId) (ty:Nat) (ts:List Tm) (r:List D) (pm:List Bk):Prop:=∃ a cap,r=[]∧pm=[.var (some bo) [.lit (.slice a ts.length cap)],.buf (some (a,cap)) ty 4 (aq ts),.var (some bv) [.fn f [.lit (gq bo),.lit (gq bv)]]]
theorem Zri (t:Tm) (ts:List Tm) (a:Option Addr) (cap bo bv:Nat) (bq:bo≠bv) (hb:ab (an t)<=1048576) (hl:ts.length+(iV t).length<=4000000)
  (h:∀ x∈t.args,∀ (us:List Tm) (a:Option Addr) (cap:Nat),us.length+(iV x).length<=4000000->aR e0 135 [.agg (an x),.one (.lit (gq bo)),.one (.lit (gq bv))] [.var (some bo) [.lit (.slice a us.length cap)],.buf (some (a,cap)) 53 4 (aq us),.var (some bv) [.fn 135 [.lit (gq bo),.lit (gq bv)]]] (um bo bv 135 53 (us++iV x))) :
  aR e0 135 [.agg (an t),.one (.lit (gq bo)),.one (.lit (gq bv))] [.var (some bo) [.lit (.slice a ts.length cap)],.buf (some (a,cap)) 53 4 (aq ts),.var (some bv) [.fn 135 [.lit (gq bo),.lit (gq bv)]]] (um bo bv 135 53 (ts++iV t)):=by
 obtain ⟨op,nm,so,args⟩:=t;have hc:an (.mk op nm so args)=[.lit (.int .i64 op),.lit (.string nm),.lit (.int .i64 so),.sl (aq args)]:=by simp only [an]
 have gg:(bo=bv)=False:=eq_false bq;have cy:(bv=bo)=False:=eq_false (fun e=>bq e.symm);simp only [Tm.args] at h;simp only [an,ab,dN,bf] at hb;simp only [gq] at h ⊢;refine dK (ts:=[]) [1001,1000,1002] 15728943 Tryz.func135 ?_;by_cases ho:op=-1
 ·have q1:(op=-1)=True:=eq_true ho;have e1:iV (.mk op nm so args)=[.mk (-1) nm so []]:=by simp only [iV,if_pos ho]
  rw [e1] at hl ⊢;simp only [Tag,Tak,Nat.zero_add] at hl;have hm:ts.length+1<=ak:=by unfold ak;omega
  have c1:an (.mk (-1) nm so [])=[.lit (.int .i64 (-1)),.lit (.string nm),.lit (.int .i64 so),.sl []]:=by simp only [an,aq]
  refine fN 2 (aj3 @hc @q1 @ae) ?_
  have hR:∀ (a2:Option Addr) (dB:Nat),um bo bv 135 53 (ts++[.mk (-1) nm so []]) [] [.var (some bo) [.lit (.slice a2 (ts.length+1) dB)],.buf (some (a2,dB)) 53 4 (aq ts++[[.lit (.int .i64 (-1)),.lit (.string nm),.lit (.int .i64 so),.sl []]]),.var (some bv) [.fn 135 [.lit (.pointer (some ⟨bo,0,none⟩)),.lit (.pointer (some ⟨bv,0,none⟩))]]]:=fun a2 dB=>⟨a2,dB,rfl,by
   rw [show aq (ts++[.mk (-1) nm so []])=aq ts++[[.lit (.int .i64 (-1)),.lit (.string nm),.lit (.int .i64 so),.sl []]] by rw [mI,Tbv,<- mI,Tbu,List.map_nil,c1],Tae];rfl⟩
  have a1:(ts.length < ts.length+1)=True:=eq_true (Tan _);have a2:∀ Z:List C,(aq ts++[Z])[ts.length]?=some Z:=fun Z=>by rw [Tbq (by rw [bf];exact Tai _),bf,Nat.sub_self];rfl
  have a3:∀ Z X:List C,(aq ts++[Z]).set ts.length X=aq ts++[X]:=fun Z X=>by rw [List.set_append_right _ _ (by rw [bf];exact Tai _),bf,Nat.sub_self];rfl
  have F:=aj10 a1 a2 a3 hc q1 @ZCt hm gg cy ae;refine ZHR 8 ?_;refine gT1 8 ?_;refine gS 17 fun a2 dB=>?_;refine mg ?_;refine gT2 9 11 ?_ ?_
  ·refine mg ?_;refine gT2 10 11 ?_ ?_
   ·refine mg ?_;refine gT1 11 ?_;refine mg ?_;refine qm ?_
    (refine Ad ?_;(refine fG @ae ?_);exact (have F:=ae;eU [1001,17,1002] (hR a2 dB)))
   ·refine mg ?_;refine gT1 10 ?_;refine mg ?_;refine qm ?_
    (refine Ad ?_;(refine fG @ae ?_);exact (have F:=ae;eU [1001,17,1002] (hR a2 dB)))
  ·refine mg ?_;refine gT1 9 ?_;refine mg ?_;refine gT1 10 ?_;refine mg ?_;refine qm ?_
   (refine Ad ?_;(refine fG @ae ?_);exact (have F:=ae;eU [1001,17,1002] (hR a2 dB)))
 ·have q1:(op=-1)=False:=eq_false ho;have e1:iV (.mk op nm so args)=jj args:=by simp only [iV,if_neg ho]
  rw [e1] at hl ⊢;have ca:args.length<=1048576:=om;refine fG (aj3 @hc @q1 @ae) ?_;have F:=@ZHu;refine gL (ι:=Nat × Option Addr × Nat) [5,22,23] [1000,1001,1002] (fun x=>[(22,.d (.one (.lit (.int .i64 (x.1:Int)))))]) (fun x=>[(1001,.var (some bo) [.lit (.slice x.2.1 (kO ts args x.1).length x.2.2)]),(1000,.buf (some (x.2.1,x.2.2)) 53 4 (aq (kO ts args x.1))),(1002,.var (some bv) [.fn 135 [.lit (.pointer (some ⟨bo,0,none⟩)),.lit (.pointer (some ⟨bv,0,none⟩))]])]) (fun x=>x.1<=args.length) (fun x=>args.length - x.1) ((0,a,cap)) (Taj _) (fun x hx=>?_);clear F
  obtain ⟨i,a2,dB⟩:=x;simp only at hx;dsimp only;by_cases au:i < args.length
  ·obtain ⟨b,hg⟩:∃ b,args[i]?=some b:=⟨_,Taa au⟩;have q2:=lT i args.length;have q4:IntKind.i64.wrap ((i:Int)+1)=(i:Int)+1:=IntWalk.i64_in _ om;have B5:=Zio hg;have ct:=Zka args (i+1);rw [B5,Tae] at ct;have bV:=h b (Tac hg) (kO ts args i) a2 dB (by unfold kO;rw [Tae];omega);rw [<- ZCy hg] at bV;refine fB (aj6 @q2 @hc @bf @sA @hg @ae) ?_;have F:=aj4 @ktF @gg @cy @ae;refine bR [1001,1000,1002] [1001,1000,1002] (bV) ?_;clear F
   rintro r pm ⟨a3,ou,rfl,rfl⟩;simp only [gq,aI,bh,aZ,Taf,Tah];refine fR @ae ?_;have F:=@q4;refine gG ?_;exact ⟨(i+1,a3,ou),au,gw,gw,om⟩
  ·obtain rfl:i=args.length:=by omega
   have q2:=lF args.length args.length;refine fG @q2 ?_;have hR:um bo bv 135 53 (ts++jj args) [] [.var (some bo) [.lit (.slice a2 (kO ts args args.length).length dB)],.buf (some (a2,dB)) 53 4 (aq (kO ts args args.length)),.var (some bv) [.fn 135 [.lit (.pointer (some ⟨bo,0,none⟩)),.lit (.pointer (some ⟨bv,0,none⟩))]]]:=by
    rw [<- ZEc];exact ⟨a2,dB,rfl,rfl⟩
   exact (have F:=ae;gTPn [1001,1000,1002] hR)
theorem Ztt (bo bv:Nat) (bq:bo≠bv) (n:Nat):∀ (t:Tm),d6 (an t) < n->ab (an t)<=1048576->∀ (ts:List Tm) (a:Option Addr) (cap:Nat),ts.length+(iV t).length<=4000000->aR e0 135 [.agg (an t),.one (.lit (gq bo)),.one (.lit (gq bv))] [.var (some bo) [.lit (.slice a ts.length cap)],.buf (some (a,cap)) 53 4 (aq ts),.var (some bv) [.fn 135 [.lit (gq bo),.lit (gq bv)]]] (um bo bv 135 53 (ts++iV t)):=by
 induction n with
 | zero=>exact fun _ h=>om
 | succ n ih =>
  intro t hn hb ts a cap hl;refine Zri t ts a cap bo bv bq hb hl fun x hx us a cap sa=>ih x ?_ ?_ us a cap sa
  ·obtain ⟨op,nm,so,args⟩:=t;exact m63
  ·obtain ⟨op,nm,so,args⟩:=t;simp only [an,ab,dN] at hb;simp only [Tm.args] at hx;obtain ⟨i,hi⟩:=Tbk hx;have h1:=tB (by rw [sA,hi];rfl:(aq args)[i]?=some (an x));omega
theorem Zip (t:Tm) (hb:ab (an t)<=1048576):az e0 67 [.agg (an t)] [.one (.sl (aq (ew t)))]:=by
 have hv:=ZCx hb;refine gI (ts:=[.slot 2]) 31 Tryz.func67 ?_;refine il 1 @ae 1 @ae ?_;refine gO 5 53 4 ?_;refine gS 5 fun a cap=>?_;refine fR @ae ?_;refine fN 3 (aj3 @otF @ztF @ae) ?_;refine m179 fun b3 b4 bq gg cy=>?_
 refine nJ 4 (aj7 @ktF @ztF @ZHv @aY.eq_4 @gg @cy @ae) ?_;have bV:=Ztt b3 b4 bq _ t (Tan _) om [] a cap (by simp;omega);have hdis:=fun (a:Option Addr) (cap:Nat)=>Zrh (iV t) om a cap;simp only [gq,Tak,Tah,Zjg] at bV;have F:=aj4 @ktF @gg @cy @ae;refine bR [3,5,4] [3,5,4] (bV) ?_;rintro r pm ⟨a2,dB,rfl,rfl⟩;simp only [gq,aI,bh,aZ,Taf,Tah];refine iY @ae @ae ?_;have F:=aj3 @gg @cy @ae;refine bR [5] [5] (hdis a2 dB) ?_;rintro r pm ⟨rfl,rfl⟩;refine m7 ?_;refine fR @ae ?_;refine pD 5 [2] [] ?_ (hs:=by exact cJ);exact fD @ae
theorem ZCz (nm:ByteArray) (so:Int):az e0 85 [.one (.lit (.string nm)),.one (.lit (.int .i64 so))] [.agg (an (.mk (-1) nm so []))]:=by
 rw [(by simp only [an,aq]:an (.mk (-1) nm so [])=[.lit (.int .i64 (-1)),.lit (.string nm),.lit (.int .i64 so),.sl []])];refine gI (ts:=[.cell 4 53]) 19 Tryz.func85 ?_;exact fD @aw
theorem ZCA {e:Env} {f:FuncId} {a:D} {rows:List (List C)} {r:List D} (h:az e f [a,.one (.sl rows)] r):az e f [a,.clip rows] r :=
 ⟨h.1,fun w S vs h1 h2 h3 h4=>h.2 w S vs h1 h2 h3 (by
  match vs,h4 with
  | [x,y],h4=>exact ⟨h4.1,h4.2.1.1,trivial⟩)⟩
theorem Ztu {op so:Int} {nm:ByteArray} {args:List Tm} (h:aK (.mk op nm so args)):aK (.mk (-1) nm so []):=by
 simp only [aK,b9,and_true] at h ⊢;exact ⟨by unfold eP;omega,h.2.1,h.2.2.1⟩
mutual
theorem ZqP:∀ {t:Tm},aK t->b9 (iV t)
 | .mk op nm so args,h=>by
  simp only [iV];split
  ·simp only [b9];exact ⟨Ztu h,trivial⟩
  ·simp only [aK] at h;exact Zkb h.2.2.2
theorem Zkb:∀ {l:List Tm},b9 l->b9 (jj l)
 | [],_=>by simp [jj,b9]
 | x::xs,h=>by
  simp only [b9] at h;simp only [jj];exact ZqO (ZqP h.1) (Zkb h.2)
end
theorem ZoL:∀ {l:List Tm} (i:Nat),b9 l->b9 (l.take i)
 | [],_,_=>by simp [b9]
 | x::xs,0,_=>by simp [b9]
 | x::xs,i+1,h=>by
  simp only [b9] at h;simp only [Tbc,b9];exact ⟨h.1,ZoL i h.2⟩
theorem Znl (t:Tm) (ts:List Tm) (ht:aK t) (ub:b9 ts) (hb:ab (an t)<=1048576) (hl:ts.length+(iV t).length<=7000000) (h:∀ x∈t.args,∀ us:List Tm,b9 us->us.length+(iV x).length<=7000000->az e0 202 [.agg (an x),.one (.sl (aq us))] [.one (.sl (aq (fM (iV x) us)))]) :
  az e0 202 [.agg (an t),.one (.sl (aq ts))] [.one (.sl (aq (fM (iV t) ts)))]:=by
 obtain ⟨op,nm,so,args⟩:=t;have hc:an (.mk op nm so args)=[.lit (.int .i64 op),.lit (.string nm),.lit (.int .i64 so),.sl (aq args)]:=by simp only [an]
 simp only [Tm.args] at h;simp only [an,ab,dN,bf] at hb;refine gI (ts:=[.slot 4]) 1048887 Tryz.func202 ?_;by_cases ho:op=-1
 ·have q1:(op=-1)=True:=eq_true ho;have e1:iV (.mk op nm so args)=[.mk (-1) nm so []]:=by simp only [iV,if_pos ho]
  rw [e1] at hl ⊢;simp only [Tag,Tak,Nat.zero_add] at hl;have hI:=Ztr ts (.mk (-1) nm so []) ub (Ztu ht) om;refine fB (aj3 @hc @q1 @ae) ?_;refine fC @hc (ZCz nm so) ?_;refine fC @hc (hI) ?_;refine fR @hc ?_;simp only [fM,List.foldl_cons,List.foldl_nil];exact fD @ae
 ·have q1:(op=-1)=False:=eq_false ho;have e1:iV (.mk op nm so args)=jj args:=by simp only [iV,if_neg ho]
  rw [e1] at hl ⊢;have hk:b9 args:=by simp only [aK] at ht;exact ht.2.2.2
  refine fG (aj3 @hc @q1 @ae) ?_;have F:=ai ((fun (r:List Tm)=>(sH:fM (jj []) r=r))) @ae;refine gL (ι:=Nat) [1,5,20] [] (fun x=>[(5,.d (.one (.lit (.int .i64 (x:Int))))),(1,.d (.one (.sl (aq (fM (jj (args.take x)) ts)))))]) (fun x=>[]) (fun x=>x<=args.length) (fun x=>args.length - x) (0) (Taj _) (fun x hx=>?_);clear F;by_cases au:x < args.length
  ·obtain ⟨b,hg⟩:∃ b,args[x]?=some b:=⟨_,Taa au⟩;have q2:=lT x args.length;have q4:IntKind.i64.wrap ((x:Int)+1)=(x:Int)+1:=IntWalk.i64_in _ om;have B5:=Zio hg;have ct:=Zka args (x+1);rw [B5,Tae] at ct;have ip:=Znj (jj (args.take x)) ts;have bV:=h b (Tac hg) (fM (jj (args.take x)) ts) (ZpK (Zkb (ZoL x hk)) ub) om;rw [<- ZEb,<- B5] at bV;refine fB (aj3 @q2 @hc @ae) ?_;refine fC (aj4 @q2 @hc @hg @ae) (bV) ?_
   refine fR @ae ?_;have F:=@q4;refine gG ?_;exact ⟨x+1,au,gw,gw,om⟩
  ·obtain rfl:x=args.length:=by omega
   have q2:=lF args.length args.length;rw [Tap];exact fD (aj3 @q2 @hc @ae)
theorem ZoM (n:Nat):∀ t:Tm,d6 (an t) < n->aK t->ab (an t)<=1048576->∀ ts:List Tm,b9 ts->ts.length+(iV t).length<=7000000->az e0 202 [.agg (an t),.one (.sl (aq ts))] [.one (.sl (aq (fM (iV t) ts)))]:=by
 induction n with
 | zero=>exact fun _ h=>om
 | succ n ih =>
  intro t hn ht hb ts ub hl;refine Znl t ts ht ub hb hl fun x hx us cu sa=>?_;obtain ⟨op,nm,so,args⟩:=t;simp only [an,d6,mo] at hn;simp only [an,ab,dN] at hb;simp only [aK] at ht;simp only [Tm.args] at hx;obtain ⟨i,hi⟩:=Tbk hx;have eG:(aq args)[i]?=some (an x):=by rw [sA,hi];rfl
  have h1:=n7 eG;have h2:=tB eG;exact ih x om (ht.2.2.2.mem hx) om us cu sa
theorem Ziq {t:Tm} (ht:aK t) (hb:ab (an t)<=1048576):az e0 123 [.agg (an t)] [.one (.sl (aq (ew t)))]:=by
 have hv:=Znk t;have bV:=ZoM _ t (Tan _) ht hb [] trivial (by simp;omega);have bV:=ZCA (by rw [Zjg] at bV;exact bV);rw [show fM (iV t) []=ew t from rfl] at bV;refine gI (ts:=[.slot 2]) 7 Tryz.func123 ?_;refine bU @ae @ae (bV) ?_;exact bK @ae @ae
theorem Zyn {l:List Tm} (h:b9 l):b9 (rP l):=ZpK (r:=[]) h trivial
theorem Zkc {t:Tm} (h:aK t):b9 (ew t):=Zyn (ZqP h)
theorem ZEd (l:List Tm):(rP l).length<=l.length:=by have:=Znj l [];simpa [fM,rP] using this
theorem ZhM (t:Tm):(ew t).length<=1+ab (an t):=Tbe (ZEd _) (Znk t)
theorem Zrk {vs:List Tm} {p:Tm->Bool} {i:Nat} {a:Tm} (h:vs[i]?=some a):(vs.take (i+1)).any p=((vs.take i).any p || p a):=by
 rw [List.take_add_one,h];simp
theorem Zrl {vs:List Tm} {p:Tm->Bool} {i:Nat} {a:Tm} (h:vs[i]?=some a):(vs.take (i+1)).all p=((vs.take i).all p && p a):=by
 rw [List.take_add_one,h];simp
theorem Ak {α:Type} {vs:List α} {p:α->Bool} {i:Nat} {a:α} (h:vs[i]?=some a):(vs.take (i+1)).all p=((vs.take i).all p && p a):=by
 rw [List.take_add_one,h];simp
theorem wq {α:Type} {vs:List α} {p:α->Bool} {a:α} (h:a∈vs) (hp:p a=false):vs.all p=false:=by
 rw [List.all_eq_false];exact ⟨a,h,by simp [hp]⟩
theorem m162 {p:Prop} (h:p:=by
 subst e;rw [hv] at pT;rw [hy] at iC;injection pT with pT;injection iC with iC;subst pT iC;exact n9.1 h5):p:=h
section
variable {g:Sgn} {l:List Bd}
def xp (g:Sgn) (p t:Tm) (l:List Bd):Prop:=aS g l p=some t∧d4 g t=true∧ew p=l.map Bd.var
open Classical in
noncomputable def rD (g:Sgn) (p t:Tm) (l:List Bd):Bool:=decide (xp g p t l)
theorem Ztv {p t:Tm} (h:xp g p t l):rD g p t l=true:=by simp [rD,h]
theorem uC {p t:Tm} (h:¬ xp g p t l):rD g p t l=false:=by simp [rD,h]
theorem Zxh {vs:List Tm} (hn:vs.length=l.length) (h:∀ (j:Nat) v y,j < vs.length->vs[j]?=some v->l[j]?=some y->v=y.var):vs=l.map Bd.var:=by
 refine List.ext_getElem? fun j=>?_;rw [Tba];by_cases hj:j < vs.length
 ·rw [Taa hj,Taa (by omega:j < l.length)];exact congrArg some (h j _ _ hj (Taa hj) (Taa om))
 ·rw [List.getElem?_eq_none om,List.getElem?_eq_none om];rfl
theorem Zxi {vs:List Tm} (h:vs=l.map Bd.var) {j:Nat} {v:Tm} {y:Bd} (hv:vs[j]?=some v) (hy:l[j]?=some y):v=y.var:=by
 subst h;rw [Tba,hy] at hv;injection hv with hv
 exact hv.symm
theorem Zrm {p t:Tm} (aj:jk g) (hp:aK p) (ua:ab (an p)<=1048576) (ht:aK t) (htb:ab (an t)<=1048576) (hl:wM l) (hb:(je l).length+ah (je l)<=1048576):az e0 97 [.agg (bN g),.agg (an p),.agg (an t),.one (.sl (je l))] [.one (.lit (.bool (rD g p t l)))]:=by
 rw [xx] at hb;have cA:=Zf8 aj hl hb hp ua;have cV:=Ziq hp ua;have cT:=yV aj ht (qe htb);have bl:=xx l;have bg:=C4 l;have bb:=uP l;have vl:=bf (ew p);rw [bN] at cA cT ⊢;refine gI (ts:=[.slot 8]) 576535519094120319 Tryz.func97 ?_;refine bw 1 @ae @ae (cA) @ae ?_;refine bw 2 @ae @ae (cV) @ae ?_;refine fN 3 @ae ?_
 cases h1:aS g l p with
 | none =>
  have z2:(none:Option Tm).isSome=false:=rfl;rw [uC fun h=>by rw [h.1] at h1;cases h1];exact fD (ai @z2 @ae)
 | some u =>
 have z4:∀ u:Tm,(some u).isSome=true:=fun _=>rfl;have z3:∀ u:Tm,(some u).getD ck=u:=fun _=>rfl;have hg:=ZHt h1;have hS:SbsOk g l:=by
  unfold aS at h1;split at h1
  ·next hc=>exact Zhs.1 hc.2.1
  ·cases h1
 have h8:=hS.len;have cS:=tz (dt.ok hg _ u (Tan _) (ZrV h1).form) ht;refine nI (ai @z4 @ae) (cT) ?_
 cases h2:(fA g && d4 g t) with
 | false =>
  rw [uC fun h=>by rw [h.2.1,v8 hg] at h2;cases h2];exact bK @ae @ae
 | true =>
 rw [Tar] at h2;refine fC (aj3 @z3 @z4 @ae) (cS) ?_;by_cases h3:aH u t=0;rotate_left
 ·rw [uC fun h=>by rw [h.1] at h1;injection h1 with h1;exact h3 (n9.2 h1.symm),decide_eq_false h3];exact bK @ae @ae
 rw [decide_eq_true h3];obtain rfl:=n9.1 h3;by_cases h4:(ew p).length=l.length;rotate_left
 ·rw [uC fun h=>h4 (by rw [h.2.2,Tay])];exact bK (aj4 (eq_false om:(((ew p).length:Int)=(l.length:Int))=False) @vl @bl @ae) @ae
 refine dT (aj4 (eq_true om:(((ew p).length:Int)=(l.length:Int))=True) @vl @bl @ae) @ae ?_;have F:=@ae;refine gL (ι:=Nat) [8,12,46,59] [] (fun i=>[(12,A.d (.one (.lit (.int .i64 i))))]) (fun i=>[]) (fun i=>i<=(ew p).length∧∀ (j:Nat) v y,j < i->(ew p)[j]?=some v->l[j]?=some y->v=y.var) (fun i=>(ew p).length - i) (0) (⟨Taj _,fun j v y h=>absurd h om⟩) (fun i hi=>?_)
 obtain ⟨hi,aD⟩:=hi;by_cases ci:i < (ew p).length;rotate_left
 ·obtain rfl:i=(ew p).length:=by omega
  rw [Ztv ⟨h1,h2.2,Zxh h4 aD⟩];exact fD (aj3 (lF ((ew p).length) ((ew p).length)) @vl @ae)
 have q2:=lT i ((ew p).length);obtain ⟨v,hv⟩:∃ v,(ew p)[i]?=some v:=⟨_,Taa ci⟩;obtain ⟨y,hy⟩:∃ y,l[i]?=some y:=⟨_,Taa om⟩;have o9:aK v:=Zlm.1 (Zkc hp) v (Tac hv);have dZ:=bI (k:=i) om;refine bz 8 (aj3 @q2 @vl @ae) (aj8 @bl @bb @bg @hv @hy @gN @bD @ae) ((tz o9 (hl y (Tac hy)).1)) ?_;by_cases h5:aH v y.var=0;rotate_left
 ·rw [uC fun h=>h5 (n9.2 (Zxi h.2.2 hv hy)),decide_eq_false h5];exact bK @ae @ae
 rw [decide_eq_true h5];have rf:i+1<=(ew p).length∧∀ (j:Nat) v y,j < i+1->(ew p)[j]?=some v->l[j]?=some y->v=y.var:=⟨ci,fun j v' y' hj pT iC=>by
  by_cases e:j=i
  ·exact m162
  ·exact aD j v' y' om pT iC⟩
 refine fR @ae ?_;have F:=ai @dZ @ae;refine gG ?_;exact ⟨i+1,rf,gw,gw,om⟩
theorem Zrn {p t:Tm} (aj:jk g) (hp:aK p) (ua:ab (an p)<=1048576) (ht:aK t) (htb:ab (an t)<=1048576) (hl:wM l) (hb:(je l).length+ah (je l)<=1048576):az e0 110 [.agg (bN g),.agg (an p),.agg (an t),.one (.sl (je l))] [.one (.lit (.bool (rD g p t l)))]:=by
 rw [xx] at hb;have bC:¬ (fA g=true∧ol g l=true∧d4 g p=true)->rD g p t l=false:=fun h=>uC fun h'=>by
  have:=h'.1;unfold aS at this;rw [if_neg h] at this
  cases this
 have bl:=xx l;have bg:=C4 l;have bb:=uP l;have vl:=bf (ew p);by_cases hs:fA g=true;rotate_left
 ·have cN:=Zjq aj (fun h=>hs (v8 h));rw [bC fun h=>hs h.1];rw [bN] at cN ⊢;refine gI (ts:=[.slot 8]) 2308024990039048063 Tryz.func110 ?_;refine bz 1 @ae @ae (cN) ?_;exact bK @ae @ae
 have hg:=tE.1 hs;have cN:=ZuU aj hg;rw [bN] at cN ⊢;refine gI (ts:=[.slot 8]) 2308024990039048063 Tryz.func110 ?_;refine nJ 1 @ae ?_;have F:=@ae;refine bR [] [1000] (cN) ?_;rintro r pm ⟨b,rfl,rfl⟩;refine m7 ?_;refine fR @ae ?_;refine pM g b 1000 ?_;have cY:=(C7 (mc:=.lit (.map (some b))) hg ht (qe htb)).m (g:=g) (b:=b)
 have cS:=ZCo (b:=b) hg hl (fun y hy=>qe (Ztn hb y hy).2);have cV:=(Zip p ua).m (g:=g) (b:=b);refine bz 2 @ee @ee (((C7 (mc:=.lit (.map (some b))) hg hp (qe ua)).m (g:=g) (b:=b))) ?_
 cases h1:d4 g p with
 | false =>
  rw [bC fun h=>by rw [h1] at h;cases h.2.2];exact bK @ee @ee
 | true =>
 refine fC @ee (cY) ?_
 cases h2:d4 g t with
 | false =>
  rw [uC fun h=>by rw [h.2.1] at h2;cases h2];exact bK @ee @ee
 | true =>
 refine fC @ee (cS) ?_
 cases h3:ol g l with
 | false =>
  rw [bC fun h=>by rw [h3] at h;cases h.2.1];exact bK @ee @ee
 | true =>
 have hS:=Zhs.1 h3;have h8:=hS.len;have ex:aS g l p=ie g l p:=by unfold aS;rw [if_pos ⟨hs,h3,h1⟩]
 have aX:=(ZiU (mc:=.lit (.map (some b))) hg hS.w _ (Tan _) (mP.1 h1)).m (g:=g) (b:=b);rw [<- ex] at aX;refine fR @ee ?_;refine bw 4 @ee @ee (cV) @ee ?_;by_cases h4:(ew p).length=l.length;rotate_left
 ·rw [uC fun h=>h4 (by rw [h.2.2,Tay])];exact fD (aj4 (eq_false om:(((ew p).length:Int)=(l.length:Int))=False) @vl @bl @ee)
 refine fG (aj4 (eq_true om:(((ew p).length:Int)=(l.length:Int))=True) @vl @bl @ee) ?_;have F:=@ee;refine gL (ι:=Nat) [8,12,13,49,50,61] [] (fun i=>[(49,A.d (.one (.lit (.int .i64 i))))]) (fun i=>[]) (fun i=>i<=(ew p).length∧∀ (j:Nat) v y,j < i->(ew p)[j]?=some v->l[j]?=some y->v=y.var) (fun i=>(ew p).length - i) (0) (⟨Taj _,fun j v y h=>absurd h om⟩) (fun i hi=>?_);obtain ⟨hi,aD⟩:=hi
 by_cases ci:i < (ew p).length;rotate_left
 ·obtain rfl:i=(ew p).length:=by omega
  refine bw 13 (aj3 (lF ((ew p).length) ((ew p).length)) @vl @ee) @ee (aX) @ee ?_
  cases h5:aS g l p with
  | none =>
   have z2:(none:Option Tm).isSome=false:=rfl;rw [uC fun h=>by rw [h.1] at h5;cases h5];exact fD (ai @z2 @ee)
  | some u =>
  have z4:∀ u:Tm,(some u).isSome=true:=fun _=>rfl;have z3:∀ u:Tm,(some u).getD ck=u:=fun _=>rfl;have e:rD g p t l=decide (aH u t=0):=by
   by_cases h6:aH u t=0
   ·rw [decide_eq_true h6];obtain rfl:=n9.1 h6;exact Ztv ⟨h5,h2,Zxh h4 aD⟩
   ·rw [decide_eq_false h6];exact uC fun h=>h6 (n9.2 (by rw [h.1] at h5;injection h5 with h5;exact h5.symm))
  rw [e];refine bz 14 (aj3 @z3 @z4 @ee) (aj3 @z3 @z4 @ee) (((uv u t).m (g:=g) (b:=b))) ?_;exact bK @ee @ee
 have q2:=lT i ((ew p).length);obtain ⟨v,hv⟩:∃ v,(ew p)[i]?=some v:=⟨_,Taa ci⟩;obtain ⟨y,hy⟩:∃ y,l[i]?=some y:=⟨_,Taa om⟩;have dZ:=bI (k:=i) om;refine bz 10 (aj5 @q2 @vl @hv @bD @ee) (aj8 @bl @bb @bg @hv @hy @gN @bD @ee) (((uv v y.var).m (g:=g) (b:=b))) ?_;by_cases h5:aH v y.var=0;rotate_left
 ·rw [uC fun h=>h5 (n9.2 (Zxi h.2.2 hv hy)),decide_eq_false h5];exact bK @ee @ee
 rw [decide_eq_true h5];have rf:i+1<=(ew p).length∧∀ (j:Nat) v y,j < i+1->(ew p)[j]?=some v->l[j]?=some y->v=y.var:=⟨ci,fun j v' y' hj pT iC=>by
  by_cases e:j=i
  ·exact m162
  ·exact aD j v' y' om pT iC⟩
 refine fR @ee ?_;have F:=ai @dZ @ee;refine gG ?_;exact ⟨i+1,rf,gw,gw,om⟩
end
theorem m251 {p:Prop} (h:p:=by
 have F:=aj4 @ae @q2 @bm @hw2;refine gG ?_;exact ⟨y+1,jT,gw,gw,om⟩):p:=h
theorem m183 {p:Prop} (h:p:=by
 exact ⟨c::cs,rfl,by intro x hx;rcases Tbg.1 hx with rfl | hx;exact hc;exact ez x hx⟩):p:=h
theorem yI {p:Prop} (h:p:=by
 refine gG ?_;exact ⟨x+1,hq,gw,gw,om⟩):p:=h
structure Eqn where
 l:Tm
 r:Tm
 cs:List (Tm × Tm)
def lv (c:Tm × Tm):List C:=an c.1++an c.2
def dy (e:Eqn):List C:=an e.l++(an e.r++[.sl (e.cs.map lv)])
def ZrW (c:Tm × Tm):Prop:=aK c.1∧aK c.2
def xU (e:Eqn):Prop:=aK e.l∧aK e.r∧∀ c∈e.cs,ZrW c
theorem ZHz {row:List C} (h:aV (Zab .cond) row):∃ c,row=lv c∧ZrW c:=by
 obtain ⟨i0,t1,i2,r3,i4,t5,i6,r7,rfl,g0,g1,g2,g3,g4,g5,g6,g7⟩:=Zen h;obtain ⟨a,rfl,ha⟩:=wG g3;obtain ⟨a',rfl,de⟩:=wG g7;refine ⟨(.mk i0 t1 i2 a,.mk i4 t5 i6 a'),by simp [lv,an],?_⟩;simp only [ZrW,aK];exact ⟨⟨g0,g1,g2,ha⟩,g4,g5,g6,de⟩
theorem Zxo:∀ {rows:List (List C)},aO (Zab .cond) rows->∃ cs:List (Tm × Tm),rows=cs.map lv∧∀ c∈cs,ZrW c
 | [],_=>⟨[],rfl,by simp⟩
 | r::rs,h=>by
  simp only [aO] at h;obtain ⟨c,rfl,hc⟩:=ZHz h.1;obtain ⟨cs,rfl,ez⟩:=Zxo h.2;exact m183
theorem ZHA {row:List C} (h:aV (Zab .eqn) row):∃ e,row=dy e∧xU e:=by
 obtain ⟨i0,t1,i2,r3,i4,t5,i6,r7,r8,rfl,g0,g1,g2,g3,g4,g5,g6,g7,g8⟩:=ZeI h;obtain ⟨a,rfl,ha⟩:=wG g3;obtain ⟨a',rfl,de⟩:=wG g7;obtain ⟨cs,rfl,ez⟩:=Zxo g8;refine ⟨⟨.mk i0 t1 i2 a,.mk i4 t5 i6 a',cs⟩,by simp [dy,an],?_,?_,ez⟩
 ·simp only [aK];exact ⟨g0,g1,g2,ha⟩
 ·simp only [aK];exact ⟨g4,g5,g6,de⟩
theorem tm4 (t:Tm):∃ a b c d,an t=[a,b,c,d]:=by
 obtain ⟨op,nm,so,args⟩:=t;simp only [an];exact ⟨_,_,_,_,rfl⟩
theorem sx (t:Tm) (l:List C):(an t++l).take 4=an t:=by obtain ⟨a,b,c,d,h⟩:=tm4 t;rw [h];rfl
theorem Au (t:Tm) (l:List C):(an t++l).drop 4=l:=by obtain ⟨a,b,c,d,h⟩:=tm4 t;rw [h];rfl
theorem ZtE (e:Eqn):(dy e).take 4=an e.l:=sx _ _
theorem Znr (e:Eqn):(dy e).drop 4=an e.r++[.sl (e.cs.map lv)]:=Au _ _
theorem ZtF (e:Eqn):(dy e).drop 8=[.sl (e.cs.map lv)]:=by
 rw [show (8:Nat)=4+4 from rfl,<- List.drop_drop,Znr,Au]
theorem ZlA (e:Eqn):(dy e).length=9:=by simp [dy,(ae.2.2.2.2.1:∀ t,(an t).length=4)]
theorem ZtG (e:Eqn):(dy e).take 9=dy e:=List.take_of_length_le (by rw [ZlA];exact Tai _)
theorem ZtH (e:Eqn):(dy e).drop 9=[]:=List.drop_of_length_le (by rw [ZlA];exact Tai _)
theorem Zyx (e:Eqn):(dy e).all aY=true:=by
 simp only [dy,List.all_append,(ae.2.2.2.2.2.2.2.1:∀ t,(an t).all aY=true),Bool.true_and];rfl
theorem ZFX (e:Eqn):fQ TK.one (dy e)=some (A.d (.one (.lit (.int .i64 e.l.op)))):=by
 obtain ⟨⟨op,nm,so,args⟩,r,cs⟩:=e;simp [dy,an,fQ,Tm.op]
theorem ZlB (c:Tm × Tm):(lv c).length=8:=by simp [lv,(ae.2.2.2.2.1:∀ t,(an t).length=4)]
theorem ZtI (c:Tm × Tm):(lv c).take 4=an c.1:=sx _ _
theorem ZtJ (c:Tm × Tm):(lv c).drop 4=an c.2:=Au _ _
theorem ZtK (c:Tm × Tm):(lv c).take 8=lv c:=List.take_of_length_le (by rw [ZlB];exact Tai _)
theorem ZtL (c:Tm × Tm):(lv c).drop 8=[]:=List.drop_of_length_le (by rw [ZlB];exact Tai _)
theorem Zyy (c:Tm × Tm):(lv c).all aY=true:=by
 simp only [lv,List.all_append,(ae.2.2.2.2.2.2.2.1:∀ t,(an t).all aY=true),Bool.true_and]
theorem Zxp (cs:List (Tm × Tm)):ZaB 8 (cs.map lv)=true:=by
 induction cs with
 | nil=>rfl
 | cons c cs ih=>simp only [Tbu,zb,ZlB,ih];simp [Zyy]
theorem cw:type_of% (aj15 ZtE Znr ZtF ZlA ZtG ZtH Zyx ZFX ZlB ZtI ZtJ ZtK ZtL Zyy (aj3 Zxp sx Au)):=aj15 ZtE Znr ZtF ZlA ZtG ZtH Zyx ZFX ZlB ZtI ZtJ ZtK ZtL Zyy (aj3 Zxp sx Au)
noncomputable def gz (g:Sgn) (l r:Tm):Bool:=d4 g l && (d4 g r && decide (fz g l=fz g r))
def lx (vs:List Tm) (v:Tm):Bool:=vs.any fun a=>decide (aH v a=0)
def qM (vs:List Tm) (t:Tm):Bool:=(ew t).all (lx vs)
noncomputable def ij (g:Sgn) (vs:List Tm) (c:Tm × Tm):Bool:=gz g c.1 c.2 && (qM vs c.1 && qM vs c.2)
noncomputable def bQ (g:Sgn) (e:Eqn):Bool:=gz g e.l e.r && (!decide (e.l.op=-1) && (decide (e.cs.length<=2) && (decide ((ew e.l).length<=5) && (qM (ew e.l) e.r && e.cs.all (ij g (ew e.l))))))
noncomputable def AO (g:Sgn) (e:Eqn):Bool:=fA g && bQ g e
theorem Zu3 {s:ByteArray} (h:iS s=true):s.size<=12:=by
 simp only [iS,Tar,decide_eq_true_eq] at h;exact h.1.1.1.2
mutual
theorem ZqX {g:Sgn}:∀ {t:Tm},dt g t->ab (an t)+1<=14 * am t
 | .mk op nm so args,h=>by
  simp only [dt] at h;obtain ⟨hn,ha,_⟩:=h;have h1:=ZoV ha;have h2:nm.size<=12:=by
   rcases hn with hn | ⟨o,d,hn⟩
   ·exact Zu3 hn.2.1
   ·have:=hn.nm;simp only [Tm.name] at this;rw [this];exact Taj _
  simp only [an,ab,dN,am];omega
theorem ZoV {g:Sgn}:∀ {ts:List Tm},rL g ts->(aq ts).length+ah (aq ts)<=14 * av ts
 | [],_=>by simp [aq,ah]
 | t::ts,h=>by
  simp only [rL] at h;have h1:=ZqX h.1;have h2:=ZoV h.2;simp only [aq,ah,Tag,av];omega
end
theorem ZlC {g:Sgn} {t:Tm} (h:d4 g t=true):ab (an t)<=1048576:=by
 have:=ZqX (mP.1 h).form;have:=(mP.1 h).size;omega
theorem ZmQ {g:Sgn} (bW:jk g) (hg:SgnOk g) {l r:Tm} (hl:aK l) (hr:aK r) (oZ:ab (an l)<=1048576) (j9:ab (an r)<=1048576):az e0 252 [.agg (bN g),.agg (an l),.agg (an r)] [.one (.lit (.bool (gz g l r)))]:=by
 have b1:=qe oZ;have b2:=qe j9;have cF1:=Zj2 bW hg hl b1;have cF2:=Zj2 bW hg hr b2;have cK1:=fun h=>ZhK bW hg (t:=l) h;have cK2:=fun h=>ZhK bW hg (t:=r) h;rw [bN] at cF1 cF2 cK1 cK2;refine gI 127 Tryz.func252 ?_;refine bU (ai @ae @dR) @ae (Zg4 b1) ?_;by_cases h1:am l<=60∧aG l<=20;rotate_left
 ·have hf:gz g l r=false:=by rw [gz,y7 fun h=>h1 ⟨h.size,h.depth⟩];rfl
  exact bP (ai @ae (by simp only [decide_eq_false_iff_not];exact h1:decide (am l<=60∧aG l<=20)=false)) @hf
 have d5:decide (am l<=60∧aG l<=20)=true:=by simp only [decide_eq_true_eq];exact h1
 refine fC (ai @ae @d5) (cF1) ?_;have e1:=Zg3 (g:=g) h1.1 h1.2
 cases hF1:lQ g l with
 | false =>
  exact bP (ai @ae @d5) (by rw [gz,<- e1,hF1];rfl:gz g l r=false)
 | true =>
  refine fC (ai @ae @d5) (Zg4 b2) ?_;by_cases h2:am r<=60∧aG r<=20;rotate_left
  ·have hf:gz g l r=false:=by rw [gz,y7 (t:=r) fun h=>h2 ⟨h.size,h.depth⟩];simp
   exact bP (aj3 @ae @d5 (by simp only [decide_eq_false_iff_not];exact h2:decide (am r<=60∧aG r<=20)=false)) @hf
  have js:decide (am r<=60∧aG r<=20)=true:=by simp only [decide_eq_true_eq];exact h2
  refine fC (aj3 @ae @d5 @js) (cF2) ?_;have e2:=Zg3 (g:=g) h2.1 h2.2
  cases hF2:lQ g r with
  | false =>
   exact bP (aj3 @ae @d5 @js) (by rw [gz,<- e2,hF2];simp:gz g l r=false)
  | true =>
   have bF:=aj3 @ae @d5 @js;refine fC bF (cK1 (ZhI.1 hF1).node) ?_;refine fC bF (cK2 (ZhI.1 hF2).node) ?_;exact bP bF (by rw [gz,<- e1,<- e2,hF1,hF2];rfl:gz g l r=decide (fz g l=fz g r))
theorem uN {p:Tm->Bool}:([]:List Tm).any p=false:=rfl
theorem Zhv {t:Tm} {vs:List Tm} (ht:aK t) (dD:b9 vs) (hb:ab (an t)<=1048576) (hl:vs.length<=8000000):az e0 203 [.agg (an t),.one (.sl (aq vs))] [.one (.lit (.bool (qM vs t)))]:=by
 have aj:=Zkc ht;have ct:=ZhM t;have cV:=Ziq ht hb;have eW:qM vs t=(ew t).all (lx vs):=rfl;rw [eW];clear eW;generalize ew t=us at aj ct cV ⊢;refine gI 68720542199 Tryz.func203 ?_;refine bU @ae @ae (cV) ?_;refine dT @ae @ae ?_;have F:=@aw;refine gL (ι:=Nat) [4,6,7,8,14,20,36] [] (fun x=>[(6,A.d (.one (.lit (.int .i64 x))))]) (fun x=>[]) (fun x=>x<=us.length∧(us.take x).all (lx vs)=true) (fun x=>us.length - x) (0) (⟨Taj _,rfl⟩) (fun x hx=>?_)
 obtain ⟨ug,aD⟩:=hx;by_cases au:x < us.length;rotate_left
 ·have q1:¬ ((x:Int) < (us.length:Int)):=om;obtain rfl:x=us.length:=by omega
  rw [Tap] at aD;exact fT (aj3 @ae @q1 @aD)
 have q1:(x:Int) < (us.length:Int):=om;obtain ⟨v,hv⟩:∃ a,us[x]?=some a:=⟨_,Taa au⟩;have o9:=aj.mem (Tac hv);have dY:=bI (k:=x) om;refine fG (ai @ae @q1) ?_;have F:=((fun (p:Tm->Bool)=>(uN:([]:List Tm).any p=false)));refine gL (ι:=Nat) [7,8,20] [] (fun y=>[(7,.d (.one (.lit (.bool ((vs.take y).any fun a=>decide (aH v a=0)))))),(8,A.d (.one (.lit (.int .i64 y))))]) (fun y=>[]) (fun y=>y<=vs.length) (fun y=>vs.length - y) (0) (Taj _) (fun y hy=>?_)
 by_cases jT:y < vs.length;rotate_left
 ·have q2:¬ ((y:Int) < (vs.length:Int)):=om;obtain rfl:y=vs.length:=by omega
  rw [Tap]
  cases hh:lx vs v with
  | true =>
   have e:(vs.any fun a=>decide (aH v a=0))=true:=hh;have hq:x+1<=us.length∧(us.take (x+1)).all (lx vs)=true:=⟨au,by rw [Zrl hv,aD,hh];rfl⟩;have F:=aj5 @ae @q1 @q2 @e @dY;exact yI
  | false =>
   have e:(vs.any fun a=>decide (aH v a=0))=false:=hh;have hf:us.all (lx vs)=false:=wq (Tac hv) hh;exact fT (aj5 @ae @q1 @q2 @e @hf)
 have q2:(y:Int) < (vs.length:Int):=om;obtain ⟨a,ha⟩:∃ a,vs[y]?=some a:=⟨_,Taa jT⟩;have hao:=dD.mem (Tac ha);have hw2:=bI (k:=y) om;have bm:=Zrk (p:=fun a=>decide (aH v a=0)) ha
 cases hc:(vs.take y).any fun a=>decide (aH v a=0) with
 | true =>
  rw [hc,Bool.true_or] at bm;refine fG (aj3 @ae @q1 @q2) ?_;exact m251
 | false =>
  rw [hc,Bool.false_or] at bm;refine bp (aj3 @ae @q1 @q2) (aj5 @ae @q1 @q2 @hv @ha) (tz o9 hao) (aj3 @ae @q1 @q2) ?_;exact m251
theorem ZtM (e:Eqn):ab (dy e)=ab (an e.l)+(ab (an e.r)+(e.cs.length+ah (e.cs.map lv))):=by
 rw [dy,Df,Df];simp [ab,dN]
theorem ZtN {cs:List (Tm × Tm)} {c:Tm × Tm} (h:c∈cs):ab (an c.1)+ab (an c.2)<=ah (cs.map lv):=by
 refine pX fun i hi=>?_;have:(cs.map lv)[i]?=some (lv c):=by rw [Tba,hi];rfl
 have:=tB this;rw [lv,Df] at this;exact this
theorem Zu4 {g:Sgn} {e:Eqn} (bW:jk g) (he:xU e) (hb:ab (dy e)<=1048576):az e0 166 [.agg (bN g),.agg (dy e)] [.one (.lit (.bool (AO g e)))]:=by
 rw [ZtM] at hb;obtain ⟨jD,eO,hoc⟩:=he;have cS:=Zg1 bW;rw [bN] at cS;refine gI 151115728032372933787903 Tryz.func166 ?_;refine bU (aj3 @ae @cw @dR) (aj3 @ae @cw @dR) (cS) ?_;by_cases hs:fA g=true;rotate_left
 ·have iA:fA g=false:=by simpa using hs
  exact bP (aj4 @ae @cw @dR @iA) (by simp [AO,iA]:AO g e=false)
 have hg:=tE.1 hs;rw [(by simp [AO,hs]:AO g e=bQ g e)];have cP:=ZmQ bW hg jD eO om om;rw [bN] at cP;have fzd:=aj4 @ae @cw @dR @hs;refine fC fzd (cP) ?_
 cases hP:gz g e.l e.r with
 | false =>
  exact bP fzd (by simp [bQ,hP]:bQ g e=false)
 | true =>
  by_cases h1:e.l.op=-1
  ·exact bP (aj5 @ae @cw @dR @hs @h1) (by simp [bQ,h1]:bQ g e=false)
  have d5:(e.l.op=-1)=False:=eq_false h1;by_cases h2:e.cs.length<=2;rotate_left
  ·exact bP (aj6 @ae @cw @dR @hs @d5 (om:(2:Int) < (e.cs.length:Int))) (by simp [bQ,h2]:bQ g e=false)
  have o9:=Zkc jD;have iP:=ZhM e.l;have cWr:=Zhv eO o9 om om;refine fR (aj6 @ae @cw @dR @hs @d5 (om:¬ ((2:Int) < (e.cs.length:Int)))) ?_;refine bp (aj3 @ae @cw @dR) (aj3 @ae @cw @dR) ((Ziq jD om)) (aj3 @ae @cw @dR) ?_;by_cases h3:(ew e.l).length<=5;rotate_left
  ·have py:(5:Int) < ((ew e.l).length:Int):=om;exact fT (aj5 @ae @cw @dR @py (by simp [bQ,h3]:bQ g e=false))
  have py:¬ ((5:Int) < ((ew e.l).length:Int)):=om;have fzc:=aj4 @ae @cw @dR @py;refine bU fzc fzc (cWr) ?_
  cases hW:qM (ew e.l) e.r with
  | false =>
   exact bP fzc (by simp [bQ,hW]:bQ g e=false)
  | true =>
   rw [(by simp [bQ,hP,h1,h2,h3,hW]:bQ g e=e.cs.all (ij g (ew e.l)))];have ya:=aj3 @ae @cw @dR;refine dT fzc ya ?_;generalize ew e.l=vs at *;have F:=@aw;refine gL (ι:=Nat) [4,6,7,49,77] [] (fun x=>[(6,A.d (.one (.lit (.int .i64 x))))]) (fun x=>[]) (fun x=>x<=e.cs.length∧(e.cs.take x).all (ij g vs)=true) (fun x=>e.cs.length - x) (0) (⟨Taj _,rfl⟩) (fun x hx=>?_);obtain ⟨ug,aD⟩:=hx;by_cases au:x < e.cs.length;rotate_left
   ·have q1:¬ ((x:Int) < (e.cs.length:Int)):=om;obtain rfl:x=e.cs.length:=by omega
    rw [Tap] at aD;exact fT (aj5 @ae @cw @dR @q1 @aD)
   have q1:(x:Int) < (e.cs.length:Int):=om;obtain ⟨c,hc⟩:∃ a,e.cs[x]?=some a:=⟨_,Taa au⟩;have hm:=Tac hc;have tV:=hoc c hm;have hcb:=ZtN hm;have dY:=bI (k:=x) om;have cPc:=ZmQ bW hg tV.1 tV.2 om om;rw [bN] at cPc;have cW1:=Zhv tV.1 o9 om om;have cW2:=Zhv tV.2 o9 om om;refine bU (aj5 @ae @cw @dR @q1 @hc) (aj4 @ae @cw @dR @hc) (cPc) ?_
   cases hPc:gz g c.1 c.2 with
   | false =>
    have hf:e.cs.all (ij g vs)=false:=wq hm (by simp [ij,hPc]);exact bP ya @hf
   | true =>
    have bF:=aj4 @ae @cw @dR @hc;refine fC bF (cW1) ?_
    cases hW1:qM vs c.1 with
    | false =>
     have hf:e.cs.all (ij g vs)=false:=wq hm (by simp [ij,hW1]);exact bP ya @hf
    | true =>
     refine fC bF (cW2) ?_
     cases hW2:qM vs c.2 with
     | false =>
      have hf:e.cs.all (ij g vs)=false:=wq hm (by simp [ij,hW2]);exact bP ya @hf
     | true =>
      have hq:x+1<=e.cs.length∧(e.cs.take (x+1)).all (ij g vs)=true:=⟨au,by rw [Ak hc,aD];simp [ij,hPc,hW1,hW2]⟩;refine fR ya ?_;have F:=aj4 @ae @cw @dR @dY;exact yI
theorem ZtO (t a:Tm):az e0 312 [.agg (an a),.one (.ptr (an t))] [.one (.lit (.bool (decide (aH t a=0))))]:=by
 refine gI 15 Tryz.func312 ?_;refine bU @ae @ae (uv t a) ?_;exact bP @ae @ae
theorem Zu5 (ts:List Tm) (t:Tm) (hl:ts.length<=fc):az e0 264 [.one (.sl (aq ts)),.agg (an t)] [.one (.lit (.bool (lx ts t)))]:=by
 have c:=Znm (ts:=ts) (f:=312) (caps:=[.ptr (an t)]) (P:=fun a=>decide (aH t a=0)) hl fun a _=>ZtO t a;have eh:lx ts t=ts.any fun a=>decide (aH t a=0):=rfl;rw [eh];refine gI 27 Tryz.func264 ?_;refine bU @ae @ae (c) ?_;exact bP @ae @ae
def pn (cs:List (Tm × Tm)):List Tm:=cs.flatMap fun c=>[c.1,c.2]
def AL (e:Eqn) (x:Nat):List (List C):=aq (e.r::pn (e.cs.take x))
def s6 (e:Eqn):Nat->A
 | 0=>.d (.clip (AL e 0))
 | _+1=>.buf 6
def mZq (e:Eqn):Nat->List (Nat × Bk)
 | 0=>[]
 | x+1=>[(6,.buf none 53 4 (AL e (x+1)))]
theorem s6_0 (e:Eqn):s6 e 0=.d (.clip [an e.r]):=by simp [s6,AL,pn,aq]
theorem mZq_0 (e:Eqn):mZq e 0=[]:=rfl
theorem s6_s (e:Eqn) (x:Nat):s6 e (x+1)=.buf 6:=rfl
theorem mZq_s (e:Eqn) (x:Nat):mZq e (x+1)=[(6,.buf none 53 4 (AL e (x+1)))]:=rfl
theorem ZH4 (e:Eqn) (x:Nat):(s6 e x=.d (.clip (AL e x))∧mZq e x=[])∨(s6 e x=.buf 6∧mZq e x=[(6,.buf none 53 4 (AL e x))]):=by
 cases x with
 | zero=>exact .inl ⟨rfl,rfl⟩
 | succ x=>exact .inr ⟨rfl,rfl⟩
theorem ZGR (e:Eqn) (x:Nat):ZaB 4 (AL e x)=true:=oP _
theorem ZqY (cs:List (Tm × Tm)):(pn cs).length=2 * cs.length:=by
 induction cs with
 | nil=>rfl
 | cons c cs ih=>simp only [pn,List.flatMap_cons,Tae,Tag,Tak] at ih ⊢;omega
theorem ZHB (e:Eqn) (x:Nat):(AL e x).length<=1+2 * e.cs.length:=by
 rw [AL,bf,Tag,ZqY,Taw];omega
theorem ZGS {e:Eqn} {x:Nat} {c:Tm × Tm} (h:e.cs[x]?=some c):AL e x++[an c.1,an c.2]=AL e (x+1):=by
 have h1:pn (e.cs.take (x+1))=pn (e.cs.take x)++[c.1,c.2]:=by
  rw [List.take_add_one,h];simp [pn]
 rw [AL,AL,h1,<- Taf,pf];simp [aq]
theorem Zxq {g:Sgn} {vs:List Tm}:∀ {cs:List (Tm × Tm)},(cs.all fun c=>gz g c.1 c.2)=true->cs.all (ij g vs)=(pn cs).all (qM vs)
 | [],_=>rfl
 | c::cs,h=>by
  simp only [List.all_cons,Tar] at h;rw [List.all_cons,(Zxq (vs:=vs) h.2),ij,h.1,Bool.true_and];simp [pn,List.all_cons,Bool.and_assoc]
theorem ZHC {g:Sgn} {l r:Tm} (h:gz g l r=true):d4 g l=true:=by simp only [gz,Tar] at h;exact h.1
theorem ZHD {g:Sgn} {l r:Tm} (h:gz g l r=true):d4 g r=true:=by simp only [gz,Tar] at h;exact h.2.1
theorem ZqZ {g:Sgn}:∀ {cs:List (Tm × Tm)},(cs.all fun c=>gz g c.1 c.2)=true->∀ t∈pn cs,d4 g t=true
 | [],_,t,ht=>by simp [pn] at ht
 | c::cs,h,t,ht=>by
  simp only [List.all_cons,Tar] at h;simp only [pn,List.flatMap_cons,Tbh,Tbg,List.not_mem_nil,or_false] at ht;rcases ht with (rfl | rfl) | ht
  ·exact ZHC h.1
  ·exact ZHD h.1
  ·exact ZqZ h.2 t ht
theorem ZHE {g:Sgn} {t:Tm} (h:d4 g t=true):t.op < 0 ↔ t.op=-1:=by
 rcases (mP.1 h).form.node with hn | ⟨o,d,hn⟩
 ·have:=hn.1;omega
 ·have:=hn.lo;omega
noncomputable def sJ (g:Sgn) (e:Eqn) (vs:List Tm):Bool:=decide (vs.length<=5) && (qM vs e.r && e.cs.all (ij g vs))
section
variable {g:Sgn} {mc:C}
theorem Zyz (hg:SgnOk g) {e:Eqn} (he:xU e) (hb:ab (dy e)<=1048576):az e0 178 [.one (.ptr (dJ g mc)),.agg (dy e)] [.one (.lit (.bool (bQ g e)))]:=by
 rw [ZtM] at hb;obtain ⟨jD,eO,hoc⟩:=he;have cT:=fun (t:Tm) (h:aK t) (hb:ab (an t)<=1048576)=>C7 (mc:=mc) hg h (qe hb);have cK:=fun (t:Tm) (h:d4 g t=true)=>ZjX (mc:=mc) hg (mP.1 h).form.node;refine gI 334100219233902667600601412539771 Tryz.func178 ?_;refine bU (ai @ae @cw) (ai @ae @cw) (cT e.l jD om) ?_
 cases hL:d4 g e.l with
 | false =>
  exact bP (ai @ae @cw) (by simp [bQ,gz,hL]:bQ g e=false)
 | true =>
 refine fC (ai @ae @cw) (cT e.r eO om) ?_
 cases hR:d4 g e.r with
 | false =>
  exact bP (ai @ae @cw) (by simp [bQ,gz,hR]:bQ g e=false)
 | true =>
 refine fC (ai @ae @cw) (cK e.l hL) ?_;refine fC (ai @ae @cw) (cK e.r hR) ?_;by_cases hk:fz g e.l=fz g e.r;rotate_left
 ·exact bP (aj3 @ae @cw (eq_false hk:(fz g e.l=fz g e.r)=False)) (by simp [bQ,gz,hk]:bQ g e=false)
 have eV:(fz g e.l=fz g e.r)=True:=eq_true hk;have hP:gz g e.l e.r=true:=by simp [gz,hL,hR,hk]
 by_cases h1:e.l.op=-1
 ·exact bP (aj4 @ae @cw @eV (eq_true om:(e.l.op < 0)=True)) (by simp [bQ,h1]:bQ g e=false)
 have d5:(e.l.op < 0)=False:=eq_false fun h=>h1 ((ZHE hL).1 h);by_cases h2:e.cs.length<=2;rotate_left
 ·exact bP (aj5 @ae @cw @eV @d5 (lT 2 e.cs.length)) (by simp [bQ,h2]:bQ g e=false)
 have js:=lF 2 e.cs.length;have ea:bQ g e=sJ g e (ew e.l):=by simp [bQ,sJ,hP,h1,h2]
 rw [ea];clear ea;have iP:=ZhM e.l;refine fR (aj5 @ae @cw @eV @d5 @js) ?_;refine bp (ai @ae @cw) (ai @ae @cw) ((Zip e.l (ZlC hL))) (ai @ae @cw) ?_;generalize ew e.l=vs at *;have fj:vs.length<=fc:=by unfold fc;omega
 refine fG (ai @ae @cw) ?_;have F:=ai (s6_0 e) (mZq_0 e);refine gL (ι:=Nat) [4,6,8,57,58,83] [6] (fun x=>[(57,A.d (.one (.lit (.int .i64 x)))),(6,s6 e x)]) (fun x=>mZq e x) (fun x=>x<=e.cs.length∧((e.cs.take x).all fun c=>gz g c.1 c.2)=true) (fun x=>e.cs.length - x) 0 ⟨Taj _,rfl⟩ (fun x hx=>?_) (hmm:=fun x=>rfl);obtain ⟨ug,aD⟩:=hx;rcases ZH4 e x with ⟨es,em⟩ | ⟨es,em⟩
 all_goals (
  simp only [es,em,Tah,Taf];clear es em;by_cases au:x < e.cs.length
  ·have q1:(x:Int) < (e.cs.length:Int):=om;obtain ⟨c,hc⟩:∃ a,e.cs[x]?=some a:=⟨_,Taa au⟩;have hm:=Tac hc;have tV:=hoc c hm;have hcb:=ZtN hm;have dY:=bI (k:=x) om;have bm:=ZGS hc;have db:=ZGR e x;have ca:=ZHB e x;have dg:(AL e x).length+2<=ak:=by unfold ak;omega
   have es1:=s6_s e x;have em1:=mZq_s e x;have hcf:gz g c.1 c.2=false->sJ g e vs=false:=fun h=>by
    have:e.cs.all (ij g vs)=false:=wq hm (by simp [ij,h]);simp [sJ,this]
   refine fB (aj4 @ae @cw @q1 @hc) ?_;refine fC (ai @ae @cw) (cT c.1 tV.1 om) ?_
   cases hL1:d4 g c.1 with
   | false =>
    have hf:=hcf (by simp [gz,hL1]);refine fR (ai @ae @cw) ?_;exact fT @hf
   | true =>
   refine fC (ai @ae @cw) (cT c.2 tV.2 om) ?_
   cases hR1:d4 g c.2 with
   | false =>
    have hf:=hcf (by simp [gz,hR1]);refine fR (ai @ae @cw) ?_;exact fT @hf
   | true =>
   refine fC (ai @ae @cw) (cK c.1 hL1) ?_;refine fC (ai @ae @cw) (cK c.2 hR1) ?_;by_cases fd:fz g c.1=fz g c.2;rotate_left
   ·have hf:=hcf (by simp [gz,fd]);have BE:(fz g c.1=fz g c.2)=False:=eq_false fd;refine fR (aj3 @ae @cw @BE) ?_;exact fT @hf
   have BE:(fz g c.1=fz g c.2)=True:=eq_true fd;have hPc:gz g c.1 c.2=true:=by simp [gz,hL1,hR1,fd]
   have hq:x+1<=e.cs.length∧((e.cs.take (x+1)).all fun c=>gz g c.1 c.2)=true:=⟨au,by rw [Ak hc,aD,hPc];rfl⟩;refine fR (aj3 @ae @cw @BE) ?_;have F:=aj8 @ae @cw @dY @bm @db @dg @es1 @em1;refine gG ?_;exact ⟨x+1,hq,gw,gw,om⟩
  obtain rfl:x=e.cs.length:=by omega
  have q1:¬ ((e.cs.length:Int) < (e.cs.length:Int)):=om;rw [Tap] at aD;have eA:AL e e.cs.length=aq (e.r::pn e.cs):=by rw [AL,Tap]
  rw [eA];have er:sJ g e vs=(decide (vs.length<=5) && (e.r::pn e.cs).all (qM vs)):=by rw [sJ,Zxq aD,List.all_cons]
  rw [er];have zJ:∀ t∈e.r::pn e.cs,d4 g t=true:=fun t ht=>by
   rcases Tbg.1 ht with rfl | ht
   ·exact hR
   ·exact ZqZ aD t ht
  have fh:(e.r::pn e.cs).length<=5:=by rw [Tag,ZqY];omega
  generalize e.r::pn e.cs=all at *;refine fG (aj3 @ae @cw @q1) ?_;have F:=@aw;refine gL (ι:=Nat) [4,10,12,94,95,99,100,101,102,108] [] (fun y=>[(94,A.d (.one (.lit (.int .i64 y))))]) (fun y=>[]) (fun y=>y<=all.length∧(all.take y).all (qM vs)=true) (fun y=>all.length - y) (0) (⟨Taj _,rfl⟩) (fun y hy=>?_);clear F;obtain ⟨qx,mq⟩:=hy;by_cases jT:y < all.length;rotate_left
  ·have q2:¬ ((y:Int) < (all.length:Int)):=om;obtain rfl:y=all.length:=by omega
   rw [Tap] at mq;have e5:decide ((vs.length:Int)<=5)=decide (vs.length<=5):=by rw [decide_eq_decide];omega
   exact fT (aj4 @ae @q2 @mq @e5)
  have q2:(y:Int) < (all.length:Int):=om;obtain ⟨t,ht⟩:∃ a,all[y]?=some a:=⟨_,Taa jT⟩;have hw2:=bI (k:=y) om;have hmt:=Tac ht;have cVt:=Zip t (ZlC (zJ t hmt));have cu:=ZhM t;have xj:=ZlC (zJ t hmt);have eW:qM vs t=(ew t).all (lx vs):=rfl;refine fB (aj4 @ae @q2 @jT @ht) ?_;refine fC (aj3 @ae @jT @ht) (cVt) ?_;refine fR @ae ?_;refine fG @ae ?_;generalize ew t=us at *;have F:=@aw;refine gL (ι:=Nat) [4,12,101,102,108] [] (fun z=>[(101,A.d (.one (.lit (.int .i64 z))))]) (fun z=>[]) (fun z=>z<=us.length∧(us.take z).all (lx vs)=true) (fun z=>us.length - z) (0) (⟨Taj _,rfl⟩) (fun z hz=>?_);clear F
  obtain ⟨hzl,uZ⟩:=hz;by_cases hlt3:z < us.length;rotate_left
  ·have q3:¬ ((z:Int) < (us.length:Int)):=om;obtain rfl:z=us.length:=by omega
   rw [Tap] at uZ;have hq:y+1<=all.length∧(all.take (y+1)).all (qM vs)=true:=⟨jT,by rw [Ak ht,mq,eW,uZ];rfl⟩;have F:=aj3 @ae @q3 @hw2;refine gG ?_;exact ⟨y+1,hq,gw,gw,om⟩
  have q3:(z:Int) < (us.length:Int):=om;obtain ⟨v,hv⟩:∃ a,us[z]?=some a:=⟨_,Taa hlt3⟩;have hw3:=bI (k:=z) om;refine fB (aj3 @ae @q3 @hv) ?_;refine fC @ae (Zu5 vs v fj) ?_
  cases hh:lx vs v with
  | false =>
   have hf:all.all (qM vs)=false:=wq hmt (by rw [eW];exact wq (Tac hv) hh);refine fR @ae ?_;exact fT @hf
  | true =>
   have hq:z+1<=us.length∧(us.take (z+1)).all (lx vs)=true:=⟨hlt3,by rw [Ak hv,uZ,hh];rfl⟩;refine fR @ae ?_
   (have F:=ai @ae @hw3;refine gG ?_;exact ⟨z+1,hq,gw,gw,om⟩))
end
end Go.Proofs.YtbecmfjokofihaaGreatDoor
namespace Go.Proofs.YtbecmfjokofihaaGreatDoor
open Go.Shelf
def ZCL:Ren:=⟨fun | 4=>263 | n=>n,fun | 22=>48 | 25=>166 | 3=>3 | 4=>4 | 9=>9 | 20=>20 | 0=>0 | n=>n,fun | n=>n⟩
theorem ZFY:Go.Proofs.Lays8.n4 Tryz.prog ZCL:={
 mixed:=by kernel_rfl,
 f4:=⟨Tryz.f263.name,by decide,Tryz.func263.trans (congrArg some (by kernel_rfl))⟩,
 t0:=Tryz.underlying0,
 a0:=Tryz.isAgg0,
 z0:=Tryz.sizeOf0,
 v0:=Tryz.zeroValue0,
 t3:=Tryz.underlying3,
 a3:=Tryz.isAgg3,
 z3:=Tryz.sizeOf3,
 v3:=Tryz.zeroValue3,
 t4:=Tryz.underlying4,
 a4:=Tryz.isAgg4,
 z4:=Tryz.sizeOf4,
 v4:=Tryz.zeroValue4,
 t9:=Tryz.underlying9,
 a9:=Tryz.isAgg9,
 z9:=Tryz.sizeOf9,
 v9:=Tryz.zeroValue9,
 t20:=Tryz.underlying20,
 a20:=Tryz.isAgg20,
 z20:=Tryz.sizeOf20,
 v20:=Tryz.zeroValue20,
 t22:=Tryz.underlying48,
 a22:=Tryz.isAgg48,
 z22:=Tryz.sizeOf48,
 v22:=Tryz.zeroValue48 }
end Go.Proofs.YtbecmfjokofihaaGreatDoor
namespace Go.Proofs.YtbecmfjokofihaaGreatDoor
open Go.RowKit
theorem m187 {p:Prop} (h:p:=by
 rw [tU] at hvA;obtain ⟨_,e1,e2⟩:=by simpa only [Value.slice.injEq] using hvA
 simp at hn';omega):p:=h
theorem ZyA {ρ:Go.Shelf.Ren} (L:Go.Proofs.Lays8.n4 Tryz.prog ρ) {ts ety sz by':Nat} (he:ρ.t 25=ety) (hb:jc Tryz.prog ts=some (ety,sz,by')) (wZ:by'<=4096) (hf:ny Tryz.prog (ρ.f 4)=true) {n:Nat} (h0:0 < n) (h1:n<=4000000):kh e0 (ρ.f 4) [.clip [],.one (.lit (.int .i64 n))] ety sz []:=by
 subst he;refine ⟨hf,fun w S vs hS hE hG hv=>?_⟩;obtain ⟨i,z,hu,hi,hz,bO,hby',qy,fg,sM⟩:=xy hb
 match vs,hv with
 | [v,u],hv =>
  obtain ⟨⟨⟨A,n',cap,hvA,hn',_⟩,b,k,tU⟩,h2,_⟩:=hv;have h2:u=.int .i64 n:=by simpa [aW,aQ] using h2
  subst h2;have hk:k=0:=by
   exact m187
  subst hk tU
  have h:=Any8.slices_Grow_grow L i z hi hz om b 0 0 n [] w (Tai _) om (by
   have:(0+n) * i.bytes<=4000000 * 4096:=Nat.mul_le_mul om om;omega) om (by simp) (fun _=>rfl) (fun a _ j v hj=>by simp at hj)
  refine h.mono fun en w' ⟨h3,h4⟩=>?_;have Bz:=grownCap_ge w (0+n) 0 (ρ.t 25);have ct:=grownCap_le_maxLen w (0+n) 0 (ρ.t 25) (by unfold maxLen;omega);generalize grownCap w (0+n) 0 (ρ.t 25)=G at h3 h4 Bz ct;have bq:G≠0:=om;have fj:aP (.slice (some ⟨w.heap.size,0,none⟩) 0 G)=some w.heap.size:=by simp [aP,bq]
  subst h4
  have hk:Kept e0.D (fun b=>(none:Option Nat)=some b) w.heap.size w (w.drew.alloc (.cells (([]:List Value).toArray++Builtin.zeroCells z.cells (0+n - 0)++Builtin.zeroCells z.cells (G - (0+n))) (ρ.t 25))) :=
   ⟨rfl,rfl,rfl,fun _=>Nat.le_succ _,by simp,fun k hk _=>heap_alloc_old w.drew _ hk⟩
  have ce:=heap_alloc_new w.drew (.cells (([]:List Value).toArray++Builtin.zeroCells z.cells (0+n - 0)++Builtin.zeroCells z.cells (G - (0+n))) (ρ.t 25));refine ⟨_,h3,⟨hk.os,hk.tape,hk.output,hk.drawn,hk.size,fun b hb _=>hk.block b hb (by simp)⟩,Zn5.keep w _ hk.size (fun b' dC=>hk.block b' (hE b' dC) (by simp)) hG,fun g hg=>?_,?_⟩
  ·rw [fj] at hg;injection hg with hg
   omega
  ·refine ⟨om,fun r hr=>by simp at hr,.inr ⟨w.heap.size,G,_,rfl,om,by simp,fun h=>h.2 fj,ce,by simp,ct,?_,by simp [b7]⟩⟩;simp only [Array.size_append,size_zeroCells,qy,List.size_toArray,Tak,Nat.zero_add,Nat.sub_zero,<- Nat.add_mul];rw [show n+(G - n)=G by omega]
theorem Zu6 {ρ:Go.Shelf.Ren} (L:Go.Proofs.Lays8.n4 Tryz.prog ρ) {ts ety sz by':Nat} (he:ρ.t 25=ety) (hb:jc Tryz.prog ts=some (ety,sz,by')) (wZ:by'<=4096) (hf:ny Tryz.prog (ρ.f 4)=true) {n:Nat} (h0:0 < n) (h1:n<=1000000):kh e0 (ρ.f 4) [.clip [],.one (.lit (.int .i64 n))] ety sz []:=ZyA L he hb wZ hf h0 om
theorem ZtP {ρ:Go.Shelf.Ren} (L:Go.Proofs.Lays8.n4 Tryz.prog ρ) (hf:ny Tryz.prog (ρ.f 4)=true) {n:Nat} (h0:n=0):az e0 (ρ.f 4) [.clip [],.one (.lit (.int .i64 n))] [.clip []]:=by
 subst h0;refine ⟨hf,fun w S vs hS hE hG hv=>?_⟩
 match vs,hv with
 | [v,u],hv =>
  obtain ⟨⟨⟨A,n',cap,hvA,hn',hr⟩,b,k,tU⟩,h2,_⟩:=hv;have h2:u=.int .i64 ((0:Nat):Int):=by simpa [aW,aQ] using h2
  subst h2;have hk:k=0:=by
   exact m187
  subst hk tU;have h:=Any8.slices_Grow_room L b 0 0 0 w (Tai _) om om om;refine h.mono fun en w' ⟨h3,h4⟩=>?_;subst h4;refine ⟨_,h3,⟨rfl,rfl,rfl,fun _=>Tai _,Tai _,fun k hk _=>rfl⟩,hG,?_⟩;simp only [bh,ax,aW,aQ];exact ⟨⟨b,0,0,rfl,by simp,by simp,by simp,fun h=>absurd h (by simp)⟩,b,0,rfl⟩
theorem ZyB {n:Nat} (h0:n=0):az e0 263 [.clip [],.one (.lit (.int .i64 n))] [.clip []]:=ZtP ZFY (by kernel_rfl) h0
theorem ZyC {n:Nat} (h0:0 < n) (h1:n<=1000000):kh e0 263 [.clip [],.one (.lit (.int .i64 n))] 166 9 [] :=
 Zu6 ZFY (ts:=48) (by':=136) rfl (by kernel_rfl) (by decide) (by kernel_rfl) h0 h1
def jB (rs:List (List (List C))) (x:Nat):Nat:=(rs.take x).flatten.length
def uT (rs:List (List (List C))) (x:Nat):List (List C):=(rs.take x).flatten
theorem ZHF (rs:List (List (List C))):jB rs 0=0:=by simp [jB]
theorem ZH5 (rs:List (List (List C))):uT rs 0=[]:=by simp [uT]
theorem ZtQ {rs:List (List (List C))} {x:Nat} {r:List (List C)} (h:rs[x]?=some r):uT rs x++r=uT rs (x+1):=by
 simp [uT,List.take_add_one,h]
theorem ZCM {rs:List (List (List C))} {x:Nat} {r:List (List C)} (h:rs[x]?=some r):jB rs (x+1)=jB rs x+r.length:=by
 have:=ZtQ h;simp only [jB,uT] at this ⊢;rw [<- this,Tae]
theorem Zxr (rs:List (List (List C))) (x:Nat):jB rs x<=rs.flatten.length:=by
 have:rs.flatten=(rs.take x).flatten++(rs.drop x).flatten:=by rw [<- List.flatten_append,Tbm]
 rw [jB,this,Tae];omega
theorem ZHG (rs:List (List (List C))):ZaB 1 (rs.map fun r=>[C.sl r])=true:=by
 induction rs with
 | nil=>rfl
 | cons r rs ih=>simp [zb,ih,aY]
theorem Zu7 (rs:List (List (List C))) (hr:∀ r∈rs,ZaB 9 r=true) (hn:rs.length<=1000) (hl:rs.flatten.length<=1000000):az e0 177 [.one (.sl (rs.map fun r=>[.sl r]))] [.one (.sl rs.flatten)]:=by
 have rb:=ZHG rs;refine gI 504373101 Tryz.func177 ?_;refine fG @ae ?_;have F:=((ZHF rs));refine gL (ι:=Nat) [3,5,11,12,20] [] (fun x=>[(3,A.d (.one (.lit (.int .i64 (jB rs x))))),(11,A.d (.one (.lit (.int .i64 x))))]) (fun x=>[]) (fun x=>x<=rs.length) (fun x=>rs.length - x) (0) (Taj _) (fun x hx=>?_);by_cases au:x < rs.length
 ·have q1:(x:Int) < (rs.length:Int):=om;obtain ⟨r,uf⟩:∃ a,rs[x]?=some a:=⟨_,Taa au⟩;have ub:=ZCM uf;have htl:=Zxr rs (x+1);have cy:¬ ((jB rs (x+1):Int) < 0):=om;have F:=aj7 @ae @rb @q1 @uf (bI (k:=x) om) (by rw [IntWalk.i64_in _ om];omega:IntKind.i64.wrap ((jB rs x:Int)+(r.length:Int))=(jB rs (x+1):Int)) @cy;refine gG ?_;exact ⟨x+1,au,gw,gw,om⟩
 obtain rfl:x=rs.length:=by omega
 have htt:jB rs rs.length=rs.flatten.length:=by simp [jB]
 refine fB (ai @ae (om:¬ ((rs.length:Int) < (rs.length:Int)))) ?_;have Bu:uT rs rs.length=rs.flatten:=by simp [uT]
 rcases Nat.eq_zero_or_pos (jB rs rs.length) with h0 | h0
 refine fC @ae (ZyB h0) ?_;rotate_left;have F:=@ae;refine gCR (ZyC h0 om) ?_
 all_goals (
  refine fR @ae ?_;refine fG @ae ?_;have F:=((ZH5 rs));refine gL (ι:=Nat) [6,8,27,28] [6] (fun y=>[(6,.buf 6),(27,A.d (.one (.lit (.int .i64 y))))]) (fun y=>[(6,.buf none 166 9 (uT rs y))]) (fun y=>y<=rs.length) (fun y=>rs.length - y) (0) (Taj _) (fun y hy=>?_);clear F;by_cases au:y < rs.length
  ·have q2:(y:Int) < (rs.length:Int):=om;obtain ⟨r,hy1⟩:∃ a,rs[y]?=some a:=⟨_,Taa au⟩;have dY:=bI (k:=y) om;have hrr:=hr r (Tac hy1);have bm:=ZtQ hy1;have htl:=Zxr rs (y+1);have bu:(uT rs y).length+r.length<=ak:=by
    rw [<- Tae,bm];unfold ak;have:(uT rs (y+1)).length=jB rs (y+1):=rfl;omega
   have F:=aj8 @ae @rb @q2 @hy1 @dY @hrr @bm @bu;refine gG ?_;exact ⟨y+1,au,gw,gw,om⟩
  obtain rfl:y=rs.length:=by omega
  have q2:¬ ((rs.length:Int) < (rs.length:Int)):=om;rw [Bu]
  (have F:=ai @ae @q2;refine gG ?_;exact uV [2]))
structure Mdl where
 sig:Sgn
 eqs:List Eqn
 rules:List Eqn
def fV (m:Mdl):List C:=[.sl (m.sig.sorts.names.map kj),.sl (m.sig.sorts.subs.map kU),.sl (m.sig.ops.map fU),.sl (m.eqs.map dy),.sl (m.rules.map dy)]
def uI (m:Mdl):Prop:=jk m.sig∧(∀ e∈m.eqs,xU e)∧∀ e∈m.rules,xU e
theorem ZpO:∀ {rows:List (List C)},aO (Zab .eqn) rows->∃ l:List Eqn,rows=l.map dy∧∀ e∈l,xU e
 | [],_=>⟨[],rfl,by simp⟩
 | r::rs,h=>by
  simp only [aO] at h;obtain ⟨c,rfl,hc⟩:=ZHA h.1;obtain ⟨cs,rfl,ez⟩:=ZpO h.2;exact m183
theorem ZHH {row:List C} (h:aV tv row):∃ m,row=fV m∧uI m:=by
 obtain ⟨r0,r1,r2,r3,r4,rfl,g0,g1,g2,g3,g4⟩:=Zfy h;obtain ⟨s,hs,aj⟩:=ZG7 (Zed g0 g1 g2);obtain ⟨es,rfl,hes⟩:=ZpO g3;obtain ⟨us,rfl,cu⟩:=ZpO g4;rw [bN] at hs;injection hs with e0 hs
 injection hs with e1 hs
 injection hs with e2 hs
 exact ⟨⟨s,es,us⟩,by rw [fV,e0,e1,e2],aj,hes,cu⟩
theorem wB (l:List Eqn):ZaB 9 (l.map dy)=true:=by
 induction l with
 | nil=>rfl
 | cons e l ih=>simp only [Tbu,zb,ZlA,ih,Zyx];rfl
noncomputable def oN (m:Mdl):Bool:=decide (m.eqs.length<=16) && (decide (m.rules.length<=16) && (m.eqs.all (bQ m.sig) && m.rules.all (bQ m.sig)))
noncomputable def oO (m:Mdl):Bool:=fA m.sig && oN m
theorem Zkk (m:Mdl):ab (fV m)=ab (bN m.sig)+(m.eqs.length+ah (m.eqs.map dy)+(m.rules.length+ah (m.rules.map dy))):=by
 simp only [fV,bN,ab,dN,Tay];omega
theorem Zg9 {l:List Eqn} {e:Eqn} (h:e∈l):ab (dy e)<=ah (l.map dy):=by
 refine pX fun i hi=>?_;have:(l.map dy)[i]?=some (dy e):=by rw [Tba,hi];rfl
 exact tB this
theorem Zu8 {m:Mdl} (hm:uI m) (hb:ab (fV m)<=1048576):az e0 92 [.agg (fV m)] [.one (.lit (.bool (oO m)))]:=by
 rw [Zkk] at hb;obtain ⟨bW,hoe,hou⟩:=hm;have cS:=Zg1 bW;rw [bN] at cS;have cE:=fun (e:Eqn) (he:xU e) (hb:ab (dy e)<=1048576)=>Zu4 bW he hb;rw [bN] at cE;have er:=wB;have ed:fV m=[.sl (m.sig.sorts.names.map kj),.sl (m.sig.sorts.subs.map kU),.sl (m.sig.ops.map fU),.sl (m.eqs.map dy),.sl (m.rules.map dy)]:=rfl;rw [ed];refine gI 4505867404705823 Tryz.func92 ?_;refine bU (aj3 @ae @cw @er) @ae (cS) ?_;by_cases hs:fA m.sig=true;rotate_left
 ·have iA:fA m.sig=false:=by simpa using hs
  exact bP (ai @ae @iA) (by simp [oO,iA]:oO m=false)
 by_cases h1:m.eqs.length<=16;rotate_left
 ·exact bP (aj3 @ae @hs (om:(16:Int) < (m.eqs.length:Int))) (by simp [oO,oN,h1]:oO m=false)
 have d5:¬ ((16:Int) < (m.eqs.length:Int)):=om;by_cases h2:m.rules.length<=16;rotate_left
 ·exact bP (aj4 @ae @hs @d5 (om:(16:Int) < (m.rules.length:Int))) (by simp [oO,oN,h2]:oO m=false)
 rw [(by simp [oO,oN,hs,h1,h2]:oO m=(m.eqs.all (bQ m.sig) && m.rules.all (bQ m.sig)))];have eq':∀ e,AO m.sig e=bQ m.sig e:=fun e=>by simp [AO,hs]
 refine dT (aj4 @ae @hs @d5 (om:¬ ((16:Int) < (m.rules.length:Int)))) (aj3 @ae @cw @er) ?_;have F:=@aw;refine gL (ι:=Nat) [2,3,25,36] [] (fun x=>[(3,A.d (.one (.lit (.int .i64 x))))]) (fun x=>[]) (fun x=>x<=m.eqs.length∧(m.eqs.take x).all (bQ m.sig)=true) (fun x=>m.eqs.length - x) (0) (⟨Taj _,rfl⟩) (fun x hx=>?_);obtain ⟨ug,aD⟩:=hx;by_cases au:x < m.eqs.length
 ·have q1:(x:Int) < (m.eqs.length:Int):=om;obtain ⟨c,hc⟩:∃ a,m.eqs[x]?=some a:=⟨_,Taa au⟩;have hmm:=Tac hc;have dY:=bI (k:=x) om;have rY:=Zg9 hmm;refine bU (aj5 @ae @cw @er @q1 @hc) (aj4 @ae @cw @er @hc) (cE c (hoe c hmm) om) ?_;rw [eq' c]
  cases hh:bQ m.sig c with
  | false =>
   have hf:m.eqs.all (bQ m.sig)=false:=wq hmm hh;exact bP @ae @hf
  | true =>
   have hq:x+1<=m.eqs.length∧(m.eqs.take (x+1)).all (bQ m.sig)=true:=⟨au,by rw [Ak hc,aD,hh];rfl⟩;refine fR @ae ?_;have F:=ai @ae @dY;exact yI
 obtain rfl:x=m.eqs.length:=by omega
 have q1:¬ ((m.eqs.length:Int) < (m.eqs.length:Int)):=om;rw [Tap] at aD;rw [aD,Bool.true_and];refine fG (aj4 @ae @cw @er @q1) ?_;have F:=@aw;refine gL (ι:=Nat) [2,4,41,52] [] (fun y=>[(4,A.d (.one (.lit (.int .i64 y))))]) (fun y=>[]) (fun y=>y<=m.rules.length∧(m.rules.take y).all (bQ m.sig)=true) (fun y=>m.rules.length - y) (0) (⟨Taj _,rfl⟩) (fun y hy=>?_);obtain ⟨qx,mq⟩:=hy;by_cases jT:y < m.rules.length
 ·have q2:(y:Int) < (m.rules.length:Int):=om;obtain ⟨c,hc⟩:∃ a,m.rules[y]?=some a:=⟨_,Taa jT⟩;have hmm:=Tac hc;have dY:=bI (k:=y) om;have rY:=Zg9 hmm;refine bU (aj5 @ae @cw @er @q2 @hc) (aj4 @ae @cw @er @hc) (cE c (hou c hmm) om) ?_;rw [eq' c]
  cases hh:bQ m.sig c with
  | false =>
   have hf:m.rules.all (bQ m.sig)=false:=wq hmm hh;exact bP @ae @hf
  | true =>
   have hq:y+1<=m.rules.length∧(m.rules.take (y+1)).all (bQ m.sig)=true:=⟨jT,by rw [Ak hc,mq,hh];rfl⟩;refine fR @ae ?_;have F:=ai @ae @dY;refine gG ?_;exact ⟨y+1,hq,gw,gw,om⟩
 obtain rfl:y=m.rules.length:=by omega
 have q2:¬ ((m.rules.length:Int) < (m.rules.length:Int)):=om;rw [Tap] at mq;exact fT (aj4 @ae @er @q2 @mq)
theorem ZCN {e:Env} {f:FuncId} {rows:List (List C)} {r:List D} (h:az e f [.one (.sl rows)] r):az e f [.clip rows] r :=
 h.weaken fun w S vs hv=>by
  match vs,hv with
  | [x],hv=>exact ⟨hv.1.1,trivial⟩
theorem ZCO {m:Mdl} {mc:C} (hg:SgnOk m.sig) (hm:uI m) (hb:ab (fV m)<=1048576):az e0 103 [.one (.ptr (dJ m.sig mc)),.agg (fV m)] [.one (.lit (.bool (oN m)))]:=by
 rw [Zkk] at hb;obtain ⟨bW,hoe,hou⟩:=hm;have cE:=fun (e:Eqn) (he:xU e) (hb:ab (dy e)<=1048576)=>Zyz (mc:=mc) hg he hb;have er:=wB;have ed:fV m=[.sl (m.sig.sorts.names.map kj),.sl (m.sig.sorts.subs.map kU),.sl (m.sig.ops.map fU),.sl (m.eqs.map dy),.sl (m.rules.map dy)]:=rfl;rw [ed];refine gI 2210463835 Tryz.func103 ?_;by_cases h1:m.eqs.length<=16;rotate_left
 ·have d5:(16:Int) < (m.eqs.length:Int):=om;exact fT (aj4 @ae @er @d5 (by simp [oN,h1]:oN m=false))
 have d5:¬ ((16:Int) < (m.eqs.length:Int)):=om;by_cases h2:m.rules.length<=16;rotate_left
 ·have js:(16:Int) < (m.rules.length:Int):=om;exact fT (aj5 @ae @er @d5 @js (by simp [oN,h2]:oN m=false))
 have js:¬ ((16:Int) < (m.rules.length:Int)):=om;have cC:=ZCN (Zu7 [m.eqs.map dy,m.rules.map dy] (by intro r hr;simp at hr;rcases hr with rfl | rfl <;> exact er _) (by simp) (by simp;omega));have ef:[m.eqs.map dy,m.rules.map dy].flatten=(m.eqs++m.rules).map dy:=by simp
 rw [ef] at cC;simp only [Tbu,List.map_nil] at cC;rw [(by simp [oN,h1,h2,List.all_append]:oN m=(m.eqs++m.rules).all (bQ m.sig))];have ca:∀ e∈m.eqs++m.rules,xU e∧ab (dy e)<=1048576:=fun e he=>by
  rcases Tbh.1 he with h | h
  ·have:=Zg9 h;exact ⟨hoe e h,om⟩
  ·have:=Zg9 h;exact ⟨hou e h,om⟩
 have ix:(m.eqs++m.rules).length<=32:=by rw [Tae];omega
 refine bU (aj4 @ae @er @d5 @js) (ai @ae @er) (cC) ?_;generalize m.eqs++m.rules=l at *;refine dT (ai @ae @er) (ai @ae @er) ?_;have F:=@aw;refine gL (ι:=Nat) [4,6,24,25,31] [] (fun x=>[(24,A.d (.one (.lit (.int .i64 x))))]) (fun x=>[]) (fun x=>x<=l.length∧(l.take x).all (bQ m.sig)=true) (fun x=>l.length - x) (0) (⟨Taj _,rfl⟩) (fun x hx=>?_);obtain ⟨ug,aD⟩:=hx
 by_cases au:x < l.length
 ·have q1:(x:Int) < (l.length:Int):=om;obtain ⟨c,hc⟩:∃ a,l[x]?=some a:=⟨_,Taa au⟩;have hmm:=Tac hc;have dY:=bI (k:=x) om;refine bU (aj5 @ae @cw @er @q1 @hc) (aj4 @ae @cw @er @hc) (cE c (ca c hmm).1 (ca c hmm).2) ?_
  cases hh:bQ m.sig c with
  | false =>
   have hf:l.all (bQ m.sig)=false:=wq hmm hh;exact bP @ae @hf
  | true =>
   have hq:x+1<=l.length∧(l.take (x+1)).all (bQ m.sig)=true:=⟨au,by rw [Ak hc,aD,hh];rfl⟩;refine fR @ae ?_;have F:=ai @ae @dY;exact yI
 obtain rfl:x=l.length:=by omega
 have q1:¬ ((l.length:Int) < (l.length:Int)):=om;rw [Tap] at aD;exact fT (aj4 @ae @er @q1 @aD)
def xO (g:Sgn) (b:List Bd) (rW:List (Tm × Tm)) (cs:List Chn) (fl:List Bool):Prop:=∀ (k:Nat) c,rW[k]?=some c->∃ x y,cs[2 * k]?=some x∧cs[2 * k+1]?=some y∧aS g b c.1=some x.frm∧aS g b c.2=some y.frm∧x.to=y.to∧fl[2 * k]?=some true∧fl[2 * k+1]?=some true
open Classical in
noncomputable def tQ (m:Mdl) (t:Tm) (i:Int) (o:Occ) (cs:List Chn) (fl:List Bool):Option Tm:=if i < 0 then none else match m.eqs[i.toNat]? with
 | none=>none
 | some e=>if (mE m.sig t o).2=true∧rD m.sig e.l (mE m.sig t o).1 o.mat=true∧cs.length=2 * e.cs.length∧xO m.sig o.mat e.cs cs fl then (aS m.sig o.mat e.r).bind (oI m.sig t o) else none
mutual
noncomputable def ji (m:Mdl):Chn->Bool
 | .mk a b ls=>d4 m.sig a && ((qT m ls a).map fun t=>decide (aH t b=0)).getD false
noncomputable def qT (m:Mdl):List Lnk->Tm->Option Tm
 | [],t=>some t
 | l::ls,t=>(rT m l t).bind (qT m ls)
noncomputable def rT (m:Mdl):Lnk->Tm->Option Tm
 | .mk i o cs,t=>tQ m t i o cs (ZjC m cs)
noncomputable def ZjC (m:Mdl):List Chn->List Bool
 | []=>[]
 | c::cs=>ji m c::ZjC m cs
end
theorem ZoW (m:Mdl):∀ cs,ZjC m cs=cs.map (ji m)
 | []=>by simp only [ZjC,List.map_nil]
 | c::cs=>by simp only [ZjC,Tbu,ZoW m cs]
theorem Zns (m:Mdl) (l:Lnk) (t:Tm):rT m l t=tQ m t l.idx l.occ l.conds (l.conds.map (ji m)):=by
 obtain ⟨i,o,cs⟩:=l;simp only [rT,ZoW,Lnk.idx,Lnk.occ,Lnk.conds]
theorem ZlD (m:Mdl) (c:Chn):ji m c=(d4 m.sig c.frm && ((qT m c.links c.frm).map fun t=>decide (aH t c.to=0)).getD false):=by
 obtain ⟨a,b,ls⟩:=c;simp only [ji,Chn.frm,Chn.to,Chn.links];rfl
theorem ZtR {m:Mdl} {ls:List Lnk} {i:Nat} {l:Lnk} (h:ls[i]?=some l) (t:Tm):qT m (ls.drop i) t=(rT m l t).bind (qT m (ls.drop (i+1))):=by
 obtain ⟨h1,rfl⟩:=Tad.1 h;rw [List.drop_eq_getElem_cons h1,qT]
theorem Zxs {m:Mdl} {ls:List Lnk} (t:Tm):qT m (ls.drop ls.length) t=some t:=by rw [List.drop_length,qT]
theorem ZtS {m:Mdl} {t:Tm} {i:Int} {o:Occ} {cs:List Chn} {fl:List Bool} (h:i < 0):tQ m t i o cs fl=none:=by unfold tQ;rw [if_pos h]
theorem ZtT {m:Mdl} {t:Tm} {i:Int} {o:Occ} {cs:List Chn} {fl:List Bool} (h:(m.eqs.length:Int)<=i):tQ m t i o cs fl=none:=by
 unfold tQ;rw [if_neg om,List.getElem?_eq_none om]
open Classical in
theorem ZtU {m:Mdl} {t:Tm} {i:Int} {o:Occ} {cs:List Chn} {fl:List Bool} {e:Eqn} (h0:0<=i) (he:m.eqs[i.toNat]?=some e):tQ m t i o cs fl=if (mE m.sig t o).2=true∧rD m.sig e.l (mE m.sig t o).1 o.mat=true∧cs.length=2 * e.cs.length∧xO m.sig o.mat e.cs cs fl then (aS m.sig o.mat e.r).bind (oI m.sig t o) else none:=by
 unfold tQ;rw [if_neg om,he]
theorem Da {m:Mdl} {t:Tm} {i:Int} {o:Occ} {cs:List Chn} {fl:List Bool} {e:Eqn} (h0:0<=i) (he:m.eqs[i.toNat]?=some e) (h:¬ ((mE m.sig t o).2=true∧rD m.sig e.l (mE m.sig t o).1 o.mat=true∧cs.length=2 * e.cs.length∧xO m.sig o.mat e.cs cs fl)):tQ m t i o cs fl=none:=by rw [ZtU h0 he,if_neg h]
theorem Zq0 {m:Mdl} {t:Tm} {i:Int} {o:Occ} {cs:List Chn} {fl:List Bool} {e:Eqn} (h0:0<=i) (he:m.eqs[i.toNat]?=some e) (h1:(mE m.sig t o).2=true) (h2:rD m.sig e.l (mE m.sig t o).1 o.mat=true) (h3:cs.length=2 * e.cs.length) (h4:xO m.sig o.mat e.cs cs fl):tQ m t i o cs fl=(aS m.sig o.mat e.r).bind (oI m.sig t o):=by rw [ZtU h0 he,if_pos ⟨h1,h2,h3,h4⟩]
theorem Znt {m:Mdl} {l:Lnk} {t u:Tm} (h:rT m l t=some u):TermOk m.sig u:=by
 rw [Zns] at h;unfold tQ at h;split at h
 ·cases h
 ·split at h
  ·cases h
  ·split at h
   ·obtain ⟨v,_,h2⟩:=Option.bind_eq_some_iff.1 h;exact ZCK h2
   ·cases h
theorem Ziw (c:Chn):dx c=an c.frm++(an c.to++[.sl (mS c.links)]):=by
 obtain ⟨a,b,ls⟩:=c;simp only [dx,Chn.frm,Chn.to,Chn.links]
theorem wC (l:Lnk):mh l=[.lit (.int .i64 l.idx),.sl (l.occ.path.map d7),.sl (aq l.occ.left),.sl (aq l.occ.right),.sl (l.occ.mat.map fS),.sl (jL l.conds)]:=by
 obtain ⟨i,o,cs⟩:=l;simp only [mh,f8,Lnk.idx,Lnk.occ,Lnk.conds,Taf,Tah]
theorem ZlE (c:Chn):(dx c).length=9:=by rw [Ziw];simp [(ae.2.2.2.2.1:∀ t,(an t).length=4)]
theorem ZtV (c:Chn):(dx c).take 4=an c.frm:=by rw [Ziw];exact sx _ _
theorem Znu (c:Chn):(dx c).drop 4=an c.to++[.sl (mS c.links)]:=by rw [Ziw];exact Au _ _
theorem ZtW (c:Chn):(dx c).drop 8=[.sl (mS c.links)]:=by rw [show (8:Nat)=4+4 from rfl,<- List.drop_drop,Znu,Au]
theorem ZtX (c:Chn):(dx c).take 9=dx c:=List.take_of_length_le (by rw [ZlE];exact Tai _)
theorem ZtY (c:Chn):(dx c).drop 9=[]:=List.drop_of_length_le (by rw [ZlE];exact Tai _)
theorem ZyD (c:Chn):(dx c).all aY=true:=by
 rw [Ziw];simp only [List.all_append,(ae.2.2.2.2.2.2.2.1:∀ t,(an t).all aY=true),Bool.true_and];rfl
theorem ZtZ (l:Lnk):(mh l).length=6:=by rw [wC];rfl
theorem Zxt (l:Lnk):(mh l).take 6=mh l:=by rw [wC];rfl
theorem Zxu (l:Lnk):(mh l).drop 6=[]:=by rw [wC];rfl
theorem ZyE (l:Lnk):(mh l).all aY=true:=by rw [wC];rfl
theorem Zix:∀ (cs:List Chn),ZaB 9 (jL cs)=true
 | []=>by simp only [jL];rfl
 | c::cs=>by simp only [jL,zb,ZlE,ZyD,Zix cs];rfl
theorem Znv:∀ (cs:List Lnk),ZaB 6 (mS cs)=true
 | []=>by simp only [mS];rfl
 | c::cs=>by simp only [mS,zb,ZtZ,ZyE,Znv cs];rfl
theorem dG:type_of% (aj15 ZlE ZtV Znu ZtW ZtX ZtY ZyD ZtZ Zxt Zxu ZyE Zix Znv ZfU (aj3 Zi3 Zi4 Zi5)):=aj15 ZlE ZtV Znu ZtW ZtX ZtY ZyD ZtZ Zxt Zxu ZyE Zix Znv ZfU (aj3 Zi3 Zi4 Zi5)
theorem Az (c:Chn):ab (dx c)=ab (an c.frm)+(ab (an c.to)+(c.links.length+ah (mS c.links))):=by
 rw [Ziw,Df,Df];simp only [ab,dN,Zi3];omega
theorem Dg (l:Lnk):ab (mh l)=ab (f8 l.occ)+(l.conds.length+ah (jL l.conds)):=by
 rw [wC];simp only [f8,ab,dN,ZfU];omega
theorem Zha {ls:List Lnk} {l:Lnk} (h:l∈ls):ab (mh l)<=ah (mS ls):=by rw [ZhG];exact Zgy (List.mem_map_of_mem h)
theorem Zhb {cs:List Chn} {c:Chn} (h:c∈cs):ab (dx c)<=ah (jL cs):=by rw [ZhF];exact Zgy (List.mem_map_of_mem h)
theorem Zkl {c:Chn} {l:Lnk} (h:l∈c.links):d6 (mh l) < d6 (dx c):=by
 refine pX fun i hi=>?_;have h1:=n7 (by rw [Zi5,hi];rfl:(mS c.links)[i]?=some (mh l));obtain ⟨⟨o,n,s,a⟩,⟨o2,n2,s2,a2⟩,ls⟩:=c;simp only [Chn.links] at h1;simp only [dx,an,Taf,Tah,d6,mo];omega
theorem Zkm {l:Lnk} {c:Chn} (h:c∈l.conds):d6 (dx c) < d6 (mh l):=by
 refine pX fun i hi=>?_;have h1:=n7 (by rw [Zi4,hi];rfl:(jL l.conds)[i]?=some (dx c));rw [wC];simp only [d6,mo];omega
theorem zi {c:Chn}:pk c ↔ aK c.frm∧aK c.to∧∀ l∈c.links,wN l:=by
 obtain ⟨a,b,ls⟩:=c;simp only [pk,Chn.frm,Chn.to,Chn.links,Zn8]
theorem ZhV {l:Lnk}:wN l ↔ eP l.idx∧Zn6 l.occ∧∀ c∈l.conds,pk c:=by
 obtain ⟨i,o,cs⟩:=l;simp only [wN,Lnk.idx,Lnk.occ,Lnk.conds,Zn7]
theorem m105 {p:Prop} (h:p:=by
 have z2:(none:Option Tm).isSome=false:=rfl;rw [kX,hk];have z3:(((none:Option Tm).bind (qT m (c.links.drop (i+1)))).map fun t=>decide (aH t c.to=0)).getD false=false:=rfl;rw [z3];exact fD (ai @z2 @ae)):p:=h
theorem m103 {p:Prop} (h:p:=by
 have z2:(some u).isSome=true:=rfl;have z4:(some u).getD ck=u:=rfl;have hu:=Znt hk;rw [hk,Option.bind_some] at kX;rw [z4];have F:=aj3 @z2 @dZ @ae;refine gG ?_;exact ⟨(i+1,u),⟨ci,hu,kX⟩,gw,gw,om⟩):p:=h
section
variable {m:Mdl}
def sr (m:Mdl) (l:Lnk) (t:Tm):Prop:=az e0 41 [.one (.ptr (fV m)),.agg (an t),.agg (mh l)] [.agg (an ((rT m l t).getD ck)),.one (.lit (.bool (rT m l t).isSome))]
def sv (m:Mdl) (c:Chn):Prop:=az e0 94 [.one (.ptr (fV m)),.agg (dx c)] [.one (.lit (.bool (ji m c)))]
theorem ZyF (hg:SgnOk m.sig) (bW:jk m.sig) {c:Chn} (hc:pk c) (hb:ab (dx c)<=1048576) (h:∀ l∈c.links,∀ t,TermOk m.sig t->sr m l t):sv m c:=by
 have hbc:=Az c;obtain ⟨hoa,BL,_⟩:=zi.1 hc;have cT:=yV bW hoa (qe om);have es:bN m.sig=[.sl (m.sig.sorts.names.map kj),.sl (m.sig.sorts.subs.map kU),.sl (m.sig.ops.map fU)]:=rfl;have er:=wB;rw [v8 hg,Bool.true_and] at cT;unfold sv;unfold sr at h;rw [ZlD];simp only [fV.eq_1] at h ⊢;refine gI (ts:=[.slot 4]) 137443279355 Tryz.func94 ?_;refine bz 2 (ai @dG @ae) (aj3 @es @dG @ae) (cT) ?_
 cases h1:d4 m.sig c.frm with
 | false =>
  exact bK @ae @ae
 | true =>
 have hTa:=mP.1 h1;refine fR @ae ?_;rw [Bool.true_and];refine fG (ai @dG @ae) ?_;have F:=ai @dG @ae;refine gL (ι:=Nat × Tm) [4,6,7,8,22,37] [5] (fun x=>[(6,A.d (.one (.lit (.int .i64 x.1))))]) (fun x=>[(5,.var none (an x.2))]) (fun x=>x.1<=c.links.length∧TermOk m.sig x.2∧qT m c.links c.frm=qT m (c.links.drop x.1) x.2) (fun x=>c.links.length - x.1) ((0,c.frm)) (⟨Taj _,hTa,rfl⟩) (fun x hx=>?_)
 obtain ⟨i,t⟩:=x;obtain ⟨hi,hT,kX⟩:=hx;simp only at hi hT kX;dsimp only;by_cases ci:i < c.links.length;rotate_left
 ·obtain rfl:i=c.links.length:=by omega
  have q1:=lF c.links.length c.links.length;rw [Zxs] at kX;rw [kX];have z1:((some t).map fun t=>decide (aH t c.to=0)).getD false=decide (aH t c.to=0):=rfl;rw [z1];refine bz 11 (aj3 @q1 @dG @ae) (aj3 @dG @sx @ae) ((tz (dt.ok hg _ t (Tan _) hT.form) BL)) ?_;exact bK @ae @ae
 have q1:=lT i c.links.length;obtain ⟨l,hl⟩:∃ l,c.links[i]?=some l:=⟨_,Taa ci⟩;have cF:=h l (Tac hl) t hT;have dZ:=bI (k:=i) om;rw [ZtR hl] at kX;refine fN 7 (aj6 @q1 @hl @ci @bD @dG @ae) ?_;refine A4 11 10 12 ?_;refine fC (aj5 @hl @ci @bD @dG @ae) (cF) ?_;refine fR @ae ?_
 cases hk:rT m l t with
 | none =>
  exact m105
 | some u =>
  exact m103
end
section
variable {m:Mdl} {mc:C}
def sq (m:Mdl) (mc:C) (l:Lnk) (t:Tm):Prop:=az e0 47 [.one (.ptr (dJ m.sig mc)),.agg (fV m),.agg (an t),.agg (mh l)] [.agg (an ((rT m l t).getD ck)),.one (.lit (.bool (rT m l t).isSome))]
def sw (m:Mdl) (mc:C) (c:Chn):Prop:=az e0 105 [.one (.ptr (dJ m.sig mc)),.agg (fV m),.agg (dx c)] [.one (.lit (.bool (ji m c)))]
theorem Zt0 (hg:SgnOk m.sig) {c:Chn} (hc:pk c) (hb:ab (dx c)<=1048576) (h:∀ l∈c.links,∀ t,TermOk m.sig t->sq m mc l t):sw m mc c:=by
 have hbc:=Az c;obtain ⟨hoa,BL,_⟩:=zi.1 hc;have cT:=C7 (mc:=mc) hg hoa (qe om);have er:=wB;unfold sw;unfold sq at h;rw [ZlD];simp only [fV.eq_1] at h ⊢;refine gI (ts:=[.slot 6]) 34375536375 Tryz.func105 ?_;refine bz 1 (ai @dG @ae) (ai @dG @ae) (cT) ?_
 cases h1:d4 m.sig c.frm with
 | false =>
  exact bK @ae @ae
 | true =>
 have hTa:=mP.1 h1;refine fR @ae ?_;rw [Bool.true_and];refine fG (ai @dG @ae) ?_;have F:=ai @dG @ae;refine gL (ι:=Nat × Tm) [6,9,10,11,22,23,35] [7] (fun x=>[(22,A.d (.one (.lit (.int .i64 x.1))))]) (fun x=>[(7,.var none (an x.2))]) (fun x=>x.1<=c.links.length∧TermOk m.sig x.2∧qT m c.links c.frm=qT m (c.links.drop x.1) x.2) (fun x=>c.links.length - x.1) ((0,c.frm)) (⟨Taj _,hTa,rfl⟩) (fun x hx=>?_)
 obtain ⟨i,t⟩:=x;obtain ⟨hi,hT,kX⟩:=hx;simp only at hi hT kX;dsimp only;by_cases ci:i < c.links.length;rotate_left
 ·obtain rfl:i=c.links.length:=by omega
  have q1:=lF c.links.length c.links.length;rw [Zxs] at kX;rw [kX];have z1:((some t).map fun t=>decide (aH t c.to=0)).getD false=decide (aH t c.to=0):=rfl;rw [z1];refine bz 12 (aj3 @q1 @dG @ae) (aj3 @dG @sx @ae) ((uv t c.to)) ?_;exact bK @ae @ae
 have q1:=lT i c.links.length;obtain ⟨l,hl⟩:∃ l,c.links[i]?=some l:=⟨_,Taa ci⟩;have cF:=h l (Tac hl) t hT;have dZ:=bI (k:=i) om;rw [ZtR hl] at kX;refine bw 7 (aj6 @q1 @hl @ci @bD @dG @ae) (ai @dG @ae) (cF) @ae ?_
 cases hk:rT m l t with
 | none =>
  exact m105
 | some u =>
  exact m103
end
theorem m298 {p:Prop} (h:p:=by
 rw [decide_eq_false h9,bC fun _ _ p1 _ _=>h9 (n9.2 p1)];exact xl):p:=h
theorem m293 {p:Prop} (h:p:=by
 rw [decide_eq_false h8,bC fun _ p1 _ _ _=>by rw [h6] at p1;injection p1 with p1;exact h8 (n9.2 p1.symm)];exact xl):p:=h
theorem m292 {p:Prop} (h:p:=by
 rw [decide_eq_false h7,bC fun p1 _ _ _ _=>by rw [h5] at p1;injection p1 with p1;exact h7 (n9.2 p1.symm)];exact xl):p:=h
theorem m219 {p:Prop} (h:p:=by
 rw [bC fun p1 _ _ _ _=>by rw [h5] at p1;cases p1];exact fD (aj4 @z5 @z6 @hz @ae)):p:=h
theorem m209 {p:Prop} (h:p:=by
 rw [Da xd he fun h=>by rw [h1] at h;cases h.1];exact fD (aj4 @z5 @z6 @hz @ae)):p:=h
theorem m207 {p:Prop} (h:p:=by
 rw [bC fun _ p1 _ _ _=>by rw [h6] at p1;cases p1];exact fD (aj5 @z5 @z6 @z7 @hz @ae)):p:=h
theorem Ch {X Y:Prop} (b:Y) (h:Bx Y->X:=by
 intro B0
 refine gI (ts:=[.cell 8 53,.slot 9]) 748334510239588884836480499787462462121819544485871 Tryz.func47 ?_;exact B0.o):X:=h ⟨b⟩
theorem m124 {p:Prop} (h:p:=by
 rw [Da xd he fun h=>h3 h.2.2.1];exact bK (aj6 @lC @ll @w3 (eq_false om:((l.conds.length:Int)=((2 * e.cs.length:Nat):Int))=False) @cw @ae) (aj4 @z5 @z6 @hz @ae)):p:=h
theorem xl {p:Prop} (h:p:=by
 exact bK @ae (aj4 @z5 @z6 @hz @ae)):p:=h
theorem ZCP {g:Sgn} {e:Eqn} (h:bQ g e=true):TermOk g e.l∧TermOk g e.r∧e.cs.length<=2∧∀ c∈e.cs,TermOk g c.1∧TermOk g c.2:=by
 simp only [bQ,gz,Tar,decide_eq_true_eq,List.all_eq_true] at h;refine ⟨mP.1 h.1.1,mP.1 h.1.2.1,h.2.2.1,fun c hc=>?_⟩;have h1:=h.2.2.2.2.2 c hc;simp only [ij,gz,Tar] at h1;exact ⟨mP.1 h1.1.1,mP.1 h1.1.2.1⟩
theorem ZCQ {m:Mdl} (h:oN m=true) {e:Eqn} (he:e∈m.eqs):bQ m.sig e=true:=by
 simp only [oN,Tar,List.all_eq_true] at h;exact h.2.2.1 e he
theorem ZoX {g:Sgn} {l:List Bd} {t:Tm} (hg:SgnOk g) (hS:SbsOk g l) (ht:TermOk g t):aS g l t=ie g l t:=by unfold aS;rw [if_pos ⟨v8 hg,Zj5 hS,wf ht⟩]
def Av (g:Sgn) (b:List Bd) (rW:List (Tm × Tm)) (cs:List Chn) (fl:List Bool) (n:Nat):Prop:=∀ (k:Nat) c,k < n->rW[k]?=some c->∃ x y,cs[2 * k]?=some x∧cs[2 * k+1]?=some y∧aS g b c.1=some x.frm∧aS g b c.2=some y.frm∧x.to=y.to∧fl[2 * k]?=some true∧fl[2 * k+1]?=some true
theorem Av.all {g:Sgn} {b:List Bd} {rW:List (Tm × Tm)} {cs:List Chn} {fl:List Bool} (h:Av g b rW cs fl rW.length):xO g b rW cs fl:=fun k c hc=>h k c (Tad.1 hc).1 hc
theorem Av.step {g:Sgn} {b:List Bd} {rW:List (Tm × Tm)} {cs:List Chn} {fl:List Bool} {n:Nat} (h:Av g b rW cs fl n) {c:Tm × Tm} (hc:rW[n]?=some c) {x y:Chn} (h1:cs[2 * n]?=some x) (h2:cs[2 * n+1]?=some y) (h3:aS g b c.1=some x.frm) (h4:aS g b c.2=some y.frm) (h5:x.to=y.to) (h6:fl[2 * n]?=some true) (h7:fl[2 * n+1]?=some true):Av g b rW cs fl (n+1):=fun k c' hk vb=>by
 by_cases e:k=n
 ·subst e;rw [hc] at vb;injection vb with vb
  subst vb;exact ⟨x,y,h1,h2,h3,h4,h5,h6,h7⟩
 ·exact h k c' om vb
theorem xO.not {g:Sgn} {b:List Bd} {rW:List (Tm × Tm)} {cs:List Chn} {fl:List Bool} {n:Nat} {c:Tm × Tm} (hc:rW[n]?=some c) {x y:Chn} (h1:cs[2 * n]?=some x) (h2:cs[2 * n+1]?=some y) (h:aS g b c.1=some x.frm->aS g b c.2=some y.frm->x.to=y.to->fl[2 * n]?=some true->fl[2 * n+1]?=some true->False):¬ xO g b rW cs fl:=fun hR=>by
 obtain ⟨x',y',k1,k2,k3,k4,k5,k6,k7⟩:=hR n c hc;rw [h1] at k1;rw [h2] at k2;injection k1 with k1
 injection k2 with k2
 subst k1 k2;exact h k3 k4 k5 k6 k7
section
variable {m:Mdl} {mc:C}
theorem ZkC (hg:SgnOk m.sig) (hm:uI m) (hE:oN m=true) (ox:ab (fV m)<=1048576) {l:Lnk} {t:Tm} (hl:wN l) (hb:ab (mh l)<=1048576) (hT:TermOk m.sig t) (h:∀ d∈l.conds,sw m mc d):sq m mc l t:=by
 have oZ:=Dg l;obtain ⟨hi64,vp,BM⟩:=ZhV.1 hl;have va:ab (f8 l.occ)<=1048576:=om;obtain ⟨co,jD,eO⟩:=Zki va;have rh:=dt.ok hg _ t (Tan _) hT.form;have Bq:=uE hT;have bW:jk m.sig:=hm.1;have DP:ab (bN m.sig)<=1048576:=by have:=Zkk m;omega
 have cT:=ZqT (mc:=mc) hg rh Bq co (by unfold eJ at jD;omega) (o:=l.occ) (by unfold eJ at eO;omega);rw [if_pos (wf hT),<- ZpM hg hT] at cT;obtain ⟨ktk,kbk⟩:=ZqV (g:=m.sig) (o:=l.occ) rh Bq;have er:=wB;have lu:=wC l;have hz:=oc;unfold sq;unfold sw at h;rw [Zns];simp only [fV.eq_1] at h ⊢;rw [lu];have eo:f8 l.occ=[.sl (l.occ.path.map d7),.sl (aq l.occ.left),.sl (aq l.occ.right),.sl (l.occ.mat.map fS)]:=rfl
 have es:bN m.sig=[.sl (m.sig.sorts.names.map kj),.sl (m.sig.sorts.subs.map kU),.sl (m.sig.ops.map fU)]:=rfl;by_cases nP:l.idx < 0
 ·rw [ZtS nP];have z5:(none:Option Tm).getD ck=ck:=rfl;have z6:(none:Option Tm).isSome=false:=rfl;refine Ch ?_;exact fD (aj5 (eq_true nP:(l.idx < 0)=True) @z5 @z6 @hz @ae)
 have q1:(l.idx < 0)=False:=eq_false nP;by_cases hi1:l.idx < (m.eqs.length:Int);rotate_left
 ·rw [ZtT om];have z5:(none:Option Tm).getD ck=ck:=rfl;have z6:(none:Option Tm).isSome=false:=rfl;refine Ch ?_;exact fD (aj6 @q1 (eq_true om:(l.idx ≥ (m.eqs.length:Int))=True) @z5 @z6 @hz @ae)
 have q2:(l.idx ≥ (m.eqs.length:Int))=False:=eq_false om;obtain ⟨e,he⟩:∃ e,m.eqs[l.idx.toNat]?=some e:=⟨_,Taa om⟩;have DS:=Tac he;obtain ⟨qq,DT,hec,Bt⟩:=ZCP (ZCQ hE DS);refine Ch ?_;refine bw 4 (aj8 @q1 @q2 (eq_true om:(0<=l.idx)=True) (eq_true om:(l.idx.toNat < m.eqs.length)=True) @he @er @cw @ae) (ai @eo @ae) (cT) (ai @cw @ae) ?_;have z5:(none:Option Tm).getD ck=ck:=rfl;have z6:(none:Option Tm).isSome=false:=rfl;have xd:0<=l.idx:=om;have yi:wM l.occ.mat:=vp.2.2.2;have eb:je l.occ.mat=l.occ.mat.map fS:=rfl;have rY:(je l.occ.mat).length+ah (je l.occ.mat)<=1048576:=by
  simp only [f8,ab,dN] at va;unfold je;omega
 have cM:=Zrn bW (dt.ok hg _ e.l (Tan _) qq.form) (uE qq) ktk kbk yi rY;have rB:=uP l.occ.mat;rw [eb] at rB
 cases h1:(mE m.sig t l.occ).2 with
 | false =>
  exact m209
 | true =>
 refine bz 5 @ae (aj4 @es @eb @cw @ae) (cM) ?_
 cases h2:rD m.sig e.l (mE m.sig t l.occ).1 l.occ.mat with
 | false =>
  rw [Da xd he fun h=>by rw [h2] at h;cases h.2.1];exact xl
 | true =>
 have w3:IntKind.i64.wrap (2 * (e.cs.length:Int))=((2 * e.cs.length:Nat):Int):=dI om om om;have rC:=Zix l.conds;have lC:=ZfU l.conds;have ll:(e.cs.map lv).length=e.cs.length:=Tay _;by_cases h3:l.conds.length=2 * e.cs.length;rotate_left
 ·exact m124
 refine fR (aj6 @lC @ll @w3 (eq_true om:((l.conds.length:Int)=((2 * e.cs.length:Nat):Int))=True) @cw @ae) ?_;have hS:SbsOk m.sig l.occ.mat:=by
  have hM:xp m.sig e.l (mE m.sig t l.occ).1 l.occ.mat:=by simpa [rD] using h2
  have:=hM.1;unfold aS at this;split at this
  ·next hc=>exact Zhs.1 hc.2.1
  ·cases this
 refine fG (aj3 @ll @cw @ae) ?_;have F:=@ae;refine gL (ι:=Nat) [9,13,14,15,16,17,18,19,20,76,77,155] [] (fun k=>[(76,A.d (.one (.lit (.int .i64 k))))]) (fun k=>[]) (fun k=>k<=e.cs.length∧Av m.sig l.occ.mat e.cs l.conds (l.conds.map (ji m)) k) (fun k=>e.cs.length - k) (0) (⟨Taj _,fun j c hj=>absurd hj om⟩) (fun k hk=>?_);obtain ⟨hk,hct⟩:=hk;by_cases eX:k < e.cs.length;rotate_left
 ·obtain rfl:k=e.cs.length:=by omega
  have z7:∀ u:Tm,(some u).isSome=true:=fun _=>rfl;have z8:∀ u:Tm,(some u).getD ck=u:=fun _=>rfl;rw [Zq0 xd he h1 h2 h3 hct.all,ZoX hg hS DT];refine bw 16 (ai (lF e.cs.length e.cs.length) @ae) (aj3 @eb @cw @ae) ((ZiU (mc:=mc) hg hS.w _ (Tan _) DT)) (ai @cw @ae) ?_
  cases h4:ie m.sig l.occ.mat e.r with
  | none =>
   rw [Option.bind_none];exact fD (aj4 @z5 @z6 @hz @ae)
  | some u =>
   have hTu:=Zjv hg hS.to' _ _ (Tan _) DT h4;rw [Option.bind_some];refine bz 19 (aj3 @z7 @z8 @ae) (aj3 @z8 @eo @ae) ((Zu2 (mc:=mc) hg rh Bq hTu co (by unfold eJ at jD;omega) (o:=l.occ) (by unfold eJ at eO;omega))) ?_;exact bK @ae @ae
 have q6:=lT k e.cs.length;obtain ⟨c,hc⟩:∃ c,e.cs[k]?=some c:=⟨_,Taa eX⟩;obtain ⟨x,hx⟩:∃ x,l.conds[2 * k]?=some x:=⟨_,Taa om⟩;obtain ⟨y,hy⟩:∃ y,l.conds[2 * k+1]?=some y:=⟨_,Taa om⟩;obtain ⟨jQ,nM⟩:=Bt c (Tac hc);have na:=bI (k:=k) om;have w4:IntKind.i64.wrap (2 * (k:Int))=((2 * k:Nat):Int):=dI om om om;have w5:IntKind.i64.wrap (((2 * k:Nat):Int)+1)=((2 * k+1:Nat):Int):=dI om om om;have hlx:2 * k < l.conds.length:=om
 have hly:2 * k+1 < l.conds.length:=om;refine fN 10 (aj7 @q6 @hc @eX @ll @bD @cw @ae) ?_
 /- gk uU -/
 refine gGk [(13,.d (.one (.lit (.int .i64 (k:Int))))),(14,.ref 14 0),(77,.d (.one (.lit (.bool true)))),(76,.d (.one (.lit (.int .i64 (k:Int))))),(75,.d (.one (.lit (.int .i64 (e.cs.length:Int))))),(74,.d (.one (.sl (e.cs.map lv)))),(71,.d (.one (.lit (.bool false)))),(12,.d (.one (.lit (.bool true)))),(11,.ref 11 0),(10,.ref 10 0),(32,.d (.one (.lit (.bool false)))),(8,.ref 8 0),(7,.ref 7 0),(6,.ref 6 0),(5,.ref 5 0),(0,.d (.one (.ptr (dJ m.sig mc)))),(1,.d (.agg [.sl (m.sig.sorts.names.map kj),.sl (m.sig.sorts.subs.map kU),.sl (m.sig.ops.map fU),.sl (m.eqs.map dy),.sl (m.rules.map dy)])),(2,.d (.agg (an t))),(3,.d (.agg [.lit (.int .i64 l.idx),.sl (l.occ.path.map d7),.sl (aq l.occ.left),.sl (aq l.occ.right),.sl (l.occ.mat.map fS),.sl (jL l.conds)]))] [(14,.var none (lv c)),(11,.var none (an (mE m.sig t l.occ).1)),(10,.var none (dy e)),(8,.var none [.lit (.int .i64 0),.lit (.string ByteArray.empty),.lit (.int .i64 0),.sl []]),(7,.var none [.lit (.int .i64 l.idx),.sl (l.occ.path.map d7),.sl (aq l.occ.left),.sl (aq l.occ.right),.sl (l.occ.mat.map fS),.sl (jL l.conds)]),(6,.var none (an t)),(5,.var none [.sl (m.sig.sorts.names.map kj),.sl (m.sig.sorts.subs.map kU),.sl (m.sig.ops.map fU),.sl (m.eqs.map dy),.sl (m.rules.map dy)])] [([(81,.ref 7 5)],[]),([(82,.d (.one (.sl (jL l.conds))))],[]),([(83,.d (.one (.lit (.int .i64 (k:Int)))))],[]),([(84,.d (.one (.lit (.int .i64 ((2 * k:Nat):Int)))))],[]),([(85,.d (.one (.ptr (dx x))))],[]),([(86,.d (.agg (dx x)))],[]),([(87,.ref 7 5)],[]),([(88,.d (.one (.sl (jL l.conds))))],[]),([(89,.d (.one (.lit (.int .i64 (k:Int)))))],[]),([(90,.d (.one (.lit (.int .i64 ((2 * k:Nat):Int)))))],[]),([(91,.d (.one (.lit (.int .i64 ((2 * k+1:Nat):Int)))))],[]),([(92,.d (.one (.ptr (dx y))))],[]),([(93,.d (.agg (dx y)))],[]),([(15,.ref 15 0)],[(15,.var none [.lit (.int .i64 0),.lit (.string ByteArray.empty),.lit (.int .i64 0),.sl [],.lit (.int .i64 0),.lit (.string ByteArray.empty),.lit (.int .i64 0),.sl [],.sl []])]),([(16,.ref 16 0)],[(16,.var none [.lit (.int .i64 0),.lit (.string ByteArray.empty),.lit (.int .i64 0),.sl [],.lit (.int .i64 0),.lit (.string ByteArray.empty),.lit (.int .i64 0),.sl [],.sl []])]),([(15,.ref 15 0)],[(15,.var none (dx x))]),([(16,.ref 16 0)],[(16,.var none (dx y))])] (fun j=>([(13,15),(14,16)]:List (Nat × Nat)).lookup j) [] (⟨by simp [gs],by simp [gm]⟩) (fun j hj=>by simp at hj) ⟨?_,?_,?_,?_,?_,?_,?_,?_,?_,?_,?_,?_,?_,?_,?_,?_,?_,trivial⟩ ?_
 iterate 17 (focus
  intro s' m' hB hD hI hJ;have F:=qF.1 hB
  try have F:=ai F (cZ.1 (hD 0 (by decide) (by first | exact .inl rfl | exact .inr rfl)))
  try have F:=ai F (cZ.1 (hD 1 (by decide) (by first | exact .inl rfl | exact .inr rfl)))
  try have F:=ai F (cZ.1 (hD 2 (by decide) (by first | exact .inl rfl | exact .inr rfl)))
  try have F:=ai F (cZ.1 (hD 3 (by decide) (by first | exact .inl rfl | exact .inr rfl)))
  try have F:=ai F (cZ.1 (hD 4 (by decide) (by first | exact .inl rfl | exact .inr rfl)))
  try have F:=ai F (cZ.1 (hD 5 (by decide) (by first | exact .inl rfl | exact .inr rfl)))
  try have F:=ai F (cZ.1 (hD 6 (by decide) (by first | exact .inl rfl | exact .inr rfl)))
  try have F:=ai F (cZ.1 (hD 7 (by decide) (by first | exact .inl rfl | exact .inr rfl)))
  try have F:=ai F (cZ.1 (hD 8 (by decide) (by first | exact .inl rfl | exact .inr rfl)))
  try have F:=ai F (cZ.1 (hD 9 (by decide) (by first | exact .inl rfl | exact .inr rfl)))
  try have F:=ai F (cZ.1 (hD 10 (by decide) (by first | exact .inl rfl | exact .inr rfl)))
  try have F:=ai F (cZ.1 (hD 11 (by decide) (by first | exact .inl rfl | exact .inr rfl)))
  try have F:=ai F (cZ.1 (hD 12 (by decide) (by first | exact .inl rfl | exact .inr rfl)))
  try have F:=ai F (cZ.1 (hD 13 (by decide) (by first | exact .inl rfl | exact .inr rfl)))
  try have F:=ai F (cZ.1 (hD 14 (by decide) (by first | exact .inl rfl | exact .inr rfl)))
  simp only [kJ,kI,List.getD_cons_zero,List.getD_cons_succ,and_true,true_and] at F;have F:=aj11 F w4 w5 hx hy lC hlx hly @bD dG ae;refine bT ?_
  first | exact kS hB (cZ.2 (by simp [kJ,kI,gs,gm])) | exact kM hB (cZ.2 (by simp [kJ,kI,gs,gm,F])) | exact kB hB (cZ.2 (by simp [kJ,kI,gs,gm])))
 intro s' m' hB hP;refine ⟨_,_,(hB.app (hP 15 (.inl (by decide)) (fun k h=>by simp [List.lookup] at h))).app (hP 16 (.inl (by decide)) (fun k h=>by simp [List.lookup] at h)),?_⟩;simp only [Taf,Tah,List.append_nil,List.getD_cons_zero,List.getD_cons_succ]
 /- gk end uU -/
 refine ⟨_,Wk.refl _,?_⟩;have z7:∀ u:Tm,(some u).isSome=true:=fun _=>rfl;have z8:∀ u:Tm,(some u).getD ck=u:=fun _=>rfl;have cX:=ZiU (mc:=mc) hg hS.w _ (Tan _) jQ;have cY:=ZiU (mc:=mc) hg hS.w _ (Tan _) nM;have cR1:=h x (Tac hx);have cR2:=h y (Tac hy);have fx:(l.conds.map (ji m))[2 * k]?=some (ji m x):=by rw [Tba,hx];rfl
 have fy:(l.conds.map (ji m))[2 * k+1]?=some (ji m y):=by rw [Tba,hy];rfl
 have bC:=fun (q:aS m.sig l.occ.mat c.1=some x.frm->aS m.sig l.occ.mat c.2=some y.frm->x.to=y.to->(l.conds.map (ji m))[2 * k]?=some true->(l.conds.map (ji m))[2 * k+1]?=some true->False)=>Da (t:=t) (o:=l.occ) (fl:=l.conds.map (ji m)) xd he fun h=>xO.not hc hx hy q h.2.2.2;rw [ZoX hg hS jQ,ZoX hg hS nM,fx,fy] at bC;refine bw 11 @ae (aj3 @eb @cw @ae) (cX) (ai @cw @ae) ?_
 refine bw 12 @ae (aj3 @eb @cw @ae) (cY) (ai @cw @ae) ?_
 cases h5:ie m.sig l.occ.mat c.1 with
 | none =>
  exact m219
 | some u1 =>
 cases h6:ie m.sig l.occ.mat c.2 with
 | none =>
  exact m207
 | some u2 =>
 have bF:=aj5 @z7 @z8 @dG @sx @ae;refine bz 13 (aj3 @z7 @z8 @ae) bF (uv x.frm u1) ?_;by_cases h7:aH x.frm u1=0;rotate_left
 ·exact m292
 rw [decide_eq_true h7];refine fC bF (uv y.frm u2) ?_;by_cases h8:aH y.frm u2=0;rotate_left
 ·exact m293
 rw [decide_eq_true h8];refine fC bF (uv x.to y.to) ?_;by_cases h9:aH x.to y.to=0;rotate_left
 ·exact m298
 rw [decide_eq_true h9];refine fC (ai @dG @ae) (cR1) ?_
 cases g1:ji m x with
 | false =>
  rw [bC fun _ _ _ p1 _=>by rw [g1] at p1;cases p1];exact xl
 | true =>
 refine fC (ai @dG @ae) (cR2) ?_
 cases g2:ji m y with
 | false =>
  rw [bC fun _ _ _ _ p1=>by rw [g2] at p1;cases p1];exact xl
 | true =>
 refine fR @ae ?_;have F:=ai @na @ae;refine gG ?_;exact ⟨k+1,⟨eX,(hct.step hc hx hy (by rw [ZoX hg hS jQ,h5,n9.1 h7]) (by rw [ZoX hg hS nM,h6,n9.1 h8]) (n9.1 h9) (by rw [fx,g1]) (by rw [fy,g2]))⟩,gw,gw,om⟩
end
section
variable {m:Mdl}
theorem ZmR (hg:SgnOk m.sig) (hm:uI m) (hE:oN m=true) (ox:ab (fV m)<=1048576) {l:Lnk} {t:Tm} (hl:wN l) (hb:ab (mh l)<=1048576) (hT:TermOk m.sig t) (h:∀ d∈l.conds,sv m d):sr m l t:=by
 have oZ:=Dg l;obtain ⟨hi64,vp,BM⟩:=ZhV.1 hl;have va:ab (f8 l.occ)<=1048576:=om;obtain ⟨co,jD,eO⟩:=Zki va;have rh:=dt.ok hg _ t (Tan _) hT.form;have Bq:=uE hT;have bW:jk m.sig:=hm.1;have hmb:=Zkk m;have cT:=Zyu bW rh Bq vp va;obtain ⟨ktk,kbk⟩:=ZqV (g:=m.sig) (o:=l.occ) rh Bq;have er:=wB;have ln:(m.eqs.map dy).length=m.eqs.length:=Tay _;have lu:=wC l;have hz:=oc
 unfold sr;unfold sv at h;rw [Zns];simp only [fV.eq_1] at h ⊢;rw [lu];have eo:f8 l.occ=[.sl (l.occ.path.map d7),.sl (aq l.occ.left),.sl (aq l.occ.right),.sl (l.occ.mat.map fS)]:=rfl;have es:bN m.sig=[.sl (m.sig.sorts.names.map kj),.sl (m.sig.sorts.subs.map kU),.sl (m.sig.ops.map fU)]:=rfl;have z5:(none:Option Tm).getD ck=ck:=rfl;have z6:(none:Option Tm).isSome=false:=rfl;have z7:∀ u:Tm,(some u).isSome=true:=fun _=>rfl
 have z8:∀ u:Tm,(some u).getD ck=u:=fun _=>rfl;have w1:IntKind.i64.wrap ((m.eqs.length:Int) - 1)=(m.eqs.length:Int) - 1:=IntWalk.i64_in _ om;refine gI (ts:=[.cell 6 53,.slot 7]) 98081211193093513779522450310890944855982523710723588087 Tryz.func41 ?_;refine bz 1 (ai @ln @ae) (aj3 @w1 @ln @ae) ((Zls l.idx 0 ((m.eqs.length:Int) - 1))) ?_;by_cases hi:0<=l.idx∧l.idx<=(m.eqs.length:Int) - 1
 rotate_left
 ·rw [decide_eq_false hi,show tQ m t l.idx l.occ l.conds (l.conds.map (ji m))=none from by
   by_cases h0:l.idx < 0
   ·exact ZtS h0
   ·exact ZtT om]
  exact xl
 rw [decide_eq_true hi];obtain ⟨e,he⟩:∃ e,m.eqs[l.idx.toNat]?=some e:=⟨_,Taa om⟩;have DS:=Tac he;obtain ⟨qq,DT,hec,Bt⟩:=ZCP (ZCQ hE DS);have xd:0<=l.idx:=hi.1;have q3:(0<=l.idx)=True:=eq_true xd;have q4:(l.idx.toNat < m.eqs.length)=True:=eq_true om;refine fR @ae ?_;refine fN 3 @ae ?_
 /- gk link3 -/
 refine gGk [(29,.d (.one (.lit (.bool false)))),(7,.d (.one (.lit (.bool false)))),(6,.ref 6 0),(5,.ref 5 0),(4,.ref 4 0),(0,.d (.one (.ptr [.sl (m.sig.sorts.names.map kj),.sl (m.sig.sorts.subs.map kU),.sl (m.sig.ops.map fU),.sl (m.eqs.map dy),.sl (m.rules.map dy)]))),(1,.d (.agg (an t))),(2,.d (.agg [.lit (.int .i64 l.idx),.sl (l.occ.path.map d7),.sl (aq l.occ.left),.sl (aq l.occ.right),.sl (l.occ.mat.map fS),.sl (jL l.conds)]))] [(6,.var none [.lit (.int .i64 0),.lit (.string ByteArray.empty),.lit (.int .i64 0),.sl []]),(5,.var none [.lit (.int .i64 l.idx),.sl (l.occ.path.map d7),.sl (aq l.occ.left),.sl (aq l.occ.right),.sl (l.occ.mat.map fS),.sl (jL l.conds)]),(4,.var none (an t))] [([(31,.d (.one (.ptr [.sl (m.sig.sorts.names.map kj),.sl (m.sig.sorts.subs.map kU),.sl (m.sig.ops.map fU),.sl (m.eqs.map dy),.sl (m.rules.map dy)])))],[]),([(32,.d (.one (.ptr [.sl (m.sig.sorts.names.map kj),.sl (m.sig.sorts.subs.map kU),.sl (m.sig.ops.map fU),.sl (m.eqs.map dy),.sl (m.rules.map dy)])))],[]),([(33,.d (.one (.ptr [.sl (m.eqs.map dy),.sl (m.rules.map dy)])))],[]),([(34,.d (.one (.sl (m.eqs.map dy))))],[]),([(35,.ref 5 0)],[]),([(36,.d (.one (.lit (.int .i64 l.idx))))],[]),([(37,.d (.one (.ptr (dy e))))],[]),([(38,.d (.agg (dy e)))],[]),([(8,.ref 8 0)],[(8,.var none [.lit (.int .i64 0),.lit (.string ByteArray.empty),.lit (.int .i64 0),.sl [],.lit (.int .i64 0),.lit (.string ByteArray.empty),.lit (.int .i64 0),.sl [],.sl []])]),([(8,.ref 8 0)],[(8,.var none (dy e))])] (fun j=>([(8,9)]:List (Nat × Nat)).lookup j) [] (⟨by simp [gs],by simp [gm]⟩) (fun j hj=>by simp at hj) ⟨?_,?_,?_,?_,?_,?_,?_,?_,?_,?_,trivial⟩ ?_
 iterate 10 (focus
  intro s' m' hB hD hI hJ;have F:=qF.1 hB
  try have F:=ai F (cZ.1 (hD 0 (by decide) (by first | exact .inl rfl | exact .inr rfl)))
  try have F:=ai F (cZ.1 (hD 1 (by decide) (by first | exact .inl rfl | exact .inr rfl)))
  try have F:=ai F (cZ.1 (hD 2 (by decide) (by first | exact .inl rfl | exact .inr rfl)))
  try have F:=ai F (cZ.1 (hD 3 (by decide) (by first | exact .inl rfl | exact .inr rfl)))
  try have F:=ai F (cZ.1 (hD 4 (by decide) (by first | exact .inl rfl | exact .inr rfl)))
  try have F:=ai F (cZ.1 (hD 5 (by decide) (by first | exact .inl rfl | exact .inr rfl)))
  try have F:=ai F (cZ.1 (hD 6 (by decide) (by first | exact .inl rfl | exact .inr rfl)))
  try have F:=ai F (cZ.1 (hD 7 (by decide) (by first | exact .inl rfl | exact .inr rfl)))
  try have F:=ai F (cZ.1 (hD 8 (by decide) (by first | exact .inl rfl | exact .inr rfl)))
  simp only [kJ,kI,List.getD_cons_zero,List.getD_cons_succ,and_true,true_and] at F;have F:=aj8 F q3 q4 he er ln cw ae;refine bT ?_
  first | exact kS hB (cZ.2 (by simp [kJ,kI,gs,gm])) | exact kM hB (cZ.2 (by simp [kJ,kI,gs,gm,F])) | exact kB hB (cZ.2 (by simp [kJ,kI,gs,gm])))
 intro s' m' hB hP;refine ⟨_,_,hB.app (hP 9 (.inl (by decide)) (fun k h=>by simp [List.lookup] at h)),?_⟩;simp only [Taf,Tah,List.append_nil,List.getD_cons_zero,List.getD_cons_succ]
 /- gk end link3 -/
 refine ⟨_,Wk.refl _,?_⟩;refine fN 4 @ae ?_;refine A4 11 10 12 ?_;refine fC (aj3 @es @eo @ae) (cT) ?_;refine fR @ae ?_;have yi:wM l.occ.mat:=vp.2.2.2;have eb:je l.occ.mat=l.occ.mat.map fS:=rfl;have rY:(je l.occ.mat).length+ah (je l.occ.mat)<=1048576:=by
  simp only [f8,ab,dN] at va;unfold je;omega
 have Br:l.occ.mat.length+ah (je l.occ.mat)<=1048576:=by rw [xx] at rY;exact rY
 have cM:=Zrm bW (dt.ok hg _ e.l (Tan _) qq.form) (uE qq) ktk kbk yi rY
 cases h1:(mE m.sig t l.occ).2 with
 | false =>
  exact m209
 | true =>
 refine bz 5 @ae (aj4 @es @eb @cw @ae) (cM) ?_
 cases h2:rD m.sig e.l (mE m.sig t l.occ).1 l.occ.mat with
 | false =>
  rw [Da xd he fun h=>by rw [h2] at h;cases h.2.1];exact xl
 | true =>
 have w3:IntKind.i64.wrap (2 * (e.cs.length:Int))=((2 * e.cs.length:Nat):Int):=dI om om om;have rC:=Zix l.conds;have lC:=ZfU l.conds;have ll:(e.cs.map lv).length=e.cs.length:=Tay _;by_cases h3:l.conds.length=2 * e.cs.length;rotate_left
 ·exact m124
 refine dT (aj6 @lC @ll @w3 (eq_true om:((l.conds.length:Int)=((2 * e.cs.length:Nat):Int))=True) @cw @ae) (aj3 @ll @cw @ae) ?_;have F:=@ae;refine gL (ι:=Nat) [7,11,12,13,14,15,16,17,81,170] [] (fun k=>[(11,A.d (.one (.lit (.int .i64 k))))]) (fun k=>[]) (fun k=>k<=e.cs.length∧Av m.sig l.occ.mat e.cs l.conds (l.conds.map (ji m)) k) (fun k=>e.cs.length - k) (0) (⟨Taj _,fun j c hj=>absurd hj om⟩) (fun k hk=>?_)
 obtain ⟨hk,hct⟩:=hk;by_cases eX:k < e.cs.length;rotate_left
 ·obtain rfl:k=e.cs.length:=by omega
  have cA:=Zf8 bW yi Br (dt.ok hg _ e.r (Tan _) DT.form) (uE DT);rw [Zq0 xd he h1 h2 h3 hct.all];refine fN 15 (aj4 (lF e.cs.length e.cs.length) @ll @cw @ae) ?_;refine A4 13 12 14 ?_;refine fC (aj4 @es @eb @cw @ae) (cA) ?_;refine fR (ai @cw @ae) ?_
  cases h4:aS m.sig l.occ.mat e.r with
  | none =>
   rw [Option.bind_none];exact fD (aj4 @z5 @z6 @hz @ae)
  | some u =>
   have hTu:=ZrV h4;rw [Option.bind_some];refine bz 18 (aj3 @z7 @z8 @ae) (aj4 @es @z8 @eo @ae) ((Zyw bW rh Bq (dt.ok hg _ u (Tan _) hTu.form) (uE hTu) vp va)) ?_;exact bK @ae @ae
 have q6:=lT k e.cs.length;obtain ⟨c,hc⟩:∃ c,e.cs[k]?=some c:=⟨_,Taa eX⟩;obtain ⟨x,hx⟩:∃ x,l.conds[2 * k]?=some x:=⟨_,Taa om⟩;obtain ⟨y,hy⟩:∃ y,l.conds[2 * k+1]?=some y:=⟨_,Taa om⟩;obtain ⟨jQ,nM⟩:=Bt c (Tac hc);have hox:=BM x (Tac hx);have hoy:=BM y (Tac hy);obtain ⟨hxf,hxt,_⟩:=zi.1 hox;obtain ⟨hyf,hyt,_⟩:=zi.1 hoy;have na:=bI (k:=k) om;have w4:IntKind.i64.wrap (2 * (k:Int))=((2 * k:Nat):Int):=dI om om om
 have w5:IntKind.i64.wrap (((2 * k:Nat):Int)+1)=((2 * k+1:Nat):Int):=dI om om om;have hlx:2 * k < l.conds.length:=om;have hly:2 * k+1 < l.conds.length:=om;have cX:=Zf8 bW yi Br (dt.ok hg _ c.1 (Tan _) jQ.form) (uE jQ);have cY:=Zf8 bW yi Br (dt.ok hg _ c.2 (Tan _) nM.form) (uE nM);refine fN 10 (aj4 @q6 @ll @cw @ae) ?_;refine A4 17 16 18 ?_;have bF:=aj8 @es @eb @hc @eX @ll @bD @cw @ae;refine fC bF (cX) ?_
 refine fR @ae ?_;refine fN 11 @ae ?_;refine A4 17 16 18 ?_;refine fC bF (cY) ?_;refine fR @ae ?_;refine fN 12 @ae ?_
 /- gk Cc -/
 refine gGk [(15,.d (.one (.lit (.bool (aS m.sig l.occ.mat c.2).isSome)))),(14,.ref 14 0),(13,.d (.one (.lit (.bool (aS m.sig l.occ.mat c.1).isSome)))),(12,.ref 12 0),(81,.d (.one (.lit (.bool true)))),(11,.d (.one (.lit (.int .i64 (k:Int))))),(75,.d (.one (.lit (.bool false)))),(10,.d (.one (.lit (.bool true)))),(9,.ref 9 0),(29,.d (.one (.lit (.bool false)))),(6,.ref 6 0),(5,.ref 5 0),(4,.ref 4 0),(0,.d (.one (.ptr [.sl (m.sig.sorts.names.map kj),.sl (m.sig.sorts.subs.map kU),.sl (m.sig.ops.map fU),.sl (m.eqs.map dy),.sl (m.rules.map dy)]))),(1,.d (.agg (an t))),(2,.d (.agg [.lit (.int .i64 l.idx),.sl (l.occ.path.map d7),.sl (aq l.occ.left),.sl (aq l.occ.right),.sl (l.occ.mat.map fS),.sl (jL l.conds)])),(8,.ref 8 0)] [(14,.var none (an ((aS m.sig l.occ.mat c.2).getD ck))),(12,.var none (an ((aS m.sig l.occ.mat c.1).getD ck))),(9,.var none (an (mE m.sig t l.occ).1)),(6,.var none [.lit (.int .i64 0),.lit (.string ByteArray.empty),.lit (.int .i64 0),.sl []]),(5,.var none [.lit (.int .i64 l.idx),.sl (l.occ.path.map d7),.sl (aq l.occ.left),.sl (aq l.occ.right),.sl (l.occ.mat.map fS),.sl (jL l.conds)]),(4,.var none (an t)),(8,.var none (dy e))] [([(118,.ref 5 5)],[]),([(119,.d (.one (.sl (jL l.conds))))],[]),([(120,.d (.one (.lit (.int .i64 (k:Int)))))],[]),([(121,.d (.one (.lit (.int .i64 ((2 * k:Nat):Int)))))],[]),([(122,.d (.one (.ptr (dx x))))],[]),([(123,.d (.agg (dx x)))],[]),([(124,.ref 5 5)],[]),([(125,.d (.one (.sl (jL l.conds))))],[]),([(126,.d (.one (.lit (.int .i64 (k:Int)))))],[]),([(127,.d (.one (.lit (.int .i64 ((2 * k:Nat):Int)))))],[]),([(128,.d (.one (.lit (.int .i64 ((2 * k+1:Nat):Int)))))],[]),([(129,.d (.one (.ptr (dx y))))],[]),([(130,.d (.agg (dx y)))],[]),([(16,.ref 16 0)],[(16,.var none [.lit (.int .i64 0),.lit (.string ByteArray.empty),.lit (.int .i64 0),.sl [],.lit (.int .i64 0),.lit (.string ByteArray.empty),.lit (.int .i64 0),.sl [],.sl []])]),([(17,.ref 17 0)],[(17,.var none [.lit (.int .i64 0),.lit (.string ByteArray.empty),.lit (.int .i64 0),.sl [],.lit (.int .i64 0),.lit (.string ByteArray.empty),.lit (.int .i64 0),.sl [],.sl []])]),([(16,.ref 16 0)],[(16,.var none (dx x))]),([(17,.ref 17 0)],[(17,.var none (dx y))])] (fun j=>([(13,15),(14,16)]:List (Nat × Nat)).lookup j) [] (⟨by simp [gs],by simp [gm]⟩) (fun j hj=>by simp at hj) ⟨?_,?_,?_,?_,?_,?_,?_,?_,?_,?_,?_,?_,?_,?_,?_,?_,?_,trivial⟩ ?_
 iterate 17 (focus
  intro s' m' hB hD hI hJ;have F:=qF.1 hB
  try have F:=ai F (cZ.1 (hD 0 (by decide) (by first | exact .inl rfl | exact .inr rfl)))
  try have F:=ai F (cZ.1 (hD 1 (by decide) (by first | exact .inl rfl | exact .inr rfl)))
  try have F:=ai F (cZ.1 (hD 2 (by decide) (by first | exact .inl rfl | exact .inr rfl)))
  try have F:=ai F (cZ.1 (hD 3 (by decide) (by first | exact .inl rfl | exact .inr rfl)))
  try have F:=ai F (cZ.1 (hD 4 (by decide) (by first | exact .inl rfl | exact .inr rfl)))
  try have F:=ai F (cZ.1 (hD 5 (by decide) (by first | exact .inl rfl | exact .inr rfl)))
  try have F:=ai F (cZ.1 (hD 6 (by decide) (by first | exact .inl rfl | exact .inr rfl)))
  try have F:=ai F (cZ.1 (hD 7 (by decide) (by first | exact .inl rfl | exact .inr rfl)))
  try have F:=ai F (cZ.1 (hD 8 (by decide) (by first | exact .inl rfl | exact .inr rfl)))
  try have F:=ai F (cZ.1 (hD 9 (by decide) (by first | exact .inl rfl | exact .inr rfl)))
  try have F:=ai F (cZ.1 (hD 10 (by decide) (by first | exact .inl rfl | exact .inr rfl)))
  try have F:=ai F (cZ.1 (hD 11 (by decide) (by first | exact .inl rfl | exact .inr rfl)))
  try have F:=ai F (cZ.1 (hD 12 (by decide) (by first | exact .inl rfl | exact .inr rfl)))
  try have F:=ai F (cZ.1 (hD 13 (by decide) (by first | exact .inl rfl | exact .inr rfl)))
  try have F:=ai F (cZ.1 (hD 14 (by decide) (by first | exact .inl rfl | exact .inr rfl)))
  simp only [kJ,kI,List.getD_cons_zero,List.getD_cons_succ,and_true,true_and] at F;have F:=aj11 F w4 w5 hx hy lC hlx hly @bD dG ae;refine bT ?_
  first | exact kS hB (cZ.2 (by simp [kJ,kI,gs,gm])) | exact kM hB (cZ.2 (by simp [kJ,kI,gs,gm,F])) | exact kB hB (cZ.2 (by simp [kJ,kI,gs,gm])))
 intro s' m' hB hP;refine ⟨_,_,(hB.app (hP 15 (.inl (by decide)) (fun k h=>by simp [List.lookup] at h))).app (hP 16 (.inl (by decide)) (fun k h=>by simp [List.lookup] at h)),?_⟩;simp only [Taf,Tah,List.append_nil,List.getD_cons_zero,List.getD_cons_succ]
 /- gk end Cc -/
 refine ⟨_,Wk.refl _,?_⟩;have cR1:=h x (Tac hx);have cR2:=h y (Tac hy);have fx:(l.conds.map (ji m))[2 * k]?=some (ji m x):=by rw [Tba,hx];rfl
 have fy:(l.conds.map (ji m))[2 * k+1]?=some (ji m y):=by rw [Tba,hy];rfl
 have bC:=fun (q:aS m.sig l.occ.mat c.1=some x.frm->aS m.sig l.occ.mat c.2=some y.frm->x.to=y.to->(l.conds.map (ji m))[2 * k]?=some true->(l.conds.map (ji m))[2 * k+1]?=some true->False)=>Da (t:=t) (o:=l.occ) (fl:=l.conds.map (ji m)) xd he fun h=>xO.not hc hx hy q h.2.2.2;rw [fx,fy] at bC
 cases h5:aS m.sig l.occ.mat c.1 with
 | none =>
  exact m219
 | some u1 =>
 cases h6:aS m.sig l.occ.mat c.2 with
 | none =>
  exact m207
 | some u2 =>
 have oH:=dt.ok hg _ u2 (Tan _) (ZrV h6).form;have ya:=aj5 @z7 @z8 @dG @sx @ae;refine bz 13 (aj3 @z7 @z8 @ae) ya (tz hxf (dt.ok hg _ u1 (Tan _) (ZrV h5).form)) ?_;by_cases h7:aH x.frm u1=0;rotate_left
 ·exact m292
 rw [decide_eq_true h7];refine fC ya (tz hyf oH) ?_;by_cases h8:aH y.frm u2=0;rotate_left
 ·exact m293
 rw [decide_eq_true h8];refine fC ya (tz hxt hyt) ?_;by_cases h9:aH x.to y.to=0;rotate_left
 ·exact m298
 rw [decide_eq_true h9];refine fC (ai @dG @ae) (cR1) ?_
 cases g1:ji m x with
 | false =>
  rw [bC fun _ _ _ p1 _=>by rw [g1] at p1;cases p1];exact xl
 | true =>
 refine fC (ai @dG @ae) (cR2) ?_
 cases g2:ji m y with
 | false =>
  rw [bC fun _ _ _ _ p1=>by rw [g2] at p1;cases p1];exact xl
 | true =>
 refine fR @ae ?_;have F:=ai @na @ae;refine gG ?_;exact ⟨k+1,⟨eX,(hct.step hc hx hy (by rw [h5,n9.1 h7]) (by rw [h6,n9.1 h8]) (n9.1 h9) (by rw [fx,g1]) (by rw [fy,g2]))⟩,gw,gw,om⟩
end
theorem m261 {p:Prop} (h:p:=by
 refine gG ?_;exact ⟨(i+1,M),⟨ci,by simp only;omega⟩,gw,gw,om⟩):p:=h
theorem m246 {X Y:Prop} (b:Y) (h:Bx Y->X:=by
 intro B0
 obtain ⟨l,hl⟩:∃ l,c.links[i]?=some l:=⟨_,Taa ci⟩;have hlm:=Tac hl;have bm:=Znx hl;have ct:=Zko c.links (i+1);have fh:=Ziz l;have yj:=ip l.conds;exact B0.o l hl hlm bm ct fh yj):X:=h ⟨b⟩
theorem m233 {p:Prop} (h:p:=by
 refine gG ?_;exact ⟨(k+1,M+dF d),⟨eX,by simp only;omega⟩,gw,gw,om⟩):p:=h
theorem m206 {p:Prop} (h:p:=by
 ·have h1:=Zq2 hl;have h2:=Zq1 hd;have h3:=C0 c;have h4:=Ziz l;omega):p:=h
theorem m129 {p:Prop} (h:p:=by
 obtain rfl:i=c.links.length:=by omega
 have q1:=lF c.links.length c.links.length;rw [Tap,<- C0] at hN;rw [<- hN];exact fD (aj3 @q1 @dG @ae)):p:=h
theorem m78 {X Y:Prop} (b:Y) (h:Bx Y->X:=by
 intro B0
 rw [C0] at hs;have bu:c.links.length<=4000000:=by
  have:∀ l:List Lnk,l.length<=lm l:=fun l=>by
   induction l with
   | nil=>simp
   | cons x xs ih=>have:=Ziz x;simp only [Tag,lm];omega
  have:=this c.links;omega
 have ip:∀ l:List Chn,l.length<=lk l:=fun l=>by
  induction l with
  | nil=>simp
  | cons x xs ih=>have:=C0 x;simp only [Tag,lk];omega
 exact B0.o hs bu ip):X:=h ⟨b⟩
mutual
def dF:Chn->Nat
 | .mk _ _ ls=>1+lm ls
def rE:Lnk->Nat
 | .mk _ _ cs=>1+lk cs
def lk:List Chn->Nat
 | []=>0
 | c::cs=>dF c+lk cs
def lm:List Lnk->Nat
 | []=>0
 | l::ls=>rE l+lm ls
end
theorem C0 (c:Chn):dF c=1+lm c.links:=by obtain ⟨a,b,l⟩:=c;simp only [dF,Chn.links]
theorem Ziz (l:Lnk):rE l=1+lk l.conds:=by obtain ⟨a,b,c⟩:=l;simp only [rE,Lnk.conds]
theorem ZlF:∀ (a b:List Chn),lk (a++b)=lk a+lk b
 | [],b=>by simp only [Tah,lk];omega
 | c::a,b=>by simp only [Taf,lk,ZlF a b];omega
theorem ZlG:∀ (a b:List Lnk),lm (a++b)=lm a+lm b
 | [],b=>by simp only [Tah,lm];omega
 | c::a,b=>by simp only [Taf,lm,ZlG a b];omega
theorem Znw {l:List Chn} {i:Nat} {x:Chn} (h:l[i]?=some x):lk (l.take (i+1))=lk (l.take i)+dF x:=by rw [List.take_add_one,h,ZlF];simp only [Option.toList,lk];omega
theorem Znx {l:List Lnk} {i:Nat} {x:Lnk} (h:l[i]?=some x):lm (l.take (i+1))=lm (l.take i)+rE x:=by rw [List.take_add_one,h,ZlG];simp only [Option.toList,lm];omega
theorem Zkn (l:List Chn) (i:Nat):lk (l.take i)<=lk l:=by
 have:=ZlF (l.take i) (l.drop i);exact Cz
theorem Zko (l:List Lnk) (i:Nat):lm (l.take i)<=lm l:=by
 have:=ZlG (l.take i) (l.drop i);exact Cz
theorem Zq1 {l:List Chn} {x:Chn} (h:x∈l):dF x<=lk l:=by
 refine pX fun i hi=>?_;have:=Znw hi;have:=Zkn l (i+1);omega
theorem Zq2 {l:List Lnk} {x:Lnk} (h:x∈l):rE x<=lm l:=by
 refine pX fun i hi=>?_;have:=Znx hi;have:=Zko l (i+1);omega
mutual
theorem ZlH:∀ c:Chn,dF c<=1+ab (dx c)
 | .mk a b ls=>by
  have h:=ZoZ ls;have h2:=Az (.mk a b ls);simp only [Chn.links] at h2;simp only [dF];omega
theorem ZCR:∀ l:Lnk,rE l<=1+ab (mh l)
 | .mk i o cs=>by
  have h:=ZoY cs;have h2:=Dg (.mk i o cs);simp only [Lnk.conds] at h2;simp only [rE];omega
theorem ZoY:∀ l:List Chn,lk l<=l.length+ah (jL l)
 | []=>by simp [lk]
 | c::cs=>by
  have h1:=ZlH c;have h2:=ZoY cs;simp only [lk,jL,ah,Tag];omega
theorem ZoZ:∀ l:List Lnk,lm l<=l.length+ah (mS l)
 | []=>by simp [lm]
 | c::cs=>by
  have h1:=ZCR c;have h2:=ZoZ cs;simp only [lm,mS,ah,Tag];omega
end
theorem Zu9 (c:Chn) (hs:dF c<=4000000) (h:∀ l∈c.links,∀ d∈l.conds,az e0 104 [.agg (dx d)] [.one (.lit (.int .i64 (dF d:Int)))]):az e0 104 [.agg (dx c)] [.one (.lit (.int .i64 (dF c:Int)))]:=by
 refine m78 fun hs bu ip=>?_
 refine gI (ts:=[.slot 2]) 3940015 Tryz.func104 ?_;refine fG (ai @dG @ae) ?_;have F:=ai @Int.natCast_one @ae;refine gL (ι:=Nat × Nat) [3,5,7,11,12,18,19,20,21] [] (fun x=>[(11,A.d (.one (.lit (.int .i64 x.1)))),(3,A.d (.one (.lit (.int .i64 x.2))))]) (fun x=>[]) (fun x=>x.1<=c.links.length∧x.2=1+lm (c.links.take x.1)) (fun x=>c.links.length - x.1) ((0,1)) (⟨Taj _,by simp [lm]⟩) (fun x hx=>?_)
 obtain ⟨i,N⟩:=x;obtain ⟨hi,hN⟩:=hx;simp only at hi hN;dsimp only;by_cases ci:i < c.links.length;rotate_left
 ·exact m129
 have q1:=lT i c.links.length;refine m246 fun l hl hlm bm ct fh yj=>?_;have dZ:=bI (k:=i) om;refine fG (aj8 @q1 @hl @ci @bD @dG (wC l) (bI (k:=N) om) @ae) ?_;have F:=@ae;refine gL (ι:=Nat × Nat) [3,7,20,21] [] (fun y=>[(20,A.d (.one (.lit (.int .i64 y.1)))),(3,A.d (.one (.lit (.int .i64 y.2))))]) (fun y=>[]) (fun y=>y.1<=l.conds.length∧y.2=N+1+lk (l.conds.take y.1)) (fun y=>l.conds.length - y.1) ((0,N+1)) (⟨Taj _,by simp [lk]⟩) (fun y hy=>?_)
 obtain ⟨k,M⟩:=y;obtain ⟨hk,hM⟩:=hy;simp only at hk hM;dsimp only;by_cases eX:k < l.conds.length;rotate_left
 ·obtain rfl:k=l.conds.length:=by omega
  have q2:=lF l.conds.length l.conds.length;rw [Tap] at hM;have F:=aj3 @q2 @dZ @ae;exact m261
 have q2:=lT k l.conds.length;obtain ⟨d,hd⟩:∃ d,l.conds[k]?=some d:=⟨_,Taa eX⟩;have xi:=Znw hd;have hs3:=Zkn l.conds (k+1);have w2:IntKind.i64.wrap ((M:Int)+(dF d:Int))=((M+dF d:Nat):Int):=dI om om om;refine bw 9 (aj6 @q2 @hd @eX @bD @dG @ae) (ai @dG @ae) ((h l hlm d (Tac hd))) (ai @w2 @ae) ?_;have F:=ai (bI (k:=k) om) @ae;exact m233
theorem ZyG (n:Nat):∀ c:Chn,d6 (dx c) < n->dF c<=4000000->az e0 104 [.agg (dx c)] [.one (.lit (.int .i64 (dF c:Int)))]:=by
 induction n with
 | zero=>exact fun _ h=>absurd h om
 | succ n ih =>
  intro c hn hs;refine Zu9 c hs fun l hl d hd=>ih d ?_ ?_
  ·have:=Zkl hl;have:=Zkm hd;omega
  exact m206
theorem ZEj (c:Chn) (hb:ab (dx c)<=1048576):az e0 104 [.agg (dx c)] [.one (.lit (.int .i64 (dF c:Int)))]:=ZyG _ c (Tan _) (by have:=ZlH c;omega)
theorem ZGT {left:Int} {a:Nat} (h:0<=sub left a):sub left a - 1=sub left (a+1):=by
 unfold sub at h ⊢;split at h
 ·next h1 =>
  rw [if_pos h1];split <;> omega
 ·omega
theorem ZEk {left:Int} {a b:Nat} (h:0<=sub left a):sub (sub left a) b=sub left (a+b):=by
 unfold sub at h ⊢;split at h
 ·next h1 =>
  rw [if_pos h1];split <;> split <;> omega
 ·omega
theorem Zt1 {left:Int} {a b:Nat} (h:¬ 0<=sub left a) (Bl:a<=b):sub left a=sub left b:=by
 unfold sub at h ⊢;split at h
 ·omega
 ·next h1=>rw [if_neg h1,if_neg om]
theorem Zt2 {left:Int} {a:Nat} (h:0<=left):-1<=sub left a∧sub left a<=left:=by
 unfold sub;split <;> omega
theorem Zva (c:Chn) (hs:dF c<=4000000) {left:Int} (h0:0<=left) (h1:left<=1000000) (h:∀ l∈c.links,∀ d∈l.conds,∀ v:Int,0<=v->v<=1000000->az e0 93 [.agg (dx d),.one (.lit (.int .i64 v))] [.one (.lit (.int .i64 (sub v (dF d))))]):az e0 93 [.agg (dx c),.one (.lit (.int .i64 left))] [.one (.lit (.int .i64 (sub left (dF c))))]:=by
 refine m78 fun hs bu ip=>?_
 have w0:IntKind.i64.wrap (left - 1)=sub left 1:=by
  rw [IntWalk.i64_in _ om];unfold sub;split <;> omega
 refine gI (ts:=[.slot 4]) 17180000375 Tryz.func93 ?_;refine fG (aj3 @w0 @dG @ae) ?_;have F:=@ae;refine gL (ι:=Nat × Nat) [1,5,6,17,34] [] (fun x=>[(5,A.d (.one (.lit (.int .i64 x.1)))),(1,.d (.one (.lit (.int .i64 (sub left x.2)))))]) (fun x=>[]) (fun x=>x.1<=c.links.length∧x.2=1+lm (c.links.take x.1)) (fun x=>c.links.length - x.1) ((0,1)) (⟨Taj _,by simp [lm]⟩) (fun x hx=>?_);obtain ⟨i,N⟩:=x
 obtain ⟨hi,hN⟩:=hx;simp only at hi hN;dsimp only;have hb:=Zt2 (a:=N) h0;by_cases ci:i < c.links.length;rotate_left
 ·exact m129
 have q1:=lT i c.links.length;by_cases hv:0<=sub left N;rotate_left
 ·have ct:=Zko c.links i;have e:sub left (dF c)=sub left N:=(Zt1 hv (by rw [C0];omega)).symm;rw [e];exact fD (aj4 @q1 (eq_false hv:(sub left N ≥ 0)=False) @dG @ae)
 have q3:(sub left N ≥ 0)=True:=eq_true hv;refine m246 fun l hl hlm bm ct fh yj=>?_;have w1:IntKind.i64.wrap (sub left N - 1)=sub left (N+1):=by rw [ZGT hv,IntWalk.i64_in _ (by have:=Zt2 (a:=N+1) h0;omega)]
 have dZ:=bI (k:=i) om;have lu:=wC l;refine fG (aj9 @q1 @q3 @hl @ci @bD @dG @lu @w1 @ae) ?_;have F:=@ae;refine gL (ι:=Nat × Nat) [1,6,34] [] (fun y=>[(6,A.d (.one (.lit (.int .i64 y.1)))),(1,.d (.one (.lit (.int .i64 (sub left y.2)))))]) (fun y=>[]) (fun y=>y.1<=l.conds.length∧y.2=N+1+lk (l.conds.take y.1)) (fun y=>l.conds.length - y.1) ((0,N+1)) (⟨Taj _,by simp [lk]⟩) (fun y hy=>?_)
 obtain ⟨k,M⟩:=y;obtain ⟨hk,hM⟩:=hy;simp only at hk hM;dsimp only;have jC:=Zt2 (a:=M) h0;by_cases eX:k < l.conds.length;rotate_left
 ·obtain rfl:k=l.conds.length:=by omega
  have q2:=lF l.conds.length l.conds.length;rw [Tap] at hM;have F:=aj8 @q2 @dZ @hl @ci @bD @lu @dG @ae;exact m261
 have q2:=lT k l.conds.length;by_cases sX:0<=sub left M;rotate_left
 ·have q4:(sub left M ≥ 0)=False:=eq_false sX;have hle2:=Zkn l.conds k;have e:sub left M=sub left (N+1+lk l.conds):=Zt1 sX om;rw [e] at q4 ⊢;have F:=aj9 @q2 @q4 @dZ @hl @ci @bD @lu @dG @ae;refine gG ?_;exact ⟨(i+1,N+1+lk l.conds),⟨ci,by simp only;omega⟩,gw,gw,om⟩
 have q4:(sub left M ≥ 0)=True:=eq_true sX;obtain ⟨d,hd⟩:∃ d,l.conds[k]?=some d:=⟨_,Taa eX⟩;have xi:=Znw hd;have hs3:=Zkn l.conds (k+1);have na:=bI (k:=k) om;have cD:=h l hlm d (Tac hd) (sub left M) sX om;rw [ZEk sX] at cD;refine bw 9 (aj10 @q2 @q4 @hl @ci @lu @hd @eX @bD @dG @ae) (aj8 @hl @ci @lu @hd @eX @bD @dG @ae) (cD) @ae ?_;have F:=ai @na @ae;exact m233
theorem ZyH (n:Nat):∀ c:Chn,d6 (dx c) < n->dF c<=4000000->∀ left:Int,0<=left->left<=1000000->az e0 93 [.agg (dx c),.one (.lit (.int .i64 left))] [.one (.lit (.int .i64 (sub left (dF c))))]:=by
 induction n with
 | zero=>exact fun _ h=>absurd h om
 | succ n ih =>
  intro c hn hs left h0 h1;refine Zva c hs h0 h1 fun l hl d hd v h2 h3=>ih d ?_ ?_ v h2 h3
  ·have:=Zkl hl;have:=Zkm hd;omega
  exact m206
theorem ZEl (c:Chn) (hb:ab (dx c)<=1048576):az e0 93 [.agg (dx c),.one (.lit (.int .i64 1000))] [.one (.lit (.int .i64 (sub 1000 (dF c))))]:=ZyH _ c (Tan _) (by have:=ZlH c;omega) 1000 om om
theorem m166 {p:Prop} (h:p:=by
 have yi:=Zhb hd;have re:=Zkm hd;have hbl2:=Dg l;exact ih d om ((ZhV.1 mX).2.2 d hd) om):p:=h
noncomputable def dS (m:Mdl) (c:Chn):Bool:=oO m && (decide (dF c<=1000) && ji m c)
section
variable {m:Mdl} {mc:C}
theorem ZmS (hg:SgnOk m.sig) (hm:uI m) (hE:oN m=true) (ox:ab (fV m)<=1048576) (n:Nat):∀ c:Chn,d6 (dx c) < n->pk c->ab (dx c)<=1048576->sw m mc c:=by
 induction n with
 | zero=>exact fun _ h=>absurd h om
 | succ n ih =>
  intro c hn hc hb;have hbc:=Az c;refine Zt0 hg hc hb fun l hl t hT=>?_;have oZ:=Zha hl;have yt:=Zkl hl;have mX:=(zi.1 hc).2.2 l hl;refine ZkC hg hm hE ox mX om hT fun d hd=>?_;exact m166
theorem Zvb {c:Chn} (hm:uI m) (ox:ab (fV m)<=1048576) (hc:pk c) (hb:ab (dx c)<=1048576):az e0 44 [.agg (fV m),.agg (dx c)] [.one (.lit (.bool (dS m c)))]:=by
 have es:bN m.sig=[.sl (m.sig.sorts.names.map kj),.sl (m.sig.sorts.subs.map kU),.sl (m.sig.ops.map fU)]:=rfl;have er:=wB;have cS:=ZEj c hb;by_cases hg:SgnOk m.sig;rotate_left
 ·rw [(by simp [dS,oO,C6 hg]:dS m c=false)];simp only [fV.eq_1];refine gI (ts:=[.slot 4]) 127 Tryz.func44 ?_;refine bz 1 (ai @dG @ae) (ai @es @ae) ((Zjq hm.1 hg)) ?_;exact bK @ae @ae
 have hs:=v8 hg;simp only [fV.eq_1];refine gI (ts:=[.slot 4]) 127 Tryz.func44 ?_;refine nJ 1 (ai @dG @ae) ?_;have F:=ai @es @ae;refine gCE ((Zmz hm.1 hg)) ?_;rintro r ⟨b0,rfl⟩;have cH:=ZCO (mc:=.lit (.map (some b0))) hg hm ox;have cR:=fun hE=>ZmS (mc:=.lit (.map (some b0))) hg hm hE ox _ c (Tan _) hc hb;generalize C.lit (.map (some b0))=mc at cH cR ⊢;unfold sw at cR
 simp only [fV.eq_1] at cH cR;refine fR (ai @ZBw @aI.eq_1) ?_;refine bz 2 @ae @ae (cH) ?_
 cases h1:oN m with
 | false =>
  rw [(by simp [dS,oO,h1]:dS m c=false)];exact bK @ae @ae
 | true =>
 refine fC (ai @dG @ae) (cS) ?_;by_cases h2:dF c<=1000;rotate_left
 ·rw [(by simp [dS,h2]:dS m c=false)];exact bK (ai (eq_false om:((dF c:Int)<=1000)=False) @ae) @ae
 rw [(by simp [dS,oO,hs,h1,h2]:dS m c=ji m c)];refine fC (aj3 (eq_true om:((dF c:Int)<=1000)=True) @dG @ae) (cR h1) ?_;exact bK @ae @ae
end
section
variable {m:Mdl}
theorem Zq3 (hg:SgnOk m.sig) (hm:uI m) (hE:oN m=true) (ox:ab (fV m)<=1048576) (n:Nat):∀ c:Chn,d6 (dx c) < n->pk c->ab (dx c)<=1048576->sv m c:=by
 induction n with
 | zero=>exact fun _ h=>absurd h om
 | succ n ih =>
  intro c hn hc hb;have hbc:=Az c;refine ZyF hg hm.1 hc hb fun l hl t hT=>?_;have oZ:=Zha hl;have yt:=Zkl hl;have mX:=(zi.1 hc).2.2 l hl;refine ZmR hg hm hE ox mX om hT fun d hd=>?_;exact m166
theorem Zvc {c:Chn} (hm:uI m) (ox:ab (fV m)<=1048576) (hc:pk c) (hb:ab (dx c)<=1048576):az e0 39 [.agg (fV m),.agg (dx c)] [.one (.lit (.bool (dS m c)))]:=by
 have er:=wB;have cL:=ZEl c hb;have cM:=Zu8 hm ox;have cR:=fun hg hE=>Zq3 hg hm hE ox _ c (Tan _) hc hb;unfold sv at cR;simp only [fV.eq_1] at cM cR ⊢;refine gI (ts:=[.slot 4]) 31 Tryz.func39 ?_;refine bz 1 (ai @dG @ae) @ae (cM) ?_
 cases h1:oO m with
 | false =>
  rw [(by simp [dS,h1]:dS m c=false)];exact bK @ae @ae
 | true =>
 refine fC (ai @dG @ae) (cL) ?_;by_cases h2:dF c<=1000;rotate_left
 ·rw [(by simp [dS,h2]:dS m c=false)];exact bK (ai (eq_false (by rw [iK om];omega):(sub 1000 (dF c) ≥ 0)=False) @ae) @ae
 have q2:(sub 1000 (dF c) ≥ 0)=True:=eq_true (by rw [gW om];omega);have d5:=h1;simp only [oO,Tar] at d5;rw [(by simp [dS,h1,h2]:dS m c=ji m c)];refine fC (aj3 @q2 @dG @ae) (cR (tE.1 d5.1) d5.2) ?_;exact bK @ae @ae
end
theorem Zo0 {w:World}:∀ (us:List (List Value)),br w (us.map aM) (fun _=>False) us
 | []=>trivial
 | u::us=>⟨fun _=>False,fun _=>False,fun _ h=>h,fun _ h=>h,fun _ h _=>h,by
  induction u with
  | nil=>exact aT.nil
  | cons x u ih=>exact ⟨fun _=>False,fun _=>False,fun _ h=>h,fun _ h=>h,fun _ h _=>h,by simp [aU],ih⟩,Zo0 us⟩
theorem ZGV {a:Option Addr} {cap ety sz:Nat} {rows:List (List C)} {us:List (List Value)} (h:rows=us.map aM):∃ E:Nat->Prop,eS [.buf (some (a,cap)) ety sz rows] [.set E (fun w=>aU w (.sl rows) E (.slice a rows.length cap))]:=by
 subst h;rw [Tay];refine ⟨fun b=>aP (.slice a us.length cap)=some b∨False,fun w S h ha=>?_⟩;obtain ⟨h1,h2,h3⟩:=ZbG (a:=a) (cap:=cap) (ety:=ety) (sz:=sz) (uss:=us) (rows:=us.map aM) (E:=fun _=>False) (G':=fun w=>aU w (.sl (us.map aM)) (fun b=>aP (.slice a us.length cap)=some b∨False) (.slice a us.length cap)) (fun w h=>h) (aU.stable _ _ _) w S (fun x hx=>by
  refine xm fun hx=>?_;rcases hx with rfl | rfl
  ·exact h _ (by simp)
  ·exact ⟨fun b hb=>hb.elim,Zo0 us,br.stable _ _ _⟩) (Zxj fun g _ hg=>hg)
 refine ⟨h1,h2,fun g hg=>?_⟩;obtain ⟨x,hx,hg⟩:=h3 g hg;refine xm fun hx=>?_;rcases hx with rfl | rfl
 ·exact ⟨_,Tas,hg⟩
 ·exact hg.elim
section
variable {m:Mdl} {mc:C}
noncomputable def pt (m:Mdl) (ls:List Lnk) (t:Tm):Nat->Tm
 | 0=>t
 | i+1=>match ls[i]? with
  | some l=>(rT m l (pt m ls t i)).getD ck
  | none=>ck
noncomputable def oU (m:Mdl) (c:Chn) (i:Nat):List Tm:=(List.range (i+1)).map (pt m c.links c.frm)
noncomputable def pr (m:Mdl) (c:Chn):List Tm:=if dS m c=true then oU m c c.links.length else []
theorem ZF0 (m:Mdl) (c:Chn):oU m c 0=[c.frm]:=rfl
theorem Zt3 (m:Mdl) (c:Chn) (i:Nat):oU m c (i+1)=oU m c i++[pt m c.links c.frm (i+1)]:=by
 unfold oU;rw [List.range_succ (n:=i+1),Tbv];rfl
theorem Zxv (m:Mdl) (c:Chn) (i:Nat):(oU m c i).length=i+1:=by simp [oU]
def jH (m:Mdl) (c:Chn) (i:Nat):Prop:=TermOk m.sig (pt m c.links c.frm i)∧(qT m (c.links.drop i) (pt m c.links c.frm i)).isSome=true
theorem jH.start {c:Chn} (h:dS m c=true):jH m c 0:=by
 simp only [dS,Tar,ZlD] at h;obtain ⟨_,_,h1,h2⟩:=h;refine ⟨mP.1 h1,?_⟩;simp only [List.drop_zero,pt]
 cases hg:qT m c.links c.frm with
 | none=>rw [hg] at h2;cases h2
 | some u=>rfl
theorem jH.next {c:Chn} {i:Nat} {l:Lnk} (h:jH m c i) (hl:c.links[i]?=some l):∃ u,rT m l (pt m c.links c.frm i)=some u∧pt m c.links c.frm (i+1)=u∧jH m c (i+1):=by
 obtain ⟨h1,h2⟩:=h;rw [ZtR hl] at h2
 cases hk:rT m l (pt m c.links c.frm i) with
 | none=>rw [hk] at h2;cases h2
 | some u =>
  have e:pt m c.links c.frm (i+1)=u:=by simp only [pt,hl,hk,Option.getD_some]
  refine ⟨u,rfl,e,?_⟩;unfold jH;rw [e];rw [hk] at h2;exact ⟨Znt hk,h2⟩
theorem jH.all {c:Chn} (h:dS m c=true) (i:Nat) (hi:i<=c.links.length):jH m c i:=by
 induction i with
 | zero=>exact jH.start h
 | succ i ih =>
  obtain ⟨l,hl⟩:∃ l,c.links[i]?=some l:=⟨_,Taa om⟩;obtain ⟨u,_,_,h3⟩:=(ih om).next hl;exact h3
theorem Zt4 (c:Chn):c.links.length<=dF c:=by
 rw [C0];have:∀ ls:List Lnk,ls.length<=lm ls:=by
  intro ls
  induction ls with
  | nil=>simp
  | cons l ls ih=>simp only [lm,Tag,Ziz];omega
 have:=this c.links;omega
theorem ZCS {c:Chn} {t:Tm} (h:t∈pr m c):TermOk m.sig t:=by
 unfold pr at h;by_cases hc:dS m c=true
 ·rw [if_pos hc] at h;simp only [oU,Tbi,List.mem_range] at h;obtain ⟨i,hi,rfl⟩:=h;exact (jH.all hc i om).1
 ·rw [if_neg hc] at h;cases h
theorem ZH6 {c:Chn}:b9 (pr m c):=by
 by_cases hc:dS m c=true
 ·have h1:=hc;simp only [dS,oO,Tar] at h1;exact Zlm.2 fun t ht=>dt.ok (tE.1 h1.1.1) _ t (Tan _) (ZCS ht).form
 ·rw [pr,if_neg hc];simp only [b9]
theorem ZHJ {c:Chn}:(aq (pr m c)).length+ah (aq (pr m c))<=1048576:=by
 have hl:(pr m c).length<=1001:=by
  unfold pr;split
  ·rename_i hc;simp only [dS,Tar,decide_eq_true_eq] at hc;have:=Zt4 c;rw [Zxv];omega
  ·exact Taj _
 have h:∀ (l:List Tm),(∀ t∈l,TermOk m.sig t)->ah (aq l)<=1000 * l.length:=by
  intro l
  induction l with
  | nil=>intro _;simp [aq,ah]
  | cons t l ih =>
   intro h;have h1:=ih fun x hx=>h x (Tal _ hx);have h2:=ZiQ (h t Tas).form;have h3:=(h t Tas).size;simp only [aq,ah,Tag];omega
 have:=h (pr m c) fun t ht=>ZCS ht;rw [bf];omega
theorem ZyJ {c:Chn} (hm:uI m) (hc:pk c) (ox:ab (fV m)<=1048576) (hb:ab (dx c)<=1048576):az e0 8 [.agg (fV m),.agg (dx c)] [.one (.sl (aq (pr m c)))]:=by
 have cC:=Zvc hm ox hc hb;have hbc:=Az c;have er:=wB;have cY:=zf c.frm om;simp only [fV.eq_1] at cC ⊢;refine gI (ts:=[.slot 4]) 8390911 Tryz.func8 ?_;refine bz 1 (ai @dG @ae) (ai @dG @ae) (cC) ?_
 cases h1:dS m c with
 | false =>
  rw [(by unfold pr;rw [if_neg (by rw [h1];simp)]:pr m c=[]),Zjg];refine dT @ae @ae ?_;have F:=@ae;refine gG ?_;exact uV [4]
 | true =>
 have e:pr m c=oU m c c.links.length:=if_pos h1;rw [e];have d5:=h1;simp only [dS,oO,Tar,decide_eq_true_eq] at d5;have hg:=tE.1 d5.1.1;have hn:c.links.length<=1000:=Tbe (Zt4 c) d5.2.1;have cL:∀ l∈c.links,∀ t,TermOk m.sig t->sr m l t:=fun l hl t hT=>by
  have oZ:=Zha hl;have mX:=(zi.1 hc).2.2 l hl;refine ZmR hg hm d5.1.2 ox mX om hT fun d hd=>?_;have yi:=Zhb hd;have hbl2:=Dg l;exact Zq3 hg hm d5.1.2 ox _ d (Tan _) ((ZhV.1 mX).2.2 d hd) om
 unfold sr at cL;simp only [fV.eq_1] at cL;refine fR @ae ?_;refine bz 3 (ai @dG @ae) (aj3 @dG @sx @ae) (cY) ?_;have F:=aj3 @zp @ZrP @ae;refine gBs ?_;refine dT @ae (ai @dG @ae) ?_;refine rI (wm [2] (by simp only [pz,↓reduceIte,Nat.reduceEqDiff,Nat.reduceAdd,Nat.reduceSub,Nat.reduceMul,Nat.reduceLeDiff,Nat.reduceBEq,Tam,decide_true,decide_false,Int.reduceLE,Int.reduceToNat,Int.reduceLT,Int.reduceEq,eq_self,Nat.reduceShiftRight,Nat.reduceAnd,Nat.reduceBneDiff,ae];exact rfl)) fun σ' hσ=>?_
 subst hσ;have F:=aj6 @ZF0 @pt.eq_1 @wb @sx @dG @ae;refine gL (ι:=Nat) [5,7,23] [5,6] (fun x=>[(7,A.d (.one (.lit (.int .i64 x)))),(5,.buf 5)]) (fun x=>[(6,.var none (an (pt m c.links c.frm x))),(5,.buf none 53 4 (aq (oU m c x)))]) (fun x=>x<=c.links.length) (fun x=>c.links.length - x) (0) (Taj _) (fun x hx=>?_);by_cases ci:x < c.links.length;rotate_left
 ·obtain rfl:x=c.links.length:=by omega
  have F:=aj3 (lF c.links.length c.links.length) @dG @ae;refine gG ?_;exact uV [4]
 have q1:=lT x c.links.length;obtain ⟨l,hl⟩:∃ l,c.links[x]?=some l:=⟨_,Taa ci⟩;obtain ⟨u,hk,hu,aj⟩:=(jH.all h1 x hx).next hl;have cF:=cL l (Tac hl) _ ((jH.all h1 x hx).1);have dZ:=bI (k:=x) om;have z1:(some u).getD ck=u:=rfl;rw [hk,z1] at cF;have cU:=zf u (uE (hu ▸ aj.1));have bm:=Zt3 m c x;rw [hu] at bm;have ct:=Zxv m c x;generalize oU m c x=L at bm ct ⊢;generalize pt m c.links c.frm x=t at cF hk ⊢
 have dg:L.length+1<=ak:=by unfold ak;omega
 have eb:aq L++[an u]=aq (oU m c (x+1)):=by rw [bm,pf,wb]
 refine fN 8 (aj6 @q1 @hl @ci @bD @dG @ae) ?_;refine gLu 10 9 10 ?_;refine fC (aj5 @hl @ci @bD @dG @ae) (cF) ?_;refine fR @ae ?_;refine nI @ae (cU) ?_;refine fR (aj4 @dg @eb @bf @ae) ?_;have F:=aj3 @dZ @hu @ae;refine gG ?_;exact ⟨x+1,ci,gw,gw,om⟩
theorem Zve {c:Chn} (hm:uI m) (hc:pk c) (ox:ab (fV m)<=1048576) (hb:ab (dx c)<=1048576):aR e0 11 [.agg (fV m),.agg (dx c)] [] (kQ (aq (pr m c))):=by
 have cC:=Zvb hm ox hc hb;have hbc:=Az c;have er:=wB;have es:bN m.sig=[.sl (m.sig.sorts.names.map kj),.sl (m.sig.sorts.subs.map kU),.sl (m.sig.ops.map fU)]:=rfl;simp only [fV.eq_1] at cC ⊢;refine dK (ts:=[.slot 4]) [] 4026549695 Tryz.func11 ?_;refine bz 1 (ai @dG @ae) (ai @dG @ae) (cC) ?_
 cases h1:dS m c with
 | false =>
  rw [(by unfold pr;rw [if_neg (by rw [h1];simp)]:pr m c=[]),ww];refine dT @ae @ae ?_;refine pS 4 (fun a cap=>?_);obtain ⟨E9,dp⟩:=ZGV (a:=a) (cap:=cap) (ety:=53) (sz:=4) (rows:=[]) (us:=[]) rfl;refine pE [4] [4] dp ?_;exact (have F:=hm;eU (R:=kQ []) [4] ⟨_,E9,rfl,rfl,rfl⟩)
 | true =>
 have e:pr m c=oU m c c.links.length:=if_pos h1;rw [e];have d5:=h1;simp only [dS,oO,Tar,decide_eq_true_eq] at d5;have hg:=tE.1 d5.1.1;have hn:c.links.length<=1000:=Tbe (Zt4 c) d5.2.1;have cY:=Zil c.frm om;refine fR @ae ?_;refine nJ 3 (ai @dG @ae) ?_;have F:=ai @es @ae;refine gCE ((Zmz hm.1 hg)) ?_;rintro r ⟨b0,rfl⟩;have cL:∀ l∈c.links,∀ t,TermOk m.sig t->sq m (.lit (.map (some b0))) l t:=fun l hl t hT=>by
  have oZ:=Zha hl;have mX:=(zi.1 hc).2.2 l hl;refine ZkC hg hm d5.1.2 ox mX om hT fun d hd=>?_;have yi:=Zhb hd;have hbl2:=Dg l;exact ZmS hg hm d5.1.2 ox _ d (Tan _) ((ZhV.1 mX).2.2 d hd) om
 generalize C.lit (.map (some b0))=mc at cL ⊢;unfold sq at cL;simp only [fV.eq_1] at cL;refine fR (ai @ZBw @aI.eq_1) ?_;refine nJ 4 (ai @dG @ae) ?_;have F:=aj3 @dG @sx @ae;refine bR [] [1000] (cY) ?_;rintro r pm ⟨us,E,rfl,hu,aj,rfl⟩;rw [zp] at hu;obtain ⟨u0,u1,u2,u3,rfl⟩:=len4 hu;obtain ⟨k0,k1,k2,k3⟩:=vU aj;simp only [pg,aI,bh,aZ,Taf,Tah];have F:=aj5 k0 k1 k2 k3 ae;refine gBs ?_
 refine fR (aj5 @pg @k0 @k1 @k2 @k3) ?_;refine pE [] [1001] Zb8 ?_;refine pE [1001,1000] [1000] (xB (G':=fun w=>br w [an c.frm] (fun b=>False∨E b) [[u0,u1,u2,u3]]) (fun w h1 h2 hd=>br.snoc (rows:=[]) (uss:=[]) h1 h2 (fun _ h=>.inl h) (fun _ h=>.inr h) hd) (br.stable _ _ _)) ?_;generalize (fun b=>False∨E b)=E1;clear hu aj;refine fG (aj7 @pg @k0 @k1 @k2 @k3 @dG @ae) ?_;have F:=aj7 @ZF0 @pt.eq_1 @wb @pg @sx @dG @ae;refine gL (ι:=Nat × List (List Value) × (Nat->Prop)) [7,10,30,31] [7,8,1000] (fun x=>[(30,A.d (.one (.lit (.int .i64 x.1)))),(7,.buf 7)]) (fun x=>[(8,.var none (an (pt m c.links c.frm x.1))),(7,.buf none 53 4 (x.2.1.map aM)),(1000,.set x.2.2 (fun w=>br w (aq (oU m c x.1)) x.2.2 x.2.1))]) (fun x=>x.1<=c.links.length∧x.2.1.length=x.1+1) (fun x=>c.links.length - x.1) ((0,[[u0,u1,u2,u3]],E1)) (⟨Taj _,rfl⟩) (fun x hx=>?_)
 obtain ⟨i,uss,E2⟩:=x;obtain ⟨hi,xe⟩:=hx;simp only at hi xe;dsimp only;by_cases ci:i < c.links.length;rotate_left
 ·obtain rfl:i=c.links.length:=by omega
  refine fG (aj3 (lF c.links.length c.links.length) @dG @ae) ?_;refine pS 4 fun a cap=>?_;refine pE [4,1000] [1000] (ZbG (G':=fun w=>aU w (.sl (aq (oU m c c.links.length))) (fun b=>aP (.slice a uss.length cap)=some b∨E2 b) (.slice a uss.length cap)) (fun w h=>h) (aU.stable _ _ _)) ?_;exact (have F:=hg;eU (R:=kQ (aq (oU m c c.links.length))) [1000] ⟨_,_,rfl,rfl,rfl⟩)
 have q1:=lT i c.links.length;obtain ⟨l,hl⟩:∃ l,c.links[i]?=some l:=⟨_,Taa ci⟩;obtain ⟨u,hk,hu,aj⟩:=(jH.all h1 i hi).next hl;have cF:=cL l (Tac hl) _ ((jH.all h1 i hi).1);have dZ:=bI (k:=i) om;have z1:(some u).getD ck=u:=rfl;rw [hk,z1] at cF;have cU:=Zil u (uE (hu ▸ aj.1));have bm:=Zt3 m c i;rw [hu] at bm;generalize oU m c i=L at bm ⊢;generalize pt m c.links c.frm i=t at cF hk ⊢
 have dg:uss.length+1<=ak:=by unfold ak;omega
 refine bw 9 (aj6 @q1 @hl @ci @bD @dG @ae) (ai @dG @ae) (cF) @ae ?_;refine nJ 10 @ae ?_;have F:=@ae;refine bR [] [1001] (cU) ?_;rintro r pm ⟨us,E3,rfl,hu3,hok3,rfl⟩;rw [zp] at hu3;obtain ⟨v0,v1,v2,v3,rfl⟩:=len4 hu3;obtain ⟨j0,j1,j2,j3⟩:=vU hok3;simp only [pg,aI,bh,aZ,Taf,Tah];refine fR (aj7 @pg @lO @dg @j0 @j1 @j2 @j3) ?_
 refine pE [1000,1001] [1000] (xB (G':=fun w=>br w (aq (oU m c (i+1))) (fun b=>E2 b∨E3 b) (uss++[[v0,v1,v2,v3]])) (fun w h1 h2 hd=>?_) (br.stable _ _ _)) ?_
 ·rw [bm,pf,wb];exact zV
 have F:=aj5 @pg @dZ @hu (@Tbv.{0,0}) @ae;refine gG ?_;exact ⟨(i+1,uss++[[v0,v1,v2,v3]],fun b=>E2 b∨E3 b),⟨ci,by simp [xe]⟩,gw,gw,om⟩
end
theorem m156 {X Y:Prop} (b:Y) (h:Bx Y->X:=by
 intro B0
 refine bR [1100] [1100] (Ziu (lits:=[.one (.lit vg),.one (.sl wr)]) [.set Eg (fun w=>aU w (.sl wr) Eg vg)] cE ⟨.treeS Tas,.same,trivial⟩ rfl rfl) ?_;exact B0.o):X:=h ⟨b⟩
theorem m139 {X Y:Prop} (b:Y) (h:Bx Y->X:=by
 intro B0
 refine bR [1100] [1100] (Ziu (lits:=[.one (.lit vg),.one (.lit (.int .i64 1))]) [.set Fg (fun w=>aU w (.sl (bd 1 wr)) Fg vg)] cH ⟨.treeS Tas,.same,trivial⟩ rfl rfl) ?_;exact B0.o):X:=h ⟨b⟩
theorem Zml {dq:List C} (jV:aV (tv) dq) {dw:List C} (jW:aV (Zab .chain) dw) {wr:List (List C)} (yu:aO (Zab .term) wr) (hBw0:ab dq<=1048576->ab dw<=1048576->(ab dq)+(ab dw)<=1048576->wr.length+ah wr<=1048576) (hsp0:ab dq<=1048576->ab dw<=1048576->(ab dq)+(ab dw)<=1048576->az e0 8 [.agg dq,.agg dw] [.one (.sl wr)]) (him0:ab dq<=1048576->ab dw<=1048576->(ab dq)+(ab dw)<=1048576->aR e0 11 [.agg dq,.agg dw] [] (kQ wr)):az e0 3 [.agg dq,.agg dw] [.one (.lit (.bool true))]:=by
 have okc0:=jV.cells;obtain ⟨len0,tk0,dr0⟩:=jV.take (n:=5) rfl;have okc1:=jW.cells;obtain ⟨len1,tk1,dr1⟩:=jW.take (n:=9) rfl;refine gI 2795057754822148694082863103 Tryz.func3 ?_;have ql:=aj9 @okc0 @len0 @tk0 @dr0 @okc1 @len1 @tk1 @dr1 @uu;refine fG @ql ?_;refine nI @ql (Zua jV (om:(0:Int)<=1048576) (om:(1048576:Int)<=1048576)) ?_;refine fR @ql ?_
 by_cases oY:((ab dq:Nat):Int)<=1048576;rotate_left
 ·have n1:sub 1048576 (ab dq:Nat)=-1:=iK om;exact fT (ai @n1 (om:(-1:Int) < 0))
 have nq:sub 1048576 (ab dq:Nat)=1048576 - ((ab dq:Nat):Nat):=gW om;rw [nq];clear nq;have qn:ab dq<=1048576:=om;have hL1_0:(0:Int)<=1048576 - ((ab dq:Nat):Nat):=om;have hL1_1:(1048576:Int) - ((ab dq:Nat):Nat)<=1048576:=om;generalize hgl0:(1048576:Int) - ((ab dq:Nat):Nat)=L1 at *;have n2:¬ (L1 < 0):=om;refine fG (ai @n2 @ql) ?_;clear n2 oY;refine nI @ql (Zvq jW hL1_0 hL1_1) ?_
 refine fR @ql ?_;by_cases iZ:((ab dw:Nat):Int)<=L1;rotate_left
 ·have n1:sub L1 (ab dw:Nat)=-1:=iK om;exact fT (ai @n1 (om:(-1:Int) < 0))
 have nq:sub L1 (ab dw:Nat)=L1 - ((ab dw:Nat):Nat):=gW om;rw [nq];clear nq;have wX:ab dw<=1048576:=om;have hL2_0:(0:Int)<=L1 - ((ab dw:Nat):Nat):=om;have hL2_1:(L1:Int) - ((ab dw:Nat):Nat)<=1048576:=om;generalize hgl1:(L1:Int) - ((ab dw:Nat):Nat)=L2 at *;have n2:¬ (L2 < 0):=om;refine fG (ai @n2 @ql) ?_;clear n2 iZ;have hBt:(ab dq)+(ab dw)<=1048576:=om
 have him:=him0 qn wX hBt;have hBw:=hBw0 qn wX hBt;have hcw:aa wr<=16 * (wr.length+ah wr):=ZhO _ _ (ZlM _) yu;have cE:=Zjh yu;have cT0:=Zuc jV qn;have cQ0:=Zub jV;have hc0:bB dq<=16 * ab dq:=ZlN _ _ jV;have cT1:=Zvu jW wX;have cP1:=ZlP jW wX;have cQ1:=Zvs jW;have jQ:bB dw<=16 * ab dw:=ZlN _ _ jW
 refine nI @ql (cT0) ?_;refine fC @ql (cT1) ?_;refine fC @ql ((hsp0 qn wX hBt)) ?_;refine iY @ql @ql ?_;have F:=@ql;refine bR [] [1000] ((ZkF jV qn)) ?_;rintro r pm ⟨sm,E0,rfl,gl,cu0,rfl⟩;rw [len0] at gl;obtain ⟨lu0,tu0,du0⟩:=Zt7 gl;refine m7 ?_;have fz1:=aj5 @ql @lu0 @tu0 @du0 @cu0;refine iY @fz1 @fz1 ?_;have F:=@fz1;refine bR [] [1001] (cP1) ?_
 rintro r pm ⟨xo,E1,rfl,uc,cu1,rfl⟩;rw [len1] at uc;obtain ⟨lu1,tu1,du1⟩:=Zt7 uc;refine m7 ?_;have fz2:=aj5 @fz1 @lu1 @tu1 @du1 @cu1;refine iY @fz2 @fz2 ?_;have F:=@fz2;refine bR [1000,1001] [1100,1000,1001] (Zxk (lits:=[.agg (aM sm),.agg (aM xo)]) [.set E0 (fun w=>aT w dq E0 sm),.set E1 (fun w=>aT w dw E1 xo)] him ⟨.tree Tas,.tree (Tal _ Tas),trivial⟩ rfl (fun _ _ h=>kQ.lits h)) ?_
 rintro r pm ⟨q1,⟨vg,Eg,rfl,cug,rfl⟩,rfl⟩;refine m7 ?_;have nK:=ai @fz2 @cug;refine iY @nK @nK ?_;have F:=@nK;refine m156 ?_;rintro r pm ⟨rfl,rfl⟩;refine m7 ?_;refine fR (ai @nK @d8) ?_
 refine bU (ai @nK @d8) @nK (cT0) ?_;have F:=@nK;refine bR [1000] [1000] (Ziu (lits:=[.agg (aM sm),.agg dq]) [.set E0 (fun w=>aT w dq E0 sm)] cQ0 ⟨.tree Tas,.same,trivial⟩ rfl rfl) ?_;rintro r pm ⟨rfl,rfl⟩;refine m7 ?_;refine fR @nK ?_;refine bU @nK @nK (cT1) ?_;have F:=@nK;refine bR [1001] [1001] (Ziu (lits:=[.agg (aM xo),.agg dw]) [.set E1 (fun w=>aT w dw E1 xo)] cQ1 ⟨.tree Tas,.same,trivial⟩ rfl rfl) ?_
 rintro r pm ⟨rfl,rfl⟩;refine m7 ?_;refine iY @nK @nK ?_;have F:=@nK;refine bR [1000] [1000] (ZpP jV (1) E0 sm om cu0 om om) ?_;rintro r pm ⟨F0,rfl,rfl⟩;refine m7 ?_;refine iY @nK @nK ?_;have F:=@nK;refine bR [1001] [1001] (Zrv jW (1+(bB dq:Int)) E1 xo om cu1 om om) ?_;rintro r pm ⟨F1,rfl,rfl⟩
 refine m7 ?_;refine dT @nK @nK ?_;refine gB ?_;have AX:=ai @nK (eq_false om:(1+(bB dq:Int)+(bB dw:Int) < 0)=False);have F:=@AX;refine m156 ?_;rintro r pm ⟨rfl,rfl⟩;refine m7 ?_
 refine iY (ai @AX @d8) (ai @AX @d8) ?_;have F:=@AX;refine bR [1100] [1100] (wg yu 1 Eg vg om om) ?_;rintro r pm ⟨Fg,rfl,rfl⟩;refine m7 ?_;refine dT @AX @AX ?_;have cH:=Zrp yu om 1 om om;refine gB ?_;have AY:=ai @AX (eq_false om:(1+(aa wr:Int) < 0)=False);have F:=@AY;refine m139 ?_
 rintro r pm ⟨rfl,rfl⟩;refine m7 ?_;refine fR @AY ?_;refine bU (ai @AY @d8) @ql (cT0) ?_;refine fC @ql (cT1) ?_;have F:=@AY;refine bR [] [1200] (him) ?_;rintro r pm ⟨vh,Eh,rfl,cuh,rfl⟩;refine m7 ?_;have DL:=ai @AY @cuh;refine iY @DL @DL ?_;have F:=@DL;refine bR [1200] [1200] (Ziu (lits:=[.one (.lit vh),.one (.sl wr)]) [.set Eh (fun w=>aU w (.sl wr) Eh vh)] cE ⟨.treeS Tas,.same,trivial⟩ rfl rfl) ?_
 rintro r pm ⟨rfl,rfl⟩;refine m7 ?_;refine iY (ai @DL @d8) (ai @DL @d8) ?_;have F:=@AY;refine m139 ?_;rintro r pm ⟨rfl,rfl⟩;refine m7 ?_;exact bP @AY (ai @DL @d8)
theorem ZlQ (w:World) (hT:nC w) (dq:List C) (S0:Nat->Prop) (sm:List Value) (jV:aV (tv) dq) (ue:aC w S0 dq sm) (dw:List C) (S1:Nat->Prop) (xo:List Value) (jW:aV (Zab .chain) dw) (sW:aC w S1 dw xo) :
  Calls Tryz.prog 3 #[(.agg sm.toArray:Value),(.agg xo.toArray:Value)] w fun e w'=>e=.returned (.bool true)∧Below w.heap.size w w':=by
 obtain ⟨m,rfl,k0⟩:=ZHH jV;obtain ⟨c,rfl,k1⟩:=ZHb jW
 have hc:=(Zml jV jW (ZjR _ ZH6) (fun b0 b1 bt=>ZHJ) (fun b0 b1 bt=>ZyJ k0 k1 b0 b1) (fun b0 b1 bt=>Zve k0 k1 b0 b1)).2 w (fun b=>b < w.heap.size∧b≠2) [(.agg sm.toArray:Value),(.agg xo.toArray:Value)] (fun b hb=>⟨hb.1,hb.2⟩) (ZG9 hT) hT
  ⟨⟨sm,rfl,aC.off (ZBy hT) _ _ _ jV ue.inside'⟩,⟨xo,rfl,aC.off (ZBy hT) _ _ _ jW sW.inside'⟩,trivial⟩
 refine hc.mono fun e w' ⟨v,h1,h2,h3,h4⟩=>⟨?_,h2.belowT hT h3⟩;have h4:v=.bool true:=by simpa [bh,ax,aW,aQ] using h4
 rw [h1,h4]
end Go.Proofs.YtbecmfjokofihaaGreatDoor
