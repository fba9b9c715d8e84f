/-
  Part of a proof.
-/
import Derived.Test.YtmdkimnlbaahbaaGreatDoorBComposeCard0
import Derived.Test.YtmdkimnlbaahbaaGreatDoorBComposeCard1
import Derived.Test.YtmdkimnlbaahbaaGreatDoorBComposeCard2
import Derived.Test.YtmdkimnlbaahbaaGreatDoorBComposeCard3
import Derived.Test.YtmdkimnlbaahbaaGreatDoorBComposeCard4
import Derived.Shelf.Lays7
import Derived.Test.YtmdkimnlbaahbaaGreatDoorChecked
import Derived.Shelf.Spec.TrailingZeros
import Derived.Shelf.SlSortCmp.WholeK
import Derived.Shelf.SlSortCmp.NoneTotal
import Derived.Lib.QuietBelow
import Derived.Shelf.SlLaysF0
set_option linter.unusedSimpArgs false
set_option linter.unusedVariables false
set_option maxHeartbeats 400000000
set_option maxRecDepth 100000
namespace Go.Proofs.YtmdkimnlbaahbaaGreatDoor
open Go.Shelf
def Zsy:Ren:=⟨fun | 27=>131 | 28=>142 | 29=>143 | n=>n,fun | 25=>102 | 3=>3 | 27=>138 | 22=>140 | 4=>4 | 53=>165 | 0=>0 | 5=>5 | 54=>166 | n=>n,fun | 0=>1 | 1=>2 | n=>n⟩
theorem tzZ:Go.Proofs.Lays7.n27 Tryz.prog Zsy:={
 mixed:=by kernel_rfl,
 f27:=Tryz.func131.trans (congrArg some (by kernel_rfl)),
 f28:=Tryz.func142.trans (congrArg some (by kernel_rfl)),
 f29:=Tryz.func143.trans (congrArg some (by kernel_rfl)),
 t0:=Tryz.underlying0,
 a0:=Tryz.isAgg0,
 z0:=Tryz.sizeOf0,
 v0:=Tryz.zeroValue0,
 i0:=by kernel_rfl,
 t3:=Tryz.underlying3,
 a3:=Tryz.isAgg3,
 z3:=Tryz.sizeOf3,
 v3:=Tryz.zeroValue3,
 i3:=by kernel_rfl,
 t4:=Tryz.underlying4,
 a4:=Tryz.isAgg4,
 z4:=Tryz.sizeOf4,
 v4:=Tryz.zeroValue4,
 i4:=by kernel_rfl,
 t5:=Tryz.underlying5,
 a5:=Tryz.isAgg5,
 z5:=Tryz.sizeOf5,
 v5:=Tryz.zeroValue5,
 i5:=by kernel_rfl,
 t22:=Tryz.underlying140,
 a22:=Tryz.isAgg140,
 z22:=Tryz.sizeOf140,
 v22:=Tryz.zeroValue140,
 i22:=by kernel_rfl,
 t25:=Tryz.underlying102,
 a25:=Tryz.isAgg102,
 z25:=Tryz.sizeOf102,
 v25:=Tryz.zeroValue102,
 i25:=by kernel_rfl,
 t27:=Tryz.underlying138,
 a27:=Tryz.isAgg138,
 z27:=Tryz.sizeOf138,
 v27:=Tryz.zeroValue138,
 i27:=by kernel_rfl,
 t53:=Tryz.underlying165,
 a53:=Tryz.isAgg165,
 z53:=Tryz.sizeOf165,
 v53:=Tryz.zeroValue165,
 i53:=by kernel_rfl,
 t54:=Tryz.underlying166,
 a54:=Tryz.isAgg166,
 z54:=Tryz.sizeOf166,
 g0:=by kernel_rfl,
 g1:=by kernel_rfl }
end Go.Proofs.YtmdkimnlbaahbaaGreatDoor
namespace Go.Proofs.YtmdkimnlbaahbaaGreatDoor
open Go.RowKit
theorem ZAW:∀ q:Fin 8,Lib.ctz 64 (2 ^ q.val)=q.val:=by decide
theorem ZBz {q:Nat} (hq:q < 8):Con e0 131 [.one (.lit (.int .u64 ((2 ^ q:Nat):Int)))] [.one (.lit (.int .i64 (q:Int)))]:=by
 refine ⟨by kernel_rfl,fun w S vs hS hE hG hv=>?_⟩
 match vs,hv with
 | [v],hv =>
  have hv:v=.int .u64 ((2 ^ q:Nat):Int):=by simpa [Zav,DRel,Rep] using hv
  subst hv;have hp:2 ^ q < 2 ^ 8:=Nat.pow_lt_pow_right om hq;have hT:TabAt (Zsy.g 1) Lib.deBruijn64tab w:=fun j hj=>ZcR.cell hG j hj;refine (Any7.bits_TrailingZeros tzZ (2 ^ q) om w (fun _=>hT)).mono fun en w' ⟨h1,h2⟩=>?_;subst h2;rw [ZAW ⟨q,hq⟩] at h1;exact ⟨_,h1,Kept.refl _ _ _ _,hG,by simp [retA,ARel,DRel,Rep]⟩
theorem Zps {p m:Nat} (h:p &&& m=p) (hp:p≠0) (hm:p≠m):1<=m ^^^ p∧m ^^^ p < m:=by
 have h1:=Zo3 hm;have h2:=(Zsh h).2;have h3:m ^^^ p<=m:=by
  have h4:m ^^^ p<=p ||| (m ^^^ p):=Nat.right_le_or;rw [h2] at h4;exact h4
 have h4:m ^^^ p≠m:=fun e=>hp (by
  have:m ^^^ (m ^^^ p)=m ^^^ m:=by rw [e]
  rw [<- Nat.xor_assoc,Nat.xor_self,Nat.zero_xor] at this;exact this)
 omega
section
variable {g:Sgn} {mc:C}
theorem Zyx (hg:SgnOk g) {i:Nat} {o:Opr} (ho:g.ops[i]?=some o) (ha:o.assoc=true) (hc:o.comm=true) {s t N:Nat}:ofB (AnyB g o [s,t]) N=ofB (fun b=>Two (Eith (Rel2 g o)) s t b) N:=by
 refine ZaX fun b _=>?_;unfold AnyB;rw [ZeH (Opr.deg2 hg ho (.inl ha)),Zyv,hc];simp only [List.reverse_cons,List.reverse_nil,Tah,List.singleton_append,true_and];rw [ZeH (Opr.deg2 hg ho (.inl ha))]
theorem ZAX {R:Nat->Nat->Nat->Prop} {N:Nat} (h:∀ a c b,R a c b->b < N):∀ a c b,Eith R a c b->b < N:=fun a c b h1=>h1.elim (h a c b) (h c a b)
theorem Zmt (hg:SgnOk g) {op:Int} {o:Opr} (h0:0<=op) (ho:g.ops[op.toNat]?=some o) (ha:o.assoc=true) (hc:o.comm=true) (sets:List Nat) (hn1:1<=sets.length) (hn7:sets.length<=7) (hs:∀ s∈sets,s < 2 ^ g.sorts.names.length):Con e0 97 [.one (.ptr (encX g mc)),.one (.lit (.int .i64 op)),.one (.sl (nR sets))] [.one (.lit (.int .i64 ((bvN g (Rel2 g o) sets (2 ^ sets.length - 1):Nat):Int)))]:=by
 have hN:=hg.sorts.n8;have rl:=ZaR (l:=sets);have rr:=ZaL (l:=sets);have hdeg:=Opr.deg2 hg ho (.inl ha);rw [<- Zyw];have hRlt:=ZAX fun a c b (h:Rel2 g o a c b)=>Rel2.lt hg (Tac ho) h;have hany:=fun s t=>Zyx (s:=s) (t:=t) (N:=g.sorts.names.length) hg ho ha hc;generalize hRR:Eith (Rel2 g o)=R at hRlt hany ⊢;have hcv:∀ m,bvN g R sets m < 2 ^ g.sorts.names.length:=fun m=>Zb1 _ _;have hsh:=Zf6 (k:=sets.length) om
 have hT0:=BagT.start (g:=g) (R:=R) (sets:=sets);have hpow:∀ q,2 ^ q < 2 ^ sets.length->q < sets.length:=fun q h=>(Nat.pow_lt_pow_iff_right om).1 h;have hZ1:2 ^ 1<=2 ^ sets.length:=Tbs om hn1;have hZ7:2 ^ sets.length<=2 ^ 7:=Tbs om hn7;have hBl:=fun M T (h:BagT g R sets M T)=>h.1;have hBn:=fun M T (h:BagT g R sets M T)=>h.next;have hB0:=fun M T (h:BagT g R sets M T)=>h.zero;have hBg:=fun M T (h:BagT g R sets M T)=>h.2
 generalize hZ:2 ^ sets.length=Z at hsh hT0 hpow hZ1 hZ7 hBl hBn hB0 hBg ⊢;have hmx:((Z:Int)<=(maxApp:Int))=True:=eq_true (by unfold maxApp;omega);refine gI (ts:=[.slot 6]) 2199090890695 Tryz.func97 ?_;refine fG (aj7 @rl @hsh @hmx @Tbw @nR_0 @Zar @tmz) ?_;generalize List.replicate Z 0=T0 at hT0 ⊢;have F:=@tmz;refine gL (ι:=Nat × List Nat) [8,9,10,19,26,41] [8] (fun x=>[(9,A.d (.one (.lit (.int .i64 x.1)))),(8,.buf 8)]) (fun x=>[(8,.buf none 3 1 (nR x.2))]) (fun x=>1<=x.1∧x.1<=Z∧BagT g R sets x.1 x.2) (fun x=>Z - x.1) ((1,T0)) (⟨Tai _,om,hT0⟩) (fun x hx=>?_);clear F
 clear hT0 T0;obtain ⟨m,T⟩:=x;obtain ⟨hm1,hm2,hT⟩:=hx;simp only at hm1 hm2 hT;dsimp only;have nl:=ZaR (l:=T);rw [hBl _ _ hT] at nl;have nr:=ZaL (l:=T);by_cases hmZ:m < Z;rotate_left
 ·obtain rfl:m=Z:=by omega
  have q1:=lF m m;have hg2:=ZaQ ((hBg _ _ hT (m - 1) om om).1 om);have w1:IntKind.i64.wrap ((m:Int) - 1)=((m - 1:Nat):Int):=ZaJ om om om;have i1:(m - 1 < m)=True:=eq_true om;exact fD (aj9 @q1 @hsh @nl @nr @hg2 @w1 @i1 @Zar @tmz)
 have q1:=lT m Z;have hw:=Zat (k:=m) om;have w1:IntKind.i64.wrap ((m:Int) - 1)=((m - 1:Nat):Int):=ZaJ om om om;have ba:=ZdF (a:=m) (b:=m - 1) om om;have ba2:=ZdF (a:=m - 1) (b:=m) om om;rw [Nat.and_comm] at ba;have i0:(m < Z)=True:=eq_true hmZ;by_cases hA:(m - 1) &&& m=0
 ·obtain ⟨q,rfl⟩:=Zsx om hA;have hq:=hpow q hmZ;rw [hA] at ba;have q2:(((0:Nat):Int)=0)=True:=eq_true rfl;have wu:IntKind.u64.wrap ((2 ^ q:Nat):Int)=((2 ^ q:Nat):Int):=by
   unfold IntKind.wrap;simp only [IntKind.signed,IntKind.bits];exact Int.emod_eq_of_lt om om
  obtain ⟨s,hsq⟩:∃ s,sets[q]?=some s:=⟨_,Taa hq⟩;have hbv:bvN g R sets (2 ^ q)=s:=by unfold bvN;exact Zsk hsq (hs s (Tac hsq))
  have r1:=ZaQ hsq;have hT2:=hBn _ _ hT hmZ;rw [hbv] at hT2;have ns:=ZcG (l:=T) (2 ^ q) s;obtain ⟨z,hz⟩:∃ z,T[2 ^ q]?=some z:=⟨_,Taa (by rw [hBl _ _ hT];exact hmZ)⟩;have ng:=ZaQ hz;have cz:=ZBz (q:=q) om;have i2:(q < sets.length)=True:=eq_true hq;clear hbv hA;generalize 2 ^ q=M at *;refine fN 7 (aj7 @q1 @hsh @w1 @ba @q2 @Zar @tmz) ?_;refine gB ?_;refine fC (aj5 @ZfJ @Zfe @Zed @wu @tmz) (cz) ?_;refine fR (aj11 @r1 @rl @rr @nl @nr @ns @ng @i0 @i2 @Zar @tmz) ?_
  have F:=ai @hw @tmz;refine gG ?_;exact ⟨(M+1,T.set M s),⟨om,om,hT2⟩,gw,gw,om⟩
 have q2:((((m - 1) &&& m:Nat):Int)=0)=False:=eq_false om;have hnp:∀ i,m≠2 ^ i:=fun i e=>hA (by subst e;exact Zsw i);have hz:=hB0 _ _ hT hm1 hmZ;have hzz:nR (T.set m 0)=nR T:=by rw [hz]
 have hle:(m - 1) &&& m<=m - 1:=Nat.and_le_left;have hs0:=ZlB (R:=R) (sets:=sets) (N:=g.sorts.names.length) (m:=m) om;have hend:=Zo5 (R:=R) (sets:=sets) (N:=g.sorts.names.length) (m:=m) hs hRlt hnp;have hT2:=hBn _ _ hT hmZ;clear nl nr;refine fG (aj8 @hsh @q1 @w1 @ba @ba2 @q2 @Zar @tmz) ?_;have F:=ai @hzz @tmz;refine gL (ι:=Nat × Nat) [8,10,41] [8] (fun z=>[(10,A.d (.one (.lit (.int .i64 z.1)))),(8,.buf 8)]) (fun z=>[(8,.buf none 3 1 (nR (T.set m z.2)))]) (fun z=>z.1 < m∧z.1 &&& m=z.1∧z.2=ofB (Ze3 R sets g.sorts.names.length m z.1) g.sorts.names.length) (fun z=>z.1) (((m - 1) &&& m,0)) (⟨om,by rw [Nat.and_assoc,Nat.and_self],hs0.symm⟩) (fun z hz=>?_);clear F
 obtain ⟨p,v⟩:=z;obtain ⟨hp1,hp2,hv⟩:=hz;simp only at hp1 hp2 hv;dsimp only;by_cases hp0:p=0
 ·subst hp0;have q3:=lF 0 (0:Nat);have e:v=bvN g R sets m:=by rw [hv,hend];rfl
  subst e;have F:=aj3 @q3 @hw @tmz;refine gG ?_;exact ⟨(m+1,T.set m (bvN g R sets m)),⟨om,om,hT2⟩,gw,gw,om⟩
 have q3:=lT 0 p;have wp:IntKind.i64.wrap ((p:Int) - 1)=((p - 1:Nat):Int):=ZaJ om om om;have bap:=ZdF (a:=p - 1) (b:=m) om om;have bx:=Zpr (a:=m) (b:=p) om om;have hxp:=Zps hp2 hp0 om;have hp3:(p - 1) &&& m<=p - 1:=Nat.and_le_left;have hTp:=(hBg _ _ hT p om om).1 hp1;have hTx:=(hBg _ _ hT (m ^^^ p) hxp.1 om).1 hxp.2;have e:=fun b=>Zm1 (R:=R) (sets:=sets) (N:=g.sorts.names.length) (m:=m) (p:=p) (b:=b) hp0 om hp2
 have e:v ||| ofB (fun b=>Two R (bvN g R sets p) (bvN g R sets (m ^^^ p)) b) g.sorts.names.length=ofB (Ze3 R sets g.sorts.names.length m ((p - 1) &&& m)) g.sorts.names.length:=by
  rw [hv,ZfO];exact ZaX fun b _=>(e b).symm
 have cR:=Zho (mc:=mc) hg h0 ho [bvN g R sets p,bvN g R sets (m ^^^ p)] (fun d hd=>hdeg d hd) (by simp) (fun s hs=>by
  simp only [Tbg,List.not_mem_nil,or_false] at hs;rcases hs with rfl | rfl <;> exact hcv _)
 rw [hany] at cR;have cR:=ZfQ cR;have hv62:v < 4611686018427387904:=by rw [hv];exact ZbE (Zb1 _ _) hN
 have hor:=Zds hv62 (ZbE (Zb1 (fun b=>Two R (bvN g R sets p) (bvN g R sets (m ^^^ p)) b) g.sorts.names.length) hN);rw [e] at hor;generalize ofB (fun b=>Two R (bvN g R sets p) (bvN g R sets (m ^^^ p)) b) g.sorts.names.length=tw at cR hor;have nl:=ZaR (l:=T.set m v);rw [Taz,hBl _ _ hT] at nl;have nr:=ZaL (l:=T.set m v);have g1:(nR (T.set m v))[m]?=some [.lit (.int .i64 v)]:=ZaQ (Tbn (by rw [hBl _ _ hT];exact hmZ))
 have g2:(nR (T.set m v))[p]?=some [.lit (.int .i64 (bvN g R sets p))]:=ZaQ (by rw [Tbo om];exact hTp);have g3:(nR (T.set m v))[m ^^^ p]?=some [.lit (.int .i64 (bvN g R sets (m ^^^ p)))]:=ZaQ (by rw [Tbo om];exact hTx);have ns:=fun x=>ZcG (l:=T.set m v) m x;simp only [List.set_set] at ns;have i2:(p < Z)=True:=eq_true om;have i3:(m ^^^ p < Z)=True:=eq_true om;clear e hv hend;refine fN 11 (ai @q3 @tmz) ?_
 refine gB ?_;refine fC (aj11 @nl @nr @g1 @g2 @g3 @i0 @i2 @i3 @bx @Zar @tmz) (cR) ?_;refine fR (aj8 @nl @nr @g1 @hor @ns @i0 @Zar @tmz) ?_;have F:=aj3 @wp @bap @tmz;refine gG ?_;exact ⟨((p - 1) &&& m,ofB (Ze3 R sets g.sorts.names.length m ((p - 1) &&& m)) g.sorts.names.length),⟨om,by rw [Nat.and_assoc,Nat.and_self],rfl⟩,gw,gw,om⟩
end
section
variable {g:Sgn}
theorem Zw1 (hg:SgnOk g) {op:Int} {o:Opr} (h0:0<=op) (ho:g.ops[op.toNat]?=some o) (ha:o.assoc=true) (sets:List Nat) (hn1:1<=sets.length) (hn7:sets.length<=7) (hs:∀ s∈sets,s < 2 ^ g.sorts.names.length):Con e0 122 [.agg (Zak g),.one (.lit (.int .i64 op)),.one (.sl (nR sets))] [.one (.lit (.int .i64 ((bvN g (Rel2 g o) sets (2 ^ sets.length - 1):Nat):Int)))]:=by
 have hN:=hg.sorts.n8;have rl:=ZaR (l:=sets);have rr:=ZaL (l:=sets);have hdeg:=Opr.deg2 hg ho (.inl ha);have cU:=Zgx hg.sorts.n8 hg.sorts.m16 (SortsOk.subsIn hg.sorts.subs);rw [Za9] at cU;have hRlt:=fun a c b (h:Rel2 g o a c b)=>Rel2.lt hg (Tac ho) h;have hany:∀ s t,ofB (Zdg g o [s,t]) g.sorts.names.length=ofB (fun b=>Two (Rel2 g o) s t b) g.sorts.names.length:=fun s t=>ZaX fun b _=>ZeH hdeg;have cG:=fun l=>Zif hg (Tac ho) l
 generalize hRR:Rel2 g o=R at hRlt hany ⊢;have hcv:∀ m,bvN g R sets m < 2 ^ g.sorts.names.length:=fun m=>Zb1 _ _;have cB:=Zg0 (k:=sets.length) om;have hT0:=BagT.start (g:=g) (R:=R) (sets:=sets);have hpow:∀ q,2 ^ q < 2 ^ sets.length->q < sets.length:=fun q h=>(Nat.pow_lt_pow_iff_right om).1 h;have hZ1:2 ^ 1<=2 ^ sets.length:=Tbs om hn1;have hZ7:2 ^ sets.length<=2 ^ 7:=Tbs om hn7;have hBl:=fun M T (h:BagT g R sets M T)=>h.1
 have hBn:=fun M T (h:BagT g R sets M T)=>h.next;have hB0:=fun M T (h:BagT g R sets M T)=>h.zero;have hBg:=fun M T (h:BagT g R sets M T)=>h.2;generalize hZ:2 ^ sets.length=Z at cB hT0 hpow hZ1 hZ7 hBl hBn hB0 hBg ⊢;have hmx:((Z:Int)<=(maxApp:Int))=True:=eq_true (by unfold maxApp;omega);rw [Zak];refine gI (ts:=[.slot 6]) 281509890105295 Tryz.func122 ?_;refine fN 2 (ai @rl @tmz) ?_;refine gB ?_;refine fC @tmz (cU) ?_
 refine fR @tmz ?_;refine ZdE ?_;refine gB ?_;refine fC @tmz (cB) ?_;refine fR (aj4 @hmx @Tbw @nR_0 @tmz) ?_;refine fG (ai @Zar @tmz) ?_;generalize List.replicate Z 0=T0 at hT0 ⊢;have F:=@tmz;refine gL (ι:=Nat × List Nat) [9,10,11,12,24,29,35,48] [9] (fun x=>[(10,A.d (.one (.lit (.int .i64 x.1)))),(9,.buf 9)]) (fun x=>[(9,.buf none 3 1 (nR x.2))]) (fun x=>1<=x.1∧x.1<=Z∧BagT g R sets x.1 x.2) (fun x=>Z - x.1) ((1,T0)) (⟨Tai _,om,hT0⟩) (fun x hx=>?_);clear F
 clear hT0 T0;obtain ⟨m,T⟩:=x;obtain ⟨hm1,hm2,hT⟩:=hx;simp only at hm1 hm2 hT;dsimp only;refine fN 5 @tmz ?_;refine gB ?_;refine fC @tmz (cB) ?_;by_cases hmZ:m < Z;rotate_left
 ·obtain rfl:m=Z:=by omega
  have nl:=ZaR (l:=T);rw [hBl _ _ hT] at nl;have nr:=ZaL (l:=T);have q1:=lF m m;have hg2:=ZaQ ((hBg _ _ hT (m - 1) om om).1 om);have w1:IntKind.i64.wrap ((m:Int) - 1)=((m - 1:Nat):Int):=ZaJ om om om;have i1:(m - 1 < m)=True:=eq_true om;refine fR (ai @q1 @tmz) ?_;refine fN 16 @tmz ?_;refine gB ?_;refine fC @tmz (cB) ?_;refine fR (aj7 @nl @nr @hg2 @w1 @i1 @Zar @tmz) ?_;exact fD @tmz
 have q1:=lT m Z;have hw:=Zat (k:=m) om;have w1:IntKind.i64.wrap ((m:Int) - 1)=((m - 1:Nat):Int):=ZaJ om om om;have ba2:=ZdF (a:=m - 1) (b:=m) om om;have i0:(m < Z)=True:=eq_true hmZ;have hz:=hB0 _ _ hT hm1 hmZ;have hzz:nR (T.set m 0)=nR T:=by rw [hz]
 have hT2:=hBn _ _ hT hmZ;refine fR (ai @q1 @tmz) ?_;refine fG @tmz ?_;have F:=ai @hzz @tmz;refine gL (ι:=Nat × Nat) [9,11,29,35] [9] (fun y=>[(11,A.d (.one (.lit (.int .i64 y.1)))),(9,.buf 9)]) (fun y=>[(9,.buf none 3 1 (nR (T.set m y.2)))]) (fun y=>y.1<=sets.length∧(∀ q,m=2 ^ q->(q < y.1->y.2=bvN g R sets m))∧((∀ q,q < y.1->m≠2 ^ q)->y.2=0)) (fun y=>sets.length - y.1) ((0,0)) (⟨om,fun q _ h=>om,fun _=>rfl⟩) (fun y hy=>?_);clear F
 obtain ⟨i,v⟩:=y;obtain ⟨hi,hv1,hv2⟩:=hy;simp only at hi hv1 hv2;dsimp only;by_cases hil:i < sets.length
 ·have q3:=lT i sets.length;have hwi:=Zat (k:=i) om;have cBi:=Zg0 (k:=i) om;refine fN 10 (ai @q3 @tmz) ?_;refine gB ?_;refine fC @tmz (cBi) ?_;by_cases e:m=2 ^ i
  ·have q4:((m:Int)=((2 ^ i:Nat):Int))=True:=eq_true (by rw [e]);obtain ⟨s,hsi⟩:∃ s,sets[i]?=some s:=⟨_,Taa hil⟩;have hbv:bvN g R sets m=s:=by rw [e];unfold bvN;exact Zsk hsi (hs s (Tac hsi))
   have r1:=ZaQ hsi;have nl:=ZaR (l:=T.set m v);rw [Taz,hBl _ _ hT] at nl;have nr:=ZaL (l:=T.set m v);have g1:(nR (T.set m v))[m]?=some [.lit (.int .i64 v)]:=ZaQ (Tbn (by rw [hBl _ _ hT];exact hmZ));have ns:=fun x=>ZcG (l:=T.set m v) m x;simp only [List.set_set] at ns;have i1:(i < sets.length)=True:=eq_true hil;have hv0:(∀ q,q < i+1->m≠2 ^ q)->s=0:=fun h=>absurd e (h i om);clear cBi;generalize 2 ^ i=M at *
   refine fR (ai @q4 @tmz) ?_;have F:=aj12 @hwi @r1 @rl @rr @nl @nr @g1 @ns @i0 @i1 @Zar @tmz;refine gG ?_;exact ⟨(i+1,s),⟨hil,fun q h1 h2=>hbv.symm,hv0⟩,gw,gw,om⟩
  have q4:((m:Int)=((2 ^ i:Nat):Int))=False:=eq_false om
  have hv3:∀ q,m=2 ^ q->(q < i+1->v=bvN g R sets m):=fun q h1 h2=>hv1 q h1 (by
   by_cases h3:q=i
   ·subst h3;exact absurd h1 e
   ·omega)
  have hv4:(∀ q,q < i+1->m≠2 ^ q)->v=0:=fun h=>hv2 fun q h1=>h q om;clear cBi;refine fR (ai @q4 @tmz) ?_;have F:=ai @hwi @tmz;refine gG ?_;exact ⟨(i+1,v),⟨hil,hv3,hv4⟩,gw,gw,om⟩
 obtain rfl:i=sets.length:=by omega
 have q3:=lF sets.length sets.length;have hz:=hB0 _ _ hT hm1 hmZ;have hle:(m - 1) &&& m<=m - 1:=Nat.and_le_left;refine fG (aj5 @q3 @w1 @ba2 @Zar @tmz) ?_;by_cases hA:(m - 1) &&& m=0
 ·obtain ⟨q,rfl⟩:=Zsx om hA;have hq:=hpow q hmZ;have hv:=hv1 q rfl hq;subst hv;rw [hA];have F:=@tmz;refine gL (ι:=Nat) [12,48] [] (fun z=>[(12,A.d (.one (.lit (.int .i64 z))))]) (fun z=>[]) (fun z=>z=0) (fun z=>z) (0) (rfl) (fun z hz=>?_);clear F;subst hz;have q4:=lF 0 (0:Nat);generalize 2 ^ q=M at *;have F:=aj3 @q4 @hw @tmz;refine gG ?_;exact ⟨(M+1,T.set M (bvN g R sets M)),⟨om,om,hT2⟩,gw,gw,om⟩
 have hnp:∀ i,m≠2 ^ i:=fun i e=>hA (by subst e;exact Zsw i);have hv:=hv2 fun q _=>hnp q;subst hv;have hs0:=ZlB (R:=R) (sets:=sets) (N:=g.sorts.names.length) (m:=m) om;have hend:=Zo5 (R:=R) (sets:=sets) (N:=g.sorts.names.length) (m:=m) hs hRlt hnp;have F:=@tmz;refine gL (ι:=Nat × Nat) [9,12,48] [9] (fun z=>[(12,A.d (.one (.lit (.int .i64 z.1)))),(9,.buf 9)]) (fun z=>[(9,.buf none 3 1 (nR (T.set m z.2)))]) (fun z=>z.1 < m∧z.1 &&& m=z.1∧z.2=ofB (Ze3 R sets g.sorts.names.length m z.1) g.sorts.names.length) (fun z=>z.1) (((m - 1) &&& m,0)) (⟨om,by rw [Nat.and_assoc,Nat.and_self],hs0.symm⟩) (fun z hz=>?_);clear F
 obtain ⟨p,v⟩:=z;obtain ⟨hp1,hp2,hv⟩:=hz;simp only at hp1 hp2 hv;dsimp only;by_cases hp0:p=0
 ·subst hp0;have q3:=lF 0 (0:Nat);have e:v=bvN g R sets m:=by rw [hv,hend];rfl
  subst e;have F:=aj3 @q3 @hw @tmz;refine gG ?_;exact ⟨(m+1,T.set m (bvN g R sets m)),⟨om,om,hT2⟩,gw,gw,om⟩
 have q3:=lT 0 p;have wp:IntKind.i64.wrap ((p:Int) - 1)=((p - 1:Nat):Int):=ZaJ om om om;have bap:=ZdF (a:=p - 1) (b:=m) om om;have bx:=Zpr (a:=m) (b:=p) om om;have hxp:=Zps hp2 hp0 om;have hp3:(p - 1) &&& m<=p - 1:=Nat.and_le_left;have hTp:=(hBg _ _ hT p om om).1 hp1;have hTx:=(hBg _ _ hT (m ^^^ p) hxp.1 om).1 hxp.2;have e:=fun b=>Zm1 (R:=R) (sets:=sets) (N:=g.sorts.names.length) (m:=m) (p:=p) (b:=b) hp0 om hp2
 have e:v ||| ofB (fun b=>Two R (bvN g R sets p) (bvN g R sets (m ^^^ p)) b) g.sorts.names.length=ofB (Ze3 R sets g.sorts.names.length m ((p - 1) &&& m)) g.sorts.names.length:=by
  rw [hv,ZfO];exact ZaX fun b _=>(e b).symm
 have cR:=cG [bvN g R sets p,bvN g R sets (m ^^^ p)] (fun d hd=>hdeg d hd) (by simp) (fun s hs=>by
  simp only [Tbg,List.not_mem_nil,or_false] at hs;rcases hs with rfl | rfl <;> exact hcv _)
 rw [hany] at cR;have cR:=ZfQ cR;have hv62:v < 4611686018427387904:=by rw [hv];exact ZbE (Zb1 _ _) hN
 have hor:=Zds hv62 (ZbE (Zb1 (fun b=>Two R (bvN g R sets p) (bvN g R sets (m ^^^ p)) b) g.sorts.names.length) hN);rw [e] at hor;generalize ofB (fun b=>Two R (bvN g R sets p) (bvN g R sets (m ^^^ p)) b) g.sorts.names.length=tw at cR hor;have nl:=ZaR (l:=T.set m v);rw [Taz,hBl _ _ hT] at nl;have nr:=ZaL (l:=T.set m v);have g1:(nR (T.set m v))[m]?=some [.lit (.int .i64 v)]:=ZaQ (Tbn (by rw [hBl _ _ hT];exact hmZ))
 have g2:(nR (T.set m v))[p]?=some [.lit (.int .i64 (bvN g R sets p))]:=ZaQ (by rw [Tbo om];exact hTp);have g3:(nR (T.set m v))[m ^^^ p]?=some [.lit (.int .i64 (bvN g R sets (m ^^^ p)))]:=ZaQ (by rw [Tbo om];exact hTx);have ns:=fun x=>ZcG (l:=T.set m v) m x;simp only [List.set_set] at ns;have i2:(p < Z)=True:=eq_true om;have i3:(m ^^^ p < Z)=True:=eq_true om;clear e hv hend;refine fN 15 (ai @q3 @tmz) ?_
 refine gB ?_;refine fC (aj14 @nl @nr @g1 @g2 @g3 @i0 @i2 @i3 @bx @h0 @ho @Zag @Zar @tmz) (cR) ?_;refine fR (aj8 @nl @nr @g1 @hor @ns @i0 @Zar @tmz) ?_;have F:=aj3 @wp @bap @tmz;refine gG ?_;exact ⟨((p - 1) &&& m,ofB (Ze3 R sets g.sorts.names.length m ((p - 1) &&& m)) g.sorts.names.length),⟨om,by rw [Nat.and_assoc,Nat.and_self],rfl⟩,gw,gw,om⟩
end
section
variable {g:Sgn}
theorem AppOk.len7 (hg:SgnOk g) {t:Tm} {o:Opr} {d:Dcl} (hA:AppOk g t o d):t.args.length<=7:=by
 cases ha:o.assoc with
 | true=>exact (hA.asc ha).2
 | false =>
  rw [hA.nas ha];have:=(hg.decls o (Tac hA.at')).ar d hA.fst;omega
theorem AppOk.dlen (hg:SgnOk g) {t:Tm} {o:Opr} {d:Dcl} (hA:AppOk g t o d) (ha:o.assoc=false):∀ f∈o.decls,f.args.length=t.args.length:=by
 intro f hf;rw [hA.nas ha];exact ((hg.decls o (Tac hA.at')).all d hA.fst f hf).len
theorem ZlQ {t a:Tm} {i:Nat} (h:t.args[i]?=some a):(t.args.take i).map (sortsTm g)++[sortsTm g a]=(t.args.take (i+1)).map (sortsTm g):=by
 rw [List.take_add_one,h,Tbv];rfl
theorem Zkd (hg:SgnOk g):∀ (n:Nat) {t:Tm},sizeTm t < n->ZaH g t->Con e0 82 [.agg (Zak g),.agg (Zab t)] [.one (.lit (.int .i64 ((sortsTm g t:Nat):Int)))]:=by
 intro n
 induction n with
 | zero=>exact fun {t} h _=>absurd h om
 | succ n IH =>
 intro t hsz hf;obtain ⟨hnode,hargs,_⟩:=ZaY.1 hf;have cU:=Zgx hg.sorts.n8 hg.sorts.m16 (SortsOk.subsIn hg.sorts.subs);rw [Za9] at cU;by_cases hop:t.op=-1
 ·have hv:Zcg g t:=hnode.resolve_right fun ⟨o,d,hA⟩=>by have:=hA.lo;omega
  have q1:(t.op=-1)=True:=eq_true hop;obtain ⟨k,hk⟩:∃ k:Nat,t.sort=k:=⟨t.sort.toNat,by have:=hv.2.2.1;omega⟩;have hgk:=ZhH hg.sorts hv.2.2.1 hv.2.2.2.1;have hgk:=ZaQ hgk.1;have e:=Zhl (g:=g) hop;rw [e];have ul:=ZaR (l:=up g.sorts);rw [(Zft (SortsOk.subsIn hg.sorts.subs)).1] at ul;have ur:=ZaL (l:=up g.sorts);have i0:0<=t.sort:=hv.2.2.1;have i1:(t.sort.toNat < g.sorts.names.length)=True:=eq_true (by have:=hv.2.2.2.1;omega)
  rw [Zak];refine gI (ts:=[.slot 4]) 4629704814991770879 Tryz.func82 ?_;refine fN 2 (ai @q1 @tmz) ?_;refine gB ?_;refine fC @tmz (cU) ?_;refine fR (aj6 @i0 @i1 @ul @ur @hgk @tmz) ?_;exact fD @tmz
 have q1:(t.op=-1)=False:=eq_false hop;obtain ⟨o,d,hA⟩:∃ o d,AppOk g t o d:=hnode.resolve_left fun hv=>hop hv.1;have h0:=hA.lo;have ho:=hA.at';have h7:=hA.len7 hg
 have ih:∀ a∈t.args,Con e0 82 [.agg (Zak g),.agg (Zab a)] [.one (.lit (.int .i64 ((sortsTm g a:Nat):Int)))]:=fun a ha=>IH (by
  have h1:=ZaM t;have h2:=Za5 ha;omega) (hargs a ha)
 clear IH;have e:=Zhm hop ho;rw [e];have hss:∀ s∈t.args.map (sortsTm g),s < 2 ^ g.sorts.names.length:=fun s hs=>by
  obtain ⟨a,ha,rfl⟩:=Tbi.1 hs;exact ZdI hg (hargs a ha).node
 have hsl:(t.args.map (sortsTm g)).length=t.args.length:=Tay _;have cB:=fun (ha:o.assoc=true)=>Zw1 hg h0 ho ha (t.args.map (sortsTm g)) (by rw [hsl];have:=(hA.asc ha).1;omega) (by rw [hsl];exact h7) hss;have cC:=fun (ha:o.assoc=true)=>Zqx hg h0 ho ha (t.args.map (sortsTm g)) (by rw [hsl];have:=(hA.asc ha).1;omega) (by rw [hsl];exact h7) hss;rw [Zak] at ih cB cC ⊢;have hn0:nR []=[]:=rfl;have ht0:t.args.take 0=[]:=rfl
 refine gI (ts:=[.slot 4]) 4629704814991770879 Tryz.func82 ?_;refine fG (ai @q1 @tmz) ?_;have F:=aj3 @hn0 @ht0 @tmz;refine gL (ι:=Nat) [5,6,23] [5] (fun i=>[(6,A.d (.one (.lit (.int .i64 i)))),(5,.buf 5)]) (fun i=>[(5,.buf none 3 1 (nR ((t.args.take i).map (sortsTm g))))]) (fun i=>i<=t.args.length) (fun i=>t.args.length - i) (0) (Taj _) (fun i hi=>?_);clear F;have nl:=ZaR (l:=(t.args.take i).map (sortsTm g))
 rw [Tay,List.length_take_of_le hi] at nl;have nr:=ZaL (l:=(t.args.take i).map (sortsTm g));by_cases hil:i < t.args.length
 ·have q2:=lT i t.args.length;obtain ⟨a,hai⟩:∃ a,t.args[i]?=some a:=⟨_,Taa hil⟩;have cA:=ih a (Tac hai);have ns:=ZhB (l:=(t.args.take i).map (sortsTm g)) (sortsTm g a);rw [ZlQ hai] at ns;have hmx:(i+1<=maxApp)=True:=eq_true (by unfold maxApp;omega);have hw:=Zat (k:=i) om;refine fN 7 (ai @q2 @tmz) ?_;refine gB ?_;refine fC (aj3 @hai @Zar @tmz) (cA) ?_;refine fR (aj5 @nl @nr @ns @hmx @tmz) ?_;have F:=ai @hw @tmz;refine gG ?_;exact ⟨i+1,hil,gw,gw,om⟩
 obtain rfl:i=t.args.length:=by omega
 have q2:=lF t.args.length t.args.length;rw [Tap] at nl nr ⊢;have hlt:=fun b=>ZdI hg (t:=b);have hD:=hA.dlen hg;rw [<- hsl] at hD;have cF:=fun (ha:o.assoc=false)=>Zkc hg h0 ho (t.args.map (sortsTm g)) (hD ha);have h2:=Opr.deg2 hg ho;rw [Zak] at cF;clear hi hil
 cases ha:o.assoc with
 | true =>
  cases hc:o.comm with
  | true =>
   have cB:=cB ha;have e2:bvN g (Rel2 g o) (t.args.map (sortsTm g)) (2 ^ (t.args.map (sortsTm g)).length - 1)=appS g o (t.args.map (sortsTm g)):=by
    unfold bvN appS;exact ZaX fun b _=>by unfold AppB;rw [if_pos ha,if_pos hc]
   rw [e2] at cB;refine fN 10 (aj7 @q2 @ha @hc @h0 @ho @Zag @tmz) ?_;refine gB ?_;refine fC @tmz (cB) ?_;refine fR @tmz ?_;exact fD @tmz
  | false =>
   have cC:=cC ha;have e2:cvN g o (t.args.map (sortsTm g)) 0 (t.args.map (sortsTm g)).length=appS g o (t.args.map (sortsTm g)):=by
    unfold cvN appS;exact ZaX fun b _=>by unfold AppB;rw [if_pos ha,if_neg (by simp [hc])]
   rw [e2] at cC;refine fN 12 (aj7 @q2 @ha @hc @h0 @ho @Zag @tmz) ?_;refine gB ?_;refine fC @tmz (cC) ?_;refine fR @tmz ?_;exact fD @tmz
 | false =>
  have h3:t.args.length<=3:=by
   rw [hA.nas ha];exact (hg.decls o (Tac ho)).ar d hA.fst
  have cF:=cF ha (by rw [hsl];exact h3) hss
  cases hc:o.comm with
  | true =>
   have e2:ofB (Zdg g o (t.args.map (sortsTm g))) g.sorts.names.length ||| ofB (Zdg g o (t.args.map (sortsTm g)).reverse) g.sorts.names.length=appS g o (t.args.map (sortsTm g)):=by
    unfold appS;rw [ZfO];exact ZaX fun b _=>by unfold AppB AnyB;rw [if_neg (by simp [ha]),hc];simp
   have hor:=Zds (ZbE (Zb1 (Zdg g o (t.args.map (sortsTm g))) g.sorts.names.length) hg.sorts.n8) (ZbE (Zb1 (Zdg g o (t.args.map (sortsTm g)).reverse) g.sorts.names.length) hg.sorts.n8);rw [e2] at hor;have cG:=Zkc hg h0 ho (t.args.map (sortsTm g)).reverse (by rw [List.length_reverse];exact hD ha) (by rw [List.length_reverse,hsl];exact h3) (fun s hs=>hss s (List.mem_reverse.1 hs));rw [Zak] at cG;have hl2:(t.args.map (sortsTm g)).length=2:=by rw [hsl,hA.nas ha];exact h2 (.inr (.inl hc)) d (Tac hA.fst)
   clear e2 cB cC hD h2 ih hargs e;rw [hsl] at hl2;generalize appS g o (t.args.map (sortsTm g))=V at hor ⊢;generalize ofB (Zdg g o (t.args.map (sortsTm g))) g.sorts.names.length=V1 at hor cF;generalize ofB (Zdg g o (t.args.map (sortsTm g)).reverse) g.sorts.names.length=V2 at hor cG;have hl3:=hsl;rw [hl2] at hl3 nl;obtain ⟨s1,s2,hs12⟩:∃ s1 s2,t.args.map (sortsTm g)=[s1,s2]:=by
    match t.args.map (sortsTm g),hl3 with
    | [x,y],_=>exact ⟨x,y,rfl⟩
   rw [hs12] at cF cG nr nl ⊢;simp only [List.reverse_cons,List.reverse_nil,Tah,List.singleton_append] at cG;have cG:=ZfQ cG;have g0:(nR [s1,s2])[0]?=some [.lit (.int .i64 s1)]:=rfl;have g1:(nR [s1,s2])[1]?=some [.lit (.int .i64 s2)]:=rfl;refine fN 14 (aj7 @q2 @ha @hc @h0 @ho @Zag @tmz) ?_;refine Zcc (Zd2 [5] (by simp only [pz,↓reduceIte,Nat.reduceEqDiff,Nat.reduceAdd,Nat.reduceSub,Nat.reduceMul,Nat.reduceLeDiff,Nat.reduceBEq,Tam,decide_true,decide_false,Int.reduceLE,Int.reduceToNat,Int.reduceLT,Int.reduceEq,eq_self,Nat.reduceShiftRight,Nat.reduceAnd,Nat.reduceBneDiff,tmz];exact rfl)) fun σ' hσ=>?_
   subst hσ;refine gB ?_;refine fC @tmz (cF) ?_;refine fC (aj5 @nl @nr @g0 @g1 @tmz) (cG) ?_;refine fR (ai @hor @tmz) ?_;exact fD @tmz
  | false =>
   have e2:ofB (Zdg g o (t.args.map (sortsTm g))) g.sorts.names.length=appS g o (t.args.map (sortsTm g)):=by
    unfold appS;exact ZaX fun b _=>by unfold AppB AnyB;rw [if_neg (by simp [ha]),hc];simp
   rw [e2] at cF;refine fN 15 (aj7 @q2 @ha @hc @h0 @ho @Zag @tmz) ?_;refine gB ?_;refine fC @tmz (cF) ?_;refine fR @tmz ?_;exact fD @tmz
end
section
variable {g:Sgn}
def ZfC (g:Sgn) (b:Nat) (t:Tm) (l:List (ByteArray × Value)) (r:List D) (pm:List Bk):Prop:=∃ l',r=[.one (.lit (.int .i64 (sortsTm g t:Nat)))]∧pm=[mapB b l']∧Memo g l'∧Grew g (sizeTm t) l l'
theorem ZBB:∀ (b:Nat) (l:List (ByteArray × Value)),pinned (mapB b l)=true:=fun _ _=>rfl
theorem Zjb (hg:SgnOk g) (b:Nat):∀ (n:Nat) {t:Tm},sizeTm t < n->sizeTm t<=60->ZaH g t->∀ l,Memo g l->ConP e0 56 [.one (.ptr (encX g (.lit (.map (some b))))),.agg (Zab t)] [mapB b l] (ZfC g b t l):=by
 intro n
 induction n with
 | zero=>exact fun {t} h _ _ _ _=>absurd h om
 | succ n IH =>
 intro t hsz h60 hf l hM;obtain ⟨hnode,hargs,_⟩:=ZaY.1 hf;by_cases hop:t.op=-1
 ·have hv:Zcg g t:=hnode.resolve_right fun ⟨o,d,hA⟩=>by have:=hA.lo;omega
  have q1:(t.op < 0)=True:=eq_true om;have hgk:=ZhH hg.sorts hv.2.2.1 hv.2.2.2.1;have hgk:=ZaQ hgk.1;have e:=Zhl (g:=g) hop;have ul:=ZaR (l:=up g.sorts);rw [(Zft (SortsOk.subsIn hg.sorts.subs)).1] at ul;have ur:=ZaL (l:=up g.sorts);have i0:0<=t.sort:=hv.2.2.1;have i1:(t.sort.toNat < g.sorts.names.length)=True:=eq_true (by have:=hv.2.2.2.1;omega);have hR:ZfC g b t l [.one (.lit (.int .i64 (upk g t.sort:Nat)))] [mapB b l]:=⟨l,by rw [e],rfl,hM,Grew.refl⟩
  clear IH hargs;unfold nR at ul ur hgk;refine gIP (ts:=[.slot 4]) [1000] 604463053930783360175611 Tryz.func56 ?_;refine fG (aj8 @q1 @i0 @i1 @ul @ur @hgk @Zbb @tmz) ?_;exact (have F:=tmz;gTP (R:=ZfC g b t l) [1000] hR (hp:=rfl))
 have q1:(t.op < 0)=False:=eq_false (by
  obtain ⟨o,d,hA⟩:∃ o d,AppOk g t o d:=hnode.resolve_left fun hv=>hop hv.1;have:=hA.lo;omega)
 obtain ⟨o,d,hA⟩:∃ o d,AppOk g t o d:=hnode.resolve_left fun hv=>hop hv.1;have cK:=ZwZ hg hf h60;refine gIP (ts:=[.slot 4]) [1000] 604463053930783360175611 Tryz.func56 ?_;refine fN 3 (ai @q1 @tmz) ?_;refine gB ?_;refine fC @tmz (cK) ?_;refine fR @tmz ?_;refine fN 4 @tmz ?_;refine gB ?_;have F:=ai @Zbb @tmz;refine gP 5 ?_;clear F
 cases hfs:ZbM l (keyS t) with
 | some v =>
  have hv:=hM t hf v hfs;subst hv;have hR:ZfC g b t l [.one (.lit (.int .i64 (sortsTm g t:Nat)))] [mapB b l]:=⟨l,rfl,rfl,hM,Grew.refl⟩;refine (have F:=tmz;gLo 1000 Zgi ZdN Zw0 (v:=.int .i64 (sortsTm g t:Nat)) (f:=true) (by rw [hfs];rfl) (by rw [hfs];rfl) ?_);refine fR @tmz ?_;refine fG @tmz ?_;exact (have F:=tmz;gTP (R:=ZfC g b t l) [1000] hR (hp:=rfl))
 | none =>
 refine (have F:=tmz;gLo 1000 Zgi ZdN Zw0 (v:=.int .i64 0) (f:=false) (by rw [hfs];rfl) (by rw [hfs];rfl) ?_);have h7:=hA.len7 hg;have hn0:nR []=[]:=rfl;have ht0:t.args.take 0=[]:=rfl;refine fR @tmz ?_;refine fG @tmz ?_;have F:=aj3 @hn0 @ht0 @tmz;refine gL (ι:=Nat × List (ByteArray × Value)) [8,10,41,42] [8,1000] (fun x=>[(41,A.d (.one (.lit (.int .i64 x.1)))),(8,.buf 8)]) (fun x=>[(8,.buf none 3 1 (nR ((t.args.take x.1).map (sortsTm g)))),(1000,mapB b x.2)]) (fun x=>x.1<=t.args.length∧Memo g x.2∧Grew g (sizeTm t - 1) l x.2) (fun x=>t.args.length - x.1) ((0,l)) (⟨Taj _,hM,Grew.refl⟩) (fun x hx=>?_);clear F
 obtain ⟨i,l1⟩:=x;obtain ⟨hi,hM1,hG1⟩:=hx;simp only at hi hM1 hG1;dsimp only;have nl:=ZaR (l:=(t.args.take i).map (sortsTm g));rw [Tay,List.length_take_of_le hi] at nl;have nr:=ZaL (l:=(t.args.take i).map (sortsTm g));by_cases hil:i < t.args.length
 ·have q2:=lT i t.args.length;obtain ⟨a,hai⟩:∃ a,t.args[i]?=some a:=⟨_,Taa hil⟩;have ham:=Tac hai;have hs1:=ZaM t;have hs2:=Za5 ham;have cA:=IH (t:=a) om om (hargs a ham) l1 hM1;have ns:=ZhB (l:=(t.args.take i).map (sortsTm g)) (sortsTm g a);rw [ZlQ hai] at ns;have hmx:(i+1<=maxApp)=True:=eq_true (by unfold maxApp;omega);have hw:=Zat (k:=i) om;refine fN 11 (aj4 @q2 @hai @Zar @tmz) ?_;refine gB ?_;have F:=aj5 @ZBB @Zbb @hai @Zar @tmz;refine gCP [1000] [1000] (hpn:=rfl) (cA) ?_;clear F
  rintro r pm ⟨l2,rfl,rfl,hM2,hG2⟩;simp only [setA,retA,zipM,Taf,Tah];refine fR (aj5 @nl @nr @ns @hmx @tmz) ?_;have F:=ai @hw @tmz;refine gG ?_;exact ⟨(i+1,l2),⟨hil,hM2,hG1.trans (hG2.mono om)⟩,gw,gw,om⟩
 obtain rfl:i=t.args.length:=by omega
 have q2:=lF t.args.length t.args.length;rw [Tap] at nl nr ⊢;clear IH;have h0:=hA.lo;have ho:=hA.at';have e:=Zhm hop ho;have hnone:ZbM l1 (keyS t)=none:=hG1 t hf (by have:=ZaM t;omega) hfs;have hR:ZfC g b t l [.one (.lit (.int .i64 (sortsTm g t:Nat)))] [mapB b (l1++[(keyS t,.int .i64 (sortsTm g t:Nat))])]:=⟨_,rfl,rfl,hM1.snoc hg hf,(hG1.mono om).trans (Grew.snoc hg hf)⟩;have hss:∀ s∈t.args.map (sortsTm g),s < 2 ^ g.sorts.names.length:=fun s hs=>by
  obtain ⟨a,ha,rfl⟩:=Tbi.1 hs;exact ZdI hg (hargs a ha).node
 have hsl:(t.args.map (sortsTm g)).length=t.args.length:=Tay _;have h3:o.assoc=false->t.args.length<=3:=fun ha=>by
  rw [hA.nas ha];exact (hg.decls o (Tac ho)).ar d hA.fst
 have hD:=hA.dlen hg;have h2:=Opr.deg2 hg ho;have cR:=fun h1 h2=>Zho (mc:=.lit (.map (some b))) hg h0 ho (t.args.map (sortsTm g)) h1 h2 hss;have cA:=fun h1 h2 h3=>Zmt (mc:=.lit (.map (some b))) hg h0 ho h1 h2 (t.args.map (sortsTm g)) h3 (by rw [hsl];exact h7) hss;have cW:=fun h1 h2 h3=>Zmu (mc:=.lit (.map (some b))) hg h0 ho h1 h2 (t.args.map (sortsTm g)) h3 (by rw [hsl];exact h7) hss;have eR:=ZAJ hg ho (sets:=t.args.map (sortsTm g))
 rw [hsl] at cR cA cW eR;have eA:o.assoc=true->o.comm=true->bvN g (Rel2 g o) (t.args.map (sortsTm g)) (2 ^ t.args.length - 1)=sortsTm g t:=fun ha hc=>by
  rw [e];unfold bvN appS;exact ZaX fun b _=>by unfold AppB;rw [if_pos ha,if_pos hc,hsl]
 have eC:o.assoc=true->o.comm=false->cvN g o (t.args.map (sortsTm g)) 0 t.args.length=sortsTm g t:=fun ha hc=>by
  rw [e];unfold cvN appS;exact ZaX fun b _=>by unfold AppB;rw [if_pos ha,if_neg (by simp [hc]),hsl]
 rw [<- e] at eR;clear hargs e hss;by_cases hle:t.args.length<=2
 ·have q3:((t.args.length:Int)<=2)=True:=eq_true om
  have cR:=cR (by
   cases ha:o.assoc with
   | true=>exact fun f hf=>by rw [h2 (.inl ha) f hf];have:=(hA.asc ha).1;omega
   | false=>exact hD ha) om
  rw [eR fun ha=>by have:=(hA.asc ha).1;omega] at cR;refine fN 16 (aj5 @q2 @q3 @nl @nr @tmz) ?_;refine gB ?_;refine fC (ai @Zbb @tmz) (cR) ?_;refine fR @tmz ?_;refine fN 19 @tmz ?_;refine gB ?_;have F:=ai @Zbb @tmz;refine gP 6 ?_;clear F;refine (have F:=tmz;gUp 1000 Zgi ZdN hnone ?_);refine fR @tmz ?_;refine fG @tmz ?_;exact (have F:=tmz;gTP (R:=ZfC g b t l) [1000] hR (hp:=rfl))
 have q3:((t.args.length:Int)<=2)=False:=eq_false om
 cases ha:o.assoc with
 | false =>
  have cR:=cR (hD ha) (h3 ha);rw [eR fun ha'=>by rw [ha] at ha';cases ha'] at cR;refine fN 16 (aj10 @q2 @q3 @nl @nr @ha @h0 @ho @Zbb @Zag @tmz) ?_;refine gB ?_;refine fC (ai @Zbb @tmz) (cR) ?_;refine fR @tmz ?_;refine fN 19 @tmz ?_;refine gB ?_;have F:=ai @Zbb @tmz;refine gP 6 ?_;clear F;refine (have F:=tmz;gUp 1000 Zgi ZdN hnone ?_);refine fR @tmz ?_;refine fG @tmz ?_;exact (have F:=tmz;gTP (R:=ZfC g b t l) [1000] hR (hp:=rfl))
 | true =>
  have h1:1<=t.args.length:=om
  cases hc:o.comm with
  | true =>
   have cA:=cA ha hc h1;rw [eA ha hc] at cA;refine fN 18 (aj11 @q2 @q3 @nl @nr @ha @hc @h0 @ho @Zbb @Zag @tmz) ?_;refine gB ?_;refine fC (ai @Zbb @tmz) (cA) ?_;refine fR @tmz ?_;refine fN 19 @tmz ?_;refine gB ?_;have F:=ai @Zbb @tmz;refine gP 6 ?_;clear F;refine (have F:=tmz;gUp 1000 Zgi ZdN hnone ?_);refine fR @tmz ?_;refine fG @tmz ?_;exact (have F:=tmz;gTP (R:=ZfC g b t l) [1000] hR (hp:=rfl))
  | false =>
   have cW:=cW ha hc h1;rw [eC ha hc] at cW;refine fN 14 (aj11 @q2 @q3 @nl @nr @ha @hc @h0 @ho @Zbb @Zag @tmz) ?_;refine gB ?_;refine fC (ai @Zbb @tmz) (cW) ?_;refine fR @tmz ?_;refine fN 19 @tmz ?_;refine gB ?_;have F:=ai @Zbb @tmz;refine gP 6 ?_;clear F;refine (have F:=tmz;gUp 1000 Zgi ZdN hnone ?_);refine fR @tmz ?_;refine fG @tmz ?_;exact (have F:=tmz;gTP (R:=ZfC g b t l) [1000] hR (hp:=rfl))
end
section
variable {g:Sgn}
noncomputable def sortsOf (g:Sgn) (t:Tm):Nat:=if Zbn g=true∧ZbO g t=true then sortsTm g t else 0
theorem ZlR (hok:ZbY g) {t:Tm} (ht:okTm t) (hb:sizeTm t<=big):Con e0 67 [.agg (Zak g),.agg (Zab t)] [.one (.lit (.int .i64 ((sortsOf g t:Nat):Int)))]:=by
 have cT:=Zfi hok ht hb;unfold sortsOf;by_cases h:Zbn g=true∧ZbO g t=true
 ·have e:(Zbn g && ZbO g t)=true:=by rw [h.1,h.2];rfl
  have cS:=Zkd (ZcF.1 h.1) _ (Tan _) (ZcS.1 h.2).form;rw [if_pos h];rw [e] at cT;rw [Zak] at cT cS ⊢;refine gI (ts:=[.slot 4]) 287 Tryz.func67 ?_;refine fN 1 @tmz ?_;refine gB ?_;refine fC @tmz (cT) ?_;refine fR @tmz ?_;refine fN 3 @tmz ?_;refine gB ?_;refine fC @tmz (cS) ?_;refine fR @tmz ?_;exact fD @tmz
 ·have e:(Zbn g && ZbO g t)=false:=by
   cases h1:Zbn g with
   | false=>rfl
   | true =>
    cases h2:ZbO g t with
    | false=>rfl
    | true=>exact absurd ⟨h1,h2⟩ h
  have z0:(((0:Nat):Int))=0:=rfl;rw [if_neg h];rw [e] at cT;rw [Zak] at cT ⊢;refine gI (ts:=[.slot 4]) 287 Tryz.func67 ?_;refine fN 1 @tmz ?_;refine gB ?_;refine fC @tmz (cT) ?_;refine fR @tmz ?_;exact fD (ai @z0 @tmz)
def RAlg (g:Sgn) (r:List D) (pm:List Bk):Prop:=∃ b:Nat,r=[.one (.ptr (encX g (.lit (.map (some b))))),.one (.lit (.bool true))]∧pm=[mapB b []]
theorem Zhp (hok:ZbY g) (hg:SgnOk g):ConP e0 21 [.agg (Zak g)] [] (RAlg g):=by
 have hs:Zbn g=true:=Zde hg;have c:=ZjZ hok;rw [hs,Zak] at c;have c2:=ZiO hok.1 hg.sorts;rw [Za9,Zd5] at c2;rw [Zak];refine gIP (ts:=[.slot 2,.slot 3]) [] 287 Tryz.func21 ?_;refine fN 1 @tmz ?_;refine gB ?_;refine fC @tmz (c) ?_;refine fR @tmz ?_;refine fN 3 @tmz ?_;refine gB ?_;refine fC @tmz (c2) ?_;refine fR @tmz ?_;refine fN 4 @tmz ?_;refine gB ?_;have F:=@tmz;refine gP 2 ?_;clear F;refine gMk fun b=>?_
 refine fR @tmz ?_;refine Zcc (Zd2 [19] (by simp only [pz,↓reduceIte,Nat.reduceEqDiff,Nat.reduceAdd,Nat.reduceSub,Nat.reduceMul,Nat.reduceLeDiff,Nat.reduceBEq,Tam,decide_true,decide_false,Int.reduceLE,Int.reduceToNat,Int.reduceLT,Int.reduceEq,eq_self,Nat.reduceShiftRight,Nat.reduceAnd,Nat.reduceBneDiff,tmz];exact rfl)) fun σ' hσ=>?_;subst hσ;exact (have F:=tmz;gTP (R:=RAlg g) [17] ⟨b,rfl,rfl⟩ (hp:=rfl))
end
section
variable {g:Sgn} {l:List Bd}
theorem Zcg.term {t:Tm} (h:Zcg g t):TermOk g t:=by
 have ha0:t.args=[]:=h.2.2.2.2;have hf:ZaH g t:=ZaY.2 ⟨.inl h,(by rw [ha0];intro a ha;cases ha),.inl h.1⟩;have h1:=ZaM t;rw [ha0,ZmV] at h1;have h2:=Zli t;exact ⟨om,om,hf⟩
theorem TermOk.var {t:Tm} (h:TermOk g t) (ho:t.op=-1):Zcg g t:=h.form.node.resolve_right fun ⟨o,d,hA⟩=>by have:=hA.lo;omega
theorem Zhq (hok:ZbY g) (hl:Zcr l) (hv:∀ y∈l,sizeTm y.var<=big) (ht:∀ y∈l,sizeTm y.to<=big):Con e0 31 [.agg (Zak g),.one (.sl (Zaf l))] [.one (.lit (.bool (Zbn g && Zbu g l)))]:=by
 have cS:=Zhf hok;have bl:=ZaV l;have bg:=Zb4 l;have hT:=fun y (hy:y∈l)=>Zfi hok (hl y hy).1 (hv y hy);have hO:=fun y (hy:y∈l)=>ZlR hok (hl y hy).2 (ht y hy);have hC:=fun y z (hy:y∈l) (hz:z∈l)=>Zdl (hl y hy).1 (hl z hz).1;rw [Zak] at cS hT hO ⊢;have bb:ZaI 8 (Zaf l)=true:=by
  refine List.all_eq_true.2 fun r hr=>?_;obtain ⟨y,hy,rfl⟩:=Tbi.1 hr;simp [ZaO,List.all_append,tmz]
 refine gI (ts:=[.slot 4]) 1152991873351303287 Tryz.func31 ?_;refine fN 1 @tmz ?_;refine gB ?_;refine fC @tmz (cS) ?_
 cases hs:Zbn g with
 | false =>
  refine fR @tmz ?_;exact fD @tmz
 | true =>
 rw [Bool.true_and];by_cases h8:l.length<=8;rotate_left
 ·have q1:=lT 8 l.length;have hf:Zbu g l=false:=Zfz fun h=>h8 h.len;rw [hf];refine fR (aj3 @bl @q1 @tmz) ?_;exact fD @tmz
 have q1:=lF 8 l.length;refine fR (aj3 @bl @q1 @tmz) ?_;refine fG @tmz ?_;have F:=@tmz;refine gL (ι:=Nat) [4,5,6,18,46,60] [] (fun i=>[(5,A.d (.one (.lit (.int .i64 i))))]) (fun i=>[]) (fun i=>i<=l.length∧∀ (j:Nat) y,j < i->l[j]?=some y->SbsAt g l j y) (fun i=>l.length - i) (0) (⟨Taj _,fun j y h=>absurd h om⟩) (fun i hi=>?_);clear F;obtain ⟨hi,hall⟩:=hi;by_cases hil:i < l.length;rotate_left
 ·obtain rfl:i=l.length:=by omega
  have q2:=lF l.length l.length;have hf:Zbu g l=true:=ZlC ⟨h8,fun j y hj=>hall j y (Tad.1 hj).1 hj⟩;rw [hf];exact fD (aj3 @q2 @bl @tmz)
 have q2:=lT i l.length;obtain ⟨y,hy⟩:∃ y,l[i]?=some y:=⟨_,Taa hil⟩;have hym:=Tac hy;have hbad:¬ SbsAt g l i y->Zbu g l=false:=fun h=>Zfz fun h'=>h (h'.at' i y hy);have cT:=hT y hym;have cO:=hO y hym;rw [hs,Bool.true_and] at cT;refine fN 7 (aj8 @q2 @bl @bb @bg @hy @bdz @Zar @tmz) ?_;by_cases hop:y.var.op=-1;rotate_left
 ·have q3:(y.var.op=-1)=False:=eq_false hop;have hf:=hbad fun h=>hop h.var.1;rw [hf];exact fD (aj3 @q3 @bdz @tmz)
 have q3:(y.var.op=-1)=True:=eq_true hop;refine gB ?_;refine fC (aj3 @q3 @bdz @tmz) (cT) ?_;by_cases hTv:ZbO g y.var=true;rotate_left
 ·have hf:=hbad fun h=>hTv (Zfx h.var.term);have hTv:ZbO g y.var=false:=by simpa using hTv
  rw [hf,hTv];refine fR (ai @bdz @tmz) ?_;exact fD @tmz
 have hvo:=(ZcS.1 hTv).var hop;have hg:=ZcF.1 hs;rw [hTv];refine fC (ai @bdz @tmz) (cO) ?_;obtain ⟨k,hk⟩:∃ k:Nat,y.var.sort=k:=⟨y.var.sort.toNat,by have:=hvo.2.2.1;omega⟩;have hk8:k < 8:=by have:=hvo.2.2.2.1;have:=hg.sorts.n8;omega
 have hso:sortsOf g y.to < 4611686018427387904:=by
  unfold sortsOf;split
  ·next h=>exact ZbE (ZdI hg (ZcS.1 h.2).form.node) hg.sorts.n8
  ·omega
 have cH:=ZeP (k:=k) hso om;have hte:tbit (sortsOf g y.to) k=true ↔ TermOk g y.to∧(sortsTm g y.to).testBit y.var.sort.toNat=true:=by
  have e:y.var.sort.toNat=k:=om;rw [tbit,e];unfold sortsOf;by_cases h:ZbO g y.to=true
  ·rw [if_pos ⟨hs,h⟩];exact ⟨fun h1=>⟨ZcS.1 h,h1⟩,fun h1=>h1.2⟩
  ·rw [if_neg fun h1=>h h1.2,Nat.zero_testBit];exact ⟨fun h1=>(by cases h1),fun h1=>absurd (Zfx h1.1) h⟩
 rw [<- hk] at cH;refine fC (ai @bdz @tmz) (cH) ?_
 cases hb:tbit (sortsOf g y.to) k with
 | false =>
  have hf:=hbad fun h=>by rw [hte.2 ⟨h.to',h.srt⟩] at hb;cases hb
  rw [hf];refine fR (ai @bdz @tmz) ?_;exact fD @tmz
 | true =>
 obtain ⟨b1,b2⟩:=hte.1 hb;refine fR (ai @bdz @tmz) ?_;have hwi:=Zat (k:=i) om;have hnext:(∀ (j:Nat) p,i=j+1->l[j]?=some p->Zai p.var y.var < 0)->i+1<=l.length∧∀ (j:Nat) z,j < i+1->l[j]?=some z->SbsAt g l j z:=fun ho=>⟨hil,fun j z h1 h2=>by
  by_cases e:j=i
  ·subst e;rw [hy] at h2;injection h2 with h2
   subst h2;exact ⟨hvo,ho,b1,b2⟩
  ·exact hall j z om h2⟩
 by_cases hi0:i=0
 ·subst hi0;have q4:=lF 0 (0:Nat);have F:=aj4 @q4 @hwi @bdz @tmz;refine gG ?_;exact ⟨0+1,hnext fun j p h=>absurd h om,gw,gw,om⟩
 obtain ⟨j,rfl⟩:∃ j,i=j+1:=⟨i - 1,om⟩;have q4:=lT 0 (j+1:Nat);obtain ⟨p,hp⟩:∃ p,l[j]?=some p:=⟨_,Taa om⟩;have cC:=hC p y (Tac hp) hym;have wj:IntKind.i64.wrap (((j+1:Nat):Int) - 1)=(j:Int):=ZaJ om om om;have i1:(j < l.length)=True:=eq_true om;refine fN 9 @tmz ?_;refine gB ?_;refine fC (aj10 @q4 @wj @i1 @bl @bb @bg @hp @bdz @Zar @tmz) (cC) ?_;by_cases hcm:Zai p.var y.var < 0
 ·have q5:((0:Int)<=Zai p.var y.var)=False:=eq_false om;have hn2:=hnext fun j' p' h h1=>by
   obtain rfl:j=j':=by omega
   rw [hp] at h1;injection h1 with h1
   subst h1;exact hcm
  refine fR (aj3 @q5 @bdz @tmz) ?_;have F:=aj3 @hwi @bdz @tmz;refine gG ?_;exact ⟨j+1+1,hn2,gw,gw,om⟩
 ·have q5:((0:Int)<=Zai p.var y.var)=True:=eq_true om;have hf:=hbad fun h=>hcm (h.ord j p rfl hp);rw [hf];refine fR (aj3 @q5 @bdz @tmz) ?_;exact fD @tmz
end
theorem Zcg.eq_iff {g:Sgn} {a b:Tm} (ha:Zcg g a) (hb:Zcg g b):Zai a b=0 ↔ a.name=b.name∧a.sort=b.sort:=by
 rw [Zdz];obtain ⟨h1,_,_,_,h2⟩:=ha;obtain ⟨h3,_,_,_,h4⟩:=hb;obtain ⟨o,n,s,l⟩:=a;obtain ⟨o',n',s',l'⟩:=b;simp only [Tm.op,Tm.args] at h1 h2 h3 h4;subst h1 h2 h3 h4;simp [Tm.name,Tm.sort]
section
variable {g:Sgn} {l:List Bd}
theorem Znj {l:List Bd} {i:Nat} {y:Bd} (h:l[i]?=some y) (v:Tm):Zbx (l.drop i) v=if Zai y.var v=0 then some y.to else Zbx (l.drop (i+1)) v:=by
 obtain ⟨hi,rfl⟩:=Tad.1 h;rw [List.drop_eq_getElem_cons hi];rfl
theorem Zqy (hl:∀ y∈l,Zcg g y.var) (h8:l.length<=1000) {v:Tm} (hv:Zcg g v):Con e0 57 [.one (.sl (Zaf l)),.agg (Zab v)] [.agg (Zab ((Zbx l v).getD v)),.one (.lit (.bool (Zbx l v).isSome))]:=by
 have bl:=ZaV l;have bg:=Zb4 l;have bb:=bds8 l;refine gI (ts:=[.cell 4 36,.slot 5]) 134221755 Tryz.func57 ?_;refine fG (ai @bl @tmz) ?_;have F:=@tmz;refine gL (ι:=Nat) [5,7,10,11,27] [] (fun i=>[(10,A.d (.one (.lit (.int .i64 i))))]) (fun i=>[]) (fun i=>i<=l.length∧Zbx (l.drop i) v=Zbx l v) (fun i=>l.length - i) (0) (⟨Taj _,rfl⟩) (fun i hi=>?_);clear F;obtain ⟨hi,hlo⟩:=hi;by_cases hil:i < l.length
 rotate_left
 ·obtain rfl:i=l.length:=by omega
  have q2:=lF l.length l.length;rw [List.drop_length] at hlo;have e:Zbx l v=none:=hlo.symm;rw [e];have z1:(none:Option Tm).getD v=v:=rfl;exact fD (aj3 @q2 @z1 @tmz)
 have q2:=lT i l.length;obtain ⟨y,hy⟩:∃ y,l[i]?=some y:=⟨_,Taa hil⟩;rw [Znj hy] at hlo;have hyv:=hl y (Tac hy);have hwi:=Zat (k:=i) om;have he:=Zcg.eq_iff hyv hv;by_cases h1:y.var.name=v.name;rotate_left
 ·have q3:(y.var.name.toList==v.name.toList)=false:=beq_eq_false_iff_ne.2 fun h=>h1 (toList_inj h);rw [if_neg (fun h=>h1 (he.1 h).1)] at hlo;have F:=aj11 @q2 @q3 @hwi @bl @bb @bg @hy @bdz @Ztb @Zar @tmz;refine gG ?_;exact ⟨i+1,⟨hil,hlo⟩,gw,gw,om⟩
 have q3:(y.var.name.toList==v.name.toList)=true:=by rw [h1];exact beq_self_eq_true _
 by_cases h2:y.var.sort=v.sort;rotate_left
 ·have q4:(y.var.sort=v.sort)=False:=eq_false h2;rw [if_neg (fun h=>h2 (he.1 h).2)] at hlo;have F:=aj12 @q2 @q3 @q4 @hwi @bl @bb @bg @hy @bdz @Ztb @Zar @tmz;refine gG ?_;exact ⟨i+1,⟨hil,hlo⟩,gw,gw,om⟩
 have q4:(y.var.sort=v.sort)=True:=eq_true h2;rw [if_pos (he.2 ⟨h1,h2⟩)] at hlo;rw [<- hlo];have z1:(some y.to).getD v=y.to:=rfl;exact fD (aj12 @q2 @q3 @q4 @z1 @bl @bb @bg @hy @bdz @Ztb @Zar @tmz)
theorem Znk (hl:Zcr l) {v:Tm} (hv:okTm v) (h8:l.length<=1000):Con e0 34 [.one (.sl (Zaf l)),.agg (Zab v)] [.agg (Zab ((Zbx l v).getD zTm)),.one (.lit (.bool (Zbx l v).isSome))]:=by
 have bl:=ZaV l;have bg:=Zb4 l;have bb:=bds8 l;have hz:=ZeC;refine gI (ts:=[.cell 4 36,.slot 5]) 525435 Tryz.func34 ?_;refine fG (ai @bl @tmz) ?_;have F:=@tmz;refine gL (ι:=Nat) [5,6,10,19] [] (fun i=>[(6,A.d (.one (.lit (.int .i64 i))))]) (fun i=>[]) (fun i=>i<=l.length∧Zbx (l.drop i) v=Zbx l v) (fun i=>l.length - i) (0) (⟨Taj _,rfl⟩) (fun i hi=>?_);clear F;obtain ⟨hi,hlo⟩:=hi;by_cases hil:i < l.length
 rotate_left
 ·obtain rfl:i=l.length:=by omega
  have q2:=lF l.length l.length;rw [List.drop_length] at hlo;have e:Zbx l v=none:=hlo.symm;rw [e];have z1:(none:Option Tm).getD zTm=zTm:=rfl;exact fD (aj5 @q2 @z1 @hz @bl @tmz)
 have q2:=lT i l.length;obtain ⟨y,hy⟩:∃ y,l[i]?=some y:=⟨_,Taa hil⟩;rw [Znj hy] at hlo;have hwi:=Zat (k:=i) om;have cS:=Ze1 (hl y (Tac hy)).1 hv;refine fN 4 (aj3 @q2 @bl @tmz) ?_;refine gB ?_;refine fC (aj7 @bl @bb @bg @hy @bdz @Zar @tmz) (cS) ?_;by_cases h1:Zai y.var v=0;rotate_left
 ·have q3:decide (Zai y.var v=0)=false:=decide_eq_false h1;rw [if_neg h1] at hlo;rw [q3];refine fR @tmz ?_;have F:=aj3 @hwi @bdz @tmz;refine gG ?_;exact ⟨i+1,⟨hil,hlo⟩,gw,gw,om⟩
 have q3:decide (Zai y.var v=0)=true:=decide_eq_true h1;rw [if_pos h1] at hlo;rw [q3,<- hlo];have z1:(some y.to).getD zTm=y.to:=rfl;refine fR @tmz ?_;exact fD (aj8 @z1 @bl @bb @bg @hy @bdz @Zar @tmz)
structure SbsW (g:Sgn) (l:List Bd):Prop where
 len:l.length<=1000
 var:∀ y∈l,Zcg g y.var
 to':∀ y∈l,TermOk g y.to
theorem SbsOk.w (h:SbsOk g l):SbsW g l:=⟨Tbe h.len (by decide),h.var,h.to'⟩
theorem SbsW.okB (hg:SgnOk g) (h:SbsW g l):Zcr l:=fun y hy=>⟨ZaH.ok hg _ _ (Tan _) (h.var y hy).term.form,ZaH.ok hg _ _ (Tan _) (h.to' y hy).form⟩
noncomputable def ap6 (g:Sgn) (l:List Bd) (t:Tm):Tm:=if t.op=-1 then (Zbx l t).getD t else match apTs g l t.args with
 | none=>zTm
 | some us=>match g.ops[t.op.toNat]? with
  | none=>zTm
  | some o=>match o.decls[0]? with
   | none=>zTm
   | some d=>mk6 g o d t.op us
theorem ZsB {t:Tm} (h:t.op=-1):ap6 g l t=(Zbx l t).getD t:=by unfold ap6;rw [if_pos h]
theorem ZyB {t:Tm} (h:t.op≠-1) (hn:apTs g l t.args=none):ap6 g l t=zTm:=by unfold ap6;rw [if_neg h,hn]
theorem ZAZ {t:Tm} {us:List Tm} {o:Opr} {d:Dcl} (h:t.op≠-1) (hu:apTs g l t.args=some us) (ho:g.ops[t.op.toNat]?=some o) (hd:o.decls[0]?=some d):ap6 g l t=mk6 g o d t.op us:=by
 unfold ap6;rw [if_neg h,hu];simp only [ho,hd]
theorem Zpt {t u:Tm} (h:apT g l t=some u):ap6 g l t=u:=by
 by_cases ho:t.op=-1
 ·rw [Zgh ho,Taq] at h;rw [ZsB ho,h]
 ·rw [Zdv ho] at h;unfold ap6;rw [if_neg ho]
  cases h1:apTs g l t.args with
  | none=>rw [h1] at h;cases h
  | some us =>
   rw [h1,Option.bind_some] at h;unfold mkT at h
   cases h2:g.ops[t.op.toNat]? with
   | none=>rw [h2] at h;cases h
   | some o =>
    rw [h2] at h;simp only at h ⊢
    cases h3:o.decls[0]? with
    | none=>rw [h3] at h;cases h
    | some d =>
     rw [h3] at h;simp only at h ⊢;unfold mk6;rw [h];rfl
theorem Znl {mc:C} (hg:SgnOk g) (hS:SbsW g l):∀ (n:Nat) {t:Tm},sizeTm t < n->TermOk g t->Con e0 23 [.one (.ptr (encX g mc)),.one (.sl (Zaf l)),.agg (Zab t)] [.agg (Zab ((apT g l t).getD zTm)),.one (.lit (.bool (apT g l t).isSome))]:=by
 intro n
 induction n with
 | zero=>exact fun {t} h _=>absurd h om
 | succ n IH =>
 intro t hsz ht;have hz:=ZeC;have h60:=Zo1 ht;by_cases hop:t.op=-1
 ·have hv:=ht.var hop;have q1:(t.op < 0)=True:=eq_true om;have cB:=Zqy hS.var hS.len hv;have z1:(some ((Zbx l t).getD t)).getD zTm=(Zbx l t).getD t:=rfl;have z2:(some ((Zbx l t).getD t)).isSome=true:=rfl;rw [Zgh hop];refine gI (ts:=[.cell 6 36,.slot 7]) 2201036682727 Tryz.func23 ?_;refine fN 2 (ai @q1 @tmz) ?_;refine gB ?_;refine fC @tmz (cB) ?_;refine fR @tmz ?_;exact fD (aj3 @z1 @z2 @tmz)
 obtain ⟨o,d,hA⟩:=ht.form.node.resolve_left (fun hv=>hop hv.1);have q1:(t.op < 0)=False:=eq_false (by have:=hA.lo;omega);have cB:=fun us h1 h2=>ZwQ (mc:=mc) hg hA.lo hA.at' hA.fst us h1 h2;refine gI (ts:=[.cell 6 36,.slot 7]) 2201036682727 Tryz.func23 ?_;refine fG (ai @q1 @tmz) ?_;have F:=ai @Zcn @tmz;refine gL (ι:=Nat × List Tm) [7,10,12,13,14,29,30,41] [10] (fun x=>[(29,A.d (.one (.lit (.int .i64 x.1)))),(10,.buf 10)]) (fun x=>[(10,.buf none 36 4 (Zac x.2))]) (fun x=>x.1<=t.args.length∧apTs g l (t.args.take x.1)=some x.2) (fun x=>t.args.length - x.1) ((0,[])) (⟨Taj _,rfl⟩) (fun x hx=>?_);clear F
 obtain ⟨i,us⟩:=x;obtain ⟨hi,hus⟩:=hx;simp only at hi hus;dsimp only;have hul:=Zky hus;rw [List.length_take_of_le hi] at hul;have nl:=Zae us;have nr:ZaI 4 (Zac us)=true:=Zcy _;by_cases hil:i < t.args.length;rotate_left
 ·obtain rfl:i=t.args.length:=by omega
  have q2:=lF t.args.length t.args.length;rw [Tap] at hus;have e:apT g l t=mkO g o d t.op us:=by rw [Zdv hop,hus];exact Zd7 hA.at' hA.fst us
  have cB:=cB us (fun u hu=>by
   obtain ⟨a,ha,hau⟩:=ZgH hus u hu;exact Ze4 hg hS.to' _ a (Tan _) (ht.arg ha) hau) om
  rw [e];refine fN 13 (ai @q2 @tmz) ?_;refine gB ?_;refine fC @tmz (cB) ?_;refine fR @tmz ?_;exact fD @tmz
 have q2:=lT i t.args.length;obtain ⟨a,ha⟩:∃ a,t.args[i]?=some a:=⟨_,Taa hil⟩;have ham:=Tac ha;have hs1:=ZaM t;have hs2:=Za5 ham;have cA:=IH (t:=a) om (ht.arg ham);have hwi:=Zat (k:=i) om;have hmx:(us.length+1<=maxApp)=True:=eq_true (by unfold maxApp;omega);have hsn:apTs g l (t.args.take (i+1))=(apT g l a).map fun u=>us++[u]:=by rw [Zcm ha,ZiZ,hus];rfl
 refine fN 8 (aj4 @q2 @ha @Zar @tmz) ?_;refine gB ?_;refine fC (aj3 @ha @Zar @tmz) (cA) ?_;refine fR @tmz ?_
 cases hu:apT g l a with
 | none =>
  have z3:(none:Option Tm).isSome=false:=rfl;have z5:(none:Option Tm).getD zTm=zTm:=rfl;have e:apTs g l t.args=none:=Zi0 ham hu;have e2:apT g l t=none:=by rw [Zdv hop,e];rfl
  rw [e2];exact fD (aj4 @z3 @z5 @hz @tmz)
 | some u =>
  have z3:(some u).isSome=true:=rfl;have z5:(some u).getD zTm=u:=rfl;rw [hu] at hsn;have ns:Zac us++[Zab u]=Zac (us++[u]):=by simp [ZbZ]

  have F:=aj8 @z3 @z5 @nl @nr @ns @hmx @hwi @tmz;refine gG ?_;exact ⟨(i+1,us++[u]),⟨hil,hsn⟩,gw,gw,om⟩
theorem Zqz (hokg:ZbY g) (hg:SgnOk g) (hS:SbsW g l):∀ (n:Nat) {t:Tm},sizeTm t < n->TermOk g t->Con e0 32 [.agg (Zak g),.one (.sl (Zaf l)),.agg (Zab t)] [.agg (Zab (ap6 g l t)),.one (.lit (.bool (apT g l t).isSome))]:=by
 intro n
 induction n with
 | zero=>exact fun {t} h _=>absurd h om
 | succ n IH =>
 intro t hsz ht;have hz:=ZeC;have h60:=Zo1 ht;have hok2:=ZaH.ok hg _ t (Tan _) ht.form;have hokB:Zcr l:=hS.okB hg;by_cases hop:t.op=-1
 ·have q1:(t.op=-1)=True:=eq_true hop;have cB:=Znk hokB hok2 hS.len;have z2:(some ((Zbx l t).getD t)).isSome=true:=rfl;rw [ZsB hop,Zgh hop];rw [Zak] at *;refine gI (ts:=[.cell 6 36,.slot 7]) 70370900131823 Tryz.func32 ?_;refine fN 2 (ai @q1 @tmz) ?_;refine gB ?_;refine fC @tmz (cB) ?_;refine fR @tmz ?_
  cases hk:Zbx l t with
  | none =>
   have z1:(none:Option Tm).getD t=t:=rfl;have z3:(none:Option Tm).isSome=false:=rfl;rw [hk] at z2;exact fD (aj4 @z1 @z2 @z3 @tmz)
  | some u =>
   have z1:(some u).getD t=u:=rfl;have z3:(some u).isSome=true:=rfl;have z4:(some u).getD zTm=u:=rfl;rw [hk] at z2;exact fD (aj5 @z1 @z2 @z3 @z4 @tmz)
 obtain ⟨o,d,hA⟩:=ht.form.node.resolve_left (fun hv=>hop hv.1);have q1:(t.op=-1)=False:=eq_false hop;have cB:=fun us h1 h2=>Zto hokg hg hA.lo hA.at' hA.fst us h1 h2;rw [Zak] at *;refine gI (ts:=[.cell 6 36,.slot 7]) 70370900131823 Tryz.func32 ?_;refine fG (ai @q1 @tmz) ?_;have F:=ai @Zcn @tmz;refine gL (ι:=Nat × List Tm) [7,10,11,12,13,31,46] [10] (fun x=>[(11,A.d (.one (.lit (.int .i64 x.1)))),(10,.buf 10)]) (fun x=>[(10,.buf none 36 4 (Zac x.2))]) (fun x=>x.1<=t.args.length∧apTs g l (t.args.take x.1)=some x.2) (fun x=>t.args.length - x.1) ((0,[])) (⟨Taj _,rfl⟩) (fun x hx=>?_);clear F
 obtain ⟨i,us⟩:=x;obtain ⟨hi,hus⟩:=hx;simp only at hi hus;dsimp only;have hul:=Zky hus;rw [List.length_take_of_le hi] at hul;have nl:=Zae us;have nr:ZaI 4 (Zac us)=true:=Zcy _;by_cases hil:i < t.args.length;rotate_left
 ·obtain rfl:i=t.args.length:=by omega
  have q2:=lF t.args.length t.args.length;rw [Tap] at hus;have e:apT g l t=mkO g o d t.op us:=by rw [Zdv hop,hus];exact Zd7 hA.at' hA.fst us
  have cB:=cB us (fun u hu=>by
   obtain ⟨a,ha,hau⟩:=ZgH hus u hu;exact Ze4 hg hS.to' _ a (Tan _) (ht.arg ha) hau) om
  rw [e,ZAZ hop hus hA.at' hA.fst];refine fN 14 (ai @q2 @tmz) ?_;refine gB ?_;refine fC @tmz (cB) ?_;refine fR @tmz ?_;exact fD @tmz
 have q2:=lT i t.args.length;obtain ⟨a,ha⟩:∃ a,t.args[i]?=some a:=⟨_,Taa hil⟩;have ham:=Tac ha;have hs1:=ZaM t;have hs2:=Za5 ham;have cA:=IH (t:=a) om (ht.arg ham);have hwi:=Zat (k:=i) om;have hmx:(us.length+1<=maxApp)=True:=eq_true (by unfold maxApp;omega);have hsn:apTs g l (t.args.take (i+1))=(apT g l a).map fun u=>us++[u]:=by rw [Zcm ha,ZiZ,hus];rfl
 refine fN 10 (aj4 @q2 @ha @Zar @tmz) ?_;refine gLt 11 10 12 ?_;refine fC (aj3 @ha @Zar @tmz) (cA) ?_;refine fR @tmz ?_
 cases hu:apT g l a with
 | none =>
  have z3:(none:Option Tm).isSome=false:=rfl;have z5:(none:Option Tm).getD zTm=zTm:=rfl;have e:apTs g l t.args=none:=Zi0 ham hu;have e2:apT g l t=none:=by rw [Zdv hop,e];rfl
  rw [e2,ZyB hop e];exact fD (aj4 @z3 @z5 @hz @tmz)
 | some u =>
  have z3:(some u).isSome=true:=rfl;have z5:ap6 g l a=u:=Zpt hu;rw [hu] at hsn;have ns:Zac us++[Zab u]=Zac (us++[u]):=by simp [ZbZ]
  rw [z5];have F:=aj8 @z3 @z5 @nl @nr @ns @hmx @hwi @tmz;refine gG ?_;exact ⟨(i+1,us++[u]),⟨hil,hsn⟩,gw,gw,om⟩
end
section
variable {g:Sgn} {b:Nat}
def ZAi (g:Sgn) (b:Nat) (w:World):Prop:=(∀ c,c=b->¬ e0.E c)∧∃ M,Memo g M∧MapL w b M
noncomputable def eM (g:Sgn) (b:Nat):Env:=e0.plus (fun c=>c=b) (ZAi g b)
theorem eMP:∀ (g:Sgn) (b:Nat),(eM g b).P=Tryz.prog:=fun _ _=>rfl
theorem ZcY:Fits e0 (fun c=>c=b) (ZAi g b):=⟨fun w w' hz hE ⟨h1,M,h2,h3⟩=>⟨h1,M,h2,MapL.stable b M w w' hz hE h3⟩,fun w h=>h.1⟩
theorem ZBZ:(eM g b).Ok:=ZcY.ok Zjt
theorem Con.m {f:FuncId} {args r:List D} (h:Con e0 f args r):Con (eM g b) f args r:=Con.up ZcY h
theorem ConE.m {f:FuncId} {args:List D} {R:List D->Prop} (h:ConE e0 f args R):ConE (eM g b) f args R:=ConE.up ZcY h
theorem ConR.m {f:FuncId} {args:List D} {ty sz:Nat} {rows:List (List C)} (h:ConR e0 f args ty sz rows):ConR (eM g b) f args ty sz rows:=ConR.up ZcY h
theorem ConI.m {f:FuncId} {ty sz:Nat} {rows rows':List (List C)} {args r:List D} (h:ConI e0 f ty sz rows args rows' r):ConI (eM g b) f ty sz rows args rows' r:=ConI.up ZcY h
theorem ConT.m {f:FuncId} {ty sz:Nat} {rows rows':List (List C)} {args:List D} (h:ConT e0 f ty sz rows args rows'):ConT (eM g b) f ty sz rows args rows':=ConT.up ZcY h
theorem ConP.m {f:FuncId} {args:List D} {pm:List Bk} {R:List D->List Bk->Prop} (h:ConP e0 f args pm R):ConP (eM g b) f args pm R:=ConP.up ZcY h
theorem ConP.imp {e:Env} {f:FuncId} {args:List D} {pm:List Bk} {R R':List D->List Bk->Prop} (h:ConP e f args pm R) (hR:∀ r pm,R r pm->R' r pm):ConP e f args pm R' :=
 ⟨h.1,fun w S vs hS hE hG hpm hap hvs=>(h.2 w S vs hS hE hG hpm hap hvs).mono fun en w' ⟨v,r,pm',h1,hr,hk⟩=>⟨v,r,pm',h1,hR r pm' hr,hk⟩⟩
theorem ZlS (hg:SgnOk g) {t:Tm} (hs:sizeTm t<=60) (hf:ZaH g t):Con (eM g b) 56 [.one (.ptr (encX g (.lit (.map (some b))))),.agg (Zab t)] [.one (.lit (.int .i64 (sortsTm g t:Nat)))] :=
 ZyC (ι:=List (ByteArray × Value)) (G:=fun M w=>MapL w b M) (ok:=Memo g) ZcY (MapL.stable b) (fun w h=>h.2) (fun w M h1 h2 h3=>⟨h1,M,h2,h3⟩) (Zjb hg b _ (Tan _) hs hf [] Memo.nil).1
  fun M hM=>(Zjb hg b _ (Tan _) hs hf M hM).imp fun r pm ⟨M',h1,h2,h3,_⟩=>⟨h1,M',h3,h2⟩
theorem pM {mask:Nat} {c:Code} {s:List (Nat × A)} {m m2:List (Nat × Bk)} {Q:PX->St->Prop} (g:Sgn) (b k:Nat) (hK:pwp (eM g b) mask c ⟨s,m2⟩ Q) (hm:gm m k=some (mapB b []):=by exact snx) (hr:remM k m=m2:=by exact snv):pwp e0 mask c ⟨s,m⟩ Q:=by
 subst hr;exact ZsC k ZcY.st hm (fun hd=>⟨ZcY,fun w h=>⟨hd,[],Memo.nil,h⟩⟩) fun _=>hK
theorem gXm {K:St->Prop} {ds:List (Option Nat)} {os:List Oper} {d t ty:Nat} {p:String} {ed:Array Edge} {parts:List (Nat × Operand)} {s:List (Nat × A)} {m:List (Nat × Bk)} {cs cs':List C} (hK:Runs (eM g b) ds 0 os ⟨(d,.d (.agg cs'))::s,m⟩ K)
  (hz:ZdD e0.P t=some cs:=by exact sny) (hst:Zbv e0.P t=true:=by exact sny) (hok:cs.all Zau=true:=by first | rfl | exact sny) (hf:Zc4 e0.P t cs (parts.map fun p=>(p.1,evA s p.2))=some cs':=by exact sfv):Runs (eM g b) ds 0 (⟨some d,.build t parts.toArray,ty,p,ed,none⟩::os) ⟨s,m⟩ K:=gX hK hz hst hok hf
theorem ZsD (a k:Nat):(a &&& 2 ^ k=0) ↔ a.testBit k=false:=by
 constructor
 ·intro h;have:=congrArg (fun x=>x.testBit k) h;simpa [Nat.testBit_and,Nat.testBit_two_pow] using this
 ·intro h;refine Nat.eq_of_testBit_eq fun i=>?_;rw [Nat.testBit_and,Nat.testBit_two_pow,Nat.zero_testBit];by_cases e:k=i
  ·subst e;rw [h];rfl
  ·simp [e]
theorem tmM:type_of% (aj3 @tmz @eMP @Zbb):=aj3 @tmz @eMP @Zbb
end
section
variable {g:Sgn} {l:List Bd} {b:Nat}
theorem ZfR (hg:SgnOk g) (hl:Zcr l) (ht:∀ y∈l,sizeTm y.to<=big):Con (eM g b) 22 [.one (.ptr (encX g (.lit (.map (some b))))),.one (.sl (Zaf l))] [.one (.lit (.bool (Zbu g l)))]:=by
 have heM:=ZBZ (g:=g) (b:=b);have bl:=ZaV l;have bg:=Zb4 l;have hV:=fun y (hy:y∈l)=>(ZhC (mc:=.lit (.map (some b))) hg (t:=y.var) (by have:=(hl y hy).1;revert this;cases y.var;simp only [okTm,Tm.name];exact fun h=>h.2.1)).m (g:=g) (b:=b);have hT:=fun y (hy:y∈l)=>(Zj2 (mc:=.lit (.map (some b))) hg (hl y hy).2 (ht y hy)).m (g:=g) (b:=b);have hC:=fun y z (hy:y∈l) (hz:z∈l)=>(ZjV (hl y hy).1 (hl z hz).1).m (g:=g) (b:=b)
 have bb:ZaI 8 (Zaf l)=true:=by
  refine List.all_eq_true.2 fun r hr=>?_;obtain ⟨y,hy,rfl⟩:=Tbi.1 hr;simp [ZaO,List.all_append,tmz]
 by_cases h8:l.length<=8;rotate_left
 ·have q1:=lT 8 l.length;have hf:Zbu g l=false:=Zfz fun h=>h8 h.len;rw [hf];refine gI (ts:=[.slot 4]) 72057594037943923 Tryz.func22 ?_;exact fD (aj3 @q1 @bl @tmM)
 have q1:=lF 8 l.length;refine gI (ts:=[.slot 4]) 72057594037943923 Tryz.func22 ?_;refine fG (aj3 @q1 @bl @tmM) ?_;have F:=@tmM;refine gL (ι:=Nat) [4,5,6,12,13,56] [] (fun i=>[(12,A.d (.one (.lit (.int .i64 i))))]) (fun i=>[]) (fun i=>i<=l.length∧∀ (j:Nat) y,j < i->l[j]?=some y->SbsAt g l j y) (fun i=>l.length - i) (0) (⟨Taj _,fun j y h=>absurd h om⟩) (fun i hi=>?_);clear F;obtain ⟨hi,hall⟩:=hi;by_cases hil:i < l.length
 rotate_left
 ·obtain rfl:i=l.length:=by omega
  have q2:=lF l.length l.length;have hf:Zbu g l=true:=ZlC ⟨h8,fun j y hj=>hall j y (Tad.1 hj).1 hj⟩;rw [hf];exact fD (aj3 @q2 @bl @tmM)
 have q2:=lT i l.length;obtain ⟨y,hy⟩:∃ y,l[i]?=some y:=⟨_,Taa hil⟩;have hym:=Tac hy;have hbad:¬ SbsAt g l i y->Zbu g l=false:=fun h=>Zfz fun h'=>h (h'.at' i y hy);have cV:=hV y hym;refine fN 6 (aj8 @q2 @bl @bb @bg @hy @bdz @Zar @tmM) ?_;refine gB ?_;refine fC (ai @bdz @tmM) (cV) ?_;by_cases hvo:Zcg g y.var;rotate_left
 ·have hVf:Ze0 g y.var=false:=by simp [Ze0,hvo]
  have hf:=hbad fun h=>hvo h.var;rw [hVf,hf];refine fR (ai @bdz @tmM) ?_;exact fD @tmM
 have hVt:Ze0 g y.var=true:=by simp [Ze0,hvo]
 rw [hVt];obtain ⟨k,hk⟩:∃ k:Nat,y.var.sort=k:=⟨y.var.sort.toNat,by have:=hvo.2.2.1;omega⟩;have hk8:k < 8:=by have:=hvo.2.2.2.1;have:=hg.sorts.n8;omega
 have hkt:y.var.sort.toNat=k:=om;have hsh:=Zf6 (k:=k) om;have hwi:=Zat (k:=i) om;have cT:=hT y hym;have hnext:TermOk g y.to->(sortsTm g y.to).testBit k=true->(∀ (j:Nat) p,i=j+1->l[j]?=some p->Zai p.var y.var < 0)->i+1<=l.length∧∀ (j:Nat) z,j < i+1->l[j]?=some z->SbsAt g l j z:=fun b1 b2 ho=>⟨hil,fun j z h1 h2=>by
  by_cases e:j=i
  ·subst e;rw [hy] at h2;injection h2 with h2
   subst h2;exact ⟨hvo,ho,b1,by rw [hkt];exact b2⟩
  ·exact hall j z om h2⟩
 by_cases hi0:i=0
 ·subst hi0;have q4:=lF 0 (0:Nat);have hord:∀ (j:Nat) p,0=j+1->l[j]?=some p->Zai p.var y.var < 0:=fun j p h=>absurd h om;refine fC (aj4 @q4 @bdz @Zar @tmM) (cT) ?_
  cases hb:ZbO g y.to with
  | false =>
   have hf:=hbad fun h=>by rw [Zfx h.to'] at hb;cases hb
   rw [hf];refine fR (ai @bdz @tmM) ?_;exact fD @tmM
  | true =>
  have hto:=ZcS.1 hb;have hso:=ZbE (ZdI hg hto.form.node) hg.sorts.n8;have hba:=ZdF hso (show 2 ^ k < 4611686018427387904 from Tbd (Nat.pow_lt_pow_right om hk8) (by decide));have hbp:=ZsD (sortsTm g y.to) k;have cO:=ZlS (b:=b) hg hto.size hto.form;refine fC (ai @bdz @tmM) (cO) ?_
  cases hbt:(sortsTm g y.to).testBit k with
  | false =>
   have q6:(((sortsTm g y.to &&& 2 ^ k:Nat):Int)=0)=True:=eq_true (by rw [hbp.2 hbt];rfl);have hf:=hbad fun h=>by rw [<- hkt,h.srt] at hbt;cases hbt
   rw [hf];generalize 2 ^ k=K at *;refine fR (aj6 @hk @hsh @hba @q6 @bdz @tmM) ?_;exact fD @tmM
  | true =>
   have q6:(((sortsTm g y.to &&& 2 ^ k:Nat):Int)=0)=False:=eq_false (fun h=>by rw [hbp.1 om] at hbt;cases hbt);have hn2:=hnext hto hbt hord;generalize 2 ^ k=K at *;refine fR (aj6 @hk @hsh @hba @q6 @bdz @tmM) ?_;have F:=aj3 @hwi @bdz @tmM;refine gG ?_;exact ⟨0+1,hn2,gw,gw,om⟩
 obtain ⟨j,rfl⟩:∃ j,i=j+1:=⟨i - 1,om⟩;have q4:=lT 0 (j+1:Nat);obtain ⟨p,hp⟩:∃ p,l[j]?=some p:=⟨_,Taa om⟩;have cC:=hC p y (Tac hp) hym;have wj:IntKind.i64.wrap (((j+1:Nat):Int) - 1)=(j:Int):=ZaJ om om om;have i1:(j < l.length)=True:=eq_true om;refine fC (aj10 @q4 @wj @i1 @bl @bb @bg @hp @bdz @Zar @tmM) (cC) ?_;by_cases hcm:Zai p.var y.var < 0;rotate_left
 ·have q5:((0:Int)<=Zai p.var y.var)=True:=eq_true om;have hf:=hbad fun h=>hcm (h.ord j p rfl hp);rw [hf];refine fR (aj3 @q5 @bdz @tmM) ?_;exact fD @tmM
 have q5:((0:Int)<=Zai p.var y.var)=False:=eq_false om;have hord:∀ (j':Nat) p',j+1=j'+1->l[j']?=some p'->Zai p'.var y.var < 0:=fun j' p' h h1=>by
  obtain rfl:j=j':=by omega
  rw [hp] at h1;injection h1 with h1
  subst h1;exact hcm
 refine fC (aj4 @q5 @bdz @Zar @tmM) (cT) ?_
 cases hb:ZbO g y.to with
 | false =>
  have hf:=hbad fun h=>by rw [Zfx h.to'] at hb;cases hb
  rw [hf];refine fR (ai @bdz @tmM) ?_;exact fD @tmM
 | true =>
 have hto:=ZcS.1 hb;have hso:=ZbE (ZdI hg hto.form.node) hg.sorts.n8;have hba:=ZdF hso (show 2 ^ k < 4611686018427387904 from Tbd (Nat.pow_lt_pow_right om hk8) (by decide));have hbp:=ZsD (sortsTm g y.to) k;have cO:=ZlS (b:=b) hg hto.size hto.form;refine fC (ai @bdz @tmM) (cO) ?_
 cases hbt:(sortsTm g y.to).testBit k with
 | false =>
  have q6:(((sortsTm g y.to &&& 2 ^ k:Nat):Int)=0)=True:=eq_true (by rw [hbp.2 hbt];rfl);have hf:=hbad fun h=>by rw [<- hkt,h.srt] at hbt;cases hbt
  rw [hf];generalize 2 ^ k=K at *;refine fR (aj6 @hk @hsh @hba @q6 @bdz @tmM) ?_;exact fD @tmM
 | true =>
  have q6:(((sortsTm g y.to &&& 2 ^ k:Nat):Int)=0)=False:=eq_false (fun h=>by rw [hbp.1 om] at hbt;cases hbt);have hn2:=hnext hto hbt hord;generalize 2 ^ k=K at *;refine fR (aj6 @hk @hsh @hba @q6 @bdz @tmM) ?_;have F:=aj3 @hwi @bdz @tmM;refine gG ?_;exact ⟨j+1+1,hn2,gw,gw,om⟩
end
section
variable {g:Sgn} {l:List Bd}
theorem ZfS (hb:l.length+Zam (Zaf l)<=1048576):∀ y∈l,Zan (Zab y.var)<=1048576∧Zan (Zab y.to)<=1048576:=fun y hy=>by
 have h1:=Zi3 (List.mem_map_of_mem (f:=ZaO) hy);have h2:Zan (ZaO y)=Zan (Zab y.var)+Zan (Zab y.to):=Zpb _ _;have h3:Zam (l.map ZaO)=Zam (Zaf l):=rfl;omega
theorem ZhM {t:Tm} (h:TermOk g t):Zan (Zab t)<=1048576:=by
 have h1:=ZdA h.form;have h2:=h.size;omega
open Classical in
noncomputable def aS (g:Sgn) (l:List Bd) (t:Tm):Option Tm:=if Zbn g=true∧Zbu g l=true∧ZbO g t=true then apT g l t else none
theorem ZcZ:Zbu g l=true ↔ SbsOk g l:=by simp [Zbu]
theorem Zn9 {t u:Tm} (h:aS g l t=some u):TermOk g u:=by
 unfold aS at h;split at h
 ·next hc=>exact Ze4 (ZcF.1 hc.1) (ZcZ.1 hc.2.1).to' _ t (Tan _) (ZcS.1 hc.2.2) h
 ·cases h
end
theorem Zga {v u:Tm}:∀ {l:List Bd},Zei l->(Zbx l v=some u ↔ ∃ y∈l,y.var=v∧y.to=u)
 | [],_=>by simp [Zbx]
 | z::l,h=>by
  obtain ⟨h1,h2⟩:=List.pairwise_cons.1 h;simp only [Zbx];by_cases hz:Zai z.var v=0
  ·rw [if_pos hz];have hz:=Zdz.1 hz;refine ⟨fun e=>⟨z,Tas,hz,by injection e⟩,fun ⟨y,hy,hyv,hyu⟩=>?_⟩;rcases Tbg.1 hy with rfl | hy
   ·rw [hyu]
   ·exact absurd (Zdz.2 (hz.trans hyv.symm)) (h1 y hy)
  ·rw [if_neg hz,Zga h2];refine ⟨fun ⟨y,hy,q⟩=>⟨y,Tal _ hy,q⟩,fun ⟨y,hy,hyv,hyu⟩=>?_⟩;rcases Tbg.1 hy with rfl | hy
   ·exact absurd (Zdz.2 hyv) hz
   ·exact ⟨y,hy,hyv,hyu⟩
theorem Ztt {l m:List Bd} (h:l.Perm m) (hd:Zei l):Zei m:=h.pairwise hd fun {x y} q=>by rw [ZbP];omega
section
variable {g:Sgn} {a b c:List Bd}
theorem ZsE (hg:SgnOk g) (ha:SbsOk g a) (hb:SbsOk g b) {m:List Bd} (hm:mapA g b a=some m) (hc:c.Perm (m++Za0 a b)):∀ (n:Nat) {t x y z:Tm},sizeTm t < n->TermOk g t->apT g a t=some x->apT g b x=some y->apT g c t=some z->y=z
 | 0,t,_,_,_,hn,_,_,_,_=>om
 | n+1,t,x,y,z,hn,ht,hx,hy,hz=>by
  obtain ⟨hv1,hv2⟩:=ZeQ hm;have hda:=ha.up.dist;have hdm:=Zm9 hda hb.up.dist hv1;have hdc:=Ztt hc.symm hdm;by_cases ho:t.op=-1
  ·rw [Zgh ho] at hx hz;injection hx with hx
   injection hz with hz
   cases hl:Zbx a t with
   | some u =>
    rw [hl] at hx;have hx:u=x:=hx;obtain ⟨y0,hy0,e0,e1⟩:=(Zga hda).1 hl;have hvm:t∈m.map Bd.var:=by rw [hv1,<- e0];exact List.mem_map_of_mem hy0
    obtain ⟨w,hw,ew⟩:=Tbi.1 hvm;obtain ⟨y1,hy1,e2,e3⟩:=hv2 w hw;have e4:y1.to=u:=by
     have h1:=(Zga hda).2 ⟨y1,hy1,e2.symm.trans ew,rfl⟩;rw [hl] at h1;injection h1 with h1
     exact h1.symm
    have hlc:Zbx c t=some w.to:=(Zga hdc).2 ⟨w,hc.mem_iff.2 (List.mem_append_left _ hw),ew,rfl⟩;rw [hlc] at hz;have hz:w.to=z:=hz;rw [e4,hx,hy] at e3;injection e3 with e3
    exact e3.trans hz
   | none =>
    rw [hl] at hx;have hx:t=x:=hx;rw [<- hx,Zgh ho] at hy;injection hy with hy
    have hin:inA a t=false:=by rw [<- Zsq,hl];rfl
    have hno:∀ w∈m,w.var≠t:=fun w hw e=>by
     obtain ⟨y1,hy1,e2,_⟩:=hv2 w hw;have h1:=(Zga hda).2 ⟨y1,hy1,e2.symm.trans e,rfl⟩;rw [hl] at h1
     cases h1
    have key:Zbx c t=Zbx b t:=by
     cases hb1:Zbx b t with
     | some u =>
      obtain ⟨y0,hy0,e0,e1⟩:=(Zga hb.up.dist).1 hb1;exact (Zga hdc).2 ⟨y0,hc.mem_iff.2 (List.mem_append_right _ (List.mem_filter.2 ⟨hy0,by rw [e0,hin];rfl⟩)),e0,e1⟩
     | none =>
      cases hc1:Zbx c t with
      | none=>rfl
      | some u =>
       obtain ⟨y0,hy0,e0,e1⟩:=(Zga hdc).1 hc1;rcases Tbh.1 (hc.mem_iff.1 hy0) with q | q
       ·exact absurd e0 (hno y0 q)
       ·have:=(Zga hb.up.dist).2 ⟨y0,(List.mem_filter.1 q).1,e0,e1⟩;rw [hb1] at this
        cases this
    rw [key] at hz;exact hy.symm.trans hz
  ·obtain ⟨o,d,hA⟩:=ht.form.node.app ho;rw [Zdv ho] at hx hz
   cases h1:apTs g a t.args with
   | none=>rw [h1] at hx;cases hx
   | some us =>
   cases h2:apTs g c t.args with
   | none=>rw [h2] at hz;cases hz
   | some zs =>
   rw [h1,Option.bind_some] at hx;rw [h2,Option.bind_some] at hz;have hus:=Zm6 hg ha.to' (fun u hu=>ht.arg hu) h1;obtain ⟨q1,q2⟩:=ZAL hg hA.lo hA.at' hA.fst hb.to' hus hx hy;have h3:=ZkC q1;obtain ⟨e1,r1⟩:=ZfP h1;obtain ⟨e2,r2⟩:=ZfP h2;refine q2 _ z h3 ?_;rw [<- hz,e2,e1,List.map_map];congr 1;refine List.map_congr_left fun v hv=>?_;obtain ⟨u,hu⟩:=r1 v hv;obtain ⟨w,hw⟩:=r2 v hv;have hum:u∈us:=by rw [e1];exact Tbi.2 ⟨v,hv,by rw [apD,hu];rfl⟩
   obtain ⟨k,hk⟩:=q1 u hum;have hs:=Za5 hv;have hs2:=ZaM t;have:=ZsE hg ha hb hm hc n om (ht.arg hv) hu hk hw;show apD g b (apD g a v)=apD g c v;rw [apD,apD,apD,hu,hw];show (apT g b u).getD zTm=w;rw [hk];exact this
theorem Ztu {l:List Bd} {t u:Tm} (h:aS g l t=some u):SgnOk g∧SbsOk g l∧TermOk g t∧apT g l t=some u:=by
 unfold aS at h;split at h
 ·next hc=>exact ⟨ZcF.1 hc.1,ZcZ.1 hc.2.1,ZcS.1 hc.2.2,h⟩
 ·cases h
theorem ZyD {t x y z:Tm} (hc:cmS g a b=some c) (hx:aS g a t=some x) (hy:aS g b x=some y) (hz:aS g c t=some z):y=z:=by
 obtain ⟨hg,ha,ht,hx⟩:=Ztu hx;obtain ⟨_,hb,_,hy⟩:=Ztu hy;obtain ⟨_,_,_,hz⟩:=Ztu hz;unfold cmS at hc;split at hc;rotate_left
 ·cases hc
 cases hm:mapA g b a with
 | none=>rw [hm] at hc;cases hc
 | some m =>
  rw [hm,Option.bind_some] at hc;split at hc;rotate_left
  ·cases hc
  injection hc with hc
  subst hc;exact ZsE hg ha hb hm (ZcJ _) _ (Tan _) ht hx hy hz
theorem ZyE (hc:cmS g a b=some c):Zbu g c=true:=by
 unfold cmS at hc;split at hc;rotate_left
 ·cases hc
 cases hm:mapA g b a with
 | none=>rw [hm] at hc;cases hc
 | some m =>
  rw [hm,Option.bind_some] at hc;split at hc;rotate_left
  ·cases hc
  next h =>
  injection hc with hc
  subst hc;exact h
end
end Go.Proofs.YtmdkimnlbaahbaaGreatDoor
namespace Go.Proofs.YtmdkimnlbaahbaaGreatDoor
open Go.RowKit
open Go.Sort (grow HoldsK putRowK flatK SWO PermIn SortedIn Holds mapBlock onCells putRow putCells get_flatK size_flatK)
theorem Zxi {w w':World} (h:Kept True (fun _=>False) w.heap.size w w'):∃ q os,w'=grow (w.drewN q) os:=by
 obtain ⟨p,hp⟩:=regrown_of_below (w:=w) (w':=w') ⟨h.os,h.tape,h.output,h.size,fun k hk=>h.block k hk id⟩;have hd:=h.drawn trivial;have e:p.d=w'.drawn:=by rw [hp];rfl
 refine ⟨w'.drawn - w.drawn,p.os,?_⟩;have e2:redrawn w p.d=w.drewN (w'.drawn - w.drawn):=by
  unfold redrawn World.drewN;rw [e,show w.drawn+(w'.drawn - w.drawn)=w'.drawn by omega]
 rw [<- e2];exact hp
abbrev SRow (w:World) (S:Nat->Prop) (Q:List C->Prop):={x:List C × List Value // Q x.1∧Zad w S x.1 x.2}
theorem ZpA {w:World} {S:Nat->Prop} {b k:Nat} {Q:List C->Prop} (hk:∀ r,Q r->r.length=k):∀ (rows:List (List C)) (off:Nat),(∀ r∈rows,Q r)->Zap w S b off rows->∃ l:List (SRow w S Q),l.map (fun x=>x.1.1)=rows∧∀ (i:Nat) x,l[i]?=some x->∀ j u,x.1.2[j]?=some u->w.cell? ⟨b,off+i * k+j,none⟩=some u
 | [],off,_,_=>⟨[],rfl,fun i x h=>by simp at h⟩
 | r::rs,off,hQ,h=>by
  simp only [Zap] at h;obtain ⟨vs,h1,h2⟩:=h.1.vals;obtain ⟨l,e,hl⟩:=ZpA hk rs (off+r.length) (fun x hx=>hQ x (Tal _ hx)) h.2;have hr:=hQ r Tas;refine ⟨⟨(r,vs),hr,h1⟩::l,by simp [e],fun i x hi j u hj=>?_⟩
  cases i with
  | zero =>
   simp only [Tat,Taq] at hi;subst hi;have:=h2 j u hj
   rwa [Nat.zero_mul,Nat.add_zero]
  | succ i =>
   have:=hl i x (by simpa using hi) j u hj;rw [hk r hr] at this
   rwa [show off+(i+1) * k+j=off+k+i * k+j by rw [Nat.succ_mul];omega]
theorem ZlZ {w W:World} {S S2:Nat->Prop} {b k:Nat} {Q:List C->Prop} (hk:∀ r,Q r->r.length=k) (hv:∀ x:SRow w S Q,Zad W S2 x.1.1 x.1.2):∀ (l:List (SRow w S Q)) (off:Nat),(∀ (i:Nat) x,l[i]?=some x->∀ j u,x.1.2[j]?=some u->W.cell? ⟨b,off+i * k+j,none⟩=some u)->Zap W S2 b off (l.map (fun x=>x.1.1))
 | [],off,_=>by simp [Zap]
 | x::l,off,h=>by
  simp only [Tbu,Zap];refine ⟨Zaj.of_vals _ _ off (hv x) fun j u hj=>?_,?_⟩
  ·have:=h 0 x rfl j u hj
   rwa [Nat.zero_mul,Nat.add_zero] at this
  ·rw [hk _ x.2.1];refine ZlZ hk hv l (off+k) fun i y hi j u hj=>?_;have:=h (i+1) y (by simpa using hi) j u hj
   rwa [show off+(i+1) * k+j=off+k+i * k+j by rw [Nat.succ_mul];omega] at this
theorem ZpB {α:Type} [Inhabited α] {enc:α->List Value} {k:Nat} {W:World} {b:Nat} {d:Array α} (hk:∀ x,(enc x).length=k) (h:HoldsK enc k W b 0 d) {i:Nat} {x:α} (hi:d.toList[i]?=some x) {j:Nat} {u:Value} (hj:(enc x)[j]?=some u):W.cell? ⟨b,0+i * k+j,none⟩=some u:=by
 have hil:i < d.size:=by have:=(Tad.1 hi).1;simpa using this
 have hjl:j < k:=by have:=(Tad.1 hj).1;rwa [hk] at this
 have ht:i * k+j < d.size * k:=by
  have:=Nat.mul_le_mul_right k (show i+1<=d.size from hil);rw [Nat.succ_mul] at this;omega
 have h1:=(h (i * k+j) (by rw [size_flatK];exact ht)).1;rw [get_flatK _ _ _ _ ht,show (i * k+j) / k=i by rw [Nat.add_comm,Nat.add_mul_div_right _ _ om,Nat.div_eq_of_lt hjl,Nat.zero_add],show (i * k+j) % k=j by rw [Nat.add_comm,Nat.add_mul_mod_self_right,Nat.mod_eq_of_lt hjl]] at h1;have e1:d[i]! = x:=by
  rw [getElem!_pos d i hil];have:=(Tad.1 hi).2;simpa using this
 have e2:(enc x)[j]! = u:=by
  rw [getElem!_pos (enc x) j (by rw [hk];exact hjl)];exact (Tad.1 hj).2
 rw [e1,e2,<- Nat.add_assoc] at h1;exact h1
theorem Zxj {α:Type} [Inhabited α] {enc:α->List Value} {k:Nat} {w:World} {b:Nat} {l:List α} (hk:∀ x,(enc x).length=k) (hf:∀ o,w.frozen? ⟨b,o,none⟩=false) (h:∀ (i:Nat) x,l[i]?=some x->∀ j u,(enc x)[j]?=some u->w.cell? ⟨b,0+i * k+j,none⟩=some u):HoldsK enc k w b 0 l.toArray:=by
 intro t ht;refine ⟨?_,hf _⟩;rw [size_flatK] at ht;have ht':t < l.length * k:=by simpa using ht
 have k0 : 0 < k := by rcases Nat.eq_zero_or_pos k with e | e; · subst e; simp at ht'
                       ·exact e
 have hi:t / k < l.length:=Nat.div_lt_of_lt_mul (by rw [Nat.mul_comm];exact ht');have hj:t % k < k:=Nat.mod_lt _ k0;rw [get_flatK _ _ _ _ ht];have e1:l.toArray[t / k]! = l[t / k]:=by rw [getElem!_pos _ _ (by simpa using hi)];rfl
 rw [e1,getElem!_pos _ _ (by rw [hk];exact hj)];have:=h (t / k) l[t / k] (Taa hi) (t % k) _ (Taa (by rw [hk];exact hj))
 rwa [show 0+t / k * k+t % k=0+t by have:=Nat.div_add_mod' t k;omega] at this
theorem Zad.one {w:World} {S:Nat->Prop}:∀ {cs:List C} {us:List Value},cs.all Zau=true->Zad w S cs us->∀ v∈us,v.oneCell'=true
 | [],[],_,_,v,h=>by simp at h
 | c::cs,u::us,hc,h,v,hv=>by
  simp only [List.all_cons,Tar] at hc;simp only [Zad] at h;rcases Tbg.1 hv with rfl | hv
  ·exact Zf2 hc.1 h.1
  ·exact Zad.one hc.2 h.2 v hv
 | [],_::_,_,h,_,_=>by simp [Zad] at h
 | _::_,[],_,h,_,_=>by simp [Zad] at h
theorem ZyN {α:Type} [Inhabited α] {enc:α->List Value} {k:Nat} {w:World} {b n:Nat} {d:Array α} {os:Array Obj} {cur:Array Value} {ty:Nat} (hh:w.heap[b]?=some (.cells cur ty (0,0))):(sortWorldK enc k w b 0 n d os).heap[b]?=some (.cells (putCells id 0 (flatK enc k d) cur) ty (0,0)):=by
 have hb:b < w.heap.size:=(Tbl.1 hh).1;show ((w.heap.modify b (onCells (putCells id 0 (flatK enc k d))))++os)[b]?=_;rw [Array.getElem?_append_left (by simpa using hb),Array.getElem?_modify,if_pos rfl,hh];rfl
theorem ZkG {α:Type} [Inhabited α] {enc:α->List Value} {k:Nat} {w:World} {b n j:Nat} {d:Array α} {os:Array Obj} (hj:j < w.heap.size) (hne:j≠b):(sortWorldK enc k w b 0 n d os).heap[j]?=w.heap[j]?:=by
 show ((w.heap.modify b (onCells (putCells id 0 (flatK enc k d))))++os)[j]?=_;rw [Array.getElem?_append_left (by simpa using hj),Array.getElem?_modify,if_neg (fun e=>hne e.symm)]
theorem Zgj {α:Type} [Inhabited α] {enc:α->List Value} {k:Nat} {w:World} {b n:Nat} {d:Array α} {os:Array Obj}:w.heap.size<=(sortWorldK enc k w b 0 n d os).heap.size:=by
 show _<=((w.heap.modify b (onCells (putCells id 0 (flatK enc k d))))++os).size;simp
theorem Zxk {P:Program} (hP:e1.P=P) {ρ:Go.Shelf.Ren} (L:SlLaysF0.n6 P ρ) {k ty:Nat} (aE:∀ w,(isAgg (ρ.t 24)).run P w=.ok true w) (zE:∀ w,(Go.sizeOf (ρ.t 24)).run P w=.ok k w) (hbody:Zco P (ρ.f 6)=true) {g:FuncId} (eg:∀ args w,(callFunc g args).run P w=.ok (.enter g args) w)
  {rows rows':List (List C)} {cf:List C->List C->Int} (hlen:rows.length < 4611686018427387904) (hg:∀ a∈rows,∀ b∈rows,Con e1 g [.agg a,.agg b] [.one (.lit (.int .i64 (cf a b)))])
  (h1:∀ a∈rows,¬ cf a a < 0) (h2:∀ a∈rows,∀ b∈rows,∀ c∈rows,cf a b < 0->cf b c < 0->cf a c < 0) (h3:∀ a∈rows,∀ b∈rows,∀ c∈rows,¬ cf a b < 0->¬ cf b c < 0->¬ cf a c < 0)
  (hu:∀ l:List (List C),l.Perm rows->(∀ (i j:Nat) a b,i < j->l[i]?=some a->l[j]?=some b->¬ cf b a < 0)->l=rows'):ConI e1 (ρ.f 6) ty k rows [.one (.fn g [])] rows' []:=by
 refine ⟨by rw [hP];exact hbody,fun w S v0 vs hS hE hvE hG hbuf hargs=>?_⟩;rw [hP]
 match vs,hargs with
 | [u],hargs =>
  obtain ⟨⟨us,rfl,hus⟩,_⟩:(∃ us:List Value,u=.func (.func g) #[] us.toArray∧Zad w S [] us)∧True:=by simpa [Zav,DRel,Rep] using hargs
  have hus0:us=[]:=by cases us with
   | nil=>rfl
   | cons _ _=>simp [Zad] at hus
  subst hus0;obtain ⟨h0,hrl,hcase⟩:=hbuf;by_cases hne:rows=[]
  ·subst hne;have hr':rows'=[]:=(hu [] (List.Perm.refl _) (fun i j a b _ h=>by simp at h)).symm;subst hr';have hform:∃ p cap,v0=.slice p 0 cap:=by
    rcases hcase with ⟨_,a,rfl⟩ | ⟨b,cap,cur,rfl,_⟩
    ·exact ⟨a,0,rfl⟩
    ·exact ⟨_,cap,rfl⟩
   obtain ⟨p,cap,hv0⟩:=hform;rw [hv0];refine (AnyF.slices_SortFunc_none (P:=P) L p cap _ w).mono ?_;rintro e w' ⟨rfl,rfl⟩;rw [<- hv0];have hs:(fun b=>S b∨(w'.heap.size<=b∧b < w'.heap.size))=S:=by
    funext b;exact propext ⟨fun h=>h.elim id (fun h=>absurd h.2 om),.inl⟩
   refine ⟨_,rfl,Kept.refl ..,hG,?_,[],rfl,trivial⟩;rw [hs];exact ⟨h0,hrl,hcase⟩
  ·rcases hcase with ⟨e,_⟩ | ⟨b,cap,cur,rfl,hc,hbz,hSb,hh,hle,hmx,hcs,hrows⟩
   ·exact absurd e hne
   have hkr:∀ r,r∈rows->r.length=k:=fun r hr=>(hrl r hr).1;obtain ⟨l,hl,hcell⟩:=ZpA (k:=k) (Q:=fun r=>r∈rows) hkr rows 0 (fun r h=>h) hrows;have hll:l.length=rows.length:=by have:=congrArg List.length hl;rwa [Tay] at this
   obtain ⟨x0,hx0⟩:∃ x,x∈l:=List.exists_mem_of_ne_nil _ (fun e=>hne (Tao (by rw [<- hll,e];rfl)))
   letI:Inhabited (SRow w S (fun r=>r∈rows)):=⟨x0⟩
   have hk:∀ x:SRow w S (fun r=>r∈rows),x.1.2.length=k:=fun x=>by rw [x.2.2.len];exact hkr _ x.2.1
   have h1c:∀ x:SRow w S (fun r=>r∈rows),∀ v∈x.1.2,v.oneCell'=true:=fun x=>Zad.one (hrl _ x.2.1).2 x.2.2;have hH:HoldsK (fun x:SRow w S (fun r=>r∈rows)=>x.1.2) k w b 0 l.toArray:=Zxj hk (fun o=>frozen_of_row w b o cur ty hh) hcell
   have keepV:∀ (m:Nat) (os:Array Obj) (dk:Array (SRow w S (fun r=>r∈rows))) (S2:Nat->Prop),(∀ b,S b->S2 b)->∀ x:SRow w S (fun r=>r∈rows),Zad (sortWorldK (fun x:SRow w S (fun r=>r∈rows)=>x.1.2) k w b 0 m dk os) S2 x.1.1 x.1.2:=fun m os dk S2 hS2 x =>
    Zad.keep2 Zgj (fun b' o hb'=>Zbg (ZkG (hS b' hb').1 (fun e:b'=b=>hSb (by rw [<- e];exact hb'))) o) hS2 x.2.2
   have hvb:vblk (.slice (some ⟨b,0,none⟩) rows.length cap)=some b:=by simp only [vblk];rw [if_neg om]
   have keepG:∀ (m:Nat) (os:Array Obj) (dk:Array (SRow w S (fun r=>r∈rows))),e1.G (sortWorldK (fun x:SRow w S (fun r=>r∈rows)=>x.1.2) k w b 0 m dk os):=fun m os dk =>
    Zn2.keep w _ Zgj (fun b' hb'=>ZkG (hE b' hb') (fun e=>hvE b hvb (e ▸ hb'))) hG
   have hcmp:CmpLays P g #[] (fun x:SRow w S (fun r=>r∈rows)=>x.1.2) k (fun x y=>cf x.1.1 y.1.1) b 0 l.toArray.size w:=by
    intro m os dk hdk x y
    have hc:=(hg _ x.2.1 _ y.2.1).2 (sortWorldK (fun x:SRow w S (fun r=>r∈rows)=>x.1.2) k w b 0 m dk os) S [.agg x.1.2.toArray,.agg y.1.2.toArray] (fun b' hb'=>⟨Tbd (hS b' hb').1 Zgj,(hS b' hb').2⟩) (fun b' h=>Tbd (hE b' h) Zgj) (keepG m os dk)
     ⟨⟨_,rfl,keepV m os dk S (fun _ h=>h) x⟩,⟨_,rfl,keepV m os dk S (fun _ h=>h) y⟩,trivial⟩
    rw [hP] at hc;refine hc.mono ?_;rintro e w' ⟨v,rfl,hK,hG',hv⟩;have hv:v=.int .i64 (cf x.1.1 y.1.1):=by simpa [retA,ARel,DRel,Rep] using hv
    exact ⟨by rw [hv],Zxi (hK.all1 (keepG m os dk) hG')⟩
   have hO:SWO (ltOf (fun x y:SRow w S (fun r=>r∈rows)=>cf x.1.1 y.1.1)):=by
    refine ⟨fun x=>?_,fun x y z=>?_,fun x y z=>?_⟩ <;> simp only [ltOf,decide_eq_false_iff_not,decide_eq_true_eq]
    ·exact h1 _ x.2.1
    ·exact h2 _ x.2.1 _ y.2.1 _ z.2.1
    ·exact h3 _ x.2.1 _ y.2.1 _ z.2.1
   have hsort:=AnyQ.slices_SortFunc L k aE zE (fun x:SRow w S (fun r=>r∈rows)=>x.1.2) hk h1c (fun x y=>cf x.1.1 y.1.1) hO g #[] b 0 cap l.toArray w eg hcmp hH hbz (by simp only [List.size_toArray];omega);have hlz:l.toArray.size=rows.length:=by simpa using hll
   rw [hlz] at hsort;refine hsort.mono ?_;rintro e w' ⟨rfl,d',n,os,hp,hs,rfl⟩;obtain ⟨hp1,_,hp3⟩:=hp;rw [hlz] at hp1;have hex:∀ a:Array (SRow w S (fun r=>r∈rows)),a.size=rows.length->a.extract 0 rows.length=a:=fun a ha=>by rw [<- ha];simp
   rw [hex d' hp1,hex _ hlz] at hp3;have hperm:(d'.toList.map (fun x=>x.1.1)).Perm rows:=by
    have:=hp3.map (fun x:SRow w S (fun r=>r∈rows)=>x.1.1)
    rwa [show l.toArray.toList=l from rfl,hl] at this
   have hrows':d'.toList.map (fun x=>x.1.1)=rows':=hu _ hperm fun i j a c hij ha hc=>by
    simp only [Tba,Tav] at ha hc;obtain ⟨x,hx,rfl⟩:=ha;obtain ⟨y,hy,rfl⟩:=hc;have hjl:j < rows.length:=by have:=(Tad.1 hy).1;simpa [hp1] using this
    have:=hs i j (Taj _) hij hjl;have ex:d'[i]! = x:=by
     rw [getElem!_pos d' i om];have:=(Tad.1 hx).2;simpa using this
    have ey:d'[j]! = y:=by
     rw [getElem!_pos d' j om];have:=(Tad.1 hy).2;simpa using this
    rw [ex,ey] at this;simpa [ltOf] using this
   have hlr:rows'.length=rows.length:=by rw [<- hrows',Tay,Array.length_toList,hp1]
   have hW:HoldsK (fun x:SRow w S (fun r=>r∈rows)=>x.1.2) k (sortWorldK (fun x:SRow w S (fun r=>r∈rows)=>x.1.2) k w b 0 n d' os) b 0 d':=SWK.holds (d0:=l.toArray) ⟨n,os,rfl⟩ hbz hH (by rw [hp1,hlz]);refine ⟨_,rfl,⟨rfl,rfl,rfl,fun _=>Nat.le_add_right _ _,Zgj,fun j hj hn=>ZkG hj (fun e=>hn (.inr (by rw [hvb,e])))⟩,keepG n os d',⟨h0,fun r hr=>?_,.inr ⟨b,cap,_,by rw [hlr],hc,Tbd hbz Zgj,fun hn=>?_,ZyN hh,om,hmx,by simp [putCells,hcs],?_⟩⟩,[],rfl,trivial⟩
   ·rw [<- hrows'] at hr;exact hrl r (hperm.mem_iff.1 hr)
   ·rcases hn with hn | hn
    ·exact hSb hn
    ·omega
   ·rw [<- hrows'];exact ZlZ (Q:=fun r=>r∈rows) hkr (keepV n os d' _ (fun b hb=>.inl hb)) d'.toList 0 fun i x hi j u hj=>ZpB hk hW hi hj
end Go.Proofs.YtmdkimnlbaahbaaGreatDoor
namespace Go.Proofs.YtmdkimnlbaahbaaGreatDoor
open Go.Shelf
def Zxl:Ren:=⟨fun | 6=>27 | 15=>61 | 14=>60 | 28=>112 | 29=>113 | 20=>104 | 21=>105 | 22=>106 | 23=>107 | 24=>108 | 25=>109 | 26=>110 | 27=>111 | 46=>133 | 47=>134 | 48=>135 | 49=>136 | 50=>137 | 57=>146 | n=>n,fun | 22=>31 | 24=>59 | 25=>65 | 3=>3 | 39=>102 | 0=>0 | 53=>138 | 55=>140 | 4=>4 | 46=>132 | 45=>131 | 50=>125 | 5=>5 | 9=>9 | 66=>150 | 70=>154 | 76=>160 | 77=>161 | n=>n,fun | n=>n⟩
theorem ZB3:Go.Proofs.SlLaysF0.n6 Tryz.prog Zxl:={
 mixed:=by kernel_rfl,
 f6:=⟨Tryz.f27.name,by decide,Tryz.func27.trans (congrArg some (by kernel_rfl))⟩,
 f14:=⟨Tryz.f60.name,by decide,Tryz.func60.trans (congrArg some (by kernel_rfl))⟩,
 f15:=Tryz.func61.trans (congrArg some (by kernel_rfl)),
 f20:=⟨Tryz.f104.name,by decide,Tryz.func104.trans (congrArg some (by kernel_rfl))⟩,
 f21:=⟨Tryz.f105.name,by decide,Tryz.func105.trans (congrArg some (by kernel_rfl))⟩,
 f22:=⟨Tryz.f106.name,by decide,Tryz.func106.trans (congrArg some (by kernel_rfl))⟩,
 f23:=⟨Tryz.f107.name,by decide,Tryz.func107.trans (congrArg some (by kernel_rfl))⟩,
 f24:=⟨Tryz.f108.name,by decide,Tryz.func108.trans (congrArg some (by kernel_rfl))⟩,
 f25:=⟨Tryz.f109.name,by decide,Tryz.func109.trans (congrArg some (by kernel_rfl))⟩,
 f26:=⟨Tryz.f110.name,by decide,Tryz.func110.trans (congrArg some (by kernel_rfl))⟩,
 f27:=⟨Tryz.f111.name,by decide,Tryz.func111.trans (congrArg some (by kernel_rfl))⟩,
 f28:=Tryz.func112.trans (congrArg some (by kernel_rfl)),
 f29:=Tryz.func113.trans (congrArg some (by kernel_rfl)),
 f46:=⟨Tryz.f133.name,by decide,Tryz.func133.trans (congrArg some (by kernel_rfl))⟩,
 f47:=Tryz.func134.trans (congrArg some (by kernel_rfl)),
 f48:=Tryz.func135.trans (congrArg some (by kernel_rfl)),
 f49:=⟨Tryz.f136.name,by decide,Tryz.func136.trans (congrArg some (by kernel_rfl))⟩,
 f50:=⟨Tryz.f137.name,by decide,Tryz.func137.trans (congrArg some (by kernel_rfl))⟩,
 f57:=⟨Tryz.f146.name,by decide,Tryz.func146.trans (congrArg some (by kernel_rfl))⟩,
 t0:=Tryz.underlying0,
 a0:=Tryz.isAgg0,
 z0:=Tryz.sizeOf0,
 v0:=Tryz.zeroValue0,
 t3:=Tryz.underlying3,
 a3:=Tryz.isAgg3,
 z3:=Tryz.sizeOf3,
 v3:=Tryz.zeroValue3,
 t4:=Tryz.underlying4,
 a4:=Tryz.isAgg4,
 z4:=Tryz.sizeOf4,
 v4:=Tryz.zeroValue4,
 t5:=Tryz.underlying5,
 a5:=Tryz.isAgg5,
 z5:=Tryz.sizeOf5,
 v5:=Tryz.zeroValue5,
 t9:=Tryz.underlying9,
 a9:=Tryz.isAgg9,
 z9:=Tryz.sizeOf9,
 v9:=Tryz.zeroValue9,
 t22:=Tryz.underlying31,
 a22:=Tryz.isAgg31,
 z22:=Tryz.sizeOf31,
 v22:=Tryz.zeroValue31,
 t25:=Tryz.underlying65,
 a25:=Tryz.isAgg65,
 z25:=Tryz.sizeOf65,
 v25:=Tryz.zeroValue65,
 t39:=Tryz.underlying102,
 a39:=Tryz.isAgg102,
 z39:=Tryz.sizeOf102,
 v39:=Tryz.zeroValue102,
 t45:=Tryz.underlying131,
 a45:=Tryz.isAgg131,
 z45:=Tryz.sizeOf131,
 v45:=Tryz.zeroValue131,
 t46:=Tryz.underlying132,
 a46:=Tryz.isAgg132,
 z46:=Tryz.sizeOf132,
 v46:=Tryz.zeroValue132,
 t50:=Tryz.underlying125,
 a50:=Tryz.isAgg125,
 z50:=Tryz.sizeOf125,
 v50:=Tryz.zeroValue125,
 t53:=Tryz.underlying138,
 a53:=Tryz.isAgg138,
 z53:=Tryz.sizeOf138,
 v53:=Tryz.zeroValue138,
 t55:=Tryz.underlying140,
 a55:=Tryz.isAgg140,
 z55:=Tryz.sizeOf140,
 v55:=Tryz.zeroValue140,
 t66:=Tryz.underlying150,
 a66:=Tryz.isAgg150,
 z66:=Tryz.sizeOf150,
 v66:=Tryz.zeroValue150,
 t70:=Tryz.underlying154,
 a70:=Tryz.isAgg154,
 z70:=Tryz.sizeOf154,
 v70:=Tryz.zeroValue154,
 t76:=Tryz.underlying160,
 a76:=Tryz.isAgg160,
 z76:=Tryz.sizeOf160,
 v76:=Tryz.zeroValue160,
 t77:=Tryz.underlying161,
 a77:=Tryz.isAgg161,
 z77:=Tryz.sizeOf161,
 v77:=Tryz.zeroValue161 }
end Go.Proofs.YtmdkimnlbaahbaaGreatDoor
namespace Go.Proofs.YtmdkimnlbaahbaaGreatDoor
open Go.RowKit
theorem ZA4 {f:FuncId} {ty sz:Nat} {rows rows':List (List C)} {args r:List D} (h:ConI e1 f ty sz rows args rows' r):ConI e0 f ty sz rows args rows' r :=
 ⟨h.1,fun w S v0 vs h1 h2 h3 h4 h5 h6=>(h.2 w S v0 vs h1 h2 h3 h4 h5 h6).mono fun en w' ⟨v,k1,k2,k3⟩=>⟨v,k1,⟨k2.os,k2.tape,k2.output,fun d=>d.elim,k2.size,k2.block⟩,k3⟩⟩
theorem ZtC {t x:Tm} {ts:List Tm} {i:Nat} (hx:ts[i]?=some x) (h:ZbC t ts=ts.take i++ZbC t (ts.drop i)) (hc:Zai x t < 0):ZbC t ts=ts.take (i+1)++ZbC t (ts.drop (i+1)):=by
 obtain ⟨hl,e⟩:=Tad.1 hx;rw [h,List.drop_eq_getElem_cons hl,e,ZbC,if_pos hc];simp [List.take_add_one,hx]
theorem ZtD {t x:Tm} {ts:List Tm} {i:Nat} (hx:ts[i]?=some x) (h:ZbC t ts=ts.take i++ZbC t (ts.drop i)) (hc:Zai x t=0):ZbC t ts=ts:=by
 obtain ⟨hl,e⟩:=Tad.1 hx;rw [h,List.drop_eq_getElem_cons hl,e,ZbC,if_neg om,if_pos hc,<- e,<- List.drop_eq_getElem_cons hl,Tbm]
theorem ZtE {t x:Tm} {ts:List Tm} {i:Nat} (hx:ts[i]?=some x) (h:ZbC t ts=ts.take i++ZbC t (ts.drop i)) (h1:¬ Zai x t < 0) (h2:¬ Zai x t=0):ZbC t ts=ts.take i++[t]++ts.drop i:=by
 obtain ⟨hl,e⟩:=Tad.1 hx;rw [h,List.drop_eq_getElem_cons hl,e,ZbC,if_neg h1,if_neg h2];simp
theorem Zxm {t:Tm} {ts:List Tm} {i:Nat} (hi:ts.length<=i) (h:ZbC t ts=ts.take i++ZbC t (ts.drop i)):ZbC t ts=ts.take i++[t]++ts.drop i:=by
 rw [h,List.drop_eq_nil_of_le hi,ZbC];simp
theorem ZpC (ts:List Tm) (t:Tm) (hts:ZaF ts) (ht:okTm t) (hl:ts.length<=8000000):Con e0 139 [.one (.sl (Zac ts)),.agg (Zab t)] [.one (.sl (Zac (ZbC t ts)))]:=by
 refine gI (ts:=[.slot 4]) 8590459003 Tryz.func139 ?_;refine fG @tmz ?_;have F:=@tmz;refine gL (ι:=Nat) [5,19] [] (fun x=>[(5,.d (.one (.lit (.int .i64 (x:Int)))))]) (fun x=>[]) (fun x=>x<=ts.length∧ZbC t ts=ts.take x++ZbC t (ts.drop x)) (fun x=>ts.length - x) (0) (⟨Taj _,rfl⟩) (fun x hx=>?_);clear F;obtain ⟨hi,hf⟩:=hx;by_cases hlt:x < ts.length
 ·obtain ⟨a,ha⟩:∃ n,ts[x]?=some n:=⟨_,Taa hlt⟩;have q1:=lT x ts.length;have q4:IntKind.i64.wrap ((x:Int)+1)=(x:Int)+1:=IntWalk.i64_in _ om;have hcmp:=Zdl (hts.mem (Tac ha)) ht;refine fB (ai @q1 @tmz) ?_;refine fC (aj3 @q1 @tmz @ha) (hcmp) ?_;by_cases hc:Zai a t < 0
  ·have q2:(Zai a t < 0)=True:=eq_true hc;refine fR (aj3 @q1 @q2 @tmz) ?_;have hs:=ZtC ha hf hc;have F:=ai @q4 @q2;refine gG ?_;exact ⟨x+1,⟨hlt,hs⟩,gw,gw,om⟩
  ·have q2:(Zai a t < 0)=False:=eq_false hc;refine fR (aj3 @q1 @q2 @tmz) ?_;refine fB (aj3 @q1 @q2 @tmz) ?_;refine fC (aj3 @q1 @tmz @ha) (Ze1 (hts.mem (Tac ha)) ht) ?_;by_cases h0:Zai a t=0
   ·have q3:decide (Zai a t=0)=true:=decide_eq_true h0;refine fR (aj3 @q1 @q3 @tmz) ?_;rw [ZtD ha hf h0];exact fD (ai @q3 @tmz)
   ·have q3:decide (Zai a t=0)=false:=decide_eq_false h0;refine fR (aj3 @q1 @q3 @tmz) ?_;have hins:=ZtE ha hf hc h0;refine fN 6 (ai @q3 @tmz) ?_;rw [hins,ZbI,ZbI,Zcl,<- Zer,<- Zes];have hxl:((x:Int)<=(ts.length:Int))=True:=eq_true om;have r1:ZaI 4 ((Zac ts).take x)=true:=by rw [Zer];exact Zcy _
    have r2:ZaI 4 ((Zac ts).drop x)=true:=by rw [Zes];exact Zcy _
    have n1:((Zac ts).take x).length<=8000000:=by rw [Taw,Zae];omega
    have n2:((Zac ts).drop x).length<=8000000:=by rw [Tax,Zae];omega
    have n3:((Zac ts).take x).length+1<=maxApp:=by unfold maxApp;omega
    have n4:((Zac ts).take x).length+1+((Zac ts).drop x).length<=maxApp:=by unfold maxApp;omega
    have F:=aj6 r1 r2 hxl n3 n4 tmz;refine gA 7 4 ?_ (.inl rfl) ?_
    ·show 0+_<=maxApp;unfold maxApp;omega
    clear F;refine fR (aj6 @r1 @r2 @hxl @n3 @n4 @tmz) ?_;have tkA:(Zac ts).take ts.length=Zac ts:=by rw [<- Zae ts,Tap]
    have n5:((Zac ts).take x++[Zab t]).length+((Zac ts).drop x).length<=maxApp:=by simp only [Tae,Tag,Tak];omega
    have hll:((ts.length:Int)<=(ts.length:Int))=True:=eq_true (Int.le_refl _);have F:=aj9 @r1 @r2 @hxl @n3 @n4 @n5 @hll @tkA @tmz;refine gG ?_;exact gTz [4]
 ·have q1:=lF x ts.length;have hins:=Zxm om hf;refine fN 6 (ai @q1 @tmz) ?_;rw [hins,ZbI,ZbI,Zcl,<- Zer,<- Zes];have hxl:((x:Int)<=(ts.length:Int))=True:=eq_true om;have r1:ZaI 4 ((Zac ts).take x)=true:=by rw [Zer];exact Zcy _
  have r2:ZaI 4 ((Zac ts).drop x)=true:=by rw [Zes];exact Zcy _
  have n1:((Zac ts).take x).length<=8000000:=by rw [Taw,Zae];omega
  have n2:((Zac ts).drop x).length<=8000000:=by rw [Tax,Zae];omega
  have n3:((Zac ts).take x).length+1<=maxApp:=by unfold maxApp;omega
  have n4:((Zac ts).take x).length+1+((Zac ts).drop x).length<=maxApp:=by unfold maxApp;omega
  have F:=aj6 r1 r2 hxl n3 n4 tmz;refine gA 7 4 ?_ (.inl rfl) ?_
  ·show 0+_<=maxApp;unfold maxApp;omega
  clear F;refine fR (aj6 @r1 @r2 @hxl @n3 @n4 @tmz) ?_;have tkA:(Zac ts).take ts.length=Zac ts:=by rw [<- Zae ts,Tap]
  have n5:((Zac ts).take x++[Zab t]).length+((Zac ts).drop x).length<=maxApp:=by simp only [Tae,Tag,Tak];omega
  have hll:((ts.length:Int)<=(ts.length:Int))=True:=eq_true (Int.le_refl _);have F:=aj9 @r1 @r2 @hxl @n3 @n4 @n5 @hll @tkA @tmz;refine gG ?_;exact gTz [4]
def colT (l:List Tm) (r:List Tm):List Tm:=l.foldl (fun r t=>ZbC t r) r
theorem colT_nil0 {ts:List Tm}:colT (Za2 []) ts=ts:=by simp [colT,Za2]
theorem ZyO (a b r:List Tm):colT (a++b) r=colT b (colT a r):=by unfold colT;rw [List.foldl_append]
theorem Znq (t:Tm):∀ l:List Tm,(ZbC t l).length<=l.length+1
 | []=>by simp [ZbC]
 | x::xs=>by
  have:=Znq t xs;simp only [ZbC];split
  ·simp only [Tag];omega
  ·split <;> simp only [Tag] <;> omega
theorem ZkH:∀ (l r:List Tm),(colT l r).length<=r.length+l.length
 | [],r=>by simp [colT]
 | x::xs,r=>by
  have h1:=ZkH xs (ZbC x r);have h2:=Znq x r;simp only [colT,List.foldl_cons,Tag] at h1 ⊢;omega
theorem ZpD {t:Tm} (ht:okTm t):∀ {l:List Tm},ZaF l->ZaF (ZbC t l)
 | [],_=>by simp only [ZbC,ZaF];exact ⟨ht,trivial⟩
 | x::xs,h=>by
  simp only [ZaF] at h;simp only [ZbC];split
  ·simp only [ZaF];exact ⟨h.1,ZpD ht h.2⟩
  ·split
   ·simp only [ZaF];exact h
   ·simp only [ZaF];exact ⟨ht,h⟩
theorem ZsH:∀ {l r:List Tm},ZaF l->ZaF r->ZaF (colT l r)
 | [],r,_,h=>h
 | x::xs,r,h1,h2=>by
  simp only [ZaF] at h1;exact ZsH (l:=xs) (r:=ZbC x r) h1.2 (ZpD h1.1 h2)
theorem Zje:∀ {a b:List Tm},ZaF a->ZaF b->ZaF (a++b)
 | [],_,_,h=>h
 | x::xs,b,h1,h2=>by
  simp only [ZaF] at h1;simp only [Taf,ZaF];exact ⟨h1.1,Zje h1.2 h2⟩
mutual
theorem ZpE:∀ t:Tm,(ZbD t).length<=1+Zan (Zab t)
 | .mk op nm so args=>by
  have:=Znr args;simp only [ZbD,Zab,Zan,Zdm,Zae];split
  ·simp
  ·omega
theorem Znr:∀ ts:List Tm,(Za2 ts).length<=ts.length+Zam (Zac ts)
 | []=>by simp [Za2]
 | t::ts=>by
  have h1:=ZpE t;have h2:=Znr ts;simp only [Za2,Zac,Zam,Tae,Tag];omega
end
theorem Zjf:∀ (l:List Tm) (t:Tm),Za2 (l++[t])=Za2 l++ZbD t
 | [],t=>by simp [Za2]
 | x::xs,t=>by simp [Za2,Zjf xs t]
theorem ZpF {l:List Tm} {i:Nat} {t:Tm} (h:l[i]?=some t):Za2 (l.take (i+1))=Za2 (l.take i)++ZbD t:=by
 rw [show l.take (i+1)=l.take i++[t] by simp [List.take_add_one,h],Zjf]
theorem Zl0:∀ (l:List Tm) (i:Nat),(Za2 (l.take i)).length<=(Za2 l).length
 | [],i=>by simp [Za2]
 | x::xs,0=>by simp [Za2]
 | x::xs,i+1=>by have:=Zl0 xs i;simp only [Tbc,Za2,Tae];omega
theorem ZqF:Zac []=[]:=by simp [Zac]
theorem Zg7 (nm:ByteArray) (so:Int):Con e0 52 [.one (.lit (.string nm)),.one (.lit (.int .i64 so))] [.agg (Zab (.mk (-1) nm so []))]:=by
 have c1:Zab (.mk (-1) nm so [])=[.lit (.int .i64 (-1)),.lit (.string nm),.lit (.int .i64 so),.sl []]:=by simp only [Zab,Zac]
 rw [c1];refine gI (ts:=[.cell 4 36]) 19 Tryz.func52 ?_;exact fD @e0P
theorem Zxn {e:Env} {f:FuncId} {a:D} {rows:List (List C)} {r:List D} (h:Con e f [a,.one (.sl rows)] r):Con e f [a,.clip rows] r :=
 ⟨h.1,fun w S vs h1 h2 h3 h4=>h.2 w S vs h1 h2 h3 (by
  match vs,h4 with
  | [x,y],h4=>exact ⟨h4.1,h4.2.1.1,trivial⟩)⟩
theorem ZpG {op so:Int} {nm:ByteArray} {args:List Tm} (h:okTm (.mk op nm so args)):okTm (.mk (-1) nm so []):=by
 simp only [okTm,ZaF,and_true] at h ⊢;exact ⟨by unfold I64;omega,h.2.1,h.2.2.1⟩
mutual
theorem Zxo:∀ {t:Tm},okTm t->ZaF (ZbD t)
 | .mk op nm so args,h=>by
  simp only [ZbD];split
  ·simp only [ZaF];exact ⟨ZpG h,trivial⟩
  ·simp only [okTm] at h;exact Zij h.2.2.2
theorem Zij:∀ {l:List Tm},ZaF l->ZaF (Za2 l)
 | [],_=>by simp [Za2,ZaF]
 | x::xs,h=>by
  simp only [ZaF] at h;simp only [Za2];exact Zje (Zxo h.1) (Zij h.2)
end
theorem Zl1:∀ {l:List Tm} (i:Nat),ZaF l->ZaF (l.take i)
 | [],_,_=>by simp [ZaF]
 | x::xs,0,_=>by simp [ZaF]
 | x::xs,i+1,h=>by
  simp only [ZaF] at h;simp only [Tbc,ZaF];exact ⟨h.1,Zl1 i h.2⟩
theorem ZkI (t:Tm) (ts:List Tm) (ht:okTm t) (hts:ZaF ts) (hb:Zan (Zab t)<=1048576) (hl:ts.length+(ZbD t).length<=7000000) (h:∀ x∈t.args,∀ us:List Tm,ZaF us->us.length+(ZbD x).length<=7000000->Con e0 121 [.agg (Zab x),.one (.sl (Zac us))] [.one (.sl (Zac (colT (ZbD x) us)))]) :
  Con e0 121 [.agg (Zab t),.one (.sl (Zac ts))] [.one (.sl (Zac (colT (ZbD t) ts)))]:=by
 obtain ⟨op,nm,so,args⟩:=t;have hc:Zab (.mk op nm so args)=[.lit (.int .i64 op),.lit (.string nm),.lit (.int .i64 so),.sl (Zac args)]:=by simp only [Zab]
 simp only [Tm.args] at h;simp only [Zab,Zan,Zdm,Zae] at hb;refine gI (ts:=[.slot 4]) 1048887 Tryz.func121 ?_;by_cases ho:op=-1
 ·have q1:(op=-1)=True:=eq_true ho;have e1:ZbD (.mk op nm so args)=[.mk (-1) nm so []]:=by simp only [ZbD,if_pos ho]
  rw [e1] at hl ⊢;simp only [Tag,Tak,Nat.zero_add] at hl;have hI:=ZpC ts (.mk (-1) nm so []) hts (ZpG ht) om;refine fB (aj3 @hc @q1 @tmz) ?_;refine fC @hc (Zg7 nm so) ?_;refine fC @hc (hI) ?_;refine fR @hc ?_;simp only [colT,List.foldl_cons,List.foldl_nil];exact fD @tmz
 ·have q1:(op=-1)=False:=eq_false ho;have e1:ZbD (.mk op nm so args)=Za2 args:=by simp only [ZbD,if_neg ho]
  rw [e1] at hl ⊢;have hk:ZaF args:=by simp only [okTm] at ht;exact ht.2.2.2
  refine fG (aj3 @hc @q1 @tmz) ?_;have F:=ai ((fun (r:List Tm)=>(colT_nil0:colT (Za2 []) r=r))) @tmz;refine gL (ι:=Nat) [1,5,20] [] (fun x=>[(5,.d (.one (.lit (.int .i64 (x:Int))))),(1,.d (.one (.sl (Zac (colT (Za2 (args.take x)) ts)))))]) (fun x=>[]) (fun x=>x<=args.length) (fun x=>args.length - x) (0) (Taj _) (fun x hx=>?_);clear F;by_cases hlt:x < args.length
  ·obtain ⟨b,hg⟩:∃ b,args[x]?=some b:=⟨_,Taa hlt⟩;have q2:=lT x args.length;have q4:IntKind.i64.wrap ((x:Int)+1)=(x:Int)+1:=IntWalk.i64_in _ om;have hvt:=ZpF hg;have hle:=Zl0 args (x+1);rw [hvt,Tae] at hle;have hcl:=ZkH (Za2 (args.take x)) ts;have hcon:=h b (Tac hg) (colT (Za2 (args.take x)) ts) (ZsH (Zij (Zl1 x hk)) hts) om;rw [<- ZyO,<- hvt] at hcon;refine fB (aj3 @q2 @hc @tmz) ?_;refine fC (aj4 @q2 @hc @hg @tmz) (hcon) ?_
   refine fR @tmz ?_;have F:=@q4;refine gG ?_;exact ⟨x+1,hlt,gw,gw,om⟩
  ·obtain rfl:x=args.length:=by omega
   have q2:=lF args.length args.length;rw [Tap];exact fD (aj3 @q2 @hc @tmz)
theorem Zl2 (n:Nat):∀ t:Tm,Zct (Zab t) < n->okTm t->Zan (Zab t)<=1048576->∀ ts:List Tm,ZaF ts->ts.length+(ZbD t).length<=7000000->Con e0 121 [.agg (Zab t),.one (.sl (Zac ts))] [.one (.sl (Zac (colT (ZbD t) ts)))]:=by
 induction n with
 | zero=>exact fun _ h=>om
 | succ n ih =>
  intro t hn ht hb ts hts hl;refine ZkI t ts ht hts hb hl fun x hx us hus hl2=>?_;obtain ⟨op,nm,so,args⟩:=t;simp only [Zab,Zct,Zht] at hn;simp only [Zab,Zan,Zdm] at hb;simp only [okTm] at ht;simp only [Tm.args] at hx;obtain ⟨i,hi⟩:=Tbk hx;have hi':(Zac args)[i]?=some (Zab x):=by rw [ZbH,hi];rfl
  have h1:=ZeL hi';have h2:=ZeD hi';exact ih x om (ht.2.2.2.mem hx) om us hus hl2
theorem ZpH {t:Tm} (ht:okTm t) (hb:Zan (Zab t)<=1048576):Con e0 81 [.agg (Zab t)] [.one (.sl (Zac (ZhD t)))]:=by
 have hv:=ZpE t;have hcon:=Zl2 _ t (Tan _) ht hb [] trivial (by simp;omega);have hcon:=Zxn (by rw [ZqF] at hcon;exact hcon);rw [show colT (ZbD t) []=ZhD t from rfl] at hcon;refine gI (ts:=[.slot 2]) 7 Tryz.func81 ?_;refine fB @tmz ?_;refine fC @tmz (hcon) ?_;refine fR @tmz ?_;exact fD @tmz
def ZdK (k:Nat) (t:Tm):Prop:=okTm t∧sizeTm t<=k∧Zan (Zab t)+1<=13 * sizeTm t
theorem ZpI:∀ {ts:List Tm} {k:Nat},(∀ t∈ts,ZdK k t)->ZaF ts∧sizeTms ts<=ts.length * k∧Zam (Zac ts)+ts.length<=13 * sizeTms ts
 | [],k,_=>by simp [ZaF,sizeTms,Zac,Zam]
 | t::ts,k,h=>by
  obtain ⟨h1,h2,h3⟩:=ZpI (ts:=ts) (k:=k) fun t ht=>h t (Tal _ ht);obtain ⟨q1,q2,q3⟩:=h t Tas;simp only [ZaF,sizeTms,Zac,Zam,Tag,Nat.succ_mul];exact ⟨⟨q1,h1⟩,om,om⟩
theorem ZhP {op so:Int} {nm:ByteArray} {ts:List Tm} {k:Nat} (h0:-1<=op∧op<=1000) (h1:nm.size<=12) (h2:0<=so∧so<=1000) (h:∀ t∈ts,ZdK k t):ZdK (1+ts.length * k) (.mk op nm so ts):=by
 obtain ⟨q1,q2,q3⟩:=ZpI h;refine ⟨?_,?_,?_⟩
 ·simp only [okTm];exact ⟨⟨om,om⟩,by unfold maxLen;omega,⟨om,om⟩,q1⟩
 ·rw [ZaM];simp only [Tm.args];omega
 ·rw [ZhK,ZaM];simp only [Tm.args];omega
theorem ZdK.mono {k k':Nat} {t:Tm} (h:ZdK k t) (hk:k<=k'):ZdK k' t:=⟨h.1,by have:=h.2.1;omega,h.2.2⟩
def rawK:Nat->Nat
 | 0=>1
 | d+1=>1+3 * rawK d
theorem ZpJ:∀ d,1<=rawK d
 | 0=>Tai _
 | d+1=>by simp only [rawK];omega
def RawD (d:Nat) (t:Tm):Prop:=ZdK (rawK d) t∧depthTm t<=d+1
def RTm (P:Tm->Prop) (r:List D):Prop:=∃ t,P t∧r=[.agg (Zab t)]
theorem enc0 (op so:Int) (nm:ByteArray):Zab (.mk op nm so [])=[.lit (.int .i64 op),.lit (.string nm),.lit (.int .i64 so),.sl []]:=by simp only [Zab,Zac]
def xyz:List ByteArray:=[⟨#[120]⟩,⟨#[121]⟩,⟨#[122]⟩]
section
variable {x:Src} {b:Nat}
theorem ConE.args {e:Env} {f:FuncId} {lits data:List D} {R:List D->Prop} (h:ConE e f data R) (hd:∀ (w:World) (S:Nat->Prop) (vs:List Value),Zav w S lits vs->Zav w S data vs):ConE e f lits R:=⟨h.1,fun w S vs hS hE hG hvs=>h.2 w S vs hS hE hG (hd w S vs hvs)⟩
def RXyz (r:List D):Prop:=∃ nm:ByteArray,nm.size<=12∧r=[.one (.lit (.string nm))]
theorem ZpK (hx:x.Ok):ConE (eC x b) 47 [curD b,.clip [[.lit (.string ⟨#[120]⟩)],[.lit (.string ⟨#[121]⟩)],[.lit (.string ⟨#[122]⟩)]]] RXyz:=by
 have h:=(Znm (b:=b) hx (l:=xyz) (by decide) (by decide)).args (lits:=[curD b,.clip [[.lit (.string ⟨#[120]⟩)],[.lit (.string ⟨#[121]⟩)],[.lit (.string ⟨#[122]⟩)]]]) fun w S vs h=>by
  match vs,h with
  | [v1,v2],⟨h1,h2,_⟩=>exact ⟨h1,h2.1,trivial⟩
 refine ⟨h.1,fun w S vs hS hE hG hvs=>(h.2 w S vs hS hE hG hvs).mono fun en w' ⟨v,r,h1,⟨s,hs,hr⟩,h3⟩=>⟨v,r,h1,⟨s,?_,hr⟩,h3⟩⟩;simp only [xyz,Tbg,List.not_mem_nil,or_false] at hs;rcases hs with rfl | rfl | rfl <;> decide
theorem Zl3 (hx:x.Ok) {n:Nat} (h4:5<=n) (h20:n<=20):∀ (d:Nat),d<=8->ConE (eC x b) 19 [curD b,.one (.lit (.int .i64 n)),.one (.lit (.int .i64 d))] (RTm (ZdK (rawK d))):=by
 intro d
 induction d using Nat.strongRecOn with
 | _ d ih =>
 intro hd8;have he:=hx.okC (b:=b);refine gIE (ts:=[.cell 6 36]) 72058693549638087 Tryz.func19 ?_;refine fN 1 @tmC ?_;refine gM (ι:=Bool) [14] [] (fun y=>[(14,A.d (.one (.lit (.bool y))))]) (fun y=>[]) (fun y=>y=false->1<=d) ?_ (fun y hy=>Exists.intro _ (ai (Wk.refl _) ?_))
 ·refine gB ?_;by_cases h0:d=0
  ·have q1:((d:Int)<=0)=True:=eq_true om;refine fR (ai @q1 @tmC) ?_;have F:=@tmC;refine gG ?_;exact ⟨true,(by simp),gw,gw⟩
  ·have q1:((d:Int)<=0)=False:=eq_false om;have F:=ai @q1 @tmC;refine gCE (Zb2 (b:=b) hx (n:=4) (by decide) (by decide)) ?_;clear F;rintro r ⟨y,rfl⟩;refine fR @tmC ?_;have F:=@tmC;refine gG ?_;exact ⟨y,(fun _=>om),gw,gw⟩
 cases y with
 | true =>
  have hpos:=ZpJ d;refine fN 2 @tmC ?_;refine gB ?_;have F:=@tmC;refine gCE (Zb2 (b:=b) hx (n:=3) (by decide) (by decide)) ?_;clear F;rintro r ⟨y,rfl⟩;refine fR @tmC ?_
  cases y
  ·refine fN 4 @tmC ?_;refine gB ?_;have F:=@tmC;refine gCE (ZbX (b:=b) hx (n:=3) (by decide) (by decide)) ?_;clear F;rintro r ⟨k,hk,rfl⟩;refine fR @tmC ?_;have hr:=ZhP (op:=(k:Int)) (so:=0) (nm:=ByteArray.empty) (ts:=[]) (k:=0) om (by decide) om (fun t ht=>by cases ht);have hc:=enc0 (k:Int) 0 ByteArray.empty;exact (have F:=ai hc tmC;gTE (R:=RTm (ZdK (rawK d))) [] ⟨_,hr.mono (by simp;omega),rfl⟩)
  ·refine fN 3 @tmC ?_;refine gB ?_;have F:=@tmC;refine gCE (ZpK hx) ?_;clear F;rintro r ⟨nm,hnm,rfl⟩;have F:=@tmC;refine gCE (ZbX (b:=b) hx (n:=3) (by decide) (by decide)) ?_;clear F;rintro r ⟨k,hk,rfl⟩;refine fC @tmC ((Zg7 nm k).cu hx) ?_;refine fR @tmC ?_;have hr:=ZhP (op:=-1) (so:=(k:Int)) (nm:=nm) (ts:=[]) (k:=0) (by decide) hnm om (fun t ht=>by cases ht);exact (have F:=tmC;gTE (R:=RTm (ZdK (rawK d))) [] ⟨_,hr.mono (by simp;omega),rfl⟩)
 | false =>
  obtain ⟨d',rfl⟩:∃ d',d=d'+1:=⟨d - 1,by have:=hy rfl;omega⟩;have ih:=ih d' om om;clear hy;have w1:IntKind.i64.wrap ((n:Int) - 3)=((n - 3:Nat):Int):=ZaJ om om om;have w2:IntKind.i64.wrap (((d'+1:Nat):Int) - 1)=(d':Int):=ZaJ om om om;refine fN 5 @tmC ?_;refine gB ?_;have F:=ai @w1 @tmC;refine gCE (ZbX (b:=b) hx (n:=n - 3) om om) ?_;clear F;rintro r ⟨k,hk,rfl⟩;have w3:IntKind.i64.wrap (3+(k:Int))=((3+k:Nat):Int):=ZaJ om om om
  refine fR (ai @w3 @tmC) ?_;refine fN 6 @tmC ?_;refine gB ?_;have F:=ai @w2 @tmC;refine gCE (ih) ?_;clear F;rintro r ⟨t1,ht1,rfl⟩;have F:=tmC;refine gBs ?_;clear F;refine gS 37 fun a1 c1=>?_;refine fR @tmC ?_;refine pE [37] [1000] Zbd ?_;have e1:Zac [t1]=[Zab t1]:=Zcl t1;refine fN 7 @tmC ?_;refine gB ?_;refine fR @tmC ?_;generalize decide ((3:Int) < ((3+k:Nat):Int))=y4;refine gM (ι:=List Tm × Option Addr × Nat) [40] [8,1000] (fun q=>[]) (fun q=>[(8,.var none [.lit (.int .i64 ((3+k:Nat):Int)),.lit (.string ByteArray.empty),.lit (.int .i64 0),.lit (.slice q.2.1 (Zac q.1).length q.2.2)]),(1000,.buf (some (q.2.1,q.2.2)) 36 4 (Zac q.1))]) (fun q=>q.1.length<=2∧∀ t∈q.1,ZdK (rawK d') t) ?_ (fun q hq=>Exists.intro _ (ai (Wk.refl _) ?_))
  ·cases y4
   ·have F:=ai @e1 @tmC;refine gG ?_;exact ⟨([t1],a1,c1),⟨Nat.le_succ _,fun t ht=>by rw [Tbj.1 ht];exact ht1⟩,gw,gw⟩
   ·refine fN 8 @tmC ?_;have F:=tmC;refine gN0 8 [0,1,2,3,4,5] [6,7] ?_;clear F;have F:=ai w2 tmC;refine gNd ?_;clear F;have F:=tmC;refine gNE ih ?_;clear F;rintro r ⟨t2,ht2,rfl⟩;have F:=tmC;refine gNr ?_;clear F;refine gK 42 ?_;have F:=@tmC;refine gP 1 ?_;clear F;refine gS 49 fun a2 c2=>?_;have F:=@tmC;refine gP 2 ?_;clear F;refine gE [49] [1000] Zbd ?_;refine fR @tmC ?_;have e2:Zac [t1,t2]=[Zab t1,Zab t2]:=by simp only [Zac]
    have F:=ai @e2 @tmC;refine gG ?_;exact ⟨([t1,t2],a2,c2),⟨Tai _,fun t ht=>by simp only [Tbg,List.not_mem_nil,or_false] at ht;rcases ht with rfl | rfl <;> assumption⟩,gw,gw⟩
  obtain ⟨ts,a2,c2⟩:=q;obtain ⟨hq1,hq2⟩:=hq;dsimp only at hq1 hq2 ⊢;have hbs:1+(ts.length+1) * rawK d'<=rawK (d'+1):=by
   have:(ts.length+1) * rawK d'<=3 * rawK d':=Nat.mul_le_mul_right _ om;simp only [rawK];omega
  have hfin:∀ us:List Tm,(∀ t∈us,ZdK (rawK d') t)->us.length<=ts.length+1->ZdK (rawK (d'+1)) (.mk ((3+k:Nat):Int) ByteArray.empty 0 us):=fun us hu hl=>(ZhP (op:=((3+k:Nat):Int)) (so:=0) (nm:=ByteArray.empty) om (by decide) om hu).mono (by
   have:us.length * rawK d'<=(ts.length+1) * rawK d':=Nat.mul_le_mul_right _ hl;omega)
  refine fN 9 @eCP ?_;refine gM (ι:=Bool) [56] [] (fun y=>[(56,A.d (.one (.lit (.bool y))))]) (fun y=>[]) (fun y=>True) ?_ (fun y hy=>Exists.intro _ (ai (Wk.refl _) ?_))
  ·refine gB ?_;by_cases h4:4 < 3+k
   ·have q1:=lT 4 (3+k:Nat);have F:=ai @q1 @eCP;refine gCE (Zb2 (b:=b) hx (n:=4) (by decide) (by decide)) ?_;clear F;rintro r ⟨y,rfl⟩;refine fR @eCP ?_;have F:=@eCP;refine gG ?_;exact ⟨y,trivial,gw,gw⟩
   ·have q1:=lF 4 (3+k:Nat);refine fR (ai @q1 @eCP) ?_;have F:=@eCP;refine gG ?_;exact ⟨false,trivial,gw,gw⟩
  cases y
  ·have hc:Zab (.mk ((3+k:Nat):Int) ByteArray.empty 0 ts)=[.lit (.int .i64 ((3+k:Nat):Int)),.lit (.string ByteArray.empty),.lit (.int .i64 0),.sl (Zac ts)]:=by simp only [Zab]
   refine fN 11 @e0P ?_;refine gB ?_;refine fR @eCP ?_;refine pD 1000 [] [6,8] ?_;exact (have F:=ai hc tmC;gTE (R:=RTm (ZdK (rawK (d'+1)))) [] ⟨_,hfin ts hq2 (Nat.le_succ _),rfl⟩)
  ·have l1:((Zac ts).length+1<=maxApp)=True:=eq_true (by rw [Zae];unfold maxApp;omega);have l3:(ts.length+1<=maxApp)=True:=eq_true (by unfold maxApp;omega);refine fN 10 @eCP ?_;have F:=eCP;refine gN0 8 [0,1,2,3,4,5] [6,7] ?_;clear F;have F:=aj3 w2 @eCP @Zcy;refine gNd ?_;clear F;have F:=eCP;refine gNE ih ?_;clear F;rintro r ⟨t3,ht3,rfl⟩;have F:=aj3 @eCP @Za1 @ZbB;refine gNr ?_;clear F;refine gK 58 ?_
   have F:=aj5 l1 @Zcy @Za1 @ZbB @eCP;refine gP 1 ?_;clear F;have hsn:Zac ts++[Zab t3]=Zac (ts++[t3]):=by rw [ZbI,Zcl]
   rw [hsn];refine gS 65 fun a3 c3=>?_;refine fR @eCP ?_;have hc:Zab (.mk ((3+k:Nat):Int) ByteArray.empty 0 (ts++[t3]))=[.lit (.int .i64 ((3+k:Nat):Int)),.lit (.string ByteArray.empty),.lit (.int .i64 0),.sl (Zac (ts++[t3]))]:=by simp only [Zab]
   refine fN 11 @e0P ?_;refine gB ?_;refine fR @eCP ?_;refine pD 65 [] [6,8] ?_;exact (have F:=ai hc tmC;gTE (R:=RTm (ZdK (rawK (d'+1)))) [] ⟨_,hfin (ts++[t3]) (fun v hv=>(Tbh.1 hv).elim (hq2 v) fun hv=>by rw [Tbj.1 hv];exact ht3) (by simp),rfl⟩)
theorem Zxp (hx:x.Ok) {g:Sgn} (h4:4<=g.ops.length) (h14:g.ops.length<=14):∀ (d:Nat),d<=8->∀ vars list:Bool,ConE (eC x b) 80 [curD b,.agg (Zak g),.one (.lit (.int .i64 d)),.one (.lit (.bool vars)),.one (.lit (.bool list))] (RTm (RawD d)):=by
 intro d
 induction d using Nat.strongRecOn with
 | _ d ih =>
 intro hd8 vars list;have he:=hx.okC (b:=b);rw [Zak] at ih ⊢;have c2:=Zb2 (b:=b) hx (n:=2) (by decide) (by decide);have c3:=Zb2 (b:=b) hx (n:=3) (by decide) (by decide);have c5:=Zb2 (b:=b) hx (n:=5) (by decide) (by decide);have b2:=ZbX (b:=b) hx (n:=2) (by decide) (by decide);have hpos:=ZpJ d;have hvar:∀ (nm:ByteArray) (so:Int),nm.size<=12->0<=so∧so<=1000->RawD d (.mk (-1) nm so []):=fun nm so h1 h2=>⟨(ZhP (op:=-1) (ts:=[]) (k:=0) (by decide) h1 h2 (fun t ht=>by cases ht)).mono (by simp;omega),by simp [depthTm,depthTms]⟩
 have hcst:∀ k:Nat,k<=2->RawD d (.mk (k:Int) ByteArray.empty 0 []):=fun k hk=>⟨(ZhP (op:=(k:Int)) (so:=0) (nm:=ByteArray.empty) (ts:=[]) (k:=0) om (by decide) om (fun t ht=>by cases ht)).mono (by simp;omega),by simp [depthTm,depthTms]⟩;refine gIE (ts:=[.cell 10 36]) 316991230235621095696433708127 Tryz.func80 ?_;refine fN 1 @eCP ?_;refine gB ?_;refine fR @eCP ?_;generalize decide ((1:Int) < _)=dp;refine fN 2 @eCP ?_
 refine gM (ι:=Bool) [24] [] (fun y=>[(24,A.d (.one (.lit (.bool y))))]) (fun y=>[]) (fun y=>True) ?_ (fun y hy=>Exists.intro _ (ai (Wk.refl _) ?_))
 ·refine gB ?_
  cases vars
  ·refine fR @eCP ?_;have F:=@eCP;refine gG ?_;exact ⟨false,trivial,gw,gw⟩
  ·have F:=@eCP;refine gCE (c3) ?_;clear F;rintro r ⟨y,rfl⟩;refine fR @eCP ?_;have F:=@eCP;refine gG ?_;exact ⟨y,trivial,gw,gw⟩
 cases y with
 | true =>
  refine fN 3 @eCP ?_;refine gB ?_;have F:=@eCP;refine gCE (ZpK hx) ?_;clear F;rintro r ⟨nm,hnm,rfl⟩;refine fR @eCP ?_
  cases list
  ·refine fN 6 @eCP ?_;refine gB ?_;have F:=@eCP;refine gCE (b2) ?_;clear F;rintro r ⟨k,hk,rfl⟩;refine fC @eCP ((Zg7 nm k).cu hx) ?_;refine fR @tmC ?_;exact (have F:=tmC;gTE (R:=RTm (RawD d)) [] ⟨_,hvar nm k hnm om,rfl⟩)
  ·refine fN 5 @eCP ?_;refine gB ?_;refine fC @eCP ((Zg7 nm 2).cu hx) ?_;refine fR @tmC ?_;exact (have F:=tmC;gTE (R:=RTm (RawD d)) [] ⟨_,hvar nm 2 hnm (by decide),rfl⟩)
 | false =>
 refine fN 7 @eCP ?_;refine gM (ι:=Bool) [40] [] (fun y=>[(40,A.d (.one (.lit (.bool y))))]) (fun y=>[]) (fun y=>y=false->1<=d) ?_ (fun y hy=>Exists.intro _ (ai (Wk.refl _) ?_))
 ·refine gB ?_;by_cases h0:d=0
  ·have q1:((d:Int)<=0)=True:=eq_true om;refine fR (ai @q1 @eCP) ?_;have F:=@eCP;refine gG ?_;exact ⟨true,(by simp),gw,gw⟩
  ·have q1:((d:Int)<=0)=False:=eq_false om;have F:=ai @q1 @eCP;refine gCE (c5) ?_;clear F;rintro r ⟨y,rfl⟩;refine fR @eCP ?_;have F:=@eCP;refine gG ?_;exact ⟨y,(fun _=>om),gw,gw⟩
 cases y with
 | true =>
  refine fN 8 @eCP ?_;refine gM (ι:=Bool) [49] [] (fun y=>[(49,A.d (.one (.lit (.bool y))))]) (fun y=>[]) (fun y=>True) ?_ (fun y hy=>Exists.intro _ (ai (Wk.refl _) ?_))
  ·refine gB ?_
   cases list
   ·refine fR @eCP ?_;have F:=@eCP;refine gG ?_;exact ⟨false,trivial,gw,gw⟩
   ·cases dp
    ·refine fR @eCP ?_;have F:=@eCP;refine gG ?_;exact ⟨true,trivial,gw,gw⟩
    ·have F:=@eCP;refine gCE (c2) ?_;clear F;rintro r ⟨y,rfl⟩;refine fR @eCP ?_;have F:=@eCP;refine gG ?_;exact ⟨y,trivial,gw,gw⟩
  cases y
  ·refine fN 10 @eCP ?_;refine gB ?_;have F:=@eCP;refine gCE (b2) ?_;clear F;rintro r ⟨k,hk,rfl⟩;refine fR @eCP ?_;have hc:=enc0 (k:Int) 0 ByteArray.empty;exact (have F:=ai hc tmC;gTE (R:=RTm (RawD d)) [] ⟨_,hcst k om,rfl⟩)
  ·have hc:=enc0 ((2:Nat):Int) 0 ByteArray.empty;refine fG @eCP ?_;exact (have F:=ai hc tmC;gTE (R:=RTm (RawD d)) [] ⟨_,hcst 2 om,rfl⟩)
 | false =>
 obtain ⟨d',rfl⟩:∃ d',d=d'+1:=⟨d - 1,by have:=hy rfl;omega⟩;have ih:=ih d' om om;clear hy;have w2:IntKind.i64.wrap (((d'+1:Nat):Int) - 1)=(d':Int):=ZaJ om om om;have w1:IntKind.i64.wrap ((g.ops.length:Int) - 3)=((g.ops.length - 3:Nat):Int):=ZaJ om om om
 have hfin:∀ (o:Nat) (us:List Tm),o<=20->(∀ t∈us,RawD d' t)->us.length<=2->RawD (d'+1) (.mk (o:Int) ByteArray.empty 0 us):=fun o us ho hu hl=>⟨(ZhP (op:=(o:Int)) (so:=0) (nm:=ByteArray.empty) om (by decide) om fun t ht=>(hu t ht).1).mono (by
  have:us.length * rawK d'<=3 * rawK d':=Nat.mul_le_mul_right _ om;simp only [rawK];omega),by have:=Zhs fun t ht=>(hu t ht).2;rw [depthTm];omega⟩
 have hec:∀ (o:Int) (us:List Tm),Zab (.mk o ByteArray.empty 0 us)=[.lit (.int .i64 o),.lit (.string ByteArray.empty),.lit (.int .i64 0),.sl (Zac us)]:=fun o us=>by simp only [Zab]
 refine fN 11 @eCP ?_;refine gM (ι:=Bool) [58] [] (fun y=>[(58,A.d (.one (.lit (.bool y))))]) (fun y=>[]) (fun y=>True) ?_ (fun y hy=>Exists.intro _ (ai (Wk.refl _) ?_))
 ·cases list
  ·have F:=@eCP;refine gG ?_;exact ⟨false,trivial,gw,gw⟩
  ·cases dp
   ·have F:=@eCP;refine gG ?_;exact ⟨true,trivial,gw,gw⟩
   ·have F:=@eCP;refine gG ?_;exact ⟨false,trivial,gw,gw⟩
 cases y with
 | true =>
  refine fN 12 @eCP ?_;have F:=eCP;refine gN0 14 [0,1,2,3,4,6,7,8,9,10] [5,11,12,13] ?_;clear F;have F:=ai w2 @eCP;refine gNd ?_;clear F;have F:=eCP;refine gNE (ih vars false) ?_;clear F;rintro r ⟨t1,ht1,rfl⟩;have F:=eCP;refine gNE (ih vars true) ?_;clear F;rintro r ⟨t2,ht2,rfl⟩;have F:=aj3 @eCP @Za1 @ZbB;refine gNr ?_;clear F;refine fR @eCP ?_;have hc:=hec ((5:Nat):Int) [t1,t2];have e2:Zac [t1,t2]=[Zab t1,Zab t2]:=by simp only [Zac]
  exact (have F:=aj3 hc e2 @eCP;gTE (R:=RTm (RawD (d'+1))) [] ⟨_,hfin 5 [t1,t2] (by decide) (fun t ht=>by simp only [Tbg,List.not_mem_nil,or_false] at ht;rcases ht with rfl | rfl <;> assumption) (Tai _),rfl⟩)
 | false =>
 refine fN 13 @eCP ?_;refine gB ?_;have F:=ai @w1 @eCP;refine gCE (ZbX (b:=b) hx (n:=g.ops.length - 3) om om) ?_;clear F;rintro r ⟨k,hk,rfl⟩;have w3:IntKind.i64.wrap (3+(k:Int))=((3+k:Nat):Int):=ZaJ om om om;refine fR (ai @w3 @eCP) ?_;refine fN 14 @eCP ?_;refine gB ?_;refine fR @eCP ?_;refine gM (ι:=Nat) [13,80] [] (fun o=>[(13,A.d (.one (.lit (.int .i64 o))))]) (fun o=>[]) (fun o=>o<=20) ?_ (fun o ho=>Exists.intro _ (ai (Wk.refl _) ?_))
 ·cases list
  ·have F:=@eCP;refine gG ?_;exact ⟨3+k,om,gw,gw⟩
  ·have F:=@eCP;refine gG ?_;exact ⟨5,om,gw,gw⟩
 refine fN 16 @eCP ?_;refine gM (ι:=Bool) [86] [] (fun y=>[(86,A.d (.one (.lit (.bool y))))]) (fun y=>[]) (fun y=>True) ?_ (fun y hy=>Exists.intro _ (ai (Wk.refl _) ?_))
 ·refine gB ?_;by_cases h5:o=5
  ·have q1:((o:Int)=5)=True:=eq_true om
   cases dp
   ·refine fR (ai @q1 @eCP) ?_;have F:=@eCP;refine gG ?_;exact ⟨true,trivial,gw,gw⟩
   ·refine fR (ai @q1 @eCP) ?_;have F:=@eCP;refine gG ?_;exact ⟨false,trivial,gw,gw⟩
  ·have q1:((o:Int)=5)=False:=eq_false om;refine fR (ai @q1 @eCP) ?_;have F:=@eCP;refine gG ?_;exact ⟨false,trivial,gw,gw⟩
 refine gM (ι:=Nat) [13,86] [] (fun p=>[(13,A.d (.one (.lit (.int .i64 p))))]) (fun p=>[]) (fun p=>p<=20) ?_ (fun p hp=>Exists.intro _ (ai (Wk.refl _) ?_))
 ·cases y
  ·have F:=@eCP;refine gG ?_;exact ⟨o,ho,gw,gw⟩
  ·have F:=@eCP;refine gG ?_;exact ⟨4,(by decide),gw,gw⟩
 refine fN 18 @eCP ?_;refine gB ?_;have F:=ai @w2 @eCP;refine gCE (ih vars list) ?_;clear F;rintro r ⟨t1,ht1,rfl⟩;have F:=aj3 @eCP @Za1 @ZbB;refine gBs ?_;clear F;have e1:[Zab t1]=Zac [t1]:=(Zcl t1).symm;rw [e1];refine gS 95 fun a1 c1=>?_;refine fR @eCP ?_;refine pE [95] [1000] Zbd ?_;refine fN 19 @eCP ?_;refine gB ?_;refine fR @eCP ?_;generalize decide ((3:Int) < _)=y4
 cases y4
 ·have hc:=hec (p:Int) [t1];refine fN 21 @eCP ?_;refine gB ?_;refine fR @eCP ?_;refine pD 1000 [] [10,14] ?_;exact (have F:=ai hc @eCP;gTE (R:=RTm (RawD (d'+1))) [] ⟨_,hfin p [t1] hp (fun t ht=>by rw [Tbj.1 ht];exact ht1) (Nat.le_succ _),rfl⟩)
 ·have l1:((Zac [t1]).length+1<=maxApp)=True:=eq_true (by rw [Zae];unfold maxApp;simp);refine fN 20 @eCP ?_;have F:=eCP;refine gN0 10 [0,1,2,3,4,5,6,7] [8,9] ?_;clear F;have F:=ai w2 @eCP;refine gNd ?_;clear F;have F:=eCP;refine gNE (ih vars list) ?_;clear F;rintro r ⟨t2,ht2,rfl⟩;have F:=aj3 @eCP @Za1 @ZbB;refine gNr ?_;clear F;refine gK 100 ?_;have F:=aj5 l1 @Zcy @Za1 @ZbB @eCP;refine gP 1 ?_;clear F
  have hsn:Zac [t1]++[Zab t2]=Zac [t1,t2]:=by simp only [Zac,Taf,Tah]
  rw [hsn];refine gS 109 fun a3 c3=>?_;refine fR @eCP ?_;have hc:=hec (p:Int) [t1,t2];refine fN 21 @eCP ?_;refine gB ?_;refine fR @eCP ?_;refine pD 109 [] [10,14] ?_;exact (have F:=ai hc @eCP;gTE (R:=RTm (RawD (d'+1))) [] ⟨_,hfin p [t1,t2] hp (fun t ht=>by simp only [Tbg,List.not_mem_nil,or_false] at ht;rcases ht with rfl | rfl <;> assumption) (Tai _),rfl⟩)
end
section
variable {x:Src} {b:Nat} {g:Sgn}
theorem ZyP (hx:x.Ok) (h4:4<=g.ops.length) (h14:g.ops.length<=14) {d:Nat} (hd:d<=8) (vars:Bool):ConE (eC x b) 44 [curD b,.agg (Zak g),.one (.lit (.int .i64 d)),.one (.lit (.bool vars))] (RTm (RawD d)):=by
 have he:=hx.okC (b:=b);have cW:=fun l=>Zxp (b:=b) hx h4 h14 d hd vars l;rw [Zak] at cW ⊢;have c2:=Zb2 (b:=b) hx (n:=2) (by decide) (by decide);have c3:=Zb2 (b:=b) hx (n:=3) (by decide) (by decide);refine gIE (ts:=[.cell 8 36]) 815 Tryz.func44 ?_;refine fN 1 @eCP ?_;refine gB ?_;refine fR @eCP ?_;generalize decide ((1:Int) < _)=dp;refine fN 2 @eCP ?_;have F:=eCP;refine gN0 18 [0,1,2,3] [4,5,6,7,8,9,10,11,12,13,14,15,16,17] ?_;clear F
 have F:=eCP;refine gNd ?_;clear F
 cases dp
 ·have F:=eCP;refine gNE c3 ?_;clear F;rintro r ⟨y,rfl⟩;have F:=eCP;refine gNE (cW y) ?_;clear F;rintro r ⟨t,ht,rfl⟩;have F:=tmC;refine gNr ?_;clear F;refine fR @tmC ?_;exact (have F:=tmC;gTE (R:=RTm (RawD d)) [] ⟨_,ht,rfl⟩)
 ·have F:=eCP;refine gNE c2 ?_;clear F;rintro r ⟨y,rfl⟩
  cases y
  ·have F:=eCP;refine gNE (cW false) ?_;clear F;rintro r ⟨t,ht,rfl⟩;have F:=tmC;refine gNr ?_;clear F;refine fR @tmC ?_;exact (have F:=tmC;gTE (R:=RTm (RawD d)) [] ⟨_,ht,rfl⟩)
  ·have F:=eCP;refine gNE (cW true) ?_;clear F;rintro r ⟨t,ht,rfl⟩;have F:=tmC;refine gNr ?_;clear F;refine fR @tmC ?_;exact (have F:=tmC;gTE (R:=RTm (RawD d)) [] ⟨_,ht,rfl⟩)
def RDr (P:Tm->Prop) (r:List D) (pm:List Bk):Prop:=∃ u,P u∧RTop u r pm
theorem ZA5:∀ d,d<=5->rawK d<=364:=by decide
theorem ZtF (hx:x.Ok) (hok:ZbY g) (hg:SgnOk g) (h4:4<=g.ops.length) (hz:TermOk g zTm) {d:Nat} (hd:d<=5) (vars:Bool):ConP (eC x b) 15 [curD b,.agg (Zak g),.one (.lit (.int .i64 d)),.one (.lit (.bool vars))] [] (RDr fun u=>TermOk g u∧depthTm u<=d+1):=by
 have he:=hx.okC (b:=b);have cR:=ZyP (b:=b) hx h4 hg.len (d:=d) om vars;have cC:∀ t,RawD d t->ConP (eC x b) 43 [.agg (Zak g),.agg (Zab t)] [] (ZjJ g (depthTm t)):=fun t ht=>(ZlY hok hg (sizeTm t+1) (Tan _) ht.1.1 (by have:=ht.1.2.1;have:=ZA5 d hd;omega)).cu hx;rw [Zak] at cR cC ⊢;refine gIP (ts:=[.cell 8 36]) [] 67120943 Tryz.func15 ?_;refine fG @tmC ?_;have F:=@tmC;refine gL (ι:=Nat) [9,10,11,13,26] [] (fun i=>[(9,A.d (.one (.lit (.int .i64 i))))]) (fun i=>[]) (fun i=>i<=8) (fun i=>8 - i) (0) (Taj _) (fun i hi=>?_);clear F
 by_cases h1:i < 8
 ·have q1:=lT i 8;have wi:=Zat (k:=i) om;refine fN 4 (ai @q1 @tmC) ?_;refine gF0 ?_;refine gLa 8 9 ?_;refine gLa 9 11 ?_;have F:=tmC;refine gNa 10 [0,1,2,3,4] [5,6,7,8,9] ?_;clear F;have F:=tmC;refine gNd ?_;clear F;have F:=tmC;refine gNE cR ?_;clear F;rintro r ⟨t,ht,rfl⟩;have F:=tmC;refine gNP [1000] (cC t ht) ?_;clear F;rintro r pm ⟨u,ok,hu,a,k,rfl,rfl⟩;have F:=ai @eCP @Zjc;refine gNr ?_;clear F
  refine fR (ai @Zjc @eCP) ?_
  cases ok with
  | true =>
   refine fN 6 @eCP ?_;refine gB ?_;refine fR @eCP ?_;refine fG @eCP ?_;exact (have F:=eCP;gTP (R:=RDr fun u=>TermOk g u∧depthTm u<=d+1) [1000] ⟨u,⟨(hu rfl).1,Tbe (hu rfl).2 ht.2⟩,a,k,rfl,rfl⟩)
  | false =>
   refine pD 1000 [] [10] ?_;have F:=ai @wi @eCP;refine gG ?_;exact ⟨i+1,om,gw,gw,om⟩
 ·have q1:=lF i 8;refine fN 7 (ai @q1 @tmC) ?_;refine gB ?_;have F:=tmC;refine gXc ?_;clear F;refine fR @eCP ?_;refine pN 1000 36 4 ?_;exact (have F:=eCP;gTP (R:=RDr fun u=>TermOk g u∧depthTm u<=d+1) [1000] ⟨zTm,⟨hz,by simp [zTm,depthTm,depthTms]⟩,none,0,rfl,rfl⟩)
theorem Zns (hx:x.Ok) (hok:ZbY g) (hg:SgnOk g) (h4:4<=g.ops.length) (hz:TermOk g zTm) {d:Nat} (hd:d<=5) (vars:Bool):ConP (eC x b) 15 [curD b,.agg (Zak g),.one (.lit (.int .i64 d)),.one (.lit (.bool vars))] [] (RDr (TermOk g)):=by
 have h:=ZtF (b:=b) hx hok hg h4 hz hd vars;exact ⟨h.1,fun w S vs hS hE hG hd2 hp hvs=>(h.2 w S vs hS hE hG hd2 hp hvs).mono fun en w' ⟨v,r,pm',q1,⟨u,hu,hq⟩,q2⟩=>⟨v,r,pm',q1,⟨u,hu.1,hq⟩,q2⟩⟩
theorem ZtG {e:Env} {f:FuncId} {xs:List D} {P:Tm->Prop} (h:ConP e f xs [] (RDr P)):ConE e f xs (RTm P):=by
 refine ⟨h.1,fun w S vs hS hE hG hvs=>(h.2 w S vs hS hE hG (fun x hx=>by cases hx) trivial hvs).mono fun en w' ⟨v,r,pm,h1,⟨u,hP,a,cap,hr,hpm⟩,hk,hg,hp,_,ha⟩=>?_⟩;subst hr hpm;refine ⟨v,_,h1,⟨u,hP,rfl⟩,hk.up fun c q=>q.elim id fun ⟨x,hx,_⟩=>(by cases hx),hg,?_⟩;obtain ⟨q1,q2⟩:=hp _ Tas;have q1:ZaE w' _ _ 4 (Zac u.args) (.slice a (Zac u.args).length cap):=q1;obtain ⟨vs1,e1,hr1⟩:=ha
 ·refine ⟨vs1,e1,?_⟩
  match vs1,hr1 with
  | [u0,u1,u2,u3],hr1 =>
   simp only [topC,Zad,and_true] at hr1;obtain ⟨k0,k1,k2,k3⟩:=hr1;have hec:Zab u=[.lit (.int .i64 u.op),.lit (.string u.name),.lit (.int .i64 u.sort),.sl (Zac u.args)]:=by cases u;simp only [Zab,Tm.op,Tm.name,Tm.sort,Tm.args]
   rw [hec];simp only [Zad,and_true];refine ⟨k0,k1,k2,?_⟩;simp only [Rep] at k3;subst k3;refine Rep.mono q1.rep fun c hc=>?_;rcases hc with ⟨hc,_⟩ | hc
   ·rcases hc with hc | ⟨x,hx,_⟩ | hc
    ·exact .inl hc
    ·cases hx
    ·exact .inr hc
   ·rcases q2 c hc with ⟨x,hx,_⟩ | hc'
    ·cases hx
    ·refine .inr ⟨hc',?_⟩;rcases q1.2.2 with ⟨_,a',e'⟩ | ⟨g,cap',cur,e',hc0,hg',_⟩
     ·injection e' with _ _ e3
      rw [e3] at hc
      cases a <;> simp [vblk] at hc
     ·rw [e'] at hc;simp only [vblk] at hc;split at hc
      ·cases hc
      ·injection hc with hc
       subst hc;exact hg'
theorem Zjg (hx:x.Ok) (hok:ZbY g) (hg:SgnOk g) (h4:4<=g.ops.length) (hz:TermOk g zTm) {d:Nat} (hd:d<=5) (vars:Bool):ConE (eC x b) 15 [curD b,.agg (Zak g),.one (.lit (.int .i64 d)),.one (.lit (.bool vars))] (RTm (TermOk g)):=ZtG (Zns hx hok hg h4 hz hd vars)
end
section
variable {x:Src} {b:Nat} {g:Sgn}
end
structure DrOk (g:Sgn):Prop where
 ok:ZbY g
 sg:SgnOk g
 h4:4<=g.ops.length
 hz:TermOk g zTm
 hb:Zan (Zak g)<=1048576
def smI (n:Int):Bool:=decide (-1<=n∧n<=1000)
theorem Zjh {n:Int} (h:smI n=true):I64 n:=by
 have:=of_decide_eq_true h;exact ⟨om,om⟩
def Zl4 (g:Sgn):Bool:=g.sorts.names.all (fun x=>decide (x.size<=12)) && g.sorts.subs.all (fun p=>smI p.1 && smI p.2) && g.ops.all (fun o=>decide (o.name.size<=12) && o.decls.all (fun d=>d.args.all smI && smI d.res) && smI o.unit)
theorem Zxq {g:Sgn} (h:Zl4 g=true):ZbY g:=by
 simp only [Zl4,Tar,List.all_eq_true,decide_eq_true_eq] at h;obtain ⟨⟨h1,h2⟩,h3⟩:=h;refine ⟨⟨fun x hx=>Tbe (h1 x hx) (by decide),fun p hp=>⟨Zjh (h2 p hp).1,Zjh (h2 p hp).2⟩⟩,fun o ho=>?_⟩;obtain ⟨⟨q1,q2⟩,q3⟩:=h3 o ho;exact ⟨Tbe q1 (by decide),fun d hd=>⟨fun k hk=>Zjh ((q2 d hd).1 k hk),Zjh (q2 d hd).2⟩,Zjh q3⟩
theorem ZpL {g:Sgn} {o:Opr} {d:Dcl} (h0:g.ops[0]?=some o) (h1:o.decls[0]?=some d) (h2:d.args=[]) (h3:o.assoc=false):TermOk g zTm:=by
 refine ⟨by simp [zTm,sizeTm,sizeTms],by simp [zTm,depthTm,depthTms],ZaY.2 ⟨.inr ⟨o,d,⟨by simp [zTm,Tm.op],h0,h1,rfl,rfl,fun h=>(by rw [h3] at h;cases h),fun _=>by rw [h2];rfl⟩⟩,fun a ha=>by simp [zTm,Tm.args] at ha,.inr fun o' d' _ _ i a ha=>by simp [zTm,Tm.args] at ha⟩⟩
theorem Zxr {z u hc fa fc fu:Bool} {w:Option Bool} (h:z=true∨(fa=false∧fc=false∧fu=false)):DrOk (sigD z u hc fa fc fu w):=by
 have H:∀ z u hc fa fc fu w',(Zl4 (sigD z u hc fa fc fu none)=true∧Zan (Zak (sigD z u hc fa fc fu none))<=1048576)∧Zl4 (sigD z u hc fa fc fu (some w'))=true∧Zan (Zak (sigD z u hc fa fc fu (some w')))<=1048576:=by decide +kernel
 refine ⟨Zxq ?_,ZA3 h,by cases w <;> exact Nat.le_of_ble_eq_true rfl,ZpL (o:=⟨nm1 97,[⟨[],0⟩],false,false,0⟩) (d:=⟨[],0⟩) (by cases w <;> rfl) rfl rfl rfl,?_⟩
 ·cases w with
  | none=>exact (H z u hc fa fc fu true).1.1
  | some w=>exact (H z u hc fa fc fu w).2.1
 ·cases w with
  | none=>exact (H z u hc fa fc fu true).1.2
  | some w=>exact (H z u hc fa fc fu w).2.2
section
variable {x:Src} {b:Nat}
def curS (x:Src) (b:Nat):Bk:=.set (fun c=>c=b) fun w=>∃ i h:Int,0<=i∧(∃ arr ty,w.heap[b]?=some (.cells arr ty (0,0))∧arr.size=3)∧Zaj w (fun _=>False) b 0 (curC x i h)
theorem ZBE {i h:Int} (hi:0<=i):Zd4 [.var (some b) (curC x i h)] [curS x b]:=fun w S h1 h2=>by
 obtain ⟨q1,q2,⟨arr,ty,q3,q4⟩,q5⟩:=h1 _ (Tbj.2 rfl);refine ⟨fun y hy=>?_,⟨fun y hy=>(by cases hy),trivial⟩,fun g ⟨y,hy,hg⟩=>?_⟩
 ·obtain rfl:=Tbj.1 hy;refine ⟨fun c hc=>by subst hc;exact ⟨q1,q2⟩,⟨i,h,hi,⟨arr,ty,q3,by rw [q4];rfl⟩,Ze7 (fun _=>rfl) q5⟩,fun w w' hz hE ⟨i,h,h0,h2,h3⟩=>⟨i,h,h0,by rw [hE b rfl];exact h2,Ze7 (fun o=>Zbg (hE b rfl) o) h3⟩⟩
 ·obtain rfl:=Tbj.1 hy;exact ⟨_,Tbj.2 rfl,Eq.symm hg⟩
theorem pCur {mask:Nat} {c:Code} {s s2:List (Nat × A)} {m m2 m3:List (Nat × Bk)} {Q:PX->St->Prop} {i h:Int} (k:Nat) (hi:0<=i) (hK:pwp (eC x b) mask c ⟨s2,m3⟩ Q) (hpm:getM m [k]=some [.var (some b) (curC x i h)]:=by exact sny)
  (hs:Zcs ([k]++[k]) s=s2:=by exact snv) (hr:Zcw ([k]++[k]) m=m2:=by exact snv) (h3:remM k (zipM [k] [curS x b]++m2)=m3:=by exact snv):pwp (eB x) mask c ⟨s,m⟩ Q:=by
 refine pE (m3:=zipM [k] [curS x b]++m2) [k] [k] (ZBE hi) ?_ hpm (by simp) (by rfl) hs hr rfl;subst h3;exact ZsC (E2:=fun c=>c=b) (G2:=curG x b) k ZeI.st (by show gm ((k,curS x b)::m2) k=_;simp [gm,curS]) (fun hd=>⟨ZeI,fun w h=>⟨hd b rfl,h⟩⟩) fun _=>hK
end
section
variable {w:World} {S:Nat->Prop}
theorem Zmv {b:Nat} {c c':C} (hc:∀ u,Rep w S c u->Rep w S c' u):∀ {cs:List C} {j off:Nat},cs[j]?=some c->Zaj w S b off cs->Zaj w S b off (cs.set j c')
 | [],j,_,h,_=>by simp at h
 | d::cs,0,off,h,hr=>by
  simp only [Tat,Taq] at h;subst h;simp only [List.set_cons_zero,Zaj] at hr ⊢;obtain ⟨⟨u,h1,h2⟩,h3⟩:=hr;exact ⟨⟨u,h1,hc u h2⟩,h3⟩
 | d::cs,j+1,off,h,hr=>by
  simp only [Tau] at h;simp only [List.set_cons_succ,Zaj] at hr ⊢;exact ⟨hr.1,Zmv hc h hr.2⟩
theorem ZpM {b:Nat} {r r':List C} (hl:r'.length=r.length) (hc:∀ off,Zaj w S b off r->Zaj w S b off r'):∀ {rows:List (List C)} {i off:Nat},rows[i]?=some r->Zap w S b off rows->Zap w S b off (rows.set i r')
 | [],i,_,h,_=>by simp at h
 | d::rows,0,off,h,hr=>by
  simp only [Tat,Taq] at h;subst h;simp only [List.set_cons_zero,Zap] at hr ⊢;exact ⟨hc off hr.1,by rw [hl];exact hr.2⟩
 | d::rows,i+1,off,h,hr=>by
  simp only [Tau] at h;simp only [List.set_cons_succ,Zap] at hr ⊢;exact ⟨hr.1,ZpM hl hc h hr.2⟩
end
theorem ZpN {e:Env} {σ:St} (k κ i j:Nat) {a:Option Addr} {cap ety sz ety2 sz2:Nat} {rows rows2:List (List C)} {o:Option (Option Addr × Nat)} {r:List C} (hm:gm σ.m k=some (.buf (some (a,cap)) ety sz rows)) (hm2:gm σ.m κ=some (.buf o ety2 sz2 rows2)) (hne:κ≠k) (hr:rows2[i]?=some r) (hc:r[j]?=some (.lit (.slice a rows.length cap))) :
  Turn e σ (fun σ'=>σ'=⟨frzS k (.buf (some (a,cap)) ety sz rows) σ.s,(κ,.buf o ety2 sz2 (rows2.set i (r.set j (.sl rows))))::remM κ (remM k σ.m)⟩):=by
 intro he U w0 S0 nt ac w ⟨S,L,h⟩;have ho:=h.cls.own k _ hm;have hv:L.v k=.slice a rows.length cap:=ho.1 (a,cap) rfl;have hrep:=ZaE.rep ho.2;rw [hv] at hrep;obtain ⟨S',L',h',hS'⟩:=h.freeze2 he hm;have hr':Rep w S' (.sl rows) (.slice a rows.length cap):=hrep.mono fun b hb=>(hS' b).2 (hb.imp id (fun q=>by show vblk (L.v k)=some b;rw [hv];exact q));have hm2':gm (remM k σ.m) κ=some (.buf o ety2 sz2 rows2):=by rw [ZaC,if_neg hne];exact hm2
 have ho2:=h'.cls.own κ _ hm2';have hcell:∀ u,Rep w S' (.lit (.slice a rows.length cap)) u->Rep w S' (.sl rows) u:=fun u hu=>by
  have:u=.slice a rows.length cap:=by simpa [Rep] using hu
  rw [this];exact hr'
 have hlen:(r.set j (.sl rows)).length=r.length:=Taz ..;refine ⟨_,rfl,S',L',⟨h'.cls.swap hm2' (bk':=.buf o ety2 sz2 (rows2.set i (r.set j (.sl rows)))) ⟨fun p hp=>?_,?_⟩ (fun g hg=>hg),h'.rel,h'.size,h'.defers,h'.kept⟩⟩
 ·have:=ho2.1 p hp;rw [Taz];exact this
 ·obtain ⟨q1,q2,q3⟩:=ho2.2;refine ⟨q1,?_,?_⟩
  ·intro r1 hr1;rcases List.mem_or_eq_of_mem_set hr1 with h1 | h1
   ·exact q2 r1 h1
   ·have:=q2 r (Tac hr);rw [h1];refine ⟨hlen.trans this.1,?_⟩;rw [List.all_eq_true];intro c hc';rcases List.mem_or_eq_of_mem_set hc' with h2 | h2
    ·exact List.all_eq_true.1 this.2 c h2
    ·rw [h2];rfl
  ·rcases q3 with ⟨h1,_⟩ | ⟨g,cap',cur,h1,h2,h3,h4,h5,h6,h7,h8,h9⟩
   ·rw [h1] at hr;simp at hr
   ·refine .inr ⟨g,cap',cur,by rw [Taz];exact h1,h2,h3,h4,h5,by rw [Taz];exact h6,h7,h8,ZpM hlen (fun off hrr=>Zmv hcell hc hrr) hr h9⟩
theorem pR {e:Env} {mask:Nat} {Q:PX->St->Prop} {c:Code} {s s2:List (Nat × A)} {m m2:List (Nat × Bk)} {a:Option Addr} {cap ety sz ety2 sz2:Nat} {rows rows2:List (List C)} {o:Option (Option Addr × Nat)} (k κ i j:Nat) (rows':List (List C)) (hK:pwp e mask c ⟨s2,(κ,.buf o ety2 sz2 rows')::m2⟩ Q) 
  (hset:∃ r,rows2[i]?=some r∧r[j]?=some (.lit (.slice a rows.length cap))∧rows2.set i (r.set j (.sl rows))=rows') (hm:gm m k=some (.buf (some (a,cap)) ety sz rows):=by exact snv) (hm2:gm m κ=some (.buf o ety2 sz2 rows2):=by exact snv) (hne:κ≠k:=by decide) (hs:frzS k (.buf (some (a,cap)) ety sz rows) s=s2:=by exact snv) (hr:remM κ (remM k m)=m2:=by exact snv):pwp e mask c ⟨s,m⟩ Q:=by
 obtain ⟨r,h1,h2,h3⟩:=hset;exact Zcc (ZpN (σ:=⟨s,m⟩) k κ i j hm hm2 hne h1 h2) fun σ' hσ=>by subst hσ;simp only [hs,hr,h3];exact hK
theorem Znt {e:Env} {σ:St} (k κ j:Nat) {a:Option Addr} {cap ety sz:Nat} {rows:List (List C)} {o:Option Nat} {r:List C} (hm:gm σ.m k=some (.buf (some (a,cap)) ety sz rows)) (hm2:gm σ.m κ=some (.var o r)) (hne:κ≠k) (hc:r[j]?=some (.lit (.slice a rows.length cap))) :
  Turn e σ (fun σ'=>σ'=⟨frzS k (.buf (some (a,cap)) ety sz rows) σ.s,(κ,.var o (r.set j (.sl rows)))::remM κ (remM k σ.m)⟩):=by
 intro he U w0 S0 nt ac w ⟨S,L,h⟩;have ho:=h.cls.own k _ hm;have hv:L.v k=.slice a rows.length cap:=ho.1 (a,cap) rfl;have hrep:=ZaE.rep ho.2;rw [hv] at hrep;obtain ⟨S',L',h',hS'⟩:=h.freeze2 he hm;have hr':Rep w S' (.sl rows) (.slice a rows.length cap):=hrep.mono fun b hb=>(hS' b).2 (hb.imp id (fun q=>by show vblk (L.v k)=some b;rw [hv];exact q));have hm2':gm (remM k σ.m) κ=some (.var o r):=by rw [ZaC,if_neg hne];exact hm2
 have hcell:∀ u,Rep w S' (.lit (.slice a rows.length cap)) u->Rep w S' (.sl rows) u:=fun u hu=>by
  have:u=.slice a rows.length cap:=by simpa [Rep] using hu
  rw [this];exact hr'
 obtain ⟨h0,h1,h2,⟨arr,ty,h3,h4⟩,h5⟩:=h'.cls.own κ _ hm2';exact ⟨_,rfl,S',L',⟨h'.cls.swap hm2' (bk':=.var o (r.set j (.sl rows))) ⟨h0,h1,h2,⟨arr,ty,h3,by rw [Taz];exact h4⟩,Zmv hcell hc h5⟩ (fun g hg=>hg),h'.rel,h'.size,h'.defers,h'.kept⟩⟩
theorem pRv {e:Env} {mask:Nat} {Q:PX->St->Prop} {c:Code} {s s2:List (Nat × A)} {m m2:List (Nat × Bk)} {a:Option Addr} {cap ety sz:Nat} {rows:List (List C)} {o:Option Nat} {r:List C} (k κ j:Nat) (hK:pwp e mask c ⟨s2,(κ,.var o (r.set j (.sl rows)))::m2⟩ Q) (hm:gm m k=some (.buf (some (a,cap)) ety sz rows):=by exact snv) (hm2:gm m κ=some (.var o r):=by exact snv) (hc:r[j]?=some (.lit (.slice a rows.length cap)):=by simp) (hne:κ≠k:=by decide) (hs:frzS k (.buf (some (a,cap)) ety sz rows) s=s2:=by exact snv) (hr:remM κ (remM k m)=m2:=by exact snv):pwp e mask c ⟨s,m⟩ Q :=
 Zcc (Znt (σ:=⟨s,m⟩) k κ j hm hm2 hne hc) fun σ' hσ=>by subst hσ;simp only [hs,hr];exact hK
theorem gRv {e:Env} {K:St->Prop} {ds:List (Option Nat)} {os:List Oper} {s s2:List (Nat × A)} {m m2:List (Nat × Bk)} {a:Option Addr} {cap ety sz:Nat} {rows:List (List C)} {o:Option Nat} {r:List C} (k κ j:Nat) (hK:Runs e ds 0 os ⟨s2,(κ,.var o (r.set j (.sl rows)))::m2⟩ K) (hm:gm m k=some (.buf (some (a,cap)) ety sz rows):=by exact snv) (hm2:gm m κ=some (.var o r):=by exact snv) (hc:r[j]?=some (.lit (.slice a rows.length cap)):=by simp) (hne:κ≠k:=by decide) (hs:frzS k (.buf (some (a,cap)) ety sz rows) s=s2:=by exact snv) (hr:remM κ (remM k m)=m2:=by exact snv):Runs e ds 0 os ⟨s,m⟩ K :=
 Zdx (Znt (σ:=⟨s,m⟩) k κ j hm hm2 hne hc) fun σ' hσ=>by subst hσ;simp only [hs,hr];exact hK
theorem gRr {e:Env} {K:St->Prop} {ds:List (Option Nat)} {os:List Oper} {s s2:List (Nat × A)} {m m2:List (Nat × Bk)} {a:Option Addr} {cap ety sz ety2 sz2:Nat} {rows rows2:List (List C)} {o:Option (Option Addr × Nat)} (k κ i j:Nat) (rows':List (List C)) (hK:Runs e ds 0 os ⟨s2,(κ,.buf o ety2 sz2 rows')::m2⟩ K)
  (hset:∃ r,rows2[i]?=some r∧r[j]?=some (.lit (.slice a rows.length cap))∧rows2.set i (r.set j (.sl rows))=rows') (hm:gm m k=some (.buf (some (a,cap)) ety sz rows):=by exact snv) (hm2:gm m κ=some (.buf o ety2 sz2 rows2):=by exact snv) (hne:κ≠k:=by decide) (hs:frzS k (.buf (some (a,cap)) ety sz rows) s=s2:=by exact snv) (hr:remM κ (remM k m)=m2:=by exact snv):Runs e ds 0 os ⟨s,m⟩ K:=by
 obtain ⟨r,h1,h2,h3⟩:=hset;exact Zdx (ZpN (σ:=⟨s,m⟩) k κ i j hm hm2 hne h1 h2) fun σ' hσ=>by subst hσ;simp only [hs,hr,h3];exact hK
structure BSg (g:Sgn):Prop where
 ok:ZbY g
 h4:4<=g.ops.length
 h14:g.ops.length<=14
 hb:Zan (Zak g)<=1048576
 z0:∀ o d,g.ops[0]?=some o->o.decls[0]?=some d->d.args=[]
theorem BSg.dr {g:Sgn} (h:BSg g) (hs:SgnOk g):DrOk g:=by
 have h4:=h.h4;obtain ⟨o,ho⟩:∃ o,g.ops[0]?=some o:=⟨_,Taa om⟩;obtain ⟨d,hd,_⟩:=hs.first ho;have ha:=h.z0 o d ho hd;refine ⟨h.ok,hs,h.h4,ZpL ho hd ha ?_,h.hb⟩
 cases q:o.assoc with
 | false=>rfl
 | true =>
  have:=((hs.axs o (Tac ho)).two (.inl q) d hd).1;rw [ha] at this;simp at this
theorem ZfW:∀ {l:List (List C)} {k:Nat} {r:List C},Zam (l.set k r)<=Zam l+Zan r
 | [],_,_=>by simp [Zam]
 | x::l,0,r=>by simp only [List.set_cons_zero,Zam];omega
 | x::l,k+1,r=>by
  have:=ZfW (l:=l) (k:=k) (r:=r);simp only [List.set_cons_succ,Zam];omega
theorem ZfX {x:List C}:∀ {l:List (List C)},x∈l->Zan x<=Zam l
 | y::l,h=>by
  simp only [Zam];rcases Tbg.1 h with rfl | h
  ·omega
  ·have:=ZfX h;omega
theorem Zfm (g:Sgn):Zan (Zak g)=(g.sorts.names.length+Zam (g.sorts.names.map ZbR))+(g.sorts.subs.length+Zam (g.sorts.subs.map ZbS))+(g.ops.length+Zam (g.ops.map Zax)):=by
 rw [Zak];simp only [Zan,Zdm,Tay];omega
theorem Zek (o:Opr):Zan (Zax o)=o.name.size+(o.decls.length+Zam (o.decls.map ZcM)):=by
 rw [Zax];simp only [Zan,Zdm,Tay];omega
structure SSg (g:Sgn):Prop where
 ok:ZbY g
 h4:4<=g.ops.length
 h14:g.ops.length<=14
 hb:Zan (Zak g)<=1000
 z0:∀ o d,g.ops[0]?=some o->o.decls[0]?=some d->d.args=[]
theorem SSg.b {g:Sgn} (h:SSg g):BSg g:=⟨h.ok,h.h4,h.h14,Tbe h.hb (by decide),h.z0⟩
theorem SSg.op {g:Sgn} (h:SSg g) {k:Nat} {o:Opr} (ho:g.ops[k]?=some o):ZsU o∧Zan (Zax o)<=1000:=by
 have hm:=Tac ho;have h1:=Zfm g;have h2:=ZfX (List.mem_map_of_mem (f:=Zax) hm);have h3:=h.hb;exact ⟨h.ok.2 o hm,om⟩
theorem SSg.set {g:Sgn} (h:SSg g) {k:Nat} {o o':Opr} (ho:g.ops[k]?=some o) (hok:ZsU o') (hb:Zan (Zax o')<=5000) (hd:∀ d',o'.decls[0]?=some d'->∃ d,o.decls[0]?=some d∧d'.args=d.args):BSg ⟨g.sorts,g.ops.set k o'⟩:=by
 have hl:(g.ops.set k o').length=g.ops.length:=Taz ..;refine ⟨⟨h.ok.1,fun x hx=>(List.mem_or_eq_of_mem_set hx).elim (h.ok.2 x) fun q=>q ▸ hok⟩,by rw [hl];exact h.h4,by rw [hl];exact h.h14,?_,fun o1 d1 h1 h2=>?_⟩
 ·have h1:=Zfm g;have h2:=h.hb;rw [Zfm];have h3:Zam ((g.ops.set k o').map Zax)<=Zam (g.ops.map Zax)+Zan (Zax o'):=by rw [List.map_set];exact ZfW
  simp only [hl];omega
 ·by_cases hk:k=0
  ·subst hk;have hl0:0 < g.ops.length:=(Tad.1 ho).1;simp only [Tbn hl0,Taq] at h1;subst h1;obtain ⟨d,hd1,hd2⟩:=hd d1 h2;rw [hd2];exact h.z0 o d ho hd1
  ·simp only [Tbo hk] at h1;exact h.z0 o1 d1 h1 h2
theorem ZBF {z u hc fa fc fu:Bool} {w:Option Bool} (h:z=true∨(fa=false∧fc=false∧fu=false)):SSg (sigD z u hc fa fc fu w):=by
 have hD:=Zxr (w:=w) (hc:=hc) (u:=u) h;have H:∀ z u hc fa fc fu w',Zan (Zak (sigD z u hc fa fc fu none))<=1000∧Zan (Zak (sigD z u hc fa fc fu (some w')))<=1000:=by decide +kernel
 refine ⟨hD.ok,hD.h4,hD.sg.len,?_,fun o d h1 h2=>?_⟩
 ·cases w with
  | none=>exact (H z u hc fa fc fu true).1
  | some w=>exact (H z u hc fa fc fu w).2
 ·have h0:(sigD z u hc fa fc fu w).ops[0]?=some ⟨nm1 97,[⟨[],0⟩],false,false,0⟩:=by cases w <;> rfl
  rw [h0] at h1;injection h1 with h1
  subst h1;injection h2 with h2
  subst h2;rfl
theorem SSg.chg {g:Sgn} (h:SSg g) {k:Nat} {o:Opr} (ho:g.ops[k]?=some o) {nm:ByteArray} {y1 y2:Bool} {un:Int} (hn:nm.size<=3000) (hu:I64 un):BSg ⟨g.sorts,g.ops.set k ⟨nm,o.decls,y1,y2,un⟩⟩:=by
 obtain ⟨h1,h2⟩:=h.op ho;rw [Zek] at h2;exact h.set ho ⟨Tbe hn (by decide),h1.2.1,hu⟩ (by rw [Zek];simp only;omega) fun d' q=>⟨d',q,rfl⟩
theorem SSg.nod {g:Sgn} (h:SSg g) {k:Nat} {o:Opr} (ho:g.ops[k]?=some o):BSg ⟨g.sorts,g.ops.set k ⟨o.name,[],o.assoc,o.comm,o.unit⟩⟩:=by
 obtain ⟨h1,h2⟩:=h.op ho;rw [Zek] at h2;exact h.set ho ⟨h1.1,fun d q=>(by cases q),h1.2.2⟩ (by rw [Zek];simp only [Tak,List.map_nil,Zam];omega) fun d' q=>by simp at q
theorem SSg.subs {g:Sgn} (h:SSg g):BSg ⟨⟨g.sorts.names,g.sorts.subs++[(2,1)]⟩,g.ops⟩:=by
 have h1:=Zfm g;have h2:=h.hb;refine ⟨⟨⟨h.ok.1.1,fun x hx=>(Tbh.1 hx).elim (h.ok.1.2 x) fun q=>by rw [Tbj.1 q];exact ⟨⟨by decide,by decide⟩,⟨by decide,by decide⟩⟩⟩,h.ok.2⟩,h.h4,h.h14,?_,h.z0⟩;rw [Zfm];have h3:∀ l:List (Int × Int),Zam (l.map ZbS)=0:=fun l=>by
  induction l with
  | nil=>rfl
  | cons p l ih=>simp only [Tbu,Zam,ih];rfl
 simp only [h3,Tae,Tag,Tak] at h1 ⊢;omega
theorem SSg.res {g:Sgn} (h:SSg g) {k:Nat} {o:Opr} {d:Dcl} (ho:g.ops[k]?=some o) (hd:o.decls[0]?=some d) {v:Int} (hv:I64 v):BSg ⟨g.sorts,g.ops.set k ⟨o.name,o.decls.set 0 ⟨d.args,v⟩,o.assoc,o.comm,o.unit⟩⟩:=by
 obtain ⟨h1,h2⟩:=h.op ho;rw [Zek] at h2;have hl:0 < o.decls.length:=(Tad.1 hd).1;have hdm:=Tac hd;have hb1:Zan (ZcM d)<=Zam (o.decls.map ZcM):=ZfX (List.mem_map_of_mem hdm);have hb2:Zan (ZcM ⟨d.args,v⟩)=Zan (ZcM d):=by simp only [ZcM,Zan,Zdm]
 have hb3:Zam ((o.decls.set 0 ⟨d.args,v⟩).map ZcM)<=Zam (o.decls.map ZcM)+Zan (ZcM ⟨d.args,v⟩):=by rw [List.map_set];exact ZfW
 refine h.set ho ⟨h1.1,fun x q=>(List.mem_or_eq_of_mem_set q).elim (h1.2.1 x) fun q=>?_,h1.2.2⟩ (by rw [Zek];simp only [Taz];omega) fun d' q=>⟨d,hd,?_⟩
 ·rw [q];exact ⟨(h1.2.1 d hdm).1,hv⟩
 ·simp only [Tbn hl,Taq] at q;rw [<- q]
theorem ZbF (n:Int):I64 (IntKind.i64.wrap n):=by rw [IntKind.wrap_i64];unfold I64;omega
def opX (y:Bool) (name:ByteArray) (p:Option Addr × Nat) (ds:List (List C)) (fa fc:Bool) (u:Int):List C:=[.lit (.string name),if y then .lit (.slice p.1 ds.length p.2) else .sl ds,.lit (.bool fa),.lit (.bool fc),.lit (.int .i64 u)]
def mRx (y:Bool) (p:Option Addr × Nat):Option Bool->List (List C)
 | none=>[]
 | some w=>[opX y ⟨#[109]⟩ p [Zbs [0,0] 0] true true (if w then 1 else 0)]
def opsX (y:Nat->Bool) (p:Nat->Option Addr × Nat) (z u hc fa fc fu:Bool) (w:Option Bool):List (List C):=[opX (y 0) ⟨#[97]⟩ (p 0) [Zbs [] 0] false false 0,opX (y 1) ⟨#[98]⟩ (p 1) [Zbs [] 1] false false 0,opX (y 2) ⟨#[101]⟩ (p 2) [Zbs [] 2] false false 0,opX (y 3) ⟨#[103]⟩ (p 3) (gDs u) false false 0,opX (y 4) ⟨#[104]⟩ (p 4) [Zbs [0,0] 0] false hc 0,opX (y 5) ⟨#[102]⟩ (p 5) (fDs z) fa fc (if fu then 3 else 0)]++mRx (y 6) (p 6) w
theorem ZBG (p:Nat->Option Addr × Nat) (z u hc fa fc fu:Bool) (w:Option Bool):opsL p z u hc fa fc fu w=opsX (fun _=>true) p z u hc fa fc fu w:=by cases w <;> rfl
theorem ZyQ (y:Nat->Bool) (p:Nat->Option Addr × Nat) (z u hc fa fc fu:Bool) (w:Option Bool):(opsX y p z u hc fa fc fu w).length=(sigD z u hc fa fc fu w).ops.length:=by cases w <;> rfl
theorem ZyR {y:Nat->Bool} (p:Nat->Option Addr × Nat) (z u hc fa fc fu:Bool) (w:Option Bool) (hy:∀ i,i < 7->y i=false):opsX y p z u hc fa fc fu w=(sigD z u hc fa fc fu w).ops.map Zax:=by
 have e:opsX y p z u hc fa fc fu w=opsX (fun _=>false) p z u hc fa fc fu w:=by
  cases w <;> simp only [opsX,mRx,hy 0 (by decide),hy 1 (by decide),hy 2 (by decide),hy 3 (by decide),hy 4 (by decide),hy 5 (by decide),hy 6 (by decide)]
 rw [e,<- (Zii z u hc fa fc fu w).2.2]
 cases w <;> cases z <;> cases u <;> cases fu <;> first | rfl | (rename_i w;cases w <;> rfl)
def yK (n:Nat) (q:Option Nat) (i:Nat):Bool:=match q with
 | none=>decide (n<=i)
 | some k=>decide (i=k) || decide (n<=i)
def RSgX (r:List D):Prop:=∃ g,BSg g∧r=[.agg (Zak g)]
def ZB4 (r:List D):Prop:=∃ nm:ByteArray,nm.size<=12∧r=[.one (.lit (.string nm))]
section
variable {x:Src} {b:Nat}
def Zxs:List ByteArray:=[⟨#[]⟩,⟨#[97]⟩,⟨#[102]⟩,⟨#[120,32,121]⟩]
theorem ZtH (hx:x.Ok):ConE (eC x b) 47 [curD b,.clip [[.lit (.string ⟨#[]⟩)],[.lit (.string ⟨#[97]⟩)],[.lit (.string ⟨#[102]⟩)],[.lit (.string ⟨#[120,32,121]⟩)]]] ZB4:=by
 have h:=(Znm (b:=b) hx (l:=Zxs) (by decide) (by decide)).args (lits:=[curD b,.clip [[.lit (.string ⟨#[]⟩)],[.lit (.string ⟨#[97]⟩)],[.lit (.string ⟨#[102]⟩)],[.lit (.string ⟨#[120,32,121]⟩)]]]) fun w S vs h=>by
  match vs,h with
  | [v1,v2],⟨h1,h2,_⟩=>exact ⟨h1,h2.1,trivial⟩
 refine ⟨h.1,fun w S vs hS hE hG hvs=>(h.2 w S vs hS hE hG hvs).mono fun en w' ⟨v,r,h1,⟨s,hs,hr⟩,h3⟩=>⟨v,r,h1,⟨s,?_,hr⟩,h3⟩⟩;simp only [Zxs,Tbg,List.not_mem_nil,or_false] at hs;rcases hs with rfl | rfl | rfl | rfl <;> decide
theorem ZqG (hx:x.Ok):ConE (eC x b) 17 [curD b] RSgX:=by
 have he:=hx.okC (b:=b);have b24:=ZbX (b:=b) hx (n:=24) (by decide) (by decide);have b10:=ZbX (b:=b) hx (n:=10) (by decide) (by decide);have b5:=ZbX (b:=b) hx (n:=5) (by decide) (by decide);have cN:=ZtH (b:=b) hx;refine gIE (ts:=[.cell 2 30]) 4836000732488455136763933 Tryz.func17 ?_;refine fN 1 @tmC ?_;refine gB ?_;have F:=@tmC;refine gCP [] [1004,2000,2001,2002,2003,2004,2005,2006,2007] ((Zpw hx)) ?_;clear F
 rintro r pm ⟨z,u,hc,fa,fc,fu,w,a,kk,p,sa,sk,hv,rfl,rfl⟩;simp only [setA,retA,zipM,Taf,Tah,dBk];have hS:=ZBF (u:=u) (hc:=hc) (w:=w) hv;have hL6:6<=(sigD z u hc fa fc fu w).ops.length∧(sigD z u hc fa fc fu w).ops.length<=7:=by cases w <;> exact ⟨Nat.le_of_ble_eq_true rfl,Nat.le_of_ble_eq_true rfl⟩
 have eX:=fun y=>ZyQ y p z u hc fa fc fu w;have eN:=(Zii z u hc fa fc fu w).1;have eS:=(Zii z u hc fa fc fu w).2.1;have eO:=fun y=>ZyR (y:=y) p z u hc fa fc fu w;rw [ZBG];refine fR @tmC ?_;have cK:=ZbX (b:=b) hx (n:=(opsX (fun _=>true) p z u hc fa fc fu w).length) (by rw [eX];omega) (by rw [eX];omega);refine fN 2 @tmC ?_;refine gB ?_;have F:=@tmC;refine gCE (cK) ?_;clear F;rintro r ⟨k,hk,rfl⟩;rw [eX] at hk
 refine fR @tmC ?_;clear cK;refine fN 3 @tmC ?_;refine gB ?_;have F:=@tmC;refine gCE (b24) ?_;clear F;rintro r ⟨q,hq,rfl⟩;refine fR @tmC ?_;have hE:∀ g:Sgn,Zak g=[.sl (g.sorts.names.map ZbR),.sl (g.sorts.subs.map ZbS),.sl (g.ops.map Zax)]:=fun g=>by rw [Zak]
 refine gM (ι:=Sgn) [13,14,24,38,48,61,68,82] [3,1004,2000,2001,2002,2003,2004,2005,2006,2007] (fun g'=>[]) (fun g'=>[(3,.var none [.sl (g'.sorts.names.map ZbR),.sl (g'.sorts.subs.map ZbS),.sl (g'.ops.map Zax)])]) (fun g'=>BSg g') ?_ (fun g' hg'=>Exists.intro _ (ai (Wk.refl _) ?_));rotate_left
 ·refine fG @tmC ?_;exact (have F:=ai hE tmC;gTE (R:=RSgX) [] ⟨g',hg',rfl⟩)
 have hz1:∀ p q:Prop,(p∧False∧q)=False:=fun p q=>by simp
 by_cases q3:q=3;rotate_left
 ·rw [eN,eS,eX];refine pR 2000 1004 0 1 (opsX (yK 1 none) p z u hc fa fc fu w) ?_ ⟨_,rfl,rfl,rfl⟩;refine pR 2001 1004 1 1 (opsX (yK 2 none) p z u hc fa fc fu w) ?_ ⟨_,rfl,rfl,rfl⟩;refine pR 2002 1004 2 1 (opsX (yK 3 none) p z u hc fa fc fu w) ?_ ⟨_,rfl,rfl,rfl⟩;refine pR 2003 1004 3 1 (opsX (yK 4 none) p z u hc fa fc fu w) ?_ ⟨_,rfl,rfl,rfl⟩;refine pR 2004 1004 4 1 (opsX (yK 5 none) p z u hc fa fc fu w) ?_ ⟨_,rfl,rfl,rfl⟩
  refine pR 2005 1004 5 1 (opsX (yK 6 none) p z u hc fa fc fu w) ?_ ⟨_,rfl,rfl,rfl⟩;rcases w with _ | w
  refine pD 2006 [] [] ?_;rw [show opsX (yK 6 none) p z u hc fa fc fu none=opsX (yK 7 none) p z u hc fa fc fu none from rfl,eO (yK 7 none) (by decide)];clear eO eX eN eS;generalize sigD z u hc fa fc fu none=G at *;rotate_left;refine pR 2006 1004 6 1 (opsX (yK 7 none) p z u hc fa fc fu (some w)) ?_ ⟨_,rfl,rfl,rfl⟩;rw [eO (yK 7 none) (by decide)];clear eO eX eN eS;generalize sigD z u hc fa fc fu (some w)=G at *
  all_goals
   obtain ⟨o,ho⟩:∃ o,G.ops[k]?=some o:=⟨_,Taa hk⟩;have hgo:(G.ops.map Zax)[k]?=some (Zax o):=by rw [Tba,ho];rfl
   have hLm:(G.ops.map Zax).length=G.ops.length:=Tay _;have hst:∀ o':Opr,(G.ops.map Zax).set k [.lit (.string o'.name),.sl (o'.decls.map ZcM),.lit (.bool o'.assoc),.lit (.bool o'.comm),.lit (.int .i64 o'.unit)]=(G.ops.set k o').map Zax:=fun o'=>by rw [List.map_set];rfl
   by_cases h0:q=0
   ·have c0:((q:Int)=0)=True:=eq_true om;refine fN 5 (ai @c0 @tmC) ?_;have F:=aj4 hgo hk hLm tmC;refine gN0 8 [0,1,2,3,4,6,7] [5] ?_;clear F;have F:=aj4 hgo hk hLm tmC;refine gNd ?_;clear F;have F:=tmC;refine gNE cN ?_;clear F;rintro r ⟨nm,hnm,rfl⟩;have F:=tmC;refine gNr ?_;clear F;have F:=aj5 @hgo @hk @hLm @Zag @tmC;refine gP 1 ?_;clear F;rw [hst ⟨nm,o.decls,o.assoc,o.comm,o.unit⟩];refine gRv 1004 3 2 ?_
    refine gRv 2007 3 1 ?_;refine fR @tmC ?_;have F:=@tmC;refine gG ?_;exact ⟨⟨G.sorts,G.ops.set k ⟨nm,o.decls,o.assoc,o.comm,o.unit⟩⟩,hS.chg ho om (hS.op ho).1.2.2,gw,gw⟩
   have c0:((q:Int)=0)=False:=eq_false om;by_cases h1:q=1
   ·have c1:((q:Int)=1)=True:=eq_true om;refine fN 7 (aj3 @c0 @c1 @tmC) ?_;refine gB ?_;have F:=aj5 @hgo @hk @hLm @Zag @tmC;refine gP 12 ?_;clear F;have F:=aj5 @hgo @hk @hLm @Zag @tmC;refine gP 1 ?_;clear F;rw [hst ⟨o.name,o.decls,!o.assoc,o.comm,o.unit⟩];refine gRv 1004 3 2 ?_;refine gRv 2007 3 1 ?_;refine fR @tmC ?_;have F:=@tmC;refine gG ?_;exact ⟨⟨G.sorts,G.ops.set k ⟨o.name,o.decls,!o.assoc,o.comm,o.unit⟩⟩,hS.chg ho (by have h:=(hS.op ho).2;rw [Zek] at h;omega) (hS.op ho).1.2.2,gw,gw⟩
   have c1:((q:Int)=1)=False:=eq_false om;by_cases h2:q=2
   ·have c2:((q:Int)=2)=True:=eq_true om;refine fN 9 (aj4 @c0 @c1 @c2 @tmC) ?_;have F:=aj4 hgo hk hLm tmC;refine gN0 8 [0,1,2,3,6,7] [4,5] ?_;clear F;have F:=aj4 hgo hk hLm tmC;refine gNd ?_;clear F;have F:=tmC;refine gNE b10 ?_;clear F;rintro r ⟨j,hj,rfl⟩;have F:=tmC;refine gNr ?_;clear F;have F:=aj5 @hgo @hk @hLm @Zag @tmC;refine gP 1 ?_;clear F;rw [hst ⟨o.name,o.decls,o.assoc,o.comm,IntKind.i64.wrap ((j:Int) - 1)⟩]
    refine gRv 1004 3 2 ?_;refine gRv 2007 3 1 ?_;refine fR @tmC ?_;have F:=@tmC;refine gG ?_;exact ⟨⟨G.sorts,G.ops.set k ⟨o.name,o.decls,o.assoc,o.comm,IntKind.i64.wrap ((j:Int) - 1)⟩⟩,hS.chg ho (by have h:=(hS.op ho).2;rw [Zek] at h;omega) (ZbF _),gw,gw⟩
   have c2:((q:Int)=2)=False:=eq_false om;have c3:((q:Int)=3)=False:=eq_false om;by_cases h4:q=4
   ·have c4:((q:Int)=4)=True:=eq_true om;refine fN 13 (aj6 @c0 @c1 @c2 @c3 @c4 @tmC) ?_;refine gB ?_;have F:=aj5 @hgo @hk @hLm @Zag @tmC;refine gP 5 ?_;clear F;have F:=aj5 @hgo @hk @hLm @Zag @tmC;refine gP 1 ?_;clear F;have hst4:(G.ops.map Zax).set k [.lit (.string o.name),.sl [],.lit (.bool o.assoc),.lit (.bool o.comm),.lit (.int .i64 o.unit)]=(G.ops.set k ⟨o.name,[],o.assoc,o.comm,o.unit⟩).map Zax:=hst ⟨o.name,[],o.assoc,o.comm,o.unit⟩
    rw [hst4];refine gRv 1004 3 2 ?_;refine gRv 2007 3 1 ?_;refine fR @tmC ?_;have F:=@tmC;refine gG ?_;exact ⟨⟨G.sorts,G.ops.set k ⟨o.name,[],o.assoc,o.comm,o.unit⟩⟩,hS.nod ho,gw,gw⟩
   have c4:((q:Int)=4)=False:=eq_false om;by_cases h5:q=5
   ·have c5:((q:Int)=5)=True:=eq_true om;refine fN 15 (aj7 @c0 @c1 @c2 @c3 @c4 @c5 @tmC) ?_;refine gB ?_;have F:=aj5 @hgo @hk @hLm @Zag @tmC;refine gP 12 ?_;clear F;have F:=aj5 @hgo @hk @hLm @Zag @tmC;refine gP 1 ?_;clear F;rw [hst ⟨o.name,o.decls,o.assoc,!o.comm,o.unit⟩];refine gRv 1004 3 2 ?_;refine gRv 2007 3 1 ?_;refine fR @tmC ?_;have F:=@tmC;refine gG ?_;exact ⟨⟨G.sorts,G.ops.set k ⟨o.name,o.decls,o.assoc,!o.comm,o.unit⟩⟩,hS.chg ho (by have h:=(hS.op ho).2;rw [Zek] at h;omega) (hS.op ho).1.2.2,gw,gw⟩
   have c5:((q:Int)=5)=False:=eq_false om;by_cases h6:q=6
   ·have c6:((q:Int)=6)=True:=eq_true om;have hsl:G.sorts.subs.length<=1000:=by have:=hS.hb;rw [Zfm] at this;omega
    have hm:((G.sorts.subs.map ZbS).length+1<=maxApp)=True:=eq_true (by rw [Tay];unfold maxApp;omega);have hm2:(G.sorts.subs.length+1<=maxApp)=True:=eq_true (by unfold maxApp;omega);have hsn:G.sorts.subs.map ZbS++[[C.lit (.int .i64 2),.lit (.int .i64 1)]]=(G.sorts.subs++[(2,1)]).map ZbS:=by rw [Tbv];rfl
    refine fN 17 (aj8 @c0 @c1 @c2 @c3 @c4 @c5 @c6 @tmC) ?_;refine gB ?_;have F:=@tmC;refine gP 3 ?_;clear F;refine gKx 86 2007 ?_;have F:=aj3 @hm @hm2 @tmC;refine gP 3 ?_;clear F;rw [hsn];refine gS 89 fun a2 k2=>?_;have F:=@tmC;refine gP 3 ?_;clear F;refine gE [89] [2007] Zbd ?_;refine gRv 1004 3 2 ?_;refine gRv 2007 3 1 ?_;refine fR @tmC ?_;have F:=@tmC;refine gG ?_;exact ⟨⟨⟨G.sorts.names,G.sorts.subs++[(2,1)]⟩,G.ops⟩,hS.subs,gw,gw⟩
   have c6:((q:Int)=6)=False:=eq_false om
   ·refine pRv 1004 3 2 ?_;refine pRv 2007 3 1 ?_;have F:=aj8 @c0 @c1 @c2 @c3 @c4 @c5 @c6 @tmC;refine gG ?_;exact ⟨G,hS.b,gw,gw⟩
 ·rw [eN,eS,eX];have c0:((q:Int)=0)=False:=eq_false om;have c1:((q:Int)=1)=False:=eq_false om;have c2:((q:Int)=2)=False:=eq_false om;have c3:((q:Int)=3)=True:=eq_true om;have hcs:k=0∨k=1∨k=2∨k=3∨k=4∨k=5∨k=6:=om;rcases hcs with rfl | rfl | rfl | rfl | rfl | rfl | rfl
  ·skip
   refine pR 2001 1004 1 1 (opsX (yK 2 (some 0)) p z u hc fa fc fu w) ?_ ⟨_,rfl,rfl,rfl⟩;refine pR 2002 1004 2 1 (opsX (yK 3 (some 0)) p z u hc fa fc fu w) ?_ ⟨_,rfl,rfl,rfl⟩;refine pR 2003 1004 3 1 (opsX (yK 4 (some 0)) p z u hc fa fc fu w) ?_ ⟨_,rfl,rfl,rfl⟩;refine pR 2004 1004 4 1 (opsX (yK 5 (some 0)) p z u hc fa fc fu w) ?_ ⟨_,rfl,rfl,rfl⟩;refine pR 2005 1004 5 1 (opsX (yK 6 (some 0)) p z u hc fa fc fu w) ?_ ⟨_,rfl,rfl,rfl⟩
   rcases w with _ | w
   ·skip
    refine pD 2006 [] [] ?_;rw [show opsX (yK 6 (some 0)) p z u hc fa fc fu none=opsX (yK 7 (some 0)) p z u hc fa fc fu none from rfl];refine pE [2000] [3000] Zbd ?_;have hrow:(opsX (yK 7 (some 0)) p z u hc fa fc fu none)[0]?=some [.lit (.string ⟨#[97]⟩),.lit (.slice (p 0).1 1 (p 0).2),.lit (.bool false),.lit (.bool false),.lit (.int .i64 0)]:=rfl;have hlen:=eX (yK 7 (some 0));have hkl:0 < (opsX (yK 7 (some 0)) p z u hc fa fc fu none).length:=by rw [hlen];exact hk
    have hn1:((sigD z u hc fa fc fu none).ops.length=1)=False:=eq_false om;have hn2:((sigD z u hc fa fc fu none).ops.length=2)=False:=eq_false om;refine fN 11 (aj5 @c0 @c1 @c2 @c3 @tmC) ?_;have F:=aj8 hrow hlen hk hn1 hn2 hz1 dsU tmC;refine gN0 11 [0,1,2,3,4,5,6,9,10] [7,8] ?_;clear F;have F:=aj8 hrow hlen hk hn1 hn2 hz1 dsU tmC;refine gNd ?_;clear F;have F:=tmC;refine gNE b5 ?_;clear F;rintro r ⟨j,hj,rfl⟩
    have F:=tmC;refine gNr ?_;clear F;have F:=ai @dsU @tmC;refine gP 1 ?_;clear F;refine gRr 3000 1004 0 1 (((sigD z u hc fa fc fu none).ops.set 0 (⟨nm1 97,[⟨[],IntKind.i64.wrap ((j:Int) - 1)⟩],false,false,0⟩:Opr)).map Zax) ?_ ?_;rotate_left
    ·exact ⟨_,rfl,rfl,(by (try cases z) <;> (try cases u) <;> (try cases fu) <;> (try cases w) <;> rfl)⟩
    refine gRv 1004 3 2 ?_;refine gRv 2007 3 1 ?_;refine fR @tmC ?_;have F:=@tmC;refine gG ?_;exact ⟨⟨(sigD z u hc fa fc fu none).sorts,(sigD z u hc fa fc fu none).ops.set 0 (⟨nm1 97,[⟨[],IntKind.i64.wrap ((j:Int) - 1)⟩],false,false,0⟩:Opr)⟩,hS.res (o:=⟨nm1 97,[⟨[],0⟩],false,false,0⟩) (d:=⟨[],0⟩) rfl rfl (ZbF _),gw,gw⟩
   ·skip
    refine pR 2006 1004 6 1 (opsX (yK 7 (some 0)) p z u hc fa fc fu (some w)) ?_ ⟨_,rfl,rfl,rfl⟩;refine pE [2000] [3000] Zbd ?_;have hrow:(opsX (yK 7 (some 0)) p z u hc fa fc fu (some w))[0]?=some [.lit (.string ⟨#[97]⟩),.lit (.slice (p 0).1 1 (p 0).2),.lit (.bool false),.lit (.bool false),.lit (.int .i64 0)]:=rfl;have hlen:=eX (yK 7 (some 0));have hkl:0 < (opsX (yK 7 (some 0)) p z u hc fa fc fu (some w)).length:=by rw [hlen];exact hk
    have hn1:((sigD z u hc fa fc fu (some w)).ops.length=1)=False:=eq_false om;have hn2:((sigD z u hc fa fc fu (some w)).ops.length=2)=False:=eq_false om;refine fN 11 (aj5 @c0 @c1 @c2 @c3 @tmC) ?_;have F:=aj8 hrow hlen hk hn1 hn2 hz1 dsU tmC;refine gN0 11 [0,1,2,3,4,5,6,9,10] [7,8] ?_;clear F;have F:=aj8 hrow hlen hk hn1 hn2 hz1 dsU tmC;refine gNd ?_;clear F;have F:=tmC;refine gNE b5 ?_;clear F;rintro r ⟨j,hj,rfl⟩
    have F:=tmC;refine gNr ?_;clear F;have F:=ai @dsU @tmC;refine gP 1 ?_;clear F;refine gRr 3000 1004 0 1 (((sigD z u hc fa fc fu (some w)).ops.set 0 (⟨nm1 97,[⟨[],IntKind.i64.wrap ((j:Int) - 1)⟩],false,false,0⟩:Opr)).map Zax) ?_ ?_;rotate_left
    ·exact ⟨_,rfl,rfl,(by (try cases z) <;> (try cases u) <;> (try cases fu) <;> (try cases w) <;> rfl)⟩
    refine gRv 1004 3 2 ?_;refine gRv 2007 3 1 ?_;refine fR @tmC ?_;have F:=@tmC;refine gG ?_;exact ⟨⟨(sigD z u hc fa fc fu (some w)).sorts,(sigD z u hc fa fc fu (some w)).ops.set 0 (⟨nm1 97,[⟨[],IntKind.i64.wrap ((j:Int) - 1)⟩],false,false,0⟩:Opr)⟩,hS.res (o:=⟨nm1 97,[⟨[],0⟩],false,false,0⟩) (d:=⟨[],0⟩) rfl rfl (ZbF _),gw,gw⟩
  ·skip
   refine pR 2000 1004 0 1 (opsX (yK 1 (some 1)) p z u hc fa fc fu w) ?_ ⟨_,rfl,rfl,rfl⟩;refine pR 2002 1004 2 1 (opsX (yK 3 (some 1)) p z u hc fa fc fu w) ?_ ⟨_,rfl,rfl,rfl⟩;refine pR 2003 1004 3 1 (opsX (yK 4 (some 1)) p z u hc fa fc fu w) ?_ ⟨_,rfl,rfl,rfl⟩;refine pR 2004 1004 4 1 (opsX (yK 5 (some 1)) p z u hc fa fc fu w) ?_ ⟨_,rfl,rfl,rfl⟩;refine pR 2005 1004 5 1 (opsX (yK 6 (some 1)) p z u hc fa fc fu w) ?_ ⟨_,rfl,rfl,rfl⟩
   rcases w with _ | w
   ·skip
    refine pD 2006 [] [] ?_;rw [show opsX (yK 6 (some 1)) p z u hc fa fc fu none=opsX (yK 7 (some 1)) p z u hc fa fc fu none from rfl];refine pE [2001] [3000] Zbd ?_;have hrow:(opsX (yK 7 (some 1)) p z u hc fa fc fu none)[1]?=some [.lit (.string ⟨#[98]⟩),.lit (.slice (p 1).1 1 (p 1).2),.lit (.bool false),.lit (.bool false),.lit (.int .i64 0)]:=rfl;have hlen:=eX (yK 7 (some 1));have hkl:1 < (opsX (yK 7 (some 1)) p z u hc fa fc fu none).length:=by rw [hlen];exact hk
    have hn1:((sigD z u hc fa fc fu none).ops.length=1)=False:=eq_false om;have hn2:((sigD z u hc fa fc fu none).ops.length=2)=False:=eq_false om;refine fN 11 (aj5 @c0 @c1 @c2 @c3 @tmC) ?_;have F:=aj8 hrow hlen hk hn1 hn2 hz1 dsU tmC;refine gN0 11 [0,1,2,3,4,5,6,9,10] [7,8] ?_;clear F;have F:=aj8 hrow hlen hk hn1 hn2 hz1 dsU tmC;refine gNd ?_;clear F;have F:=tmC;refine gNE b5 ?_;clear F;rintro r ⟨j,hj,rfl⟩
    have F:=tmC;refine gNr ?_;clear F;have F:=ai @dsU @tmC;refine gP 1 ?_;clear F;refine gRr 3000 1004 1 1 (((sigD z u hc fa fc fu none).ops.set 1 (⟨nm1 98,[⟨[],IntKind.i64.wrap ((j:Int) - 1)⟩],false,false,0⟩:Opr)).map Zax) ?_ ?_;rotate_left
    ·exact ⟨_,rfl,rfl,(by (try cases z) <;> (try cases u) <;> (try cases fu) <;> (try cases w) <;> rfl)⟩
    refine gRv 1004 3 2 ?_;refine gRv 2007 3 1 ?_;refine fR @tmC ?_;have F:=@tmC;refine gG ?_;exact ⟨⟨(sigD z u hc fa fc fu none).sorts,(sigD z u hc fa fc fu none).ops.set 1 (⟨nm1 98,[⟨[],IntKind.i64.wrap ((j:Int) - 1)⟩],false,false,0⟩:Opr)⟩,hS.res (o:=⟨nm1 98,[⟨[],1⟩],false,false,0⟩) (d:=⟨[],1⟩) rfl rfl (ZbF _),gw,gw⟩
   ·skip
    refine pR 2006 1004 6 1 (opsX (yK 7 (some 1)) p z u hc fa fc fu (some w)) ?_ ⟨_,rfl,rfl,rfl⟩;refine pE [2001] [3000] Zbd ?_;have hrow:(opsX (yK 7 (some 1)) p z u hc fa fc fu (some w))[1]?=some [.lit (.string ⟨#[98]⟩),.lit (.slice (p 1).1 1 (p 1).2),.lit (.bool false),.lit (.bool false),.lit (.int .i64 0)]:=rfl;have hlen:=eX (yK 7 (some 1));have hkl:1 < (opsX (yK 7 (some 1)) p z u hc fa fc fu (some w)).length:=by rw [hlen];exact hk
    have hn1:((sigD z u hc fa fc fu (some w)).ops.length=1)=False:=eq_false om;have hn2:((sigD z u hc fa fc fu (some w)).ops.length=2)=False:=eq_false om;refine fN 11 (aj5 @c0 @c1 @c2 @c3 @tmC) ?_;have F:=aj8 hrow hlen hk hn1 hn2 hz1 dsU tmC;refine gN0 11 [0,1,2,3,4,5,6,9,10] [7,8] ?_;clear F;have F:=aj8 hrow hlen hk hn1 hn2 hz1 dsU tmC;refine gNd ?_;clear F;have F:=tmC;refine gNE b5 ?_;clear F;rintro r ⟨j,hj,rfl⟩
    have F:=tmC;refine gNr ?_;clear F;have F:=ai @dsU @tmC;refine gP 1 ?_;clear F;refine gRr 3000 1004 1 1 (((sigD z u hc fa fc fu (some w)).ops.set 1 (⟨nm1 98,[⟨[],IntKind.i64.wrap ((j:Int) - 1)⟩],false,false,0⟩:Opr)).map Zax) ?_ ?_;rotate_left
    ·exact ⟨_,rfl,rfl,(by (try cases z) <;> (try cases u) <;> (try cases fu) <;> (try cases w) <;> rfl)⟩
    refine gRv 1004 3 2 ?_;refine gRv 2007 3 1 ?_;refine fR @tmC ?_;have F:=@tmC;refine gG ?_;exact ⟨⟨(sigD z u hc fa fc fu (some w)).sorts,(sigD z u hc fa fc fu (some w)).ops.set 1 (⟨nm1 98,[⟨[],IntKind.i64.wrap ((j:Int) - 1)⟩],false,false,0⟩:Opr)⟩,hS.res (o:=⟨nm1 98,[⟨[],1⟩],false,false,0⟩) (d:=⟨[],1⟩) rfl rfl (ZbF _),gw,gw⟩
  ·skip
   refine pR 2000 1004 0 1 (opsX (yK 1 (some 2)) p z u hc fa fc fu w) ?_ ⟨_,rfl,rfl,rfl⟩;refine pR 2001 1004 1 1 (opsX (yK 2 (some 2)) p z u hc fa fc fu w) ?_ ⟨_,rfl,rfl,rfl⟩;refine pR 2003 1004 3 1 (opsX (yK 4 (some 2)) p z u hc fa fc fu w) ?_ ⟨_,rfl,rfl,rfl⟩;refine pR 2004 1004 4 1 (opsX (yK 5 (some 2)) p z u hc fa fc fu w) ?_ ⟨_,rfl,rfl,rfl⟩;refine pR 2005 1004 5 1 (opsX (yK 6 (some 2)) p z u hc fa fc fu w) ?_ ⟨_,rfl,rfl,rfl⟩
   rcases w with _ | w
   ·skip
    refine pD 2006 [] [] ?_;rw [show opsX (yK 6 (some 2)) p z u hc fa fc fu none=opsX (yK 7 (some 2)) p z u hc fa fc fu none from rfl];refine pE [2002] [3000] Zbd ?_;have hrow:(opsX (yK 7 (some 2)) p z u hc fa fc fu none)[2]?=some [.lit (.string ⟨#[101]⟩),.lit (.slice (p 2).1 1 (p 2).2),.lit (.bool false),.lit (.bool false),.lit (.int .i64 0)]:=rfl;have hlen:=eX (yK 7 (some 2));have hkl:2 < (opsX (yK 7 (some 2)) p z u hc fa fc fu none).length:=by rw [hlen];exact hk
    have hn1:((sigD z u hc fa fc fu none).ops.length=1)=False:=eq_false om;have hn2:((sigD z u hc fa fc fu none).ops.length=2)=False:=eq_false om;refine fN 11 (aj5 @c0 @c1 @c2 @c3 @tmC) ?_;have F:=aj8 hrow hlen hk hn1 hn2 hz1 dsU tmC;refine gN0 11 [0,1,2,3,4,5,6,9,10] [7,8] ?_;clear F;have F:=aj8 hrow hlen hk hn1 hn2 hz1 dsU tmC;refine gNd ?_;clear F;have F:=tmC;refine gNE b5 ?_;clear F;rintro r ⟨j,hj,rfl⟩
    have F:=tmC;refine gNr ?_;clear F;have F:=ai @dsU @tmC;refine gP 1 ?_;clear F;refine gRr 3000 1004 2 1 (((sigD z u hc fa fc fu none).ops.set 2 (⟨nm1 101,[⟨[],IntKind.i64.wrap ((j:Int) - 1)⟩],false,false,0⟩:Opr)).map Zax) ?_ ?_;rotate_left
    ·exact ⟨_,rfl,rfl,(by (try cases z) <;> (try cases u) <;> (try cases fu) <;> (try cases w) <;> rfl)⟩
    refine gRv 1004 3 2 ?_;refine gRv 2007 3 1 ?_;refine fR @tmC ?_;have F:=@tmC;refine gG ?_;exact ⟨⟨(sigD z u hc fa fc fu none).sorts,(sigD z u hc fa fc fu none).ops.set 2 (⟨nm1 101,[⟨[],IntKind.i64.wrap ((j:Int) - 1)⟩],false,false,0⟩:Opr)⟩,hS.res (o:=⟨nm1 101,[⟨[],2⟩],false,false,0⟩) (d:=⟨[],2⟩) rfl rfl (ZbF _),gw,gw⟩
   ·skip
    refine pR 2006 1004 6 1 (opsX (yK 7 (some 2)) p z u hc fa fc fu (some w)) ?_ ⟨_,rfl,rfl,rfl⟩;refine pE [2002] [3000] Zbd ?_;have hrow:(opsX (yK 7 (some 2)) p z u hc fa fc fu (some w))[2]?=some [.lit (.string ⟨#[101]⟩),.lit (.slice (p 2).1 1 (p 2).2),.lit (.bool false),.lit (.bool false),.lit (.int .i64 0)]:=rfl;have hlen:=eX (yK 7 (some 2));have hkl:2 < (opsX (yK 7 (some 2)) p z u hc fa fc fu (some w)).length:=by rw [hlen];exact hk
    have hn1:((sigD z u hc fa fc fu (some w)).ops.length=1)=False:=eq_false om;have hn2:((sigD z u hc fa fc fu (some w)).ops.length=2)=False:=eq_false om;refine fN 11 (aj5 @c0 @c1 @c2 @c3 @tmC) ?_;have F:=aj8 hrow hlen hk hn1 hn2 hz1 dsU tmC;refine gN0 11 [0,1,2,3,4,5,6,9,10] [7,8] ?_;clear F;have F:=aj8 hrow hlen hk hn1 hn2 hz1 dsU tmC;refine gNd ?_;clear F;have F:=tmC;refine gNE b5 ?_;clear F;rintro r ⟨j,hj,rfl⟩
    have F:=tmC;refine gNr ?_;clear F;have F:=ai @dsU @tmC;refine gP 1 ?_;clear F;refine gRr 3000 1004 2 1 (((sigD z u hc fa fc fu (some w)).ops.set 2 (⟨nm1 101,[⟨[],IntKind.i64.wrap ((j:Int) - 1)⟩],false,false,0⟩:Opr)).map Zax) ?_ ?_;rotate_left
    ·exact ⟨_,rfl,rfl,(by (try cases z) <;> (try cases u) <;> (try cases fu) <;> (try cases w) <;> rfl)⟩
    refine gRv 1004 3 2 ?_;refine gRv 2007 3 1 ?_;refine fR @tmC ?_;have F:=@tmC;refine gG ?_;exact ⟨⟨(sigD z u hc fa fc fu (some w)).sorts,(sigD z u hc fa fc fu (some w)).ops.set 2 (⟨nm1 101,[⟨[],IntKind.i64.wrap ((j:Int) - 1)⟩],false,false,0⟩:Opr)⟩,hS.res (o:=⟨nm1 101,[⟨[],2⟩],false,false,0⟩) (d:=⟨[],2⟩) rfl rfl (ZbF _),gw,gw⟩
  ·skip
   refine pR 2000 1004 0 1 (opsX (yK 1 (some 3)) p z u hc fa fc fu w) ?_ ⟨_,rfl,rfl,rfl⟩;refine pR 2001 1004 1 1 (opsX (yK 2 (some 3)) p z u hc fa fc fu w) ?_ ⟨_,rfl,rfl,rfl⟩;refine pR 2002 1004 2 1 (opsX (yK 3 (some 3)) p z u hc fa fc fu w) ?_ ⟨_,rfl,rfl,rfl⟩;refine pR 2004 1004 4 1 (opsX (yK 5 (some 3)) p z u hc fa fc fu w) ?_ ⟨_,rfl,rfl,rfl⟩;refine pR 2005 1004 5 1 (opsX (yK 6 (some 3)) p z u hc fa fc fu w) ?_ ⟨_,rfl,rfl,rfl⟩
   rcases w with _ | w
   ·skip
    refine pD 2006 [] [] ?_;rw [show opsX (yK 6 (some 3)) p z u hc fa fc fu none=opsX (yK 7 (some 3)) p z u hc fa fc fu none from rfl]
    cases u
    ·skip
     refine pE [2003] [3000] Zbd ?_;have hrow:(opsX (yK 7 (some 3)) p z false hc fa fc fu none)[3]?=some [.lit (.string ⟨#[103]⟩),.lit (.slice (p 3).1 1 (p 3).2),.lit (.bool false),.lit (.bool false),.lit (.int .i64 0)]:=rfl;have hlen:=eX (yK 7 (some 3));have hkl:3 < (opsX (yK 7 (some 3)) p z false hc fa fc fu none).length:=by rw [hlen];exact hk
     have hn1:((sigD z false hc fa fc fu none).ops.length=1)=False:=eq_false om;have hn2:((sigD z false hc fa fc fu none).ops.length=2)=False:=eq_false om;refine fN 11 (aj5 @c0 @c1 @c2 @c3 @tmC) ?_;have F:=aj8 hrow hlen hk hn1 hn2 hz1 dsU tmC;refine gN0 11 [0,1,2,3,4,5,6,9,10] [7,8] ?_;clear F;have F:=aj8 hrow hlen hk hn1 hn2 hz1 dsU tmC;refine gNd ?_;clear F;have F:=tmC;refine gNE b5 ?_;clear F;rintro r ⟨j,hj,rfl⟩
     have F:=tmC;refine gNr ?_;clear F;have F:=ai @dsU @tmC;refine gP 1 ?_;clear F;refine gRr 3000 1004 3 1 (((sigD z false hc fa fc fu none).ops.set 3 (⟨nm1 103,[⟨[0],IntKind.i64.wrap ((j:Int) - 1)⟩],false,false,0⟩:Opr)).map Zax) ?_ ?_;rotate_left
     ·exact ⟨_,rfl,rfl,(by (try cases z) <;> (try cases u) <;> (try cases fu) <;> (try cases w) <;> rfl)⟩
     refine gRv 1004 3 2 ?_;refine gRv 2007 3 1 ?_;refine fR @tmC ?_;have F:=@tmC;refine gG ?_;exact ⟨⟨(sigD z false hc fa fc fu none).sorts,(sigD z false hc fa fc fu none).ops.set 3 (⟨nm1 103,[⟨[0],IntKind.i64.wrap ((j:Int) - 1)⟩],false,false,0⟩:Opr)⟩,hS.res (o:=⟨nm1 103,[⟨[0],1⟩],false,false,0⟩) (d:=⟨[0],1⟩) rfl rfl (ZbF _),gw,gw⟩
    ·skip
     refine pE [2003] [3000] Zbd ?_;have hrow:(opsX (yK 7 (some 3)) p z true hc fa fc fu none)[3]?=some [.lit (.string ⟨#[103]⟩),.lit (.slice (p 3).1 2 (p 3).2),.lit (.bool false),.lit (.bool false),.lit (.int .i64 0)]:=rfl;have hlen:=eX (yK 7 (some 3));have hkl:3 < (opsX (yK 7 (some 3)) p z true hc fa fc fu none).length:=by rw [hlen];exact hk
     have hn1:((sigD z true hc fa fc fu none).ops.length=1)=False:=eq_false om;have hn2:((sigD z true hc fa fc fu none).ops.length=2)=False:=eq_false om;refine fN 11 (aj5 @c0 @c1 @c2 @c3 @tmC) ?_;have F:=aj8 hrow hlen hk hn1 hn2 hz1 dsU tmC;refine gN0 11 [0,1,2,3,4,5,6,9,10] [7,8] ?_;clear F;have F:=aj8 hrow hlen hk hn1 hn2 hz1 dsU tmC;refine gNd ?_;clear F;have F:=tmC;refine gNE b5 ?_;clear F;rintro r ⟨j,hj,rfl⟩
     have F:=tmC;refine gNr ?_;clear F;have F:=ai @dsU @tmC;refine gP 1 ?_;clear F;refine gRr 3000 1004 3 1 (((sigD z true hc fa fc fu none).ops.set 3 (⟨nm1 103,[⟨[0],IntKind.i64.wrap ((j:Int) - 1)⟩,⟨[1],1⟩],false,false,0⟩:Opr)).map Zax) ?_ ?_;rotate_left
     ·exact ⟨_,rfl,rfl,(by (try cases z) <;> (try cases u) <;> (try cases fu) <;> (try cases w) <;> rfl)⟩
     refine gRv 1004 3 2 ?_;refine gRv 2007 3 1 ?_;refine fR @tmC ?_;have F:=@tmC;refine gG ?_;exact ⟨⟨(sigD z true hc fa fc fu none).sorts,(sigD z true hc fa fc fu none).ops.set 3 (⟨nm1 103,[⟨[0],IntKind.i64.wrap ((j:Int) - 1)⟩,⟨[1],1⟩],false,false,0⟩:Opr)⟩,hS.res (o:=⟨nm1 103,[⟨[0],1⟩,⟨[1],1⟩],false,false,0⟩) (d:=⟨[0],1⟩) rfl rfl (ZbF _),gw,gw⟩
   ·skip
    refine pR 2006 1004 6 1 (opsX (yK 7 (some 3)) p z u hc fa fc fu (some w)) ?_ ⟨_,rfl,rfl,rfl⟩
    cases u
    ·skip
     refine pE [2003] [3000] Zbd ?_;have hrow:(opsX (yK 7 (some 3)) p z false hc fa fc fu (some w))[3]?=some [.lit (.string ⟨#[103]⟩),.lit (.slice (p 3).1 1 (p 3).2),.lit (.bool false),.lit (.bool false),.lit (.int .i64 0)]:=rfl;have hlen:=eX (yK 7 (some 3));have hkl:3 < (opsX (yK 7 (some 3)) p z false hc fa fc fu (some w)).length:=by rw [hlen];exact hk
     have hn1:((sigD z false hc fa fc fu (some w)).ops.length=1)=False:=eq_false om;have hn2:((sigD z false hc fa fc fu (some w)).ops.length=2)=False:=eq_false om;refine fN 11 (aj5 @c0 @c1 @c2 @c3 @tmC) ?_;have F:=aj8 hrow hlen hk hn1 hn2 hz1 dsU tmC;refine gN0 11 [0,1,2,3,4,5,6,9,10] [7,8] ?_;clear F;have F:=aj8 hrow hlen hk hn1 hn2 hz1 dsU tmC;refine gNd ?_;clear F;have F:=tmC;refine gNE b5 ?_;clear F
     rintro r ⟨j,hj,rfl⟩;have F:=tmC;refine gNr ?_;clear F;have F:=ai @dsU @tmC;refine gP 1 ?_;clear F;refine gRr 3000 1004 3 1 (((sigD z false hc fa fc fu (some w)).ops.set 3 (⟨nm1 103,[⟨[0],IntKind.i64.wrap ((j:Int) - 1)⟩],false,false,0⟩:Opr)).map Zax) ?_ ?_;rotate_left
     ·exact ⟨_,rfl,rfl,(by (try cases z) <;> (try cases u) <;> (try cases fu) <;> (try cases w) <;> rfl)⟩
     refine gRv 1004 3 2 ?_;refine gRv 2007 3 1 ?_;refine fR @tmC ?_;have F:=@tmC;refine gG ?_;exact ⟨⟨(sigD z false hc fa fc fu (some w)).sorts,(sigD z false hc fa fc fu (some w)).ops.set 3 (⟨nm1 103,[⟨[0],IntKind.i64.wrap ((j:Int) - 1)⟩],false,false,0⟩:Opr)⟩,hS.res (o:=⟨nm1 103,[⟨[0],1⟩],false,false,0⟩) (d:=⟨[0],1⟩) rfl rfl (ZbF _),gw,gw⟩
    ·skip
     refine pE [2003] [3000] Zbd ?_;have hrow:(opsX (yK 7 (some 3)) p z true hc fa fc fu (some w))[3]?=some [.lit (.string ⟨#[103]⟩),.lit (.slice (p 3).1 2 (p 3).2),.lit (.bool false),.lit (.bool false),.lit (.int .i64 0)]:=rfl;have hlen:=eX (yK 7 (some 3));have hkl:3 < (opsX (yK 7 (some 3)) p z true hc fa fc fu (some w)).length:=by rw [hlen];exact hk
     have hn1:((sigD z true hc fa fc fu (some w)).ops.length=1)=False:=eq_false om;have hn2:((sigD z true hc fa fc fu (some w)).ops.length=2)=False:=eq_false om;refine fN 11 (aj5 @c0 @c1 @c2 @c3 @tmC) ?_;have F:=aj8 hrow hlen hk hn1 hn2 hz1 dsU tmC;refine gN0 11 [0,1,2,3,4,5,6,9,10] [7,8] ?_;clear F;have F:=aj8 hrow hlen hk hn1 hn2 hz1 dsU tmC;refine gNd ?_;clear F;have F:=tmC;refine gNE b5 ?_;clear F
     rintro r ⟨j,hj,rfl⟩;have F:=tmC;refine gNr ?_;clear F;have F:=ai @dsU @tmC;refine gP 1 ?_;clear F;refine gRr 3000 1004 3 1 (((sigD z true hc fa fc fu (some w)).ops.set 3 (⟨nm1 103,[⟨[0],IntKind.i64.wrap ((j:Int) - 1)⟩,⟨[1],1⟩],false,false,0⟩:Opr)).map Zax) ?_ ?_;rotate_left
     ·exact ⟨_,rfl,rfl,(by (try cases z) <;> (try cases u) <;> (try cases fu) <;> (try cases w) <;> rfl)⟩
     refine gRv 1004 3 2 ?_;refine gRv 2007 3 1 ?_;refine fR @tmC ?_;have F:=@tmC;refine gG ?_;exact ⟨⟨(sigD z true hc fa fc fu (some w)).sorts,(sigD z true hc fa fc fu (some w)).ops.set 3 (⟨nm1 103,[⟨[0],IntKind.i64.wrap ((j:Int) - 1)⟩,⟨[1],1⟩],false,false,0⟩:Opr)⟩,hS.res (o:=⟨nm1 103,[⟨[0],1⟩,⟨[1],1⟩],false,false,0⟩) (d:=⟨[0],1⟩) rfl rfl (ZbF _),gw,gw⟩
  ·skip
   refine pR 2000 1004 0 1 (opsX (yK 1 (some 4)) p z u hc fa fc fu w) ?_ ⟨_,rfl,rfl,rfl⟩;refine pR 2001 1004 1 1 (opsX (yK 2 (some 4)) p z u hc fa fc fu w) ?_ ⟨_,rfl,rfl,rfl⟩;refine pR 2002 1004 2 1 (opsX (yK 3 (some 4)) p z u hc fa fc fu w) ?_ ⟨_,rfl,rfl,rfl⟩;refine pR 2003 1004 3 1 (opsX (yK 4 (some 4)) p z u hc fa fc fu w) ?_ ⟨_,rfl,rfl,rfl⟩;refine pR 2005 1004 5 1 (opsX (yK 6 (some 4)) p z u hc fa fc fu w) ?_ ⟨_,rfl,rfl,rfl⟩
   rcases w with _ | w
   ·skip
    refine pD 2006 [] [] ?_;rw [show opsX (yK 6 (some 4)) p z u hc fa fc fu none=opsX (yK 7 (some 4)) p z u hc fa fc fu none from rfl];refine pE [2004] [3000] Zbd ?_;have hrow:(opsX (yK 7 (some 4)) p z u hc fa fc fu none)[4]?=some [.lit (.string ⟨#[104]⟩),.lit (.slice (p 4).1 1 (p 4).2),.lit (.bool false),.lit (.bool hc),.lit (.int .i64 0)]:=rfl;have hlen:=eX (yK 7 (some 4));have hkl:4 < (opsX (yK 7 (some 4)) p z u hc fa fc fu none).length:=by rw [hlen];exact hk
    have hn1:((sigD z u hc fa fc fu none).ops.length=1)=False:=eq_false om;have hn2:((sigD z u hc fa fc fu none).ops.length=2)=False:=eq_false om;refine fN 11 (aj5 @c0 @c1 @c2 @c3 @tmC) ?_;have F:=aj8 hrow hlen hk hn1 hn2 hz1 dsU tmC;refine gN0 11 [0,1,2,3,4,5,6,9,10] [7,8] ?_;clear F;have F:=aj8 hrow hlen hk hn1 hn2 hz1 dsU tmC;refine gNd ?_;clear F;have F:=tmC;refine gNE b5 ?_;clear F;rintro r ⟨j,hj,rfl⟩
    have F:=tmC;refine gNr ?_;clear F;have F:=ai @dsU @tmC;refine gP 1 ?_;clear F;refine gRr 3000 1004 4 1 (((sigD z u hc fa fc fu none).ops.set 4 (⟨nm1 104,[⟨[0,0],IntKind.i64.wrap ((j:Int) - 1)⟩],false,hc,0⟩:Opr)).map Zax) ?_ ?_;rotate_left
    ·exact ⟨_,rfl,rfl,(by (try cases z) <;> (try cases u) <;> (try cases fu) <;> (try cases w) <;> rfl)⟩
    refine gRv 1004 3 2 ?_;refine gRv 2007 3 1 ?_;refine fR @tmC ?_;have F:=@tmC;refine gG ?_;exact ⟨⟨(sigD z u hc fa fc fu none).sorts,(sigD z u hc fa fc fu none).ops.set 4 (⟨nm1 104,[⟨[0,0],IntKind.i64.wrap ((j:Int) - 1)⟩],false,hc,0⟩:Opr)⟩,hS.res (o:=⟨nm1 104,[⟨[0,0],0⟩],false,hc,0⟩) (d:=⟨[0,0],0⟩) rfl rfl (ZbF _),gw,gw⟩
   ·skip
    refine pR 2006 1004 6 1 (opsX (yK 7 (some 4)) p z u hc fa fc fu (some w)) ?_ ⟨_,rfl,rfl,rfl⟩;refine pE [2004] [3000] Zbd ?_;have hrow:(opsX (yK 7 (some 4)) p z u hc fa fc fu (some w))[4]?=some [.lit (.string ⟨#[104]⟩),.lit (.slice (p 4).1 1 (p 4).2),.lit (.bool false),.lit (.bool hc),.lit (.int .i64 0)]:=rfl;have hlen:=eX (yK 7 (some 4));have hkl:4 < (opsX (yK 7 (some 4)) p z u hc fa fc fu (some w)).length:=by rw [hlen];exact hk
    have hn1:((sigD z u hc fa fc fu (some w)).ops.length=1)=False:=eq_false om;have hn2:((sigD z u hc fa fc fu (some w)).ops.length=2)=False:=eq_false om;refine fN 11 (aj5 @c0 @c1 @c2 @c3 @tmC) ?_;have F:=aj8 hrow hlen hk hn1 hn2 hz1 dsU tmC;refine gN0 11 [0,1,2,3,4,5,6,9,10] [7,8] ?_;clear F;have F:=aj8 hrow hlen hk hn1 hn2 hz1 dsU tmC;refine gNd ?_;clear F;have F:=tmC;refine gNE b5 ?_;clear F;rintro r ⟨j,hj,rfl⟩
    have F:=tmC;refine gNr ?_;clear F;have F:=ai @dsU @tmC;refine gP 1 ?_;clear F;refine gRr 3000 1004 4 1 (((sigD z u hc fa fc fu (some w)).ops.set 4 (⟨nm1 104,[⟨[0,0],IntKind.i64.wrap ((j:Int) - 1)⟩],false,hc,0⟩:Opr)).map Zax) ?_ ?_;rotate_left
    ·exact ⟨_,rfl,rfl,(by (try cases z) <;> (try cases u) <;> (try cases fu) <;> (try cases w) <;> rfl)⟩
    refine gRv 1004 3 2 ?_;refine gRv 2007 3 1 ?_;refine fR @tmC ?_;have F:=@tmC;refine gG ?_;exact ⟨⟨(sigD z u hc fa fc fu (some w)).sorts,(sigD z u hc fa fc fu (some w)).ops.set 4 (⟨nm1 104,[⟨[0,0],IntKind.i64.wrap ((j:Int) - 1)⟩],false,hc,0⟩:Opr)⟩,hS.res (o:=⟨nm1 104,[⟨[0,0],0⟩],false,hc,0⟩) (d:=⟨[0,0],0⟩) rfl rfl (ZbF _),gw,gw⟩
  ·skip
   refine pR 2000 1004 0 1 (opsX (yK 1 (some 5)) p z u hc fa fc fu w) ?_ ⟨_,rfl,rfl,rfl⟩;refine pR 2001 1004 1 1 (opsX (yK 2 (some 5)) p z u hc fa fc fu w) ?_ ⟨_,rfl,rfl,rfl⟩;refine pR 2002 1004 2 1 (opsX (yK 3 (some 5)) p z u hc fa fc fu w) ?_ ⟨_,rfl,rfl,rfl⟩;refine pR 2003 1004 3 1 (opsX (yK 4 (some 5)) p z u hc fa fc fu w) ?_ ⟨_,rfl,rfl,rfl⟩;refine pR 2004 1004 4 1 (opsX (yK 5 (some 5)) p z u hc fa fc fu w) ?_ ⟨_,rfl,rfl,rfl⟩
   rcases w with _ | w
   ·skip
    refine pD 2006 [] [] ?_;rw [show opsX (yK 5 (some 5)) p z u hc fa fc fu none=opsX (yK 7 (some 5)) p z u hc fa fc fu none from rfl]
    cases z
    ·skip
     refine pE [2005] [3000] Zbd ?_;have hrow:(opsX (yK 7 (some 5)) p false u hc fa fc fu none)[5]?=some [.lit (.string ⟨#[102]⟩),.lit (.slice (p 5).1 1 (p 5).2),.lit (.bool fa),.lit (.bool fc),.lit (.int .i64 (if fu then 3 else 0))]:=rfl;have hlen:=eX (yK 7 (some 5));have hkl:5 < (opsX (yK 7 (some 5)) p false u hc fa fc fu none).length:=by rw [hlen];exact hk
     have hn1:((sigD false u hc fa fc fu none).ops.length=1)=False:=eq_false om;have hn2:((sigD false u hc fa fc fu none).ops.length=2)=False:=eq_false om;refine fN 11 (aj5 @c0 @c1 @c2 @c3 @tmC) ?_;have F:=aj8 hrow hlen hk hn1 hn2 hz1 dsU tmC;refine gN0 11 [0,1,2,3,4,5,6,9,10] [7,8] ?_;clear F;have F:=aj8 hrow hlen hk hn1 hn2 hz1 dsU tmC;refine gNd ?_;clear F;have F:=tmC;refine gNE b5 ?_;clear F;rintro r ⟨j,hj,rfl⟩
     have F:=tmC;refine gNr ?_;clear F;have F:=ai @dsU @tmC;refine gP 1 ?_;clear F;refine gRr 3000 1004 5 1 (((sigD false u hc fa fc fu none).ops.set 5 (⟨nm1 102,[⟨[0,2],IntKind.i64.wrap ((j:Int) - 1)⟩],fa,fc,if fu then 3 else 0⟩:Opr)).map Zax) ?_ ?_;rotate_left
     ·exact ⟨_,rfl,rfl,(by (try cases z) <;> (try cases u) <;> (try cases fu) <;> (try cases w) <;> rfl)⟩
     refine gRv 1004 3 2 ?_;refine gRv 2007 3 1 ?_;refine fR @tmC ?_;have F:=@tmC;refine gG ?_;exact ⟨⟨(sigD false u hc fa fc fu none).sorts,(sigD false u hc fa fc fu none).ops.set 5 (⟨nm1 102,[⟨[0,2],IntKind.i64.wrap ((j:Int) - 1)⟩],fa,fc,if fu then 3 else 0⟩:Opr)⟩,hS.res (o:=⟨nm1 102,[⟨[0,2],2⟩],fa,fc,if fu then 3 else 0⟩) (d:=⟨[0,2],2⟩) rfl rfl (ZbF _),gw,gw⟩
    ·skip
     refine pE [2005] [3000] Zbd ?_;have hrow:(opsX (yK 7 (some 5)) p true u hc fa fc fu none)[5]?=some [.lit (.string ⟨#[102]⟩),.lit (.slice (p 5).1 2 (p 5).2),.lit (.bool fa),.lit (.bool fc),.lit (.int .i64 (if fu then 3 else 0))]:=rfl;have hlen:=eX (yK 7 (some 5));have hkl:5 < (opsX (yK 7 (some 5)) p true u hc fa fc fu none).length:=by rw [hlen];exact hk
     have hn1:((sigD true u hc fa fc fu none).ops.length=1)=False:=eq_false om;have hn2:((sigD true u hc fa fc fu none).ops.length=2)=False:=eq_false om;refine fN 11 (aj5 @c0 @c1 @c2 @c3 @tmC) ?_;have F:=aj8 hrow hlen hk hn1 hn2 hz1 dsU tmC;refine gN0 11 [0,1,2,3,4,5,6,9,10] [7,8] ?_;clear F;have F:=aj8 hrow hlen hk hn1 hn2 hz1 dsU tmC;refine gNd ?_;clear F;have F:=tmC;refine gNE b5 ?_;clear F;rintro r ⟨j,hj,rfl⟩
     have F:=tmC;refine gNr ?_;clear F;have F:=ai @dsU @tmC;refine gP 1 ?_;clear F;refine gRr 3000 1004 5 1 (((sigD true u hc fa fc fu none).ops.set 5 (⟨nm1 102,[⟨[2,2],IntKind.i64.wrap ((j:Int) - 1)⟩,⟨[1,1],1⟩],fa,fc,if fu then 3 else 0⟩:Opr)).map Zax) ?_ ?_;rotate_left
     ·exact ⟨_,rfl,rfl,(by (try cases z) <;> (try cases u) <;> (try cases fu) <;> (try cases w) <;> rfl)⟩
     refine gRv 1004 3 2 ?_;refine gRv 2007 3 1 ?_;refine fR @tmC ?_;have F:=@tmC;refine gG ?_;exact ⟨⟨(sigD true u hc fa fc fu none).sorts,(sigD true u hc fa fc fu none).ops.set 5 (⟨nm1 102,[⟨[2,2],IntKind.i64.wrap ((j:Int) - 1)⟩,⟨[1,1],1⟩],fa,fc,if fu then 3 else 0⟩:Opr)⟩,hS.res (o:=⟨nm1 102,[⟨[2,2],2⟩,⟨[1,1],1⟩],fa,fc,if fu then 3 else 0⟩) (d:=⟨[2,2],2⟩) rfl rfl (ZbF _),gw,gw⟩
   ·skip
    refine pR 2006 1004 6 1 (opsX (yK 7 (some 5)) p z u hc fa fc fu (some w)) ?_ ⟨_,rfl,rfl,rfl⟩
    cases z
    ·skip
     refine pE [2005] [3000] Zbd ?_;have hrow:(opsX (yK 7 (some 5)) p false u hc fa fc fu (some w))[5]?=some [.lit (.string ⟨#[102]⟩),.lit (.slice (p 5).1 1 (p 5).2),.lit (.bool fa),.lit (.bool fc),.lit (.int .i64 (if fu then 3 else 0))]:=rfl;have hlen:=eX (yK 7 (some 5));have hkl:5 < (opsX (yK 7 (some 5)) p false u hc fa fc fu (some w)).length:=by rw [hlen];exact hk
     have hn1:((sigD false u hc fa fc fu (some w)).ops.length=1)=False:=eq_false om;have hn2:((sigD false u hc fa fc fu (some w)).ops.length=2)=False:=eq_false om;refine fN 11 (aj5 @c0 @c1 @c2 @c3 @tmC) ?_;have F:=aj8 hrow hlen hk hn1 hn2 hz1 dsU tmC;refine gN0 11 [0,1,2,3,4,5,6,9,10] [7,8] ?_;clear F;have F:=aj8 hrow hlen hk hn1 hn2 hz1 dsU tmC;refine gNd ?_;clear F;have F:=tmC;refine gNE b5 ?_;clear F
     rintro r ⟨j,hj,rfl⟩;have F:=tmC;refine gNr ?_;clear F;have F:=ai @dsU @tmC;refine gP 1 ?_;clear F;refine gRr 3000 1004 5 1 (((sigD false u hc fa fc fu (some w)).ops.set 5 (⟨nm1 102,[⟨[0,2],IntKind.i64.wrap ((j:Int) - 1)⟩],fa,fc,if fu then 3 else 0⟩:Opr)).map Zax) ?_ ?_;rotate_left
     ·exact ⟨_,rfl,rfl,(by (try cases z) <;> (try cases u) <;> (try cases fu) <;> (try cases w) <;> rfl)⟩
     refine gRv 1004 3 2 ?_;refine gRv 2007 3 1 ?_;refine fR @tmC ?_;have F:=@tmC;refine gG ?_;exact ⟨⟨(sigD false u hc fa fc fu (some w)).sorts,(sigD false u hc fa fc fu (some w)).ops.set 5 (⟨nm1 102,[⟨[0,2],IntKind.i64.wrap ((j:Int) - 1)⟩],fa,fc,if fu then 3 else 0⟩:Opr)⟩,hS.res (o:=⟨nm1 102,[⟨[0,2],2⟩],fa,fc,if fu then 3 else 0⟩) (d:=⟨[0,2],2⟩) rfl rfl (ZbF _),gw,gw⟩
    ·skip
     refine pE [2005] [3000] Zbd ?_;have hrow:(opsX (yK 7 (some 5)) p true u hc fa fc fu (some w))[5]?=some [.lit (.string ⟨#[102]⟩),.lit (.slice (p 5).1 2 (p 5).2),.lit (.bool fa),.lit (.bool fc),.lit (.int .i64 (if fu then 3 else 0))]:=rfl;have hlen:=eX (yK 7 (some 5));have hkl:5 < (opsX (yK 7 (some 5)) p true u hc fa fc fu (some w)).length:=by rw [hlen];exact hk
     have hn1:((sigD true u hc fa fc fu (some w)).ops.length=1)=False:=eq_false om;have hn2:((sigD true u hc fa fc fu (some w)).ops.length=2)=False:=eq_false om;refine fN 11 (aj5 @c0 @c1 @c2 @c3 @tmC) ?_;have F:=aj8 hrow hlen hk hn1 hn2 hz1 dsU tmC;refine gN0 11 [0,1,2,3,4,5,6,9,10] [7,8] ?_;clear F;have F:=aj8 hrow hlen hk hn1 hn2 hz1 dsU tmC;refine gNd ?_;clear F;have F:=tmC;refine gNE b5 ?_;clear F
     rintro r ⟨j,hj,rfl⟩;have F:=tmC;refine gNr ?_;clear F;have F:=ai @dsU @tmC;refine gP 1 ?_;clear F;refine gRr 3000 1004 5 1 (((sigD true u hc fa fc fu (some w)).ops.set 5 (⟨nm1 102,[⟨[2,2],IntKind.i64.wrap ((j:Int) - 1)⟩,⟨[1,1],1⟩],fa,fc,if fu then 3 else 0⟩:Opr)).map Zax) ?_ ?_;rotate_left
     ·exact ⟨_,rfl,rfl,(by (try cases z) <;> (try cases u) <;> (try cases fu) <;> (try cases w) <;> rfl)⟩
     refine gRv 1004 3 2 ?_;refine gRv 2007 3 1 ?_;refine fR @tmC ?_;have F:=@tmC;refine gG ?_;exact ⟨⟨(sigD true u hc fa fc fu (some w)).sorts,(sigD true u hc fa fc fu (some w)).ops.set 5 (⟨nm1 102,[⟨[2,2],IntKind.i64.wrap ((j:Int) - 1)⟩,⟨[1,1],1⟩],fa,fc,if fu then 3 else 0⟩:Opr)⟩,hS.res (o:=⟨nm1 102,[⟨[2,2],2⟩,⟨[1,1],1⟩],fa,fc,if fu then 3 else 0⟩) (d:=⟨[2,2],2⟩) rfl rfl (ZbF _),gw,gw⟩
  ·skip
   refine pR 2000 1004 0 1 (opsX (yK 1 (some 6)) p z u hc fa fc fu w) ?_ ⟨_,rfl,rfl,rfl⟩;refine pR 2001 1004 1 1 (opsX (yK 2 (some 6)) p z u hc fa fc fu w) ?_ ⟨_,rfl,rfl,rfl⟩;refine pR 2002 1004 2 1 (opsX (yK 3 (some 6)) p z u hc fa fc fu w) ?_ ⟨_,rfl,rfl,rfl⟩;refine pR 2003 1004 3 1 (opsX (yK 4 (some 6)) p z u hc fa fc fu w) ?_ ⟨_,rfl,rfl,rfl⟩;refine pR 2004 1004 4 1 (opsX (yK 5 (some 6)) p z u hc fa fc fu w) ?_ ⟨_,rfl,rfl,rfl⟩
   refine pR 2005 1004 5 1 (opsX (yK 6 (some 6)) p z u hc fa fc fu w) ?_ ⟨_,rfl,rfl,rfl⟩;rcases w with _ | w
   ·exact absurd hk (Nat.lt_irrefl 6)
   skip
   refine pE [2006] [3000] Zbd ?_;have hrow:(opsX (yK 6 (some 6)) p z u hc fa fc fu (some w))[6]?=some [.lit (.string ⟨#[109]⟩),.lit (.slice (p 6).1 1 (p 6).2),.lit (.bool true),.lit (.bool true),.lit (.int .i64 (if w then 1 else 0))]:=rfl;have hlen:=eX (yK 6 (some 6));have hkl:6 < (opsX (yK 6 (some 6)) p z u hc fa fc fu (some w)).length:=by rw [hlen];exact hk
   have hn1:((sigD z u hc fa fc fu (some w)).ops.length=1)=False:=eq_false om;have hn2:((sigD z u hc fa fc fu (some w)).ops.length=2)=False:=eq_false om;refine fN 11 (aj5 @c0 @c1 @c2 @c3 @tmC) ?_;have F:=aj8 hrow hlen hk hn1 hn2 hz1 dsU tmC;refine gN0 11 [0,1,2,3,4,5,6,9,10] [7,8] ?_;clear F;have F:=aj8 hrow hlen hk hn1 hn2 hz1 dsU tmC;refine gNd ?_;clear F;have F:=tmC;refine gNE b5 ?_;clear F;rintro r ⟨j,hj,rfl⟩
   have F:=tmC;refine gNr ?_;clear F;have F:=ai @dsU @tmC;refine gP 1 ?_;clear F;refine gRr 3000 1004 6 1 (((sigD z u hc fa fc fu (some w)).ops.set 6 (⟨nm1 109,[⟨[0,0],IntKind.i64.wrap ((j:Int) - 1)⟩],true,true,if w then 1 else 0⟩:Opr)).map Zax) ?_ ?_;rotate_left
   ·exact ⟨_,rfl,rfl,(by (try cases z) <;> (try cases u) <;> (try cases fu) <;> (try cases w) <;> rfl)⟩
   refine gRv 1004 3 2 ?_;refine gRv 2007 3 1 ?_;refine fR @tmC ?_;have F:=@tmC;refine gG ?_;exact ⟨⟨(sigD z u hc fa fc fu (some w)).sorts,(sigD z u hc fa fc fu (some w)).ops.set 6 (⟨nm1 109,[⟨[0,0],IntKind.i64.wrap ((j:Int) - 1)⟩],true,true,if w then 1 else 0⟩:Opr)⟩,hS.res (o:=⟨nm1 109,[⟨[0,0],0⟩],true,true,if w then 1 else 0⟩) (d:=⟨[0,0],0⟩) rfl rfl (ZbF _),gw,gw⟩
end
section
variable {x:Src}
end
theorem ConP.args {e:Env} {f:FuncId} {lits data:List D} {pm:List Bk} {R:List D->List Bk->Prop} (h:ConP e f data pm R) (hd:∀ (w:World) (S:Nat->Prop) (vs:List Value),Zav w S lits vs->Zav w S data vs):ConP e f lits pm R:=⟨h.1,fun w S vs hS hE hG hp ha hvs=>h.2 w S vs hS hE hG hp ha (hd w S vs hvs)⟩
theorem Ziv:∀ (a b:List (List C)),Zam (a++b)=Zam a+Zam b
 | [],b=>by simp [Zam]
 | x::a,b=>by simp only [Taf,Zam,Ziv a b];omega
def ZhQ (t:Tm):Prop:=okTm t∧Zan (Zab t)<=2000
def Zob (r:List D) (pm:List Bk):Prop:=∃ t,ZhQ t∧r=[.agg (Zab t)]∧pm=[]
section
variable {x:Src} {b:Nat} {g:Sgn}
theorem Zxu (hx:x.Ok) (hd:DrOk g) {u:Tm} (hu:TermOk g u) (a:Option Addr) (k:Nat):ConP (eC x b) 20 [curD b,.agg (Zak g),.agg (topC u a k)] [topB u a k] Zob:=by
 have he:=hx.okC (b:=b);have c20:=ZbX (b:=b) hx (n:=20) (by decide) (by decide);have cR:=Zl3 (b:=b) hx (n:=7) (by decide) (by decide) 2 (by decide);have huo:=hu.ok hd.sg;have hub:Zan (Zab u)+1<=780:=by have h1:=ZdA hu.form;have h2:=hu.size;omega
 rw [Zak,Zjc];obtain ⟨op,nm,so,args⟩:=u;simp only [topB,Tm.op,Tm.name,Tm.sort,Tm.args];have hc:∀ op nm so args,Zab (.mk op nm so args)=[.lit (.int .i64 op),.lit (.string nm),.lit (.int .i64 so),.sl (Zac args)]:=fun op nm so args=>by simp only [Zab]
 have hn:=Zae args;rw [ZhK] at hub;have hbk:∀ (op so:Int) (nm:ByteArray) (l:List Tm),nm.size<=1000->l.length+Zam (Zac l)<=900->Zan (Zab (.mk op nm so l))<=2000:=fun op so nm l h1 h2=>by rw [ZhK];omega
 simp only [okTm] at huo;obtain ⟨ho1,ho2,ho3,ho4⟩:=huo;refine gIP (ts:=[.cell 6 36]) [1000] 17592739767143 Tryz.func20 ?_;refine fN 1 @eCP ?_;refine gB ?_;have F:=@eCP;refine gCE (c20) ?_;clear F;rintro r ⟨j,hj,rfl⟩;refine fR @eCP ?_;refine gM (ι:=Tm) [] [5,1000] (fun v=>[]) (fun v=>[(5,.var none (Zab v))]) (fun v=>ZhQ v) ?_ (fun v hv=>Exists.intro _ (ai (Wk.refl _) ?_))
 ·by_cases j0:j=0
  ·have q0:((j:Int)=0)=True:=eq_true om;refine fN 3 (ai @q0 @eCP) ?_;refine gB ?_;have F:=@tmC;refine gCE (cR) ?_;clear F;rintro r ⟨t,ht,rfl⟩;refine fR (aj4 @ZbB @Za1 @ZbQ @eCP) ?_;exact (have F:=aj4 @ZbB @Za1 @ZbQ @eCP;gTP (R:=Zob) [] ⟨t,⟨ht.1,by have h1:=ht.2.1;have h2:=ht.2.2;simp only [rawK] at h1;omega⟩,rfl,rfl⟩)
  have q0:((j:Int)=0)=False:=eq_false om;by_cases j1:j=1
  ·have q1:((j:Int)=1)=True:=eq_true om;have h2:=hc op ⟨#[120]⟩ so args;refine fN 5 (aj3 @q0 @q1 @eCP) ?_;refine pD 1000 [] [5] ?_;refine fG (aj3 @q0 @q1 @eCP) ?_;rw [<- h2];have F:=@eCP;refine gG ?_;exact ⟨.mk op ⟨#[120]⟩ so args,⟨(by simp only [okTm];exact ⟨ho1,by decide,ho3,ho4⟩),hbk _ _ _ _ (by decide) om⟩,gw,gw⟩
  have q1:((j:Int)=1)=False:=eq_false om;by_cases j2:j=2
  ·have q2:((j:Int)=2)=True:=eq_true om;have hm:((Zac args).length+1<=maxApp)=True:=eq_true (by rw [hn];unfold maxApp;omega);have h2:=hc op nm so (args++[zTm]);refine fN 7 (aj4 @q0 @q1 @q2 @eCP) ?_;refine gB ?_;have F:=ai @ZeC @eCP;refine gP 4 ?_;clear F;refine gK 19 ?_;have F:=aj5 hm @Zcy @Za1 @ZbB @eCP;refine gP 1 ?_;clear F;have hsn:Zac args++[[.lit (.int .i64 0),.lit (.string ByteArray.empty),.lit (.int .i64 0),.sl []]]=Zac (args++[zTm]):=by rw [ZbI,Zcl,ZeC]
   rw [hsn];refine gS 22 fun a3 c3=>?_;have F:=@eCP;refine gP 2 ?_;clear F;refine gD 22 [] [5] ?_;rw [<- h2];refine fR @eCP ?_;have F:=aj4 @q0 @q1 @q2 @eCP;refine gG ?_;exact ⟨.mk op nm so (args++[zTm]),⟨(by simp only [okTm];exact ⟨ho1,ho2,ho3,Zje ho4 ⟨Zpd,trivial⟩⟩),hbk _ _ _ _ om (by rw [ZbI,Zcl,Ziv,Tae,ZeC];simp [Zam,Zan,Zdm];omega)⟩,gw,gw⟩
  have q2:((j:Int)=2)=False:=eq_false om;by_cases j3:j=3
  ·have q3:((j:Int)=3)=True:=eq_true om;refine pD 1000 [] [5] ?_;by_cases hl:1 < args.length
   ·have q5:=lT 1 args.length;refine fN 10 (aj6 @q0 @q1 @q2 @q3 @q5 @tmC) ?_;have hl2:2<=args.length:=hl;obtain ⟨t0,t1,rest,rfl⟩:∃ t0 t1 rest,args=t0::t1::rest:=by
     match args,hl2 with
     | t0::t1::rest,_=>exact ⟨t0,t1,rest,rfl⟩
    have e3:Zac (t0::t1::rest)=Zab t0::Zab t1::Zac rest:=by simp only [Zac]
    have h2:=hc op nm so (t1::t0::rest);have e4:Zac (t1::t0::rest)=Zab t1::Zab t0::Zac rest:=by simp only [Zac]
    have hok:ZhQ (.mk op nm so (t1::t0::rest)):=⟨(by simp only [okTm,ZaF] at ho4 ⊢;exact ⟨ho1,ho2,ho3,ho4.2.1,ho4.1,ho4.2.2⟩),hbk _ _ _ _ om (by simp only [Zac,Zam,Tag] at hub ⊢;omega)⟩;have hr:=Zae rest;have s2:ZaI 4 (Zac rest)=true:=Zcy _;rw [e4] at h2;rw [e3];have hrl:(Zac rest).length<=1000:=by simp only [Tag] at hub;omega
    generalize Zac rest=L at hr s2 hrl h2 ⊢;have s3:ZaI 4 [Zab t1,Zab t0]=true:=by simp [ZaI,Za1,ZbB]
    have s1:((2:Int)<=((L.length+1+1:Nat):Int))=True:=eq_true om;have s4:(((L.length+1+1:Nat):Int)<=((L.length+1+1:Nat):Int))=True:=eq_true (Int.le_refl _);have s5:L.take L.length=L:=Tap;have F:=aj9 s1 s2 s3 s4 s5 @ZbB @Za1 @ZbQ @eCP;by_cases hL:L=[]
    ·subst hL;clear F;refine gB ?_;have p1:((2:Int)<=((2:Nat):Int))=True:=eq_true (by decide);have p2:(((2:Nat):Int)<=((2:Nat):Int))=True:=eq_true (by decide);have F:=aj6 @p1 @p2 @ZbB @Za1 @ZbQ @eCP;refine gP 12 ?_;clear F;have F:=eCP;refine gAe ?_;clear F;refine fR @eCP ?_;rw [<- h2];have F:=ai @hr @eCP;refine gG ?_;exact ⟨.mk op nm so (t1::t0::rest),hok,gw,gw⟩
    ·have hle:([Zab t1,Zab t0]:List (List C)).length+L.length<=maxApp:=by unfold maxApp;simp;omega
     refine gA 13 12 hle (.inr hL) ?_;clear F;refine gS 42 fun a3 c3=>?_;have F:=@eCP;refine gP 2 ?_;clear F;refine gD 42 [] [5] ?_;rw [<- h2];refine fR @eCP ?_;have F:=ai @hr @eCP;refine gG ?_;exact ⟨.mk op nm so (t1::t0::rest),hok,gw,gw⟩
   ·have q5:=lF 1 args.length;have h2:=hc op nm so args;rw [<- h2];have F:=aj8 @q0 @q1 @q2 @q3 @q5 @h2 @hn @eCP;refine gG ?_;exact ⟨.mk op nm so args,⟨(by simp only [okTm];exact ⟨ho1,ho2,ho3,ho4⟩),hbk _ _ _ _ om om⟩,gw,gw⟩
  have q3:((j:Int)=3)=False:=eq_false om;by_cases j4:j=4
  ·have q4:((j:Int)=4)=True:=eq_true om;have h2:=hc op nm 1 args;refine fN 12 (aj6 @q0 @q1 @q2 @q3 @q4 @eCP) ?_;refine pD 1000 [] [5] ?_;refine fG (aj3 @q0 @q1 @eCP) ?_;rw [<- h2];have F:=@eCP;refine gG ?_;exact ⟨.mk op nm 1 args,⟨(by simp only [okTm];exact ⟨ho1,ho2,⟨by decide,by decide⟩,ho4⟩),hbk _ _ _ _ om om⟩,gw,gw⟩
  have q4:((j:Int)=4)=False:=eq_false om;have h2:=hc op nm so args;refine pD 1000 [] [5] ?_;rw [<- h2];have F:=aj6 @q0 @q1 @q2 @q3 @q4 @eCP;refine gG ?_;exact ⟨.mk op nm so args,⟨(by simp only [okTm];exact ⟨ho1,ho2,ho3,ho4⟩),hbk _ _ _ _ om om⟩,gw,gw⟩
 ·refine fN 13 @eCP ?_;refine gB ?_;refine fR (aj4 @ZbB @Za1 @ZbQ @eCP) ?_;exact (have F:=aj4 @ZbB @Za1 @ZbQ @eCP;gTP (R:=Zob) [] ⟨v,hv,rfl,rfl⟩)
end
theorem Znu {g:Sgn}:∀ (n:Nat) (t:Tm),sizeTm t < n->ZaH g t->∀ v∈ZbD t,Zcg g v
 | 0,t,hn,_,_,_=>om
 | n+1,t,hn,ht,v,hv=>by
  have hs:=hn;rw [ZaM] at hs;have key:∀ {ts:List Tm},v∈Za2 ts->∃ a∈ts,v∈ZbD a:=fun {ts}=>by
   induction ts with
   | nil=>intro h;simp [Za2] at h
   | cons x xs ih =>
    intro h;simp only [Za2,Tbh] at h;rcases h with h | h
    ·exact ⟨x,Tas,h⟩
    ·obtain ⟨a,ha,h⟩:=ih h;exact ⟨a,Tal _ ha,h⟩
  by_cases hop:t.op=-1
  ·have hV:Zcg g t:=by
    rcases ht.node with h | ⟨o,d,h⟩
    ·exact h
    ·have:=h.lo;omega
   obtain ⟨op,nm,so,args⟩:=t;simp only [Tm.op] at hop;have ha0:args=[]:=hV.2.2.2.2;subst hop ha0;simp only [ZbD,if_pos,Tbj] at hv;rw [hv];exact hV
  ·have e:ZbD t=Za2 t.args:=by
    obtain ⟨op,nm,so,args⟩:=t;simp only [Tm.op] at hop;simp only [ZbD,if_neg hop,Tm.args]
   rw [e] at hv;obtain ⟨a,ha,hv⟩:=key hv;have:=Za5 ha;exact Znu n a om ((ZaY.1 ht).2.1 a ha) v hv
mutual
theorem Znv:∀ t:Tm,(ZbD t).length<=sizeTm t
 | .mk op nm so args=>by
  have:=Zl5 args;simp only [ZbD,sizeTm];split
  ·simp only [Tag,Tak];omega
  ·omega
theorem Zl5:∀ ts:List Tm,(Za2 ts).length<=sizeTms ts
 | []=>by simp [Za2]
 | t::ts=>by
  have h1:=Znv t;have h2:=Zl5 ts;simp only [Za2,sizeTms,Tae];omega
end
theorem Znw {t v:Tm}:∀ {l:List Tm},v∈ZbC t l->v=t∨v∈l
 | [],h=>by simp [ZbC] at h;exact .inl h
 | x::xs,h=>by
  simp only [ZbC] at h;split at h
  ·rcases Tbg.1 h with h | h
   ·exact .inr (h ▸ Tas)
   ·exact (Znw h).imp id (Tal _)
  ·split at h
   ·exact .inr h
   ·exact Tbg.1 h
theorem ZpO {v:Tm}:∀ {l r:List Tm},v∈colT l r->v∈l∨v∈r
 | [],r,h=>.inr h
 | x::xs,r,h=>by
  rcases ZpO (l:=xs) (r:=ZbC x r) h with h | h
  ·exact .inl (Tal _ h)
  ·rcases Znw h with h | h
   ·exact .inl (h ▸ Tas)
   ·exact .inr h
theorem ZA7 {s:ByteArray} (h:Zba s=true):s.size<=12:=by
 unfold Zba at h;simp only [Tar,decide_eq_true_eq] at h;exact h.1.1.1.2
structure BdDr (g:Sgn) (y:Bd):Prop where
 vo:okTm y.var
 vb:Zan (Zab y.var)<=12
 to:TermOk g y.to
def Zik (g:Sgn) (n:Nat) (l:List Bd):Prop:=l.length<=n∧∀ y∈l,BdDr g y
section
variable {x:Src} {b:Nat} {g:Sgn}
end
theorem Zxv {e:Env} {σ:St} {a0:Option Addr} {n cap ety sz:Nat} {rows:List (List C)} (t κ:Nat) (hs:gs σ.s t=.d (.one (.lit (.slice a0 n cap)))) (hm:gm σ.m κ=some (.buf (some (a0,cap)) ety sz rows)) (hn:n=rows.length):Turn e σ (fun σ'=>σ'=⟨(t,.buf κ)::σ.s,σ.m⟩):=by
 intro he U w0 S0 nt a w ⟨S,L,h⟩;refine ⟨_,rfl,S,L,h.cls,fun t'=>?_,h.size,h.defers,h.kept⟩;simp only [gs];split
 ·rename_i e;subst e;have hr:=h.rel t';rw [hs] at hr;have hv:a.tmps.getD t' undef=.slice a0 n cap:=by simpa [ARel,DRel,Rep] using hr
  have h2:=(h.cls.own κ _ hm).1 (a0,cap) rfl;show _=_;rw [hv,h2,hn]
 ·exact h.rel t'
theorem pKk {e:Env} {mask:Nat} {Q:PX->St->Prop} {c:Code} {s:List (Nat × A)} {m:List (Nat × Bk)} {a0:Option Addr} {n cap ety sz:Nat} {rows:List (List C)} (t κ:Nat) (hK:pwp e mask c ⟨(t,.buf κ)::s,m⟩ Q) (hm:gm m κ=some (.buf (some (a0,cap)) ety sz rows):=by exact snv) (hs:gs s t=.d (.one (.lit (.slice a0 n cap))):=by exact snv) (hn:n=rows.length:=by rfl):pwp e mask c ⟨s,m⟩ Q :=
 Zcc (Zxv t κ hs hm hn) fun σ' hσ=>by subst hσ;exact hK
theorem ZBH {g:Sgn} {t:Tm} (h:TermOk g t):BdDr g ⟨zTm,t⟩:=⟨Zpd,by rw [Zpc];decide,h⟩
section
variable {x:Src} {b:Nat} {g:Sgn}
end
section
variable {L:List Oper} {cons:Nat->Option Nat} {X:Type} {ok:Nat->X->Prop} {T:X->Tab} {i:Nat} {sb:List (Nat × A)} {mb:List (Nat × Bk)} {s:List (Nat × A)} {m:List (Nat × Bk)} {d:Nat} {α:A} {bk:Bk}
theorem Lks.lent {κ:Nat} (h:Lks sb mb ⟨s,m⟩) (hf:Zg8 d κ sb mb=true):Lks sb mb ⟨Zaq κ s,remM κ m⟩:=by
 have hf2:=hf;simp only [Zg8,Tar,List.all_eq_true,bne_iff_ne,ne_eq,Bool.not_eq_true'] at hf2;refine Lks.mrem (Lks.kill h ?_) ?_
 ·simp only [List.all_eq_true,Bool.not_eq_true'];exact fun p hp=>(hf2.1 p hp).2
 ·simp only [List.all_eq_true,bne_iff_ne,ne_eq];exact hf2.2
theorem Lks.lentD {κ:Nat} (h:Lks sb mb ⟨s,m⟩) (hf:Zg8 d κ sb mb=true):Lks sb mb ⟨(d,α)::Zaq κ s,remM κ m⟩:=by
 have hf2:=hf;simp only [Zg8,Tar,List.all_eq_true,bne_iff_ne,ne_eq,Bool.not_eq_true'] at hf2;exact Lks.slot (h.lent hf) (by simp only [List.all_eq_true,bne_iff_ne,ne_eq];exact fun p hp=>(hf2.1 p hp).1)
theorem xLD {κ:Nat} (hB:Lks sb mb ⟨s,m⟩) (hp:tabX ok T i ⟨(d,α)::Zaq κ s,remM κ m⟩) (h1:Zg8 d κ sb mb=true:=by rfl) (h2:∀ x,ZfD L cons (T x) i (Zg8 d κ)=true:=by intro x;rfl):DidX L cons ok T i sb mb s m ⟨(d,α)::Zaq κ s,remM κ m⟩:=⟨hB.lentD h1,hp,ZgQ h2 fun _ _ h hl=>hl.lentD h⟩
end
def DrD (g:Sgn):Prop:=∃ (z u hc fa fc fu:Bool) (w:Option Bool),(z=true∨(fa=false∧fc=false∧fu=false))∧g=sigD z u hc fa fc fu w
theorem ZsI {g:Sgn} (h:DrD g):DrOk g:=by
 obtain ⟨z,u,hc,fa,fc,fu,w,h,rfl⟩:=h;exact Zxr h
section
variable {x:Src}
end
section
variable {x:Src}
def ZpP (r:List D):Prop:=∃ (g:Sgn) (t:Tm),ZhQ t∧r=[.agg (Zak g),.agg (Zab t)]
theorem ZnM (hx:x.Ok):ConE (eB x) 6 [ZjG x] ZpP:=by
 have he:=hx.ok;refine gIE (ts:=[.cell 2 30,.cell 3 36]) 4157 Tryz.func6 ?_;refine fN 1 @tmB ?_;refine gB ?_;have F:=@tmB;refine gCP [] [1000] (Zpv hx) ?_;clear F;rintro r pm ⟨b,h,rfl,rfl⟩;simp only [setA,retA,zipM,Taf,Tah];refine fR @tmB ?_;refine pCur 1000 (Int.le_refl 0) ?_;clear he;have he:=hx.okC (b:=b);refine fN 2 @tmC ?_;refine gB ?_;have F:=@tmC;refine gCE (ZqG (b:=b) hx) ?_;clear F;rintro r ⟨g,hg,rfl⟩
 have hE:Zak g=[.sl (g.sorts.names.map ZbR),.sl (g.sorts.subs.map ZbS),.sl (g.ops.map Zax)]:=by rw [Zak]
 refine fR (ai @hE @tmC) ?_;have cS:=(Zhf hg.ok).cu (b:=b) hx;have cR:=Zl3 (b:=b) hx (n:=6) (by decide) (by decide) 2 (by decide);rw [hE] at cS;refine fN 3 @tmC ?_;refine gB ?_;refine fC @tmC (cS) ?_
 cases hs:Zbn g with
 | false =>
  refine fR @tmC ?_;refine fN 4 @tmC ?_;have F:=tmC;refine gN0 3 [0,1] [2] ?_;clear F;have F:=tmC;refine gNd ?_;clear F;have F:=tmC;refine gNE cR ?_;clear F;rintro r ⟨t,ht,rfl⟩;have F:=tmC;refine gNr ?_;clear F;refine fR @tmC ?_;exact (have F:=aj3 hE @eBP tmC;gTE (R:=ZpP) [] ⟨g,t,⟨ht.1,by have h1:=ht.2.1;have h2:=ht.2.2;have h3:rawK 2=13:=rfl;omega⟩,rfl⟩)
 | true =>
  have hd:=hg.dr (ZcF.1 hs);have cD:=Zns (b:=b) hx hd.ok hd.sg hd.h4 hd.hz (d:=3) (by decide) true;have cT:∀ {u:Tm},TermOk g u->∀ (a:Option Addr) (k:Nat),ConP (eC x b) 20 [curD b,.agg (Zak g),.agg (topC u a k)] [topB u a k] Zob:=fun hu a k=>Zxu (b:=b) hx hd hu a k;rw [hE] at cD;simp only [hE,Zjc] at cT;have ok00:TermOk g zTm∧ZhQ zTm:=⟨hd.hz,Zpd,by rw [Zpc];decide⟩;refine fR @tmC ?_;refine fN 5 @tmC ?_
  /- gk dit -/
  refine gGx (X:=Tm × Option Addr × Nat × Tm) [(2,.ref 2 0),(3,.ref 3 0),(4,.d (curD b)),(5,.ref 5 0)] [(5,.var none [.sl (g.sorts.names.map ZbR),.sl (g.sorts.subs.map ZbS),.sl (g.ops.map Zax)])] (fun _ x=>TermOk g x.1∧ZhQ x.2.2.2) (fun x=>[([(16,.d (.agg [.sl (g.sorts.names.map ZbR),.sl (g.sorts.subs.map ZbS),.sl (g.ops.map Zax)]))],[]),([(17,.d (curD b))],[]),([(18,.d (.agg [.sl (g.sorts.names.map ZbR),.sl (g.sorts.subs.map ZbS),.sl (g.ops.map Zax)]))],[]),([(19,.d (curD b))],[]),([(20,.d (.agg [.sl (g.sorts.names.map ZbR),.sl (g.sorts.subs.map ZbS),.sl (g.ops.map Zax)]))],[]),([(21,.d (.agg [.lit (.int .i64 x.1.op),.lit (.string x.1.name),.lit (.int .i64 x.1.sort),.lit (.slice x.2.1 (Zac x.1.args).length x.2.2.1)]))],[(1001,.buf (some (x.2.1,x.2.2.1)) 36 4 (Zac x.1.args))]),([(22,.d (.agg (Zab x.2.2.2)))],[]),([],[(2,.var none [.sl (g.sorts.names.map ZbR),.sl (g.sorts.subs.map ZbS),.sl (g.ops.map Zax)])]),([],[(3,.var none (Zab x.2.2.2))]),([],[(2,.var none [.sl [],.sl [],.sl []])]),([],[(3,.var none [.lit (.int .i64 0),.lit (.string ByteArray.empty),.lit (.int .i64 0),.sl []])])]) (fun j=>([(5,6),(9,7),(10,8)]:List (Nat × Nat)).lookup j) [9,10] (⟨by simp [gs],by simp [gm]⟩) (fun j hj=>by simp only [Tbg,List.not_mem_nil,or_false] at hj;rcases hj with rfl | rfl <;> exact ⟨(zTm,none,0,zTm),ok00,by simp [gs],by simp [gm]⟩) ⟨?_,?_,?_,?_,?_,?_,?_,?_,?_,trivial⟩ ?_
  ·intro s' m' hB hD hI hJ;have F:=Za6.1 hB;simp only [lkS,lkM,List.getD_cons_zero,List.getD_cons_succ,and_true,true_and] at F;have F:=aj5 F @ZbB @Za1 @ZbQ eCP;refine gO3 ?_;exact xS hB (ZaG.2 ⟨(zTm,none,0,zTm),ok00,by simp [lkS,lkM,gs,gm,ZaC]⟩)
  ·intro s' m' hB hD hI hJ;have F:=Za6.1 hB;simp only [lkS,lkM,List.getD_cons_zero,List.getD_cons_succ,and_true,true_and] at F;have F:=aj5 F @ZbB @Za1 @ZbQ eCP;refine gO3 ?_;exact xS hB (ZaG.2 ⟨(zTm,none,0,zTm),ok00,by simp [lkS,lkM,gs,gm,ZaC]⟩)
  ·intro s' m' hB hD hI hJ;have F:=Za6.1 hB;simp only [lkS,lkM,List.getD_cons_zero,List.getD_cons_succ,and_true,true_and] at F;have F:=aj5 F @ZbB @Za1 @ZbQ eCP;refine gO3 ?_;exact xS hB (ZaG.2 ⟨(zTm,none,0,zTm),ok00,by simp [lkS,lkM,gs,gm,ZaC]⟩)
  ·intro s' m' hB hD hI hJ;have F:=Za6.1 hB;simp only [lkS,lkM,List.getD_cons_zero,List.getD_cons_succ,and_true,true_and] at F;have F:=aj5 F @ZbB @Za1 @ZbQ eCP;refine gO3 ?_;exact xS hB (ZaG.2 ⟨(zTm,none,0,zTm),ok00,by simp [lkS,lkM,gs,gm,ZaC]⟩)
  ·intro s' m' hB hD hI hJ;have F:=Za6.1 hB;simp only [lkS,lkM,List.getD_cons_zero,List.getD_cons_succ,and_true,true_and] at F;have F:=aj5 F @ZbB @Za1 @ZbQ eCP;refine gO3 ?_;exact xS hB (ZaG.2 ⟨(zTm,none,0,zTm),ok00,by simp [lkS,lkM,gs,gm,ZaC]⟩)
  ·intro s' m' hB hD hI hJ;have F:=Za6.1 hB;simp only [lkS,lkM,List.getD_cons_zero,List.getD_cons_succ,and_true,true_and] at F;obtain ⟨x3,o3,F3⟩:=ZaG.1 (hD 3 (by decide) (.inl rfl));obtain ⟨x4,o4,F4⟩:=ZaG.1 (hD 4 (by decide) (.inl rfl));simp only [lkS,lkM,List.getD_cons_zero,List.getD_cons_succ,and_true,true_and] at F3;have F:=ai F F3;simp only [lkS,lkM,List.getD_cons_zero,List.getD_cons_succ,and_true,true_and] at F4
   have F:=ai F F4;have F:=aj5 F @ZbB @Za1 @ZbQ eCP;refine gCP [] [1001] (cD) ?_;rintro r pm ⟨u,hu,a,k,rfl,rfl⟩;simp only [setA,retA,zipM,Taf,Tah];refine Zdk ?_;exact xP hB (ZaG.2 ⟨(u,a,k,zTm),⟨hu,ok00.2⟩,by simp [lkS,lkM,gs,gm,Zjc]⟩)
  ·intro s' m' hB hD hI hJ;have F:=Za6.1 hB;simp only [lkS,lkM,List.getD_cons_zero,List.getD_cons_succ,and_true,true_and] at F;obtain ⟨x1,o1,F1⟩:=ZaG.1 (hD 1 (by decide) (.inl rfl));obtain ⟨x2,o2,F2⟩:=ZaG.1 (hD 2 (by decide) (.inl rfl));obtain ⟨x5,o5,F5⟩:=ZaG.1 (hD 5 (by decide) (.inr rfl));simp only [lkS,lkM,List.getD_cons_zero,List.getD_cons_succ,and_true,true_and] at F1;have F:=ai F F1;simp only [lkS,lkM,List.getD_cons_zero,List.getD_cons_succ,and_true,true_and] at F2
   have F:=ai F F2;simp only [lkS,lkM,List.getD_cons_zero,List.getD_cons_succ,and_true,true_and] at F5;have F:=ai F F5;have F:=aj5 F @ZbB @Za1 @ZbQ eCP;refine gCP [1001] [] (cT o5.1 x5.2.1 x5.2.2.1) ?_ (hpm:=by rw [Zme,F5.2];rfl) (hpn:=rfl);rintro r pm ⟨t,ht,rfl,rfl⟩;simp only [setA,retA,zipM,Taf,Tah];refine Zdk ?_;exact xLD hB (ZaG.2 ⟨(x5.1,x5.2.1,x5.2.2.1,t),⟨o5.1,ht⟩,by simp [lkS,lkM,gs,gm]⟩)
  ·intro s' m' hB hD hI hJ;have F:=Za6.1 hB;simp only [lkS,lkM,List.getD_cons_zero,List.getD_cons_succ,and_true,true_and] at F;obtain ⟨x0,o0,F0⟩:=ZaG.1 (hD 0 (by decide) (.inl rfl));obtain ⟨x9,o9,F9⟩:=ZaG.1 (hI 9 (by decide) (by decide));simp only [lkS,lkM,List.getD_cons_zero,List.getD_cons_succ,and_true,true_and] at F0;have F:=ai F F0;simp only [lkS,lkM,List.getD_cons_zero,List.getD_cons_succ,and_true,true_and] at F9
   have F:=ai F F9;have F:=aj5 F @ZbB @Za1 @ZbQ eCP;refine gO3 ?_;exact xM hB (ZaG.2 ⟨(zTm,none,0,zTm),ok00,by simp [lkS,lkM,gs,gm,ZaC,F0]⟩)
  ·intro s' m' hB hD hI hJ;have F:=Za6.1 hB;simp only [lkS,lkM,List.getD_cons_zero,List.getD_cons_succ,and_true,true_and] at F;obtain ⟨x6,o6,F6⟩:=ZaG.1 (hD 6 (by decide) (.inl rfl));obtain ⟨x10,o10,F10⟩:=ZaG.1 (hI 10 (by decide) (by decide));simp only [lkS,lkM,List.getD_cons_zero,List.getD_cons_succ,and_true,true_and] at F6;have F:=ai F F6;simp only [lkS,lkM,List.getD_cons_zero,List.getD_cons_succ,and_true,true_and] at F10
   have F:=ai F F10;have F:=aj5 F @ZbB @Za1 @ZbQ eCP;refine gO3 ?_;exact xM hB (ZaG.2 ⟨x6,o6,by simp [lkS,lkM,gs,gm,ZaC,F6]⟩)
  intro s' m' hB hP;obtain ⟨x7,o7,P7⟩:=hP 7 (.inl (by decide)) (fun k h=>by simp [List.lookup] at h);obtain ⟨x8,o8,P8⟩:=hP 8 (.inl (by decide)) (fun k h=>by simp [List.lookup] at h);refine ⟨_,_,(hB.app P7).app P8,?_⟩;simp only [Taf,Tah,List.append_nil,List.getD_cons_zero,List.getD_cons_succ]
  /- gk end dit -/
  refine ⟨_,Wk.refl _,?_⟩;exact (have F:=aj6 hE @eBP @ZbB @Za1 @ZbQ eCP;gTE (R:=ZpP) [] ⟨g,x8.2.2.2,o8.2,rfl⟩)
end
def ZAp (g:Sgn) (r:List D) (pm:List Bk):Prop:=∃ (l:List Bd) (a:Option Addr) (cap:Nat),Zik g 60 l∧r=[.one (.lit (.slice a (Zaf l).length cap))]∧pm=[.buf (some (a,cap)) 59 8 (Zaf l)]
def ZtI (g:Sgn) (r:List D):Prop:=∃ l:List Bd,Zik g 61 l∧r=[.one (.sl (Zaf l))]
section
variable {x:Src} {b:Nat} {g:Sgn}
theorem ZnN (hx:x.Ok) (hd:DrOk g) {u:Tm} (hu:TermOk g u):ConP (eC x b) 45 [curD b,.agg (Zak g),.agg (Zab u)] [] (ZAp g):=by
 have he:=hx.okC (b:=b);have c6:=Zb2 (b:=b) hx (n:=6) (by decide) (by decide);have c2:=Zb2 (b:=b) hx (n:=2) (by decide) (by decide);have cD:=fun y=>Zjg (b:=b) hx hd.ok hd.sg hd.h4 hd.hz (d:=2) (by decide) y;have huo:=hu.ok hd.sg;have hub:Zan (Zab u)+1<=780:=by have h1:=ZdA hu.form;have h2:=hu.size;omega
 have cV:=(ZpH huo (show Zan (Zab u)<=1048576 by omega)).cu (b:=b) hx;have hvl:(ZhD u).length<=60:=by
  have h1:=ZkH (ZbD u) [];have h2:=Znv u;have h3:=hu.size;have:ZhD u=colT (ZbD u) []:=rfl;rw [this];simp only [Tak,Nat.zero_add] at h1;omega
 have hvo:∀ v∈ZhD u,Zcg g v:=fun v hv=>by
  rcases ZpO (show v∈colT (ZbD u) [] from hv) with h | h
  ·exact Znu _ u (Tan _) hu.form v h
  ·cases h
 generalize ZhD u=vs at cV hvl hvo;have cS:∀ {t:Tm},TermOk g t->ConE (eC x b) 82 [.agg (Zak g),.agg (Zab t)] (fun r=>r=[.one (.lit (.int .i64 ((sortsTm g t:Nat):Int)))]):=fun {t} ht=>((Zkd hd.sg (sizeTm t+1) (Tan _) ht.form).cu hx).toE;rw [Zak] at cD cS ⊢;refine gIP (ts:=[.slot 6]) [] 8796227506167 Tryz.func45 ?_;refine fN 2 @tmC ?_;refine gB ?_;refine fC @tmC (cV) ?_;refine fR @tmC ?_;refine fG @tmC ?_
 have hb0:Zaf []=[]:=rfl;have F:=ai @hb0 @tmC;refine gL (ι:=Nat × List Bd) [7,9,10,11,18,27,43] [7] (fun z=>[(9,A.d (.one (.lit (.int .i64 z.1)))),(7,.buf 7)]) (fun z=>[(7,.buf none 59 8 (Zaf z.2))]) (fun z=>z.1<=vs.length∧z.2.length<=z.1∧∀ y∈z.2,BdDr g y) (fun z=>vs.length - z.1) ((0,[])) (⟨Taj _,Tai _,fun y hy=>(by cases hy)⟩) (fun z hz=>?_);clear F;obtain ⟨i,l⟩:=z;obtain ⟨hz1,hz2,hz3⟩:=hz;dsimp only at hz1 hz2 hz3 ⊢
 by_cases hlt:i < vs.length
 ·have q1:=lT i vs.length;have wi:=Zat (k:=i) om;have hg1:vs[i]?=some vs[i]:=Taa hlt;have hv:=hvo vs[i] (List.getElem_mem hlt);generalize vs[i]=v at hg1 hv;refine fN 6 (ai @q1 @tmC) ?_;refine gB ?_;refine fR @tmC ?_;refine gM (ι:=List Bd) [7,10,11,27,43] [7,11] (fun l'=>[(7,.buf 7)]) (fun l'=>[(7,.buf none 59 8 (Zaf l'))]) (fun l'=>l'.length<=i+1∧∀ y∈l',BdDr g y) ?_ (fun l' hl'=>Exists.intro _ (ai (Wk.refl _) ?_))
  ·refine fG @tmC ?_;have F:=@tmC;refine gL (ι:=Nat) [7,10,11,27,43] [7] (fun j=>[(10,A.d (.one (.lit (.int .i64 j)))),(7,.buf 7)]) (fun j=>[(7,.buf none 59 8 (Zaf l))]) (fun j=>j<=4) (fun j=>4 - j) (0) (Taj _) (fun j hj=>?_);clear F;by_cases h4:j < 4;rotate_left
   ·have q4:=lF j 4;refine fN 7 (ai @q4 @tmC) ?_;refine gB ?_;refine fR (ai @q4 @tmC) ?_;have F:=ai @q4 @tmC;refine gG ?_;exact ⟨l,⟨om,hz3⟩,gw,gw⟩
   have q4:=lT j 4;have wj:=Zat (k:=j) om;refine fN 7 (ai @q4 @tmC) ?_;refine gB ?_;have F:=ai @q4 @tmC;refine gCE (c6) ?_;clear F;rintro r ⟨y,rfl⟩
   cases y
   rotate_left
   ·refine fR (ai @q4 @tmC) ?_;have F:=ai @q4 @tmC;refine gG ?_;exact ⟨l,⟨om,hz3⟩,gw,gw⟩
   refine fR (ai @q4 @tmC) ?_;refine fN 9 @tmC ?_;refine gF0 ?_;have F:=tmC;refine gNa 5 [0,1,2] [3,4] ?_;clear F;have F:=tmC;refine gNd ?_;clear F;have F:=tmC;refine gNE c2 ?_;clear F;rintro r ⟨y2,rfl⟩;have F:=tmC;refine gNE (cD y2) ?_;clear F;rintro r ⟨t,ht,rfl⟩;have F:=tmC;refine gNr ?_;clear F;refine fR @tmC ?_;obtain ⟨kv,hkv⟩:=Int.eq_ofNat_of_zero_le hv.2.2.1;have hk16:kv < 16:=by have:=hd.sg.sorts.n8;have:=hv.2.2.2.1;omega
   have hst:=ZdI hd.sg ht.form.node;have h2p:(2:Nat) ^ g.sorts.names.length<=2 ^ 16:=Tbs (by decide) (by have:=hd.sg.sorts.n8;omega);have cH:=((ZeP (a:=sortsTm g t) (k:=kv) om hk16).cu (b:=b) hx).toE;have hve:Zab v=[.lit (.int .i64 v.op),.lit (.string v.name),.lit (.int .i64 (kv:Int)),.sl (Zac v.args)]:=by
    obtain ⟨o1,n1,s1,a1⟩:=v;simp only [Tm.sort] at hkv;subst hkv;simp only [Zab,Tm.op,Tm.name,Tm.args]
   refine fN 10 @tmC ?_;have F:=tmC;refine gN0 9 [0,1,3,4,5,6,7] [2,8] ?_;clear F;have F:=aj3 hg1 hve tmC;refine gNd ?_;clear F;have F:=tmC;refine gNE (cS ht) ?_;clear F;rintro r rfl;have F:=tmC;refine gNE cH ?_;clear F;rintro r rfl;have F:=tmC;refine gNr ?_;clear F;refine fR @tmC ?_;generalize tbit (sortsTm g t) kv=y3
   cases y3
   ·have F:=ai @wj @tmC;refine gG ?_;exact ⟨j+1,om,gw,gw,om⟩
   ·have hbs:Zaf l++[Zab v++Zab t]=Zaf (l++[⟨v,t⟩]):=by simp only [Zaf,Tbv,Tbu,List.map_nil];rfl
    have hm:((Zaf l).length+1<=maxApp)=True:=eq_true (by simp only [Zaf,Tay];unfold maxApp;omega);have hm2:(l.length+1<=maxApp)=True:=eq_true (by unfold maxApp;omega);have hvd:BdDr g ⟨v,t⟩:=by
     have hs12:=ZA7 hv.2.1;have hz:=hv.2.2.2.1;have hn8:=hd.sg.sorts.n8;obtain ⟨o1,n1,s1,a1⟩:=v;simp only [Zcg,Tm.op,Tm.name,Tm.sort,Tm.args] at hv hs12 hz hkv;obtain ⟨rfl,_,_,_,rfl⟩:=hv;exact ⟨by simp only [okTm,ZaF,and_true];exact ⟨⟨by decide,by decide⟩,by unfold maxLen;omega,⟨om,om⟩⟩,by rw [ZhK];simp only [Zac,Zam,Tak];omega,ht⟩
    have h7:∀ (c0 c1 c2 c3:C),List.take 4 (Zab v++[c0,c1,c2,c3])++Zab t++List.drop 8 (Zab v++[c0,c1,c2,c3])=Zab v++Zab t:=fun c0 c1 c2 c3=>by
     obtain ⟨o1,n1,s1,a1⟩:=v;simp [Zab]
    refine fN 11 @tmC ?_;refine gB ?_;have bl:∀ l:List Bd,(Zaf l).length=l.length:=fun l=>by simp [Zaf]
    have r8:∀ l:List Bd,ZaI 8 (Zaf l)=true:=fun l=>ZcW (fun y=>by obtain ⟨⟨o1,n1,s1,a1⟩,⟨o2,n2,s2,a2⟩⟩:=y;rfl) l;have r81:ZaI 8 [Zab v++Zab t]=true:=r8 [⟨v,t⟩];have ok8:(Zab v++Zab t).all Zau=true:=by rw [List.all_append,ZbB,ZbB];rfl
    have ln8:(Zab v++Zab t).length=8:=by rw [Tae,Za1,Za1]
    refine fR (aj13 @hg1 @h7 @ok8 @ln8 @bl @r8 @r81 @hm2 @hbs @ZbB @Za1 @ZbQ @tmC) ?_;have F:=ai @bl @tmC;refine gG ?_;exact ⟨l++[⟨v,t⟩],⟨by rw [Tae];exact Nat.succ_le_succ hz2,fun y hy=>(Tbh.1 hy).elim (hz3 y) fun hy=>by rw [Tbj.1 hy];exact hvd⟩,gw,gw⟩
  ·have F:=ai @wi @tmC;refine gG ?_;exact ⟨(i+1,l'),⟨om,hl'.1,hl'.2⟩,gw,gw,om⟩
 ·have q1:=lF i vs.length;refine fG (ai @q1 @tmC) ?_;refine pS 6 fun a1 k1=>?_;exact (have F:=tmC;gTP (R:=ZAp g) [6] ⟨l,a1,k1,⟨om,hz3⟩,rfl,rfl⟩)
theorem ZnO (hx:x.Ok) (hd:DrOk g) {u:Tm} (hu:TermOk g u):ConE (eC x b) 16 [curD b,.agg (Zak g),.agg (Zab u)] (ZtI g):=by
 have he:=hx.okC (b:=b);have c8:=Zb2 (b:=b) hx (n:=8) (by decide) (by decide);have c3:=ZbX (b:=b) hx (n:=3) (by decide) (by decide);have cD:=Zjg (b:=b) hx hd.ok hd.sg hd.h4 hd.hz (d:=1) (by decide) true;have cB:=ZnN (b:=b) hx hd hu;rw [Zak] at cD cB ⊢;refine gIE (ts:=[.slot 6]) 17626646970871 Tryz.func16 ?_;refine fN 1 @tmC ?_;refine gB ?_;have F:=@tmC;refine gCP [] [1001] (cB) ?_;clear F;rintro r pm ⟨l,a1,k1,⟨hl1,hl2⟩,rfl,rfl⟩
 simp only [setA,retA,zipM,Taf,Tah];refine fR @tmC ?_;refine pKk 7 1001 ?_;have bl:(Zaf l).length=l.length:=ZaV l;refine fN 2 @tmC ?_;refine gM (ι:=Bool) [19] [] (fun y=>[(19,A.d (.one (.lit (.bool y))))]) (fun y=>[]) (fun y=>y=true->1<=l.length) ?_ (fun y hy=>Exists.intro _ (ai (Wk.refl _) ?_))
 ·refine gB ?_;by_cases h0:0 < l.length
  ·have q0:((0:Int) < ((Zaf l).length:Int))=True:=eq_true (by rw [bl];omega);have F:=ai @q0 @tmC;refine gCE (c8) ?_;clear F;rintro r ⟨y,rfl⟩;refine fR @tmC ?_;have F:=@tmC;refine gG ?_;exact ⟨y,fun _=>h0,gw,gw⟩
  ·have q0:((0:Int) < ((Zaf l).length:Int))=False:=eq_false (by rw [bl];omega);refine fR (ai @q0 @tmC) ?_;have F:=@tmC;refine gG ?_;exact ⟨false,(by simp),gw,gw⟩
 refine gM (ι:=List Bd) [7,8,25,26,35,44] [1001] (fun l'=>[(7,.d (.one (.sl (Zaf l'))))]) (fun l'=>[]) (fun l'=>Zik g 61 l') ?_ (fun l' hl'=>Exists.intro _ (ai (Wk.refl _) ?_))
 ·cases y with
  | false =>
   refine pD 1001 [7] [] ?_;have F:=@tmC;refine gG ?_;exact ⟨l,⟨om,hl2⟩,gw,gw⟩
  | true =>
   have h1:=hy rfl;have cW:=ZbX (b:=b) hx (n:=(Zaf l).length) (by rw [bl];exact h1) (by rw [bl];omega);refine fN 3 @tmC ?_;refine gB ?_;have F:=@tmC;refine gCE (cW) ?_;clear F;rintro r ⟨j,hj,rfl⟩;refine fR @tmC ?_;refine fN 4 @tmC ?_;refine gB ?_;have F:=@tmC;refine gCE (c3) ?_;clear F;rintro r ⟨q,hq,rfl⟩;refine fR @tmC ?_;have hjl:j < l.length:=by rw [bl] at hj;exact hj
   obtain ⟨y,hy1⟩:∃ y,l[j]?=some y:=⟨_,Taa hjl⟩;have hyb:=hl2 y (Tac hy1);have hgy:(Zaf l)[j]?=some (Zab y.var++Zab y.to):=by rw [Zb4,hy1];rfl
   have ok8:(Zab y.var++Zab y.to).all Zau=true:=by rw [List.all_append,ZbB,ZbB];rfl
   have ln8:(Zab y.var++Zab y.to).length=8:=by rw [Tae,Za1,Za1]
   have hset:∀ z:Bd,BdDr g z->Zik g 61 (l.set j z):=fun z hz=>⟨by rw [Taz];omega,fun w hw=>(List.mem_or_eq_of_mem_set hw).elim (hl2 w) fun h=>h ▸ hz⟩;by_cases q0:q=0
   ·have e0:((q:Int)=0)=True:=eq_true om;refine fN 6 (ai @e0 @tmC) ?_;refine gB ?_;have F:=@tmC;refine gCE (cD) ?_;clear F;rintro r ⟨t,ht,rfl⟩;have F:=aj8 @hj @hgy @ok8 @ln8 @ZbB @Za1 @ZbQ @tmC;refine gP 3 ?_;clear F;have s0:(Zaf l).set j (List.take 4 (Zab y.var++Zab y.to)++Zab t++List.drop 8 (Zab y.var++Zab y.to))=Zaf (l.set j ⟨y.var,t⟩):=by
     have e:List.take 4 (Zab y.var++Zab y.to)++Zab t++List.drop 8 (Zab y.var++Zab y.to)=ZaO ⟨y.var,t⟩:=by
      obtain ⟨⟨o1,n1,s1,a1⟩,⟨o2,n2,s2,a2⟩⟩:=y;simp [Zab,ZaO]
     rw [e];exact (List.map_set).symm
    rw [s0];refine gD 1001 [7] [] ?_;refine fR @tmC ?_;have F:=@tmC;refine gG ?_;exact ⟨l.set j ⟨y.var,t⟩,hset _ ⟨hyb.vo,hyb.vb,ht⟩,gw,gw⟩
   have e0:((q:Int)=0)=False:=eq_false om;by_cases q1:q=1
   ·have e1:((q:Int)=1)=True:=eq_true om;refine fN 8 (aj3 @e0 @e1 @tmC) ?_;refine gB ?_;have r8:ZaI 8 [Zab y.var++Zab y.to]=true:=bds8 [y];have hm:((Zaf l).length+1<=maxApp)=True:=eq_true (by rw [bl];unfold maxApp;omega);have tk8:List.take 8 (Zab y.var++Zab y.to)=Zab y.var++Zab y.to:=List.take_of_length_le (by rw [ln8];exact Tai _);have F:=aj11 @hj @hgy @ok8 @ln8 @r8 @hm @tk8 @ZbB @Za1 @ZbQ @tmC;refine gP 7 ?_;clear F
    have s1:Zaf l++[Zab y.var++Zab y.to]=Zaf (l++[y]):=by simp only [Zaf,Tbv,Tbu,List.map_nil];rfl
    rw [s1];refine gS 43 fun a2 k2=>?_;refine gD 43 [43] [] ?_;refine fR @tmC ?_;have F:=@tmC;refine gG ?_;exact ⟨l++[y],⟨by rw [Tae];simp only [Tag,Tak];omega,fun w hw=>(Tbh.1 hw).elim (hl2 w) fun h=>by rw [Tbj.1 h];exact hyb⟩,gw,gw⟩
   have e1:((q:Int)=1)=False:=eq_false om;have e2:((q:Int)=2)=True:=eq_true om;refine fN 10 (aj4 @e0 @e1 @e2 @tmC) ?_;refine gB ?_;have F:=aj8 @hj @hgy @ok8 @ln8 @ZbB @Za1 @ZbQ @tmC;refine gP 6 ?_;clear F;have s2:(Zaf l).set j (.lit (.int .i64 0)::.lit (.string ByteArray.empty)::.lit (.int .i64 0)::.sl []::List.drop 4 (Zab y.var++Zab y.to))=Zaf (l.set j ⟨zTm,y.to⟩):=by
    have e:(.lit (.int .i64 0)::.lit (.string ByteArray.empty)::.lit (.int .i64 0)::.sl []::List.drop 4 (Zab y.var++Zab y.to))=ZaO ⟨zTm,y.to⟩:=by
     obtain ⟨⟨o1,n1,s1,a1⟩,⟨o2,n2,s2,a2⟩⟩:=y;simp [Zab,ZaO,ZeC]
    rw [e];exact (List.map_set).symm
   rw [s2];refine gD 1001 [7] [] ?_;refine fR @tmC ?_;have F:=@tmC;refine gG ?_;exact ⟨l.set j ⟨zTm,y.to⟩,hset _ (ZBH hyb.to),gw,gw⟩
 ·refine fG @tmC ?_;exact (have F:=tmC;gTE (R:=ZtI g) [] ⟨l',hl',rfl⟩)
def Zxw (r:List D):Prop:=∃ (g:Sgn) (l m:List Bd),DrD g∧Zik g 61 l∧Zik g 61 m∧r=[.agg (Zak g),.one (.sl (Zaf l)),.one (.sl (Zaf m))]
theorem ZnP (hx:x.Ok):ConE (eB x) 5 [ZjG x] Zxw:=by
 have he:=hx.ok;refine gIE (ts:=[.cell 2 30,.slot 3,.slot 4]) 253 Tryz.func5 ?_;refine fN 1 @tmB ?_;refine gB ?_;have F:=@tmB;refine gCP [] [1000] (Zpv hx) ?_;clear F;rintro r pm ⟨b,h,rfl,rfl⟩;simp only [setA,retA,zipM,Taf,Tah];refine fR @tmB ?_;refine pCur 1000 (Int.le_refl 0) ?_;clear he;have he:=hx.okC (b:=b);refine fN 2 @tmC ?_;refine gB ?_;have F:=@tmC;refine gCP [] [1000] ((ZqA hx)) ?_;clear F
 rintro r pm ⟨z,u,hc,fa,fc,fu,w,a0,k0,hz,rfl,rfl⟩;simp only [setA,retA,zipM,Taf,Tah];refine fR @tmC ?_;obtain ⟨e1,e2,e3⟩:=Zii z u hc fa fc fu w;rw [e1,e2,e3];have hDr:DrD (sigD z u hc fa fc fu w):=⟨z,u,hc,fa,fc,fu,w,hz,rfl⟩;clear e1 e2 e3;generalize sigD z u hc fa fc fu w=g at hDr ⊢;clear hz;refine pD 1000 [] [6] ?_;have hd:=ZsI hDr;have cD:=Zjg (b:=b) hx hd.ok hd.sg hd.h4 hd.hz (d:=3) (by decide) true
 have cB:∀ {t:Tm},TermOk g t->ConE (eC x b) 16 [curD b,.agg (Zak g),.agg (Zab t)] (ZtI g):=fun h=>ZnO hx hd h;have hE:Zak g=[.sl (g.sorts.names.map ZbR),.sl (g.sorts.subs.map ZbS),.sl (g.ops.map Zax)]:=by rw [Zak]
 rw [hE] at cD;simp only [hE] at cB;refine fN 3 @tmC ?_;refine gB ?_;have F:=@tmC;refine gCE (cD) ?_;clear F;rintro r ⟨t,ht,rfl⟩;refine fR @tmC ?_;refine fN 4 @tmC ?_;have F:=tmC;refine gN0 11 [0,1,2,3,5,6,7,8] [4,9,10] ?_;clear F;have F:=tmC;refine gNd ?_;clear F;have F:=tmC;refine gNE (cB ht) ?_;clear F;rintro r ⟨l,hl,rfl⟩;have F:=tmC;refine gNE cD ?_;clear F;rintro r ⟨t2,ht2,rfl⟩;have F:=tmC;refine gNE (cB ht2) ?_;clear F
 rintro r ⟨m,hm,rfl⟩;have F:=tmC;refine gNr ?_;clear F;refine fR @tmC ?_;exact (have F:=aj3 hE @eBP tmC;gTE (R:=Zxw) [] ⟨g,l,m,hDr,hl,hm,rfl⟩)
end
section
variable {e:Env} {U:Nat->Prop} {base:Nat} {S0:Nat->Prop} {σ:St} {o:Oper} {K:St->Prop}
end
section
variable {e:Env} {K:St->Prop} {ds:List (Option Nat)} {os:List Oper} {d t ty q:Nat} {p:String} {ed:Array Edge} {x lo:Operand} {s:List (Nat × A)} {m:List (Nat × Bk)}
end
section
variable {x:Src}
theorem ZA8 (he:(eB x).Ok):Con (eB x) 4 [ZjG x] [.one (.lit (.bool (decide (x.n > 1048576))))]:=by
 have hd:decide ((x.n:Int) > 1048576)=decide (x.n > 1048576):=by rw [decide_eq_decide];omega
 rw [<- hd];refine gI (ts:=[.slot 2]) 5 Tryz.func4 ?_;refine fG @tmB ?_;exact fD @tmB
end
structure TwoU where
 a0:Value
 a1:Value
 a2:Value
 a3:Value
 b0:Value
 b1:Value
 b2:Value
 b3:Value
 E:Nat->Prop
 F:Nat->Prop
def TwoU.z:TwoU:=⟨.bool true,.bool true,.bool true,.bool true,.bool true,.bool true,.bool true,.bool true,fun _=>False,fun _=>False⟩
abbrev TwoU.okA (x:TwoU):Prop:=Zau (.lit x.a0)=true∧Zau (.lit x.a1)=true∧Zau (.lit x.a2)=true∧Zau (.lit x.a3)=true
abbrev TwoU.okB (x:TwoU):Prop:=Zau (.lit x.b0)=true∧Zau (.lit x.b1)=true∧Zau (.lit x.b2)=true∧Zau (.lit x.b3)=true
def TwoU.ok (i:Nat) (x:TwoU):Prop:=(i=3∨7<=i∧i<=10->x.okA)∧(6<=i∧i<=10->x.okB)
theorem Zkg (l:List Bd) {i:Nat} {y:Bd} (h:l[i]?=some y):Zaf (l.take (i+1))=Zaf (l.take i)++[ZaO y]:=by
 simp only [Zaf,List.take_add_one,h,Option.toList,Tbv,Tbu,List.map_nil]
theorem Zgc:Zaf []=[]:=rfl
theorem ZBI {w:World} {y:Bd} {E F:Nat->Prop} {us vs:List Value} (h:Zal w (Zab y.var) E us) (h2:Zal w (Zab y.to) F vs) (hd:∀ b,E b->F b->False):Zal w (ZaO y) (fun b=>E b∨F b) (us++vs):=Zal.append E F h h2 (fun _ h=>.inl h) (fun _ h=>.inr h) hd
theorem ZpQ (l:List Bd) (hl:l.length<=1000) (hb:∀ y∈l,Zan (Zab y.var)<=1048576∧Zan (Zab y.to)<=1048576):ConP e0 30 [.one (.sl (Zaf l))] [] (ZlD (Zaf l)):=by
 have bl:=ZaV l;have bg:=Zb4 l;have bb:=bds8 l;refine gIP (ts:=[.slot 2]) [] 1965 Tryz.func30 ?_;refine fG (ai @bl @tmz) ?_;refine pE [] [1000] Zfj ?_;have F:=aj3 @bl @Zgc @tmz;refine gL (ι:=Nat × List (List Value) × (Nat->Prop)) [3,5,9,10] [3,1000] (fun x=>[(9,A.d (.one (.lit (.int .i64 x.1)))),(3,.buf 3)]) (fun x=>[(3,.buf none 59 8 (x.2.1.map ZaS)),(1000,.set x.2.2 (fun w=>Zbo w (Zaf (l.take x.1)) x.2.2 x.2.1))]) (fun x=>x.1<=l.length∧x.2.1.length=x.1) (fun x=>l.length - x.1) ((0,[],fun _=>False)) (⟨Taj _,rfl⟩) (fun x hx=>?_);clear F
 obtain ⟨i,uss,E0⟩:=x;obtain ⟨hi,hn⟩:=hx;simp only at hi hn;by_cases hlt:i < l.length;rotate_left
 ·obtain rfl:i=l.length:=by omega
  have q1:=lF l.length l.length;refine fG (aj3 @q1 @bl @tmz) ?_;rw [Tap];refine pS 2 fun a cap=>?_;refine pE [2,1000] [1000] (Zkz (uss:=uss) (G':=fun w=>Own w (.sl (Zaf l)) (fun b=>vblk (.slice a uss.length cap)=some b∨E0 b) (.slice a uss.length cap)) (fun w h=>h) (Own.stable _ _ _)) ?_;exact (have F:=ZkA;gTP (R:=ZlD (Zaf l)) [1000] ⟨.slice a uss.length cap,fun b=>vblk (.slice a uss.length cap)=some b∨E0 b,rfl,rfl,rfl⟩)
 obtain ⟨y,hy⟩:∃ y,l[i]?=some y:=⟨_,Taa hlt⟩;have hym:=Tac hy;have cV:=ZgJ y.var (hb y hym).1;have cT:=ZgJ y.to (hb y hym).2;have q1:=lT i l.length;have q2:(i+1<=maxApp)=True:=eq_true (by unfold maxApp;omega);have hwi:=Zat (k:=i) om;refine fN 5 (aj8 @q1 @bl @bb @bg @hy @bdz @Zar @tmz) ?_
 /- gk copybd -/
 refine gGx (X:=TwoU) [(0,.d (.one (.sl (Zaf l)))),(2,.buf 2),(5,.ref 5 0),(7,.d (.one (.sl (Zaf l)))),(8,.d (.one (.lit (.int .i64 (l.length:Int))))),(9,.d (.one (.lit (.int .i64 (i:Int)))))] [(2,.buf none 59 8 []),(5,.var none (ZaO y)),(1000,.set E0 (fun w=>Zbo w (Zaf (l.take i)) E0 uss))] (TwoU.ok) (fun x=>[([(13,.buf 3)],[]),([(14,.ref 5 0)],[]),([(15,.d (.agg (Zab y.var)))],[]),([(16,.d (.agg [.lit x.a0,.lit x.a1,.lit x.a2,.lit x.a3]))],[(1003,.set x.E (fun w=>Zal w (Zab y.var) x.E [x.a0,x.a1,x.a2,x.a3]))]),([(17,.ref 5 4)],[]),([(18,.d (.agg (Zab y.to)))],[]),([(19,.d (.agg [.lit x.b0,.lit x.b1,.lit x.b2,.lit x.b3]))],[(1006,.set x.F (fun w=>Zal w (Zab y.to) x.F [x.b0,x.b1,x.b2,x.b3]))]),([(20,.d (.agg [.lit x.a0,.lit x.a1,.lit x.a2,.lit x.a3,.lit x.b0,.lit x.b1,.lit x.b2,.lit x.b3]))],[(1003,.set x.E (fun w=>Zal w (Zab y.var) x.E [x.a0,x.a1,x.a2,x.a3])),(1006,.set x.F (fun w=>Zal w (Zab y.to) x.F [x.b0,x.b1,x.b2,x.b3]))]),([(21,.d (.clip [[.lit x.a0,.lit x.a1,.lit x.a2,.lit x.a3,.lit x.b0,.lit x.b1,.lit x.b2,.lit x.b3]]))],[(1003,.set x.E (fun w=>Zal w (Zab y.var) x.E [x.a0,x.a1,x.a2,x.a3])),(1006,.set x.F (fun w=>Zal w (Zab y.to) x.F [x.b0,x.b1,x.b2,x.b3]))]),([(22,.buf 22)],[(22,.buf none 59 8 (uss.map ZaS++[[.lit x.a0,.lit x.a1,.lit x.a2,.lit x.a3,.lit x.b0,.lit x.b1,.lit x.b2,.lit x.b3]])),(1003,.set x.E (fun w=>Zal w (Zab y.var) x.E [x.a0,x.a1,x.a2,x.a3])),(1006,.set x.F (fun w=>Zal w (Zab y.to) x.F [x.b0,x.b1,x.b2,x.b3]))]),([(3,.buf 3)],[(3,.buf none 59 8 (uss.map ZaS++[[.lit x.a0,.lit x.a1,.lit x.a2,.lit x.a3,.lit x.b0,.lit x.b1,.lit x.b2,.lit x.b3]])),(1003,.set x.E (fun w=>Zal w (Zab y.var) x.E [x.a0,x.a1,x.a2,x.a3])),(1006,.set x.F (fun w=>Zal w (Zab y.to) x.F [x.b0,x.b1,x.b2,x.b3]))]),([(3,.buf 3)],[]),([],[(3,.buf none 59 8 (uss.map ZaS))])]) (fun j=>([(0,9),(3,7),(6,7),(7,8),(8,9),(9,10),(11,9),(12,9)]:List (Nat × Nat)).lookup j) [11,12] (⟨by simp [gs],by simp [gm]⟩) (fun j hj=>by simp only [Tbg,List.not_mem_nil,or_false] at hj;rcases hj with rfl | rfl <;> exact ⟨TwoU.z,⟨fun h=>absurd h (by decide),fun h=>absurd h (by decide)⟩,by simp [gs],by simp [gm]⟩) ⟨?_,?_,?_,?_,?_,?_,?_,?_,?_,?_,?_,trivial⟩ ?_
 ·intro s' m' hB hD hI hJ;have F:=Za6.1 hB;simp only [lkS,lkM,List.getD_cons_zero,List.getD_cons_succ,and_true,true_and] at F;obtain ⟨x11,o11,F11⟩:=ZaG.1 (hJ 11 (by decide) 9 rfl (by decide));simp only [lkS,lkM,List.getD_cons_zero,List.getD_cons_succ,and_true,true_and] at F11;have F:=ai F F11;have F:=ai F (tmz);refine gO3 ?_;exact xS hB (ZaG.2 ⟨TwoU.z,⟨fun h=>absurd h (by decide),fun h=>absurd h (by decide)⟩,by simp [lkS,lkM,gs,gm,ZaC]⟩)
 ·intro s' m' hB hD hI hJ;have F:=Za6.1 hB;simp only [lkS,lkM,List.getD_cons_zero,List.getD_cons_succ,and_true,true_and] at F;have F:=aj3 F bdz tmz;refine gO3 ?_;exact xS hB (ZaG.2 ⟨TwoU.z,⟨fun h=>absurd h (by decide),fun h=>absurd h (by decide)⟩,by simp [lkS,lkM,gs,gm,ZaC]⟩)
 ·intro s' m' hB hD hI hJ;have F:=Za6.1 hB;simp only [lkS,lkM,List.getD_cons_zero,List.getD_cons_succ,and_true,true_and] at F;obtain ⟨x1,o1,F1⟩:=ZaG.1 (hD 1 (by decide) (.inl rfl));simp only [lkS,lkM,List.getD_cons_zero,List.getD_cons_succ,and_true,true_and] at F1;have F:=ai F F1;have F:=aj3 F bdz tmz;refine gO3 ?_;exact xS hB (ZaG.2 ⟨TwoU.z,⟨fun h=>absurd h (by decide),fun h=>absurd h (by decide)⟩,by simp [lkS,lkM,gs,gm,ZaC,F1]⟩)
 ·intro s' m' hB hD hI hJ;have F:=Za6.1 hB;simp only [lkS,lkM,List.getD_cons_zero,List.getD_cons_succ,and_true,true_and] at F;obtain ⟨x2,o2,F2⟩:=ZaG.1 (hD 2 (by decide) (.inl rfl));simp only [lkS,lkM,List.getD_cons_zero,List.getD_cons_succ,and_true,true_and] at F2;have F:=ai F F2;have F:=ai F (tmz);refine gCP [] [1003] (cV) ?_;rintro r pm ⟨us,E2,rfl,hu,hok,rfl⟩;rw [Za1] at hu;obtain ⟨u0,u1,u2,u3,rfl⟩:=len4 hu
  obtain ⟨k0,k1,k2,k3⟩:=okc4 hok;simp only [Zfk];simp only [setA,retA,zipM,Taf,Tah];refine Zdk ?_;exact xP hB (ZaG.2 ⟨⟨u0,u1,u2,u3,u0,u0,u0,u0,E2,E2⟩,⟨fun _=>⟨k0,k1,k2,k3⟩,fun h=>absurd h (by decide)⟩,by simp [lkS,lkM,gs,gm]⟩)
 ·intro s' m' hB hD hI hJ;have F:=Za6.1 hB;simp only [lkS,lkM,List.getD_cons_zero,List.getD_cons_succ,and_true,true_and] at F;have F:=aj3 F bdz tmz;refine gO3 ?_;exact xS hB (ZaG.2 ⟨TwoU.z,⟨fun h=>absurd h (by decide),fun h=>absurd h (by decide)⟩,by simp [lkS,lkM,gs,gm,ZaC]⟩)
 ·intro s' m' hB hD hI hJ;have F:=Za6.1 hB;simp only [lkS,lkM,List.getD_cons_zero,List.getD_cons_succ,and_true,true_and] at F;obtain ⟨x4,o4,F4⟩:=ZaG.1 (hD 4 (by decide) (.inl rfl));simp only [lkS,lkM,List.getD_cons_zero,List.getD_cons_succ,and_true,true_and] at F4;have F:=ai F F4;have F:=aj3 F bdz tmz;refine gO3 ?_;exact xS hB (ZaG.2 ⟨TwoU.z,⟨fun h=>absurd h (by decide),fun h=>absurd h (by decide)⟩,by simp [lkS,lkM,gs,gm,ZaC,F4]⟩)
 ·intro s' m' hB hD hI hJ;have F:=Za6.1 hB;simp only [lkS,lkM,List.getD_cons_zero,List.getD_cons_succ,and_true,true_and] at F;obtain ⟨x5,o5,F5⟩:=ZaG.1 (hD 5 (by decide) (.inl rfl));simp only [lkS,lkM,List.getD_cons_zero,List.getD_cons_succ,and_true,true_and] at F5;have F:=ai F F5;have F:=ai F (tmz);refine gCP [] [1006] (cT) ?_;rintro r pm ⟨us,E2,rfl,hu,hok,rfl⟩;rw [Za1] at hu;obtain ⟨u0,u1,u2,u3,rfl⟩:=len4 hu
  obtain ⟨k0,k1,k2,k3⟩:=okc4 hok;simp only [Zfk];simp only [setA,retA,zipM,Taf,Tah];refine Zdk ?_;exact xP hB (ZaG.2 ⟨⟨u0,u0,u0,u0,u0,u1,u2,u3,E2,E2⟩,⟨fun h=>absurd h (by decide),fun _=>⟨k0,k1,k2,k3⟩⟩,by simp [lkS,lkM,gs,gm]⟩)
 ·intro s' m' hB hD hI hJ;have F:=Za6.1 hB;simp only [lkS,lkM,List.getD_cons_zero,List.getD_cons_succ,and_true,true_and] at F;obtain ⟨x3,o3,F3⟩:=ZaG.1 (hD 3 (by decide) (.inr rfl));obtain ⟨x6,o6,F6⟩:=ZaG.1 (hD 6 (by decide) (.inr rfl));simp only [lkS,lkM,List.getD_cons_zero,List.getD_cons_succ,and_true,true_and] at F3;have F:=ai F F3;simp only [lkS,lkM,List.getD_cons_zero,List.getD_cons_succ,and_true,true_and] at F6
  have F:=ai F F6;have F:=aj3 F (o3.1 (by decide)) (o6.2 (by decide));have F:=ai F (tmz);refine gO3 ?_;exact xS hB (ZaG.2 ⟨⟨x3.a0,x3.a1,x3.a2,x3.a3,x6.b0,x6.b1,x6.b2,x6.b3,x3.E,x6.F⟩,⟨fun _=>o3.1 (by decide),fun _=>o6.2 (by decide)⟩,by simp [lkS,lkM,gs,gm,ZaC,F3,F6]⟩)
 ·intro s' m' hB hD hI hJ;have F:=Za6.1 hB;simp only [lkS,lkM,List.getD_cons_zero,List.getD_cons_succ,and_true,true_and] at F;obtain ⟨x7,o7,F7⟩:=ZaG.1 (hD 7 (by decide) (.inr rfl));simp only [lkS,lkM,List.getD_cons_zero,List.getD_cons_succ,and_true,true_and] at F7;have F:=ai F F7;have F:=aj3 F (o7.1 (by decide)) (o7.2 (by decide));have F:=ai F (tmz);refine gO3 ?_;exact xS hB (ZaG.2 ⟨x7,⟨fun _=>o7.1 (by decide),fun _=>o7.2 (by decide)⟩,by simp [lkS,lkM,gs,gm,ZaC,F7]⟩)
 ·intro s' m' hB hD hI hJ;have F:=Za6.1 hB;simp only [lkS,lkM,List.getD_cons_zero,List.getD_cons_succ,and_true,true_and] at F;obtain ⟨x0,o0,F0⟩:=ZaG.1 (hD 0 (by decide) (.inr rfl));obtain ⟨x8,o8,F8⟩:=ZaG.1 (hD 8 (by decide) (.inr rfl));obtain ⟨x11,o11,F11⟩:=ZaG.1 (hI 11 (by decide) (by decide));obtain ⟨x12,o12,F12⟩:=ZaG.1 (hI 12 (by decide) (by decide));simp only [lkS,lkM,List.getD_cons_zero,List.getD_cons_succ,and_true,true_and] at F0
  have F:=ai F F0;simp only [lkS,lkM,List.getD_cons_zero,List.getD_cons_succ,and_true,true_and] at F8;have F:=ai F F8;simp only [lkS,lkM,List.getD_cons_zero,List.getD_cons_succ,and_true,true_and] at F11;have F:=ai F F11;simp only [lkS,lkM,List.getD_cons_zero,List.getD_cons_succ,and_true,true_and] at F12;have F:=ai F F12;have F:=aj3 F (o8.1 (by decide)) (o8.2 (by decide));have F:=aj5 F @ZkA hn q2 tmz
  refine gO3 ?_;exact xE hB (ZaG.2 ⟨x8,⟨fun _=>o8.1 (by decide),fun _=>o8.2 (by decide)⟩,by simp [lkS,lkM,gs,gm,ZaC,F0,F8]⟩)
 ·intro s' m' hB hD hI hJ;have F:=Za6.1 hB;simp only [lkS,lkM,List.getD_cons_zero,List.getD_cons_succ,and_true,true_and] at F;obtain ⟨x9,o9,F9⟩:=ZaG.1 (hD 9 (by decide) (.inr rfl));simp only [lkS,lkM,List.getD_cons_zero,List.getD_cons_succ,and_true,true_and] at F9;have F:=ai F F9;have F:=ai F (tmz);refine gO3 ?_;exact xE hB (ZaG.2 ⟨x9,⟨fun _=>o9.1 (by decide),fun _=>o9.2 (by decide)⟩,by simp [lkS,lkM,gs,gm,ZaC,F9]⟩)
 intro s' m' hB hP;obtain ⟨x10,o10,P10⟩:=hP 10 (.inl (by decide)) (fun k h=>by simp [List.lookup] at h);refine ⟨_,_,hB.app P10,?_⟩;simp only [Taf,Tah,List.append_nil,List.getD_cons_zero,List.getD_cons_succ]
 /- gk end copybd -/
 refine ⟨_,Wk.refl _,?_⟩;obtain ⟨a0,a1,a2,a3,b0,b1,b2,b3,E,F'⟩:=x10;dsimp only;refine pE [1003,1006] [1006] (Zo7 (G':=fun w=>Zal w (ZaO y) (fun b=>E b∨F' b) [a0,a1,a2,a3,b0,b1,b2,b3]) (fun w h1 h2 hd=>ZBI h1 h2 hd) (Zal.stable _ _ _)) ?_;refine pE [1000,1006] [1000] (Zo7 (G':=fun w=>Zbo w (Zaf (l.take (i+1))) (fun b=>E0 b∨(E b∨F' b)) (uss++[[a0,a1,a2,a3,b0,b1,b2,b3]])) (fun w h1 h2 hd=>?_) (Zbo.stable _ _ _)) ?_
 ·rw [Zkg l hy];exact Zbo.snoc h1 h2 (fun _ h=>.inl h) (fun _ h=>.inr h) hd
 have hl8:ZaS [a0,a1,a2,a3,b0,b1,b2,b3]=[.lit a0,.lit a1,.lit a2,.lit a3,.lit b0,.lit b1,.lit b2,.lit b3]:=rfl;have F:=aj4 @hl8 @hwi (@Tbv.{0,0}) @tmz;refine gG ?_;exact ⟨(i+1,uss++[[a0,a1,a2,a3,b0,b1,b2,b3]],fun b=>E0 b∨(E b∨F' b)),⟨hlt,by simp [hn]⟩,gw,gw,om⟩
section
variable {g:Sgn}
theorem Znx {l:List Bd} (hl:Zcr l) (hn:l.length<=1000) {y:Bd} (hy:okBd y):Con e0 33 [.one (.sl (Zaf l)),.agg (Zab y.var),.agg (Zab y.to)] [.one (.sl (Zaf (putB l y)))]:=by
 have bl:=ZaV l;have bg:=Zb4 l;have bb:=bds8 l;have hbd:Zab y.var++Zab y.to=ZaO y:=rfl;have h7:∀ (c0 c1 c2 c3:C),List.take 4 (Zab y.var++[c0,c1,c2,c3])++(Zab y.to++List.drop 8 (Zab y.var++[c0,c1,c2,c3]))=ZaO y:=fun c0 c1 c2 c3=>by
  obtain ⟨⟨o,n,s,a⟩,t⟩:=y;simp [Zab,ZaO]
 refine gI (ts:=[.slot 6]) 4194807 Tryz.func33 ?_;refine fN 1 (ai @bl @tmz) ?_;refine gB ?_;refine fR @tmz ?_
 with_reducible refine ZdE ?_
 refine gM (ι:=Nat) [7,22] [] (fun i=>[(7,A.d (.one (.lit (.int .i64 i))))]) (fun i=>[]) (fun i=>i<=l.length∧putB l y=l.take i++y::l.drop i) ?_ (fun i hi=>Exists.intro _ (ai (Wk.refl _) ?_))
 ·refine fG @tmz ?_;have F:=@tmz;refine gL (ι:=Nat) [7,22] [] (fun i=>[(7,A.d (.one (.lit (.int .i64 i))))]) (fun i=>[]) (fun i=>i<=l.length∧∀ (j:Nat) x,j < i->l[j]?=some x->Zai x.var y.var < 0) (fun i=>l.length - i) (0) (⟨Taj _,fun j x h=>absurd h om⟩) (fun i hi=>?_);clear F;obtain ⟨hi,hall⟩:=hi;have stop:(∀ x,l[i]?=some x->¬ Zai x.var y.var < 0)->i<=l.length∧putB l y=l.take i++y::l.drop i:=fun h=>⟨hi,Zso hi hall h⟩
  refine fN 2 @tmz ?_;by_cases hil:i < l.length;rotate_left
  ·have q2:=lF i l.length;have hst:=stop fun x hx=>by rw [List.getElem?_eq_none om] at hx;cases hx
   have F:=aj3 @q2 @bl @tmz;refine gG ?_;exact ⟨i,hst,gw,gw⟩
  have q2:=lT i l.length;obtain ⟨x,hx⟩:∃ x,l[i]?=some x:=⟨_,Taa hil⟩;have cC:=Zdl (hl x (Tac hx)).1 hy.1;have hwi:=Zat (k:=i) om;refine gB ?_;refine fC (aj8 @q2 @bl @bb @bg @hx @bdz @Zar @tmz) (cC) ?_;by_cases hc:Zai x.var y.var < 0
  ·have q3:(Zai x.var y.var < 0)=True:=eq_true hc;have hnx:i+1<=l.length∧∀ (j:Nat) z,j < i+1->l[j]?=some z->Zai z.var y.var < 0:=⟨hil,fun j z hj hz=>by
    by_cases e:j=i
    ·subst e;rw [hx] at hz;injection hz with hz;subst hz;exact hc
    ·exact hall j z om hz⟩
   refine fR (ai @q3 @tmz) ?_;have F:=ai @hwi @tmz;refine gG ?_;exact ⟨i+1,hnx,gw,gw,om⟩
  ·have q3:(Zai x.var y.var < 0)=False:=eq_false hc;have hst:=stop fun z hz=>by rw [hx] at hz;injection hz with hz;subst hz;exact hc
   refine fR (ai @q3 @tmz) ?_;have F:=@tmz;refine gG ?_;exact ⟨i,hst,gw,gw⟩
 obtain ⟨hi,hput⟩:=hi;have s1:((i:Int)<=(l.length:Int))=True:=eq_true om;have s2:List.take i (Zaf l)=Zaf (l.take i):=by simp [Zaf]
 have s3:List.drop i (Zaf l)=Zaf (l.drop i):=by simp [Zaf]
 have s4:List.take l.length (Zaf l)=Zaf l:=by rw [<- bl,Tap]
 have l6:((l.take i).length+1+(l.drop i).length<=maxApp)=True:=eq_true (by simp only [Taw,Tax];unfold maxApp;omega);have l7:Zaf (l.take i++[y])++Zaf (l.drop i)=Zaf (putB l y):=by rw [hput];simp [Zaf]
 have l1:∀ l:List Bd,ZaI 8 (Zaf l)=true:=fun l=>bds8 l;have l2:((l.take i).length<=maxApp)=True:=eq_true (by rw [Taw];unfold maxApp;omega);have l3:=ZaV;have l4:((l.take i).length+1<=maxApp)=True:=eq_true (by rw [Taw];unfold maxApp;omega);have l5:Zaf (l.take i)++[ZaO y]=Zaf (l.take i++[y]):=by simp [Zaf]
 refine fN 4 @tmz ?_
 /- gk l9put -/
 refine gGk [(0,.d (.one (.sl (Zaf l)))),(4,.ref 4 0),(5,.ref 5 0),(6,.buf 6),(7,.d (.one (.lit (.int .i64 (i:Int)))))] [(4,.var none (Zab y.var)),(5,.var none (Zab y.to)),(6,.buf none 59 8 [])] [([(25,.d (.clip []))],[]),([(26,.d (.one (.sl (Zaf l))))],[]),([(27,.d (.one (.lit (.int .i64 (i:Int)))))],[]),([(28,.d (.one (.sl (Zaf (l.take i)))))],[]),([(29,.buf 29)],[(29,.buf none 59 8 (Zaf (l.take i)))]),([(30,.d (.agg (Zab y.var)))],[]),([(31,.d (.agg (Zab y.to)))],[]),([(32,.d (.agg (ZaO y)))],[]),([(33,.d (.clip [ZaO y]))],[]),([(34,.buf 34)],[(34,.buf none 59 8 (Zaf (l.take i++[y])))]),([(8,.buf 8)],[(8,.buf none 59 8 (Zaf (l.take i++[y])))])] (fun j=>([(4,9),(9,10)]:List (Nat × Nat)).lookup j) [] (⟨by simp [gs],by simp [gm]⟩) (fun j hj=>by simp at hj) ⟨?_,?_,?_,?_,?_,?_,?_,?_,?_,?_,?_,trivial⟩ ?_
 ·intro s' m' hB hD hI hJ;have F:=(Za6.1 hB);simp only [lkS,lkM,List.getD_cons_zero,List.getD_cons_succ,and_true,true_and] at F;have F:=ai F (tmz);refine gO3 ?_;exact kS hB (Zby.2 (by simp [lkS,lkM,gs,gm]))
 ·intro s' m' hB hD hI hJ;have F:=(Za6.1 hB);simp only [lkS,lkM,List.getD_cons_zero,List.getD_cons_succ,and_true,true_and] at F;have F:=ai F (tmz);refine gO3 ?_;exact kS hB (Zby.2 (by simp [lkS,lkM,gs,gm]))
 ·intro s' m' hB hD hI hJ;have F:=(Za6.1 hB);simp only [lkS,lkM,List.getD_cons_zero,List.getD_cons_succ,and_true,true_and] at F;have F:=ai F (tmz);refine gO3 ?_;exact kS hB (Zby.2 (by simp [lkS,lkM,gs,gm]))
 ·intro s' m' hB hD hI hJ;have F:=aj3 (Za6.1 hB) (Zby.1 (hD 1 (by decide) (.inl rfl))) (Zby.1 (hD 2 (by decide) (.inl rfl)));simp only [lkS,lkM,List.getD_cons_zero,List.getD_cons_succ,and_true,true_and] at F;have F:=aj6 F bl bb s1 s2 tmz;refine gO3 ?_;exact kS hB (Zby.2 (by simp [lkS,lkM,gs,gm]))
 ·intro s' m' hB hD hI hJ;have F:=aj3 (Za6.1 hB) (Zby.1 (hD 0 (by decide) (.inl rfl))) (Zby.1 (hD 3 (by decide) (.inl rfl)));simp only [lkS,lkM,List.getD_cons_zero,List.getD_cons_succ,and_true,true_and] at F;have F:=aj5 F l1 l2 l3 tmz;refine gO3 ?_;exact kB hB (Zby.2 (by simp [lkS,lkM,gs,gm]))
 ·intro s' m' hB hD hI hJ;have F:=(Za6.1 hB);simp only [lkS,lkM,List.getD_cons_zero,List.getD_cons_succ,and_true,true_and] at F;have F:=ai F (tmz);refine gO3 ?_;exact kS hB (Zby.2 (by simp [lkS,lkM,gs,gm]))
 ·intro s' m' hB hD hI hJ;have F:=(Za6.1 hB);simp only [lkS,lkM,List.getD_cons_zero,List.getD_cons_succ,and_true,true_and] at F;have F:=ai F (tmz);refine gO3 ?_;exact kS hB (Zby.2 (by simp [lkS,lkM,gs,gm]))
 ·intro s' m' hB hD hI hJ;have F:=aj3 (Za6.1 hB) (Zby.1 (hD 5 (by decide) (.inl rfl))) (Zby.1 (hD 6 (by decide) (.inl rfl)));simp only [lkS,lkM,List.getD_cons_zero,List.getD_cons_succ,and_true,true_and] at F;have F:=aj3 F hbd tmz;refine gO3 ?_;exact kS hB (Zby.2 (by simp [lkS,lkM,gs,gm,h7]))
 ·intro s' m' hB hD hI hJ;have F:=ai (Za6.1 hB) (Zby.1 (hD 7 (by decide) (.inl rfl)));simp only [lkS,lkM,List.getD_cons_zero,List.getD_cons_succ,and_true,true_and] at F;have F:=aj3 F bdz tmz;refine gO3 ?_;exact kS hB (Zby.2 (by simp [lkS,lkM,gs,gm]))
 ·intro s' m' hB hD hI hJ;have F:=aj3 (Za6.1 hB) (Zby.1 (hD 4 (by decide) (.inr rfl))) (Zby.1 (hD 8 (by decide) (.inl rfl)));simp only [lkS,lkM,List.getD_cons_zero,List.getD_cons_succ,and_true,true_and] at F;have F:=aj7 F l1 l3 l4 l5 bdz tmz;refine gO3 ?_;exact kE hB (Zby.2 (by simp [lkS,lkM,gs,gm]))
 ·intro s' m' hB hD hI hJ;have F:=ai (Za6.1 hB) (Zby.1 (hD 9 (by decide) (.inr rfl)));simp only [lkS,lkM,List.getD_cons_zero,List.getD_cons_succ,and_true,true_and] at F;have F:=ai F (tmz);refine gO3 ?_;exact kE hB (Zby.2 (by simp [lkS,lkM,gs,gm]))
 intro s' m' hB hP;refine ⟨_,_,hB.app (hP 10 (.inl (by decide)) (fun k h=>by simp [List.lookup] at h)),?_⟩;simp only [Taf,Tah,List.append_nil,List.getD_cons_zero,List.getD_cons_succ]
 /- gk end l9put -/
 refine ⟨_,Wk.refl _,?_⟩;have s5:((l.length:Int)<=(l.length:Int))=True:=eq_true om;have F:=aj10 @s1 @s3 @s4 @s5 @l1 @l3 @l6 @l7 @Zar @tmz;refine gG ?_;exact gTz [6]
theorem ZtJ (l:List Bd) (hn:l.length<=1000) (hb:∀ y∈l,Zan (Zab y.var)<=1048576∧Zan (Zab y.to)<=1048576):Con e0 35 [.one (.sl (Zaf l))] [.one (.sl (Zaf l))]:=by
 have bl:=ZaV l;have bg:=Zb4 l;have bb:=bds8 l;have l1:∀ l:List Bd,ZaI 8 (Zaf l)=true:=fun l=>bds8 l;have l3:=ZaV;refine gI (ts:=[.slot 2]) 541 Tryz.func35 ?_;refine fG (ai @bl @tmz) ?_;have F:=ai @Zgc @tmz;refine gL (ι:=Nat) [3,4,9] [3] (fun i=>[(4,A.d (.one (.lit (.int .i64 i)))),(3,.buf 3)]) (fun i=>[(3,.buf none 59 8 (Zaf (l.take i)))]) (fun i=>i<=l.length) (fun i=>l.length - i) (0) (Taj _) (fun i hi=>?_);clear F
 by_cases hlt:i < l.length;rotate_left
 ·obtain rfl:i=l.length:=by omega
  have q1:=lF l.length l.length;rw [Tap];have F:=aj3 @q1 @bl @tmz;refine gG ?_;exact gTz [2]
 obtain ⟨y,hy⟩:∃ y,l[i]?=some y:=⟨_,Taa hlt⟩;have hym:=Tac hy;have cV:=Zeh y.var (hb y hym).1;have cT:=Zeh y.to (hb y hym).2;have q1:=lT i l.length;have q2:((l.take i).length+1<=maxApp)=True:=eq_true (by rw [Taw];unfold maxApp;omega);have hwi:=Zat (k:=i) om;have hbd:Zab y.var++Zab y.to=ZaO y:=rfl;have h7:∀ (c0 c1 c2 c3:C),List.take 4 (Zab y.var++[c0,c1,c2,c3])++Zab y.to++List.drop 8 (Zab y.var++[c0,c1,c2,c3])=ZaO y:=fun c0 c1 c2 c3=>by
  obtain ⟨⟨o,n,s,a⟩,t⟩:=y;simp [Zab,ZaO]
 have l5:Zaf (l.take i)++[ZaO y]=Zaf (l.take (i+1)):=(Zkg l hy).symm;refine fN 5 (aj3 @q1 @bl @tmz) ?_;refine gB ?_;refine fC (aj7 @bl @bb @bg @hy @bdz @Zar @tmz) (cV) ?_;refine fC (aj7 @bl @bb @bg @hy @bdz @Zar @tmz) (cT) ?_;refine fR (aj7 @h7 @l1 @l3 @l5 @q2 @bdz @tmz) ?_;have F:=ai @hwi @tmz;refine gG ?_;exact ⟨i+1,hlt,gw,gw,om⟩
theorem Zfn {b l m:List Bd} (h:mapA g b l=some m):m.length=l.length:=by
 have:=congrArg List.length (ZeQ h).1;simpa using this
theorem ZeK (l:List Bd):(srtB l).length=l.length:=(ZcJ l).length_eq
theorem ZfU {a b:List Bd}:(Za0 a b).length<=b.length:=List.length_filter_le _ _
theorem ZyS {a b m:List Bd} (hm:mapA g b a=some m) {y:Bd} (h:y∈srtB (m++Za0 a b)):(∃ x∈a,y.var=x.var∧apT g b x.to=some y.to)∨y∈b:=by
 rcases Tbh.1 ((ZcJ _).mem_iff.1 h) with h | h
 ·obtain ⟨x,hx,e,hxe⟩:=(ZeQ hm).2 y h;exact .inl ⟨x,hx,e,hxe⟩
 ·exact .inr (List.mem_filter.1 h).1
theorem ZjK {a b m:List Bd} (hg:SgnOk g) (ha:SbsOk g a) (hb:SbsOk g b) (hm:mapA g b a=some m):∀ y∈m++Za0 a b,TermOk g y.var∧TermOk g y.to:=fun y hy=>by
 rcases ZyS hm ((ZcJ _).mem_iff.2 hy) with ⟨x,hx,e,hxe⟩ | h
 ·exact ⟨by rw [e];exact (ha.var x hx).term,Ze4 hg hb.to' _ _ (Tan _) (ha.to' x hx) hxe⟩
 ·exact ⟨(hb.var y h).term,hb.to' y h⟩
theorem ZpR {a b m:List Bd} (hg:SgnOk g) (ha:SbsOk g a) (hb:SbsOk g b) (hm:mapA g b a=some m):Zcr (m++Za0 a b):=fun y hy=>by
 obtain ⟨h1,h2⟩:=ZjK hg ha hb hm y hy;exact ⟨ZaH.ok hg _ _ (Tan _) h1.form,ZaH.ok hg _ _ (Tan _) h2.form⟩
theorem ZtK {l m:List Bd} (h:Zcr l) (hs:∀ y∈m,y∈l):Zcr m:=fun y hy=>h y (hs y hy)
theorem Zny {b l m:List Bd} {i:Nat} {y:Bd} (h:mapA g b (l.take i)=some m) (hy:l[i]?=some y):mapA g b (l.take (i+1))=(apT g b y.to).map fun t=>m++[⟨y.var,t⟩]:=by
 rw [List.take_add_one,hy,Option.toList,Zm8,h];rfl
theorem ZpS {a b:List Bd} (hok:ZbY g) (hla:Zcr a) (hba:(Zaf a).length+Zam (Zaf a)<=1048576) (hlb:Zcr b) (hbb:(Zaf b).length+Zam (Zaf b)<=1048576):Con e0 8 [.agg (Zak g),.one (.sl (Zaf a)),.one (.sl (Zaf b))] [.one (.sl (Zaf ((cmS g a b).getD []))),.one (.lit (.bool (cmS g a b).isSome))]:=by
 rw [ZaV] at hba hbb;have al:=ZaV a;have ag:=Zb4 a;have ab:=bds8 a;have bl:=ZaV b;have bg:=Zb4 b;have bb:=bds8 b;have cA:=Zhq hok hla (fun y hy=>ZbV (ZfS hba y hy).1) (fun y hy=>ZbV (ZfS hba y hy).2);have cB:=Zhq hok hlb (fun y hy=>ZbV (ZfS hbb y hy).1) (fun y hy=>ZbV (ZfS hbb y hy).2);have z1:(none:Option (List Bd)).getD []=[]:=rfl;have z2:(none:Option (List Bd)).isSome=false:=rfl;have z3:=Zgc;by_cases h:Zbn g=true∧Zbu g a=true∧Zbu g b=true
 rotate_left
 ·have e:cmS g a b=none:=by unfold cmS;rw [if_neg h]
  rw [e];rw [Zak] at cA cB ⊢;refine gI (ts:=[.slot 6,.slot 7]) 77372433119032171370143695 Tryz.func8 ?_;refine fN 1 @tmz ?_;refine gB ?_;refine fC @tmz (cA) ?_
  cases h1:(Zbn g && Zbu g a) with
  | false =>
   refine fR @tmz ?_;have F:=aj4 @z1 @z2 @z3 @tmz;refine gG ?_;exact gTz [6]
  | true =>
  have h2:(Zbn g && Zbu g b)=false:=by
   rw [Tar] at h1
   cases h3:Zbu g b with
   | false=>rw [Bool.and_false]
   | true=>exact absurd ⟨h1.1,h1.2,h3⟩ h
  rw [h2] at cB;refine fC @tmz (cB) ?_;refine fR @tmz ?_;have F:=aj4 @z1 @z2 @z3 @tmz;refine gG ?_;exact gTz [6]
 obtain ⟨h1,h2,h3⟩:=h;have hg:=ZcF.1 h1;have hA:=ZcZ.1 h2;have hB:=ZcZ.1 h3;have a8:=hA.len;have b8:=hB.len;have e:cmS g a b=(mapA g b a).bind fun m=>if Zbu g (srtB (m++Za0 a b))=true then some (srtB (m++Za0 a b)) else none:=by unfold cmS;rw [if_pos ⟨h1,h2,h3⟩]
 rw [h1,h2] at cA;rw [h1,h3] at cB;have cS:=fun l h=>Zhq (l:=l) hok h;have cP:=fun y (hy:y∈a)=>Zqz hok hg hB.w _ (Tan _) (hA.to' y hy);rw [Zak] at cA cB cS cP ⊢;refine gI (ts:=[.slot 6,.slot 7]) 77372433119032171370143695 Tryz.func8 ?_;refine fN 1 @tmz ?_;refine gB ?_;refine fC @tmz (cA) ?_;refine fC @tmz (cB) ?_;refine fR @tmz ?_;refine fG @tmz ?_;refine Zcc (Zd2 [8] (by simp only [pz,↓reduceIte,Nat.reduceEqDiff,Nat.reduceAdd,Nat.reduceSub,Nat.reduceMul,Nat.reduceLeDiff,Nat.reduceBEq,Tam,decide_true,decide_false,Int.reduceLE,Int.reduceToNat,Int.reduceLT,Int.reduceEq,eq_self,Nat.reduceShiftRight,Nat.reduceAnd,Nat.reduceBneDiff,tmz];exact rfl)) fun σ' hσ=>?_
 subst hσ;have F:=ai ((show Zaf (srtB [])=[] from rfl)) @tmz;refine gL (ι:=Nat × List Bd) [6,7,8,9,10,11,29,44] [] (fun x=>[(9,A.d (.one (.lit (.int .i64 x.1)))),(8,.d (.one (.sl (Zaf (srtB x.2)))))]) (fun x=>[]) (fun x=>x.1<=a.length∧mapA g b (a.take x.1)=some x.2) (fun x=>a.length - x.1) ((0,[])) (⟨Taj _,rfl⟩) (fun x hx=>?_);clear F;obtain ⟨i,m⟩:=x;obtain ⟨hi,hm⟩:=hx;simp only at hi hm;dsimp only
 have hml:=Zfn hm;rw [List.length_take_of_le hi] at hml;have hmo:Zcr (srtB m):=fun y hy=>by
  obtain ⟨x,hx,e1,e2⟩:=(ZeQ hm).2 y ((ZcJ m).mem_iff.1 hy);have hx':=List.mem_of_mem_take hx;exact ⟨by rw [e1];exact (hla x hx').1,ZaH.ok hg _ _ (Tan _) (Ze4 hg hB.to' _ _ (Tan _) (hA.to' x hx') e2).form⟩
 by_cases hil:i < a.length
 ·have q2:=lT i a.length;obtain ⟨y,hy⟩:∃ y,a[i]?=some y:=⟨_,Taa hil⟩;have hym:=Tac hy;have cP:=cP y hym;have hwi:=Zat (k:=i) om;have hmt:=Zny hm hy;refine fN 7 (aj3 @q2 @al @tmz) ?_;refine gLt 11 10 12 ?_;refine fC (aj7 @al @ab @ag @hy @bdz @Zar @tmz) (cP) ?_;refine fR @tmz ?_
  cases hu:apT g b y.to with
  | none =>
   have e2:cmS g a b=none:=by rw [e,Zi7 hym hu];rfl
   have z4:(none:Option Tm).isSome=false:=rfl;rw [e2];have F:=aj5 @z1 @z2 @z3 @z4 @tmz;refine gG ?_;exact gTz [6]
  | some t =>
   have z4:(some t).isSome=true:=rfl;rw [hu,Option.map_some] at hmt;have ht:=Ze4 hg hB.to' _ _ (Tan _) (hA.to' y hym) hu;have cQ:=Znx hmo (by rw [ZeK];omega) (y:=⟨y.var,t⟩) ⟨(hla y hym).1,ZaH.ok hg _ _ (Tan _) ht.form⟩;rw [<- Zm7] at cQ;rw [Zpt hu];refine fN 10 (ai @z4 @tmz) ?_;refine gB ?_;refine fC (aj7 @al @ab @ag @hy @bdz @Zar @tmz) (cQ) ?_;refine fR @tmz ?_;have F:=ai @hwi @tmz;refine gG ?_;exact ⟨(i+1,m++[⟨y.var,t⟩]),⟨hil,hmt⟩,gw,gw,om⟩
 obtain rfl:i=a.length:=by omega
 have q2:=lF a.length a.length;rw [Tap] at hm;clear hml hmo;have hall:=ZpR hg hA hB hm;have hr0:Za0 a []=[]:=rfl;have hln:(m++Za0 a b).length<=16:=by
  have h1:=Zfn hm;have h2:=ZfU (a:=a) (b:=b);rw [Tae];omega
 have hsub:∀ i,∀ y∈Za0 a (b.take i),y∈Za0 a b:=fun i y hy=>by
  unfold Za0 at hy ⊢;obtain ⟨h1,h2⟩:=List.mem_filter.1 hy;exact List.mem_filter.2 ⟨List.mem_of_mem_take h1,h2⟩
 refine fG (aj3 @q2 @al @tmz) ?_;have F:=ai @hr0 @tmz;refine gL (ι:=Nat) [8,12,14,56,70] [] (fun i=>[(12,A.d (.one (.lit (.int .i64 i)))),(8,.d (.one (.sl (Zaf (srtB (m++Za0 a (b.take i)))))))]) (fun i=>[]) (fun i=>i<=b.length) (fun i=>b.length - i) (0) (Taj _) (fun i hi=>?_);clear F
 have hmo:Zcr (srtB (m++Za0 a (b.take i))):=fun y hy=>hall y (by
  rcases Tbh.1 ((ZcJ _).mem_iff.1 hy) with h | h
  ·exact Tbh.2 (.inl h)
  ·exact Tbh.2 (.inr (hsub i y h)))
 by_cases hil:i < b.length
 ·have q2:=lT i b.length;obtain ⟨y,hy⟩:∃ y,b[i]?=some y:=⟨_,Taa hil⟩;have hym:=Tac hy;have cG:=Znk hla (hlb y hym).1 om;have hwi:=Zat (k:=i) om;have hrs:=ZlI (a:=a) hy;have hli:(m++Za0 a (b.take i)).length<=16:=by
   have h1:=Zfn hm;have h2:=ZfU (a:=a) (b:=b.take i);rw [Taw] at h2;rw [Tae];omega
  have cQ:=Znx hmo (by rw [ZeK];omega) (hlb y hym);rw [Zsq] at cG;refine fN 14 (aj3 @q2 @bl @tmz) ?_;refine gB ?_;refine fC (aj7 @bl @bb @bg @hy @bdz @Zar @tmz) (cG) ?_
  cases hin:inA a y.var with
  | true =>
   rw [hin,if_pos rfl] at hrs;rw [<- hrs] at hmo;refine fR @tmz ?_;refine fN 13 (ai @hrs @tmz) ?_;rw [<- hrs];have F:=ai @hwi @tmz;refine gG ?_;exact ⟨i+1,hil,gw,gw,om⟩
  | false =>
   rw [hin,if_neg (by simp)] at hrs;rw [<- Zm7,Tbf,<- hrs] at cQ;refine fR @tmz ?_;refine fN 16 @tmz ?_;refine gB ?_;refine fC (aj7 @bl @bb @bg @hy @bdz @Zar @tmz) (cQ) ?_;refine fR @tmz ?_;have F:=ai @hwi @tmz;refine gG ?_;exact ⟨i+1,hil,gw,gw,om⟩
 obtain rfl:i=b.length:=by omega
 have q2:=lF b.length b.length;rw [Tap] at hmo ⊢;have hto:∀ y∈srtB (m++Za0 a b),TermOk g y.var∧TermOk g y.to:=fun y hy=>ZjK hg hA hB hm y ((ZcJ _).mem_iff.1 hy);have hbl:∀ y∈srtB (m++Za0 a b),Zan (Zab y.var)<=1048576∧Zan (Zab y.to)<=1048576:=fun y hy=>⟨ZhM (hto y hy).1,ZhM (hto y hy).2⟩;have cF:=cS _ hmo (fun y hy=>ZbV (hbl y hy).1) (fun y hy=>ZbV (hbl y hy).2);have cY:=ZtJ (srtB (m++Za0 a b)) (by rw [ZeK];omega) hbl
 rw [hm] at e;rw [e,Option.bind_some];rw [h1,Bool.true_and] at cF;generalize srtB (m++Za0 a b)=out at *;refine fN 17 (aj3 @q2 @bl @tmz) ?_;refine gB ?_;refine fC @tmz (cF) ?_
 cases hf:Zbu g out with
 | false =>
  refine fR @tmz ?_;rw [if_neg (by simp)];have F:=aj4 @z1 @z2 @z3 @tmz;refine gG ?_;exact gTz [6]
 | true =>
  have z4:(some out).getD []=out:=rfl;have z5:(some out).isSome=true:=rfl;rw [if_pos rfl];refine fR @tmz ?_;refine fN 19 @tmz ?_;refine gB ?_;refine fC @tmz (cY) ?_;refine fR @tmz ?_;exact fD (aj3 @z4 @z5 @tmz)
end
theorem ZtL {ts:List Bd} {f:FuncId} {caps:List C} {P:Bd->Bool} (hl:ts.length<=big) (h:∀ a∈ts,Con e0 f (.agg (ZaO a)::caps.map .one) [.one (.lit (.bool (P a)))]) :
  ∃ r:Int,(0<=r ↔ ts.any P=true)∧Con e0 59 [.one (.sl (Zaf ts)),.one (.fn f caps)] [.one (.lit (.int .i64 r))]:=by
 unfold big at hl;have bl:=ZaV ts;have bg:=Zb4 ts;have bb:=bds8 ts;by_cases hA:ts.any P=true
 ·obtain ⟨k,hk,hbef⟩:∃ k:Nat,(∃ a,ts[k]?=some a∧P a=true)∧∀ (j:Nat) a,j < k->ts[j]?=some a->P a=false:=by
   have hex:∃ k:Nat,∃ a,ts[k]?=some a∧P a=true:=by
    obtain ⟨a,ha,hp⟩:=List.any_eq_true.1 hA;obtain ⟨k,hk⟩:=Tbk ha;exact ⟨k,a,hk,hp⟩
   obtain ⟨k,hk,hmin⟩:=ZBT hex;refine ⟨k,hk,fun j a hj ha=>?_⟩
   cases hp:P a with
   | false=>rfl
   | true=>exact absurd ⟨a,ha,hp⟩ (hmin j hj)
  obtain ⟨a0,ha0,hp0⟩:=hk;have hkl:=(Tad.1 ha0).1;refine ⟨(k:Int),⟨fun _=>hA,fun _=>om⟩,?_⟩;refine gI 66483 Tryz.func59 ?_;refine fG (aj6 @bl @bg @bb @bdz @Zar @tmz) ?_;have F:=@e0P;refine gL (ι:=Nat) [4,5,8,9,16] [] (fun i=>[(8,A.d (.one (.lit (.int .i64 i))))]) (fun i=>[]) (fun i=>i<=k) (fun i=>k+1 - i) (0) om (fun i hi=>?_);clear F;have hl':(i:Int) < (ts.length:Int):=om;obtain ⟨a,ha⟩:∃ a,ts[i]?=some a:=⟨_,Taa om⟩
  have hw1:=Zat (k:=i) om;refine fB (aj7 @bl @bg @bb @bdz @Zar @tmz @hl') ?_;refine fC (aj7 @bl @bg @bb @bdz @Zar @tmz @ha) (h a (Tac ha)) ?_;by_cases hik:i=k
  ·subst hik;rw [ha] at ha0;injection ha0 with ha0
   subst ha0;refine fR (aj7 @bl @bg @bb @bdz @Zar @tmz @hp0) ?_;exact fT (aj6 @bl @bg @bb @bdz @Zar @tmz)
  ·have hpf:=hbef i a om ha;refine fR (aj7 @bl @bg @bb @bdz @Zar @tmz @hpf) ?_;have F:=aj7 @hw1 @bl @bg @bb @bdz @Zar @tmz;refine gG ?_;exact ⟨i+1,om,gw,gw,om⟩
 ·have hbef:∀ (j:Nat) a,ts[j]?=some a->P a=false:=fun j a ha=>by
   cases hp:P a with
   | false=>rfl
   | true=>exact absurd (List.any_eq_true.2 ⟨a,Tac ha,hp⟩) hA
  refine ⟨-1,⟨fun h=>om,fun h=>absurd h hA⟩,?_⟩;refine gI 66483 Tryz.func59 ?_;refine fG (aj6 @bl @bg @bb @bdz @Zar @tmz) ?_;have F:=@e0P;refine gL (ι:=Nat) [4,5,8,9,16] [] (fun i=>[(8,A.d (.one (.lit (.int .i64 i))))]) (fun i=>[]) (fun i=>i<=ts.length) (fun i=>ts.length - i) (0) om (fun i hi=>?_);clear F;by_cases hi':i < ts.length;rotate_left
  ·have hl':¬ ((i:Int) < (ts.length:Int)):=om;exact fT (aj7 @bl @bg @bb @bdz @Zar @tmz @hl')
  have hl':(i:Int) < (ts.length:Int):=om;obtain ⟨a,ha⟩:∃ a,ts[i]?=some a:=⟨_,Taa om⟩;have hw1:=Zat (k:=i) om;have hpf:=hbef i a ha;refine fB (aj7 @bl @bg @bb @bdz @Zar @tmz @hl') ?_;refine fC (aj7 @bl @bg @bb @bdz @Zar @tmz @ha) (h a (Tac ha)) ?_;refine fR (aj7 @bl @bg @bb @bdz @Zar @tmz @hpf) ?_;have F:=aj7 @hw1 @bl @bg @bb @bdz @Zar @tmz;refine gG ?_;exact ⟨i+1,om,gw,gw,om⟩
theorem ZnQ {ts:List Bd} {f:FuncId} {caps:List C} {P:Bd->Bool} (hl:ts.length<=big) (h:∀ a∈ts,Con e0 f (.agg (ZaO a)::caps.map .one) [.one (.lit (.bool (P a)))]) :
  Con e0 24 [.one (.sl (Zaf ts)),.one (.fn f caps)] [.one (.lit (.bool (ts.any P)))]:=by
 obtain ⟨r,hr,c⟩:=ZtL hl h;refine gI 19 Tryz.func24 ?_;refine fB @tmz ?_;refine fC @tmz (c) ?_;have e:decide (0<=r)=ts.any P:=by
  rw [Bool.eq_iff_iff,decide_eq_true_iff];exact hr
 refine fR @tmz ?_;exact fT @e
theorem ZqH (y z:Bd):Con e0 25 [.agg (ZaO z),.one (.ptr (ZaO y))] [.one (.lit (.bool (decide (Zai y.var z.var=0))))]:=by
 have c:=ZoW y.var z.var;refine gI (ts:=[.slot 3]) 15 Tryz.func25 ?_;refine fN 1 (ai @bdz @tmz) ?_;refine gB ?_;refine fC (ai @bdz @tmz) (c) ?_;refine fR (ai @bdz @tmz) ?_;exact fD (ai @bdz @tmz)
theorem ZqI (y z:Bd):Con e1 28 [.agg (ZaO y),.agg (ZaO z)] [.one (.lit (.int .i64 (Zai y.var z.var)))]:=by
 have c:=ZeG y.var z.var;refine gI (ts:=[.slot 4]) 31 Tryz.func28 ?_;refine fN 1 (ai @bdz @tmz) ?_;refine gB ?_;refine fC (ai @bdz @tmz) (c) ?_;refine fR (ai @bdz @tmz) ?_;exact fD (ai @bdz @tmz)
noncomputable def unB (r:List C):Bd:=⟨unT (r.take 4),unT (r.drop 4)⟩
theorem ZsJ (b:Bd):unB (ZaO b)=b:=by unfold unB;rw [Zs9,Zta,Zsd,Zsd]
theorem ZA9 (l:List Bd):(Zaf l).map unB=l:=by
 unfold Zaf;rw [List.map_map]
 conv=>rhs;rw [<- List.map_id l]
 exact List.map_congr_left fun b _=>ZsJ b
theorem ZtM (bs:List Bd) (hd:Zei bs) (hl:bs.length<=4000000):ConI e0 27 59 8 (Zaf bs) [.one (.fn 28 [])] (Zaf (srtB bs)) []:=by
 have hrow:∀ a∈Zaf bs,a=ZaO (unB a):=fun a ha=>by
  obtain ⟨t,_,rfl⟩:=Tbi.1 ha;rw [ZsJ]
 exact ZA4 (Zxk (P:=Tryz.prog) rfl ZB3 (k:=8) (ty:=59) Tryz.isAgg59 Tryz.sizeOf59 (by kernel_rfl) (g:=28) (enters_of Tryz.func28 (by kernel_rfl) rfl) (rows:=Zaf bs) (rows':=Zaf (srtB bs)) (cf:=fun a b=>Zai (unB a).var (unB b).var) (by rw [ZaV];omega)
  (fun a ha b hb=>by
   have h:=ZqI (unB a) (unB b)
   rwa [<- hrow a ha,<- hrow b hb] at h)
  (fun a _=>by rw [Zef];omega) (fun a _ b _ c _ h1 h2=>Zfh h1 h2) (fun a _ b _ c _ h1 h2=>by
   rw [ZbP (unB b).var (unB a).var] at h1;rw [ZbP (unB c).var (unB b).var] at h2;rw [ZbP (unB c).var (unB a).var];have:=ZbU (a:=(unB c).var) (b:=(unB b).var) (c:=(unB a).var) om om;omega)
  (fun l hp hs=>by
   have hmem:∀ a∈l,a=ZaO (unB a):=fun a ha=>hrow a (hp.mem_iff.1 ha);have hp2:(l.map unB).Perm bs:=by have:=hp.map unB;rwa [ZA9] at this
   have hdl:Zei (l.map unB):=hp2.symm.pairwise hd (fun {x y} h q=>h (by rw [ZbP];omega));have hup:UpB (l.map unB):=by
    refine List.pairwise_iff_getElem.2 fun i j hi hj hij=>?_;have h0:=List.pairwise_iff_getElem.1 hdl i j hi hj hij;simp only [List.getElem_map] at h0 ⊢;simp only [Tay] at hi hj;have:=hs i j l[i] l[j] hij (Taa hi) (Taa hj);rw [ZbP (unB l[j]).var (unB l[i]).var];rw [ZbP] at h0;omega
   have e:=Zpg (ZAM hd) hup ((ZcJ bs).trans hp2.symm);rw [e];unfold Zaf;rw [List.map_map]
   conv=>lhs;rw [<- List.map_id l]
   exact List.map_congr_left fun a ha=>hmem a ha))
section
variable {g:Sgn}
theorem zRSF (a:Option Addr) (cap:Nat):Zcv (Zaf []) false [.one (.lit (.slice a 0 cap)),.one (.lit (.bool false))] [.set (fun b=>vblk (.slice a 0 cap)=some b∨False) (fun w=>Own w (.sl (Zaf [])) (fun b=>vblk (.slice a 0 cap)=some b∨False) (.slice a 0 cap))]:=⟨_,_,rfl,rfl,rfl⟩
theorem Zji (a:Option Addr) (cap:Nat) {ty:Nat}:Zd4 [.buf (some (a,cap)) ty 8 [],.set (fun _=>False) (fun w=>Zbo w [] (fun _=>False) [])] [.set (fun b=>vblk (.slice a 0 cap)=some b∨False) (fun w=>Own w (.sl (Zaf [])) (fun b=>vblk (.slice a 0 cap)=some b∨False) (.slice a 0 cap))] :=
 Zkz (uss:=[]) (rows:=[]) (E:=fun _=>False) (fun w h=>h) (Own.stable _ _ _)
theorem ZnR {a b:List Bd} (hok:ZbY g) (hla:Zcr a) (hba:(Zaf a).length+Zam (Zaf a)<=1048576) (hlb:Zcr b) (hbb:(Zaf b).length+Zam (Zaf b)<=1048576):ConP e0 7 [.agg (Zak g),.one (.sl (Zaf a)),.one (.sl (Zaf b))] [] (Zcv (Zaf ((cmS g a b).getD [])) (cmS g a b).isSome):=by
 rw [ZaV] at hba hbb;have al:=ZaV a;have ag:=Zb4 a;have ab:=bds8 a;have bl:=ZaV b;have bg:=Zb4 b;have bb:=bds8 b;have l1:∀ l:List Bd,ZaI 8 (Zaf l)=true:=fun l=>bds8 l;have l3:=ZaV;have hno:cmS g a b=none->Zcv (Zaf ((cmS g a b).getD [])) (cmS g a b).isSome=Zcv (Zaf []) false:=fun h=>by rw [h];rfl
 have hno1:¬ (Zbn g=true∧Zbu g a=true∧Zbu g b=true)->cmS g a b=none:=fun h=>by unfold cmS;rw [if_neg h]
 by_cases hs:Zbn g=true;rotate_left
 ·have cN:=Zfg hok (fun h=>hs (Zde h));rw [hno (hno1 fun h=>hs h.1)];rw [Zak] at cN ⊢;refine gIP (ts:=[.slot 6,.slot 7]) [] 2419066823000809537632207 Tryz.func7 ?_;refine fN 1 @tmz ?_;refine gB ?_;refine fC @tmz (cN) ?_;refine fR @tmz ?_;refine fG @tmz ?_;refine pS 6 fun a1 c1=>?_;refine pE [] [1001] Zfj ?_;refine pE [6,1001] [1002] (Zji a1 c1) ?_;exact (have F:=tmz;gTP (R:=Zcv (Zaf []) false) [1002] (zRSF a1 c1))
 have hg:=ZcF.1 hs;have cN:=Zhp hok hg;rw [Zak] at cN ⊢;refine gIP (ts:=[.slot 6,.slot 7]) [] 2419066823000809537632207 Tryz.func7 ?_;refine fN 1 @tmz ?_;refine gB ?_;have F:=@tmz;refine gCP [] [1000] (cN) ?_;clear F;rintro r pm ⟨bm,rfl,rfl⟩;simp only [setA,retA,zipM,Taf,Tah];refine fR @tmz ?_;refine pM g bm 1000 ?_;have cA:=ZfR (b:=bm) hg hla (fun y hy=>ZbV (ZfS hba y hy).2);have cB:=ZfR (b:=bm) hg hlb (fun y hy=>ZbV (ZfS hbb y hy).2)
 refine fN 2 @tmM ?_;refine gB ?_;refine fC @tmM (cA) ?_
 cases h2:Zbu g a with
 | false =>
  rw [hno (hno1 fun h=>by rw [h2] at h;cases h.2.1)];refine fR @tmM ?_;refine fG @tmM ?_;refine pS 6 fun a1 c1=>?_;refine pE [] [1001] Zfj ?_;refine pE [6,1001] [1002] (Zji a1 c1) ?_;exact (have F:=tmM;gTP (R:=Zcv (Zaf []) false) [1002] (zRSF a1 c1))
 | true =>
 refine fC @tmM (cB) ?_
 cases h3:Zbu g b with
 | false =>
  rw [hno (hno1 fun h=>by rw [h3] at h;cases h.2.2)];refine fR @tmM ?_;refine fG @tmM ?_;refine pS 6 fun a1 c1=>?_;refine pE [] [1001] Zfj ?_;refine pE [6,1001] [1002] (Zji a1 c1) ?_;exact (have F:=tmM;gTP (R:=Zcv (Zaf []) false) [1002] (zRSF a1 c1))
 | true =>
 have hA:=ZcZ.1 h2;have hB:=ZcZ.1 h3;have a8:=hA.len;have b8:=hB.len;have e:cmS g a b=(mapA g b a).bind fun m=>if Zbu g (srtB (m++Za0 a b))=true then some (srtB (m++Za0 a b)) else none:=by unfold cmS;rw [if_pos ⟨hs,h2,h3⟩]
 have cP:=fun y (hy:y∈a)=>(Znl (mc:=.lit (.map (some bm))) hg hB.w _ (Tan _) (hA.to' y hy)).m (g:=g) (b:=bm);refine fR @tmM ?_;refine fG (ai @al @tmM) ?_;have F:=aj3 @Zgc @al @tmM;refine gL (ι:=Nat × List Bd) [6,7,10,12,13,14,39,40,52] [10] (fun x=>[(39,A.d (.one (.lit (.int .i64 x.1)))),(10,.buf 10)]) (fun x=>[(10,.buf none 59 8 (Zaf x.2))]) (fun x=>x.1<=a.length∧mapA g b (a.take x.1)=some x.2) (fun x=>a.length - x.1) ((0,[])) (⟨Taj _,rfl⟩) (fun x hx=>?_);clear F
 obtain ⟨i,m⟩:=x;obtain ⟨hi,hm⟩:=hx;simp only at hi hm;dsimp only;have hml:=Zfn hm;rw [List.length_take_of_le hi] at hml;by_cases hil:i < a.length
 ·have q2:=lT i a.length;obtain ⟨y,hy⟩:∃ y,a[i]?=some y:=⟨_,Taa hil⟩;have hym:=Tac hy;have cP:=cP y hym;have hwi:=Zat (k:=i) om;have hmt:=Zny hm hy;refine fN 8 (aj8 @q2 @al @ab @ag @hy @bdz @Zar @tmM) ?_;refine gB ?_;refine fC (ai @bdz @tmM) (cP) ?_;refine fR @tmM ?_
  cases hu:apT g b y.to with
  | none =>
   have z4:(none:Option Tm).isSome=false:=rfl;rw [hno (by rw [e,Zi7 hym hu];rfl)];refine fG (ai @z4 @tmM) ?_;refine pS 6 fun a1 c1=>?_;refine pE [] [1001] Zfj ?_;refine pE [6,1001] [1002] (Zji a1 c1) ?_;exact (have F:=tmM;gTP (R:=Zcv (Zaf []) false) [1002] (zRSF a1 c1))
  | some t =>
   have z4:(some t).isSome=true:=rfl;have z5:(some t).getD zTm=t:=rfl;rw [hu,Option.map_some] at hmt;have hmx:(m.length+1<=maxApp)=True:=eq_true (by unfold maxApp;omega);have h7:∀ (c0 c1 c2 c3:C),List.take 4 (Zab y.var++[c0,c1,c2,c3])++Zab t++List.drop 8 (Zab y.var++[c0,c1,c2,c3])=ZaO ⟨y.var,t⟩:=fun c0 c1 c2 c3=>by
    obtain ⟨⟨o,n,s,a⟩,t'⟩:=y;simp [Zab,ZaO]
   have ns:Zaf m++[ZaO ⟨y.var,t⟩]=Zaf (m++[⟨y.var,t⟩]):=by simp [Zaf]
   refine fN 11 (aj3 @z4 @z5 @tmM) ?_;refine gB ?_;refine fR (aj8 @h7 @l1 @l3 @ns @hmx @z5 @bdz @tmM) ?_;have F:=ai @hwi @tmM;refine gG ?_;exact ⟨(i+1,m++[⟨y.var,t⟩]),⟨hil,hmt⟩,gw,gw,om⟩
 obtain rfl:i=a.length:=by omega
 have q2:=lF a.length a.length;rw [Tap] at hm;clear hml;have hall:=ZpR hg hA hB hm;have hr0:Za0 a []=[]:=rfl;have hm8:=Zfn hm;refine fG (aj4 @q2 @al @bl @tmM) ?_;have F:=aj3 @hr0 @bl @tmM;refine gL (ι:=Nat) [10,16,63,64,70] [10] (fun i=>[(63,A.d (.one (.lit (.int .i64 i)))),(10,.buf 10)]) (fun i=>[(10,.buf none 59 8 (Zaf (m++Za0 a (b.take i))))]) (fun i=>i<=b.length) (fun i=>b.length - i) (0) (Taj _) (fun i hi=>?_);clear F
 by_cases hil:i < b.length
 ·have q2:=lT i b.length;obtain ⟨y,hy⟩:∃ y,b[i]?=some y:=⟨_,Taa hil⟩;have hym:=Tac hy;have hwi:=Zat (k:=i) om;have hrs:=ZlI (a:=a) hy;have hli:(m++Za0 a (b.take i)).length<=16:=by
   have h2:=ZfU (a:=a) (b:=b.take i);rw [Taw] at h2;rw [Tae];omega
  have cG:=(ZnQ (ts:=a) (P:=fun z=>decide (Zai y.var z.var=0)) (f:=25) (caps:=[.ptr (ZaO y)]) (by unfold big;omega) (fun z _=>ZqH y z)).m (g:=g) (b:=bm);have hia:(a.any fun z=>decide (Zai y.var z.var=0))=inA a y.var:=rfl;rw [hia] at cG;have hmx:((m++Za0 a (b.take i)).length+1<=maxApp)=True:=eq_true (by unfold maxApp;omega);refine fN 16 (aj8 @q2 @bl @bb @bg @hy @bdz @Zar @tmM) ?_;refine gB ?_;refine fC (ai @bdz @tmM) (cG) ?_
  cases hin:inA a y.var with
  | true =>
   rw [hin,if_pos rfl] at hrs;refine fR @tmM ?_;refine fN 18 @tmM ?_;rw [<- hrs];have F:=ai @hwi @tmM;refine gG ?_;exact ⟨i+1,hil,gw,gw,om⟩
  | false =>
   rw [hin,if_neg (by simp)] at hrs;have ns:Zaf (m++Za0 a (b.take i))++[ZaO y]=Zaf (m++Za0 a (b.take (i+1))):=by rw [hrs];simp [Zaf]
   generalize m++Za0 a (b.take i)=mi at *;refine fR @tmM ?_;refine fN 17 @tmM ?_;refine gB ?_;refine fR (aj6 @l1 @l3 @ns @hmx @bdz @tmM) ?_;have F:=ai @hwi @tmM;refine gG ?_;exact ⟨i+1,hil,gw,gw,om⟩
 obtain rfl:i=b.length:=by omega
 have q2:=lF b.length b.length;rw [Tap];have hln:(m++Za0 a b).length<=16:=by
  have h2:=ZfU (a:=a) (b:=b);rw [Tae];omega
 have hto:∀ y∈srtB (m++Za0 a b),TermOk g y.var∧TermOk g y.to:=fun y hy=>ZjK hg hA hB hm y ((ZcJ _).mem_iff.1 hy);have hbl:∀ y∈srtB (m++Za0 a b),Zan (Zab y.var)<=1048576∧Zan (Zab y.to)<=1048576:=fun y hy=>⟨ZhM (hto y hy).1,ZhM (hto y hy).2⟩;have cI:=(ZtM (m++Za0 a b) (Zm9 hA.up.dist hB.up.dist (ZeQ hm).1) om).m (g:=g) (b:=bm);have hrl:(Zaf (srtB (m++Za0 a b))).length=(Zaf (m++Za0 a b)).length:=by rw [ZaV,ZaV,ZeK]
 have hob:Zcr (srtB (m++Za0 a b)):=ZtK hall fun y hy=>(ZcJ _).mem_iff.1 hy;have cF:=ZfR (b:=bm) hg hob (fun y hy=>ZbV (hbl y hy).2);have cY:=(ZpQ (srtB (m++Za0 a b)) (by rw [ZeK];omega) hbl).m (g:=g) (b:=bm);rw [hm,Option.bind_some] at e;generalize srtB (m++Za0 a b)=out at *;refine fN 19 (aj3 @q2 @bl @tmM) ?_;refine gB ?_;have F:=@tmM;refine gCI (cI) (hrl) ?_;clear F;refine fR @tmM ?_;refine fN 20 @tmM ?_
 refine gB ?_;refine fC @tmM (cF) ?_
 cases hf:Zbu g out with
 | false =>
  rw [hno (by rw [e,hf,if_neg (by simp)])];refine fR @tmM ?_;refine fG @tmM ?_;refine pS 6 fun a1 c1=>?_;refine pE [] [1001] Zfj ?_;refine pE [6,1001] [1002] (Zji a1 c1) ?_;exact (have F:=tmM;gTP (R:=Zcv (Zaf []) false) [1002] (zRSF a1 c1))
 | true =>
  have e2:cmS g a b=some out:=by rw [e,hf,if_pos rfl]
  have hR:Zcv (Zaf ((cmS g a b).getD [])) (cmS g a b).isSome=Zcv (Zaf out) true:=by rw [e2];rfl
  rw [hR];refine fR @tmM ?_;refine fN 22 @tmM ?_;refine gB ?_;have F:=@tmM;refine gCP [] [1001] (cY) ?_;clear F;rintro r pm ⟨v,E2,rfl,hk,rfl⟩;simp only [setA,retA,zipM,Taf,Tah];refine fR (ai @tmM @hk) ?_;refine fG @tmM ?_;exact (have F:=tmM;gTP (R:=Zcv (Zaf out) true) [1001] ⟨v,E2,rfl,hk,rfl⟩)
theorem ZBa {a b:List Bd}:cmS g a b=none∨∃ m,mapA g b a=some m∧SgnOk g∧SbsOk g a∧SbsOk g b∧cmS g a b=some (srtB (m++Za0 a b)):=by
 unfold cmS;split
 ·next h =>
  cases hm:mapA g b a with
  | none=>exact .inl rfl
  | some m =>
   rw [Option.bind_some];split
   ·exact .inr ⟨m,rfl,ZcF.1 h.1,ZcZ.1 h.2.1,ZcZ.1 h.2.2,rfl⟩
   ·exact .inl rfl
 ·exact .inl rfl
theorem Zkh {k:Nat}:∀ {l:List Bd},(∀ y∈l,Zan (ZaO y)<=k)->Zam (Zaf l)<=l.length * k
 | [],_=>by simp [Zaf,Zam]
 | y::l,h=>by
  have h1:=h y Tas;have h2:=Zkh (l:=l) fun z hz=>h z (Tal _ hz);have e:Zam (Zaf (y::l))=Zan (ZaO y)+Zam (Zaf l):=rfl;rw [e,Tag,Nat.add_mul];omega
theorem ZBJ {a b:List Bd}:(Zaf ((cmS g a b).getD [])).length+Zam (Zaf ((cmS g a b).getD []))<=1048576:=by
 rcases ZBa (g:=g) (a:=a) (b:=b) with h | ⟨m,hm,hg,hA,hB,h⟩
 ·rw [h];simp [Zaf,Zam]
 ·rw [h,Option.getD_some,ZaV,ZeK];have h1:=Zfn hm;have h2:=ZfU (a:=a) (b:=b);have h3:=hA.len;have h4:=hB.len;have hln:(m++Za0 a b).length<=16:=by rw [Tae];omega
  have h5:=Zkh (k:=2000) (l:=srtB (m++Za0 a b)) fun y hy=>by
   obtain ⟨q1,q2⟩:=ZjK hg hA hB hm y ((ZcJ _).mem_iff.1 hy);have e:Zan (ZaO y)=Zan (Zab y.var)+Zan (Zab y.to):=Zpb _ _;have r1:=ZdA q1.form;have r2:=ZdA q2.form;have:=q1.size;have:=q2.size;omega
  rw [ZeK] at h5;have h6:(m++Za0 a b).length * 2000<=16 * 2000:=Nat.mul_le_mul_right _ hln;omega
end
section
variable {g:Sgn} {l:List Bd}
theorem zRF:Zd9 (Zab zTm) false [.agg [.lit (.int .i64 0),.lit (.string ByteArray.empty),.lit (.int .i64 0),.lit (.slice none 0 0)],.one (.lit (.bool false))] [.set (fun _=>False) (fun w=>Zal w (Zab zTm) (fun _=>False) [.int .i64 0,.string ByteArray.empty,.int .i64 0,.slice none 0 0])]:=⟨[.int .i64 0,.string ByteArray.empty,.int .i64 0,.slice none 0 0],_,rfl,by rw [ZeC];rfl,rfl,rfl⟩
theorem ZyT:Zan (Zab zTm)<=1048576:=by rw [ZeC];simp [Zan,Zdm,Zam]
theorem ZBb {t:Tm}:Zan (Zab ((aS g l t).getD zTm))<=1048576:=by
 cases h:aS g l t with
 | none=>exact ZyT
 | some u=>exact ZhM (Zn9 h)
theorem Zmw {t:Tm} (hok:ZbY g) (hl:Zcr l) (hb:(Zaf l).length+Zam (Zaf l)<=1048576) (ht:okTm t) (htb:Zan (Zab t)<=1048576):ConP e0 10 [.agg (Zak g),.one (.sl (Zaf l)),.agg (Zab t)] [] (Zd9 (Zab ((aS g l t).getD zTm)) (aS g l t).isSome):=by
 rw [ZaV] at hb;have hno:¬ (Zbn g=true∧Zbu g l=true∧ZbO g t=true)->Zd9 (Zab ((aS g l t).getD zTm)) (aS g l t).isSome=Zd9 (Zab zTm) false:=fun h=>by unfold aS;rw [if_neg h];rfl
 by_cases hs:Zbn g=true;rotate_left
 ·have cN:=Zfg hok (fun h=>hs (Zde h));rw [hno fun h=>hs h.1];rw [Zak] at cN ⊢;refine gIP (ts:=[.cell 6 36,.slot 7]) [] 536872943 Tryz.func10 ?_;refine fN 1 @tmz ?_;refine gB ?_;refine fC @tmz (cN) ?_;refine fR @tmz ?_;refine fN 3 @tmz ?_;refine gB ?_;refine (have F:=tmz;gX ?_);refine fR @tmz ?_;refine fG @tmz ?_;refine pE [] [1001] Zo9 ?_;exact (have F:=tmz;gTP (R:=Zd9 (Zab zTm) false) [1001] zRF)
 have hg:=ZcF.1 hs;have cN:=Zhp hok hg;rw [Zak] at cN ⊢;refine gIP (ts:=[.cell 6 36,.slot 7]) [] 536872943 Tryz.func10 ?_;refine fN 1 @tmz ?_;refine gB ?_;have F:=@tmz;refine gCP [] [1000] (cN) ?_;clear F;rintro r pm ⟨b,rfl,rfl⟩;simp only [setA,retA,zipM,Taf,Tah];refine fR @tmz ?_;refine pM g b 1000 ?_;have cX:=(Zj2 (mc:=.lit (.map (some b))) hg ht (ZbV htb)).m (g:=g) (b:=b);have cS:=ZfR (b:=b) hg hl (fun y hy=>ZbV (ZfS hb y hy).2)
 have zz:∀ {X:Prop},X->X:=fun h=>h;refine fN 2 @tmM ?_;refine gB ?_;refine fC @tmM (cS) ?_
 cases h3:Zbu g l with
 | false =>
  rw [hno fun h=>by rw [h3] at h;cases h.2.1];refine fR @tmM ?_;refine fN 3 @tmM ?_;refine gB ?_;refine (have F:=tmM;gXm ?_);refine fR @tmM ?_;refine fG @tmM ?_;refine pE [] [1001] Zo9 ?_;exact (have F:=tmM;gTP (R:=Zd9 (Zab zTm) false) [1001] zRF)
 | true =>
 refine fC @tmM (cX) ?_
 cases h1:ZbO g t with
 | false =>
  rw [hno fun h=>by rw [h1] at h;cases h.2.2];refine fR @tmM ?_;refine fN 3 @tmM ?_;refine gB ?_;refine (have F:=tmM;gXm ?_);refine fR @tmM ?_;refine fG @tmM ?_;refine pE [] [1001] Zo9 ?_;exact (have F:=tmM;gTP (R:=Zd9 (Zab zTm) false) [1001] zRF)
 | true =>
 have hS:=ZcZ.1 h3;have ex:aS g l t=apT g l t:=by unfold aS;rw [if_pos ⟨hs,h3,h1⟩]
 have aX:=(Znl (mc:=.lit (.map (some b))) hg hS.w _ (Tan _) (ZcS.1 h1)).m (g:=g) (b:=b);rw [<- ex] at aX;have hcp:=(ZgJ _ (ZBb (g:=g) (l:=l) (t:=t))).m (g:=g) (b:=b);generalize aS g l t=px at aX hcp ⊢;refine fR @tmM ?_;refine fN 4 @tmM ?_;refine gB ?_;refine fC @tmM (aX) ?_;refine fR @tmM ?_;refine fN 5 @tmM ?_;refine gB ?_;have F:=@tmM;refine gCP [] [1001] (hcp) ?_;clear F;rintro r pm ⟨us,E2,rfl,hu',hok,rfl⟩
 have hu'':=hu';rw [Za1] at hu';obtain ⟨u0,u1,u2,u3,rfl⟩:=len4 hu';obtain ⟨k0,k1,k2,k3⟩:=okc4 hok;simp only [Zfk,setA,retA,zipM,Taf,Tah];refine fR (aj5 @tmM @k0 @k1 @k2 @k3) ?_;refine fG @tmM ?_;exact (have F:=tmM;gTP (R:=Zd9 (Zab (px.getD zTm)) px.isSome) [1001] ⟨[u0,u1,u2,u3],E2,rfl,hu'',hok,rfl⟩)
end
theorem ZtN {e:Env} {f:FuncId} {args:List D} {rows:List (List C)} {b:Bool} (h:ConP e f args [] (Zcv rows b)):Con e f args [.one (.sl rows),.one (.lit (.bool b))]:=by
 refine ⟨h.1,fun w S vs hS hE hG hv=>(h.2 w S vs hS hE hG (fun x hx=>by cases hx) trivial hv).mono ?_⟩;rintro en w' ⟨v,r,pm',h1,⟨v0,E,rfl,hok,rfl⟩,h3,h4,h5,h6,h7⟩;obtain ⟨⟨q1,q2,q3⟩,p2⟩:=h5 _ Tas;obtain ⟨vs',hvs,hd⟩:=h7
 match vs',hd with
 | [u0,u1],⟨h0,hb,_⟩ =>
  have e1:u0=v0:=h0;subst e1;refine ⟨v,h1,h3.noPin,h4,[u0,u1],hvs,?_,hb,trivial⟩;exact Rep.mono (Own.rep _ _ _ q2) fun g hg=>.inr ⟨(p2 g hg).elim (fun ⟨x,hx,_⟩=>by cases hx) id,(q1 g hg).1⟩
section
variable {g:Sgn} {l:List Bd}
theorem ZqJ (hok:ZbY g) (hl:Zcr l) (hb:l.length+Zam (Zaf l)<=1048576):Con e0 11 [.agg (Zak g),.one (.sl (Zaf l))] [.one (.lit (.bool (Zbn g && Zbu g l)))]:=by
 by_cases hs:Zbn g=true;rotate_left
 ·have cN:=Zfg hok (fun h=>hs (Zde h));have hf:(Zbn g && Zbu g l)=false:=by rw [Bool.eq_false_iff.2 hs];rfl
  rw [hf];rw [Zak] at cN ⊢;refine gI (ts:=[.slot 4]) 119 Tryz.func11 ?_;refine fN 1 @tmz ?_;refine gB ?_;refine fC @tmz (cN) ?_;refine fR @tmz ?_;exact fD @tmz
 have hg:=ZcF.1 hs;have cN:=Zhp hok hg;rw [hs,Bool.true_and];rw [Zak] at cN ⊢;refine gI (ts:=[.slot 4]) 119 Tryz.func11 ?_;refine fN 1 @tmz ?_;refine gB ?_;have F:=@tmz;refine gCP [] [1000] (cN) ?_;clear F;rintro r pm ⟨b,rfl,rfl⟩;simp only [setA,retA,zipM,Taf,Tah];refine fR @tmz ?_;refine pM g b 1000 ?_;have cS:=ZfR (b:=b) hg hl (fun y hy=>ZbV (ZfS hb y hy).2);refine fN 2 @tmM ?_;refine gB ?_;refine fC @tmM (cS) ?_
 refine fR @tmM ?_;exact fD @tmM
theorem ZBc (hg:SgnOk g) (h:SbsOk g l):Zcr l:=fun y hy=>⟨(h.var y hy).term.ok hg,(h.to' y hy).ok hg⟩
end
theorem Zil {g:Sgn} {t:Tm} (hg:SgnOk g) (h:TermOk g t):okTm t∧Zan (Zab t)<=1048576∧sizeTm t<=60:=by
 have h1:=ZdA h.form;have h2:=h.size;exact ⟨h.ok hg,om,h2⟩
theorem Zjj:∀ (a b:List C),Zan (a++b)=Zan a+Zan b
 | [],b=>by simp [Zan]
 | x::a,b=>by simp only [Taf,Zan,Zjj a b];omega
theorem Znz {g:Sgn} {l:List Bd} (hg:SgnOk g) (hl:Zik g 61 l):Zcr l∧l.length+Zam (Zaf l)<=1048576:=by
 refine ⟨fun y hy=>⟨(hl.2 y hy).vo,(hl.2 y hy).to.ok hg⟩,?_⟩;have hk:∀ l:List Bd,(∀ y∈l,BdDr g y)->Zam (Zaf l)<=l.length * 800:=fun l=>by
  induction l with
  | nil=>intro _;simp [Zaf,Zam]
  | cons y l ih =>
   intro h;have h1:=ih fun z hz=>h z (Tal _ hz);have h2:=h y Tas;have h3:=ZdA h2.to.form;have h4:=h2.to.size;have h5:=h2.vb;have h6:Zan (ZaO y)=Zan (Zab y.var)+Zan (Zab y.to):=Zjj _ _;simp only [Zaf,Tbu,Zam,Tag] at h1 ⊢;omega
 have h1:=hk l hl.2;have h2:=hl.1;omega
section
variable {x:Src}
theorem ZqK {a b:Tm} (ha:okTm a) (hb:okTm b):Con e0 12 [.agg (Zab a),.agg (Zab b)] [.one (.lit (.bool (decide (Zai a b=0))))]:=by
 have cC:=Zdl ha hb;refine gI (ts:=[.slot 4]) 31 Tryz.func12 ?_;refine fN 1 @tmz ?_;refine gB ?_;refine fC @tmz (cC) ?_;refine fR @tmz ?_;exact fD @tmz
theorem ZqL (hx0:x.n<=1048576->x.Ok) (he:(eB x).Ok) (hc:x.n<=x.cap):Con (eB x) 3 [ZjG x] [.one (.lit (.bool true))]:=by
 have cBig:=ZA8 he;refine gI (ts:=[.slot 2]) 36169534508104637 Tryz.func3 ?_;refine fN 1 @tmB ?_;refine gB ?_;refine fC @tmB (cBig) ?_;by_cases hn:x.n > 1048576
 ·have q1:decide (x.n > 1048576)=true:=decide_eq_true hn;refine fR (ai @q1 @tmB) ?_;exact fD @tmB
 have q1:decide (x.n > 1048576)=false:=decide_eq_false hn;refine fR (ai @q1 @tmB) ?_;have hx:=hx0 om;clear q1 cBig hx0;refine fN 3 @tmB ?_;refine gB ?_;have F:=@tmB;refine gCE (ZnP hx) ?_;clear F;rintro r ⟨g,l,m,hg,hl,hm,rfl⟩;have hd:=ZsI hg;have hE:∀ g:Sgn,Zak g=[.sl (g.sorts.names.map ZbR),.sl (g.sorts.subs.map ZbS),.sl (g.ops.map Zax)]:=fun g=>by rw [Zak]
 refine fR (ai @hE @tmB) ?_;refine fN 4 @tmB ?_;refine gB ?_;have F:=@tmB;refine gCE (ZnM hx) ?_;clear F;rintro r ⟨g2,t,htb,rfl⟩;have hEg:=hE g2;refine fR (ai @hEg @tmB) ?_;obtain ⟨hlo,hlb⟩:=Znz hd.sg hl;obtain ⟨hmo,hmb⟩:=Znz hd.sg hm;have hlb':(Zaf l).length+Zam (Zaf l)<=1048576:=by rw [ZaV];exact hlb
 have hmb':(Zaf m).length+Zam (Zaf m)<=1048576:=by rw [ZaV];exact hmb
 have htb2:Zan (Zab t)<=1048576:=Tbe htb.2 (by decide);have hz:TermOk g zTm:=hd.hz;have cCi:=(ZtN (ZnR (g:=g) hd.ok hlo hlb' hmo hmb')).bt hx;have cCs:=(ZpS (g:=g) hd.ok hlo hlb' hmo hmb').bt hx;have cT:=(Zfi (g:=g) hd.ok htb.1 (ZbV htb2)).bt hx;have cA:∀ {l:List Bd} {a:Tm},Zcr l->(Zaf l).length+Zam (Zaf l)<=1048576->okTm a->Zan (Zab a)<=1048576->Con (eB x) 10 [.agg (Zak g),.one (.sl (Zaf l)),.agg (Zab a)] [.agg (Zab ((aS g l a).getD zTm)),.one (.lit (.bool (aS g l a).isSome))]:=fun h1 h2 h3 h4=>(Zxx (Zmw hd.ok h1 h2 h3 h4)).bt hx
 have cI:∀ {l:List Bd},Zcr l->l.length+Zam (Zaf l)<=1048576->Con (eB x) 11 [.agg (Zak g),.one (.sl (Zaf l))] [.one (.lit (.bool (Zbn g && Zbu g l)))]:=fun h1 h2=>(ZqJ hd.ok h1 h2).bt hx;have cS:∀ {p q:Tm},okTm p->okTm q->Con (eB x) 12 [.agg (Zab p),.agg (Zab q)] [.one (.lit (.bool (decide (Zai p q=0))))]:=fun h1 h2=>(ZqK h1 h2).bt hx;have hcb:=ZBJ (g:=g) (a:=l) (b:=m);rw [Zde hd.sg,Bool.true_and] at cT
 simp only [Zde hd.sg,Bool.true_and] at cI;simp only [hE] at cCi cCs cT cA cI;clear hEg hE;refine fN 5 @tmB ?_;refine gB ?_;refine fC @tmB (cCi) ?_;refine fR @tmB ?_;refine fN 6 @tmB ?_;refine gB ?_;refine fC @tmB (cCs) ?_;refine fR @tmB ?_;clear cCi cCs
 cases hcm:cmS g l m with
 | none =>
  have z2:(none:Option (List Bd)).isSome=false:=rfl;rw [z2];exact fD @tmB
 | some c =>
 have z1:(some c).isSome=true:=rfl;have z2:(some c).getD []=c:=rfl;rw [hcm,z2] at hcb;rw [z1,z2];have hcs:=ZyE hcm;have hco:=ZBc hd.sg (ZcZ.1 hcs);have hcb2:c.length+Zam (Zaf c)<=1048576:=by rw [ZaV] at hcb;exact hcb
 have cIc:=cI hco hcb2;rw [hcs] at cIc;clear z1 z2 cI;refine fN 9 @tmB ?_;refine gB ?_
 cases hT:ZbO g t with
 | false =>
  rw [hT] at cT;refine fC @tmB (cT) ?_;refine fR @tmB ?_;exact fD @tmB
 | true =>
 rw [hT] at cT;refine fC @tmB (cT) ?_;refine fR @tmB ?_;clear cT;have hG1:∀ (l:List Bd) a,TermOk g ((aS g l a).getD zTm):=fun l a=>by
  cases q:aS g l a with
  | none=>exact hz
  | some v=>exact Zn9 q
 have f1:=Zil hd.sg (hG1 l t);refine fN 11 @tmB ?_;refine gB ?_;refine fC @tmB (cA hlo hlb' htb.1 htb2) ?_;refine fR @tmB ?_;refine fN 12 @tmB ?_;refine gB ?_;refine fC @tmB (cA hmo hmb' f1.1 f1.2.1) ?_;refine fR @tmB ?_;refine fN 13 @tmB ?_;refine gB ?_;refine fC @tmB (cA hco hcb htb.1 htb2) ?_;refine fR @tmB ?_;clear cA;refine fN 14 @tmB ?_;refine gB ?_;refine fC @tmB (cIc) ?_
 cases hu1:aS g l t with
 | none =>
  have z:(none:Option Tm).isSome=false:=rfl;rw [z];refine fR @tmB ?_;exact fD @tmB
 | some v1 =>
 have z1:(some v1).isSome=true:=rfl;have z3:(some v1).getD zTm=v1:=rfl;rw [z1,z3]
 cases hu2:aS g m v1 with
 | none =>
  have z:(none:Option Tm).isSome=false:=rfl;rw [z];refine fR @tmB ?_;exact fD @tmB
 | some v2 =>
 have z2:(some v2).isSome=true:=rfl;have z4:(some v2).getD zTm=v2:=rfl;rw [z2,z4]
 cases hu3:aS g c t with
 | none =>
  have z:(none:Option Tm).isSome=false:=rfl;rw [z];refine fR @tmB ?_;exact fD @tmB
 | some v3 =>
  have z5:(some v3).isSome=true:=rfl;have z6:(some v3).getD zTm=v3:=rfl;rw [z5,z6];have e23:=ZyD hcm hu1 hu2 hu3;have f2:=Zil hd.sg (Zn9 hu2);have f3:=Zil hd.sg (Zn9 hu3);have qd:decide (Zai v2 v3=0)=true:=decide_eq_true (Zdz.2 e23);have cSs:=cS f2.1 f3.1;rw [qd] at cSs;refine fC @tmB (cSs) ?_;refine fR @tmB ?_;exact fD @tmB
end
def ZjL (w:World) (a:Option Addr) (n cap:Nat):Src:=⟨fun b=>(0 < n∧∃ off,a=some ⟨b,off,none⟩)∧¬ e0.E b,fun w'=>∀ b,((0 < n∧∃ off,a=some ⟨b,off,none⟩)∧¬ e0.E b)->w'.heap[b]?=w.heap[b]?,a,n,cap⟩
def Zmx (w:World) (a:Option Addr) (n:Nat):Prop:=0 < n->∃ (g off:Nat) (f:Nat->Nat),a=some ⟨g,off,none⟩∧(∀ j,f j < 256)∧∀ j,j < n->w.cell? ⟨g,off+j,none⟩=some (.int .u8 (f j))
theorem ZnA {w:World} {a:Option Addr} {n cap:Nat}:Fits e0 (ZjL w a n cap).E2 (ZjL w a n cap).G2:=⟨fun w1 w2 _ hE hG b hb=>(hE b hb).trans (hG b hb),fun _ _ b hb=>hb.2⟩
theorem ZpT {w w':World} (h:ZcR w) (h':ZcR w') {b:Nat} (hb:e0.E b):w'.heap[b]?=w.heap[b]?:=by
 have hb:b=2:=hb;subst hb;exact h'.trans h.symm
theorem ZyU {w:World} (hT:ZcR w) {a:Option Addr} {n cap:Nat} (hb:Zmx w a n) (hn:n<=1048576):(ZjL w a n cap).Ok:=by
 refine ⟨ZnA,fun h0=>?_,hn⟩;have h0':0 < n:=h0;obtain ⟨g,off,f,ha,hf,hc⟩:=hb h0';refine ⟨g,off,f,ha,hf,fun w' hw j hj=>?_⟩;rw [<- hc j hj];refine Zbg ?_ _;by_cases hE:e0.E g
 ·exact ZpT hT hw.1 hE
 ·exact hw.2 g ⟨⟨h0',off,ha⟩,hE⟩
theorem Zxy {F:FuncId} (hcon:∀ x:Src,(x.n<=1048576->x.Ok)->(eB x).Ok->x.n<=x.cap->Con (eB x) F [ZjG x] [.one (.lit (.bool true))]) (w:World) (hT:ZcR w) (a:Option Addr) (n cap:Nat) (hc:n<=cap) (hb:Zmx w a n) :
  Calls Tryz.prog F #[.slice a n cap] w fun e w'=>e=.returned (.bool true)∧Below w.heap.size w w':=by
 have hcon:=(hcon (ZjL w a n cap) (fun hn=>ZyU hT hb hn) (ZnA.ok Zjt) hc).2 w (fun _=>False) [.slice a n cap] (fun b hb=>hb.elim) (fun b hE=>?_) ⟨hT,fun b _=>rfl⟩ ⟨by simp [DRel,Rep,ZjL],trivial⟩
 ·refine hcon.mono fun e w' ⟨v,h1,h2,h3,h4⟩=>⟨?_,h2.os,h2.tape,h2.output,h2.size,fun k hk=>?_⟩
  ·have h4:v=.bool true:=by simpa [retA,ARel,DRel,Rep] using h4
   rw [h1,h4]
  ·by_cases hE:e0.E k
   ·exact ZpT hT h3.1 hE
   ·by_cases hE2:(ZjL w a n cap).E2 k
    ·exact h3.2 k hE2
    ·exact h2.block k hk fun q=>q.elim hE hE2
 ·rcases hE with hE | hE
  ·exact ZBi hT b hE
  ·obtain ⟨⟨h0,off,ha⟩,_⟩:=hE;obtain ⟨g,off',f,ha',_,hcell⟩:=hb h0;rw [ha] at ha';injection ha' with ha'
   injection ha' with h1 h2
   subst h1;have:=hcell 0 h0;by_cases hlt:b < w.heap.size
   ·exact hlt
   ·unfold World.cell? at this;rw [show w.heap[b]?=none from Array.getElem?_eq_none om] at this
    cases this
end Go.Proofs.YtmdkimnlbaahbaaGreatDoor
