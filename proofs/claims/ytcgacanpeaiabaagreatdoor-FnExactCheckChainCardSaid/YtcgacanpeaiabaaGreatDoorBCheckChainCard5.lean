/-
  Part of a proof.
-/
import Derived.Test.YtcgacanpeaiabaaGreatDoorBCheckChainCard0
import Derived.Test.YtcgacanpeaiabaaGreatDoorBCheckChainCard1
import Derived.Test.YtcgacanpeaiabaaGreatDoorBCheckChainCard2
import Derived.Test.YtcgacanpeaiabaaGreatDoorBCheckChainCard3
import Derived.Test.YtcgacanpeaiabaaGreatDoorBCheckChainCard4
import Derived.Shelf.Lays7
import Derived.Test.YtcgacanpeaiabaaGreatDoorChecked
import Derived.Shelf.Spec.TrailingZeros
import Derived.Shelf.SlSortCmp.WholeK
import Derived.Shelf.SlSortCmp.NoneTotal
import Derived.Lib.QuietBelow
import Derived.Shelf.SlLaysF0
import Derived.Shelf.Lays8
import Derived.Shelf.Spec.SlicesGrow
set_option linter.unusedSimpArgs false
set_option linter.unusedVariables false
set_option maxHeartbeats 400000000
set_option maxRecDepth 100000
namespace Go.Proofs.YtcgacanpeaiabaaGreatDoor
open Go.Shelf
def ZvA:Ren:=⟨fun | 27=>297 | 28=>319 | 29=>320 | n=>n,fun | 25=>241 | 3=>3 | 27=>302 | 22=>304 | 4=>4 | 53=>348 | 0=>0 | 5=>5 | 54=>349 | n=>n,fun | 0=>1 | 1=>2 | n=>n⟩
theorem tzZ:Go.Proofs.Lays7.n27 Tryz.prog ZvA:={
 mixed:=by kernel_rfl,
 f27:=Tryz.func297.trans (congrArg some (by kernel_rfl)),
 f28:=Tryz.func319.trans (congrArg some (by kernel_rfl)),
 f29:=Tryz.func320.trans (congrArg some (by kernel_rfl)),
 t0:=Tryz.underlying0,
 a0:=Tryz.isAgg0,
 z0:=Tryz.sizeOf0,
 v0:=Tryz.zeroValue0,
 i0:=by kernel_rfl,
 t3:=Tryz.underlying3,
 a3:=Tryz.isAgg3,
 z3:=Tryz.sizeOf3,
 v3:=Tryz.zeroValue3,
 i3:=by kernel_rfl,
 t4:=Tryz.underlying4,
 a4:=Tryz.isAgg4,
 z4:=Tryz.sizeOf4,
 v4:=Tryz.zeroValue4,
 i4:=by kernel_rfl,
 t5:=Tryz.underlying5,
 a5:=Tryz.isAgg5,
 z5:=Tryz.sizeOf5,
 v5:=Tryz.zeroValue5,
 i5:=by kernel_rfl,
 t22:=Tryz.underlying304,
 a22:=Tryz.isAgg304,
 z22:=Tryz.sizeOf304,
 v22:=Tryz.zeroValue304,
 i22:=by kernel_rfl,
 t25:=Tryz.underlying241,
 a25:=Tryz.isAgg241,
 z25:=Tryz.sizeOf241,
 v25:=Tryz.zeroValue241,
 i25:=by kernel_rfl,
 t27:=Tryz.underlying302,
 a27:=Tryz.isAgg302,
 z27:=Tryz.sizeOf302,
 v27:=Tryz.zeroValue302,
 i27:=by kernel_rfl,
 t53:=Tryz.underlying348,
 a53:=Tryz.isAgg348,
 z53:=Tryz.sizeOf348,
 v53:=Tryz.zeroValue348,
 i53:=by kernel_rfl,
 t54:=Tryz.underlying349,
 a54:=Tryz.isAgg349,
 z54:=Tryz.sizeOf349,
 g0:=by kernel_rfl,
 g1:=by kernel_rfl }
end Go.Proofs.YtcgacanpeaiabaaGreatDoor
namespace Go.Proofs.YtcgacanpeaiabaaGreatDoor
open Go.RowKit
theorem ZEP:∀ q:Fin 8,Lib.ctz 64 (2 ^ q.val)=q.val:=by decide
theorem ZFy {q:Nat} (hq:q < 8):Con e0 297 [.one (.lit (.int .u64 ((2 ^ q:Nat):Int)))] [.one (.lit (.int .i64 (q:Int)))]:=by
 refine ⟨by kernel_rfl,fun w S vs hS hE hG hv=>?_⟩
 match vs,hv with
 | [v],hv =>
  have hv:v=.int .u64 ((2 ^ q:Nat):Int):=by simpa [ZaL,DRel,Rep] using hv
  subst hv;have hp:2 ^ q < 2 ^ 8:=Nat.pow_lt_pow_right om hq;have hT:TabAt (ZvA.g 1) Lib.deBruijn64tab w:=fun j hj=>Zc6.cell hG j hj;refine (Any7.bits_TrailingZeros tzZ (2 ^ q) om w (fun _=>hT)).mono fun en w' ⟨h1,h2⟩=>?_;subst h2;rw [ZEP ⟨q,hq⟩] at h1;exact ⟨_,h1,Kept.refl _ _ _ _,hG,by simp [retA,ARel,DRel,Rep]⟩
theorem ZrW {p m:Nat} (h:p &&& m=p) (hp:p≠0) (hm:p≠m):1<=m ^^^ p∧m ^^^ p < m:=by
 have h1:=ZrE hm;have h2:=(Zvp h).2;have h3:m ^^^ p<=m:=by
  have h4:m ^^^ p<=p ||| (m ^^^ p):=Nat.right_le_or;rw [h2] at h4;exact h4
 have h4:m ^^^ p≠m:=fun e=>hp (by
  have:m ^^^ (m ^^^ p)=m ^^^ m:=by rw [e]
  rw [<- Nat.xor_assoc,Nat.xor_self,Nat.zero_xor] at this;exact this)
 omega
section
variable {g:Sgn} {mc:C}
theorem ZCh (hg:SgnOk g) {i:Nat} {o:Opr} (ho:g.ops[i]?=some o) (ha:o.assoc=true) (hc:o.comm=true) {s t N:Nat}:ofB (AnyB g o [s,t]) N=ofB (fun b=>Two (Eith (Rel2 g o)) s t b) N:=by
 refine Za8 fun b _=>?_;unfold AnyB;rw [Zfp (Opr.deg2 hg ho (.inl ha)),ZCf,hc];simp only [List.reverse_cons,List.reverse_nil,Tah,List.singleton_append,true_and];rw [Zfp (Opr.deg2 hg ho (.inl ha))]
theorem ZEQ {R:Nat->Nat->Nat->Prop} {N:Nat} (h:∀ a c b,R a c b->b < N):∀ a c b,Eith R a c b->b < N:=fun a c b h1=>h1.elim (h a c b) (h c a b)
theorem Zom (hg:SgnOk g) {op:Int} {o:Opr} (h0:0<=op) (ho:g.ops[op.toNat]?=some o) (ha:o.assoc=true) (hc:o.comm=true) (sets:List Nat) (hn1:1<=sets.length) (hn7:sets.length<=7) (hs:∀ s∈sets,s < 2 ^ g.sorts.names.length):Con e0 256 [.one (.ptr (encX g mc)),.one (.lit (.int .i64 op)),.one (.sl (nR sets))] [.one (.lit (.int .i64 ((bvN g (Rel2 g o) sets (2 ^ sets.length - 1):Nat):Int)))]:=by
 have hN:=hg.sorts.n8;have rl:=Za0 (l:=sets);have rr:=ZaX (l:=sets);have hdeg:=Opr.deg2 hg ho (.inl ha);rw [<- ZCg];have hRlt:=ZEQ fun a c b (h:Rel2 g o a c b)=>Rel2.lt hg (Tac ho) h;have hany:=fun s t=>ZCh (s:=s) (t:=t) (N:=g.sorts.names.length) hg ho ha hc;generalize hRR:Eith (Rel2 g o)=R at hRlt hany ⊢;have hcv:∀ m,bvN g R sets m < 2 ^ g.sorts.names.length:=fun m=>Zcr _ _;have hsh:=ZgR (k:=sets.length) om
 have hT0:=BagT.start (g:=g) (R:=R) (sets:=sets);have hpow:∀ q,2 ^ q < 2 ^ sets.length->q < sets.length:=fun q h=>(Nat.pow_lt_pow_iff_right om).1 h;have hZ1:2 ^ 1<=2 ^ sets.length:=Tbs om hn1;have hZ7:2 ^ sets.length<=2 ^ 7:=Tbs om hn7;have hBl:=fun M T (h:BagT g R sets M T)=>h.1;have hBn:=fun M T (h:BagT g R sets M T)=>h.next;have hB0:=fun M T (h:BagT g R sets M T)=>h.zero;have hBg:=fun M T (h:BagT g R sets M T)=>h.2
 generalize hZ:2 ^ sets.length=Z at hsh hT0 hpow hZ1 hZ7 hBl hBn hB0 hBg ⊢;have hmx:((Z:Int)<=(maxApp:Int))=True:=eq_true (by unfold maxApp;omega);refine gI (ts:=[.slot 6]) 2199090890695 Tryz.func256 ?_;refine fG (aj7 @rl @hsh @hmx @Tbx @nR_0 @Zal @tmz) ?_;generalize List.replicate Z 0=T0 at hT0 ⊢;have F:=@tmz;refine gL (ι:=Nat × List Nat) [8,9,10,19,26,41] [8] (fun x=>[(9,A.d (.one (.lit (.int .i64 x.1)))),(8,.buf 8)]) (fun x=>[(8,.buf none 3 1 (nR x.2))]) (fun x=>1<=x.1∧x.1<=Z∧BagT g R sets x.1 x.2) (fun x=>Z - x.1) ((1,T0)) (⟨Tai _,om,hT0⟩) (fun x hx=>?_);clear F
 clear hT0 T0;obtain ⟨m,T⟩:=x;obtain ⟨hm1,hm2,hT⟩:=hx;simp only at hm1 hm2 hT;dsimp only;have nl:=Za0 (l:=T);rw [hBl _ _ hT] at nl;have nr:=ZaX (l:=T);by_cases hmZ:m < Z;rotate_left
 ·obtain rfl:m=Z:=by omega
  have q1:=lF m m;have hg2:=ZaZ ((hBg _ _ hT (m - 1) om om).1 om);have w1:IntKind.i64.wrap ((m:Int) - 1)=((m - 1:Nat):Int):=ZaM om om om;have i1:(m - 1 < m)=True:=eq_true om;exact fD (aj9 @q1 @hsh @nl @nr @hg2 @w1 @i1 @Zal @tmz)
 have q1:=lT m Z;have hw:=Zan (k:=m) om;have w1:IntKind.i64.wrap ((m:Int) - 1)=((m - 1:Nat):Int):=ZaM om om om;have ba:=Zee (a:=m) (b:=m - 1) om om;have ba2:=Zee (a:=m - 1) (b:=m) om om;rw [Nat.and_comm] at ba;have i0:(m < Z)=True:=eq_true hmZ;by_cases hA:(m - 1) &&& m=0
 ·obtain ⟨q,rfl⟩:=Zvz om hA;have hq:=hpow q hmZ;rw [hA] at ba;have q2:(((0:Nat):Int)=0)=True:=eq_true rfl;have wu:IntKind.u64.wrap ((2 ^ q:Nat):Int)=((2 ^ q:Nat):Int):=by
   unfold IntKind.wrap;simp only [IntKind.signed,IntKind.bits];exact Int.emod_eq_of_lt om om
  obtain ⟨s,hsq⟩:∃ s,sets[q]?=some s:=⟨_,Taa hq⟩;have hbv:bvN g R sets (2 ^ q)=s:=by unfold bvN;exact Zvs hsq (hs s (Tac hsq))
  have r1:=ZaZ hsq;have hT2:=hBn _ _ hT hmZ;rw [hbv] at hT2;have ns:=ZcZ (l:=T) (2 ^ q) s;obtain ⟨z,hz⟩:∃ z,T[2 ^ q]?=some z:=⟨_,Taa (by rw [hBl _ _ hT];exact hmZ)⟩;have ng:=ZaZ hz;have cz:=ZFy (q:=q) om;have i2:(q < sets.length)=True:=eq_true hq;clear hbv hA;generalize 2 ^ q=M at *;refine fN 7 (aj7 @q1 @hsh @w1 @ba @q2 @Zal @tmz) ?_;refine gB ?_;refine fC (aj5 @Zgu @ZfT @ZeS @wu @tmz) (cz) ?_;refine fR (aj11 @r1 @rl @rr @nl @nr @ns @ng @i0 @i2 @Zal @tmz) ?_
  have F:=ai @hw @tmz;refine gG ?_;exact ⟨(M+1,T.set M s),⟨om,om,hT2⟩,gw,gw,om⟩
 have q2:((((m - 1) &&& m:Nat):Int)=0)=False:=eq_false om;have hnp:∀ i,m≠2 ^ i:=fun i e=>hA (by subst e;exact Zvy i);have hz:=hB0 _ _ hT hm1 hmZ;have hzz:nR (T.set m 0)=nR T:=by rw [hz]
 have hle:(m - 1) &&& m<=m - 1:=Nat.and_le_left;have hs0:=Znk (R:=R) (sets:=sets) (N:=g.sorts.names.length) (m:=m) om;have hend:=ZrG (R:=R) (sets:=sets) (N:=g.sorts.names.length) (m:=m) hs hRlt hnp;have hT2:=hBn _ _ hT hmZ;clear nl nr;refine fG (aj8 @hsh @q1 @w1 @ba @ba2 @q2 @Zal @tmz) ?_;have F:=ai @hzz @tmz;refine gL (ι:=Nat × Nat) [8,10,41] [8] (fun z=>[(10,A.d (.one (.lit (.int .i64 z.1)))),(8,.buf 8)]) (fun z=>[(8,.buf none 3 1 (nR (T.set m z.2)))]) (fun z=>z.1 < m∧z.1 &&& m=z.1∧z.2=ofB (ZfF R sets g.sorts.names.length m z.1) g.sorts.names.length) (fun z=>z.1) (((m - 1) &&& m,0)) (⟨om,by rw [Nat.and_assoc,Nat.and_self],hs0.symm⟩) (fun z hz=>?_);clear F
 obtain ⟨p,v⟩:=z;obtain ⟨hp1,hp2,hv⟩:=hz;simp only at hp1 hp2 hv;dsimp only;by_cases hp0:p=0
 ·subst hp0;have q3:=lF 0 (0:Nat);have e:v=bvN g R sets m:=by rw [hv,hend];rfl
  subst e;have F:=aj3 @q3 @hw @tmz;refine gG ?_;exact ⟨(m+1,T.set m (bvN g R sets m)),⟨om,om,hT2⟩,gw,gw,om⟩
 have q3:=lT 0 p;have wp:IntKind.i64.wrap ((p:Int) - 1)=((p - 1:Nat):Int):=ZaM om om om;have bap:=Zee (a:=p - 1) (b:=m) om om;have bx:=ZrV (a:=m) (b:=p) om om;have hxp:=ZrW hp2 hp0 om;have hp3:(p - 1) &&& m<=p - 1:=Nat.and_le_left;have hTp:=(hBg _ _ hT p om om).1 hp1;have hTx:=(hBg _ _ hT (m ^^^ p) hxp.1 om).1 hxp.2;have e:=fun b=>Zpc (R:=R) (sets:=sets) (N:=g.sorts.names.length) (m:=m) (p:=p) (b:=b) hp0 om hp2
 have e:v ||| ofB (fun b=>Two R (bvN g R sets p) (bvN g R sets (m ^^^ p)) b) g.sorts.names.length=ofB (ZfF R sets g.sorts.names.length m ((p - 1) &&& m)) g.sorts.names.length:=by
  rw [hv,Zgy];exact Za8 fun b _=>(e b).symm
 have cR:=Zih (mc:=mc) hg h0 ho [bvN g R sets p,bvN g R sets (m ^^^ p)] (fun d hd=>hdeg d hd) (by simp) (fun s hs=>by
  simp only [Tbg,List.not_mem_nil,or_false] at hs;rcases hs with rfl | rfl <;> exact hcv _)
 rw [hany] at cR;have cR:=Zgz cR;have hv62:v < 4611686018427387904:=by rw [hv];exact ZbX (Zcr _ _) hN
 have hor:=Zd3 hv62 (ZbX (Zcr (fun b=>Two R (bvN g R sets p) (bvN g R sets (m ^^^ p)) b) g.sorts.names.length) hN);rw [e] at hor;generalize ofB (fun b=>Two R (bvN g R sets p) (bvN g R sets (m ^^^ p)) b) g.sorts.names.length=tw at cR hor;have nl:=Za0 (l:=T.set m v);rw [Taz,hBl _ _ hT] at nl;have nr:=ZaX (l:=T.set m v);have g1:(nR (T.set m v))[m]?=some [.lit (.int .i64 v)]:=ZaZ (Tbn (by rw [hBl _ _ hT];exact hmZ))
 have g2:(nR (T.set m v))[p]?=some [.lit (.int .i64 (bvN g R sets p))]:=ZaZ (by rw [Tbo om];exact hTp);have g3:(nR (T.set m v))[m ^^^ p]?=some [.lit (.int .i64 (bvN g R sets (m ^^^ p)))]:=ZaZ (by rw [Tbo om];exact hTx);have ns:=fun x=>ZcZ (l:=T.set m v) m x;simp only [List.set_set] at ns;have i2:(p < Z)=True:=eq_true om;have i3:(m ^^^ p < Z)=True:=eq_true om;clear e hv hend;refine fN 11 (ai @q3 @tmz) ?_
 refine gB ?_;refine fC (aj11 @nl @nr @g1 @g2 @g3 @i0 @i2 @i3 @bx @Zal @tmz) (cR) ?_;refine fR (aj8 @nl @nr @g1 @hor @ns @i0 @Zal @tmz) ?_;have F:=aj3 @wp @bap @tmz;refine gG ?_;exact ⟨((p - 1) &&& m,ofB (ZfF R sets g.sorts.names.length m ((p - 1) &&& m)) g.sorts.names.length),⟨om,by rw [Nat.and_assoc,Nat.and_self],rfl⟩,gw,gw,om⟩
end
section
variable {g:Sgn}
theorem ZAv (hg:SgnOk g) {op:Int} {o:Opr} (h0:0<=op) (ho:g.ops[op.toNat]?=some o) (ha:o.assoc=true) (sets:List Nat) (hn1:1<=sets.length) (hn7:sets.length<=7) (hs:∀ s∈sets,s < 2 ^ g.sorts.names.length):Con e0 244 [.agg (Zas g),.one (.lit (.int .i64 op)),.one (.sl (nR sets))] [.one (.lit (.int .i64 ((bvN g (Rel2 g o) sets (2 ^ sets.length - 1):Nat):Int)))]:=by
 have hN:=hg.sorts.n8;have rl:=Za0 (l:=sets);have rr:=ZaX (l:=sets);have hdeg:=Opr.deg2 hg ho (.inl ha);have cU:=Zhj hg.sorts.n8 hg.sorts.m16 (SortsOk.subsIn hg.sorts.subs);rw [Zbh] at cU;have hRlt:=fun a c b (h:Rel2 g o a c b)=>Rel2.lt hg (Tac ho) h;have hany:∀ s t,ofB (ZdO g o [s,t]) g.sorts.names.length=ofB (fun b=>Two (Rel2 g o) s t b) g.sorts.names.length:=fun s t=>Za8 fun b _=>Zfp hdeg;have cG:=fun l=>Zja hg (Tac ho) l
 generalize hRR:Rel2 g o=R at hRlt hany ⊢;have hcv:∀ m,bvN g R sets m < 2 ^ g.sorts.names.length:=fun m=>Zcr _ _;have cB:=ZhP (k:=sets.length) om;have hT0:=BagT.start (g:=g) (R:=R) (sets:=sets);have hpow:∀ q,2 ^ q < 2 ^ sets.length->q < sets.length:=fun q h=>(Nat.pow_lt_pow_iff_right om).1 h;have hZ1:2 ^ 1<=2 ^ sets.length:=Tbs om hn1;have hZ7:2 ^ sets.length<=2 ^ 7:=Tbs om hn7;have hBl:=fun M T (h:BagT g R sets M T)=>h.1
 have hBn:=fun M T (h:BagT g R sets M T)=>h.next;have hB0:=fun M T (h:BagT g R sets M T)=>h.zero;have hBg:=fun M T (h:BagT g R sets M T)=>h.2;generalize hZ:2 ^ sets.length=Z at cB hT0 hpow hZ1 hZ7 hBl hBn hB0 hBg ⊢;have hmx:((Z:Int)<=(maxApp:Int))=True:=eq_true (by unfold maxApp;omega);rw [Zas];refine gI (ts:=[.slot 6]) 281509890105295 Tryz.func244 ?_;refine fN 2 (ai @rl @tmz) ?_;refine gB ?_;refine fC @tmz (cU) ?_
 refine fR @tmz ?_;refine ZdU ?_;refine gB ?_;refine fC @tmz (cB) ?_;refine fR (aj4 @hmx @Tbx @nR_0 @tmz) ?_;refine fG (ai @Zal @tmz) ?_;generalize List.replicate Z 0=T0 at hT0 ⊢;have F:=@tmz;refine gL (ι:=Nat × List Nat) [9,10,11,12,24,29,35,48] [9] (fun x=>[(10,A.d (.one (.lit (.int .i64 x.1)))),(9,.buf 9)]) (fun x=>[(9,.buf none 3 1 (nR x.2))]) (fun x=>1<=x.1∧x.1<=Z∧BagT g R sets x.1 x.2) (fun x=>Z - x.1) ((1,T0)) (⟨Tai _,om,hT0⟩) (fun x hx=>?_);clear F
 clear hT0 T0;obtain ⟨m,T⟩:=x;obtain ⟨hm1,hm2,hT⟩:=hx;simp only at hm1 hm2 hT;dsimp only;refine fN 5 @tmz ?_;refine gB ?_;refine fC @tmz (cB) ?_;by_cases hmZ:m < Z;rotate_left
 ·obtain rfl:m=Z:=by omega
  have nl:=Za0 (l:=T);rw [hBl _ _ hT] at nl;have nr:=ZaX (l:=T);have q1:=lF m m;have hg2:=ZaZ ((hBg _ _ hT (m - 1) om om).1 om);have w1:IntKind.i64.wrap ((m:Int) - 1)=((m - 1:Nat):Int):=ZaM om om om;have i1:(m - 1 < m)=True:=eq_true om;refine fR (ai @q1 @tmz) ?_;refine fN 16 @tmz ?_;refine gB ?_;refine fC @tmz (cB) ?_;refine fR (aj7 @nl @nr @hg2 @w1 @i1 @Zal @tmz) ?_;exact fD @tmz
 have q1:=lT m Z;have hw:=Zan (k:=m) om;have w1:IntKind.i64.wrap ((m:Int) - 1)=((m - 1:Nat):Int):=ZaM om om om;have ba2:=Zee (a:=m - 1) (b:=m) om om;have i0:(m < Z)=True:=eq_true hmZ;have hz:=hB0 _ _ hT hm1 hmZ;have hzz:nR (T.set m 0)=nR T:=by rw [hz]
 have hT2:=hBn _ _ hT hmZ;refine fR (ai @q1 @tmz) ?_;refine fG @tmz ?_;have F:=ai @hzz @tmz;refine gL (ι:=Nat × Nat) [9,11,29,35] [9] (fun y=>[(11,A.d (.one (.lit (.int .i64 y.1)))),(9,.buf 9)]) (fun y=>[(9,.buf none 3 1 (nR (T.set m y.2)))]) (fun y=>y.1<=sets.length∧(∀ q,m=2 ^ q->(q < y.1->y.2=bvN g R sets m))∧((∀ q,q < y.1->m≠2 ^ q)->y.2=0)) (fun y=>sets.length - y.1) ((0,0)) (⟨om,fun q _ h=>om,fun _=>rfl⟩) (fun y hy=>?_);clear F
 obtain ⟨i,v⟩:=y;obtain ⟨hi,hv1,hv2⟩:=hy;simp only at hi hv1 hv2;dsimp only;by_cases hil:i < sets.length
 ·have q3:=lT i sets.length;have hwi:=Zan (k:=i) om;have cBi:=ZhP (k:=i) om;refine fN 10 (ai @q3 @tmz) ?_;refine gB ?_;refine fC @tmz (cBi) ?_;by_cases e:m=2 ^ i
  ·have q4:((m:Int)=((2 ^ i:Nat):Int))=True:=eq_true (by rw [e]);obtain ⟨s,hsi⟩:∃ s,sets[i]?=some s:=⟨_,Taa hil⟩;have hbv:bvN g R sets m=s:=by rw [e];unfold bvN;exact Zvs hsi (hs s (Tac hsi))
   have r1:=ZaZ hsi;have nl:=Za0 (l:=T.set m v);rw [Taz,hBl _ _ hT] at nl;have nr:=ZaX (l:=T.set m v);have g1:(nR (T.set m v))[m]?=some [.lit (.int .i64 v)]:=ZaZ (Tbn (by rw [hBl _ _ hT];exact hmZ));have ns:=fun x=>ZcZ (l:=T.set m v) m x;simp only [List.set_set] at ns;have i1:(i < sets.length)=True:=eq_true hil;have hv0:(∀ q,q < i+1->m≠2 ^ q)->s=0:=fun h=>absurd e (h i om);clear cBi;generalize 2 ^ i=M at *
   refine fR (ai @q4 @tmz) ?_;have F:=aj12 @hwi @r1 @rl @rr @nl @nr @g1 @ns @i0 @i1 @Zal @tmz;refine gG ?_;exact ⟨(i+1,s),⟨hil,fun q h1 h2=>hbv.symm,hv0⟩,gw,gw,om⟩
  have q4:((m:Int)=((2 ^ i:Nat):Int))=False:=eq_false om
  have hv3:∀ q,m=2 ^ q->(q < i+1->v=bvN g R sets m):=fun q h1 h2=>hv1 q h1 (by
   by_cases h3:q=i
   ·subst h3;exact absurd h1 e
   ·omega)
  have hv4:(∀ q,q < i+1->m≠2 ^ q)->v=0:=fun h=>hv2 fun q h1=>h q om;clear cBi;refine fR (ai @q4 @tmz) ?_;have F:=ai @hwi @tmz;refine gG ?_;exact ⟨(i+1,v),⟨hil,hv3,hv4⟩,gw,gw,om⟩
 obtain rfl:i=sets.length:=by omega
 have q3:=lF sets.length sets.length;have hz:=hB0 _ _ hT hm1 hmZ;have hle:(m - 1) &&& m<=m - 1:=Nat.and_le_left;refine fG (aj5 @q3 @w1 @ba2 @Zal @tmz) ?_;by_cases hA:(m - 1) &&& m=0
 ·obtain ⟨q,rfl⟩:=Zvz om hA;have hq:=hpow q hmZ;have hv:=hv1 q rfl hq;subst hv;rw [hA];have F:=@tmz;refine gL (ι:=Nat) [12,48] [] (fun z=>[(12,A.d (.one (.lit (.int .i64 z))))]) (fun z=>[]) (fun z=>z=0) (fun z=>z) (0) (rfl) (fun z hz=>?_);clear F;subst hz;have q4:=lF 0 (0:Nat);generalize 2 ^ q=M at *;have F:=aj3 @q4 @hw @tmz;refine gG ?_;exact ⟨(M+1,T.set M (bvN g R sets M)),⟨om,om,hT2⟩,gw,gw,om⟩
 have hnp:∀ i,m≠2 ^ i:=fun i e=>hA (by subst e;exact Zvy i);have hv:=hv2 fun q _=>hnp q;subst hv;have hs0:=Znk (R:=R) (sets:=sets) (N:=g.sorts.names.length) (m:=m) om;have hend:=ZrG (R:=R) (sets:=sets) (N:=g.sorts.names.length) (m:=m) hs hRlt hnp;have F:=@tmz;refine gL (ι:=Nat × Nat) [9,12,48] [9] (fun z=>[(12,A.d (.one (.lit (.int .i64 z.1)))),(9,.buf 9)]) (fun z=>[(9,.buf none 3 1 (nR (T.set m z.2)))]) (fun z=>z.1 < m∧z.1 &&& m=z.1∧z.2=ofB (ZfF R sets g.sorts.names.length m z.1) g.sorts.names.length) (fun z=>z.1) (((m - 1) &&& m,0)) (⟨om,by rw [Nat.and_assoc,Nat.and_self],hs0.symm⟩) (fun z hz=>?_);clear F
 obtain ⟨p,v⟩:=z;obtain ⟨hp1,hp2,hv⟩:=hz;simp only at hp1 hp2 hv;dsimp only;by_cases hp0:p=0
 ·subst hp0;have q3:=lF 0 (0:Nat);have e:v=bvN g R sets m:=by rw [hv,hend];rfl
  subst e;have F:=aj3 @q3 @hw @tmz;refine gG ?_;exact ⟨(m+1,T.set m (bvN g R sets m)),⟨om,om,hT2⟩,gw,gw,om⟩
 have q3:=lT 0 p;have wp:IntKind.i64.wrap ((p:Int) - 1)=((p - 1:Nat):Int):=ZaM om om om;have bap:=Zee (a:=p - 1) (b:=m) om om;have bx:=ZrV (a:=m) (b:=p) om om;have hxp:=ZrW hp2 hp0 om;have hp3:(p - 1) &&& m<=p - 1:=Nat.and_le_left;have hTp:=(hBg _ _ hT p om om).1 hp1;have hTx:=(hBg _ _ hT (m ^^^ p) hxp.1 om).1 hxp.2;have e:=fun b=>Zpc (R:=R) (sets:=sets) (N:=g.sorts.names.length) (m:=m) (p:=p) (b:=b) hp0 om hp2
 have e:v ||| ofB (fun b=>Two R (bvN g R sets p) (bvN g R sets (m ^^^ p)) b) g.sorts.names.length=ofB (ZfF R sets g.sorts.names.length m ((p - 1) &&& m)) g.sorts.names.length:=by
  rw [hv,Zgy];exact Za8 fun b _=>(e b).symm
 have cR:=cG [bvN g R sets p,bvN g R sets (m ^^^ p)] (fun d hd=>hdeg d hd) (by simp) (fun s hs=>by
  simp only [Tbg,List.not_mem_nil,or_false] at hs;rcases hs with rfl | rfl <;> exact hcv _)
 rw [hany] at cR;have cR:=Zgz cR;have hv62:v < 4611686018427387904:=by rw [hv];exact ZbX (Zcr _ _) hN
 have hor:=Zd3 hv62 (ZbX (Zcr (fun b=>Two R (bvN g R sets p) (bvN g R sets (m ^^^ p)) b) g.sorts.names.length) hN);rw [e] at hor;generalize ofB (fun b=>Two R (bvN g R sets p) (bvN g R sets (m ^^^ p)) b) g.sorts.names.length=tw at cR hor;have nl:=Za0 (l:=T.set m v);rw [Taz,hBl _ _ hT] at nl;have nr:=ZaX (l:=T.set m v);have g1:(nR (T.set m v))[m]?=some [.lit (.int .i64 v)]:=ZaZ (Tbn (by rw [hBl _ _ hT];exact hmZ))
 have g2:(nR (T.set m v))[p]?=some [.lit (.int .i64 (bvN g R sets p))]:=ZaZ (by rw [Tbo om];exact hTp);have g3:(nR (T.set m v))[m ^^^ p]?=some [.lit (.int .i64 (bvN g R sets (m ^^^ p)))]:=ZaZ (by rw [Tbo om];exact hTx);have ns:=fun x=>ZcZ (l:=T.set m v) m x;simp only [List.set_set] at ns;have i2:(p < Z)=True:=eq_true om;have i3:(m ^^^ p < Z)=True:=eq_true om;clear e hv hend;refine fN 15 (ai @q3 @tmz) ?_
 refine gB ?_;refine fC (aj14 @nl @nr @g1 @g2 @g3 @i0 @i2 @i3 @bx @h0 @ho @Zah @Zal @tmz) (cR) ?_;refine fR (aj8 @nl @nr @g1 @hor @ns @i0 @Zal @tmz) ?_;have F:=aj3 @wp @bap @tmz;refine gG ?_;exact ⟨((p - 1) &&& m,ofB (ZfF R sets g.sorts.names.length m ((p - 1) &&& m)) g.sorts.names.length),⟨om,by rw [Nat.and_assoc,Nat.and_self],rfl⟩,gw,gw,om⟩
end
section
variable {g:Sgn}
theorem AppOk.len7 (hg:SgnOk g) {t:Tm} {o:Opr} {d:Dcl} (hA:AppOk g t o d):t.args.length<=7:=by
 cases ha:o.assoc with
 | true=>exact (hA.asc ha).2
 | false =>
  rw [hA.nas ha];have:=(hg.decls o (Tac hA.at')).ar d hA.fst;omega
theorem AppOk.dlen (hg:SgnOk g) {t:Tm} {o:Opr} {d:Dcl} (hA:AppOk g t o d) (ha:o.assoc=false):∀ f∈o.decls,f.args.length=t.args.length:=by
 intro f hf;rw [hA.nas ha];exact ((hg.decls o (Tac hA.at')).all d hA.fst f hf).len
theorem Zns {t a:Tm} {i:Nat} (h:t.args[i]?=some a):(t.args.take i).map (sortsTm g)++[sortsTm g a]=(t.args.take (i+1)).map (sortsTm g):=by
 rw [List.take_add_one,h,Tbv];rfl
theorem Ztk (hg:SgnOk g):∀ (n:Nat) {t:Tm},sizeTm t < n->ZaF g t->Con e0 174 [.agg (Zas g),.agg (Zab t)] [.one (.lit (.int .i64 ((sortsTm g t:Nat):Int)))]:=by
 intro n
 induction n with
 | zero=>exact fun {t} h _=>absurd h om
 | succ n IH =>
 intro t hsz hf;obtain ⟨hnode,hargs,_⟩:=Zbm.1 hf;have cU:=Zhj hg.sorts.n8 hg.sorts.m16 (SortsOk.subsIn hg.sorts.subs);rw [Zbh] at cU;by_cases hop:t.op=-1
 ·have hv:Zdi g t:=hnode.resolve_right fun ⟨o,d,hA⟩=>by have:=hA.lo;omega
  have q1:(t.op=-1)=True:=eq_true hop;obtain ⟨k,hk⟩:∃ k:Nat,t.sort=k:=⟨t.sort.toNat,by have:=hv.2.2.1;omega⟩;have hgk:=Ziu hg.sorts hv.2.2.1 hv.2.2.2.1;have hgk:=ZaZ hgk.1;have e:=Zid (g:=g) hop;rw [e];have ul:=Za0 (l:=up g.sorts);rw [(Zf6 (SortsOk.subsIn hg.sorts.subs)).1] at ul;have ur:=ZaX (l:=up g.sorts);have i0:0<=t.sort:=hv.2.2.1;have i1:(t.sort.toNat < g.sorts.names.length)=True:=eq_true (by have:=hv.2.2.2.1;omega)
  rw [Zas];refine gI (ts:=[.slot 4]) 4629704814991770879 Tryz.func174 ?_;refine fN 2 (ai @q1 @tmz) ?_;refine gB ?_;refine fC @tmz (cU) ?_;refine fR (aj6 @i0 @i1 @ul @ur @hgk @tmz) ?_;exact fD @tmz
 have q1:(t.op=-1)=False:=eq_false hop;obtain ⟨o,d,hA⟩:∃ o d,AppOk g t o d:=hnode.resolve_left fun hv=>hop hv.1;have h0:=hA.lo;have ho:=hA.at';have h7:=hA.len7 hg
 have ih:∀ a∈t.args,Con e0 174 [.agg (Zas g),.agg (Zab a)] [.one (.lit (.int .i64 ((sortsTm g a:Nat):Int)))]:=fun a ha=>IH (by
  have h1:=Zbz t;have h2:=ZbL ha;omega) (hargs a ha)
 clear IH;have e:=Zie hop ho;rw [e];have hss:∀ s∈t.args.map (sortsTm g),s < 2 ^ g.sorts.names.length:=fun s hs=>by
  obtain ⟨a,ha,rfl⟩:=Tbi.1 hs;exact ZeX hg (hargs a ha).node
 have hsl:(t.args.map (sortsTm g)).length=t.args.length:=Tay _;have cB:=fun (ha:o.assoc=true)=>ZAv hg h0 ho ha (t.args.map (sortsTm g)) (by rw [hsl];have:=(hA.asc ha).1;omega) (by rw [hsl];exact h7) hss;have cC:=fun (ha:o.assoc=true)=>Ztj hg h0 ho ha (t.args.map (sortsTm g)) (by rw [hsl];have:=(hA.asc ha).1;omega) (by rw [hsl];exact h7) hss;rw [Zas] at ih cB cC ⊢;have hn0:nR []=[]:=rfl;have ht0:t.args.take 0=[]:=rfl
 refine gI (ts:=[.slot 4]) 4629704814991770879 Tryz.func174 ?_;refine fG (ai @q1 @tmz) ?_;have F:=aj3 @hn0 @ht0 @tmz;refine gL (ι:=Nat) [5,6,23] [5] (fun i=>[(6,A.d (.one (.lit (.int .i64 i)))),(5,.buf 5)]) (fun i=>[(5,.buf none 3 1 (nR ((t.args.take i).map (sortsTm g))))]) (fun i=>i<=t.args.length) (fun i=>t.args.length - i) (0) (Taj _) (fun i hi=>?_);clear F;have nl:=Za0 (l:=(t.args.take i).map (sortsTm g))
 rw [Tay,List.length_take_of_le hi] at nl;have nr:=ZaX (l:=(t.args.take i).map (sortsTm g));by_cases hil:i < t.args.length
 ·have q2:=lT i t.args.length;obtain ⟨a,hai⟩:∃ a,t.args[i]?=some a:=⟨_,Taa hil⟩;have cA:=ih a (Tac hai);have ns:=Zio (l:=(t.args.take i).map (sortsTm g)) (sortsTm g a);rw [Zns hai] at ns;have hmx:(i+1<=maxApp)=True:=eq_true (by unfold maxApp;omega);have hw:=Zan (k:=i) om;refine fN 7 (ai @q2 @tmz) ?_;refine gB ?_;refine fC (aj3 @hai @Zal @tmz) (cA) ?_;refine fR (aj5 @nl @nr @ns @hmx @tmz) ?_;have F:=ai @hw @tmz;refine gG ?_;exact ⟨i+1,hil,gw,gw,om⟩
 obtain rfl:i=t.args.length:=by omega
 have q2:=lF t.args.length t.args.length;rw [Tap] at nl nr ⊢;have hlt:=fun b=>ZeX hg (t:=b);have hD:=hA.dlen hg;rw [<- hsl] at hD;have cF:=fun (ha:o.assoc=false)=>Zlx hg h0 ho (t.args.map (sortsTm g)) (hD ha);have h2:=Opr.deg2 hg ho;rw [Zas] at cF;clear hi hil
 cases ha:o.assoc with
 | true =>
  cases hc:o.comm with
  | true =>
   have cB:=cB ha;have e2:bvN g (Rel2 g o) (t.args.map (sortsTm g)) (2 ^ (t.args.map (sortsTm g)).length - 1)=appS g o (t.args.map (sortsTm g)):=by
    unfold bvN appS;exact Za8 fun b _=>by unfold AppB;rw [if_pos ha,if_pos hc]
   rw [e2] at cB;refine fN 10 (aj7 @q2 @ha @hc @h0 @ho @Zah @tmz) ?_;refine gB ?_;refine fC @tmz (cB) ?_;refine fR @tmz ?_;exact fD @tmz
  | false =>
   have cC:=cC ha;have e2:cvN g o (t.args.map (sortsTm g)) 0 (t.args.map (sortsTm g)).length=appS g o (t.args.map (sortsTm g)):=by
    unfold cvN appS;exact Za8 fun b _=>by unfold AppB;rw [if_pos ha,if_neg (by simp [hc])]
   rw [e2] at cC;refine fN 12 (aj7 @q2 @ha @hc @h0 @ho @Zah @tmz) ?_;refine gB ?_;refine fC @tmz (cC) ?_;refine fR @tmz ?_;exact fD @tmz
 | false =>
  have h3:t.args.length<=3:=by
   rw [hA.nas ha];exact (hg.decls o (Tac ho)).ar d hA.fst
  have cF:=cF ha (by rw [hsl];exact h3) hss
  cases hc:o.comm with
  | true =>
   have e2:ofB (ZdO g o (t.args.map (sortsTm g))) g.sorts.names.length ||| ofB (ZdO g o (t.args.map (sortsTm g)).reverse) g.sorts.names.length=appS g o (t.args.map (sortsTm g)):=by
    unfold appS;rw [Zgy];exact Za8 fun b _=>by unfold AppB AnyB;rw [if_neg (by simp [ha]),hc];simp
   have hor:=Zd3 (ZbX (Zcr (ZdO g o (t.args.map (sortsTm g))) g.sorts.names.length) hg.sorts.n8) (ZbX (Zcr (ZdO g o (t.args.map (sortsTm g)).reverse) g.sorts.names.length) hg.sorts.n8);rw [e2] at hor;have cG:=Zlx hg h0 ho (t.args.map (sortsTm g)).reverse (by rw [List.length_reverse];exact hD ha) (by rw [List.length_reverse,hsl];exact h3) (fun s hs=>hss s (List.mem_reverse.1 hs));rw [Zas] at cG;have hl2:(t.args.map (sortsTm g)).length=2:=by rw [hsl,hA.nas ha];exact h2 (.inr (.inl hc)) d (Tac hA.fst)
   clear e2 cB cC hD h2 ih hargs e;rw [hsl] at hl2;generalize appS g o (t.args.map (sortsTm g))=V at hor ⊢;generalize ofB (ZdO g o (t.args.map (sortsTm g))) g.sorts.names.length=V1 at hor cF;generalize ofB (ZdO g o (t.args.map (sortsTm g)).reverse) g.sorts.names.length=V2 at hor cG;have hl3:=hsl;rw [hl2] at hl3 nl;obtain ⟨s1,s2,hs12⟩:∃ s1 s2,t.args.map (sortsTm g)=[s1,s2]:=by
    match t.args.map (sortsTm g),hl3 with
    | [x,y],_=>exact ⟨x,y,rfl⟩
   rw [hs12] at cF cG nr nl ⊢;simp only [List.reverse_cons,List.reverse_nil,Tah,List.singleton_append] at cG;have cG:=Zgz cG;have g0:(nR [s1,s2])[0]?=some [.lit (.int .i64 s1)]:=rfl;have g1:(nR [s1,s2])[1]?=some [.lit (.int .i64 s2)]:=rfl;refine fN 14 (aj7 @q2 @ha @hc @h0 @ho @Zah @tmz) ?_;refine Zda (ZdF [5] (by simp only [pz,↓reduceIte,Nat.reduceEqDiff,Nat.reduceAdd,Nat.reduceSub,Nat.reduceMul,Nat.reduceLeDiff,Nat.reduceBEq,Tam,decide_true,decide_false,Int.reduceLE,Int.reduceToNat,Int.reduceLT,Int.reduceEq,eq_self,Nat.reduceShiftRight,Nat.reduceAnd,Nat.reduceBneDiff,tmz];exact rfl)) fun σ' hσ=>?_
   subst hσ;refine gB ?_;refine fC @tmz (cF) ?_;refine fC (aj5 @nl @nr @g0 @g1 @tmz) (cG) ?_;refine fR (ai @hor @tmz) ?_;exact fD @tmz
  | false =>
   have e2:ofB (ZdO g o (t.args.map (sortsTm g))) g.sorts.names.length=appS g o (t.args.map (sortsTm g)):=by
    unfold appS;exact Za8 fun b _=>by unfold AppB AnyB;rw [if_neg (by simp [ha]),hc];simp
   rw [e2] at cF;refine fN 15 (aj7 @q2 @ha @hc @h0 @ho @Zah @tmz) ?_;refine gB ?_;refine fC @tmz (cF) ?_;refine fR @tmz ?_;exact fD @tmz
end
section
variable {g:Sgn}
def Zgi (g:Sgn) (b:Nat) (t:Tm) (l:List (ByteArray × Value)) (r:List D) (pm:List Bk):Prop:=∃ l',r=[.one (.lit (.int .i64 (sortsTm g t:Nat)))]∧pm=[mapB b l']∧Memo g l'∧Grew g (sizeTm t) l l'
theorem ZFA:∀ (b:Nat) (l:List (ByteArray × Value)),pinned (mapB b l)=true:=fun _ _=>rfl
theorem Zkq (hg:SgnOk g) (b:Nat):∀ (n:Nat) {t:Tm},sizeTm t < n->sizeTm t<=60->ZaF g t->∀ l,Memo g l->ConP e0 184 [.one (.ptr (encX g (.lit (.map (some b))))),.agg (Zab t)] [mapB b l] (Zgi g b t l):=by
 intro n
 induction n with
 | zero=>exact fun {t} h _ _ _ _=>absurd h om
 | succ n IH =>
 intro t hsz h60 hf l hM;obtain ⟨hnode,hargs,_⟩:=Zbm.1 hf;by_cases hop:t.op=-1
 ·have hv:Zdi g t:=hnode.resolve_right fun ⟨o,d,hA⟩=>by have:=hA.lo;omega
  have q1:(t.op < 0)=True:=eq_true om;have hgk:=Ziu hg.sorts hv.2.2.1 hv.2.2.2.1;have hgk:=ZaZ hgk.1;have e:=Zid (g:=g) hop;have ul:=Za0 (l:=up g.sorts);rw [(Zf6 (SortsOk.subsIn hg.sorts.subs)).1] at ul;have ur:=ZaX (l:=up g.sorts);have i0:0<=t.sort:=hv.2.2.1;have i1:(t.sort.toNat < g.sorts.names.length)=True:=eq_true (by have:=hv.2.2.2.1;omega);have hR:Zgi g b t l [.one (.lit (.int .i64 (upk g t.sort:Nat)))] [mapB b l]:=⟨l,by rw [e],rfl,hM,Grew.refl⟩
  clear IH hargs;unfold nR at ul ur hgk;refine gIP (ts:=[.slot 4]) [1000] 604463053930783360175611 Tryz.func184 ?_;refine fG (aj8 @q1 @i0 @i1 @ul @ur @hgk @Zba @tmz) ?_;exact (have F:=tmz;gTP (R:=Zgi g b t l) [1000] hR (hp:=rfl))
 have q1:(t.op < 0)=False:=eq_false (by
  obtain ⟨o,d,hA⟩:∃ o d,AppOk g t o d:=hnode.resolve_left fun hv=>hop hv.1;have:=hA.lo;omega)
 obtain ⟨o,d,hA⟩:∃ o d,AppOk g t o d:=hnode.resolve_left fun hv=>hop hv.1;have cK:=ZAt hg hf h60;refine gIP (ts:=[.slot 4]) [1000] 604463053930783360175611 Tryz.func184 ?_;refine fN 3 (ai @q1 @tmz) ?_;refine gB ?_;refine fC @tmz (cK) ?_;refine fR @tmz ?_;refine fN 4 @tmz ?_;refine gB ?_;have F:=ai @Zba @tmz;refine gP 5 ?_;clear F
 cases hfs:Zb6 l (keyS t) with
 | some v =>
  have hv:=hM t hf v hfs;subst hv;have hR:Zgi g b t l [.one (.lit (.int .i64 (sortsTm g t:Nat)))] [mapB b l]:=⟨l,rfl,rfl,hM,Grew.refl⟩;refine (have F:=tmz;gLo 1000 Zg4 Zem ZAu (v:=.int .i64 (sortsTm g t:Nat)) (f:=true) (by rw [hfs];rfl) (by rw [hfs];rfl) ?_);refine fR @tmz ?_;refine fG @tmz ?_;exact (have F:=tmz;gTP (R:=Zgi g b t l) [1000] hR (hp:=rfl))
 | none =>
 refine (have F:=tmz;gLo 1000 Zg4 Zem ZAu (v:=.int .i64 0) (f:=false) (by rw [hfs];rfl) (by rw [hfs];rfl) ?_);have h7:=hA.len7 hg;have hn0:nR []=[]:=rfl;have ht0:t.args.take 0=[]:=rfl;refine fR @tmz ?_;refine fG @tmz ?_;have F:=aj3 @hn0 @ht0 @tmz;refine gL (ι:=Nat × List (ByteArray × Value)) [8,10,41,42] [8,1000] (fun x=>[(41,A.d (.one (.lit (.int .i64 x.1)))),(8,.buf 8)]) (fun x=>[(8,.buf none 3 1 (nR ((t.args.take x.1).map (sortsTm g)))),(1000,mapB b x.2)]) (fun x=>x.1<=t.args.length∧Memo g x.2∧Grew g (sizeTm t - 1) l x.2) (fun x=>t.args.length - x.1) ((0,l)) (⟨Taj _,hM,Grew.refl⟩) (fun x hx=>?_);clear F
 obtain ⟨i,l1⟩:=x;obtain ⟨hi,hM1,hG1⟩:=hx;simp only at hi hM1 hG1;dsimp only;have nl:=Za0 (l:=(t.args.take i).map (sortsTm g));rw [Tay,List.length_take_of_le hi] at nl;have nr:=ZaX (l:=(t.args.take i).map (sortsTm g));by_cases hil:i < t.args.length
 ·have q2:=lT i t.args.length;obtain ⟨a,hai⟩:∃ a,t.args[i]?=some a:=⟨_,Taa hil⟩;have ham:=Tac hai;have hs1:=Zbz t;have hs2:=ZbL ham;have cA:=IH (t:=a) om om (hargs a ham) l1 hM1;have ns:=Zio (l:=(t.args.take i).map (sortsTm g)) (sortsTm g a);rw [Zns hai] at ns;have hmx:(i+1<=maxApp)=True:=eq_true (by unfold maxApp;omega);have hw:=Zan (k:=i) om;refine fN 11 (aj4 @q2 @hai @Zal @tmz) ?_;refine gB ?_;have F:=aj5 @ZFA @Zba @hai @Zal @tmz;refine gCP [1000] [1000] (hpn:=rfl) (cA) ?_;clear F
  rintro r pm ⟨l2,rfl,rfl,hM2,hG2⟩;simp only [setA,retA,zipM,Taf,Tah];refine fR (aj5 @nl @nr @ns @hmx @tmz) ?_;have F:=ai @hw @tmz;refine gG ?_;exact ⟨(i+1,l2),⟨hil,hM2,hG1.trans (hG2.mono om)⟩,gw,gw,om⟩
 obtain rfl:i=t.args.length:=by omega
 have q2:=lF t.args.length t.args.length;rw [Tap] at nl nr ⊢;clear IH;have h0:=hA.lo;have ho:=hA.at';have e:=Zie hop ho;have hnone:Zb6 l1 (keyS t)=none:=hG1 t hf (by have:=Zbz t;omega) hfs;have hR:Zgi g b t l [.one (.lit (.int .i64 (sortsTm g t:Nat)))] [mapB b (l1++[(keyS t,.int .i64 (sortsTm g t:Nat))])]:=⟨_,rfl,rfl,hM1.snoc hg hf,(hG1.mono om).trans (Grew.snoc hg hf)⟩;have hss:∀ s∈t.args.map (sortsTm g),s < 2 ^ g.sorts.names.length:=fun s hs=>by
  obtain ⟨a,ha,rfl⟩:=Tbi.1 hs;exact ZeX hg (hargs a ha).node
 have hsl:(t.args.map (sortsTm g)).length=t.args.length:=Tay _;have h3:o.assoc=false->t.args.length<=3:=fun ha=>by
  rw [hA.nas ha];exact (hg.decls o (Tac ho)).ar d hA.fst
 have hD:=hA.dlen hg;have h2:=Opr.deg2 hg ho;have cR:=fun h1 h2=>Zih (mc:=.lit (.map (some b))) hg h0 ho (t.args.map (sortsTm g)) h1 h2 hss;have cA:=fun h1 h2 h3=>Zom (mc:=.lit (.map (some b))) hg h0 ho h1 h2 (t.args.map (sortsTm g)) h3 (by rw [hsl];exact h7) hss;have cW:=fun h1 h2 h3=>Zon (mc:=.lit (.map (some b))) hg h0 ho h1 h2 (t.args.map (sortsTm g)) h3 (by rw [hsl];exact h7) hss;have eR:=ZEB hg ho (sets:=t.args.map (sortsTm g))
 rw [hsl] at cR cA cW eR;have eA:o.assoc=true->o.comm=true->bvN g (Rel2 g o) (t.args.map (sortsTm g)) (2 ^ t.args.length - 1)=sortsTm g t:=fun ha hc=>by
  rw [e];unfold bvN appS;exact Za8 fun b _=>by unfold AppB;rw [if_pos ha,if_pos hc,hsl]
 have eC:o.assoc=true->o.comm=false->cvN g o (t.args.map (sortsTm g)) 0 t.args.length=sortsTm g t:=fun ha hc=>by
  rw [e];unfold cvN appS;exact Za8 fun b _=>by unfold AppB;rw [if_pos ha,if_neg (by simp [hc]),hsl]
 rw [<- e] at eR;clear hargs e hss;by_cases hle:t.args.length<=2
 ·have q3:((t.args.length:Int)<=2)=True:=eq_true om
  have cR:=cR (by
   cases ha:o.assoc with
   | true=>exact fun f hf=>by rw [h2 (.inl ha) f hf];have:=(hA.asc ha).1;omega
   | false=>exact hD ha) om
  rw [eR fun ha=>by have:=(hA.asc ha).1;omega] at cR;refine fN 16 (aj5 @q2 @q3 @nl @nr @tmz) ?_;refine gB ?_;refine fC (ai @Zba @tmz) (cR) ?_;refine fR @tmz ?_;refine fN 19 @tmz ?_;refine gB ?_;have F:=ai @Zba @tmz;refine gP 6 ?_;clear F;refine (have F:=tmz;gUp 1000 Zg4 Zem hnone ?_);refine fR @tmz ?_;refine fG @tmz ?_;exact (have F:=tmz;gTP (R:=Zgi g b t l) [1000] hR (hp:=rfl))
 have q3:((t.args.length:Int)<=2)=False:=eq_false om
 cases ha:o.assoc with
 | false =>
  have cR:=cR (hD ha) (h3 ha);rw [eR fun ha'=>by rw [ha] at ha';cases ha'] at cR;refine fN 16 (aj10 @q2 @q3 @nl @nr @ha @h0 @ho @Zba @Zah @tmz) ?_;refine gB ?_;refine fC (ai @Zba @tmz) (cR) ?_;refine fR @tmz ?_;refine fN 19 @tmz ?_;refine gB ?_;have F:=ai @Zba @tmz;refine gP 6 ?_;clear F;refine (have F:=tmz;gUp 1000 Zg4 Zem hnone ?_);refine fR @tmz ?_;refine fG @tmz ?_;exact (have F:=tmz;gTP (R:=Zgi g b t l) [1000] hR (hp:=rfl))
 | true =>
  have h1:1<=t.args.length:=om
  cases hc:o.comm with
  | true =>
   have cA:=cA ha hc h1;rw [eA ha hc] at cA;refine fN 18 (aj11 @q2 @q3 @nl @nr @ha @hc @h0 @ho @Zba @Zah @tmz) ?_;refine gB ?_;refine fC (ai @Zba @tmz) (cA) ?_;refine fR @tmz ?_;refine fN 19 @tmz ?_;refine gB ?_;have F:=ai @Zba @tmz;refine gP 6 ?_;clear F;refine (have F:=tmz;gUp 1000 Zg4 Zem hnone ?_);refine fR @tmz ?_;refine fG @tmz ?_;exact (have F:=tmz;gTP (R:=Zgi g b t l) [1000] hR (hp:=rfl))
  | false =>
   have cW:=cW ha hc h1;rw [eC ha hc] at cW;refine fN 14 (aj11 @q2 @q3 @nl @nr @ha @hc @h0 @ho @Zba @Zah @tmz) ?_;refine gB ?_;refine fC (ai @Zba @tmz) (cW) ?_;refine fR @tmz ?_;refine fN 19 @tmz ?_;refine gB ?_;have F:=ai @Zba @tmz;refine gP 6 ?_;clear F;refine (have F:=tmz;gUp 1000 Zg4 Zem hnone ?_);refine fR @tmz ?_;refine fG @tmz ?_;exact (have F:=tmz;gTP (R:=Zgi g b t l) [1000] hR (hp:=rfl))
end
section
variable {g:Sgn}
noncomputable def sortsOf (g:Sgn) (t:Tm):Nat:=if Zbl g=true∧ZaQ g t=true then sortsTm g t else 0
theorem Znt (hok:Zcg g) {t:Tm} (ht:okTm t) (hb:sizeTm t<=big):Con e0 289 [.agg (Zas g),.agg (Zab t)] [.one (.lit (.int .i64 ((sortsOf g t:Nat):Int)))]:=by
 have cT:=ZcG hok ht hb;unfold sortsOf;by_cases h:Zbl g=true∧ZaQ g t=true
 ·have e:(Zbl g && ZaQ g t)=true:=by rw [h.1,h.2];rfl
  have cS:=Ztk (ZdK.1 h.1) _ (Tan _) (Zbx.1 h.2).form;rw [if_pos h];rw [e] at cT;rw [Zas] at cT cS ⊢;refine gI (ts:=[.slot 4]) 287 Tryz.func289 ?_;refine fN 1 @tmz ?_;refine gB ?_;refine fC @tmz (cT) ?_;refine fR @tmz ?_;refine fN 3 @tmz ?_;refine gB ?_;refine fC @tmz (cS) ?_;refine fR @tmz ?_;exact fD @tmz
 ·have e:(Zbl g && ZaQ g t)=false:=by
   cases h1:Zbl g with
   | false=>rfl
   | true =>
    cases h2:ZaQ g t with
    | false=>rfl
    | true=>exact absurd ⟨h1,h2⟩ h
  have z0:(((0:Nat):Int))=0:=rfl;rw [if_neg h];rw [e] at cT;rw [Zas] at cT ⊢;refine gI (ts:=[.slot 4]) 287 Tryz.func289 ?_;refine fN 1 @tmz ?_;refine gB ?_;refine fC @tmz (cT) ?_;refine fR @tmz ?_;exact fD (ai @z0 @tmz)
def RAlg (g:Sgn) (r:List D) (pm:List Bk):Prop:=∃ b:Nat,r=[.one (.ptr (encX g (.lit (.map (some b))))),.one (.lit (.bool true))]∧pm=[mapB b []]
theorem Ztl (hok:Zcg g) (hg:SgnOk g):ConP e0 56 [.agg (Zas g)] [] (RAlg g):=by
 have hs:Zbl g=true:=ZcH hg;have c:=Zh9 hok;rw [hs,Zas] at c;have c2:=Zhm hok.1 hg.sorts;rw [Zbh,Zen] at c2;rw [Zas];refine gIP (ts:=[.slot 2,.slot 3]) [] 287 Tryz.func56 ?_;refine fN 1 @tmz ?_;refine gB ?_;refine fC @tmz (c) ?_;refine fR @tmz ?_;refine fN 3 @tmz ?_;refine gB ?_;refine fC @tmz (c2) ?_;refine fR @tmz ?_;refine fN 4 @tmz ?_;refine gB ?_;have F:=@tmz;refine gP 2 ?_;clear F;refine gMk fun b=>?_
 refine fR @tmz ?_;refine Zda (ZdF [19] (by simp only [pz,↓reduceIte,Nat.reduceEqDiff,Nat.reduceAdd,Nat.reduceSub,Nat.reduceMul,Nat.reduceLeDiff,Nat.reduceBEq,Tam,decide_true,decide_false,Int.reduceLE,Int.reduceToNat,Int.reduceLT,Int.reduceEq,eq_self,Nat.reduceShiftRight,Nat.reduceAnd,Nat.reduceBneDiff,tmz];exact rfl)) fun σ' hσ=>?_;subst hσ;exact (have F:=tmz;gTP (R:=RAlg g) [17] ⟨b,rfl,rfl⟩ (hp:=rfl))
end
section
variable {g:Sgn} {l:List Bd}
theorem Zdi.term {t:Tm} (h:Zdi g t):TermOk g t:=by
 have ha0:t.args=[]:=h.2.2.2.2;have hf:ZaF g t:=Zbm.2 ⟨.inl h,(by rw [ha0];intro a ha;cases ha),.inl h.1⟩;have h1:=Zbz t;rw [ha0,Zo4] at h1;have h2:=Zm5 t;exact ⟨om,om,hf⟩
theorem TermOk.var {t:Tm} (h:TermOk g t) (ho:t.op=-1):Zdi g t:=h.form.node.resolve_right fun ⟨o,d,hA⟩=>by have:=hA.lo;omega
theorem bd_l:∀ (b:Bd),(Zbt b).length=8:=fun b=>by simp [Zbt,tmz]
theorem ZDX:∀ (b:Bd),(Zbt b).take 8=Zbt b:=fun b=>List.take_of_length_le (by rw [bd_l];omega)
theorem ZDY:∀ (b:Bd),(Zbt b).drop 8=[]:=fun b=>List.drop_eq_nil_of_le (by rw [bd_l];omega)
theorem ZDZ:∀ (b:Bd),(Zbt b).take 4=Zab b.var:=fun ⟨v,t⟩=>by cases v;simp [Zbt,Zab]
theorem ZD0:∀ (b:Bd),(Zbt b).drop 4=Zab b.to:=fun ⟨v,t⟩=>by cases v;simp [Zbt,Zab]
theorem ZD1:∀ (b:Bd),(Zbt b).drop 2=.lit (.int .i64 b.var.sort)::.sl (Zaa b.var.args)::Zab b.to:=fun ⟨v,t⟩=>by cases v;simp [Zbt,Zab,Tm.sort,Tm.args]
theorem bd_o:∀ (b:Bd),valT TK.one (Zbt b)=some (A.d (D.one (C.lit (Value.int IntKind.i64 b.var.op)))):=fun ⟨v,t⟩=>by cases v;simp [Zbt,Zab,Tm.op,valT]
theorem bd_k:∀ (b:Bd),(Zbt b).all ZaB=true:=fun b=>by simp [Zbt,List.all_append,tmz]
theorem bdz:type_of% (aj8 bd_l ZDX ZDY ZDZ ZD0 ZD1 bd_o bd_k):=aj8 bd_l ZDX ZDY ZDZ ZD0 ZD1 bd_o bd_k
theorem Ztm (hok:Zcg g) (hl:Zgg l) (hv:∀ y∈l,sizeTm y.var<=big) (ht:∀ y∈l,sizeTm y.to<=big):Con e0 234 [.agg (Zas g),.one (.sl (ZbE l))] [.one (.lit (.bool (Zbl g && Zdl g l)))]:=by
 have cS:=Zgb hok;have bl:=Zdk l;have bg:=ZeW l;have hT:=fun y (hy:y∈l)=>ZcG hok (hl y hy).1 (hv y hy);have hO:=fun y (hy:y∈l)=>Znt hok (hl y hy).2 (ht y hy);have hC:=fun y z (hy:y∈l) (hz:z∈l)=>Zep (hl y hy).1 (hl z hz).1;rw [Zas] at cS hT hO ⊢;have bb:Zav 8 (ZbE l)=true:=by
  refine List.all_eq_true.2 fun r hr=>?_;obtain ⟨y,hy,rfl⟩:=Tbi.1 hr;simp [Zbt,List.all_append,tmz]
 refine gI (ts:=[.slot 4]) 1152991873351303287 Tryz.func234 ?_;refine fN 1 @tmz ?_;refine gB ?_;refine fC @tmz (cS) ?_
 cases hs:Zbl g with
 | false =>
  refine fR @tmz ?_;exact fD @tmz
 | true =>
 rw [Bool.true_and];by_cases h8:l.length<=8;rotate_left
 ·have q1:=lT 8 l.length;have hf:Zdl g l=false:=Zgh fun h=>h8 h.len;rw [hf];refine fR (aj3 @bl @q1 @tmz) ?_;exact fD @tmz
 have q1:=lF 8 l.length;refine fR (aj3 @bl @q1 @tmz) ?_;refine fG @tmz ?_;have F:=@tmz;refine gL (ι:=Nat) [4,5,6,18,46,60] [] (fun i=>[(5,A.d (.one (.lit (.int .i64 i))))]) (fun i=>[]) (fun i=>i<=l.length∧∀ (j:Nat) y,j < i->l[j]?=some y->SbsAt g l j y) (fun i=>l.length - i) (0) (⟨Taj _,fun j y h=>absurd h om⟩) (fun i hi=>?_);clear F;obtain ⟨hi,hall⟩:=hi;by_cases hil:i < l.length;rotate_left
 ·obtain rfl:i=l.length:=by omega
  have q2:=lF l.length l.length;have hf:Zdl g l=true:=Zi7 ⟨h8,fun j y hj=>hall j y (Tad.1 hj).1 hj⟩;rw [hf];exact fD (aj3 @q2 @bl @tmz)
 have q2:=lT i l.length;obtain ⟨y,hy⟩:∃ y,l[i]?=some y:=⟨_,Taa hil⟩;have hym:=Tac hy;have hbad:¬ SbsAt g l i y->Zdl g l=false:=fun h=>Zgh fun h'=>h (h'.at' i y hy);have cT:=hT y hym;have cO:=hO y hym;rw [hs,Bool.true_and] at cT;refine fN 7 (aj8 @q2 @bl @bb @bg @hy @bdz @Zal @tmz) ?_;by_cases hop:y.var.op=-1;rotate_left
 ·have q3:(y.var.op=-1)=False:=eq_false hop;have hf:=hbad fun h=>hop h.var.1;rw [hf];exact fD (aj3 @q3 @bdz @tmz)
 have q3:(y.var.op=-1)=True:=eq_true hop;refine gB ?_;refine fC (aj3 @q3 @bdz @tmz) (cT) ?_;by_cases hTv:ZaQ g y.var=true;rotate_left
 ·have hf:=hbad fun h=>hTv (ZcB h.var.term);have hTv:ZaQ g y.var=false:=by simpa using hTv
  rw [hf,hTv];refine fR (ai @bdz @tmz) ?_;exact fD @tmz
 have hvo:=(Zbx.1 hTv).var hop;have hg:=ZdK.1 hs;rw [hTv];refine fC (ai @bdz @tmz) (cO) ?_;obtain ⟨k,hk⟩:∃ k:Nat,y.var.sort=k:=⟨y.var.sort.toNat,by have:=hvo.2.2.1;omega⟩;have hk8:k < 8:=by have:=hvo.2.2.2.1;have:=hg.sorts.n8;omega
 have hso:sortsOf g y.to < 4611686018427387904:=by
  unfold sortsOf;split
  ·next h=>exact ZbX (ZeX hg (Zbx.1 h.2).form.node) hg.sorts.n8
  ·omega
 have cH:=Zgv (k:=k) hso om;have hte:tbit (sortsOf g y.to) k=true ↔ TermOk g y.to∧(sortsTm g y.to).testBit y.var.sort.toNat=true:=by
  have e:y.var.sort.toNat=k:=om;rw [tbit,e];unfold sortsOf;by_cases h:ZaQ g y.to=true
  ·rw [if_pos ⟨hs,h⟩];exact ⟨fun h1=>⟨Zbx.1 h,h1⟩,fun h1=>h1.2⟩
  ·rw [if_neg fun h1=>h h1.2,Nat.zero_testBit];exact ⟨fun h1=>(by cases h1),fun h1=>absurd (ZcB h1.1) h⟩
 rw [<- hk] at cH;refine fC (ai @bdz @tmz) (cH) ?_
 cases hb:tbit (sortsOf g y.to) k with
 | false =>
  have hf:=hbad fun h=>by rw [hte.2 ⟨h.to',h.srt⟩] at hb;cases hb
  rw [hf];refine fR (ai @bdz @tmz) ?_;exact fD @tmz
 | true =>
 obtain ⟨b1,b2⟩:=hte.1 hb;refine fR (ai @bdz @tmz) ?_;have hwi:=Zan (k:=i) om;have hnext:(∀ (j:Nat) p,i=j+1->l[j]?=some p->Zag p.var y.var < 0)->i+1<=l.length∧∀ (j:Nat) z,j < i+1->l[j]?=some z->SbsAt g l j z:=fun ho=>⟨hil,fun j z h1 h2=>by
  by_cases e:j=i
  ·subst e;rw [hy] at h2;injection h2 with h2
   subst h2;exact ⟨hvo,ho,b1,b2⟩
  ·exact hall j z om h2⟩
 by_cases hi0:i=0
 ·subst hi0;have q4:=lF 0 (0:Nat);have F:=aj4 @q4 @hwi @bdz @tmz;refine gG ?_;exact ⟨0+1,hnext fun j p h=>absurd h om,gw,gw,om⟩
 obtain ⟨j,rfl⟩:∃ j,i=j+1:=⟨i - 1,om⟩;have q4:=lT 0 (j+1:Nat);obtain ⟨p,hp⟩:∃ p,l[j]?=some p:=⟨_,Taa om⟩;have cC:=hC p y (Tac hp) hym;have wj:IntKind.i64.wrap (((j+1:Nat):Int) - 1)=(j:Int):=ZaM om om om;have i1:(j < l.length)=True:=eq_true om;refine fN 9 @tmz ?_;refine gB ?_;refine fC (aj10 @q4 @wj @i1 @bl @bb @bg @hp @bdz @Zal @tmz) (cC) ?_;by_cases hcm:Zag p.var y.var < 0
 ·have q5:((0:Int)<=Zag p.var y.var)=False:=eq_false om;have hn2:=hnext fun j' p' h h1=>by
   obtain rfl:j=j':=by omega
   rw [hp] at h1;injection h1 with h1
   subst h1;exact hcm
  refine fR (aj3 @q5 @bdz @tmz) ?_;have F:=aj3 @hwi @bdz @tmz;refine gG ?_;exact ⟨j+1+1,hn2,gw,gw,om⟩
 ·have q5:((0:Int)<=Zag p.var y.var)=True:=eq_true om;have hf:=hbad fun h=>hcm (h.ord j p rfl hp);rw [hf];refine fR (aj3 @q5 @bdz @tmz) ?_;exact fD @tmz
end
theorem Zdi.eq_iff {g:Sgn} {a b:Tm} (ha:Zdi g a) (hb:Zdi g b):Zag a b=0 ↔ a.name=b.name∧a.sort=b.sort:=by
 rw [Zbo];obtain ⟨h1,_,_,_,h2⟩:=ha;obtain ⟨h3,_,_,_,h4⟩:=hb;obtain ⟨o,n,s,l⟩:=a;obtain ⟨o',n',s',l'⟩:=b;simp only [Tm.op,Tm.args] at h1 h2 h3 h4;subst h1 h2 h3 h4;simp [Tm.name,Tm.sort]
section
variable {g:Sgn} {l:List Bd}
theorem ZwB:∀ (b:Bd),(Zbt b).drop 1=.lit (.string b.var.name)::.lit (.int .i64 b.var.sort)::.sl (Zaa b.var.args)::Zab b.to:=fun ⟨v,t⟩=>by cases v;simp [Zbt,Zab,Tm.sort,Tm.args,Tm.name]
theorem bds8 (l:List Bd):Zav 8 (ZbE l)=true:=by
 refine List.all_eq_true.2 fun r hr=>?_;obtain ⟨y,hy,rfl⟩:=Tbi.1 hr;simp [Zbt,List.all_append,tmz]
theorem Zpq {l:List Bd} {i:Nat} {y:Bd} (h:l[i]?=some y) (v:Tm):ZcD (l.drop i) v=if Zag y.var v=0 then some y.to else ZcD (l.drop (i+1)) v:=by
 obtain ⟨hi,rfl⟩:=Tad.1 h;rw [List.drop_eq_getElem_cons hi];rfl
theorem Ztn (hl:∀ y∈l,Zdi g y.var) (h8:l.length<=1000) {v:Tm} (hv:Zdi g v):Con e0 180 [.one (.sl (ZbE l)),.agg (Zab v)] [.agg (Zab ((ZcD l v).getD v)),.one (.lit (.bool (ZcD l v).isSome))]:=by
 have bl:=Zdk l;have bg:=ZeW l;have bb:=bds8 l;refine gI (ts:=[.cell 4 46,.slot 5]) 134221755 Tryz.func180 ?_;refine fG (ai @bl @tmz) ?_;have F:=@tmz;refine gL (ι:=Nat) [5,7,10,11,27] [] (fun i=>[(10,A.d (.one (.lit (.int .i64 i))))]) (fun i=>[]) (fun i=>i<=l.length∧ZcD (l.drop i) v=ZcD l v) (fun i=>l.length - i) (0) (⟨Taj _,rfl⟩) (fun i hi=>?_);clear F;obtain ⟨hi,hlo⟩:=hi;by_cases hil:i < l.length
 rotate_left
 ·obtain rfl:i=l.length:=by omega
  have q2:=lF l.length l.length;rw [List.drop_length] at hlo;have e:ZcD l v=none:=hlo.symm;rw [e];have z1:(none:Option Tm).getD v=v:=rfl;exact fD (aj3 @q2 @z1 @tmz)
 have q2:=lT i l.length;obtain ⟨y,hy⟩:∃ y,l[i]?=some y:=⟨_,Taa hil⟩;rw [Zpq hy] at hlo;have hyv:=hl y (Tac hy);have hwi:=Zan (k:=i) om;have he:=Zdi.eq_iff hyv hv;by_cases h1:y.var.name=v.name;rotate_left
 ·have q3:(y.var.name.toList==v.name.toList)=false:=beq_eq_false_iff_ne.2 fun h=>h1 (toList_inj h);rw [if_neg (fun h=>h1 (he.1 h).1)] at hlo;have F:=aj11 @q2 @q3 @hwi @bl @bb @bg @hy @bdz @ZwB @Zal @tmz;refine gG ?_;exact ⟨i+1,⟨hil,hlo⟩,gw,gw,om⟩
 have q3:(y.var.name.toList==v.name.toList)=true:=by rw [h1];exact beq_self_eq_true _
 by_cases h2:y.var.sort=v.sort;rotate_left
 ·have q4:(y.var.sort=v.sort)=False:=eq_false h2;rw [if_neg (fun h=>h2 (he.1 h).2)] at hlo;have F:=aj12 @q2 @q3 @q4 @hwi @bl @bb @bg @hy @bdz @ZwB @Zal @tmz;refine gG ?_;exact ⟨i+1,⟨hil,hlo⟩,gw,gw,om⟩
 have q4:(y.var.sort=v.sort)=True:=eq_true h2;rw [if_pos (he.2 ⟨h1,h2⟩)] at hlo;rw [<- hlo];have z1:(some y.to).getD v=y.to:=rfl;exact fD (aj12 @q2 @q3 @q4 @z1 @bl @bb @bg @hy @bdz @ZwB @Zal @tmz)
theorem ZAz (hl:Zgg l) {v:Tm} (hv:okTm v) (h8:l.length<=1000):Con e0 217 [.one (.sl (ZbE l)),.agg (Zab v)] [.agg (Zab ((ZcD l v).getD zTm)),.one (.lit (.bool (ZcD l v).isSome))]:=by
 have bl:=Zdk l;have bg:=ZeW l;have bb:=bds8 l;have hz:=Zc9;refine gI (ts:=[.cell 4 46,.slot 5]) 525435 Tryz.func217 ?_;refine fG (ai @bl @tmz) ?_;have F:=@tmz;refine gL (ι:=Nat) [5,6,10,19] [] (fun i=>[(6,A.d (.one (.lit (.int .i64 i))))]) (fun i=>[]) (fun i=>i<=l.length∧ZcD (l.drop i) v=ZcD l v) (fun i=>l.length - i) (0) (⟨Taj _,rfl⟩) (fun i hi=>?_);clear F;obtain ⟨hi,hlo⟩:=hi;by_cases hil:i < l.length
 rotate_left
 ·obtain rfl:i=l.length:=by omega
  have q2:=lF l.length l.length;rw [List.drop_length] at hlo;have e:ZcD l v=none:=hlo.symm;rw [e];have z1:(none:Option Tm).getD zTm=zTm:=rfl;exact fD (aj5 @q2 @z1 @hz @bl @tmz)
 have q2:=lT i l.length;obtain ⟨y,hy⟩:∃ y,l[i]?=some y:=⟨_,Taa hil⟩;rw [Zpq hy] at hlo;have hwi:=Zan (k:=i) om;have cS:=ZcC (hl y (Tac hy)).1 hv;refine fN 4 (aj3 @q2 @bl @tmz) ?_;refine gB ?_;refine fC (aj7 @bl @bb @bg @hy @bdz @Zal @tmz) (cS) ?_;by_cases h1:Zag y.var v=0;rotate_left
 ·have q3:decide (Zag y.var v=0)=false:=decide_eq_false h1;rw [if_neg h1] at hlo;rw [q3];refine fR @tmz ?_;have F:=aj3 @hwi @bdz @tmz;refine gG ?_;exact ⟨i+1,⟨hil,hlo⟩,gw,gw,om⟩
 have q3:decide (Zag y.var v=0)=true:=decide_eq_true h1;rw [if_pos h1] at hlo;rw [q3,<- hlo];have z1:(some y.to).getD zTm=y.to:=rfl;refine fR @tmz ?_;exact fD (aj8 @z1 @bl @bb @bg @hy @bdz @Zal @tmz)
structure SbsW (g:Sgn) (l:List Bd):Prop where
 len:l.length<=1000
 var:∀ y∈l,Zdi g y.var
 to':∀ y∈l,TermOk g y.to
theorem SbsOk.w (h:SbsOk g l):SbsW g l:=⟨Tbe h.len (by decide),h.var,h.to'⟩
theorem SbsW.okB (hg:SgnOk g) (h:SbsW g l):Zgg l:=fun y hy=>⟨ZaF.ok hg _ _ (Tan _) (h.var y hy).term.form,ZaF.ok hg _ _ (Tan _) (h.to' y hy).form⟩
noncomputable def ap6 (g:Sgn) (l:List Bd) (t:Tm):Tm:=if t.op=-1 then (ZcD l t).getD t else match apTs g l t.args with
 | none=>zTm
 | some us=>match g.ops[t.op.toNat]? with
  | none=>zTm
  | some o=>match o.decls[0]? with
   | none=>zTm
   | some d=>mk6 g o d t.op us
theorem ZvD {t:Tm} (h:t.op=-1):ap6 g l t=(ZcD l t).getD t:=by unfold ap6;rw [if_pos h]
theorem ZCl {t:Tm} (h:t.op≠-1) (hn:apTs g l t.args=none):ap6 g l t=zTm:=by unfold ap6;rw [if_neg h,hn]
theorem ZES {t:Tm} {us:List Tm} {o:Opr} {d:Dcl} (h:t.op≠-1) (hu:apTs g l t.args=some us) (ho:g.ops[t.op.toNat]?=some o) (hd:o.decls[0]?=some d):ap6 g l t=mk6 g o d t.op us:=by
 unfold ap6;rw [if_neg h,hu];simp only [ho,hd]
theorem ZrX {t u:Tm} (h:apT g l t=some u):ap6 g l t=u:=by
 by_cases ho:t.op=-1
 ·rw [ZkY ho,Taq] at h;rw [ZvD ho,h]
 ·rw [Zg3 ho] at h;unfold ap6;rw [if_neg ho]
  cases h1:apTs g l t.args with
  | none=>rw [h1] at h;cases h
  | some us =>
   rw [h1,Option.bind_some] at h;unfold mkT at h
   cases h2:g.ops[t.op.toNat]? with
   | none=>rw [h2] at h;cases h
   | some o =>
    rw [h2] at h;simp only at h ⊢
    cases h3:o.decls[0]? with
    | none=>rw [h3] at h;cases h
    | some d =>
     rw [h3] at h;simp only at h ⊢;unfold mk6;rw [h];rfl
theorem ZhW {mc:C} (hg:SgnOk g) (hS:SbsW g l):∀ (n:Nat) {t:Tm},sizeTm t < n->TermOk g t->Con e0 103 [.one (.ptr (encX g mc)),.one (.sl (ZbE l)),.agg (Zab t)] [.agg (Zab ((apT g l t).getD zTm)),.one (.lit (.bool (apT g l t).isSome))]:=by
 intro n
 induction n with
 | zero=>exact fun {t} h _=>absurd h om
 | succ n IH =>
 intro t hsz ht;have hz:=Zc9;have h60:=ZfV ht;by_cases hop:t.op=-1
 ·have hv:=ht.var hop;have q1:(t.op < 0)=True:=eq_true om;have cB:=Ztn hS.var hS.len hv;have z1:(some ((ZcD l t).getD t)).getD zTm=(ZcD l t).getD t:=rfl;have z2:(some ((ZcD l t).getD t)).isSome=true:=rfl;rw [ZkY hop];refine gI (ts:=[.cell 6 46,.slot 7]) 2201036682727 Tryz.func103 ?_;refine fN 2 (ai @q1 @tmz) ?_;refine gB ?_;refine fC @tmz (cB) ?_;refine fR @tmz ?_;exact fD (aj3 @z1 @z2 @tmz)
 obtain ⟨o,d,hA⟩:=ht.form.node.resolve_left (fun hv=>hop hv.1);have q1:(t.op < 0)=False:=eq_false (by have:=hA.lo;omega);have cB:=fun us h1 h2=>Zpg (mc:=mc) hg hA.lo hA.at' hA.fst us h1 h2;refine gI (ts:=[.cell 6 46,.slot 7]) 2201036682727 Tryz.func103 ?_;refine fG (ai @q1 @tmz) ?_;have F:=ai @Zdm @tmz;refine gL (ι:=Nat × List Tm) [7,10,12,13,14,29,30,41] [10] (fun x=>[(29,A.d (.one (.lit (.int .i64 x.1)))),(10,.buf 10)]) (fun x=>[(10,.buf none 46 4 (Zaa x.2))]) (fun x=>x.1<=t.args.length∧apTs g l (t.args.take x.1)=some x.2) (fun x=>t.args.length - x.1) ((0,[])) (⟨Taj _,rfl⟩) (fun x hx=>?_);clear F
 obtain ⟨i,us⟩:=x;obtain ⟨hi,hus⟩:=hx;simp only at hi hus;dsimp only;have hul:=Zl3 hus;rw [List.length_take_of_le hi] at hul;have nl:=Zae us;have nr:Zav 4 (Zaa us)=true:=Zc7 _;by_cases hil:i < t.args.length;rotate_left
 ·obtain rfl:i=t.args.length:=by omega
  have q2:=lF t.args.length t.args.length;rw [Tap] at hus;have e:apT g l t=mkO g o d t.op us:=by rw [Zg3 hop,hus];exact Zng hA.at' hA.fst us
  have cB:=cB us (fun u hu=>by
   obtain ⟨a,ha,hau⟩:=Zi6 hus u hu;exact Ziv hg hS.to' _ a (Tan _) (ht.arg ha) hau) om
  rw [e];refine fN 13 (ai @q2 @tmz) ?_;refine gB ?_;refine fC @tmz (cB) ?_;refine fR @tmz ?_;exact fD @tmz
 have q2:=lT i t.args.length;obtain ⟨a,ha⟩:∃ a,t.args[i]?=some a:=⟨_,Taa hil⟩;have ham:=Tac ha;have hs1:=Zbz t;have hs2:=ZbL ham;have cA:=IH (t:=a) om (ht.arg ham);have hwi:=Zan (k:=i) om;have hmx:(us.length+1<=maxApp)=True:=eq_true (by unfold maxApp;omega);have hsn:apTs g l (t.args.take (i+1))=(apT g l a).map fun u=>us++[u]:=by rw [ZcJ ha,Zkf,hus];rfl
 refine fN 8 (aj4 @q2 @ha @Zal @tmz) ?_;refine gB ?_;refine fC (aj3 @ha @Zal @tmz) (cA) ?_;refine fR @tmz ?_
 cases hu:apT g l a with
 | none =>
  have z3:(none:Option Tm).isSome=false:=rfl;have z5:(none:Option Tm).getD zTm=zTm:=rfl;have e:apTs g l t.args=none:=Zkg ham hu;have e2:apT g l t=none:=by rw [Zg3 hop,e];rfl
  rw [e2];exact fD (aj4 @z3 @z5 @hz @tmz)
 | some u =>
  have z3:(some u).isSome=true:=rfl;have z5:(some u).getD zTm=u:=rfl;rw [hu] at hsn;have ns:Zaa us++[Zab u]=Zaa (us++[u]):=by simp [Zby]

  have F:=aj8 @z3 @z5 @nl @nr @ns @hmx @hwi @tmz;refine gG ?_;exact ⟨(i+1,us++[u]),⟨hil,hsn⟩,gw,gw,om⟩
theorem Zto (hokg:Zcg g) (hg:SgnOk g) (hS:SbsW g l):∀ (n:Nat) {t:Tm},sizeTm t < n->TermOk g t->Con e0 143 [.agg (Zas g),.one (.sl (ZbE l)),.agg (Zab t)] [.agg (Zab (ap6 g l t)),.one (.lit (.bool (apT g l t).isSome))]:=by
 intro n
 induction n with
 | zero=>exact fun {t} h _=>absurd h om
 | succ n IH =>
 intro t hsz ht;have hz:=Zc9;have h60:=ZfV ht;have hok2:=ZaF.ok hg _ t (Tan _) ht.form;have hokB:Zgg l:=hS.okB hg;by_cases hop:t.op=-1
 ·have q1:(t.op=-1)=True:=eq_true hop;have cB:=ZAz hokB hok2 hS.len;have z2:(some ((ZcD l t).getD t)).isSome=true:=rfl;rw [ZvD hop,ZkY hop];rw [Zas] at *;refine gI (ts:=[.cell 6 46,.slot 7]) 70370900131823 Tryz.func143 ?_;refine fN 2 (ai @q1 @tmz) ?_;refine gB ?_;refine fC @tmz (cB) ?_;refine fR @tmz ?_
  cases hk:ZcD l t with
  | none =>
   have z1:(none:Option Tm).getD t=t:=rfl;have z3:(none:Option Tm).isSome=false:=rfl;rw [hk] at z2;exact fD (aj4 @z1 @z2 @z3 @tmz)
  | some u =>
   have z1:(some u).getD t=u:=rfl;have z3:(some u).isSome=true:=rfl;have z4:(some u).getD zTm=u:=rfl;rw [hk] at z2;exact fD (aj5 @z1 @z2 @z3 @z4 @tmz)
 obtain ⟨o,d,hA⟩:=ht.form.node.resolve_left (fun hv=>hop hv.1);have q1:(t.op=-1)=False:=eq_false hop;have cB:=fun us h1 h2=>Zno hokg hg hA.lo hA.at' hA.fst us h1 h2;rw [Zas] at *;refine gI (ts:=[.cell 6 46,.slot 7]) 70370900131823 Tryz.func143 ?_;refine fG (ai @q1 @tmz) ?_;have F:=ai @Zdm @tmz;refine gL (ι:=Nat × List Tm) [7,10,11,12,13,31,46] [10] (fun x=>[(11,A.d (.one (.lit (.int .i64 x.1)))),(10,.buf 10)]) (fun x=>[(10,.buf none 46 4 (Zaa x.2))]) (fun x=>x.1<=t.args.length∧apTs g l (t.args.take x.1)=some x.2) (fun x=>t.args.length - x.1) ((0,[])) (⟨Taj _,rfl⟩) (fun x hx=>?_);clear F
 obtain ⟨i,us⟩:=x;obtain ⟨hi,hus⟩:=hx;simp only at hi hus;dsimp only;have hul:=Zl3 hus;rw [List.length_take_of_le hi] at hul;have nl:=Zae us;have nr:Zav 4 (Zaa us)=true:=Zc7 _;by_cases hil:i < t.args.length;rotate_left
 ·obtain rfl:i=t.args.length:=by omega
  have q2:=lF t.args.length t.args.length;rw [Tap] at hus;have e:apT g l t=mkO g o d t.op us:=by rw [Zg3 hop,hus];exact Zng hA.at' hA.fst us
  have cB:=cB us (fun u hu=>by
   obtain ⟨a,ha,hau⟩:=Zi6 hus u hu;exact Ziv hg hS.to' _ a (Tan _) (ht.arg ha) hau) om
  rw [e,ZES hop hus hA.at' hA.fst];refine fN 14 (ai @q2 @tmz) ?_;refine gB ?_;refine fC @tmz (cB) ?_;refine fR @tmz ?_;exact fD @tmz
 have q2:=lT i t.args.length;obtain ⟨a,ha⟩:∃ a,t.args[i]?=some a:=⟨_,Taa hil⟩;have ham:=Tac ha;have hs1:=Zbz t;have hs2:=ZbL ham;have cA:=IH (t:=a) om (ht.arg ham);have hwi:=Zan (k:=i) om;have hmx:(us.length+1<=maxApp)=True:=eq_true (by unfold maxApp;omega);have hsn:apTs g l (t.args.take (i+1))=(apT g l a).map fun u=>us++[u]:=by rw [ZcJ ha,Zkf,hus];rfl
 refine fN 10 (aj4 @q2 @ha @Zal @tmz) ?_;refine gLt 11 10 12 ?_;refine fC (aj3 @ha @Zal @tmz) (cA) ?_;refine fR @tmz ?_
 cases hu:apT g l a with
 | none =>
  have z3:(none:Option Tm).isSome=false:=rfl;have z5:(none:Option Tm).getD zTm=zTm:=rfl;have e:apTs g l t.args=none:=Zkg ham hu;have e2:apT g l t=none:=by rw [Zg3 hop,e];rfl
  rw [e2,ZCl hop e];exact fD (aj4 @z3 @z5 @hz @tmz)
 | some u =>
  have z3:(some u).isSome=true:=rfl;have z5:ap6 g l a=u:=ZrX hu;rw [hu] at hsn;have ns:Zaa us++[Zab u]=Zaa (us++[u]):=by simp [Zby]
  rw [z5];have F:=aj8 @z3 @z5 @nl @nr @ns @hmx @hwi @tmz;refine gG ?_;exact ⟨(i+1,us++[u]),⟨hil,hsn⟩,gw,gw,om⟩
end
section
variable {g:Sgn} {b:Nat}
def ZD2 (g:Sgn) (b:Nat) (w:World):Prop:=(∀ c,c=b->¬ e0.E c)∧∃ M,Memo g M∧MapL w b M
noncomputable def eM (g:Sgn) (b:Nat):Env:=e0.plus (fun c=>c=b) (ZD2 g b)
theorem eMP:∀ (g:Sgn) (b:Nat),(eM g b).P=Tryz.prog:=fun _ _=>rfl
theorem Zdr:Fits e0 (fun c=>c=b) (ZD2 g b):=⟨fun w w' hz hE ⟨h1,M,h2,h3⟩=>⟨h1,M,h2,MapL.stable b M w w' hz hE h3⟩,fun w h=>h.1⟩
theorem ZF4:(eM g b).Ok:=Zdr.ok ZmS
theorem Con.m {f:FuncId} {args r:List D} (h:Con e0 f args r):Con (eM g b) f args r:=Con.up Zdr h
theorem ConE.m {f:FuncId} {args:List D} {R:List D->Prop} (h:ConE e0 f args R):ConE (eM g b) f args R:=ConE.up Zdr h
theorem ConR.m {f:FuncId} {args:List D} {ty sz:Nat} {rows:List (List C)} (h:ConR e0 f args ty sz rows):ConR (eM g b) f args ty sz rows:=ConR.up Zdr h
theorem ConI.m {f:FuncId} {ty sz:Nat} {rows rows':List (List C)} {args r:List D} (h:ConI e0 f ty sz rows args rows' r):ConI (eM g b) f ty sz rows args rows' r:=ConI.up Zdr h
theorem ConT.m {f:FuncId} {ty sz:Nat} {rows rows':List (List C)} {args:List D} (h:ConT e0 f ty sz rows args rows'):ConT (eM g b) f ty sz rows args rows':=ConT.up Zdr h
theorem ConP.m {f:FuncId} {args:List D} {pm:List Bk} {R:List D->List Bk->Prop} (h:ConP e0 f args pm R):ConP (eM g b) f args pm R:=ConP.up Zdr h
theorem ConP.imp {e:Env} {f:FuncId} {args:List D} {pm:List Bk} {R R':List D->List Bk->Prop} (h:ConP e f args pm R) (hR:∀ r pm,R r pm->R' r pm):ConP e f args pm R' :=
 ⟨h.1,fun w S vs hS hE hG hpm hap hvs=>(h.2 w S vs hS hE hG hpm hap hvs).mono fun en w' ⟨v,r,pm',h1,hr,hk⟩=>⟨v,r,pm',h1,hR r pm' hr,hk⟩⟩
theorem Znu (hg:SgnOk g) {t:Tm} (hs:sizeTm t<=60) (hf:ZaF g t):Con (eM g b) 184 [.one (.ptr (encX g (.lit (.map (some b))))),.agg (Zab t)] [.one (.lit (.int .i64 (sortsTm g t:Nat)))] :=
 ZCm (ι:=List (ByteArray × Value)) (G:=fun M w=>MapL w b M) (ok:=Memo g) Zdr (MapL.stable b) (fun w h=>h.2) (fun w M h1 h2 h3=>⟨h1,M,h2,h3⟩) (Zkq hg b _ (Tan _) hs hf [] Memo.nil).1
  fun M hM=>(Zkq hg b _ (Tan _) hs hf M hM).imp fun r pm ⟨M',h1,h2,h3,_⟩=>⟨h1,M',h3,h2⟩
theorem pM {mask:Nat} {c:Code} {s:List (Nat × A)} {m m2:List (Nat × Bk)} {Q:PX->St->Prop} (g:Sgn) (b k:Nat) (hK:pwp (eM g b) mask c ⟨s,m2⟩ Q) (hm:gm m k=some (mapB b []):=by exact snx) (hr:remM k m=m2:=by exact snv):pwp e0 mask c ⟨s,m⟩ Q:=by
 subst hr;exact ZET k Zdr.st hm (fun hd=>⟨Zdr,fun w h=>⟨hd,[],Memo.nil,h⟩⟩) fun _=>hK
theorem ZvE (a k:Nat):(a &&& 2 ^ k=0) ↔ a.testBit k=false:=by
 constructor
 ·intro h;have:=congrArg (fun x=>x.testBit k) h;simpa [Nat.testBit_and,Nat.testBit_two_pow] using this
 ·intro h;refine Nat.eq_of_testBit_eq fun i=>?_;rw [Nat.testBit_and,Nat.testBit_two_pow,Nat.zero_testBit];by_cases e:k=i
  ·subst e;rw [h];rfl
  ·simp [e]
theorem tmM:type_of% (aj3 @tmz @eMP @Zba):=aj3 @tmz @eMP @Zba
end
section
variable {g:Sgn} {l:List Bd} {b:Nat}
theorem ZAA (hg:SgnOk g) (hl:Zgg l) (ht:∀ y∈l,sizeTm y.to<=big):Con (eM g b) 105 [.one (.ptr (encX g (.lit (.map (some b))))),.one (.sl (ZbE l))] [.one (.lit (.bool (Zdl g l)))]:=by
 have heM:=ZF4 (g:=g) (b:=b);have bl:=Zdk l;have bg:=ZeW l;have hV:=fun y (hy:y∈l)=>(Zip (mc:=.lit (.map (some b))) hg (t:=y.var) (by have:=(hl y hy).1;revert this;cases y.var;simp only [okTm,Tm.name];exact fun h=>h.2.1)).m (g:=g) (b:=b);have hT:=fun y (hy:y∈l)=>(Zer (mc:=.lit (.map (some b))) hg (hl y hy).2 (ht y hy)).m (g:=g) (b:=b);have hC:=fun y z (hy:y∈l) (hz:z∈l)=>(Zli (hl y hy).1 (hl z hz).1).m (g:=g) (b:=b)
 have bb:Zav 8 (ZbE l)=true:=by
  refine List.all_eq_true.2 fun r hr=>?_;obtain ⟨y,hy,rfl⟩:=Tbi.1 hr;simp [Zbt,List.all_append,tmz]
 by_cases h8:l.length<=8;rotate_left
 ·have q1:=lT 8 l.length;have hf:Zdl g l=false:=Zgh fun h=>h8 h.len;rw [hf];refine gI (ts:=[.slot 4]) 72057594037943923 Tryz.func105 ?_;exact fD (aj3 @q1 @bl @tmM)
 have q1:=lF 8 l.length;refine gI (ts:=[.slot 4]) 72057594037943923 Tryz.func105 ?_;refine fG (aj3 @q1 @bl @tmM) ?_;have F:=@tmM;refine gL (ι:=Nat) [4,5,6,12,13,56] [] (fun i=>[(12,A.d (.one (.lit (.int .i64 i))))]) (fun i=>[]) (fun i=>i<=l.length∧∀ (j:Nat) y,j < i->l[j]?=some y->SbsAt g l j y) (fun i=>l.length - i) (0) (⟨Taj _,fun j y h=>absurd h om⟩) (fun i hi=>?_);clear F;obtain ⟨hi,hall⟩:=hi;by_cases hil:i < l.length
 rotate_left
 ·obtain rfl:i=l.length:=by omega
  have q2:=lF l.length l.length;have hf:Zdl g l=true:=Zi7 ⟨h8,fun j y hj=>hall j y (Tad.1 hj).1 hj⟩;rw [hf];exact fD (aj3 @q2 @bl @tmM)
 have q2:=lT i l.length;obtain ⟨y,hy⟩:∃ y,l[i]?=some y:=⟨_,Taa hil⟩;have hym:=Tac hy;have hbad:¬ SbsAt g l i y->Zdl g l=false:=fun h=>Zgh fun h'=>h (h'.at' i y hy);have cV:=hV y hym;refine fN 6 (aj8 @q2 @bl @bb @bg @hy @bdz @Zal @tmM) ?_;refine gB ?_;refine fC (ai @bdz @tmM) (cV) ?_;by_cases hvo:Zdi g y.var;rotate_left
 ·have hVf:ZfE g y.var=false:=by simp [ZfE,hvo]
  have hf:=hbad fun h=>hvo h.var;rw [hVf,hf];refine fR (ai @bdz @tmM) ?_;exact fD @tmM
 have hVt:ZfE g y.var=true:=by simp [ZfE,hvo]
 rw [hVt];obtain ⟨k,hk⟩:∃ k:Nat,y.var.sort=k:=⟨y.var.sort.toNat,by have:=hvo.2.2.1;omega⟩;have hk8:k < 8:=by have:=hvo.2.2.2.1;have:=hg.sorts.n8;omega
 have hkt:y.var.sort.toNat=k:=om;have hsh:=ZgR (k:=k) om;have hwi:=Zan (k:=i) om;have cT:=hT y hym;have hnext:TermOk g y.to->(sortsTm g y.to).testBit k=true->(∀ (j:Nat) p,i=j+1->l[j]?=some p->Zag p.var y.var < 0)->i+1<=l.length∧∀ (j:Nat) z,j < i+1->l[j]?=some z->SbsAt g l j z:=fun b1 b2 ho=>⟨hil,fun j z h1 h2=>by
  by_cases e:j=i
  ·subst e;rw [hy] at h2;injection h2 with h2
   subst h2;exact ⟨hvo,ho,b1,by rw [hkt];exact b2⟩
  ·exact hall j z om h2⟩
 by_cases hi0:i=0
 ·subst hi0;have q4:=lF 0 (0:Nat);have hord:∀ (j:Nat) p,0=j+1->l[j]?=some p->Zag p.var y.var < 0:=fun j p h=>absurd h om;refine fC (aj4 @q4 @bdz @Zal @tmM) (cT) ?_
  cases hb:ZaQ g y.to with
  | false =>
   have hf:=hbad fun h=>by rw [ZcB h.to'] at hb;cases hb
   rw [hf];refine fR (ai @bdz @tmM) ?_;exact fD @tmM
  | true =>
  have hto:=Zbx.1 hb;have hso:=ZbX (ZeX hg hto.form.node) hg.sorts.n8;have hba:=Zee hso (show 2 ^ k < 4611686018427387904 from Tbd (Nat.pow_lt_pow_right om hk8) (by decide));have hbp:=ZvE (sortsTm g y.to) k;have cO:=Znu (b:=b) hg hto.size hto.form;refine fC (ai @bdz @tmM) (cO) ?_
  cases hbt:(sortsTm g y.to).testBit k with
  | false =>
   have q6:(((sortsTm g y.to &&& 2 ^ k:Nat):Int)=0)=True:=eq_true (by rw [hbp.2 hbt];rfl);have hf:=hbad fun h=>by rw [<- hkt,h.srt] at hbt;cases hbt
   rw [hf];generalize 2 ^ k=K at *;refine fR (aj6 @hk @hsh @hba @q6 @bdz @tmM) ?_;exact fD @tmM
  | true =>
   have q6:(((sortsTm g y.to &&& 2 ^ k:Nat):Int)=0)=False:=eq_false (fun h=>by rw [hbp.1 om] at hbt;cases hbt);have hn2:=hnext hto hbt hord;generalize 2 ^ k=K at *;refine fR (aj6 @hk @hsh @hba @q6 @bdz @tmM) ?_;have F:=aj3 @hwi @bdz @tmM;refine gG ?_;exact ⟨0+1,hn2,gw,gw,om⟩
 obtain ⟨j,rfl⟩:∃ j,i=j+1:=⟨i - 1,om⟩;have q4:=lT 0 (j+1:Nat);obtain ⟨p,hp⟩:∃ p,l[j]?=some p:=⟨_,Taa om⟩;have cC:=hC p y (Tac hp) hym;have wj:IntKind.i64.wrap (((j+1:Nat):Int) - 1)=(j:Int):=ZaM om om om;have i1:(j < l.length)=True:=eq_true om;refine fC (aj10 @q4 @wj @i1 @bl @bb @bg @hp @bdz @Zal @tmM) (cC) ?_;by_cases hcm:Zag p.var y.var < 0;rotate_left
 ·have q5:((0:Int)<=Zag p.var y.var)=True:=eq_true om;have hf:=hbad fun h=>hcm (h.ord j p rfl hp);rw [hf];refine fR (aj3 @q5 @bdz @tmM) ?_;exact fD @tmM
 have q5:((0:Int)<=Zag p.var y.var)=False:=eq_false om;have hord:∀ (j':Nat) p',j+1=j'+1->l[j']?=some p'->Zag p'.var y.var < 0:=fun j' p' h h1=>by
  obtain rfl:j=j':=by omega
  rw [hp] at h1;injection h1 with h1
  subst h1;exact hcm
 refine fC (aj4 @q5 @bdz @Zal @tmM) (cT) ?_
 cases hb:ZaQ g y.to with
 | false =>
  have hf:=hbad fun h=>by rw [ZcB h.to'] at hb;cases hb
  rw [hf];refine fR (ai @bdz @tmM) ?_;exact fD @tmM
 | true =>
 have hto:=Zbx.1 hb;have hso:=ZbX (ZeX hg hto.form.node) hg.sorts.n8;have hba:=Zee hso (show 2 ^ k < 4611686018427387904 from Tbd (Nat.pow_lt_pow_right om hk8) (by decide));have hbp:=ZvE (sortsTm g y.to) k;have cO:=Znu (b:=b) hg hto.size hto.form;refine fC (ai @bdz @tmM) (cO) ?_
 cases hbt:(sortsTm g y.to).testBit k with
 | false =>
  have q6:(((sortsTm g y.to &&& 2 ^ k:Nat):Int)=0)=True:=eq_true (by rw [hbp.2 hbt];rfl);have hf:=hbad fun h=>by rw [<- hkt,h.srt] at hbt;cases hbt
  rw [hf];generalize 2 ^ k=K at *;refine fR (aj6 @hk @hsh @hba @q6 @bdz @tmM) ?_;exact fD @tmM
 | true =>
  have q6:(((sortsTm g y.to &&& 2 ^ k:Nat):Int)=0)=False:=eq_false (fun h=>by rw [hbp.1 om] at hbt;cases hbt);have hn2:=hnext hto hbt hord;generalize 2 ^ k=K at *;refine fR (aj6 @hk @hsh @hba @q6 @bdz @tmM) ?_;have F:=aj3 @hwi @bdz @tmM;refine gG ?_;exact ⟨j+1+1,hn2,gw,gw,om⟩
end
section
variable {g:Sgn} {l:List Bd}
theorem ZrY (hb:l.length+bulkRows (ZbE l)<=1048576):∀ y∈l,bulkRow (Zab y.var)<=1048576∧bulkRow (Zab y.to)<=1048576:=fun y hy=>by
 have h1:=ZfI (List.mem_map_of_mem (f:=Zbt) hy);have h2:bulkRow (Zbt y)=bulkRow (Zab y.var)+bulkRow (Zab y.to):=ZfX _ _;have h3:bulkRows (l.map Zbt)=bulkRows (ZbE l):=rfl;omega
theorem Ze0 {t:Tm} (h:TermOk g t):bulkRow (Zab t)<=1048576:=by
 have h1:=Zkn h.form;have h2:=h.size;omega
open Classical in
noncomputable def aS (g:Sgn) (l:List Bd) (t:Tm):Option Tm:=if Zbl g=true∧Zdl g l=true∧ZaQ g t=true then apT g l t else none
theorem ZgA:Zdl g l=true ↔ SbsOk g l:=by simp [Zdl]
theorem Zfl (hok:Zcg g) (hl:Zgg l) (hb:l.length+bulkRows (ZbE l)<=1048576) {t:Tm} (ht:okTm t) (htb:bulkRow (Zab t)<=1048576):Con e0 161 [.agg (Zas g),.one (.sl (ZbE l)),.agg (Zab t)] [.agg (Zab ((aS g l t).getD zTm)),.one (.lit (.bool (aS g l t).isSome))]:=by
 have cS:=Ztm hok hl (fun y hy=>ZbM (ZrY hb y hy).1) (fun y hy=>ZbM (ZrY hb y hy).2);have cT:=ZcG hok ht (ZbM htb);have hz:=Zc9;have z1:(none:Option Tm).getD zTm=zTm:=rfl;have z2:(none:Option Tm).isSome=false:=rfl;by_cases h:Zbl g=true∧Zdl g l=true∧ZaQ g t=true;rotate_left
 ·have e:aS g l t=none:=by unfold aS;rw [if_neg h]
  rw [e];rw [Zas] at cS cT ⊢;refine gI (ts:=[.cell 6 46,.slot 7]) 537396207 Tryz.func161 ?_;refine fN 1 @tmz ?_;refine gB ?_;refine fC @tmz (cS) ?_
  cases h1:(Zbl g && Zdl g l) with
  | false =>
   refine fR @tmz ?_;exact fD (aj4 @z1 @z2 @hz @tmz)
  | true =>
  have h2:(Zbl g && ZaQ g t)=false:=by
   rw [Tar] at h1
   cases h3:ZaQ g t with
   | false=>rw [Bool.and_false]
   | true=>exact absurd ⟨h1.1,h1.2,h3⟩ h
  rw [h2] at cT;refine fC @tmz (cT) ?_;refine fR @tmz ?_;exact fD (aj4 @z1 @z2 @hz @tmz)
 obtain ⟨h1,h2,h3⟩:=h;have e:aS g l t=apT g l t:=by unfold aS;rw [if_pos ⟨h1,h2,h3⟩]
 have hg:=ZdK.1 h1;have hS:=ZgA.1 h2;have hT:=Zbx.1 h3;have cA:=Zto hok hg hS.w _ (Tan _) hT;rw [e];rw [h1,h2] at cS;rw [h1,h3] at cT;rw [Zas] at cS cT cA ⊢;refine gI (ts:=[.cell 6 46,.slot 7]) 537396207 Tryz.func161 ?_;refine fN 1 @tmz ?_;refine gB ?_;refine fC @tmz (cS) ?_;refine fC @tmz (cT) ?_;refine fR @tmz ?_;refine fN 3 @tmz ?_;refine gB ?_;refine fC @tmz (cA) ?_;refine fR @tmz ?_
 cases hu:apT g l t with
 | none=>(exact fD (aj4 @z1 @z2 @hz @tmz))
 | some u =>
  have z3:(some u).getD zTm=u:=rfl;have z4:(some u).isSome=true:=rfl;have hk:=Ziv hg hS.to' _ t (Tan _) hT hu;have cC:=ZeY u (Ze0 hk);rw [ZrX hu];refine fN 6 (aj3 @z3 @z4 @tmz) ?_;refine gB ?_;refine fC @tmz (cC) ?_;refine fR @tmz ?_;exact fD (aj3 @z3 @z4 @tmz)
theorem Zqu {t u:Tm} (h:aS g l t=some u):TermOk g u:=by
 unfold aS at h;split at h
 ·next hc=>exact Ziv (ZdK.1 hc.1) (ZgA.1 hc.2.1).to' _ t (Tan _) (Zbx.1 hc.2.2) h
 ·cases h
theorem ZFB {t u:Tm} (h:aS g l t=some u):SgnOk g:=by
 unfold aS at h;split at h
 ·next hc=>exact ZdK.1 hc.1
 ·cases h
end
end Go.Proofs.YtcgacanpeaiabaaGreatDoor
namespace Go.Proofs.YtcgacanpeaiabaaGreatDoor
open Go.RowKit
open Go.Sort (grow HoldsK putRowK flatK SWO PermIn SortedIn Holds mapBlock onCells putRow putCells get_flatK size_flatK)
theorem ZAB {w w':World} (h:Kept True (fun _=>False) w.heap.size w w'):∃ q os,w'=grow (w.drewN q) os:=by
 obtain ⟨p,hp⟩:=regrown_of_below (w:=w) (w':=w') ⟨h.os,h.tape,h.output,h.size,fun k hk=>h.block k hk id⟩;have hd:=h.drawn trivial;have e:p.d=w'.drawn:=by rw [hp];rfl
 refine ⟨w'.drawn - w.drawn,p.os,?_⟩;have e2:redrawn w p.d=w.drewN (w'.drawn - w.drawn):=by
  unfold redrawn World.drewN;rw [e,show w.drawn+(w'.drawn - w.drawn)=w'.drawn by omega]
 rw [<- e2];exact hp
abbrev SRow (w:World) (S:Nat->Prop) (Q:List C->Prop):={x:List C × List Value // Q x.1∧Zad w S x.1 x.2}
theorem ZrZ {w:World} {S:Nat->Prop} {b k:Nat} {Q:List C->Prop} (hk:∀ r,Q r->r.length=k):∀ (rows:List (List C)) (off:Nat),(∀ r∈rows,Q r)->Zap w S b off rows->∃ l:List (SRow w S Q),l.map (fun x=>x.1.1)=rows∧∀ (i:Nat) x,l[i]?=some x->∀ j u,x.1.2[j]?=some u->w.cell? ⟨b,off+i * k+j,none⟩=some u
 | [],off,_,_=>⟨[],rfl,fun i x h=>by simp at h⟩
 | r::rs,off,hQ,h=>by
  simp only [Zap] at h;obtain ⟨vs,h1,h2⟩:=h.1.vals;obtain ⟨l,e,hl⟩:=ZrZ hk rs (off+r.length) (fun x hx=>hQ x (Tal _ hx)) h.2;have hr:=hQ r Tas;refine ⟨⟨(r,vs),hr,h1⟩::l,by simp [e],fun i x hi j u hj=>?_⟩
  cases i with
  | zero =>
   simp only [Tat,Taq] at hi;subst hi;have:=h2 j u hj
   rwa [Nat.zero_mul,Nat.add_zero]
  | succ i =>
   have:=hl i x (by simpa using hi) j u hj;rw [hk r hr] at this
   rwa [show off+(i+1) * k+j=off+k+i * k+j by rw [Nat.succ_mul];omega]
theorem Znw {w W:World} {S S2:Nat->Prop} {b k:Nat} {Q:List C->Prop} (hk:∀ r,Q r->r.length=k) (hv:∀ x:SRow w S Q,Zad W S2 x.1.1 x.1.2):∀ (l:List (SRow w S Q)) (off:Nat),(∀ (i:Nat) x,l[i]?=some x->∀ j u,x.1.2[j]?=some u->W.cell? ⟨b,off+i * k+j,none⟩=some u)->Zap W S2 b off (l.map (fun x=>x.1.1))
 | [],off,_=>by simp [Zap]
 | x::l,off,h=>by
  simp only [Tbu,Zap];refine ⟨Zak.of_vals _ _ off (hv x) fun j u hj=>?_,?_⟩
  ·have:=h 0 x rfl j u hj
   rwa [Nat.zero_mul,Nat.add_zero] at this
  ·rw [hk _ x.2.1];refine Znw hk hv l (off+k) fun i y hi j u hj=>?_;have:=h (i+1) y (by simpa using hi) j u hj
   rwa [show off+(i+1) * k+j=off+k+i * k+j by rw [Nat.succ_mul];omega] at this
theorem Zr0 {α:Type} [Inhabited α] {enc:α->List Value} {k:Nat} {W:World} {b:Nat} {d:Array α} (hk:∀ x,(enc x).length=k) (h:HoldsK enc k W b 0 d) {i:Nat} {x:α} (hi:d.toList[i]?=some x) {j:Nat} {u:Value} (hj:(enc x)[j]?=some u):W.cell? ⟨b,0+i * k+j,none⟩=some u:=by
 have hil:i < d.size:=by have:=(Tad.1 hi).1;simpa using this
 have hjl:j < k:=by have:=(Tad.1 hj).1;rwa [hk] at this
 have ht:i * k+j < d.size * k:=by
  have:=Nat.mul_le_mul_right k (show i+1<=d.size from hil);rw [Nat.succ_mul] at this;omega
 have h1:=(h (i * k+j) (by rw [size_flatK];exact ht)).1;rw [get_flatK _ _ _ _ ht,show (i * k+j) / k=i by rw [Nat.add_comm,Nat.add_mul_div_right _ _ om,Nat.div_eq_of_lt hjl,Nat.zero_add],show (i * k+j) % k=j by rw [Nat.add_comm,Nat.add_mul_mod_self_right,Nat.mod_eq_of_lt hjl]] at h1;have e1:d[i]! = x:=by
  rw [getElem!_pos d i hil];have:=(Tad.1 hi).2;simpa using this
 have e2:(enc x)[j]! = u:=by
  rw [getElem!_pos (enc x) j (by rw [hk];exact hjl)];exact (Tad.1 hj).2
 rw [e1,e2,<- Tbw] at h1;exact h1
theorem ZAC {α:Type} [Inhabited α] {enc:α->List Value} {k:Nat} {w:World} {b:Nat} {l:List α} (hk:∀ x,(enc x).length=k) (hf:∀ o,w.frozen? ⟨b,o,none⟩=false) (h:∀ (i:Nat) x,l[i]?=some x->∀ j u,(enc x)[j]?=some u->w.cell? ⟨b,0+i * k+j,none⟩=some u):HoldsK enc k w b 0 l.toArray:=by
 intro t ht;refine ⟨?_,hf _⟩;rw [size_flatK] at ht;have ht':t < l.length * k:=by simpa using ht
 have k0 : 0 < k := by rcases Nat.eq_zero_or_pos k with e | e; · subst e; simp at ht'
                       ·exact e
 have hi:t / k < l.length:=Nat.div_lt_of_lt_mul (by rw [Nat.mul_comm];exact ht');have hj:t % k < k:=Nat.mod_lt _ k0;rw [get_flatK _ _ _ _ ht];have e1:l.toArray[t / k]! = l[t / k]:=by rw [getElem!_pos _ _ (by simpa using hi)];rfl
 rw [e1,getElem!_pos _ _ (by rw [hk];exact hj)];have:=h (t / k) l[t / k] (Taa hi) (t % k) _ (Taa (by rw [hk];exact hj))
 rwa [show 0+t / k * k+t % k=0+t by have:=Nat.div_add_mod' t k;omega] at this
theorem Zad.one {w:World} {S:Nat->Prop}:∀ {cs:List C} {us:List Value},cs.all ZaB=true->Zad w S cs us->∀ v∈us,v.oneCell'=true
 | [],[],_,_,v,h=>by simp at h
 | c::cs,u::us,hc,h,v,hv=>by
  simp only [List.all_cons,Tar] at hc;simp only [Zad] at h;rcases Tbg.1 hv with rfl | hv
  ·exact ZgH hc.1 h.1
  ·exact Zad.one hc.2 h.2 v hv
 | [],_::_,_,h,_,_=>by simp [Zad] at h
 | _::_,[],_,h,_,_=>by simp [Zad] at h
theorem ZCn {α:Type} [Inhabited α] {enc:α->List Value} {k:Nat} {w:World} {b n:Nat} {d:Array α} {os:Array Obj} {cur:Array Value} {ty:Nat} (hh:w.heap[b]?=some (.cells cur ty (0,0))):(sortWorldK enc k w b 0 n d os).heap[b]?=some (.cells (putCells id 0 (flatK enc k d) cur) ty (0,0)):=by
 have hb:b < w.heap.size:=(Tbl.1 hh).1;show ((w.heap.modify b (onCells (putCells id 0 (flatK enc k d))))++os)[b]?=_;rw [Array.getElem?_append_left (by simpa using hb),Array.getElem?_modify,if_pos rfl,hh];rfl
theorem Zl8 {α:Type} [Inhabited α] {enc:α->List Value} {k:Nat} {w:World} {b n j:Nat} {d:Array α} {os:Array Obj} (hj:j < w.heap.size) (hne:j≠b):(sortWorldK enc k w b 0 n d os).heap[j]?=w.heap[j]?:=by
 show ((w.heap.modify b (onCells (putCells id 0 (flatK enc k d))))++os)[j]?=_;rw [Array.getElem?_append_left (by simpa using hj),Array.getElem?_modify,if_neg (fun e=>hne e.symm)]
theorem Zg5 {α:Type} [Inhabited α] {enc:α->List Value} {k:Nat} {w:World} {b n:Nat} {d:Array α} {os:Array Obj}:w.heap.size<=(sortWorldK enc k w b 0 n d os).heap.size:=by
 show _<=((w.heap.modify b (onCells (putCells id 0 (flatK enc k d))))++os).size;simp
theorem ZAD {P:Program} (hP:e1.P=P) {ρ:Go.Shelf.Ren} (L:SlLaysF0.n6 P ρ) {k ty:Nat} (aE:∀ w,(isAgg (ρ.t 24)).run P w=.ok true w) (zE:∀ w,(Go.sizeOf (ρ.t 24)).run P w=.ok k w) (hbody:Zcs P (ρ.f 6)=true) {g:FuncId} (eg:∀ args w,(callFunc g args).run P w=.ok (.enter g args) w)
  {rows rows':List (List C)} {cf:List C->List C->Int} (hlen:rows.length < 4611686018427387904) (hg:∀ a∈rows,∀ b∈rows,Con e1 g [.agg a,.agg b] [.one (.lit (.int .i64 (cf a b)))])
  (h1:∀ a∈rows,¬ cf a a < 0) (h2:∀ a∈rows,∀ b∈rows,∀ c∈rows,cf a b < 0->cf b c < 0->cf a c < 0) (h3:∀ a∈rows,∀ b∈rows,∀ c∈rows,¬ cf a b < 0->¬ cf b c < 0->¬ cf a c < 0)
  (hu:∀ l:List (List C),l.Perm rows->(∀ (i j:Nat) a b,i < j->l[i]?=some a->l[j]?=some b->¬ cf b a < 0)->l=rows'):ConI e1 (ρ.f 6) ty k rows [.one (.fn g [])] rows' []:=by
 refine ⟨by rw [hP];exact hbody,fun w S v0 vs hS hE hvE hG hbuf hargs=>?_⟩;rw [hP]
 match vs,hargs with
 | [u],hargs =>
  obtain ⟨⟨us,rfl,hus⟩,_⟩:(∃ us:List Value,u=.func (.func g) #[] us.toArray∧Zad w S [] us)∧True:=by simpa [ZaL,DRel,Rep] using hargs
  have hus0:us=[]:=by cases us with
   | nil=>rfl
   | cons _ _=>simp [Zad] at hus
  subst hus0;obtain ⟨h0,hrl,hcase⟩:=hbuf;by_cases hne:rows=[]
  ·subst hne;have hr':rows'=[]:=(hu [] (List.Perm.refl _) (fun i j a b _ h=>by simp at h)).symm;subst hr';have hform:∃ p cap,v0=.slice p 0 cap:=by
    rcases hcase with ⟨_,a,rfl⟩ | ⟨b,cap,cur,rfl,_⟩
    ·exact ⟨a,0,rfl⟩
    ·exact ⟨_,cap,rfl⟩
   obtain ⟨p,cap,hv0⟩:=hform;rw [hv0];refine (AnyF.slices_SortFunc_none (P:=P) L p cap _ w).mono ?_;rintro e w' ⟨rfl,rfl⟩;rw [<- hv0];have hs:(fun b=>S b∨(w'.heap.size<=b∧b < w'.heap.size))=S:=by
    funext b;exact propext ⟨fun h=>h.elim id (fun h=>absurd h.2 om),.inl⟩
   refine ⟨_,rfl,Kept.refl ..,hG,?_,[],rfl,trivial⟩;rw [hs];exact ⟨h0,hrl,hcase⟩
  ·rcases hcase with ⟨e,_⟩ | ⟨b,cap,cur,rfl,hc,hbz,hSb,hh,hle,hmx,hcs,hrows⟩
   ·exact absurd e hne
   have hkr:∀ r,r∈rows->r.length=k:=fun r hr=>(hrl r hr).1;obtain ⟨l,hl,hcell⟩:=ZrZ (k:=k) (Q:=fun r=>r∈rows) hkr rows 0 (fun r h=>h) hrows;have hll:l.length=rows.length:=by have:=congrArg List.length hl;rwa [Tay] at this
   obtain ⟨x0,hx0⟩:∃ x,x∈l:=List.exists_mem_of_ne_nil _ (fun e=>hne (Tao (by rw [<- hll,e];rfl)))
   letI:Inhabited (SRow w S (fun r=>r∈rows)):=⟨x0⟩
   have hk:∀ x:SRow w S (fun r=>r∈rows),x.1.2.length=k:=fun x=>by rw [x.2.2.len];exact hkr _ x.2.1
   have h1c:∀ x:SRow w S (fun r=>r∈rows),∀ v∈x.1.2,v.oneCell'=true:=fun x=>Zad.one (hrl _ x.2.1).2 x.2.2;have hH:HoldsK (fun x:SRow w S (fun r=>r∈rows)=>x.1.2) k w b 0 l.toArray:=ZAC hk (fun o=>frozen_of_row w b o cur ty hh) hcell
   have keepV:∀ (m:Nat) (os:Array Obj) (dk:Array (SRow w S (fun r=>r∈rows))) (S2:Nat->Prop),(∀ b,S b->S2 b)->∀ x:SRow w S (fun r=>r∈rows),Zad (sortWorldK (fun x:SRow w S (fun r=>r∈rows)=>x.1.2) k w b 0 m dk os) S2 x.1.1 x.1.2:=fun m os dk S2 hS2 x =>
    Zad.keep2 Zg5 (fun b' o hb'=>ZbF (Zl8 (hS b' hb').1 (fun e:b'=b=>hSb (by rw [<- e];exact hb'))) o) hS2 x.2.2
   have hvb:vblk (.slice (some ⟨b,0,none⟩) rows.length cap)=some b:=by simp only [vblk];rw [if_neg om]
   have keepG:∀ (m:Nat) (os:Array Obj) (dk:Array (SRow w S (fun r=>r∈rows))),e1.G (sortWorldK (fun x:SRow w S (fun r=>r∈rows)=>x.1.2) k w b 0 m dk os):=fun m os dk =>
    Zqn.keep w _ Zg5 (fun b' hb'=>Zl8 (hE b' hb') (fun e=>hvE b hvb (e ▸ hb'))) hG
   have hcmp:CmpLays P g #[] (fun x:SRow w S (fun r=>r∈rows)=>x.1.2) k (fun x y=>cf x.1.1 y.1.1) b 0 l.toArray.size w:=by
    intro m os dk hdk x y
    have hc:=(hg _ x.2.1 _ y.2.1).2 (sortWorldK (fun x:SRow w S (fun r=>r∈rows)=>x.1.2) k w b 0 m dk os) S [.agg x.1.2.toArray,.agg y.1.2.toArray] (fun b' hb'=>⟨Tbd (hS b' hb').1 Zg5,(hS b' hb').2⟩) (fun b' h=>Tbd (hE b' h) Zg5) (keepG m os dk)
     ⟨⟨_,rfl,keepV m os dk S (fun _ h=>h) x⟩,⟨_,rfl,keepV m os dk S (fun _ h=>h) y⟩,trivial⟩
    rw [hP] at hc;refine hc.mono ?_;rintro e w' ⟨v,rfl,hK,hG',hv⟩;have hv:v=.int .i64 (cf x.1.1 y.1.1):=by simpa [retA,ARel,DRel,Rep] using hv
    exact ⟨by rw [hv],ZAB (hK.all1 (keepG m os dk) hG')⟩
   have hO:SWO (ltOf (fun x y:SRow w S (fun r=>r∈rows)=>cf x.1.1 y.1.1)):=by
    refine ⟨fun x=>?_,fun x y z=>?_,fun x y z=>?_⟩ <;> simp only [ltOf,decide_eq_false_iff_not,decide_eq_true_eq]
    ·exact h1 _ x.2.1
    ·exact h2 _ x.2.1 _ y.2.1 _ z.2.1
    ·exact h3 _ x.2.1 _ y.2.1 _ z.2.1
   have hsort:=AnyQ.slices_SortFunc L k aE zE (fun x:SRow w S (fun r=>r∈rows)=>x.1.2) hk h1c (fun x y=>cf x.1.1 y.1.1) hO g #[] b 0 cap l.toArray w eg hcmp hH hbz (by simp only [List.size_toArray];omega);have hlz:l.toArray.size=rows.length:=by simpa using hll
   rw [hlz] at hsort;refine hsort.mono ?_;rintro e w' ⟨rfl,d',n,os,hp,hs,rfl⟩;obtain ⟨hp1,_,hp3⟩:=hp;rw [hlz] at hp1;have hex:∀ a:Array (SRow w S (fun r=>r∈rows)),a.size=rows.length->a.extract 0 rows.length=a:=fun a ha=>by rw [<- ha];simp
   rw [hex d' hp1,hex _ hlz] at hp3;have hperm:(d'.toList.map (fun x=>x.1.1)).Perm rows:=by
    have:=hp3.map (fun x:SRow w S (fun r=>r∈rows)=>x.1.1)
    rwa [show l.toArray.toList=l from rfl,hl] at this
   have hrows':d'.toList.map (fun x=>x.1.1)=rows':=hu _ hperm fun i j a c hij ha hc=>by
    simp only [Tba,Tav] at ha hc;obtain ⟨x,hx,rfl⟩:=ha;obtain ⟨y,hy,rfl⟩:=hc;have hjl:j < rows.length:=by have:=(Tad.1 hy).1;simpa [hp1] using this
    have:=hs i j (Taj _) hij hjl;have ex:d'[i]! = x:=by
     rw [getElem!_pos d' i om];have:=(Tad.1 hx).2;simpa using this
    have ey:d'[j]! = y:=by
     rw [getElem!_pos d' j om];have:=(Tad.1 hy).2;simpa using this
    rw [ex,ey] at this;simpa [ltOf] using this
   have hlr:rows'.length=rows.length:=by rw [<- hrows',Tay,Array.length_toList,hp1]
   have hW:HoldsK (fun x:SRow w S (fun r=>r∈rows)=>x.1.2) k (sortWorldK (fun x:SRow w S (fun r=>r∈rows)=>x.1.2) k w b 0 n d' os) b 0 d':=SWK.holds (d0:=l.toArray) ⟨n,os,rfl⟩ hbz hH (by rw [hp1,hlz]);refine ⟨_,rfl,⟨rfl,rfl,rfl,fun _=>Nat.le_add_right _ _,Zg5,fun j hj hn=>Zl8 hj (fun e=>hn (.inr (by rw [hvb,e])))⟩,keepG n os d',⟨h0,fun r hr=>?_,.inr ⟨b,cap,_,by rw [hlr],hc,Tbd hbz Zg5,fun hn=>?_,ZCn hh,om,hmx,by simp [putCells,hcs],?_⟩⟩,[],rfl,trivial⟩
   ·rw [<- hrows'] at hr;exact hrl r (hperm.mem_iff.1 hr)
   ·rcases hn with hn | hn
    ·exact hSb hn
    ·omega
   ·rw [<- hrows'];exact Znw (Q:=fun r=>r∈rows) hkr (keepV n os d' _ (fun b hb=>.inl hb)) d'.toList 0 fun i x hi j u hj=>Zr0 hk hW hi hj
end Go.Proofs.YtcgacanpeaiabaaGreatDoor
namespace Go.Proofs.YtcgacanpeaiabaaGreatDoor
open Go.Shelf
def ZAE:Ren:=⟨fun | 6=>247 | 15=>186 | 14=>293 | 28=>266 | 29=>267 | 20=>309 | 21=>310 | 22=>311 | 23=>312 | 24=>313 | 25=>314 | 26=>315 | 27=>316 | 46=>327 | 47=>299 | 48=>300 | 49=>328 | 50=>329 | 57=>334 | n=>n,fun | 22=>44 | 24=>46 | 25=>238 | 3=>3 | 39=>241 | 0=>0 | 53=>302 | 55=>304 | 4=>4 | 46=>296 | 45=>295 | 50=>292 | 5=>5 | 9=>9 | 66=>322 | 70=>326 | 76=>338 | 77=>339 | n=>n,fun | n=>n⟩
theorem ZF5:Go.Proofs.SlLaysF0.n6 Tryz.prog ZAE:={
 mixed:=by kernel_rfl,
 f6:=⟨Tryz.f247.name,by decide,Tryz.func247.trans (congrArg some (by kernel_rfl))⟩,
 f14:=⟨Tryz.f293.name,by decide,Tryz.func293.trans (congrArg some (by kernel_rfl))⟩,
 f15:=Tryz.func186.trans (congrArg some (by kernel_rfl)),
 f20:=⟨Tryz.f309.name,by decide,Tryz.func309.trans (congrArg some (by kernel_rfl))⟩,
 f21:=⟨Tryz.f310.name,by decide,Tryz.func310.trans (congrArg some (by kernel_rfl))⟩,
 f22:=⟨Tryz.f311.name,by decide,Tryz.func311.trans (congrArg some (by kernel_rfl))⟩,
 f23:=⟨Tryz.f312.name,by decide,Tryz.func312.trans (congrArg some (by kernel_rfl))⟩,
 f24:=⟨Tryz.f313.name,by decide,Tryz.func313.trans (congrArg some (by kernel_rfl))⟩,
 f25:=⟨Tryz.f314.name,by decide,Tryz.func314.trans (congrArg some (by kernel_rfl))⟩,
 f26:=⟨Tryz.f315.name,by decide,Tryz.func315.trans (congrArg some (by kernel_rfl))⟩,
 f27:=⟨Tryz.f316.name,by decide,Tryz.func316.trans (congrArg some (by kernel_rfl))⟩,
 f28:=Tryz.func266.trans (congrArg some (by kernel_rfl)),
 f29:=Tryz.func267.trans (congrArg some (by kernel_rfl)),
 f46:=⟨Tryz.f327.name,by decide,Tryz.func327.trans (congrArg some (by kernel_rfl))⟩,
 f47:=Tryz.func299.trans (congrArg some (by kernel_rfl)),
 f48:=Tryz.func300.trans (congrArg some (by kernel_rfl)),
 f49:=⟨Tryz.f328.name,by decide,Tryz.func328.trans (congrArg some (by kernel_rfl))⟩,
 f50:=⟨Tryz.f329.name,by decide,Tryz.func329.trans (congrArg some (by kernel_rfl))⟩,
 f57:=⟨Tryz.f334.name,by decide,Tryz.func334.trans (congrArg some (by kernel_rfl))⟩,
 t0:=Tryz.underlying0,
 a0:=Tryz.isAgg0,
 z0:=Tryz.sizeOf0,
 v0:=Tryz.zeroValue0,
 t3:=Tryz.underlying3,
 a3:=Tryz.isAgg3,
 z3:=Tryz.sizeOf3,
 v3:=Tryz.zeroValue3,
 t4:=Tryz.underlying4,
 a4:=Tryz.isAgg4,
 z4:=Tryz.sizeOf4,
 v4:=Tryz.zeroValue4,
 t5:=Tryz.underlying5,
 a5:=Tryz.isAgg5,
 z5:=Tryz.sizeOf5,
 v5:=Tryz.zeroValue5,
 t9:=Tryz.underlying9,
 a9:=Tryz.isAgg9,
 z9:=Tryz.sizeOf9,
 v9:=Tryz.zeroValue9,
 t22:=Tryz.underlying44,
 a22:=Tryz.isAgg44,
 z22:=Tryz.sizeOf44,
 v22:=Tryz.zeroValue44,
 t25:=Tryz.underlying238,
 a25:=Tryz.isAgg238,
 z25:=Tryz.sizeOf238,
 v25:=Tryz.zeroValue238,
 t39:=Tryz.underlying241,
 a39:=Tryz.isAgg241,
 z39:=Tryz.sizeOf241,
 v39:=Tryz.zeroValue241,
 t45:=Tryz.underlying295,
 a45:=Tryz.isAgg295,
 z45:=Tryz.sizeOf295,
 v45:=Tryz.zeroValue295,
 t46:=Tryz.underlying296,
 a46:=Tryz.isAgg296,
 z46:=Tryz.sizeOf296,
 v46:=Tryz.zeroValue296,
 t50:=Tryz.underlying292,
 a50:=Tryz.isAgg292,
 z50:=Tryz.sizeOf292,
 v50:=Tryz.zeroValue292,
 t53:=Tryz.underlying302,
 a53:=Tryz.isAgg302,
 z53:=Tryz.sizeOf302,
 v53:=Tryz.zeroValue302,
 t55:=Tryz.underlying304,
 a55:=Tryz.isAgg304,
 z55:=Tryz.sizeOf304,
 v55:=Tryz.zeroValue304,
 t66:=Tryz.underlying322,
 a66:=Tryz.isAgg322,
 z66:=Tryz.sizeOf322,
 v66:=Tryz.zeroValue322,
 t70:=Tryz.underlying326,
 a70:=Tryz.isAgg326,
 z70:=Tryz.sizeOf326,
 v70:=Tryz.zeroValue326,
 t76:=Tryz.underlying338,
 a76:=Tryz.isAgg338,
 z76:=Tryz.sizeOf338,
 v76:=Tryz.zeroValue338,
 t77:=Tryz.underlying339,
 a77:=Tryz.isAgg339,
 z77:=Tryz.sizeOf339,
 v77:=Tryz.zeroValue339 }
end Go.Proofs.YtcgacanpeaiabaaGreatDoor
namespace Go.Proofs.YtcgacanpeaiabaaGreatDoor
open Go.RowKit
theorem ZEU {f:FuncId} {ty sz:Nat} {rows rows':List (List C)} {args r:List D} (h:ConI e1 f ty sz rows args rows' r):ConI e0 f ty sz rows args rows' r :=
 ⟨h.1,fun w S v0 vs h1 h2 h3 h4 h5 h6=>(h.2 w S v0 vs h1 h2 h3 h4 h5 h6).mono fun en w' ⟨v,k1,k2,k3⟩=>⟨v,k1,⟨k2.os,k2.tape,k2.output,fun d=>d.elim,k2.size,k2.block⟩,k3⟩⟩
theorem ZwC (ts:List Tm) (hl:ts.length<=4000000):ConI e0 247 46 4 (Zaa ts) [.one (.fn 182 [])] (Zaa (Zax ts)) []:=by
 have hrow:∀ a∈Zaa ts,a=Zab (unT a):=fun a ha=>by
  rw [Zby] at ha;obtain ⟨t,_,rfl⟩:=Tbi.1 ha;rw [Zvl]
 exact ZEU (ZAD (P:=Tryz.prog) rfl ZF5 (k:=4) (ty:=46) Tryz.isAgg46 Tryz.sizeOf46 (by kernel_rfl) (g:=182) (enters_of Tryz.func182 (by kernel_rfl) rfl) (rows:=Zaa ts) (rows':=Zaa (Zax ts)) (cf:=fun a b=>Zag (unT a) (unT b)) (by rw [Zae];omega)
  (fun a ha b hb=>by
   have h:=Zfo (unT a) (unT b)
   rwa [<- hrow a ha,<- hrow b hb] at h)
  (fun a _=>by rw [ZdL];omega) (fun a _ b _ c _ h1 h2=>ZfU h1 h2) (fun a _ b _ c _ h1 h2=>by
   rw [ZcN (unT b) (unT a)] at h1;rw [ZcN (unT c) (unT b)] at h2;rw [ZcN (unT c) (unT a)];have:=Zci (a:=unT c) (b:=unT b) (c:=unT a) om om;omega)
  (fun l hp hs=>by
   have hmem:∀ a∈l,a=Zab (unT a):=fun a ha=>hrow a (hp.mem_iff.1 ha);have hp2:(l.map unT).Perm ts:=by have:=hp.map unT;rwa [ZEt] at this
   have hup:Up (l.map unT):=by
    refine List.pairwise_iff_getElem.2 fun i j hi hj hij=>?_;simp only [List.getElem_map];simp only [Tay] at hi hj;have:=hs i j l[i] l[j] hij (Taa hi) (Taa hj);rw [ZcN (unT l[j]) (unT l[i])];omega
   have e:=ZkW (Zcx ts) hup ((Zbg ts).trans hp2.symm);rw [e,Zby,List.map_map]
   conv=>lhs;rw [<- List.map_id l]
   exact List.map_congr_left fun a ha=>hmem a ha))
def RCut (a:Option Addr) (cap ty sz:Nat) (rows:List (List C)) (r:List D) (pm:List Bk):Prop:=r=[.one (.lit (.slice a rows.length cap))]∧pm=[.buf (some (a,cap)) ty sz rows]
theorem ZAF {m:List (Nat × Bk)} {a:Option Addr} {n cap:Nat}:lenA m (some true) [nrm m (.d (.one (.lit (.slice a n cap))))]=some (.d (.one (.lit (.int .i64 (n:Int))))):=by
 show lenA m (some true) [ZkJ m a n cap (bufK a n cap m)]=_
 cases bufK a n cap m with
 | none=>rfl
 | some k =>
  show lenA m (some true) [nrmB a n cap k (gm m k)]=_
  cases hg:gm m k with
  | none=>rfl
  | some bk =>
   cases bk with
   | var o cs=>rfl
   | set E G=>rfl
   | buf o ty sz rows =>
    cases o with
    | none=>rfl
    | some q =>
     obtain ⟨a',cap'⟩:=q;simp only [nrmB];split
     ·rename_i h;show lenS (bufA (gm m k))=_;rw [hg,h.2.1];rfl
     ·rfl
theorem ZAG {m:List (Nat × Bk)} {a:Option Addr} {l h cap sz:Nat}:lenA m (some true) [nrm m (.d (.one (.lit (sliced a l h cap sz))))]=some (.d (.one (.lit (.int .i64 ((h - l:Nat):Int))))):=ZAF
theorem ZwD (l:List Tm) (k:Nat) (t:Tm):(Zaa l).set k (Zab t)=Zaa (l.set k t):=by rw [Zby,Zby,List.map_set]
theorem ZAH {α:Type} {l:List α} {i:Nat} {x:α} (h:i < l.length):(l.set i x).take (i+1)=l.take i++[x]:=by
 rw [List.take_add_one,List.take_set_of_le (Tai _)];simp [h]
theorem ZvF {l l':List Tm} {m:Nat} (h:l.drop m=l'.drop m) (i:Nat):l[m+i]?=l'[m+i]?:=by
 rw [<- Tbb,<- Tbb,h]
theorem ZCo {ts:List Tm} (h:ts.length < 2):ddT none ts=ts:=by
 match ts,h with
 | [],_=>rfl
 | [x],_=>rfl
theorem Zr1 (ts:List Tm) (hl:ts.length<=4000000) (a:Option Addr) (cap:Nat):ConP e0 248 [.one (.lit (.slice a ts.length cap)),.one (.fn 104 [])] [.buf (some (a,cap)) 46 4 (Zaa ts)] (RCut a cap 46 4 (Zaa (ddT none ts))):=by
 refine gIP (ts:=[.slot 4]) [1000] 562984581629171 Tryz.func248 ?_;by_cases h2:ts.length < 2
 ·have q1:=lT ts.length 2;refine fG (ai @q1 @tmz) ?_;rw [ZCo h2];exact (have F:=Zae;gTP (R:=RCut a cap 46 4 (Zaa ts)) [1000] ⟨by rw [Zae],rfl⟩)
 have q1:=lF ts.length 2;refine fG (ai @q1 @tmz) ?_;clear q1;obtain ⟨t0,ht0⟩:∃ t,ts[0]?=some t:=⟨_,Taa om⟩;have F:=@tmz;refine gL (ι:=Nat) [4,5,6,7,15,28,35,49] [] (fun x=>[(5,.d (.one (.lit (.int .i64 (x:Int)))))]) (fun x=>[]) (fun x=>1<=x∧x<=ts.length∧ddT none (ts.take x)=ts.take x) (fun x=>ts.length - x) (1) (⟨Tai _,om,by rw [ZEs ht0];cases ts with | nil=>simp at ht0 | cons y ys=>simp at ht0;simp [ht0]⟩) (fun x hx=>?_);clear F
 obtain ⟨hx1,hxn,hxd⟩:=hx;by_cases hlt:x < ts.length;rotate_left
 ·obtain rfl:x=ts.length:=by omega
  have q1:=lF ts.length ts.length;rw [Tap] at hxd;refine fG (ai @q1 @tmz) ?_;rw [hxd];exact (have F:=Zae;gTP (R:=RCut a cap 46 4 (Zaa ts)) [1000] ⟨by rw [Zae],rfl⟩)
 obtain ⟨u,hu⟩:∃ t,ts[x]?=some t:=⟨_,Taa hlt⟩;obtain ⟨z,rfl⟩:∃ z,x=z+1:=⟨x - 1,om⟩;obtain ⟨v,hv⟩:∃ t,ts[z]?=some t:=⟨_,Taa om⟩;have q1:=lT (z+1:Nat) ts.length;have w1:IntKind.i64.wrap (((z+1:Nat):Int) - 1)=(z:Int):=ZaM om om om;have w2:IntKind.i64.wrap (((z+1:Nat):Int)+1)=((z+1+1:Nat):Int):=ZaM om om om;have hz1:z+1 < ts.length:=hlt;have hz0:z < ts.length:=om;have hst:=Zrw hu hv;generalize hxx:z+1=x at *
 rw [show z+2=x+1 by omega] at hst;refine fB (ai @q1 @tmz) ?_;refine fC (aj8 @q1 @tmz @hu @hv @w1 @hz1 @hz0 @Zae) (Zcq u v) ?_;refine fR (ai @q1 @tmz) ?_;by_cases h0:Zag u v=0;rotate_left
 ·have q3:decide (Zag u v=0)=false:=decide_eq_false h0;rw [if_neg h0,hxd] at hst;have F:=ai @q3 @w2;refine gG ?_;exact ⟨x+1,⟨om,hlt,by rw [hst];simp [List.take_add_one,hu]⟩,gw,gw,om⟩
 have q3:decide (Zag u v=0)=true:=decide_eq_true h0;rw [if_pos h0,hxd] at hst;refine fN 7 (ai @q3 @tmz) ?_;refine gB ?_;have F:=ai @q3 @tmz;refine gP 2 ?_;clear F;have F:=Zae;refine gSub 1000 x ts.length ⟨om,by rw [Zae];exact Tai _⟩ ?_;clear F;refine fR @tmz ?_;refine fG @tmz ?_;have F:=@tmz;refine gL (ι:=Nat × Nat × List Tm) [5,7,35,49] [1000] (fun y=>[(7,.d (.one (.lit (.int .i64 (y.1:Int))))),(5,.d (.one (.lit (.int .i64 (y.2.1:Int)))))]) (fun y=>[(1000,.buf (some (a,cap)) 46 4 (Zaa y.2.2))]) (fun y=>1<=y.1∧x+y.1<=ts.length∧y.2.1+1<=x+y.1∧y.2.2.length=ts.length∧y.2.2.take y.2.1=ddT none (ts.take (x+y.1))∧y.2.2.drop (x+y.1 - 1)=ts.drop (x+y.1 - 1)) (fun y=>ts.length - y.1) ((1,x,ts)) (⟨Tai _,hlt,Tai _,rfl,hst.symm,rfl⟩) (fun y hy=>?_);clear F
 obtain ⟨j,k,us⟩:=y;obtain ⟨h1,h2',h3,h4,h5,h6⟩:=hy;simp only at h1 h2' h3 h4 h5 h6;dsimp only;have hn4:ts.length=us.length:=h4.symm;by_cases hj:j < ts.length - x
 ·obtain ⟨i,rfl⟩:∃ i,j=i+1:=⟨j - 1,om⟩;obtain ⟨u1,hu1⟩:∃ t,ts[x+i+1]?=some t:=⟨_,Taa om⟩;obtain ⟨v1,hv1⟩:∃ t,ts[x+i]?=some t:=⟨_,Taa om⟩;have e1:us[x+(i+1)]?=some u1:=by
   rw [<- hu1,show x+(i+1) - 1=x+i by omega] at *;exact ZvF h6 1
  have e2:us[x+i]?=some v1:=by
   rw [<- hv1,show x+(i+1) - 1=x+i by omega] at *;exact ZvF h6 0
  have q4:=lT (i+1:Nat) (ts.length - x:Nat);have w3:IntKind.i64.wrap (((i+1:Nat):Int) - 1)=(i:Int):=ZaM om om om;have w4:IntKind.i64.wrap (((i+1:Nat):Int)+1)=((i+1+1:Nat):Int):=ZaM om om om;have hst2:=Zrw hu1 hv1;rw [show x+i+2=x+(i+1+1) by omega,show x+i+1=x+(i+1) by omega,<- h5] at hst2;refine fN 11 (aj3 @q4 @ZAG @tmz) ?_;refine gB ?_;have F:=ai @q4 @tmz;refine gP 3 ?_;clear F;have F:=Zae;refine ZAi (l:=x) (h:=ts.length) (rows:=Zaa us) 1000 (i+1) ⟨om,by rw [Zae];omega⟩ ?_
  clear F;have F:=aj3 @tmz @e1 @w3;refine gP 4 ?_;clear F;have F:=Zae;refine ZAi (l:=x) (h:=ts.length) (rows:=Zaa us) 1000 i ⟨om,by rw [Zae];omega⟩ ?_;clear F;refine fC (ai @tmz @e2) (Zcq u1 v1) ?_;refine fR @tmz ?_;by_cases h7:Zag u1 v1=0
  ·have q5:decide (Zag u1 v1=0)=true:=decide_eq_true h7;rw [if_pos h7] at hst2;have F:=ai @q5 @w4;refine gG ?_;exact ⟨(i+1+1,k,us),⟨by dsimp only;omega,by dsimp only;omega,by dsimp only;omega,h4,hst2.symm,by rw [show x+(i+1+1) - 1=x+(i+1) - 1+1 by omega,<- List.drop_drop,<- List.drop_drop,h6]⟩,gw,gw,om⟩
  ·have q5:decide (Zag u1 v1=0)=false:=decide_eq_false h7;rw [if_neg h7] at hst2;obtain ⟨ok,hok⟩:∃ t,us[k]?=some t:=⟨_,Taa om⟩;have w5:IntKind.i64.wrap ((k:Int)+1)=((k+1:Nat):Int):=ZaM om om om;have hkl:k < us.length:=om;refine fN 12 (ai @q5 @tmz) ?_;refine gB ?_;have F:=ai @q5 @tmz;refine gP 4 ?_;clear F;have F:=Zae;refine ZFZ (l:=x) (h:=ts.length) (rows:=Zaa us) 1000 (i+1) ⟨om,by rw [Zae];omega⟩ ?_
   clear F;refine fR (aj6 @tmz @e1 @hok @hn4 @hkl @ZwD) ?_;have F:=aj3 @w4 @w5 @hn4;refine gG ?_;exact ⟨(i+1+1,k+1,us.set k u1),⟨by dsimp only;omega,by dsimp only;omega,by dsimp only;omega,by rw [Taz];exact h4,by rw [hst2,ZAH hkl],by rw [List.drop_set_of_lt om,show x+(i+1+1) - 1=x+(i+1) - 1+1 by omega,<- List.drop_drop,<- List.drop_drop,h6]⟩,gw,gw,om⟩
 ·have q4:=lF j (ts.length - x:Nat);have hjn:x+j=ts.length:=om;rw [hjn,Tap] at h5;have hkl:k < us.length:=om;refine fN 14 (aj3 @q4 @ZAG @tmz) ?_;refine gB ?_;have F:=ai @q4 @tmz;refine gP 2 ?_;clear F;have F:=ai Zae hn4;refine gSub 1000 k us.length ⟨om,by rw [Zae];exact Tai _⟩ ?_;rw [show us.length=(Zaa us).length by rw [Zae]];refine ZFq 1000 (by rw [Zae];exact hkl) ?_;clear F;have hRl:((Zaa us).take k++List.replicate ((Zaa us).length - k) [C.lit (Value.int IntKind.i64 0),C.lit (Value.string ByteArray.empty),C.lit (Value.int IntKind.i64 0),C.sl []]).length=us.length:=by simp [Zae];omega
  have hRt:((Zaa us).take k++List.replicate ((Zaa us).length - k) [C.lit (Value.int IntKind.i64 0),C.lit (Value.string ByteArray.empty),C.lit (Value.int IntKind.i64 0),C.sl []]).take k=Zaa (ddT none ts):=by
   rw [List.take_append_of_le_length (by simp [Zae];omega),List.take_take,Nat.min_self,ZbV,h5]
  generalize (Zaa us).take k++List.replicate ((Zaa us).length - k) [C.lit (Value.int IntKind.i64 0),C.lit (Value.string ByteArray.empty),C.lit (Value.int IntKind.i64 0),C.sl []]=R at hRl hRt ⊢;refine fR @tmz ?_;refine fN 15 (ai @q4 @tmz) ?_;refine gB ?_;have F:=ai @q4 @tmz;refine gP 2 ?_;clear F;have F:=ai hRl hn4;refine gSub 1000 0 k ⟨om,by rw [hRl];omega⟩ ?_;clear F;rw [Zlu];refine fR @tmz ?_;refine fG @tmz ?_
  refine pE [1000] [1000] (ZAh k (by rw [hRl];omega)) ?_;rw [hRt];have hk2:k=(Zaa (ddT none ts)).length:=by rw [Zae,<- h5,Taw];omega
  exact (have F:=Zae;gTP (R:=RCut a cap 46 4 (Zaa (ddT none ts))) [1000] ⟨by rw [<- hk2],rfl⟩)
theorem Zii (ts:List Tm):(Zax ts).length=ts.length:=(Zbg ts).length_eq
theorem ZEV (ts:List Tm):ddT none (Zax ts)=ZdM ts:=by rw [ZBY (Zcx ts),Zs6 (Zbg ts)]
theorem ZpT (ts:List Tm) (hl:ts.length<=4000000) (a:Option Addr) (cap:Nat):ConP e0 178 [.one (.lit (.slice a ts.length cap))] [.buf (some (a,cap)) 46 4 (Zaa ts)] (RCut a cap 46 4 (Zaa (ZdM ts))):=by
 have hc:=Zr1 (Zax ts) (by rw [Zii];exact hl) a cap;rw [Zii,ZEV] at hc;refine gIP (ts:=[.slot 2]) [1000] 5 Tryz.func178 ?_;refine fB @tmz ?_;have F:=@tmz;refine gCI (ZwC ts hl) (by rw [Zae,Zae,Zii]) ?_;clear F;refine fR @tmz ?_;refine fB @tmz ?_;have F:=@tmz;refine gCP [1000] [1000] (hc) ?_;clear F;rintro r pm ⟨rfl,rfl⟩;simp only [setA,retA,zipM,Taf,Tah];refine fR @tmz ?_;refine fG @tmz ?_;exact (have F:=Zae;gTP (R:=RCut a cap 46 4 (Zaa (ZdM ts))) [1000] ⟨rfl,rfl⟩)
mutual
theorem Zl9:∀ t:Tm,(ZbC t).length<=1+bulkRow (Zab t)
 | .mk op nm so args=>by
  have:=Zkr args;simp only [ZbC,Zab,bulkRow,ZaS,Zae];split
  ·simp
  ·omega
theorem Zkr:∀ ts:List Tm,(Zbk ts).length<=ts.length+bulkRows (Zaa ts)
 | []=>by simp [Zbk]
 | t::ts=>by
  have h1:=Zl9 t;have h2:=Zkr ts;simp only [Zbk,Zaa,bulkRows,Tae,Tag];omega
end
theorem ZAI {t:Tm} (h:bulkRow (Zab t)<=1048576):(ZbC t).length<=1048576:=by
 obtain ⟨op,nm,so,args⟩:=t;have:=Zkr args;simp only [ZbC,Zab,bulkRow,ZaS,Zae] at h ⊢;split
 ·simp
 ·omega
theorem Zks:∀ (l:List Tm) (t:Tm),Zbk (l++[t])=Zbk l++ZbC t
 | [],t=>by simp [Zbk]
 | x::xs,t=>by simp [Zbk,Zks xs t]
theorem Zhw {l:List Tm} {i:Nat} {t:Tm} (h:l[i]?=some t):Zbk (l.take (i+1))=Zbk (l.take i)++ZbC t:=by
 rw [show l.take (i+1)=l.take i++[t] by simp [List.take_add_one,h],Zks]
theorem Zjb:∀ (l:List Tm) (i:Nat),(Zbk (l.take i)).length<=(Zbk l).length
 | [],i=>by simp [Zbk]
 | x::xs,0=>by simp [Zbk]
 | x::xs,i+1=>by have:=Zjb xs i;simp only [Tbc,Zbk,Tae];omega
def visL (ts args:List Tm) (i:Nat):List Tm:=ts++Zbk (args.take i)
theorem ZFC (ts args:List Tm):visL ts args 0=ts:=by simp [visL,Zbk]
theorem ZAJ {ts args:List Tm} {i:Nat} {b:Tm} (h:args[i]?=some b):visL ts args (i+1)=visL ts args i++ZbC b:=by
 unfold visL;rw [Zhw h,Tbf]
theorem ZCp (ts args:List Tm):visL ts args args.length=ts++Zbk args:=by unfold visL;rw [Tap]
theorem ktF:ZaG Tryz.prog 234=some .one:=by kernel_rfl
theorem ztF:ZaH Tryz.prog 234=some 1:=by kernel_rfl
theorem otF:ZaD Tryz.prog 234=some [.lit .nilFunc]:=by kernel_rfl
theorem ZFD:ZaB (.lit .nilFunc)=true:=rfl
theorem okFn {f:FuncId} {cs:List C}:ZaB (.fn f cs)=true:=rfl
theorem Zly:Zaa []=[]:=by simp [Zaa]
theorem gTPn {X:Prop} {P:Program} {ts:List RS} {R:List D->List Bk->Prop} {σ:St} {r:List D} {pm:List Bk} (ks:List Nat) (hR:R r pm) (hx:ZkO P ts R .normal σ->X:=by first | exact fun h=>h | exact fun h=>⟨_,Wk.refl _,h⟩) (hr:resD P σ ts=some r:=by exact sfy) (hg:getM σ.m ks=some pm:=by exact sny) (hn:ks.Nodup:=by decide) (hp:pm.all pinned=true:=by exact sny):X :=
 hx ⟨r,ks,pm,hg,hn,hp,hR,ZfS hr⟩
def ptr0 (b:Nat):Value:=.pointer (some ⟨b,0,none⟩)
def RVis (bo bv:Nat) (f:FuncId) (ty:Nat) (ts:List Tm) (r:List D) (pm:List Bk):Prop:=∃ a cap,r=[]∧pm=[.var (some bo) [.lit (.slice a ts.length cap)],.buf (some (a,cap)) ty 4 (Zaa ts),.var (some bv) [.fn f [.lit (ptr0 bo),.lit (ptr0 bv)]]]
theorem ZpU (t:Tm) (ts:List Tm) (a:Option Addr) (cap bo bv:Nat) (hne:bo≠bv) (hb:bulkRow (Zab t)<=1048576) (hl:ts.length+(ZbC t).length<=4000000)
  (h:∀ x∈t.args,∀ (us:List Tm) (a:Option Addr) (cap:Nat),us.length+(ZbC x).length<=4000000->ConP e0 179 [.agg (Zab x),.one (.lit (ptr0 bo)),.one (.lit (ptr0 bv))] [.var (some bo) [.lit (.slice a us.length cap)],.buf (some (a,cap)) 46 4 (Zaa us),.var (some bv) [.fn 179 [.lit (ptr0 bo),.lit (ptr0 bv)]]] (RVis bo bv 179 46 (us++ZbC x))) :
  ConP e0 179 [.agg (Zab t),.one (.lit (ptr0 bo)),.one (.lit (ptr0 bv))] [.var (some bo) [.lit (.slice a ts.length cap)],.buf (some (a,cap)) 46 4 (Zaa ts),.var (some bv) [.fn 179 [.lit (ptr0 bo),.lit (ptr0 bv)]]] (RVis bo bv 179 46 (ts++ZbC t)):=by
 obtain ⟨op,nm,so,args⟩:=t;have hc:Zab (.mk op nm so args)=[.lit (.int .i64 op),.lit (.string nm),.lit (.int .i64 so),.sl (Zaa args)]:=by simp only [Zab]
 have hn1:(bo=bv)=False:=eq_false hne;have hn2:(bv=bo)=False:=eq_false (fun e=>hne e.symm);simp only [Tm.args] at h;simp only [Zab,bulkRow,ZaS,Zae] at hb;simp only [ptr0] at h ⊢;refine gIP (ts:=[]) [1001,1000,1002] 15728943 Tryz.func179 ?_;by_cases ho:op=-1
 ·have q1:(op=-1)=True:=eq_true ho;have e1:ZbC (.mk op nm so args)=[.mk (-1) nm so []]:=by simp only [ZbC,if_pos ho]
  rw [e1] at hl ⊢;simp only [Tag,Tak,Nat.zero_add] at hl;have hm:ts.length+1<=maxApp:=by unfold maxApp;omega
  have c1:Zab (.mk (-1) nm so [])=[.lit (.int .i64 (-1)),.lit (.string nm),.lit (.int .i64 so),.sl []]:=by simp only [Zab,Zaa]
  refine fN 2 (aj3 @hc @q1 @tmz) ?_
  have hR:∀ (a2:Option Addr) (cap2:Nat),RVis bo bv 179 46 (ts++[.mk (-1) nm so []]) [] [.var (some bo) [.lit (.slice a2 (ts.length+1) cap2)],.buf (some (a2,cap2)) 46 4 (Zaa ts++[[.lit (.int .i64 (-1)),.lit (.string nm),.lit (.int .i64 so),.sl []]]),.var (some bv) [.fn 179 [.lit (.pointer (some ⟨bo,0,none⟩)),.lit (.pointer (some ⟨bv,0,none⟩))]]]:=fun a2 cap2=>⟨a2,cap2,rfl,by
   rw [show Zaa (ts++[.mk (-1) nm so []])=Zaa ts++[[.lit (.int .i64 (-1)),.lit (.string nm),.lit (.int .i64 so),.sl []]] by rw [Zby,Tbv,<- Zby,Tbu,List.map_nil,c1],Tae];rfl⟩
  have a1:(ts.length < ts.length+1)=True:=eq_true (Tan _);have a2:∀ Z:List C,(Zaa ts++[Z])[ts.length]?=some Z:=fun Z=>by rw [Tbq (by rw [Zae];exact Tai _),Zae,Nat.sub_self];rfl
  have a3:∀ Z X:List C,(Zaa ts++[Z]).set ts.length X=Zaa ts++[X]:=fun Z X=>by rw [List.set_append_right _ _ (by rw [Zae];exact Tai _),Zae,Nat.sub_self];rfl
  have F:=aj10 a1 a2 a3 hc q1 @ZAF hm hn1 hn2 tmz;refine ZFV 8 ?_;refine gT1 8 ?_;refine gS 17 fun a2 cap2=>?_;refine ZaT ?_;refine gT2 9 11 ?_ ?_
  ·refine ZaT ?_;refine gT2 10 11 ?_ ?_
   ·refine ZaT ?_;refine gT1 11 ?_;refine ZaT ?_;refine gT0 ?_
    (refine wkI ?_;(refine fG @tmz ?_);exact (have F:=tmz;gTP [1001,17,1002] (hR a2 cap2)))
   ·refine ZaT ?_;refine gT1 10 ?_;refine ZaT ?_;refine gT0 ?_
    (refine wkI ?_;(refine fG @tmz ?_);exact (have F:=tmz;gTP [1001,17,1002] (hR a2 cap2)))
  ·refine ZaT ?_;refine gT1 9 ?_;refine ZaT ?_;refine gT1 10 ?_;refine ZaT ?_;refine gT0 ?_
   (refine wkI ?_;(refine fG @tmz ?_);exact (have F:=tmz;gTP [1001,17,1002] (hR a2 cap2)))
 ·have q1:(op=-1)=False:=eq_false ho;have e1:ZbC (.mk op nm so args)=Zbk args:=by simp only [ZbC,if_neg ho]
  rw [e1] at hl ⊢;have hal:args.length<=1048576:=om;refine fG (aj3 @hc @q1 @tmz) ?_;have F:=@ZFC;refine gL (ι:=Nat × Option Addr × Nat) [5,22,23] [1000,1001,1002] (fun x=>[(22,.d (.one (.lit (.int .i64 (x.1:Int)))))]) (fun x=>[(1001,.var (some bo) [.lit (.slice x.2.1 (visL ts args x.1).length x.2.2)]),(1000,.buf (some (x.2.1,x.2.2)) 46 4 (Zaa (visL ts args x.1))),(1002,.var (some bv) [.fn 179 [.lit (.pointer (some ⟨bo,0,none⟩)),.lit (.pointer (some ⟨bv,0,none⟩))]])]) (fun x=>x.1<=args.length) (fun x=>args.length - x.1) ((0,a,cap)) (Taj _) (fun x hx=>?_);clear F
  obtain ⟨i,a2,cap2⟩:=x;simp only at hx;dsimp only;by_cases hlt:i < args.length
  ·obtain ⟨b,hg⟩:∃ b,args[i]?=some b:=⟨_,Taa hlt⟩;have q2:=lT i args.length;have q4:IntKind.i64.wrap ((i:Int)+1)=(i:Int)+1:=IntWalk.i64_in _ om;have hvt:=Zhw hg;have hle:=Zjb args (i+1);rw [hvt,Tae] at hle;have hcon:=h b (Tac hg) (visL ts args i) a2 cap2 (by unfold visL;rw [Tae];omega);rw [<- ZAJ hg] at hcon;refine fB (aj6 @q2 @hc @Zae @Zb1 @hg @tmz) ?_;have F:=aj4 @ktF @hn1 @hn2 @tmz;refine gCP [1001,1000,1002] [1001,1000,1002] (hcon) ?_;clear F
   rintro r pm ⟨a3,cap3,rfl,rfl⟩;simp only [ptr0,setA,retA,zipM,Taf,Tah];refine fR @tmz ?_;have F:=@q4;refine gG ?_;exact ⟨(i+1,a3,cap3),hlt,gw,gw,om⟩
  ·obtain rfl:i=args.length:=by omega
   have q2:=lF args.length args.length;refine fG @q2 ?_;have hR:RVis bo bv 179 46 (ts++Zbk args) [] [.var (some bo) [.lit (.slice a2 (visL ts args args.length).length cap2)],.buf (some (a2,cap2)) 46 4 (Zaa (visL ts args args.length)),.var (some bv) [.fn 179 [.lit (.pointer (some ⟨bo,0,none⟩)),.lit (.pointer (some ⟨bv,0,none⟩))]]]:=by
    rw [<- ZCp];exact ⟨a2,cap2,rfl,rfl⟩
   exact (have F:=tmz;gTPn [1001,1000,1002] hR)
theorem Zr2 (bo bv:Nat) (hne:bo≠bv) (n:Nat):∀ (t:Tm),ZaC (Zab t) < n->bulkRow (Zab t)<=1048576->∀ (ts:List Tm) (a:Option Addr) (cap:Nat),ts.length+(ZbC t).length<=4000000->ConP e0 179 [.agg (Zab t),.one (.lit (ptr0 bo)),.one (.lit (ptr0 bv))] [.var (some bo) [.lit (.slice a ts.length cap)],.buf (some (a,cap)) 46 4 (Zaa ts),.var (some bv) [.fn 179 [.lit (ptr0 bo),.lit (ptr0 bv)]]] (RVis bo bv 179 46 (ts++ZbC t)):=by
 induction n with
 | zero=>exact fun _ h=>om
 | succ n ih =>
  intro t hn hb ts a cap hl;refine ZpU t ts a cap bo bv hne hb hl fun x hx us a cap hl2=>ih x ?_ ?_ us a cap hl2
  ·obtain ⟨op,nm,so,args⟩:=t;simp only [Zab,ZaC,Zcz] at hn;simp only [Tm.args] at hx;obtain ⟨i,hi⟩:=Tbk hx;have hi':(Zaa args)[i]?=some (Zab x):=by rw [Zb1,hi];rfl
   have h1:=ZbZ hi';omega
  ·obtain ⟨op,nm,so,args⟩:=t;simp only [Zab,bulkRow,ZaS] at hb;simp only [Tm.args] at hx;obtain ⟨i,hi⟩:=Tbk hx;have hi':(Zaa args)[i]?=some (Zab x):=by rw [Zb1,hi];rfl
   have h1:=Zck hi';omega
theorem Zhx (t:Tm) (hb:bulkRow (Zab t)<=1048576):Con e0 101 [.agg (Zab t)] [.one (.sl (Zaa (ZaW t)))]:=by
 have hv:=ZAI hb;refine gI (ts:=[.slot 2]) 31 Tryz.func101 ?_;refine fN 1 @tmz ?_;refine gB ?_;have F:=@tmz;refine gP 1 ?_;clear F;refine gO 5 46 4 ?_;refine gS 5 fun a cap=>?_;refine fR @tmz ?_;refine fN 3 (aj3 @otF @ztF @tmz) ?_;refine pV 3 fun b3 hb3=>?_;refine pV 4 fun b4 hb4=>?_;have hne:b3≠b4:=fun e=>hb4 3 b3 _ (by decide) rfl e.symm;clear hb3 hb4;have hn1:(b3=b4)=False:=eq_false hne;have hn2:(b4=b3)=False:=eq_false (fun e=>hne e.symm)
 refine fN 4 (aj7 @ktF @ztF @ZFD @okFn @hn1 @hn2 @tmz) ?_;refine gB ?_;have hcon:=Zr2 b3 b4 hne _ t (Tan _) om [] a cap (by simp;omega);have hdis:=fun (a:Option Addr) (cap:Nat)=>ZpT (ZbC t) om a cap;simp only [ptr0,Tak,Tah,Zly] at hcon;have F:=aj4 @ktF @hn1 @hn2 @tmz;refine gCP [3,5,4] [3,5,4] (hcon) ?_;clear F;rintro r pm ⟨a2,cap2,rfl,rfl⟩;simp only [ptr0,setA,retA,zipM,Taf,Tah];refine fR @tmz ?_
 refine fB @tmz ?_;have F:=aj3 @hn1 @hn2 @tmz;refine gCP [5] [5] (hdis a2 cap2) ?_;clear F;rintro r pm ⟨rfl,rfl⟩;simp only [setA,retA,zipM,Taf,Tah];refine fR @tmz ?_;refine pD 5 [2] [] ?_ (hs:=by exact snv);exact fD @tmz
theorem ZAK (nm:ByteArray) (so:Int):Con e0 141 [.one (.lit (.string nm)),.one (.lit (.int .i64 so))] [.agg (Zab (.mk (-1) nm so []))]:=by
 have c1:Zab (.mk (-1) nm so [])=[.lit (.int .i64 (-1)),.lit (.string nm),.lit (.int .i64 so),.sl []]:=by simp only [Zab,Zaa]
 rw [c1];refine gI (ts:=[.cell 4 46]) 19 Tryz.func141 ?_;exact fD @e0P
theorem ZwE {t x:Tm} {ts:List Tm} {i:Nat} (hx:ts[i]?=some x) (h:ZbA t ts=ts.take i++ZbA t (ts.drop i)) (hc:Zag x t < 0):ZbA t ts=ts.take (i+1)++ZbA t (ts.drop (i+1)):=by
 obtain ⟨hl,e⟩:=Tad.1 hx;rw [h,List.drop_eq_getElem_cons hl,e,ZbA,if_pos hc];simp [List.take_add_one,hx]
theorem ZwF {t x:Tm} {ts:List Tm} {i:Nat} (hx:ts[i]?=some x) (h:ZbA t ts=ts.take i++ZbA t (ts.drop i)) (hc:Zag x t=0):ZbA t ts=ts:=by
 obtain ⟨hl,e⟩:=Tad.1 hx;rw [h,List.drop_eq_getElem_cons hl,e,ZbA,if_neg om,if_pos hc,<- e,<- List.drop_eq_getElem_cons hl,Tbm]
theorem ZwG {t x:Tm} {ts:List Tm} {i:Nat} (hx:ts[i]?=some x) (h:ZbA t ts=ts.take i++ZbA t (ts.drop i)) (h1:¬ Zag x t < 0) (h2:¬ Zag x t=0):ZbA t ts=ts.take i++[t]++ts.drop i:=by
 obtain ⟨hl,e⟩:=Tad.1 hx;rw [h,List.drop_eq_getElem_cons hl,e,ZbA,if_neg h1,if_neg h2];simp
theorem ZAL {t:Tm} {ts:List Tm} {i:Nat} (hi:ts.length<=i) (h:ZbA t ts=ts.take i++ZbA t (ts.drop i)):ZbA t ts=ts.take i++[t]++ts.drop i:=by
 rw [h,List.drop_eq_nil_of_le hi,ZbA];simp
theorem Zr3 (ts:List Tm) (t:Tm) (hts:Zay ts) (ht:okTm t) (hl:ts.length<=8000000):Con e0 171 [.one (.sl (Zaa ts)),.agg (Zab t)] [.one (.sl (Zaa (ZbA t ts)))]:=by
 refine gI (ts:=[.slot 4]) 8590459003 Tryz.func171 ?_;refine fG @tmz ?_;have F:=@tmz;refine gL (ι:=Nat) [5,19] [] (fun x=>[(5,.d (.one (.lit (.int .i64 (x:Int)))))]) (fun x=>[]) (fun x=>x<=ts.length∧ZbA t ts=ts.take x++ZbA t (ts.drop x)) (fun x=>ts.length - x) (0) (⟨Taj _,rfl⟩) (fun x hx=>?_);clear F;obtain ⟨hi,hf⟩:=hx;by_cases hlt:x < ts.length
 ·obtain ⟨a,ha⟩:∃ n,ts[x]?=some n:=⟨_,Taa hlt⟩;have q1:=lT x ts.length;have q4:IntKind.i64.wrap ((x:Int)+1)=(x:Int)+1:=IntWalk.i64_in _ om;have hcmp:=Zep (hts.mem (Tac ha)) ht;refine fB (ai @q1 @tmz) ?_;refine fC (aj3 @q1 @tmz @ha) (hcmp) ?_;by_cases hc:Zag a t < 0
  ·have q2:(Zag a t < 0)=True:=eq_true hc;refine fR (aj3 @q1 @q2 @tmz) ?_;have hs:=ZwE ha hf hc;have F:=ai @q4 @q2;refine gG ?_;exact ⟨x+1,⟨hlt,hs⟩,gw,gw,om⟩
  ·have q2:(Zag a t < 0)=False:=eq_false hc;refine fR (aj3 @q1 @q2 @tmz) ?_;refine fB (aj3 @q1 @q2 @tmz) ?_;refine fC (aj3 @q1 @tmz @ha) (ZcC (hts.mem (Tac ha)) ht) ?_;by_cases h0:Zag a t=0
   ·have q3:decide (Zag a t=0)=true:=decide_eq_true h0;refine fR (aj3 @q1 @q3 @tmz) ?_;rw [ZwF ha hf h0];exact fD (ai @q3 @tmz)
   ·have q3:decide (Zag a t=0)=false:=decide_eq_false h0;refine fR (aj3 @q1 @q3 @tmz) ?_;have hins:=ZwG ha hf hc h0;refine fN 6 (ai @q3 @tmz) ?_;rw [hins,ZbT,ZbT,Zeg,<- ZbV,<- Zb8];have hxl:((x:Int)<=(ts.length:Int))=True:=eq_true om;have r1:Zav 4 ((Zaa ts).take x)=true:=by rw [ZbV];exact Zc7 _
    have r2:Zav 4 ((Zaa ts).drop x)=true:=by rw [Zb8];exact Zc7 _
    have n1:((Zaa ts).take x).length<=8000000:=by rw [Taw,Zae];omega
    have n2:((Zaa ts).drop x).length<=8000000:=by rw [Tax,Zae];omega
    have n3:((Zaa ts).take x).length+1<=maxApp:=by unfold maxApp;omega
    have n4:((Zaa ts).take x).length+1+((Zaa ts).drop x).length<=maxApp:=by unfold maxApp;omega
    have F:=aj6 r1 r2 hxl n3 n4 tmz;refine gA 7 4 ?_ (.inl rfl) ?_
    ·show 0+_<=maxApp;unfold maxApp;omega
    clear F;refine fR (aj6 @r1 @r2 @hxl @n3 @n4 @tmz) ?_;have tkA:(Zaa ts).take ts.length=Zaa ts:=by rw [<- Zae ts,Tap]
    have n5:((Zaa ts).take x++[Zab t]).length+((Zaa ts).drop x).length<=maxApp:=by simp only [Tae,Tag,Tak];omega
    have hll:((ts.length:Int)<=(ts.length:Int))=True:=eq_true (Int.le_refl _);have F:=aj9 @r1 @r2 @hxl @n3 @n4 @n5 @hll @tkA @tmz;refine gG ?_;exact gTz [4]
 ·have q1:=lF x ts.length;have hins:=ZAL om hf;refine fN 6 (ai @q1 @tmz) ?_;rw [hins,ZbT,ZbT,Zeg,<- ZbV,<- Zb8];have hxl:((x:Int)<=(ts.length:Int))=True:=eq_true om;have r1:Zav 4 ((Zaa ts).take x)=true:=by rw [ZbV];exact Zc7 _
  have r2:Zav 4 ((Zaa ts).drop x)=true:=by rw [Zb8];exact Zc7 _
  have n1:((Zaa ts).take x).length<=8000000:=by rw [Taw,Zae];omega
  have n2:((Zaa ts).drop x).length<=8000000:=by rw [Tax,Zae];omega
  have n3:((Zaa ts).take x).length+1<=maxApp:=by unfold maxApp;omega
  have n4:((Zaa ts).take x).length+1+((Zaa ts).drop x).length<=maxApp:=by unfold maxApp;omega
  have F:=aj6 r1 r2 hxl n3 n4 tmz;refine gA 7 4 ?_ (.inl rfl) ?_
  ·show 0+_<=maxApp;unfold maxApp;omega
  clear F;refine fR (aj6 @r1 @r2 @hxl @n3 @n4 @tmz) ?_;have tkA:(Zaa ts).take ts.length=Zaa ts:=by rw [<- Zae ts,Tap]
  have n5:((Zaa ts).take x++[Zab t]).length+((Zaa ts).drop x).length<=maxApp:=by simp only [Tae,Tag,Tak];omega
  have hll:((ts.length:Int)<=(ts.length:Int))=True:=eq_true (Int.le_refl _);have F:=aj9 @r1 @r2 @hxl @n3 @n4 @n5 @hll @tkA @tmz;refine gG ?_;exact gTz [4]
theorem ZAM {e:Env} {f:FuncId} {a:D} {rows:List (List C)} {r:List D} (h:Con e f [a,.one (.sl rows)] r):Con e f [a,.clip rows] r :=
 ⟨h.1,fun w S vs h1 h2 h3 h4=>h.2 w S vs h1 h2 h3 (by
  match vs,h4 with
  | [x,y],h4=>exact ⟨h4.1,h4.2.1.1,trivial⟩)⟩
theorem Zr4 {op so:Int} {nm:ByteArray} {args:List Tm} (h:okTm (.mk op nm so args)):okTm (.mk (-1) nm so []):=by
 simp only [okTm,Zay,and_true] at h ⊢;exact ⟨by unfold I64;omega,h.2.1,h.2.2.1⟩
def colT (l:List Tm) (r:List Tm):List Tm:=l.foldl (fun r t=>ZbA t r) r
theorem colT_nil0 {ts:List Tm}:colT (Zbk []) ts=ts:=by simp [colT,Zbk]
theorem ZCq (a b r:List Tm):colT (a++b) r=colT b (colT a r):=by unfold colT;rw [List.foldl_append]
theorem Zps (t:Tm):∀ l:List Tm,(ZbA t l).length<=l.length+1
 | []=>by simp [ZbA]
 | x::xs=>by
  have:=Zps t xs;simp only [ZbA];split
  ·simp only [Tag];omega
  ·split <;> simp only [Tag] <;> omega
theorem Zma:∀ (l r:List Tm),(colT l r).length<=r.length+l.length
 | [],r=>by simp [colT]
 | x::xs,r=>by
  have h1:=Zma xs (ZbA x r);have h2:=Zps x r;simp only [colT,List.foldl_cons,Tag] at h1 ⊢;omega
theorem Zr5 {t:Tm} (ht:okTm t):∀ {l:List Tm},Zay l->Zay (ZbA t l)
 | [],_=>by simp only [ZbA,Zay];exact ⟨ht,trivial⟩
 | x::xs,h=>by
  simp only [Zay] at h;simp only [ZbA];split
  ·simp only [Zay];exact ⟨h.1,Zr5 ht h.2⟩
  ·split
   ·simp only [Zay];exact h
   ·simp only [Zay];exact ⟨ht,h⟩
theorem Zoo:∀ {l r:List Tm},Zay l->Zay r->Zay (colT l r)
 | [],r,_,h=>h
 | x::xs,r,h1,h2=>by
  simp only [Zay] at h1;exact Zoo (l:=xs) (r:=ZbA x r) h1.2 (Zr5 h1.1 h2)
theorem Zpt:∀ {a b:List Tm},Zay a->Zay b->Zay (a++b)
 | [],_,_,h=>h
 | x::xs,b,h1,h2=>by
  simp only [Zay] at h1;simp only [Taf,Zay];exact ⟨h1.1,Zpt h1.2 h2⟩
mutual
theorem Zpu:∀ {t:Tm},okTm t->Zay (ZbC t)
 | .mk op nm so args,h=>by
  simp only [ZbC];split
  ·simp only [Zay];exact ⟨Zr4 h,trivial⟩
  ·simp only [okTm] at h;exact Zjc h.2.2.2
theorem Zjc:∀ {l:List Tm},Zay l->Zay (Zbk l)
 | [],_=>by simp [Zbk,Zay]
 | x::xs,h=>by
  simp only [Zay] at h;simp only [Zbk];exact Zpt (Zpu h.1) (Zjc h.2)
end
theorem Znx:∀ {l:List Tm} (i:Nat),Zay l->Zay (l.take i)
 | [],_,_=>by simp [Zay]
 | x::xs,0,_=>by simp [Zay]
 | x::xs,i+1,h=>by
  simp only [Zay] at h;simp only [Tbc,Zay];exact ⟨h.1,Znx i h.2⟩
theorem Zmb (t:Tm) (ts:List Tm) (ht:okTm t) (hts:Zay ts) (hb:bulkRow (Zab t)<=1048576) (hl:ts.length+(ZbC t).length<=7000000) (h:∀ x∈t.args,∀ us:List Tm,Zay us->us.length+(ZbC x).length<=7000000->Con e0 168 [.agg (Zab x),.one (.sl (Zaa us))] [.one (.sl (Zaa (colT (ZbC x) us)))]) :
  Con e0 168 [.agg (Zab t),.one (.sl (Zaa ts))] [.one (.sl (Zaa (colT (ZbC t) ts)))]:=by
 obtain ⟨op,nm,so,args⟩:=t;have hc:Zab (.mk op nm so args)=[.lit (.int .i64 op),.lit (.string nm),.lit (.int .i64 so),.sl (Zaa args)]:=by simp only [Zab]
 simp only [Tm.args] at h;simp only [Zab,bulkRow,ZaS,Zae] at hb;refine gI (ts:=[.slot 4]) 1048887 Tryz.func168 ?_;by_cases ho:op=-1
 ·have q1:(op=-1)=True:=eq_true ho;have e1:ZbC (.mk op nm so args)=[.mk (-1) nm so []]:=by simp only [ZbC,if_pos ho]
  rw [e1] at hl ⊢;simp only [Tag,Tak,Nat.zero_add] at hl;have hI:=Zr3 ts (.mk (-1) nm so []) hts (Zr4 ht) om;refine fB (aj3 @hc @q1 @tmz) ?_;refine fC @hc (ZAK nm so) ?_;refine fC @hc (hI) ?_;refine fR @hc ?_;simp only [colT,List.foldl_cons,List.foldl_nil];exact fD @tmz
 ·have q1:(op=-1)=False:=eq_false ho;have e1:ZbC (.mk op nm so args)=Zbk args:=by simp only [ZbC,if_neg ho]
  rw [e1] at hl ⊢;have hk:Zay args:=by simp only [okTm] at ht;exact ht.2.2.2
  refine fG (aj3 @hc @q1 @tmz) ?_;have F:=ai ((fun (r:List Tm)=>(colT_nil0:colT (Zbk []) r=r))) @tmz;refine gL (ι:=Nat) [1,5,20] [] (fun x=>[(5,.d (.one (.lit (.int .i64 (x:Int))))),(1,.d (.one (.sl (Zaa (colT (Zbk (args.take x)) ts)))))]) (fun x=>[]) (fun x=>x<=args.length) (fun x=>args.length - x) (0) (Taj _) (fun x hx=>?_);clear F;by_cases hlt:x < args.length
  ·obtain ⟨b,hg⟩:∃ b,args[x]?=some b:=⟨_,Taa hlt⟩;have q2:=lT x args.length;have q4:IntKind.i64.wrap ((x:Int)+1)=(x:Int)+1:=IntWalk.i64_in _ om;have hvt:=Zhw hg;have hle:=Zjb args (x+1);rw [hvt,Tae] at hle;have hcl:=Zma (Zbk (args.take x)) ts;have hcon:=h b (Tac hg) (colT (Zbk (args.take x)) ts) (Zoo (Zjc (Znx x hk)) hts) om;rw [<- ZCq,<- hvt] at hcon;refine fB (aj3 @q2 @hc @tmz) ?_;refine fC (aj4 @q2 @hc @hg @tmz) (hcon) ?_
   refine fR @tmz ?_;have F:=@q4;refine gG ?_;exact ⟨x+1,hlt,gw,gw,om⟩
  ·obtain rfl:x=args.length:=by omega
   have q2:=lF args.length args.length;rw [Tap];exact fD (aj3 @q2 @hc @tmz)
theorem Zny (n:Nat):∀ t:Tm,ZaC (Zab t) < n->okTm t->bulkRow (Zab t)<=1048576->∀ ts:List Tm,Zay ts->ts.length+(ZbC t).length<=7000000->Con e0 168 [.agg (Zab t),.one (.sl (Zaa ts))] [.one (.sl (Zaa (colT (ZbC t) ts)))]:=by
 induction n with
 | zero=>exact fun _ h=>om
 | succ n ih =>
  intro t hn ht hb ts hts hl;refine Zmb t ts ht hts hb hl fun x hx us hus hl2=>?_;obtain ⟨op,nm,so,args⟩:=t;simp only [Zab,ZaC,Zcz] at hn;simp only [Zab,bulkRow,ZaS] at hb;simp only [okTm] at ht;simp only [Tm.args] at hx;obtain ⟨i,hi⟩:=Tbk hx;have hi':(Zaa args)[i]?=some (Zab x):=by rw [Zb1,hi];rfl
  have h1:=ZbZ hi';have h2:=Zck hi';exact ih x om (ht.2.2.2.mem hx) om us hus hl2
theorem Zhy {t:Tm} (ht:okTm t) (hb:bulkRow (Zab t)<=1048576):Con e0 96 [.agg (Zab t)] [.one (.sl (Zaa (ZaW t)))]:=by
 have hv:=Zl9 t;have hcon:=Zny _ t (Tan _) ht hb [] trivial (by simp;omega);have hcon:=ZAM (by rw [Zly] at hcon;exact hcon);rw [show colT (ZbC t) []=ZaW t from rfl] at hcon;refine gI (ts:=[.slot 2]) 7 Tryz.func96 ?_;refine fB @tmz ?_;refine fC @tmz (hcon) ?_;refine fR @tmz ?_;exact fD @tmz
theorem ZwH {l:List Tm} (h:Zay l):Zay (ZdM l):=Zoo (r:=[]) h trivial
theorem Zjd {t:Tm} (h:okTm t):Zay (ZaW t):=ZwH (Zpu h)
theorem ZCr (l:List Tm):(ZdM l).length<=l.length:=by have:=Zma l [];simpa [colT,ZdM] using this
theorem ZgX (t:Tm):(ZaW t).length<=1+bulkRow (Zab t):=Tbe (ZCr _) (Zl9 t)
theorem ZpW {vs:List Tm} {p:Tm->Bool} {i:Nat} {a:Tm} (h:vs[i]?=some a):(vs.take (i+1)).any p=((vs.take i).any p || p a):=by
 rw [List.take_add_one,h];simp
theorem ZpX {vs:List Tm} {p:Tm->Bool} {i:Nat} {a:Tm} (h:vs[i]?=some a):(vs.take (i+1)).all p=((vs.take i).all p && p a):=by
 rw [List.take_add_one,h];simp
theorem Zeh {α:Type} {vs:List α} {p:α->Bool} {i:Nat} {a:α} (h:vs[i]?=some a):(vs.take (i+1)).all p=((vs.take i).all p && p a):=by
 rw [List.take_add_one,h];simp
theorem Zds {α:Type} {vs:List α} {p:α->Bool} {a:α} (h:a∈vs) (hp:p a=false):vs.all p=false:=by
 rw [List.all_eq_false];exact ⟨a,h,by simp [hp]⟩
section
variable {g:Sgn} {l:List Bd}
def MtOk (g:Sgn) (p t:Tm) (l:List Bd):Prop:=aS g l p=some t∧ZaQ g t=true∧ZaW p=l.map Bd.var
open Classical in
noncomputable def mtB (g:Sgn) (p t:Tm) (l:List Bd):Bool:=decide (MtOk g p t l)
theorem Zr6 {p t:Tm} (h:MtOk g p t l):mtB g p t l=true:=by simp [mtB,h]
theorem Zc1 {p t:Tm} (h:¬ MtOk g p t l):mtB g p t l=false:=by simp [mtB,h]
theorem ZvG {vs:List Tm} (hn:vs.length=l.length) (h:∀ (j:Nat) v y,j < vs.length->vs[j]?=some v->l[j]?=some y->v=y.var):vs=l.map Bd.var:=by
 refine List.ext_getElem? fun j=>?_;rw [Tba];by_cases hj:j < vs.length
 ·rw [Taa hj,Taa (by omega:j < l.length)];exact congrArg some (h j _ _ hj (Taa hj) (Taa om))
 ·rw [List.getElem?_eq_none om,List.getElem?_eq_none om];rfl
theorem ZvH {vs:List Tm} (h:vs=l.map Bd.var) {j:Nat} {v:Tm} {y:Bd} (hv:vs[j]?=some v) (hy:l[j]?=some y):v=y.var:=by
 subst h;rw [Tba,hy] at hv;injection hv with hv
 exact hv.symm
theorem ZpY {p t:Tm} (hok:Zcg g) (hp:okTm p) (hpb:bulkRow (Zab p)<=1048576) (ht:okTm t) (htb:bulkRow (Zab t)<=1048576) (hl:Zgg l) (hb:(ZbE l).length+bulkRows (ZbE l)<=1048576):Con e0 160 [.agg (Zas g),.agg (Zab p),.agg (Zab t),.one (.sl (ZbE l))] [.one (.lit (.bool (mtB g p t l)))]:=by
 rw [Zdk] at hb;have cA:=Zfl hok hl hb hp hpb;have cV:=Zhy hp hpb;have cT:=ZcG hok ht (ZbM htb);have bl:=Zdk l;have bg:=ZeW l;have bb:=bds8 l;have vl:=Zae (ZaW p);rw [Zas] at cA cT ⊢;refine gI (ts:=[.slot 8]) 576535519094120319 Tryz.func160 ?_;refine fN 1 @tmz ?_;refine gB ?_;refine fC @tmz (cA) ?_;refine fR @tmz ?_;refine fN 2 @tmz ?_;refine gB ?_;refine fC @tmz (cV) ?_;refine fR @tmz ?_;refine fN 3 @tmz ?_
 cases h1:aS g l p with
 | none =>
  have z2:(none:Option Tm).isSome=false:=rfl;rw [Zc1 fun h=>by rw [h.1] at h1;cases h1];exact fD (ai @z2 @tmz)
 | some u =>
 have z4:∀ u:Tm,(some u).isSome=true:=fun _=>rfl;have z3:∀ u:Tm,(some u).getD zTm=u:=fun _=>rfl;have hg:=ZFB h1;have hS:SbsOk g l:=by
  unfold aS at h1;split at h1
  ·next hc=>exact ZgA.1 hc.2.1
  ·cases h1
 have h8:=hS.len;have cS:=ZcC (ZaF.ok hg _ u (Tan _) (Zqu h1).form) ht;refine gB ?_;refine fC (ai @z4 @tmz) (cT) ?_
 cases h2:(Zbl g && ZaQ g t) with
 | false =>
  rw [Zc1 fun h=>by rw [h.2.1,ZcH hg] at h2;cases h2];refine fR @tmz ?_;exact fD @tmz
 | true =>
 rw [Tar] at h2;refine fC (aj3 @z3 @z4 @tmz) (cS) ?_;by_cases h3:Zag u t=0;rotate_left
 ·rw [Zc1 fun h=>by rw [h.1] at h1;injection h1 with h1;exact h3 (Zbo.2 h1.symm),decide_eq_false h3];refine fR @tmz ?_;exact fD @tmz
 rw [decide_eq_true h3];obtain rfl:=Zbo.1 h3;by_cases h4:(ZaW p).length=l.length;rotate_left
 ·have q4:(((ZaW p).length:Int)=(l.length:Int))=False:=eq_false om;rw [Zc1 fun h=>h4 (by rw [h.2.2,Tay])];refine fR (aj4 @q4 @vl @bl @tmz) ?_;exact fD @tmz
 have q4:(((ZaW p).length:Int)=(l.length:Int))=True:=eq_true om;refine fR (aj4 @q4 @vl @bl @tmz) ?_;refine fG @tmz ?_;have F:=@tmz;refine gL (ι:=Nat) [8,12,46,59] [] (fun i=>[(12,A.d (.one (.lit (.int .i64 i))))]) (fun i=>[]) (fun i=>i<=(ZaW p).length∧∀ (j:Nat) v y,j < i->(ZaW p)[j]?=some v->l[j]?=some y->v=y.var) (fun i=>(ZaW p).length - i) (0) (⟨Taj _,fun j v y h=>absurd h om⟩) (fun i hi=>?_);clear F
 obtain ⟨hi,hall⟩:=hi;by_cases hil:i < (ZaW p).length;rotate_left
 ·obtain rfl:i=(ZaW p).length:=by omega
  have q2:=lF ((ZaW p).length) ((ZaW p).length);rw [Zr6 ⟨h1,h2.2,ZvG h4 hall⟩];exact fD (aj3 @q2 @vl @tmz)
 have q2:=lT i ((ZaW p).length);obtain ⟨v,hv⟩:∃ v,(ZaW p)[i]?=some v:=⟨_,Taa hil⟩;obtain ⟨y,hy⟩:∃ y,l[i]?=some y:=⟨_,Taa om⟩;have hvo:okTm v:=Zph.1 (Zjd hp) v (Tac hv);have cE:=ZcC hvo (hl y (Tac hy)).1;have hwi:=Zan (k:=i) om;refine fN 8 (aj3 @q2 @vl @tmz) ?_;refine gB ?_;refine fC (aj8 @bl @bb @bg @hv @hy @bdz @Zal @tmz) (cE) ?_;by_cases h5:Zag v y.var=0;rotate_left
 ·rw [Zc1 fun h=>h5 (Zbo.2 (ZvH h.2.2 hv hy)),decide_eq_false h5];refine fR @tmz ?_;exact fD @tmz
 rw [decide_eq_true h5];have hnx:i+1<=(ZaW p).length∧∀ (j:Nat) v y,j < i+1->(ZaW p)[j]?=some v->l[j]?=some y->v=y.var:=⟨hil,fun j v' y' hj hv' hy'=>by
  by_cases e:j=i
  ·subst e;rw [hv] at hv';rw [hy] at hy';injection hv' with hv';injection hy' with hy'
   subst hv' hy';exact Zbo.1 h5
  ·exact hall j v' y' om hv' hy'⟩
 refine fR @tmz ?_;have F:=ai @hwi @tmz;refine gG ?_;exact ⟨i+1,hnx,gw,gw,om⟩
theorem ZpZ {p t:Tm} (hok:Zcg g) (hp:okTm p) (hpb:bulkRow (Zab p)<=1048576) (ht:okTm t) (htb:bulkRow (Zab t)<=1048576) (hl:Zgg l) (hb:(ZbE l).length+bulkRows (ZbE l)<=1048576):Con e0 164 [.agg (Zas g),.agg (Zab p),.agg (Zab t),.one (.sl (ZbE l))] [.one (.lit (.bool (mtB g p t l)))]:=by
 rw [Zdk] at hb;have hno:¬ (Zbl g=true∧Zdl g l=true∧ZaQ g p=true)->mtB g p t l=false:=fun h=>Zc1 fun h'=>by
  have:=h'.1;unfold aS at this;rw [if_neg h] at this
  cases this
 have bl:=Zdk l;have bg:=ZeW l;have bb:=bds8 l;have vl:=Zae (ZaW p);by_cases hs:Zbl g=true;rotate_left
 ·have cN:=Ziq hok (fun h=>hs (ZcH h));rw [hno fun h=>hs h.1];rw [Zas] at cN ⊢;refine gI (ts:=[.slot 8]) 2308024990039048063 Tryz.func164 ?_;refine fN 1 @tmz ?_;refine gB ?_;refine fC @tmz (cN) ?_;refine fR @tmz ?_;exact fD @tmz
 have hg:=ZdK.1 hs;have cN:=Ztl hok hg;rw [Zas] at cN ⊢;refine gI (ts:=[.slot 8]) 2308024990039048063 Tryz.func164 ?_;refine fN 1 @tmz ?_;refine gB ?_;have F:=@tmz;refine gCP [] [1000] (cN) ?_;clear F;rintro r pm ⟨b,rfl,rfl⟩;simp only [setA,retA,zipM,Taf,Tah];refine fR @tmz ?_;refine pM g b 1000 ?_;have cX:=(Zer (mc:=.lit (.map (some b))) hg hp (ZbM hpb)).m (g:=g) (b:=b);have cY:=(Zer (mc:=.lit (.map (some b))) hg ht (ZbM htb)).m (g:=g) (b:=b)
 have cS:=ZAA (b:=b) hg hl (fun y hy=>ZbM (ZrY hb y hy).2);have cV:=(Zhx p hpb).m (g:=g) (b:=b);refine fN 2 @tmM ?_;refine gB ?_;refine fC @tmM (cX) ?_
 cases h1:ZaQ g p with
 | false =>
  rw [hno fun h=>by rw [h1] at h;cases h.2.2];refine fR @tmM ?_;exact fD @tmM
 | true =>
 refine fC @tmM (cY) ?_
 cases h2:ZaQ g t with
 | false =>
  rw [Zc1 fun h=>by rw [h.2.1] at h2;cases h2];refine fR @tmM ?_;exact fD @tmM
 | true =>
 refine fC @tmM (cS) ?_
 cases h3:Zdl g l with
 | false =>
  rw [hno fun h=>by rw [h3] at h;cases h.2.1];refine fR @tmM ?_;exact fD @tmM
 | true =>
 have hS:=ZgA.1 h3;have h8:=hS.len;have ex:aS g l p=apT g l p:=by unfold aS;rw [if_pos ⟨hs,h3,h1⟩]
 have aX:=(ZhW (mc:=.lit (.map (some b))) hg hS.w _ (Tan _) (Zbx.1 h1)).m (g:=g) (b:=b);rw [<- ex] at aX;refine fR @tmM ?_;refine fN 4 @tmM ?_;refine gB ?_;refine fC @tmM (cV) ?_;refine fR @tmM ?_;by_cases h4:(ZaW p).length=l.length;rotate_left
 ·have q4:(((ZaW p).length:Int)=(l.length:Int))=False:=eq_false om;rw [Zc1 fun h=>h4 (by rw [h.2.2,Tay])];exact fD (aj4 @q4 @vl @bl @tmM)
 have q4:(((ZaW p).length:Int)=(l.length:Int))=True:=eq_true om;refine fG (aj4 @q4 @vl @bl @tmM) ?_;have F:=@tmM;refine gL (ι:=Nat) [8,12,13,49,50,61] [] (fun i=>[(49,A.d (.one (.lit (.int .i64 i))))]) (fun i=>[]) (fun i=>i<=(ZaW p).length∧∀ (j:Nat) v y,j < i->(ZaW p)[j]?=some v->l[j]?=some y->v=y.var) (fun i=>(ZaW p).length - i) (0) (⟨Taj _,fun j v y h=>absurd h om⟩) (fun i hi=>?_);clear F;obtain ⟨hi,hall⟩:=hi
 by_cases hil:i < (ZaW p).length;rotate_left
 ·obtain rfl:i=(ZaW p).length:=by omega
  have q2:=lF ((ZaW p).length) ((ZaW p).length);refine fN 13 (aj3 @q2 @vl @tmM) ?_;refine gB ?_;refine fC @tmM (aX) ?_;refine fR @tmM ?_
  cases h5:aS g l p with
  | none =>
   have z2:(none:Option Tm).isSome=false:=rfl;rw [Zc1 fun h=>by rw [h.1] at h5;cases h5];exact fD (ai @z2 @tmM)
  | some u =>
  have z4:∀ u:Tm,(some u).isSome=true:=fun _=>rfl;have z3:∀ u:Tm,(some u).getD zTm=u:=fun _=>rfl;have cE:=(Zcq u t).m (g:=g) (b:=b);have e:mtB g p t l=decide (Zag u t=0):=by
   by_cases h6:Zag u t=0
   ·rw [decide_eq_true h6];obtain rfl:=Zbo.1 h6;exact Zr6 ⟨h5,h2,ZvG h4 hall⟩
   ·rw [decide_eq_false h6];exact Zc1 fun h=>h6 (Zbo.2 (by rw [h.1] at h5;injection h5 with h5;exact h5.symm))
  rw [e];refine fN 14 (aj3 @z3 @z4 @tmM) ?_;refine gB ?_;refine fC (aj3 @z3 @z4 @tmM) (cE) ?_;refine fR @tmM ?_;exact fD @tmM
 have q2:=lT i ((ZaW p).length);obtain ⟨v,hv⟩:∃ v,(ZaW p)[i]?=some v:=⟨_,Taa hil⟩;obtain ⟨y,hy⟩:∃ y,l[i]?=some y:=⟨_,Taa om⟩;have cE:=(Zcq v y.var).m (g:=g) (b:=b);have hwi:=Zan (k:=i) om;refine fN 10 (aj5 @q2 @vl @hv @Zal @tmM) ?_;refine gB ?_;refine fC (aj8 @bl @bb @bg @hv @hy @bdz @Zal @tmM) (cE) ?_;by_cases h5:Zag v y.var=0;rotate_left
 ·rw [Zc1 fun h=>h5 (Zbo.2 (ZvH h.2.2 hv hy)),decide_eq_false h5];refine fR @tmM ?_;exact fD @tmM
 rw [decide_eq_true h5];have hnx:i+1<=(ZaW p).length∧∀ (j:Nat) v y,j < i+1->(ZaW p)[j]?=some v->l[j]?=some y->v=y.var:=⟨hil,fun j v' y' hj hv' hy'=>by
  by_cases e:j=i
  ·subst e;rw [hv] at hv';rw [hy] at hy';injection hv' with hv';injection hy' with hy'
   subst hv' hy';exact Zbo.1 h5
  ·exact hall j v' y' om hv' hy'⟩
 refine fR @tmM ?_;have F:=ai @hwi @tmM;refine gG ?_;exact ⟨i+1,hnx,gw,gw,om⟩
end
structure Eqn where
 l:Tm
 r:Tm
 cs:List (Tm × Tm)
def Zcf (c:Tm × Tm):List C:=Zab c.1++Zab c.2
def ZaE (e:Eqn):List C:=Zab e.l++(Zab e.r++[.sl (e.cs.map Zcf)])
def Zqx (c:Tm × Tm):Prop:=okTm c.1∧okTm c.2
def ZgY (e:Eqn):Prop:=okTm e.l∧okTm e.r∧∀ c∈e.cs,Zqx c
theorem ZFF {row:List C} (h:Zaj (Zac .cond) row):∃ c,row=Zcf c∧Zqx c:=by
 obtain ⟨i0,t1,i2,r3,i4,t5,i6,r7,rfl,g0,g1,g2,g3,g4,g5,g6,g7⟩:=ZeA h;obtain ⟨a,rfl,ha⟩:=Ze6 g3;obtain ⟨a',rfl,ha'⟩:=Ze6 g7;refine ⟨(.mk i0 t1 i2 a,.mk i4 t5 i6 a'),by simp [Zcf,Zab],?_⟩;simp only [Zqx,okTm];exact ⟨⟨g0,g1,g2,ha⟩,g4,g5,g6,ha'⟩
theorem ZvL:∀ {rows:List (List C)},Zai (Zac .cond) rows->∃ cs:List (Tm × Tm),rows=cs.map Zcf∧∀ c∈cs,Zqx c
 | [],_=>⟨[],rfl,by simp⟩
 | r::rs,h=>by
  simp only [Zai] at h;obtain ⟨c,rfl,hc⟩:=ZFF h.1;obtain ⟨cs,rfl,hcs⟩:=ZvL h.2;exact ⟨c::cs,rfl,by intro x hx;rcases Tbg.1 hx with rfl | hx;exact hc;exact hcs x hx⟩
theorem ZFG {row:List C} (h:Zaj (Zac .eqn) row):∃ e,row=ZaE e∧ZgY e:=by
 obtain ⟨i0,t1,i2,r3,i4,t5,i6,r7,r8,rfl,g0,g1,g2,g3,g4,g5,g6,g7,g8⟩:=Ze2 h;obtain ⟨a,rfl,ha⟩:=Ze6 g3;obtain ⟨a',rfl,ha'⟩:=Ze6 g7;obtain ⟨cs,rfl,hcs⟩:=ZvL g8;refine ⟨⟨.mk i0 t1 i2 a,.mk i4 t5 i6 a',cs⟩,by simp [ZaE,Zab],?_,?_,hcs⟩
 ·simp only [okTm];exact ⟨g0,g1,g2,ha⟩
 ·simp only [okTm];exact ⟨g4,g5,g6,ha'⟩
theorem tm4 (t:Tm):∃ a b c d,Zab t=[a,b,c,d]:=by
 obtain ⟨op,nm,so,args⟩:=t;simp only [Zab];exact ⟨_,_,_,_,rfl⟩
theorem Zdu (t:Tm) (l:List C):(Zab t++l).take 4=Zab t:=by obtain ⟨a,b,c,d,h⟩:=tm4 t;rw [h];rfl
theorem ZfZ (t:Tm) (l:List C):(Zab t++l).drop 4=l:=by obtain ⟨a,b,c,d,h⟩:=tm4 t;rw [h];rfl
theorem Zsc (e:Eqn):(ZaE e).take 4=Zab e.l:=Zdu _ _
theorem Zmh (e:Eqn):(ZaE e).drop 4=Zab e.r++[.sl (e.cs.map Zcf)]:=ZfZ _ _
theorem Zsd (e:Eqn):(ZaE e).drop 8=[.sl (e.cs.map Zcf)]:=by
 rw [show (8:Nat)=4+4 from rfl,<- List.drop_drop,Zmh,ZfZ]
theorem ZkA (e:Eqn):(ZaE e).length=9:=by simp [ZaE,(tmz.2.2.2.2.1:∀ t,(Zab t).length=4)]
theorem Zse (e:Eqn):(ZaE e).take 9=ZaE e:=List.take_of_length_le (by rw [ZkA];exact Tai _)
theorem Zsf (e:Eqn):(ZaE e).drop 9=[]:=List.drop_of_length_le (by rw [ZkA];exact Tai _)
theorem ZwS (e:Eqn):(ZaE e).all ZaB=true:=by
 simp only [ZaE,List.all_append,(tmz.2.2.2.2.2.2.2.1:∀ t,(Zab t).all ZaB=true),Bool.true_and];rfl
theorem ZD8 (e:Eqn):valT TK.one (ZaE e)=some (A.d (.one (.lit (.int .i64 e.l.op)))):=by
 obtain ⟨⟨op,nm,so,args⟩,r,cs⟩:=e;simp [ZaE,Zab,valT,Tm.op]
theorem ZkB (c:Tm × Tm):(Zcf c).length=8:=by simp [Zcf,(tmz.2.2.2.2.1:∀ t,(Zab t).length=4)]
theorem Zsg (c:Tm × Tm):(Zcf c).take 4=Zab c.1:=Zdu _ _
theorem Zsh (c:Tm × Tm):(Zcf c).drop 4=Zab c.2:=ZfZ _ _
theorem Zsi (c:Tm × Tm):(Zcf c).take 8=Zcf c:=List.take_of_length_le (by rw [ZkB];exact Tai _)
theorem Zsj (c:Tm × Tm):(Zcf c).drop 8=[]:=List.drop_of_length_le (by rw [ZkB];exact Tai _)
theorem ZwT (c:Tm × Tm):(Zcf c).all ZaB=true:=by
 simp only [Zcf,List.all_append,(tmz.2.2.2.2.2.2.2.1:∀ t,(Zab t).all ZaB=true),Bool.true_and]
theorem ZvM (cs:List (Tm × Tm)):Zav 8 (cs.map Zcf)=true:=by
 induction cs with
 | nil=>rfl
 | cons c cs ih=>simp only [Tbu,ZdI,ZkB,ih];simp [ZwT]
theorem eqz:type_of% (aj15 Zsc Zmh Zsd ZkA Zse Zsf ZwS ZD8 ZkB Zsg Zsh Zsi Zsj ZwT (aj3 ZvM Zdu ZfZ)):=aj15 Zsc Zmh Zsd ZkA Zse Zsf ZwS ZD8 ZkB Zsg Zsh Zsi Zsj ZwT (aj3 ZvM Zdu ZfZ)
noncomputable def ZbO (g:Sgn) (l r:Tm):Bool:=ZaQ g l && (ZaQ g r && decide (Zbb g l=Zbb g r))
def hasB (vs:List Tm) (v:Tm):Bool:=vs.any fun a=>decide (Zag v a=0)
def Zej (vs:List Tm) (t:Tm):Bool:=(ZaW t).all (hasB vs)
noncomputable def cndB (g:Sgn) (vs:List Tm) (c:Tm × Tm):Bool:=ZbO g c.1 c.2 && (Zej vs c.1 && Zej vs c.2)
noncomputable def eqnB (g:Sgn) (e:Eqn):Bool:=ZbO g e.l e.r && (!decide (e.l.op=-1) && (decide (e.cs.length<=2) && (decide ((ZaW e.l).length<=5) && (Zej (ZaW e.l) e.r && e.cs.all (cndB g (ZaW e.l))))))
noncomputable def Zjj (g:Sgn) (e:Eqn):Bool:=Zbl g && eqnB g e
theorem Ztu {s:ByteArray} (h:Zbw s=true):s.size<=12:=by
 simp only [Zbw,Tar,decide_eq_true_eq] at h;exact h.1.1.1.2
mutual
theorem ZpA {g:Sgn}:∀ {t:Tm},ZaF g t->bulkRow (Zab t)+1<=14 * sizeTm t
 | .mk op nm so args,h=>by
  simp only [ZaF] at h;obtain ⟨hn,ha,_⟩:=h;have h1:=ZnG ha;have h2:nm.size<=12:=by
   rcases hn with hn | ⟨o,d,hn⟩
   ·exact Ztu hn.2.1
   ·have:=hn.nm;simp only [Tm.name] at this;rw [this];exact Taj _
  simp only [Zab,bulkRow,ZaS,sizeTm];omega
theorem ZnG {g:Sgn}:∀ {ts:List Tm},Zc8 g ts->(Zaa ts).length+bulkRows (Zaa ts)<=14 * sizeTms ts
 | [],_=>by simp [Zaa,bulkRows]
 | t::ts,h=>by
  simp only [Zc8] at h;have h1:=ZpA h.1;have h2:=ZnG h.2;simp only [Zaa,bulkRows,Tag,sizeTms];omega
end
theorem ZkC {g:Sgn} {t:Tm} (h:ZaQ g t=true):bulkRow (Zab t)<=1048576:=by
 have:=ZpA (Zbx.1 h).form;have:=(Zbx.1 h).size;omega
theorem ZlF {g:Sgn} (hokg:Zcg g) (hg:SgnOk g) {l r:Tm} (hl:okTm l) (hr:okTm r) (hbl:bulkRow (Zab l)<=1048576) (hbr:bulkRow (Zab r)<=1048576):Con e0 137 [.agg (Zas g),.agg (Zab l),.agg (Zab r)] [.one (.lit (.bool (ZbO g l r)))]:=by
 have b1:=ZbM hbl;have b2:=ZbM hbr;have cF1:=Zi4 hokg hg hl b1;have cF2:=Zi4 hokg hg hr b2;have cK1:=fun h=>ZgU hokg hg (t:=l) h;have cK2:=fun h=>ZgU hokg hg (t:=r) h;rw [Zas] at cF1 cF2 cK1 cK2;refine gI 127 Tryz.func137 ?_;refine fB (ai @tmz @Zat) ?_;refine fC @tmz (Zge b1) ?_;by_cases h1:sizeTm l<=60∧depthTm l<=20;rotate_left
 ·have hf:ZbO g l r=false:=by rw [ZbO,Zc0 fun h=>h1 ⟨h.size,h.depth⟩];rfl
  have h1':decide (sizeTm l<=60∧depthTm l<=20)=false:=by simp only [decide_eq_false_iff_not];exact h1
  refine fR (ai @tmz @h1') ?_;exact fT @hf
 have h1':decide (sizeTm l<=60∧depthTm l<=20)=true:=by simp only [decide_eq_true_eq];exact h1
 refine fC (ai @tmz @h1') (cF1) ?_;have e1:=Zgd (g:=g) h1.1 h1.2
 cases hF1:Zcd g l with
 | false =>
  have hf:ZbO g l r=false:=by rw [ZbO,<- e1,hF1];rfl
  refine fR (ai @tmz @h1') ?_;exact fT @hf
 | true =>
  refine fC (ai @tmz @h1') (Zge b2) ?_;by_cases h2:sizeTm r<=60∧depthTm r<=20;rotate_left
  ·have hf:ZbO g l r=false:=by rw [ZbO,Zc0 (t:=r) fun h=>h2 ⟨h.size,h.depth⟩];simp
   have h2':decide (sizeTm r<=60∧depthTm r<=20)=false:=by simp only [decide_eq_false_iff_not];exact h2
   refine fR (aj3 @tmz @h1' @h2') ?_;exact fT @hf
  have h2':decide (sizeTm r<=60∧depthTm r<=20)=true:=by simp only [decide_eq_true_eq];exact h2
  refine fC (aj3 @tmz @h1' @h2') (cF2) ?_;have e2:=Zgd (g:=g) h2.1 h2.2
  cases hF2:Zcd g r with
  | false =>
   have hf:ZbO g l r=false:=by rw [ZbO,<- e2,hF2];simp
   refine fR (aj3 @tmz @h1' @h2') ?_;exact fT @hf
  | true =>
   have ef:ZbO g l r=decide (Zbb g l=Zbb g r):=by rw [ZbO,<- e1,<- e2,hF1,hF2];rfl
   refine fC (aj3 @tmz @h1' @h2') (cK1 (ZgS.1 hF1).node) ?_;refine fC (aj3 @tmz @h1' @h2') (cK2 (ZgS.1 hF2).node) ?_;refine fR (aj3 @tmz @h1' @h2') ?_;exact fT @ef
theorem any_nil0 {p:Tm->Bool}:([]:List Tm).any p=false:=rfl
theorem ZgD {t:Tm} {vs:List Tm} (ht:okTm t) (hvs:Zay vs) (hb:bulkRow (Zab t)<=1048576) (hl:vs.length<=8000000):Con e0 138 [.agg (Zab t),.one (.sl (Zaa vs))] [.one (.lit (.bool (Zej vs t)))]:=by
 have hok:=Zjd ht;have hle:=ZgX t;have cV:=Zhy ht hb;have eW:Zej vs t=(ZaW t).all (hasB vs):=rfl;rw [eW];clear eW;generalize ZaW t=us at hok hle cV ⊢;refine gI 68720542199 Tryz.func138 ?_;refine fB @tmz ?_;refine fC @tmz (cV) ?_;refine fR @tmz ?_;refine fG @tmz ?_;have F:=@e0P;refine gL (ι:=Nat) [4,6,7,8,14,20,36] [] (fun x=>[(6,A.d (.one (.lit (.int .i64 x))))]) (fun x=>[]) (fun x=>x<=us.length∧(us.take x).all (hasB vs)=true) (fun x=>us.length - x) (0) (⟨Taj _,rfl⟩) (fun x hx=>?_);clear F
 obtain ⟨hxl,hall⟩:=hx;by_cases hlt:x < us.length;rotate_left
 ·have q1:¬ ((x:Int) < (us.length:Int)):=om;obtain rfl:x=us.length:=by omega
  rw [Tap] at hall;exact fT (aj3 @tmz @q1 @hall)
 have q1:(x:Int) < (us.length:Int):=om;obtain ⟨v,hv⟩:∃ a,us[x]?=some a:=⟨_,Taa hlt⟩;have hvo:=hok.mem (Tac hv);have hw1:=Zan (k:=x) om;refine fG (ai @tmz @q1) ?_;have F:=((fun (p:Tm->Bool)=>(any_nil0:([]:List Tm).any p=false)));refine gL (ι:=Nat) [7,8,20] [] (fun y=>[(7,.d (.one (.lit (.bool ((vs.take y).any fun a=>decide (Zag v a=0)))))),(8,A.d (.one (.lit (.int .i64 y))))]) (fun y=>[]) (fun y=>y<=vs.length) (fun y=>vs.length - y) (0) (Taj _) (fun y hy=>?_);clear F
 by_cases hlt2:y < vs.length;rotate_left
 ·have q2:¬ ((y:Int) < (vs.length:Int)):=om;obtain rfl:y=vs.length:=by omega
  rw [Tap]
  cases hh:hasB vs v with
  | true =>
   have e:(vs.any fun a=>decide (Zag v a=0))=true:=hh;have hq:x+1<=us.length∧(us.take (x+1)).all (hasB vs)=true:=⟨hlt,by rw [ZpX hv,hall,hh];rfl⟩;have F:=aj5 @tmz @q1 @q2 @e @hw1;refine gG ?_;exact ⟨x+1,hq,gw,gw,om⟩
  | false =>
   have e:(vs.any fun a=>decide (Zag v a=0))=false:=hh;have hf:us.all (hasB vs)=false:=Zds (Tac hv) hh;exact fT (aj5 @tmz @q1 @q2 @e @hf)
 have q2:(y:Int) < (vs.length:Int):=om;obtain ⟨a,ha⟩:∃ a,vs[y]?=some a:=⟨_,Taa hlt2⟩;have hao:=hvs.mem (Tac ha);have hw2:=Zan (k:=y) om;have hst:=ZpW (p:=fun a=>decide (Zag v a=0)) ha
 cases hc:(vs.take y).any fun a=>decide (Zag v a=0) with
 | true =>
  rw [hc,Bool.true_or] at hst;refine fG (aj3 @tmz @q1 @q2) ?_;have F:=aj4 @tmz @q2 @hst @hw2;refine gG ?_;exact ⟨y+1,hlt2,gw,gw,om⟩
 | false =>
  rw [hc,Bool.false_or] at hst;refine fB (aj3 @tmz @q1 @q2) ?_;refine fC (aj5 @tmz @q1 @q2 @hv @ha) (ZcC hvo hao) ?_;refine fR (aj3 @tmz @q1 @q2) ?_;have F:=aj4 @tmz @q2 @hst @hw2;refine gG ?_;exact ⟨y+1,hlt2,gw,gw,om⟩
theorem Zsk (e:Eqn):bulkRow (ZaE e)=bulkRow (Zab e.l)+(bulkRow (Zab e.r)+(e.cs.length+bulkRows (e.cs.map Zcf))):=by
 rw [ZaE,ZfX,ZfX];simp [bulkRow,ZaS]
theorem Zsl {cs:List (Tm × Tm)} {c:Tm × Tm} (h:c∈cs):bulkRow (Zab c.1)+bulkRow (Zab c.2)<=bulkRows (cs.map Zcf):=by
 obtain ⟨i,hi⟩:=Tbk h;have:(cs.map Zcf)[i]?=some (Zcf c):=by rw [Tba,hi];rfl
 have:=Zck this;rw [Zcf,ZfX] at this;exact this
theorem Ztv {g:Sgn} {e:Eqn} (hokg:Zcg g) (he:ZgY e) (hb:bulkRow (ZaE e)<=1048576):Con e0 64 [.agg (Zas g),.agg (ZaE e)] [.one (.lit (.bool (Zjj g e)))]:=by
 rw [Zsk] at hb;obtain ⟨hol,hor,hoc⟩:=he;have cS:=Zgb hokg;rw [Zas] at cS;refine gI 151115728032372933787903 Tryz.func64 ?_;refine fB (aj3 @tmz @eqz @Zat) ?_;refine fC (aj3 @tmz @eqz @Zat) (cS) ?_;by_cases hs:Zbl g=true;rotate_left
 ·have hs':Zbl g=false:=by simpa using hs
  have hf:Zjj g e=false:=by simp [Zjj,hs']
  refine fR (aj4 @tmz @eqz @Zat @hs') ?_;exact fT @hf
 have hg:=ZdK.1 hs;have ei:Zjj g e=eqnB g e:=by simp [Zjj,hs]
 rw [ei];have cP:=ZlF hokg hg hol hor om om;rw [Zas] at cP;refine fC (aj4 @tmz @eqz @Zat @hs) (cP) ?_
 cases hP:ZbO g e.l e.r with
 | false =>
  have hf:eqnB g e=false:=by simp [eqnB,hP]
  refine fR (aj4 @tmz @eqz @Zat @hs) ?_;exact fT @hf
 | true =>
  by_cases h1:e.l.op=-1
  ·have hf:eqnB g e=false:=by simp [eqnB,h1]
   refine fR (aj5 @tmz @eqz @Zat @hs @h1) ?_;exact fT @hf
  have h1':(e.l.op=-1)=False:=eq_false h1;by_cases h2:e.cs.length<=2;rotate_left
  ·have hf:eqnB g e=false:=by simp [eqnB,h2]
   have h2':(2:Int) < (e.cs.length:Int):=om;refine fR (aj6 @tmz @eqz @Zat @hs @h1' @h2') ?_;exact fT @hf
  have h2':¬ ((2:Int) < (e.cs.length:Int)):=om;have cV:=Zhy hol om;have hvo:=Zjd hol;have hvl:=ZgX e.l;have cWr:=ZgD hor hvo om om;refine fR (aj6 @tmz @eqz @Zat @hs @h1' @h2') ?_;refine fB (aj3 @tmz @eqz @Zat) ?_;refine fC (aj3 @tmz @eqz @Zat) (cV) ?_;refine fR (aj3 @tmz @eqz @Zat) ?_;by_cases h3:(ZaW e.l).length<=5;rotate_left
  ·have hf:eqnB g e=false:=by simp [eqnB,h3]
   have h3':(5:Int) < ((ZaW e.l).length:Int):=om;exact fT (aj5 @tmz @eqz @Zat @h3' @hf)
  have h3':¬ ((5:Int) < ((ZaW e.l).length:Int)):=om;refine fB (aj4 @tmz @eqz @Zat @h3') ?_;refine fC (aj4 @tmz @eqz @Zat @h3') (cWr) ?_
  cases hW:Zej (ZaW e.l) e.r with
  | false =>
   have hf:eqnB g e=false:=by simp [eqnB,hW]
   refine fR (aj4 @tmz @eqz @Zat @h3') ?_;exact fT @hf
  | true =>
   have ea:eqnB g e=e.cs.all (cndB g (ZaW e.l)):=by simp [eqnB,hP,h1,h2,h3,hW]
   rw [ea];refine fR (aj4 @tmz @eqz @Zat @h3') ?_;refine fG (aj3 @tmz @eqz @Zat) ?_;generalize ZaW e.l=vs at *;have F:=@e0P;refine gL (ι:=Nat) [4,6,7,49,77] [] (fun x=>[(6,A.d (.one (.lit (.int .i64 x))))]) (fun x=>[]) (fun x=>x<=e.cs.length∧(e.cs.take x).all (cndB g vs)=true) (fun x=>e.cs.length - x) (0) (⟨Taj _,rfl⟩) (fun x hx=>?_);clear F;obtain ⟨hxl,hall⟩:=hx;by_cases hlt:x < e.cs.length;rotate_left
   ·have q1:¬ ((x:Int) < (e.cs.length:Int)):=om;obtain rfl:x=e.cs.length:=by omega
    rw [Tap] at hall;exact fT (aj5 @tmz @eqz @Zat @q1 @hall)
   have q1:(x:Int) < (e.cs.length:Int):=om;obtain ⟨c,hc⟩:∃ a,e.cs[x]?=some a:=⟨_,Taa hlt⟩;have hm:=Tac hc;have hco:=hoc c hm;have hcb:=Zsl hm;have hw1:=Zan (k:=x) om;have cPc:=ZlF hokg hg hco.1 hco.2 om om;rw [Zas] at cPc;have cW1:=ZgD hco.1 hvo om om;have cW2:=ZgD hco.2 hvo om om;refine fB (aj5 @tmz @eqz @Zat @q1 @hc) ?_;refine fC (aj4 @tmz @eqz @Zat @hc) (cPc) ?_
   cases hPc:ZbO g c.1 c.2 with
   | false =>
    have hf:e.cs.all (cndB g vs)=false:=Zds hm (by simp [cndB,hPc]);refine fR (aj3 @tmz @eqz @Zat) ?_;exact fT @hf
   | true =>
    refine fC (aj4 @tmz @eqz @Zat @hc) (cW1) ?_
    cases hW1:Zej vs c.1 with
    | false =>
     have hf:e.cs.all (cndB g vs)=false:=Zds hm (by simp [cndB,hW1]);refine fR (aj3 @tmz @eqz @Zat) ?_;exact fT @hf
    | true =>
     refine fC (aj4 @tmz @eqz @Zat @hc) (cW2) ?_
     cases hW2:Zej vs c.2 with
     | false =>
      have hf:e.cs.all (cndB g vs)=false:=Zds hm (by simp [cndB,hW2]);refine fR (aj3 @tmz @eqz @Zat) ?_;exact fT @hf
     | true =>
      have hq:x+1<=e.cs.length∧(e.cs.take (x+1)).all (cndB g vs)=true:=⟨hlt,by rw [Zeh hc,hall];simp [cndB,hPc,hW1,hW2]⟩;refine fR (aj3 @tmz @eqz @Zat) ?_;have F:=aj4 @tmz @eqz @Zat @hw1;refine gG ?_;exact ⟨x+1,hq,gw,gw,om⟩
theorem Zsm (t a:Tm):Con e0 220 [.agg (Zab a),.one (.ptr (Zab t))] [.one (.lit (.bool (decide (Zag t a=0))))]:=by
 refine gI 15 Tryz.func220 ?_;refine fB @tmz ?_;refine fC @tmz (Zcq t a) ?_;refine fR @tmz ?_;exact fT @tmz
theorem Ztw (ts:List Tm) (t:Tm) (hl:ts.length<=big):Con e0 146 [.one (.sl (Zaa ts)),.agg (Zab t)] [.one (.lit (.bool (hasB ts t)))]:=by
 have c:=Zmc (ts:=ts) (f:=220) (caps:=[.ptr (Zab t)]) (P:=fun a=>decide (Zag t a=0)) hl fun a _=>Zsm t a;have eh:hasB ts t=ts.any fun a=>decide (Zag t a=0):=rfl;rw [eh];refine gI 27 Tryz.func146 ?_;refine fB @tmz ?_;refine fC @tmz (c) ?_;refine fR @tmz ?_;exact fT @tmz
def ZdP (cs:List (Tm × Tm)):List Tm:=cs.flatMap fun c=>[c.1,c.2]
def AL (e:Eqn) (x:Nat):List (List C):=Zaa (e.r::ZdP (e.cs.take x))
def s6 (e:Eqn):Nat->A
 | 0=>.d (.clip (AL e 0))
 | _+1=>.buf 6
def m6 (e:Eqn):Nat->List (Nat × Bk)
 | 0=>[]
 | x+1=>[(6,.buf none 46 4 (AL e (x+1)))]
theorem s6_0 (e:Eqn):s6 e 0=.d (.clip [Zab e.r]):=by simp [s6,AL,ZdP,Zaa]
theorem m6_0 (e:Eqn):m6 e 0=[]:=rfl
theorem s6_s (e:Eqn) (x:Nat):s6 e (x+1)=.buf 6:=rfl
theorem m6_s (e:Eqn) (x:Nat):m6 e (x+1)=[(6,.buf none 46 4 (AL e (x+1)))]:=rfl
theorem ZF7 (e:Eqn) (x:Nat):(s6 e x=.d (.clip (AL e x))∧m6 e x=[])∨(s6 e x=.buf 6∧m6 e x=[(6,.buf none 46 4 (AL e x))]):=by
 cases x with
 | zero=>exact .inl ⟨rfl,rfl⟩
 | succ x=>exact .inr ⟨rfl,rfl⟩
theorem ZEZ (e:Eqn) (x:Nat):Zav 4 (AL e x)=true:=Zc7 _
theorem ZpB (cs:List (Tm × Tm)):(ZdP cs).length=2 * cs.length:=by
 induction cs with
 | nil=>rfl
 | cons c cs ih=>simp only [ZdP,List.flatMap_cons,Tae,Tag,Tak] at ih ⊢;omega
theorem ZFH (e:Eqn) (x:Nat):(AL e x).length<=1+2 * e.cs.length:=by
 rw [AL,Zae,Tag,ZpB,Taw];omega
theorem ZE0 {e:Eqn} {x:Nat} {c:Tm × Tm} (h:e.cs[x]?=some c):AL e x++[Zab c.1,Zab c.2]=AL e (x+1):=by
 have h1:ZdP (e.cs.take (x+1))=ZdP (e.cs.take x)++[c.1,c.2]:=by
  rw [List.take_add_one,h];simp [ZdP]
 rw [AL,AL,h1,<- Taf,ZbT];simp [Zaa]
theorem ZvN {g:Sgn} {vs:List Tm}:∀ {cs:List (Tm × Tm)},(cs.all fun c=>ZbO g c.1 c.2)=true->cs.all (cndB g vs)=(ZdP cs).all (Zej vs)
 | [],_=>rfl
 | c::cs,h=>by
  simp only [List.all_cons,Tar] at h;have ih:=ZvN (vs:=vs) h.2;rw [List.all_cons,ih,cndB,h.1,Bool.true_and];simp [ZdP,List.all_cons,Bool.and_assoc]
theorem ZFI {g:Sgn} {l r:Tm} (h:ZbO g l r=true):ZaQ g l=true:=by simp only [ZbO,Tar] at h;exact h.1
theorem ZFJ {g:Sgn} {l r:Tm} (h:ZbO g l r=true):ZaQ g r=true:=by simp only [ZbO,Tar] at h;exact h.2.1
theorem ZpC {g:Sgn}:∀ {cs:List (Tm × Tm)},(cs.all fun c=>ZbO g c.1 c.2)=true->∀ t∈ZdP cs,ZaQ g t=true
 | [],_,t,ht=>by simp [ZdP] at ht
 | c::cs,h,t,ht=>by
  simp only [List.all_cons,Tar] at h;simp only [ZdP,List.flatMap_cons,Tbh,Tbg,List.not_mem_nil,or_false] at ht;rcases ht with (rfl | rfl) | ht
  ·exact ZFI h.1
  ·exact ZFJ h.1
  ·exact ZpC h.2 t ht
theorem ZFK {g:Sgn} {t:Tm} (h:ZaQ g t=true):t.op < 0 ↔ t.op=-1:=by
 rcases (Zbx.1 h).form.node with hn | ⟨o,d,hn⟩
 ·have:=hn.1;omega
 ·have:=hn.lo;omega
noncomputable def eqnR (g:Sgn) (e:Eqn) (vs:List Tm):Bool:=decide (vs.length<=5) && (Zej vs e.r && e.cs.all (cndB g vs))
section
variable {g:Sgn} {mc:C}
theorem ZwU (hg:SgnOk g) {e:Eqn} (he:ZgY e) (hb:bulkRow (ZaE e)<=1048576):Con e0 69 [.one (.ptr (encX g mc)),.agg (ZaE e)] [.one (.lit (.bool (eqnB g e)))]:=by
 rw [Zsk] at hb;obtain ⟨hol,hor,hoc⟩:=he;have cT:=fun (t:Tm) (h:okTm t) (hb:bulkRow (Zab t)<=1048576)=>Zer (mc:=mc) hg h (ZbM hb);have cK:=fun (t:Tm) (h:ZaQ g t=true)=>ZiZ (mc:=mc) hg (Zbx.1 h).form.node;refine gI 334100219233902667600601412539771 Tryz.func69 ?_;refine fB (ai @tmz @eqz) ?_;refine fC (ai @tmz @eqz) (cT e.l hol om) ?_
 cases hL:ZaQ g e.l with
 | false =>
  have hf:eqnB g e=false:=by simp [eqnB,ZbO,hL]
  refine fR (ai @tmz @eqz) ?_;exact fT @hf
 | true =>
 refine fC (ai @tmz @eqz) (cT e.r hor om) ?_
 cases hR:ZaQ g e.r with
 | false =>
  have hf:eqnB g e=false:=by simp [eqnB,ZbO,hR]
  refine fR (ai @tmz @eqz) ?_;exact fT @hf
 | true =>
 refine fC (ai @tmz @eqz) (cK e.l hL) ?_;refine fC (ai @tmz @eqz) (cK e.r hR) ?_;by_cases hk:Zbb g e.l=Zbb g e.r;rotate_left
 ·have hf:eqnB g e=false:=by simp [eqnB,ZbO,hk]
  have hk':(Zbb g e.l=Zbb g e.r)=False:=eq_false hk;refine fR (aj3 @tmz @eqz @hk') ?_;exact fT @hf
 have hk':(Zbb g e.l=Zbb g e.r)=True:=eq_true hk;have hP:ZbO g e.l e.r=true:=by simp [ZbO,hL,hR,hk]
 by_cases h1:e.l.op=-1
 ·have hf:eqnB g e=false:=by simp [eqnB,h1]
  have h1':(e.l.op < 0)=True:=eq_true om;refine fR (aj4 @tmz @eqz @hk' @h1') ?_;exact fT @hf
 have h1':(e.l.op < 0)=False:=eq_false fun h=>h1 ((ZFK hL).1 h);by_cases h2:e.cs.length<=2;rotate_left
 ·have hf:eqnB g e=false:=by simp [eqnB,h2]
  have h2':=lT 2 e.cs.length;refine fR (aj5 @tmz @eqz @hk' @h1' @h2') ?_;exact fT @hf
 have h2':=lF 2 e.cs.length;have ea:eqnB g e=eqnR g e (ZaW e.l):=by simp [eqnB,eqnR,hP,h1,h2]
 rw [ea];clear ea;have cV:=Zhx e.l (ZkC hL);have hvl:=ZgX e.l;refine fR (aj5 @tmz @eqz @hk' @h1' @h2') ?_;refine fB (ai @tmz @eqz) ?_;refine fC (ai @tmz @eqz) (cV) ?_;refine fR (ai @tmz @eqz) ?_;generalize ZaW e.l=vs at *;have hvb:vs.length<=big:=by unfold big;omega
 refine fG (ai @tmz @eqz) ?_;have F:=ai (s6_0 e) (m6_0 e);refine gL (ι:=Nat) [4,6,8,57,58,83] [6] (fun x=>[(57,A.d (.one (.lit (.int .i64 x)))),(6,s6 e x)]) (fun x=>m6 e x) (fun x=>x<=e.cs.length∧((e.cs.take x).all fun c=>ZbO g c.1 c.2)=true) (fun x=>e.cs.length - x) 0 ⟨Taj _,rfl⟩ (fun x hx=>?_) (hmm:=fun x=>rfl);clear F;obtain ⟨hxl,hall⟩:=hx;rcases ZF7 e x with ⟨es,em⟩ | ⟨es,em⟩
 all_goals (
  simp only [es,em,Tah,Taf];clear es em;by_cases hlt:x < e.cs.length
  ·have q1:(x:Int) < (e.cs.length:Int):=om;obtain ⟨c,hc⟩:∃ a,e.cs[x]?=some a:=⟨_,Taa hlt⟩;have hm:=Tac hc;have hco:=hoc c hm;have hcb:=Zsl hm;have hw1:=Zan (k:=x) om;have hst:=ZE0 hc;have hrb:=ZEZ e x;have hal:=ZFH e x;have hmx:(AL e x).length+2<=maxApp:=by unfold maxApp;omega
   have es1:=s6_s e x;have em1:=m6_s e x;have hcf:ZbO g c.1 c.2=false->eqnR g e vs=false:=fun h=>by
    have:e.cs.all (cndB g vs)=false:=Zds hm (by simp [cndB,h]);simp [eqnR,this]
   refine fB (aj4 @tmz @eqz @q1 @hc) ?_;refine fC (ai @tmz @eqz) (cT c.1 hco.1 om) ?_
   cases hL1:ZaQ g c.1 with
   | false =>
    have hf:=hcf (by simp [ZbO,hL1]);refine fR (ai @tmz @eqz) ?_;exact fT @hf
   | true =>
   refine fC (ai @tmz @eqz) (cT c.2 hco.2 om) ?_
   cases hR1:ZaQ g c.2 with
   | false =>
    have hf:=hcf (by simp [ZbO,hR1]);refine fR (ai @tmz @eqz) ?_;exact fT @hf
   | true =>
   refine fC (ai @tmz @eqz) (cK c.1 hL1) ?_;refine fC (ai @tmz @eqz) (cK c.2 hR1) ?_;by_cases hk1:Zbb g c.1=Zbb g c.2;rotate_left
   ·have hf:=hcf (by simp [ZbO,hk1]);have hk1':(Zbb g c.1=Zbb g c.2)=False:=eq_false hk1;refine fR (aj3 @tmz @eqz @hk1') ?_;exact fT @hf
   have hk1':(Zbb g c.1=Zbb g c.2)=True:=eq_true hk1;have hPc:ZbO g c.1 c.2=true:=by simp [ZbO,hL1,hR1,hk1]
   have hq:x+1<=e.cs.length∧((e.cs.take (x+1)).all fun c=>ZbO g c.1 c.2)=true:=⟨hlt,by rw [Zeh hc,hall,hPc];rfl⟩;refine fR (aj3 @tmz @eqz @hk1') ?_;have F:=aj8 @tmz @eqz @hw1 @hst @hrb @hmx @es1 @em1;refine gG ?_;exact ⟨x+1,hq,gw,gw,om⟩
  obtain rfl:x=e.cs.length:=by omega
  have q1:¬ ((e.cs.length:Int) < (e.cs.length:Int)):=om;rw [Tap] at hall;have eA:AL e e.cs.length=Zaa (e.r::ZdP e.cs):=by rw [AL,Tap]
  rw [eA];have er:eqnR g e vs=(decide (vs.length<=5) && (e.r::ZdP e.cs).all (Zej vs)):=by rw [eqnR,ZvN hall,List.all_cons]
  rw [er];have hall2:∀ t∈e.r::ZdP e.cs,ZaQ g t=true:=fun t ht=>by
   rcases Tbg.1 ht with rfl | ht
   ·exact hR
   ·exact ZpC hall t ht
  have hsl:(e.r::ZdP e.cs).length<=5:=by rw [Tag,ZpB];omega
  generalize e.r::ZdP e.cs=all at *;refine fG (aj3 @tmz @eqz @q1) ?_;have F:=@e0P;refine gL (ι:=Nat) [4,10,12,94,95,99,100,101,102,108] [] (fun y=>[(94,A.d (.one (.lit (.int .i64 y))))]) (fun y=>[]) (fun y=>y<=all.length∧(all.take y).all (Zej vs)=true) (fun y=>all.length - y) (0) (⟨Taj _,rfl⟩) (fun y hy=>?_);clear F;obtain ⟨hyl,hally⟩:=hy;by_cases hlt2:y < all.length;rotate_left
  ·have q2:¬ ((y:Int) < (all.length:Int)):=om;obtain rfl:y=all.length:=by omega
   rw [Tap] at hally;have e5:decide ((vs.length:Int)<=5)=decide (vs.length<=5):=by rw [decide_eq_decide];omega
   exact fT (aj4 @tmz @q2 @hally @e5)
  have q2:(y:Int) < (all.length:Int):=om;obtain ⟨t,ht⟩:∃ a,all[y]?=some a:=⟨_,Taa hlt2⟩;have hw2:=Zan (k:=y) om;have hmt:=Tac ht;have cVt:=Zhx t (ZkC (hall2 t hmt));have hus:=ZgX t;have hub:=ZkC (hall2 t hmt);have eW:Zej vs t=(ZaW t).all (hasB vs):=rfl;refine fB (aj4 @tmz @q2 @hlt2 @ht) ?_;refine fC (aj3 @tmz @hlt2 @ht) (cVt) ?_;refine fR @tmz ?_;refine fG @tmz ?_;generalize ZaW t=us at *;have F:=@e0P;refine gL (ι:=Nat) [4,12,101,102,108] [] (fun z=>[(101,A.d (.one (.lit (.int .i64 z))))]) (fun z=>[]) (fun z=>z<=us.length∧(us.take z).all (hasB vs)=true) (fun z=>us.length - z) (0) (⟨Taj _,rfl⟩) (fun z hz=>?_);clear F
  obtain ⟨hzl,hallz⟩:=hz;by_cases hlt3:z < us.length;rotate_left
  ·have q3:¬ ((z:Int) < (us.length:Int)):=om;obtain rfl:z=us.length:=by omega
   rw [Tap] at hallz;have hq:y+1<=all.length∧(all.take (y+1)).all (Zej vs)=true:=⟨hlt2,by rw [Zeh ht,hally,eW,hallz];rfl⟩;have F:=aj3 @tmz @q3 @hw2;refine gG ?_;exact ⟨y+1,hq,gw,gw,om⟩
  have q3:(z:Int) < (us.length:Int):=om;obtain ⟨v,hv⟩:∃ a,us[z]?=some a:=⟨_,Taa hlt3⟩;have hw3:=Zan (k:=z) om;refine fB (aj3 @tmz @q3 @hv) ?_;refine fC @tmz (Ztw vs v hvb) ?_
  cases hh:hasB vs v with
  | false =>
   have hf:all.all (Zej vs)=false:=Zds hmt (by rw [eW];exact Zds (Tac hv) hh);refine fR @tmz ?_;exact fT @hf
  | true =>
   have hq:z+1<=us.length∧(us.take (z+1)).all (hasB vs)=true:=⟨hlt3,by rw [Zeh hv,hallz,hh];rfl⟩;refine fR @tmz ?_
   (have F:=ai @tmz @hw3;refine gG ?_;exact ⟨z+1,hq,gw,gw,om⟩))
end
end Go.Proofs.YtcgacanpeaiabaaGreatDoor
namespace Go.Proofs.YtcgacanpeaiabaaGreatDoor
open Go.Shelf
def ZAW:Ren:=⟨fun | 4=>227 | n=>n,fun | 22=>75 | 25=>58 | 3=>3 | 4=>4 | 9=>9 | 20=>20 | 0=>0 | n=>n,fun | n=>n⟩
theorem ZD9:Go.Proofs.Lays8.n4 Tryz.prog ZAW:={
 mixed:=by kernel_rfl,
 f4:=⟨Tryz.f227.name,by decide,Tryz.func227.trans (congrArg some (by kernel_rfl))⟩,
 t0:=Tryz.underlying0,
 a0:=Tryz.isAgg0,
 z0:=Tryz.sizeOf0,
 v0:=Tryz.zeroValue0,
 t3:=Tryz.underlying3,
 a3:=Tryz.isAgg3,
 z3:=Tryz.sizeOf3,
 v3:=Tryz.zeroValue3,
 t4:=Tryz.underlying4,
 a4:=Tryz.isAgg4,
 z4:=Tryz.sizeOf4,
 v4:=Tryz.zeroValue4,
 t9:=Tryz.underlying9,
 a9:=Tryz.isAgg9,
 z9:=Tryz.sizeOf9,
 v9:=Tryz.zeroValue9,
 t20:=Tryz.underlying20,
 a20:=Tryz.isAgg20,
 z20:=Tryz.sizeOf20,
 v20:=Tryz.zeroValue20,
 t22:=Tryz.underlying75,
 a22:=Tryz.isAgg75,
 z22:=Tryz.sizeOf75,
 v22:=Tryz.zeroValue75 }
end Go.Proofs.YtcgacanpeaiabaaGreatDoor
namespace Go.Proofs.YtcgacanpeaiabaaGreatDoor
open Go.RowKit
theorem Ztx {ρ:Go.Shelf.Ren} (L:Go.Proofs.Lays8.n4 Tryz.prog ρ) {ts ety sz by':Nat} (he:ρ.t 25=ety) (hb:Za2 Tryz.prog ts=some (ety,sz,by')) (hby:by'<=4096) (hf:Zcs Tryz.prog (ρ.f 4)=true) {n:Nat} (h0:0 < n) (h1:n<=1000000):ConR e0 (ρ.f 4) [.clip [],.one (.lit (.int .i64 n))] ety sz []:=by
 subst he;refine ⟨hf,fun w S vs hS hE hG hv=>?_⟩;obtain ⟨i,z,hu,hi,hz,hsz,hby',hzs,hs0,hb4⟩:=Zdp hb
 match vs,hv with
 | [v,u],hv =>
  obtain ⟨⟨⟨A,n',cap,hvA,hn',_⟩,b,k,hbk⟩,h2,_⟩:=hv;have h2:u=.int .i64 n:=by simpa [DRel,Rep] using h2
  subst h2;have hk:k=0:=by
   rw [hbk] at hvA;obtain ⟨_,e1,e2⟩:=by simpa only [Value.slice.injEq] using hvA
   simp at hn';omega
  subst hk hbk
  have h:=Any8.slices_Grow_grow L i z hi hz om b 0 0 n [] w (Tai _) om (by
   have:(0+n) * i.bytes<=1000000 * 4096:=Nat.mul_le_mul om om;omega) om (by simp) (fun _=>rfl) (fun a _ j v hj=>by simp at hj)
  refine h.mono fun en w' ⟨h3,h4⟩=>?_;have hge:=grownCap_ge w (0+n) 0 (ρ.t 25);have hle:=grownCap_le_maxLen w (0+n) 0 (ρ.t 25) (by unfold maxLen;omega);generalize grownCap w (0+n) 0 (ρ.t 25)=G at h3 h4 hge hle;have hne:G≠0:=om;have hvb:vblk (.slice (some ⟨w.heap.size,0,none⟩) 0 G)=some w.heap.size:=by simp [vblk,hne]
  subst h4
  have hk:Kept e0.D (fun b=>(none:Option Nat)=some b) w.heap.size w (w.drew.alloc (.cells (([]:List Value).toArray++Builtin.zeroCells z.cells (0+n - 0)++Builtin.zeroCells z.cells (G - (0+n))) (ρ.t 25))) :=
   ⟨rfl,rfl,rfl,fun _=>Nat.le_succ _,by simp,fun k hk _=>heap_alloc_old w.drew _ hk⟩
  have hheap:=heap_alloc_new w.drew (.cells (([]:List Value).toArray++Builtin.zeroCells z.cells (0+n - 0)++Builtin.zeroCells z.cells (G - (0+n))) (ρ.t 25));refine ⟨_,h3,⟨hk.os,hk.tape,hk.output,hk.drawn,hk.size,fun b hb _=>hk.block b hb (by simp)⟩,ZmS.keep w _ hk.size (fun b' hb'=>hk.block b' (hE b' hb') (by simp)) hG,fun g hg=>?_,?_⟩
  ·rw [hvb] at hg;injection hg with hg
   omega
  ·refine ⟨om,fun r hr=>by simp at hr,.inr ⟨w.heap.size,G,_,rfl,om,by simp,fun h=>h.2 hvb,hheap,by simp,hle,?_,by simp [Zap]⟩⟩;simp only [Array.size_append,size_zeroCells,hzs,List.size_toArray,Tak,Nat.zero_add,Nat.sub_zero,<- Nat.add_mul];rw [show n+(G - n)=G by omega]
theorem Zsn {ρ:Go.Shelf.Ren} (L:Go.Proofs.Lays8.n4 Tryz.prog ρ) (hf:Zcs Tryz.prog (ρ.f 4)=true) {n:Nat} (h0:n=0):Con e0 (ρ.f 4) [.clip [],.one (.lit (.int .i64 n))] [.clip []]:=by
 subst h0;refine ⟨hf,fun w S vs hS hE hG hv=>?_⟩
 match vs,hv with
 | [v,u],hv =>
  obtain ⟨⟨⟨A,n',cap,hvA,hn',hr⟩,b,k,hbk⟩,h2,_⟩:=hv;have h2:u=.int .i64 ((0:Nat):Int):=by simpa [DRel,Rep] using h2
  subst h2;have hk:k=0:=by
   rw [hbk] at hvA;obtain ⟨_,e1,e2⟩:=by simpa only [Value.slice.injEq] using hvA
   simp at hn';omega
  subst hk hbk;have h:=Any8.slices_Grow_room L b 0 0 0 w (Tai _) om om om;refine h.mono fun en w' ⟨h3,h4⟩=>?_;subst h4;refine ⟨_,h3,⟨rfl,rfl,rfl,fun _=>Tai _,Tai _,fun k hk _=>rfl⟩,hG,?_⟩;simp only [retA,ARel,DRel,Rep];exact ⟨⟨b,0,0,rfl,by simp,by simp,by simp,fun h=>absurd h (by simp)⟩,b,0,rfl⟩
theorem ZwV {n:Nat} (h0:n=0):Con e0 227 [.clip [],.one (.lit (.int .i64 n))] [.clip []]:=Zsn ZD9 (by kernel_rfl) h0
theorem ZwW {n:Nat} (h0:0 < n) (h1:n<=1000000):ConR e0 227 [.clip [],.one (.lit (.int .i64 n))] 58 9 [] :=
 Ztx ZD9 (ts:=75) (by':=136) rfl (by kernel_rfl) (by decide) (by kernel_rfl) h0 h1
def totR (rs:List (List (List C))) (x:Nat):Nat:=(rs.take x).flatten.length
def flR (rs:List (List (List C))) (x:Nat):List (List C):=(rs.take x).flatten
theorem ZFL (rs:List (List (List C))):totR rs 0=0:=by simp [totR]
theorem ZF8 (rs:List (List (List C))):flR rs 0=[]:=by simp [flR]
theorem Zso {rs:List (List (List C))} {x:Nat} {r:List (List C)} (h:rs[x]?=some r):flR rs x++r=flR rs (x+1):=by
 simp [flR,List.take_add_one,h]
theorem ZAX {rs:List (List (List C))} {x:Nat} {r:List (List C)} (h:rs[x]?=some r):totR rs (x+1)=totR rs x+r.length:=by
 have:=Zso h;simp only [totR,flR] at this ⊢;rw [<- this,Tae]
theorem ZvO (rs:List (List (List C))) (x:Nat):totR rs x<=rs.flatten.length:=by
 have:rs.flatten=(rs.take x).flatten++(rs.drop x).flatten:=by rw [<- List.flatten_append,Tbm]
 rw [totR,this,Tae];omega
theorem ZFM (rs:List (List (List C))):Zav 1 (rs.map fun r=>[C.sl r])=true:=by
 induction rs with
 | nil=>rfl
 | cons r rs ih=>simp [ZdI,ih,ZaB]
theorem Zty (rs:List (List (List C))) (hr:∀ r∈rs,Zav 9 r=true) (hn:rs.length<=1000) (hl:rs.flatten.length<=1000000):Con e0 156 [.one (.sl (rs.map fun r=>[.sl r]))] [.one (.sl rs.flatten)]:=by
 have rb:=ZFM rs;refine gI 504373101 Tryz.func156 ?_;refine fG @tmz ?_;have F:=((ZFL rs));refine gL (ι:=Nat) [3,5,11,12,20] [] (fun x=>[(3,A.d (.one (.lit (.int .i64 (totR rs x))))),(11,A.d (.one (.lit (.int .i64 x))))]) (fun x=>[]) (fun x=>x<=rs.length) (fun x=>rs.length - x) (0) (Taj _) (fun x hx=>?_);clear F;by_cases hlt:x < rs.length
 ·have q1:(x:Int) < (rs.length:Int):=om;obtain ⟨r,hx1⟩:∃ a,rs[x]?=some a:=⟨_,Taa hlt⟩;have hw1:=Zan (k:=x) om;have hts:=ZAX hx1;have htl:=ZvO rs (x+1);have hw2:IntKind.i64.wrap ((totR rs x:Int)+(r.length:Int))=(totR rs (x+1):Int):=by rw [IntWalk.i64_in _ om];omega
  have hn2:¬ ((totR rs (x+1):Int) < 0):=om;have F:=aj7 @tmz @rb @q1 @hx1 @hw1 @hw2 @hn2;refine gG ?_;exact ⟨x+1,hlt,gw,gw,om⟩
 obtain rfl:x=rs.length:=by omega
 have q1:¬ ((rs.length:Int) < (rs.length:Int)):=om;have htt:totR rs rs.length=rs.flatten.length:=by simp [totR]
 refine fB (ai @tmz @q1) ?_;have hfin:flR rs rs.length=rs.flatten:=by simp [flR]
 rcases Nat.eq_zero_or_pos (totR rs rs.length) with h0 | h0
 refine fC @tmz (ZwV h0) ?_;rotate_left;have F:=@tmz;refine gCR (ZwW h0 om) ?_;clear F
 all_goals (
  refine fR @tmz ?_;refine fG @tmz ?_;have F:=((ZF8 rs));refine gL (ι:=Nat) [6,8,27,28] [6] (fun y=>[(6,.buf 6),(27,A.d (.one (.lit (.int .i64 y))))]) (fun y=>[(6,.buf none 58 9 (flR rs y))]) (fun y=>y<=rs.length) (fun y=>rs.length - y) (0) (Taj _) (fun y hy=>?_);clear F;by_cases hlt:y < rs.length
  ·have q2:(y:Int) < (rs.length:Int):=om;obtain ⟨r,hy1⟩:∃ a,rs[y]?=some a:=⟨_,Taa hlt⟩;have hw1:=Zan (k:=y) om;have hrr:=hr r (Tac hy1);have hst:=Zso hy1;have htl:=ZvO rs (y+1);have hlen:(flR rs y).length+r.length<=maxApp:=by
    rw [<- Tae,hst];unfold maxApp;have:(flR rs (y+1)).length=totR rs (y+1):=rfl;omega
   have F:=aj8 @tmz @rb @q2 @hy1 @hw1 @hrr @hst @hlen;refine gG ?_;exact ⟨y+1,hlt,gw,gw,om⟩
  obtain rfl:y=rs.length:=by omega
  have q2:¬ ((rs.length:Int) < (rs.length:Int)):=om;rw [hfin]
  (have F:=ai @tmz @q2;refine gG ?_;exact gTz [2]))
structure Mdl where
 sig:Sgn
 eqs:List Eqn
 rules:List Eqn
def Zco (m:Mdl):List C:=[.sl (m.sig.sorts.names.map ZbY),.sl (m.sig.sorts.subs.map Zb4),.sl (m.sig.ops.map Zbf),.sl (m.eqs.map ZaE),.sl (m.rules.map ZaE)]
def ZgZ (m:Mdl):Prop:=Zcg m.sig∧(∀ e∈m.eqs,ZgY e)∧∀ e∈m.rules,ZgY e
theorem Zos:∀ {rows:List (List C)},Zai (Zac .eqn) rows->∃ l:List Eqn,rows=l.map ZaE∧∀ e∈l,ZgY e
 | [],_=>⟨[],rfl,by simp⟩
 | r::rs,h=>by
  simp only [Zai] at h;obtain ⟨c,rfl,hc⟩:=ZFG h.1;obtain ⟨cs,rfl,hcs⟩:=Zos h.2;exact ⟨c::cs,rfl,by intro x hx;rcases Tbg.1 hx with rfl | hx;exact hc;exact hcs x hx⟩
theorem ZFN {row:List C} (h:Zaj ZbQ row):∃ m,row=Zco m∧ZgZ m:=by
 obtain ⟨r0,r1,r2,r3,r4,rfl,g0,g1,g2,g3,g4⟩:=ZfK h;obtain ⟨s,hs,hok⟩:=ZFd (Zex g0 g1 g2);obtain ⟨es,rfl,hes⟩:=Zos g3;obtain ⟨us,rfl,hus⟩:=Zos g4;rw [Zas] at hs;injection hs with e0 hs
 injection hs with e1 hs
 injection hs with e2 hs
 exact ⟨⟨s,es,us⟩,by rw [Zco,e0,e1,e2],hok,hes,hus⟩
theorem ZeJ (l:List Eqn):Zav 9 (l.map ZaE)=true:=by
 induction l with
 | nil=>rfl
 | cons e l ih=>simp only [Tbu,ZdI,ZkA,ih,ZwS];rfl
noncomputable def ZdB (m:Mdl):Bool:=decide (m.eqs.length<=16) && (decide (m.rules.length<=16) && (m.eqs.all (eqnB m.sig) && m.rules.all (eqnB m.sig)))
noncomputable def Zek (m:Mdl):Bool:=Zbl m.sig && ZdB m
theorem Zjk (m:Mdl):bulkRow (Zco m)=bulkRow (Zas m.sig)+(m.eqs.length+bulkRows (m.eqs.map ZaE)+(m.rules.length+bulkRows (m.rules.map ZaE))):=by
 simp only [Zco,Zas,bulkRow,ZaS,Tay];omega
theorem Zgj {l:List Eqn} {e:Eqn} (h:e∈l):bulkRow (ZaE e)<=bulkRows (l.map ZaE):=by
 obtain ⟨i,hi⟩:=Tbk h;have:(l.map ZaE)[i]?=some (ZaE e):=by rw [Tba,hi];rfl
 exact Zck this
theorem Ztz {m:Mdl} (hm:ZgZ m) (hb:bulkRow (Zco m)<=1048576):Con e0 81 [.agg (Zco m)] [.one (.lit (.bool (Zek m)))]:=by
 rw [Zjk] at hb;obtain ⟨hokg,hoe,hou⟩:=hm;have cS:=Zgb hokg;rw [Zas] at cS;have cE:=fun (e:Eqn) (he:ZgY e) (hb:bulkRow (ZaE e)<=1048576)=>Ztv hokg he hb;rw [Zas] at cE;have er:=ZeJ;have ed:Zco m=[.sl (m.sig.sorts.names.map ZbY),.sl (m.sig.sorts.subs.map Zb4),.sl (m.sig.ops.map Zbf),.sl (m.eqs.map ZaE),.sl (m.rules.map ZaE)]:=rfl;rw [ed];refine gI 4505867404705823 Tryz.func81 ?_;refine fB (aj3 @tmz @eqz @er) ?_
 refine fC @tmz (cS) ?_;by_cases hs:Zbl m.sig=true;rotate_left
 ·have hs':Zbl m.sig=false:=by simpa using hs
  have hf:Zek m=false:=by simp [Zek,hs']
  refine fR (ai @tmz @hs') ?_;exact fT @hf
 by_cases h1:m.eqs.length<=16;rotate_left
 ·have hf:Zek m=false:=by simp [Zek,ZdB,h1]
  have h1':(16:Int) < (m.eqs.length:Int):=om;refine fR (aj3 @tmz @hs @h1') ?_;exact fT @hf
 have h1':¬ ((16:Int) < (m.eqs.length:Int)):=om;by_cases h2:m.rules.length<=16;rotate_left
 ·have hf:Zek m=false:=by simp [Zek,ZdB,h2]
  have h2':(16:Int) < (m.rules.length:Int):=om;refine fR (aj4 @tmz @hs @h1' @h2') ?_;exact fT @hf
 have h2':¬ ((16:Int) < (m.rules.length:Int)):=om;have ei:Zek m=(m.eqs.all (eqnB m.sig) && m.rules.all (eqnB m.sig)):=by simp [Zek,ZdB,hs,h1,h2]
 rw [ei];have eq':∀ e,Zjj m.sig e=eqnB m.sig e:=fun e=>by simp [Zjj,hs]
 refine fR (aj4 @tmz @hs @h1' @h2') ?_;refine fG (aj3 @tmz @eqz @er) ?_;have F:=@e0P;refine gL (ι:=Nat) [2,3,25,36] [] (fun x=>[(3,A.d (.one (.lit (.int .i64 x))))]) (fun x=>[]) (fun x=>x<=m.eqs.length∧(m.eqs.take x).all (eqnB m.sig)=true) (fun x=>m.eqs.length - x) (0) (⟨Taj _,rfl⟩) (fun x hx=>?_);clear F;obtain ⟨hxl,hall⟩:=hx;by_cases hlt:x < m.eqs.length
 ·have q1:(x:Int) < (m.eqs.length:Int):=om;obtain ⟨c,hc⟩:∃ a,m.eqs[x]?=some a:=⟨_,Taa hlt⟩;have hmm:=Tac hc;have hw1:=Zan (k:=x) om;have hbb:=Zgj hmm;refine fB (aj5 @tmz @eqz @er @q1 @hc) ?_;refine fC (aj4 @tmz @eqz @er @hc) (cE c (hoe c hmm) om) ?_;rw [eq' c]
  cases hh:eqnB m.sig c with
  | false =>
   have hf:m.eqs.all (eqnB m.sig)=false:=Zds hmm hh;refine fR @tmz ?_;exact fT @hf
  | true =>
   have hq:x+1<=m.eqs.length∧(m.eqs.take (x+1)).all (eqnB m.sig)=true:=⟨hlt,by rw [Zeh hc,hall,hh];rfl⟩;refine fR @tmz ?_;have F:=ai @tmz @hw1;refine gG ?_;exact ⟨x+1,hq,gw,gw,om⟩
 obtain rfl:x=m.eqs.length:=by omega
 have q1:¬ ((m.eqs.length:Int) < (m.eqs.length:Int)):=om;rw [Tap] at hall;rw [hall,Bool.true_and];refine fG (aj4 @tmz @eqz @er @q1) ?_;have F:=@e0P;refine gL (ι:=Nat) [2,4,41,52] [] (fun y=>[(4,A.d (.one (.lit (.int .i64 y))))]) (fun y=>[]) (fun y=>y<=m.rules.length∧(m.rules.take y).all (eqnB m.sig)=true) (fun y=>m.rules.length - y) (0) (⟨Taj _,rfl⟩) (fun y hy=>?_);clear F;obtain ⟨hyl,hally⟩:=hy;by_cases hlt2:y < m.rules.length
 ·have q2:(y:Int) < (m.rules.length:Int):=om;obtain ⟨c,hc⟩:∃ a,m.rules[y]?=some a:=⟨_,Taa hlt2⟩;have hmm:=Tac hc;have hw1:=Zan (k:=y) om;have hbb:=Zgj hmm;refine fB (aj5 @tmz @eqz @er @q2 @hc) ?_;refine fC (aj4 @tmz @eqz @er @hc) (cE c (hou c hmm) om) ?_;rw [eq' c]
  cases hh:eqnB m.sig c with
  | false =>
   have hf:m.rules.all (eqnB m.sig)=false:=Zds hmm hh;refine fR @tmz ?_;exact fT @hf
  | true =>
   have hq:y+1<=m.rules.length∧(m.rules.take (y+1)).all (eqnB m.sig)=true:=⟨hlt2,by rw [Zeh hc,hally,hh];rfl⟩;refine fR @tmz ?_;have F:=ai @tmz @hw1;refine gG ?_;exact ⟨y+1,hq,gw,gw,om⟩
 obtain rfl:y=m.rules.length:=by omega
 have q2:¬ ((m.rules.length:Int) < (m.rules.length:Int)):=om;rw [Tap] at hally;exact fT (aj4 @tmz @er @q2 @hally)
theorem ZAY {e:Env} {f:FuncId} {rows:List (List C)} {r:List D} (h:Con e f [.one (.sl rows)] r):Con e f [.clip rows] r :=
 h.weaken fun w S vs hv=>by
  match vs,hv with
  | [x],hv=>exact ⟨hv.1.1,trivial⟩
theorem ZAZ {m:Mdl} {mc:C} (hg:SgnOk m.sig) (hm:ZgZ m) (hb:bulkRow (Zco m)<=1048576):Con e0 86 [.one (.ptr (encX m.sig mc)),.agg (Zco m)] [.one (.lit (.bool (ZdB m)))]:=by
 rw [Zjk] at hb;obtain ⟨hokg,hoe,hou⟩:=hm;have cE:=fun (e:Eqn) (he:ZgY e) (hb:bulkRow (ZaE e)<=1048576)=>ZwU (mc:=mc) hg he hb;have er:=ZeJ;have ed:Zco m=[.sl (m.sig.sorts.names.map ZbY),.sl (m.sig.sorts.subs.map Zb4),.sl (m.sig.ops.map Zbf),.sl (m.eqs.map ZaE),.sl (m.rules.map ZaE)]:=rfl;rw [ed];refine gI 2210463835 Tryz.func86 ?_;by_cases h1:m.eqs.length<=16;rotate_left
 ·have hf:ZdB m=false:=by simp [ZdB,h1]
  have h1':(16:Int) < (m.eqs.length:Int):=om;exact fT (aj4 @tmz @er @h1' @hf)
 have h1':¬ ((16:Int) < (m.eqs.length:Int)):=om;by_cases h2:m.rules.length<=16;rotate_left
 ·have hf:ZdB m=false:=by simp [ZdB,h2]
  have h2':(16:Int) < (m.rules.length:Int):=om;exact fT (aj5 @tmz @er @h1' @h2' @hf)
 have h2':¬ ((16:Int) < (m.rules.length:Int)):=om;have cC:=ZAY (Zty [m.eqs.map ZaE,m.rules.map ZaE] (by intro r hr;simp at hr;rcases hr with rfl | rfl <;> exact er _) (by simp) (by simp;omega));have ef:[m.eqs.map ZaE,m.rules.map ZaE].flatten=(m.eqs++m.rules).map ZaE:=by simp
 rw [ef] at cC;simp only [Tbu,List.map_nil] at cC;have ei:ZdB m=(m.eqs++m.rules).all (eqnB m.sig):=by simp [ZdB,h1,h2,List.all_append]
 rw [ei];have hal:∀ e∈m.eqs++m.rules,ZgY e∧bulkRow (ZaE e)<=1048576:=fun e he=>by
  rcases Tbh.1 he with h | h
  ·have:=Zgj h;exact ⟨hoe e h,om⟩
  ·have:=Zgj h;exact ⟨hou e h,om⟩
 have hln:(m.eqs++m.rules).length<=32:=by rw [Tae];omega
 refine fB (aj4 @tmz @er @h1' @h2') ?_;refine fC (ai @tmz @er) (cC) ?_;generalize m.eqs++m.rules=l at *;refine fR (ai @tmz @er) ?_;refine fG (ai @tmz @er) ?_;have F:=@e0P;refine gL (ι:=Nat) [4,6,24,25,31] [] (fun x=>[(24,A.d (.one (.lit (.int .i64 x))))]) (fun x=>[]) (fun x=>x<=l.length∧(l.take x).all (eqnB m.sig)=true) (fun x=>l.length - x) (0) (⟨Taj _,rfl⟩) (fun x hx=>?_);clear F;obtain ⟨hxl,hall⟩:=hx
 by_cases hlt:x < l.length
 ·have q1:(x:Int) < (l.length:Int):=om;obtain ⟨c,hc⟩:∃ a,l[x]?=some a:=⟨_,Taa hlt⟩;have hmm:=Tac hc;have hw1:=Zan (k:=x) om;refine fB (aj5 @tmz @eqz @er @q1 @hc) ?_;refine fC (aj4 @tmz @eqz @er @hc) (cE c (hal c hmm).1 (hal c hmm).2) ?_
  cases hh:eqnB m.sig c with
  | false =>
   have hf:l.all (eqnB m.sig)=false:=Zds hmm hh;refine fR @tmz ?_;exact fT @hf
  | true =>
   have hq:x+1<=l.length∧(l.take (x+1)).all (eqnB m.sig)=true:=⟨hlt,by rw [Zeh hc,hall,hh];rfl⟩;refine fR @tmz ?_;have F:=ai @tmz @hw1;refine gG ?_;exact ⟨x+1,hq,gw,gw,om⟩
 obtain rfl:x=l.length:=by omega
 have q1:¬ ((l.length:Int) < (l.length:Int)):=om;rw [Tap] at hall;exact fT (aj4 @tmz @er @q1 @hall)
def ZfL (g:Sgn) (b:List Bd) (ecs:List (Tm × Tm)) (cs:List Chn) (fl:List Bool):Prop:=∀ (k:Nat) c,ecs[k]?=some c->∃ x y,cs[2 * k]?=some x∧cs[2 * k+1]?=some y∧aS g b c.1=some x.frm∧aS g b c.2=some y.frm∧x.to=y.to∧fl[2 * k]?=some true∧fl[2 * k+1]?=some true
open Classical in
noncomputable def Zfm (m:Mdl) (t:Tm) (i:Int) (o:Occ) (cs:List Chn) (fl:List Bool):Option Tm:=if i < 0 then none else match m.eqs[i.toNat]? with
 | none=>none
 | some e=>if (tkT m.sig t o).2=true∧mtB m.sig e.l (tkT m.sig t o).1 o.mat=true∧cs.length=2 * e.cs.length∧ZfL m.sig o.mat e.cs cs fl then (aS m.sig o.mat e.r).bind (rpT m.sig t o) else none
mutual
noncomputable def ZbH (m:Mdl):Chn->Bool
 | .mk a b ls=>ZaQ m.sig a && ((goL m ls a).map fun t=>decide (Zag t b=0)).getD false
noncomputable def goL (m:Mdl):List Lnk->Tm->Option Tm
 | [],t=>some t
 | l::ls,t=>(ZfM m l t).bind (goL m ls)
noncomputable def ZfM (m:Mdl):Lnk->Tm->Option Tm
 | .mk i o cs,t=>Zfm m t i o cs (ZiE m cs)
noncomputable def ZiE (m:Mdl):List Chn->List Bool
 | []=>[]
 | c::cs=>ZbH m c::ZiE m cs
end
theorem ZnH (m:Mdl):∀ cs,ZiE m cs=cs.map (ZbH m)
 | []=>by simp only [ZiE,List.map_nil]
 | c::cs=>by simp only [ZiE,Tbu,ZnH m cs]
theorem Zmi (m:Mdl) (l:Lnk) (t:Tm):ZfM m l t=Zfm m t l.idx l.occ l.conds (l.conds.map (ZbH m)):=by
 obtain ⟨i,o,cs⟩:=l;simp only [ZfM,ZnH,Lnk.idx,Lnk.occ,Lnk.conds]
theorem ZpD (m:Mdl) (c:Chn):ZbH m c=(ZaQ m.sig c.frm && ((goL m c.links c.frm).map fun t=>decide (Zag t c.to=0)).getD false):=by
 obtain ⟨a,b,ls⟩:=c;simp only [ZbH,Chn.frm,Chn.to,Chn.links];rfl
theorem ZA0 {m:Mdl} {ls:List Lnk} {i:Nat} {l:Lnk} (h:ls[i]?=some l) (t:Tm):goL m (ls.drop i) t=(ZfM m l t).bind (goL m (ls.drop (i+1))):=by
 obtain ⟨h1,rfl⟩:=Tad.1 h;rw [List.drop_eq_getElem_cons h1,goL]
theorem ZvP {m:Mdl} {ls:List Lnk} (t:Tm):goL m (ls.drop ls.length) t=some t:=by rw [List.drop_length,goL]
theorem Zsp {m:Mdl} {t:Tm} {i:Int} {o:Occ} {cs:List Chn} {fl:List Bool} (h:i < 0):Zfm m t i o cs fl=none:=by unfold Zfm;rw [if_pos h]
theorem Zsq {m:Mdl} {t:Tm} {i:Int} {o:Occ} {cs:List Chn} {fl:List Bool} (h:(m.eqs.length:Int)<=i):Zfm m t i o cs fl=none:=by
 unfold Zfm;rw [if_neg om,List.getElem?_eq_none om]
open Classical in
theorem Zsr {m:Mdl} {t:Tm} {i:Int} {o:Occ} {cs:List Chn} {fl:List Bool} {e:Eqn} (h0:0<=i) (he:m.eqs[i.toNat]?=some e):Zfm m t i o cs fl=if (tkT m.sig t o).2=true∧mtB m.sig e.l (tkT m.sig t o).1 o.mat=true∧cs.length=2 * e.cs.length∧ZfL m.sig o.mat e.cs cs fl then (aS m.sig o.mat e.r).bind (rpT m.sig t o) else none:=by
 unfold Zfm;rw [if_neg om,he]
theorem ZeK {m:Mdl} {t:Tm} {i:Int} {o:Occ} {cs:List Chn} {fl:List Bool} {e:Eqn} (h0:0<=i) (he:m.eqs[i.toNat]?=some e) (h:¬ ((tkT m.sig t o).2=true∧mtB m.sig e.l (tkT m.sig t o).1 o.mat=true∧cs.length=2 * e.cs.length∧ZfL m.sig o.mat e.cs cs fl)):Zfm m t i o cs fl=none:=by rw [Zsr h0 he,if_neg h]
theorem ZpE {m:Mdl} {t:Tm} {i:Int} {o:Occ} {cs:List Chn} {fl:List Bool} {e:Eqn} (h0:0<=i) (he:m.eqs[i.toNat]?=some e) (h1:(tkT m.sig t o).2=true) (h2:mtB m.sig e.l (tkT m.sig t o).1 o.mat=true) (h3:cs.length=2 * e.cs.length) (h4:ZfL m.sig o.mat e.cs cs fl):Zfm m t i o cs fl=(aS m.sig o.mat e.r).bind (rpT m.sig t o):=by rw [Zsr h0 he,if_pos ⟨h1,h2,h3,h4⟩]
theorem Zss {m:Mdl} {l:Lnk} {t u:Tm} (h:ZfM m l t=some u):TermOk m.sig u:=by
 rw [Zmi] at h;unfold Zfm at h;split at h
 ·cases h
 ·split at h
  ·cases h
  ·split at h
   ·obtain ⟨v,_,h2⟩:=Option.bind_eq_some_iff.1 h;exact ZAV h2
   ·cases h
theorem ZhD (c:Chn):ZaI c=Zab c.frm++(Zab c.to++[.sl (Zch c.links)]):=by
 obtain ⟨a,b,ls⟩:=c;simp only [ZaI,Chn.frm,Chn.to,Chn.links]
theorem ZdV (l:Lnk):Zcp l=[.lit (.int .i64 l.idx),.sl (l.occ.path.map ZaK),.sl (Zaa l.occ.left),.sl (Zaa l.occ.right),.sl (l.occ.mat.map Zbt),.sl (Zbu l.conds)]:=by
 obtain ⟨i,o,cs⟩:=l;simp only [Zcp,Zcb,Lnk.idx,Lnk.occ,Lnk.conds,Taf,Tah]
theorem ZkD (c:Chn):(ZaI c).length=9:=by rw [ZhD];simp [(tmz.2.2.2.2.1:∀ t,(Zab t).length=4)]
theorem Zst (c:Chn):(ZaI c).take 4=Zab c.frm:=by rw [ZhD];exact Zdu _ _
theorem Zmj (c:Chn):(ZaI c).drop 4=Zab c.to++[.sl (Zch c.links)]:=by rw [ZhD];exact ZfZ _ _
theorem Zsu (c:Chn):(ZaI c).drop 8=[.sl (Zch c.links)]:=by rw [show (8:Nat)=4+4 from rfl,<- List.drop_drop,Zmj,ZfZ]
theorem Zsv (c:Chn):(ZaI c).take 9=ZaI c:=List.take_of_length_le (by rw [ZkD];exact Tai _)
theorem Zsw (c:Chn):(ZaI c).drop 9=[]:=List.drop_of_length_le (by rw [ZkD];exact Tai _)
theorem ZwX (c:Chn):(ZaI c).all ZaB=true:=by
 rw [ZhD];simp only [List.all_append,(tmz.2.2.2.2.2.2.2.1:∀ t,(Zab t).all ZaB=true),Bool.true_and];rfl
theorem Zsx (l:Lnk):(Zcp l).length=6:=by rw [ZdV];rfl
theorem ZvQ (l:Lnk):(Zcp l).take 6=Zcp l:=by rw [ZdV];rfl
theorem ZvR (l:Lnk):(Zcp l).drop 6=[]:=by rw [ZdV];rfl
theorem ZwY (l:Lnk):(Zcp l).all ZaB=true:=by rw [ZdV];rfl
theorem ZhE:∀ (cs:List Chn),Zav 9 (Zbu cs)=true
 | []=>by simp only [Zbu];rfl
 | c::cs=>by simp only [Zbu,ZdI,ZkD,ZwX,ZhE cs];rfl
theorem Zmk:∀ (cs:List Lnk),Zav 6 (Zch cs)=true
 | []=>by simp only [Zch];rfl
 | c::cs=>by simp only [Zch,ZdI,Zsx,ZwY,Zmk cs];rfl
theorem chz:type_of% (aj15 ZkD Zst Zmj Zsu Zsv Zsw ZwX Zsx ZvQ ZvR ZwY ZhE Zmk Ze7 (aj3 Zh6 Zh7 Zh8)):=aj15 ZkD Zst Zmj Zsu Zsv Zsw ZwX Zsx ZvQ ZvR ZwY ZhE Zmk Ze7 (aj3 Zh6 Zh7 Zh8)
theorem ZhF (c:Chn):bulkRow (ZaI c)=bulkRow (Zab c.frm)+(bulkRow (Zab c.to)+(c.links.length+bulkRows (Zch c.links))):=by
 rw [ZhD,ZfX,ZfX];simp only [bulkRow,ZaS,Zh6];omega
theorem ZhG (l:Lnk):bulkRow (Zcp l)=bulkRow (Zcb l.occ)+(l.conds.length+bulkRows (Zbu l.conds)):=by
 rw [ZdV];simp only [Zcb,bulkRow,ZaS,Ze7];omega
theorem ZlG {ls:List Lnk} {l:Lnk} (h:l∈ls):bulkRow (Zcp l)<=bulkRows (Zch ls):=by rw [ZgQ];exact ZfI (List.mem_map_of_mem h)
theorem ZlH {cs:List Chn} {c:Chn} (h:c∈cs):bulkRow (ZaI c)<=bulkRows (Zbu cs):=by rw [ZgP];exact ZfI (List.mem_map_of_mem h)
theorem Zjl {c:Chn} {l:Lnk} (h:l∈c.links):ZaC (Zcp l) < ZaC (ZaI c):=by
 obtain ⟨i,hi⟩:=Tbk h;have hi':(Zch c.links)[i]?=some (Zcp l):=by rw [Zh8,hi];rfl
 have h1:=ZbZ hi';obtain ⟨⟨o,n,s,a⟩,⟨o2,n2,s2,a2⟩,ls⟩:=c;simp only [Chn.links] at h1;simp only [ZaI,Zab,Taf,Tah,ZaC,Zcz];omega
theorem Zjm {l:Lnk} {c:Chn} (h:c∈l.conds):ZaC (ZaI c) < ZaC (Zcp l):=by
 obtain ⟨i,hi⟩:=Tbk h;have hi':(Zbu l.conds)[i]?=some (ZaI c):=by rw [Zh7,hi];rfl
 have h1:=ZbZ hi';rw [ZdV];simp only [ZaC,Zcz];omega
theorem Zg6 {c:Chn}:Zed c ↔ okTm c.frm∧okTm c.to∧∀ l∈c.links,Zf5 l:=by
 obtain ⟨a,b,ls⟩:=c;simp only [Zed,Chn.frm,Chn.to,Chn.links,ZmV]
theorem Zk7 {l:Lnk}:Zf5 l ↔ I64 l.idx∧ZmT l.occ∧∀ c∈l.conds,Zed c:=by
 obtain ⟨i,o,cs⟩:=l;simp only [Zf5,Lnk.idx,Lnk.occ,Lnk.conds,ZmU]
section
variable {m:Mdl}
def LnkC (m:Mdl) (l:Lnk) (t:Tm):Prop:=Con e0 91 [.one (.ptr (Zco m)),.agg (Zab t),.agg (Zcp l)] [.agg (Zab ((ZfM m l t).getD zTm)),.one (.lit (.bool (ZfM m l t).isSome))]
def RgtC (m:Mdl) (c:Chn):Prop:=Con e0 83 [.one (.ptr (Zco m)),.agg (ZaI c)] [.one (.lit (.bool (ZbH m c)))]
theorem Zml (m:Mdl):Zco m=[.sl (m.sig.sorts.names.map ZbY),.sl (m.sig.sorts.subs.map Zb4),.sl (m.sig.ops.map Zbf),.sl (m.eqs.map ZaE),.sl (m.rules.map ZaE)]:=rfl
theorem ZwZ (hg:SgnOk m.sig) (hokg:Zcg m.sig) {c:Chn} (hc:Zed c) (hb:bulkRow (ZaI c)<=1048576) (h:∀ l∈c.links,∀ t,TermOk m.sig t->LnkC m l t):RgtC m c:=by
 have hbc:=ZhF c;obtain ⟨hoa,hob,_⟩:=Zg6.1 hc;have cT:=ZcG hokg hoa (ZbM om);have es:Zas m.sig=[.sl (m.sig.sorts.names.map ZbY),.sl (m.sig.sorts.subs.map Zb4),.sl (m.sig.ops.map Zbf)]:=rfl;have er:=ZeJ;rw [ZcH hg,Bool.true_and] at cT;unfold RgtC;unfold LnkC at h;rw [ZpD];simp only [Zml] at h ⊢;refine gI (ts:=[.slot 4]) 137443279355 Tryz.func83 ?_;refine fN 2 (ai @chz @tmz) ?_;refine gB ?_;refine fC (aj3 @es @chz @tmz) (cT) ?_
 cases h1:ZaQ m.sig c.frm with
 | false =>
  refine fR @tmz ?_;exact fD @tmz
 | true =>
 have hTa:=Zbx.1 h1;refine fR @tmz ?_;rw [Bool.true_and];refine fG (ai @chz @tmz) ?_;have F:=ai @chz @tmz;refine gL (ι:=Nat × Tm) [4,6,7,8,22,37] [5] (fun x=>[(6,A.d (.one (.lit (.int .i64 x.1))))]) (fun x=>[(5,.var none (Zab x.2))]) (fun x=>x.1<=c.links.length∧TermOk m.sig x.2∧goL m c.links c.frm=goL m (c.links.drop x.1) x.2) (fun x=>c.links.length - x.1) ((0,c.frm)) (⟨Taj _,hTa,rfl⟩) (fun x hx=>?_);clear F
 obtain ⟨i,t⟩:=x;obtain ⟨hi,hT,hgo⟩:=hx;simp only at hi hT hgo;dsimp only;by_cases hil:i < c.links.length;rotate_left
 ·obtain rfl:i=c.links.length:=by omega
  have q1:=lF c.links.length c.links.length;rw [ZvP] at hgo;have cS:=ZcC (ZaF.ok hg _ t (Tan _) hT.form) hob;rw [hgo];have z1:((some t).map fun t=>decide (Zag t c.to=0)).getD false=decide (Zag t c.to=0):=rfl;rw [z1];refine fN 11 (aj3 @q1 @chz @tmz) ?_;refine gB ?_;refine fC (aj3 @chz @Zdu @tmz) (cS) ?_;refine fR @tmz ?_;exact fD @tmz
 have q1:=lT i c.links.length;obtain ⟨l,hl⟩:∃ l,c.links[i]?=some l:=⟨_,Taa hil⟩;have cF:=h l (Tac hl) t hT;have hwi:=Zan (k:=i) om;rw [ZA0 hl] at hgo;refine fN 7 (aj6 @q1 @hl @hil @Zal @chz @tmz) ?_;refine gLt 11 10 12 ?_;refine fC (aj5 @hl @hil @Zal @chz @tmz) (cF) ?_;refine fR @tmz ?_
 cases hk:ZfM m l t with
 | none =>
  have z2:(none:Option Tm).isSome=false:=rfl;rw [hgo,hk];have z3:(((none:Option Tm).bind (goL m (c.links.drop (i+1)))).map fun t=>decide (Zag t c.to=0)).getD false=false:=rfl;rw [z3];exact fD (ai @z2 @tmz)
 | some u =>
  have z2:(some u).isSome=true:=rfl;have z4:(some u).getD zTm=u:=rfl;have hu:=Zss hk;rw [hk,Option.bind_some] at hgo;rw [z4];have F:=aj3 @z2 @hwi @tmz;refine gG ?_;exact ⟨(i+1,u),⟨hil,hu,hgo⟩,gw,gw,om⟩
end
section
variable {m:Mdl} {mc:C}
def FolC (m:Mdl) (mc:C) (l:Lnk) (t:Tm):Prop:=Con e0 92 [.one (.ptr (encX m.sig mc)),.agg (Zco m),.agg (Zab t),.agg (Zcp l)] [.agg (Zab ((ZfM m l t).getD zTm)),.one (.lit (.bool (ZfM m l t).isSome))]
def RigC (m:Mdl) (mc:C) (c:Chn):Prop:=Con e0 88 [.one (.ptr (encX m.sig mc)),.agg (Zco m),.agg (ZaI c)] [.one (.lit (.bool (ZbH m c)))]
theorem ZhH (m:Mdl):Zco m=[.sl (m.sig.sorts.names.map ZbY),.sl (m.sig.sorts.subs.map Zb4),.sl (m.sig.ops.map Zbf),.sl (m.eqs.map ZaE),.sl (m.rules.map ZaE)]:=rfl
theorem Zsy (hg:SgnOk m.sig) {c:Chn} (hc:Zed c) (hb:bulkRow (ZaI c)<=1048576) (h:∀ l∈c.links,∀ t,TermOk m.sig t->FolC m mc l t):RigC m mc c:=by
 have hbc:=ZhF c;obtain ⟨hoa,hob,_⟩:=Zg6.1 hc;have cT:=Zer (mc:=mc) hg hoa (ZbM om);have er:=ZeJ;unfold RigC;unfold FolC at h;rw [ZpD];simp only [ZhH] at h ⊢;refine gI (ts:=[.slot 6]) 34375536375 Tryz.func88 ?_;refine fN 1 (ai @chz @tmz) ?_;refine gB ?_;refine fC (ai @chz @tmz) (cT) ?_
 cases h1:ZaQ m.sig c.frm with
 | false =>
  refine fR @tmz ?_;exact fD @tmz
 | true =>
 have hTa:=Zbx.1 h1;refine fR @tmz ?_;rw [Bool.true_and];refine fG (ai @chz @tmz) ?_;have F:=ai @chz @tmz;refine gL (ι:=Nat × Tm) [6,9,10,11,22,23,35] [7] (fun x=>[(22,A.d (.one (.lit (.int .i64 x.1))))]) (fun x=>[(7,.var none (Zab x.2))]) (fun x=>x.1<=c.links.length∧TermOk m.sig x.2∧goL m c.links c.frm=goL m (c.links.drop x.1) x.2) (fun x=>c.links.length - x.1) ((0,c.frm)) (⟨Taj _,hTa,rfl⟩) (fun x hx=>?_);clear F
 obtain ⟨i,t⟩:=x;obtain ⟨hi,hT,hgo⟩:=hx;simp only at hi hT hgo;dsimp only;by_cases hil:i < c.links.length;rotate_left
 ·obtain rfl:i=c.links.length:=by omega
  have q1:=lF c.links.length c.links.length;rw [ZvP] at hgo;have cS:=Zcq t c.to;rw [hgo];have z1:((some t).map fun t=>decide (Zag t c.to=0)).getD false=decide (Zag t c.to=0):=rfl;rw [z1];refine fN 12 (aj3 @q1 @chz @tmz) ?_;refine gB ?_;refine fC (aj3 @chz @Zdu @tmz) (cS) ?_;refine fR @tmz ?_;exact fD @tmz
 have q1:=lT i c.links.length;obtain ⟨l,hl⟩:∃ l,c.links[i]?=some l:=⟨_,Taa hil⟩;have cF:=h l (Tac hl) t hT;have hwi:=Zan (k:=i) om;rw [ZA0 hl] at hgo;refine fN 7 (aj6 @q1 @hl @hil @Zal @chz @tmz) ?_;refine gB ?_;refine fC (ai @chz @tmz) (cF) ?_;refine fR @tmz ?_
 cases hk:ZfM m l t with
 | none =>
  have z2:(none:Option Tm).isSome=false:=rfl;rw [hgo,hk];have z3:(((none:Option Tm).bind (goL m (c.links.drop (i+1)))).map fun t=>decide (Zag t c.to=0)).getD false=false:=rfl;rw [z3];exact fD (ai @z2 @tmz)
 | some u =>
  have z2:(some u).isSome=true:=rfl;have z4:(some u).getD zTm=u:=rfl;have hu:=Zss hk;rw [hk,Option.bind_some] at hgo;rw [z4];have F:=aj3 @z2 @hwi @tmz;refine gG ?_;exact ⟨(i+1,u),⟨hil,hu,hgo⟩,gw,gw,om⟩
end
theorem ZA1 {g:Sgn} {e:Eqn} (h:eqnB g e=true):TermOk g e.l∧TermOk g e.r∧e.cs.length<=2∧∀ c∈e.cs,TermOk g c.1∧TermOk g c.2:=by
 simp only [eqnB,ZbO,Tar,decide_eq_true_eq,List.all_eq_true] at h;refine ⟨Zbx.1 h.1.1,Zbx.1 h.1.2.1,h.2.2.1,fun c hc=>?_⟩;have h1:=h.2.2.2.2.2 c hc;simp only [cndB,ZbO,Tar] at h1;exact ⟨Zbx.1 h1.1.1,Zbx.1 h1.1.2.1⟩
theorem ZA2 {m:Mdl} (h:ZdB m=true) {e:Eqn} (he:e∈m.eqs):eqnB m.sig e=true:=by
 simp only [ZdB,Tar,List.all_eq_true] at h;exact h.2.2.1 e he
theorem ZnI {g:Sgn} {l:List Bd} {t:Tm} (hg:SgnOk g) (hS:SbsOk g l) (ht:TermOk g t):aS g l t=apT g l t:=by unfold aS;rw [if_pos ⟨ZcH hg,Zi7 hS,ZcB ht⟩]
def Zf0 (g:Sgn) (b:List Bd) (ecs:List (Tm × Tm)) (cs:List Chn) (fl:List Bool) (n:Nat):Prop:=∀ (k:Nat) c,k < n->ecs[k]?=some c->∃ x y,cs[2 * k]?=some x∧cs[2 * k+1]?=some y∧aS g b c.1=some x.frm∧aS g b c.2=some y.frm∧x.to=y.to∧fl[2 * k]?=some true∧fl[2 * k+1]?=some true
theorem Zf0.all {g:Sgn} {b:List Bd} {ecs:List (Tm × Tm)} {cs:List Chn} {fl:List Bool} (h:Zf0 g b ecs cs fl ecs.length):ZfL g b ecs cs fl:=fun k c hc=>h k c (Tad.1 hc).1 hc
theorem Zf0.step {g:Sgn} {b:List Bd} {ecs:List (Tm × Tm)} {cs:List Chn} {fl:List Bool} {n:Nat} (h:Zf0 g b ecs cs fl n) {c:Tm × Tm} (hc:ecs[n]?=some c) {x y:Chn} (h1:cs[2 * n]?=some x) (h2:cs[2 * n+1]?=some y) (h3:aS g b c.1=some x.frm) (h4:aS g b c.2=some y.frm) (h5:x.to=y.to) (h6:fl[2 * n]?=some true) (h7:fl[2 * n+1]?=some true):Zf0 g b ecs cs fl (n+1):=fun k c' hk hc'=>by
 by_cases e:k=n
 ·subst e;rw [hc] at hc';injection hc' with hc'
  subst hc';exact ⟨x,y,h1,h2,h3,h4,h5,h6,h7⟩
 ·exact h k c' om hc'
theorem ZfL.not {g:Sgn} {b:List Bd} {ecs:List (Tm × Tm)} {cs:List Chn} {fl:List Bool} {n:Nat} {c:Tm × Tm} (hc:ecs[n]?=some c) {x y:Chn} (h1:cs[2 * n]?=some x) (h2:cs[2 * n+1]?=some y) (h:aS g b c.1=some x.frm->aS g b c.2=some y.frm->x.to=y.to->fl[2 * n]?=some true->fl[2 * n+1]?=some true->False):¬ ZfL g b ecs cs fl:=fun hR=>by
 obtain ⟨x',y',k1,k2,k3,k4,k5,k6,k7⟩:=hR n c hc;rw [h1] at k1;rw [h2] at k2;injection k1 with k1
 injection k2 with k2
 subst k1 k2;exact h k3 k4 k5 k6 k7
section
variable {m:Mdl} {mc:C}
theorem Zp1 (hg:SgnOk m.sig) (hm:ZgZ m) (hE:ZdB m=true) (hbm:bulkRow (Zco m)<=1048576) {l:Lnk} {t:Tm} (hl:Zf5 l) (hb:bulkRow (Zcp l)<=1048576) (hT:TermOk m.sig t) (h:∀ d∈l.conds,RigC m mc d):FolC m mc l t:=by
 have hbl:=ZhG l;obtain ⟨hi64,hoo,hocs⟩:=Zk7.1 hl;have hbo:bulkRow (Zcb l.occ)<=1048576:=om;obtain ⟨hop,hol,hor⟩:=Zji hbo;have hokT:=ZaF.ok hg _ t (Tan _) hT.form;have hbT:=Ze0 hT;have hokg:Zcg m.sig:=hm.1;have hbg:bulkRow (Zas m.sig)<=1048576:=by have:=Zjk m;omega
 have cT:=Zpw (mc:=mc) hg hokT hbT hop (by unfold tmsB at hol;omega) (o:=l.occ) (by unfold tmsB at hor;omega);rw [if_pos (ZcB hT),<- Zoq hg hT] at cT;obtain ⟨ktk,kbk⟩:=Zpy (g:=m.sig) (o:=l.occ) hokT hbT;have er:=ZeJ;have lu:=ZdV l;have hz:=Zc9;unfold FolC;unfold RigC at h;rw [Zmi];simp only [ZhH] at h ⊢;rw [lu];have eo:Zcb l.occ=[.sl (l.occ.path.map ZaK),.sl (Zaa l.occ.left),.sl (Zaa l.occ.right),.sl (l.occ.mat.map Zbt)]:=rfl
 have es:Zas m.sig=[.sl (m.sig.sorts.names.map ZbY),.sl (m.sig.sorts.subs.map Zb4),.sl (m.sig.ops.map Zbf)]:=rfl;by_cases hi0:l.idx < 0
 ·have q1:(l.idx < 0)=True:=eq_true hi0;rw [Zsp hi0];have z5:(none:Option Tm).getD zTm=zTm:=rfl;have z6:(none:Option Tm).isSome=false:=rfl;refine gI (ts:=[.cell 8 46,.slot 9]) 748334510239588884836480499787462462121819544485871 Tryz.func92 ?_;exact fD (aj5 @q1 @z5 @z6 @hz @tmz)
 have q1:(l.idx < 0)=False:=eq_false hi0;by_cases hi1:l.idx < (m.eqs.length:Int);rotate_left
 ·have q2:(l.idx ≥ (m.eqs.length:Int))=True:=eq_true om;rw [Zsq om];have z5:(none:Option Tm).getD zTm=zTm:=rfl;have z6:(none:Option Tm).isSome=false:=rfl;refine gI (ts:=[.cell 8 46,.slot 9]) 748334510239588884836480499787462462121819544485871 Tryz.func92 ?_;exact fD (aj6 @q1 @q2 @z5 @z6 @hz @tmz)
 have q2:(l.idx ≥ (m.eqs.length:Int))=False:=eq_false om;obtain ⟨e,he⟩:∃ e,m.eqs[l.idx.toNat]?=some e:=⟨_,Taa om⟩;have hem:=Tac he;obtain ⟨hel,her,hec,hecs⟩:=ZA1 (ZA2 hE hem);have q3:(0<=l.idx)=True:=eq_true om;have q4:(l.idx.toNat < m.eqs.length)=True:=eq_true om;refine gI (ts:=[.cell 8 46,.slot 9]) 748334510239588884836480499787462462121819544485871 Tryz.func92 ?_;refine fN 4 (aj8 @q1 @q2 @q3 @q4 @he @er @eqz @tmz) ?_
 refine gB ?_;refine fC (ai @eo @tmz) (cT) ?_;refine fR (ai @eqz @tmz) ?_;have z5:(none:Option Tm).getD zTm=zTm:=rfl;have z6:(none:Option Tm).isSome=false:=rfl;have hix:0<=l.idx:=om;have hbe:=Ze0 hel;have hbd:Zgg l.occ.mat:=hoo.2.2.2;have eb:ZbE l.occ.mat=l.occ.mat.map Zbt:=rfl;have hbb:(ZbE l.occ.mat).length+bulkRows (ZbE l.occ.mat)<=1048576:=by
  simp only [Zcb,bulkRow,ZaS] at hbo;unfold ZbE;omega
 have cM:=ZpZ hokg (ZaF.ok hg _ e.l (Tan _) hel.form) hbe ktk kbk hbd hbb;have rB:=bds8 l.occ.mat;rw [eb] at rB
 cases h1:(tkT m.sig t l.occ).2 with
 | false =>
  rw [ZeK hix he fun h=>by rw [h1] at h;cases h.1];exact fD (aj4 @z5 @z6 @hz @tmz)
 | true =>
 refine fN 5 @tmz ?_;refine gB ?_;refine fC (aj4 @es @eb @eqz @tmz) (cM) ?_
 cases h2:mtB m.sig e.l (tkT m.sig t l.occ).1 l.occ.mat with
 | false =>
  rw [ZeK hix he fun h=>by rw [h2] at h;cases h.2.1];refine fR @tmz ?_;exact fD (aj4 @z5 @z6 @hz @tmz)
 | true =>
 have w3:IntKind.i64.wrap (2 * (e.cs.length:Int))=((2 * e.cs.length:Nat):Int):=ZaM om om om;have rC:=ZhE l.conds;have lC:=Ze7 l.conds;have ll:(e.cs.map Zcf).length=e.cs.length:=Tay _;by_cases h3:l.conds.length=2 * e.cs.length;rotate_left
 ·have q5:((l.conds.length:Int)=((2 * e.cs.length:Nat):Int))=False:=eq_false om;rw [ZeK hix he fun h=>h3 h.2.2.1];refine fR (aj6 @lC @ll @w3 @q5 @eqz @tmz) ?_;exact fD (aj4 @z5 @z6 @hz @tmz)
 have q5:((l.conds.length:Int)=((2 * e.cs.length:Nat):Int))=True:=eq_true om;refine fR (aj6 @lC @ll @w3 @q5 @eqz @tmz) ?_;have hS:SbsOk m.sig l.occ.mat:=by
  have hM:MtOk m.sig e.l (tkT m.sig t l.occ).1 l.occ.mat:=by simpa [mtB] using h2
  have:=hM.1;unfold aS at this;split at this
  ·next hc=>exact ZgA.1 hc.2.1
  ·cases this
 refine fG (aj3 @ll @eqz @tmz) ?_;have F:=@tmz;refine gL (ι:=Nat) [9,13,14,15,16,17,18,19,20,76,77,155] [] (fun k=>[(76,A.d (.one (.lit (.int .i64 k))))]) (fun k=>[]) (fun k=>k<=e.cs.length∧Zf0 m.sig l.occ.mat e.cs l.conds (l.conds.map (ZbH m)) k) (fun k=>e.cs.length - k) (0) (⟨Taj _,fun j c hj=>absurd hj om⟩) (fun k hk=>?_);clear F;obtain ⟨hk,hct⟩:=hk;by_cases hkl:k < e.cs.length;rotate_left
 ·obtain rfl:k=e.cs.length:=by omega
  have q6:=lF e.cs.length e.cs.length;have cA:=ZhW (mc:=mc) hg hS.w _ (Tan _) her;have z7:∀ u:Tm,(some u).isSome=true:=fun _=>rfl;have z8:∀ u:Tm,(some u).getD zTm=u:=fun _=>rfl;rw [ZpE hix he h1 h2 h3 hct.all,ZnI hg hS her];refine fN 16 (ai @q6 @tmz) ?_;refine gB ?_;refine fC (aj3 @eb @eqz @tmz) (cA) ?_;refine fR (ai @eqz @tmz) ?_
  cases h4:apT m.sig l.occ.mat e.r with
  | none =>
   rw [Option.bind_none];exact fD (aj4 @z5 @z6 @hz @tmz)
  | some u =>
   have hTu:=Ziv hg hS.to' _ _ (Tan _) her h4;have cP:=Ztt (mc:=mc) hg hokT hbT hTu hop (by unfold tmsB at hol;omega) (o:=l.occ) (by unfold tmsB at hor;omega);rw [Option.bind_some];refine fN 19 (aj3 @z7 @z8 @tmz) ?_;refine gB ?_;refine fC (aj3 @z8 @eo @tmz) (cP) ?_;refine fR @tmz ?_;exact fD @tmz
 have q6:=lT k e.cs.length;obtain ⟨c,hc⟩:∃ c,e.cs[k]?=some c:=⟨_,Taa hkl⟩;obtain ⟨x,hx⟩:∃ x,l.conds[2 * k]?=some x:=⟨_,Taa om⟩;obtain ⟨y,hy⟩:∃ y,l.conds[2 * k+1]?=some y:=⟨_,Taa om⟩;obtain ⟨hc1,hc2⟩:=hecs c (Tac hc);have hwk:=Zan (k:=k) om;have w4:IntKind.i64.wrap (2 * (k:Int))=((2 * k:Nat):Int):=ZaM om om om;have w5:IntKind.i64.wrap (((2 * k:Nat):Int)+1)=((2 * k+1:Nat):Int):=ZaM om om om;have hlx:2 * k < l.conds.length:=om
 have hly:2 * k+1 < l.conds.length:=om;refine fN 10 (aj7 @q6 @hc @hkl @ll @Zal @eqz @tmz) ?_
 /- gk follow10 -/
 refine gGk [(13,.d (.one (.lit (.int .i64 (k:Int))))),(14,.ref 14 0),(77,.d (.one (.lit (.bool true)))),(76,.d (.one (.lit (.int .i64 (k:Int))))),(75,.d (.one (.lit (.int .i64 (e.cs.length:Int))))),(74,.d (.one (.sl (e.cs.map Zcf)))),(71,.d (.one (.lit (.bool false)))),(12,.d (.one (.lit (.bool true)))),(11,.ref 11 0),(10,.ref 10 0),(32,.d (.one (.lit (.bool false)))),(8,.ref 8 0),(7,.ref 7 0),(6,.ref 6 0),(5,.ref 5 0),(0,.d (.one (.ptr (encX m.sig mc)))),(1,.d (.agg [.sl (m.sig.sorts.names.map ZbY),.sl (m.sig.sorts.subs.map Zb4),.sl (m.sig.ops.map Zbf),.sl (m.eqs.map ZaE),.sl (m.rules.map ZaE)])),(2,.d (.agg (Zab t))),(3,.d (.agg [.lit (.int .i64 l.idx),.sl (l.occ.path.map ZaK),.sl (Zaa l.occ.left),.sl (Zaa l.occ.right),.sl (l.occ.mat.map Zbt),.sl (Zbu l.conds)]))] [(14,.var none (Zcf c)),(11,.var none (Zab (tkT m.sig t l.occ).1)),(10,.var none (ZaE e)),(8,.var none [.lit (.int .i64 0),.lit (.string ByteArray.empty),.lit (.int .i64 0),.sl []]),(7,.var none [.lit (.int .i64 l.idx),.sl (l.occ.path.map ZaK),.sl (Zaa l.occ.left),.sl (Zaa l.occ.right),.sl (l.occ.mat.map Zbt),.sl (Zbu l.conds)]),(6,.var none (Zab t)),(5,.var none [.sl (m.sig.sorts.names.map ZbY),.sl (m.sig.sorts.subs.map Zb4),.sl (m.sig.ops.map Zbf),.sl (m.eqs.map ZaE),.sl (m.rules.map ZaE)])] [([(81,.ref 7 5)],[]),([(82,.d (.one (.sl (Zbu l.conds))))],[]),([(83,.d (.one (.lit (.int .i64 (k:Int)))))],[]),([(84,.d (.one (.lit (.int .i64 ((2 * k:Nat):Int)))))],[]),([(85,.d (.one (.ptr (ZaI x))))],[]),([(86,.d (.agg (ZaI x)))],[]),([(87,.ref 7 5)],[]),([(88,.d (.one (.sl (Zbu l.conds))))],[]),([(89,.d (.one (.lit (.int .i64 (k:Int)))))],[]),([(90,.d (.one (.lit (.int .i64 ((2 * k:Nat):Int)))))],[]),([(91,.d (.one (.lit (.int .i64 ((2 * k+1:Nat):Int)))))],[]),([(92,.d (.one (.ptr (ZaI y))))],[]),([(93,.d (.agg (ZaI y)))],[]),([(15,.ref 15 0)],[(15,.var none [.lit (.int .i64 0),.lit (.string ByteArray.empty),.lit (.int .i64 0),.sl [],.lit (.int .i64 0),.lit (.string ByteArray.empty),.lit (.int .i64 0),.sl [],.sl []])]),([(16,.ref 16 0)],[(16,.var none [.lit (.int .i64 0),.lit (.string ByteArray.empty),.lit (.int .i64 0),.sl [],.lit (.int .i64 0),.lit (.string ByteArray.empty),.lit (.int .i64 0),.sl [],.sl []])]),([(15,.ref 15 0)],[(15,.var none (ZaI x))]),([(16,.ref 16 0)],[(16,.var none (ZaI y))])] (fun j=>([(13,15),(14,16)]:List (Nat × Nat)).lookup j) [] (⟨by simp [gs],by simp [gm]⟩) (fun j hj=>by simp at hj) ⟨?_,?_,?_,?_,?_,?_,?_,?_,?_,?_,?_,?_,?_,?_,?_,?_,?_,trivial⟩ ?_
 iterate 17 (focus
  intro s' m' hB hD hI hJ;have F:=Zcj.1 hB
  try have F:=ai F (Zao.1 (hD 0 (by decide) (by first | exact .inl rfl | exact .inr rfl)))
  try have F:=ai F (Zao.1 (hD 1 (by decide) (by first | exact .inl rfl | exact .inr rfl)))
  try have F:=ai F (Zao.1 (hD 2 (by decide) (by first | exact .inl rfl | exact .inr rfl)))
  try have F:=ai F (Zao.1 (hD 3 (by decide) (by first | exact .inl rfl | exact .inr rfl)))
  try have F:=ai F (Zao.1 (hD 4 (by decide) (by first | exact .inl rfl | exact .inr rfl)))
  try have F:=ai F (Zao.1 (hD 5 (by decide) (by first | exact .inl rfl | exact .inr rfl)))
  try have F:=ai F (Zao.1 (hD 6 (by decide) (by first | exact .inl rfl | exact .inr rfl)))
  try have F:=ai F (Zao.1 (hD 7 (by decide) (by first | exact .inl rfl | exact .inr rfl)))
  try have F:=ai F (Zao.1 (hD 8 (by decide) (by first | exact .inl rfl | exact .inr rfl)))
  try have F:=ai F (Zao.1 (hD 9 (by decide) (by first | exact .inl rfl | exact .inr rfl)))
  try have F:=ai F (Zao.1 (hD 10 (by decide) (by first | exact .inl rfl | exact .inr rfl)))
  try have F:=ai F (Zao.1 (hD 11 (by decide) (by first | exact .inl rfl | exact .inr rfl)))
  try have F:=ai F (Zao.1 (hD 12 (by decide) (by first | exact .inl rfl | exact .inr rfl)))
  try have F:=ai F (Zao.1 (hD 13 (by decide) (by first | exact .inl rfl | exact .inr rfl)))
  try have F:=ai F (Zao.1 (hD 14 (by decide) (by first | exact .inl rfl | exact .inr rfl)))
  simp only [lkS,lkM,List.getD_cons_zero,List.getD_cons_succ,and_true,true_and] at F;have F:=aj11 F w4 w5 hx hy lC hlx hly @Zal chz tmz;refine gO3 ?_
  first | exact kS hB (Zao.2 (by simp [lkS,lkM,gs,gm])) | exact kM hB (Zao.2 (by simp [lkS,lkM,gs,gm,F])) | exact kB hB (Zao.2 (by simp [lkS,lkM,gs,gm])))
 intro s' m' hB hP;refine ⟨_,_,(hB.app (hP 15 (.inl (by decide)) (fun k h=>by simp [List.lookup] at h))).app (hP 16 (.inl (by decide)) (fun k h=>by simp [List.lookup] at h)),?_⟩;simp only [Taf,Tah,List.append_nil,List.getD_cons_zero,List.getD_cons_succ]
 /- gk end follow10 -/
 refine ⟨_,Wk.refl _,?_⟩;have z7:∀ u:Tm,(some u).isSome=true:=fun _=>rfl;have z8:∀ u:Tm,(some u).getD zTm=u:=fun _=>rfl;have cX:=ZhW (mc:=mc) hg hS.w _ (Tan _) hc1;have cY:=ZhW (mc:=mc) hg hS.w _ (Tan _) hc2;have cR1:=h x (Tac hx);have cR2:=h y (Tac hy);have fx:(l.conds.map (ZbH m))[2 * k]?=some (ZbH m x):=by rw [Tba,hx];rfl
 have fy:(l.conds.map (ZbH m))[2 * k+1]?=some (ZbH m y):=by rw [Tba,hy];rfl
 have hno:=fun (q:aS m.sig l.occ.mat c.1=some x.frm->aS m.sig l.occ.mat c.2=some y.frm->x.to=y.to->(l.conds.map (ZbH m))[2 * k]?=some true->(l.conds.map (ZbH m))[2 * k+1]?=some true->False)=>ZeK (t:=t) (o:=l.occ) (fl:=l.conds.map (ZbH m)) hix he fun h=>ZfL.not hc hx hy q h.2.2.2;rw [ZnI hg hS hc1,ZnI hg hS hc2,fx,fy] at hno;refine fN 11 @tmz ?_;refine gB ?_;refine fC (aj3 @eb @eqz @tmz) (cX) ?_;refine fR (ai @eqz @tmz) ?_
 refine fN 12 @tmz ?_;refine gB ?_;refine fC (aj3 @eb @eqz @tmz) (cY) ?_;refine fR (ai @eqz @tmz) ?_
 cases h5:apT m.sig l.occ.mat c.1 with
 | none =>
  rw [hno fun p1 _ _ _ _=>by rw [h5] at p1;cases p1];exact fD (aj4 @z5 @z6 @hz @tmz)
 | some u1 =>
 cases h6:apT m.sig l.occ.mat c.2 with
 | none =>
  rw [hno fun _ p1 _ _ _=>by rw [h6] at p1;cases p1];exact fD (aj5 @z5 @z6 @z7 @hz @tmz)
 | some u2 =>
 refine fN 13 (aj3 @z7 @z8 @tmz) ?_;refine gB ?_;refine fC (aj5 @z7 @z8 @chz @Zdu @tmz) (Zcq x.frm u1) ?_;by_cases h7:Zag x.frm u1=0;rotate_left
 ·rw [decide_eq_false h7,hno fun p1 _ _ _ _=>by rw [h5] at p1;injection p1 with p1;exact h7 (Zbo.2 p1.symm)];refine fR @tmz ?_;exact fD (aj4 @z5 @z6 @hz @tmz)
 rw [decide_eq_true h7];refine fC (aj5 @z7 @z8 @chz @Zdu @tmz) (Zcq y.frm u2) ?_;by_cases h8:Zag y.frm u2=0;rotate_left
 ·rw [decide_eq_false h8,hno fun _ p1 _ _ _=>by rw [h6] at p1;injection p1 with p1;exact h8 (Zbo.2 p1.symm)];refine fR @tmz ?_;exact fD (aj4 @z5 @z6 @hz @tmz)
 rw [decide_eq_true h8];refine fC (aj5 @z7 @z8 @chz @Zdu @tmz) (Zcq x.to y.to) ?_;by_cases h9:Zag x.to y.to=0;rotate_left
 ·rw [decide_eq_false h9,hno fun _ _ p1 _ _=>h9 (Zbo.2 p1)];refine fR @tmz ?_;exact fD (aj4 @z5 @z6 @hz @tmz)
 rw [decide_eq_true h9];refine fC (ai @chz @tmz) (cR1) ?_
 cases g1:ZbH m x with
 | false =>
  rw [hno fun _ _ _ p1 _=>by rw [g1] at p1;cases p1];refine fR @tmz ?_;exact fD (aj4 @z5 @z6 @hz @tmz)
 | true =>
 refine fC (ai @chz @tmz) (cR2) ?_
 cases g2:ZbH m y with
 | false =>
  rw [hno fun _ _ _ _ p1=>by rw [g2] at p1;cases p1];refine fR @tmz ?_;exact fD (aj4 @z5 @z6 @hz @tmz)
 | true =>
 have hnx:=hct.step hc hx hy (by rw [ZnI hg hS hc1,h5,Zbo.1 h7]) (by rw [ZnI hg hS hc2,h6,Zbo.1 h8]) (Zbo.1 h9) (by rw [fx,g1]) (by rw [fy,g2]);refine fR @tmz ?_;have F:=ai @hwk @tmz;refine gG ?_;exact ⟨k+1,⟨hkl,hnx⟩,gw,gw,om⟩
end
section
variable {m:Mdl}
theorem ZtA (hg:SgnOk m.sig) (hm:ZgZ m) (hE:ZdB m=true) (hbm:bulkRow (Zco m)<=1048576) {l:Lnk} {t:Tm} (hl:Zf5 l) (hb:bulkRow (Zcp l)<=1048576) (hT:TermOk m.sig t) (h:∀ d∈l.conds,RgtC m d):LnkC m l t:=by
 have hbl:=ZhG l;obtain ⟨hi64,hoo,hocs⟩:=Zk7.1 hl;have hbo:bulkRow (Zcb l.occ)<=1048576:=om;obtain ⟨hop,hol,hor⟩:=Zji hbo;have hokT:=ZaF.ok hg _ t (Tan _) hT.form;have hbT:=Ze0 hT;have hokg:Zcg m.sig:=hm.1;have hmb:=Zjk m;have cT:=ZwP hokg hokT hbT hoo hbo;obtain ⟨ktk,kbk⟩:=Zpy (g:=m.sig) (o:=l.occ) hokT hbT;have er:=ZeJ;have ln:(m.eqs.map ZaE).length=m.eqs.length:=Tay _;have lu:=ZdV l;have hz:=Zc9
 unfold LnkC;unfold RgtC at h;rw [Zmi];simp only [Zml] at h ⊢;rw [lu];have eo:Zcb l.occ=[.sl (l.occ.path.map ZaK),.sl (Zaa l.occ.left),.sl (Zaa l.occ.right),.sl (l.occ.mat.map Zbt)]:=rfl;have es:Zas m.sig=[.sl (m.sig.sorts.names.map ZbY),.sl (m.sig.sorts.subs.map Zb4),.sl (m.sig.ops.map Zbf)]:=rfl;have z5:(none:Option Tm).getD zTm=zTm:=rfl;have z6:(none:Option Tm).isSome=false:=rfl;have z7:∀ u:Tm,(some u).isSome=true:=fun _=>rfl
 have z8:∀ u:Tm,(some u).getD zTm=u:=fun _=>rfl;have w1:IntKind.i64.wrap ((m.eqs.length:Int) - 1)=(m.eqs.length:Int) - 1:=IntWalk.i64_in _ om;have cI:=Zkt l.idx 0 ((m.eqs.length:Int) - 1);refine gI (ts:=[.cell 6 46,.slot 7]) 98081211193093513779522450310890944855982523710723588087 Tryz.func91 ?_;refine fN 1 (ai @ln @tmz) ?_;refine gB ?_;refine fC (aj3 @w1 @ln @tmz) (cI) ?_;by_cases hi:0<=l.idx∧l.idx<=(m.eqs.length:Int) - 1
 rotate_left
 ·rw [decide_eq_false hi,show Zfm m t l.idx l.occ l.conds (l.conds.map (ZbH m))=none from by
   by_cases h0:l.idx < 0
   ·exact Zsp h0
   ·exact Zsq om]
  refine fR @tmz ?_;exact fD (aj4 @z5 @z6 @hz @tmz)
 rw [decide_eq_true hi];obtain ⟨e,he⟩:∃ e,m.eqs[l.idx.toNat]?=some e:=⟨_,Taa om⟩;have hem:=Tac he;obtain ⟨hel,her,hec,hecs⟩:=ZA1 (ZA2 hE hem);have hix:0<=l.idx:=hi.1;have q3:(0<=l.idx)=True:=eq_true hix;have q4:(l.idx.toNat < m.eqs.length)=True:=eq_true om;refine fR @tmz ?_;refine fN 3 @tmz ?_
 /- gk link3 -/
 refine gGk [(29,.d (.one (.lit (.bool false)))),(7,.d (.one (.lit (.bool false)))),(6,.ref 6 0),(5,.ref 5 0),(4,.ref 4 0),(0,.d (.one (.ptr [.sl (m.sig.sorts.names.map ZbY),.sl (m.sig.sorts.subs.map Zb4),.sl (m.sig.ops.map Zbf),.sl (m.eqs.map ZaE),.sl (m.rules.map ZaE)]))),(1,.d (.agg (Zab t))),(2,.d (.agg [.lit (.int .i64 l.idx),.sl (l.occ.path.map ZaK),.sl (Zaa l.occ.left),.sl (Zaa l.occ.right),.sl (l.occ.mat.map Zbt),.sl (Zbu l.conds)]))] [(6,.var none [.lit (.int .i64 0),.lit (.string ByteArray.empty),.lit (.int .i64 0),.sl []]),(5,.var none [.lit (.int .i64 l.idx),.sl (l.occ.path.map ZaK),.sl (Zaa l.occ.left),.sl (Zaa l.occ.right),.sl (l.occ.mat.map Zbt),.sl (Zbu l.conds)]),(4,.var none (Zab t))] [([(31,.d (.one (.ptr [.sl (m.sig.sorts.names.map ZbY),.sl (m.sig.sorts.subs.map Zb4),.sl (m.sig.ops.map Zbf),.sl (m.eqs.map ZaE),.sl (m.rules.map ZaE)])))],[]),([(32,.d (.one (.ptr [.sl (m.sig.sorts.names.map ZbY),.sl (m.sig.sorts.subs.map Zb4),.sl (m.sig.ops.map Zbf),.sl (m.eqs.map ZaE),.sl (m.rules.map ZaE)])))],[]),([(33,.d (.one (.ptr [.sl (m.eqs.map ZaE),.sl (m.rules.map ZaE)])))],[]),([(34,.d (.one (.sl (m.eqs.map ZaE))))],[]),([(35,.ref 5 0)],[]),([(36,.d (.one (.lit (.int .i64 l.idx))))],[]),([(37,.d (.one (.ptr (ZaE e))))],[]),([(38,.d (.agg (ZaE e)))],[]),([(8,.ref 8 0)],[(8,.var none [.lit (.int .i64 0),.lit (.string ByteArray.empty),.lit (.int .i64 0),.sl [],.lit (.int .i64 0),.lit (.string ByteArray.empty),.lit (.int .i64 0),.sl [],.sl []])]),([(8,.ref 8 0)],[(8,.var none (ZaE e))])] (fun j=>([(8,9)]:List (Nat × Nat)).lookup j) [] (⟨by simp [gs],by simp [gm]⟩) (fun j hj=>by simp at hj) ⟨?_,?_,?_,?_,?_,?_,?_,?_,?_,?_,trivial⟩ ?_
 iterate 10 (focus
  intro s' m' hB hD hI hJ;have F:=Zcj.1 hB
  try have F:=ai F (Zao.1 (hD 0 (by decide) (by first | exact .inl rfl | exact .inr rfl)))
  try have F:=ai F (Zao.1 (hD 1 (by decide) (by first | exact .inl rfl | exact .inr rfl)))
  try have F:=ai F (Zao.1 (hD 2 (by decide) (by first | exact .inl rfl | exact .inr rfl)))
  try have F:=ai F (Zao.1 (hD 3 (by decide) (by first | exact .inl rfl | exact .inr rfl)))
  try have F:=ai F (Zao.1 (hD 4 (by decide) (by first | exact .inl rfl | exact .inr rfl)))
  try have F:=ai F (Zao.1 (hD 5 (by decide) (by first | exact .inl rfl | exact .inr rfl)))
  try have F:=ai F (Zao.1 (hD 6 (by decide) (by first | exact .inl rfl | exact .inr rfl)))
  try have F:=ai F (Zao.1 (hD 7 (by decide) (by first | exact .inl rfl | exact .inr rfl)))
  try have F:=ai F (Zao.1 (hD 8 (by decide) (by first | exact .inl rfl | exact .inr rfl)))
  simp only [lkS,lkM,List.getD_cons_zero,List.getD_cons_succ,and_true,true_and] at F;have F:=aj8 F q3 q4 he er ln eqz tmz;refine gO3 ?_
  first | exact kS hB (Zao.2 (by simp [lkS,lkM,gs,gm])) | exact kM hB (Zao.2 (by simp [lkS,lkM,gs,gm,F])) | exact kB hB (Zao.2 (by simp [lkS,lkM,gs,gm])))
 intro s' m' hB hP;refine ⟨_,_,hB.app (hP 9 (.inl (by decide)) (fun k h=>by simp [List.lookup] at h)),?_⟩;simp only [Taf,Tah,List.append_nil,List.getD_cons_zero,List.getD_cons_succ]
 /- gk end link3 -/
 refine ⟨_,Wk.refl _,?_⟩;refine fN 4 @tmz ?_;refine gLt 11 10 12 ?_;refine fC (aj3 @es @eo @tmz) (cT) ?_;refine fR @tmz ?_;have hbe:=Ze0 hel;have hbd:Zgg l.occ.mat:=hoo.2.2.2;have eb:ZbE l.occ.mat=l.occ.mat.map Zbt:=rfl;have hbb:(ZbE l.occ.mat).length+bulkRows (ZbE l.occ.mat)<=1048576:=by
  simp only [Zcb,bulkRow,ZaS] at hbo;unfold ZbE;omega
 have hbb2:l.occ.mat.length+bulkRows (ZbE l.occ.mat)<=1048576:=by rw [Zdk] at hbb;exact hbb
 have cM:=ZpY hokg (ZaF.ok hg _ e.l (Tan _) hel.form) hbe ktk kbk hbd hbb
 cases h1:(tkT m.sig t l.occ).2 with
 | false =>
  rw [ZeK hix he fun h=>by rw [h1] at h;cases h.1];exact fD (aj4 @z5 @z6 @hz @tmz)
 | true =>
 refine fN 5 @tmz ?_;refine gB ?_;refine fC (aj4 @es @eb @eqz @tmz) (cM) ?_
 cases h2:mtB m.sig e.l (tkT m.sig t l.occ).1 l.occ.mat with
 | false =>
  rw [ZeK hix he fun h=>by rw [h2] at h;cases h.2.1];refine fR @tmz ?_;exact fD (aj4 @z5 @z6 @hz @tmz)
 | true =>
 have w3:IntKind.i64.wrap (2 * (e.cs.length:Int))=((2 * e.cs.length:Nat):Int):=ZaM om om om;have rC:=ZhE l.conds;have lC:=Ze7 l.conds;have ll:(e.cs.map Zcf).length=e.cs.length:=Tay _;by_cases h3:l.conds.length=2 * e.cs.length;rotate_left
 ·have q5:((l.conds.length:Int)=((2 * e.cs.length:Nat):Int))=False:=eq_false om;rw [ZeK hix he fun h=>h3 h.2.2.1];refine fR (aj6 @lC @ll @w3 @q5 @eqz @tmz) ?_;exact fD (aj4 @z5 @z6 @hz @tmz)
 have q5:((l.conds.length:Int)=((2 * e.cs.length:Nat):Int))=True:=eq_true om;refine fR (aj6 @lC @ll @w3 @q5 @eqz @tmz) ?_;refine fG (aj3 @ll @eqz @tmz) ?_;have F:=@tmz;refine gL (ι:=Nat) [7,11,12,13,14,15,16,17,81,170] [] (fun k=>[(11,A.d (.one (.lit (.int .i64 k))))]) (fun k=>[]) (fun k=>k<=e.cs.length∧Zf0 m.sig l.occ.mat e.cs l.conds (l.conds.map (ZbH m)) k) (fun k=>e.cs.length - k) (0) (⟨Taj _,fun j c hj=>absurd hj om⟩) (fun k hk=>?_);clear F
 obtain ⟨hk,hct⟩:=hk;by_cases hkl:k < e.cs.length;rotate_left
 ·obtain rfl:k=e.cs.length:=by omega
  have q6:=lF e.cs.length e.cs.length;have cA:=Zfl hokg hbd hbb2 (ZaF.ok hg _ e.r (Tan _) her.form) (Ze0 her);rw [ZpE hix he h1 h2 h3 hct.all];refine fN 15 (aj4 @q6 @ll @eqz @tmz) ?_;refine gLt 13 12 14 ?_;refine fC (aj4 @es @eb @eqz @tmz) (cA) ?_;refine fR (ai @eqz @tmz) ?_
  cases h4:aS m.sig l.occ.mat e.r with
  | none =>
   rw [Option.bind_none];exact fD (aj4 @z5 @z6 @hz @tmz)
  | some u =>
   have hTu:=Zqu h4;have cP:=ZwR hokg hokT hbT (ZaF.ok hg _ u (Tan _) hTu.form) (Ze0 hTu) hoo hbo;rw [Option.bind_some];refine fN 18 (aj3 @z7 @z8 @tmz) ?_;refine gB ?_;refine fC (aj4 @es @z8 @eo @tmz) (cP) ?_;refine fR @tmz ?_;exact fD @tmz
 have q6:=lT k e.cs.length;obtain ⟨c,hc⟩:∃ c,e.cs[k]?=some c:=⟨_,Taa hkl⟩;obtain ⟨x,hx⟩:∃ x,l.conds[2 * k]?=some x:=⟨_,Taa om⟩;obtain ⟨y,hy⟩:∃ y,l.conds[2 * k+1]?=some y:=⟨_,Taa om⟩;obtain ⟨hc1,hc2⟩:=hecs c (Tac hc);have hox:=hocs x (Tac hx);have hoy:=hocs y (Tac hy);obtain ⟨hxf,hxt,_⟩:=Zg6.1 hox;obtain ⟨hyf,hyt,_⟩:=Zg6.1 hoy;have hwk:=Zan (k:=k) om;have w4:IntKind.i64.wrap (2 * (k:Int))=((2 * k:Nat):Int):=ZaM om om om
 have w5:IntKind.i64.wrap (((2 * k:Nat):Int)+1)=((2 * k+1:Nat):Int):=ZaM om om om;have hlx:2 * k < l.conds.length:=om;have hly:2 * k+1 < l.conds.length:=om;have cX:=Zfl hokg hbd hbb2 (ZaF.ok hg _ c.1 (Tan _) hc1.form) (Ze0 hc1);have cY:=Zfl hokg hbd hbb2 (ZaF.ok hg _ c.2 (Tan _) hc2.form) (Ze0 hc2);refine fN 10 (aj4 @q6 @ll @eqz @tmz) ?_;refine gLt 17 16 18 ?_;refine fC (aj8 @es @eb @hc @hkl @ll @Zal @eqz @tmz) (cX) ?_
 refine fR @tmz ?_;refine fN 11 @tmz ?_;refine gLt 17 16 18 ?_;refine fC (aj8 @es @eb @hc @hkl @ll @Zal @eqz @tmz) (cY) ?_;refine fR @tmz ?_;refine fN 12 @tmz ?_
 /- gk link12 -/
 refine gGk [(15,.d (.one (.lit (.bool (aS m.sig l.occ.mat c.2).isSome)))),(14,.ref 14 0),(13,.d (.one (.lit (.bool (aS m.sig l.occ.mat c.1).isSome)))),(12,.ref 12 0),(81,.d (.one (.lit (.bool true)))),(11,.d (.one (.lit (.int .i64 (k:Int))))),(75,.d (.one (.lit (.bool false)))),(10,.d (.one (.lit (.bool true)))),(9,.ref 9 0),(29,.d (.one (.lit (.bool false)))),(6,.ref 6 0),(5,.ref 5 0),(4,.ref 4 0),(0,.d (.one (.ptr [.sl (m.sig.sorts.names.map ZbY),.sl (m.sig.sorts.subs.map Zb4),.sl (m.sig.ops.map Zbf),.sl (m.eqs.map ZaE),.sl (m.rules.map ZaE)]))),(1,.d (.agg (Zab t))),(2,.d (.agg [.lit (.int .i64 l.idx),.sl (l.occ.path.map ZaK),.sl (Zaa l.occ.left),.sl (Zaa l.occ.right),.sl (l.occ.mat.map Zbt),.sl (Zbu l.conds)])),(8,.ref 8 0)] [(14,.var none (Zab ((aS m.sig l.occ.mat c.2).getD zTm))),(12,.var none (Zab ((aS m.sig l.occ.mat c.1).getD zTm))),(9,.var none (Zab (tkT m.sig t l.occ).1)),(6,.var none [.lit (.int .i64 0),.lit (.string ByteArray.empty),.lit (.int .i64 0),.sl []]),(5,.var none [.lit (.int .i64 l.idx),.sl (l.occ.path.map ZaK),.sl (Zaa l.occ.left),.sl (Zaa l.occ.right),.sl (l.occ.mat.map Zbt),.sl (Zbu l.conds)]),(4,.var none (Zab t)),(8,.var none (ZaE e))] [([(118,.ref 5 5)],[]),([(119,.d (.one (.sl (Zbu l.conds))))],[]),([(120,.d (.one (.lit (.int .i64 (k:Int)))))],[]),([(121,.d (.one (.lit (.int .i64 ((2 * k:Nat):Int)))))],[]),([(122,.d (.one (.ptr (ZaI x))))],[]),([(123,.d (.agg (ZaI x)))],[]),([(124,.ref 5 5)],[]),([(125,.d (.one (.sl (Zbu l.conds))))],[]),([(126,.d (.one (.lit (.int .i64 (k:Int)))))],[]),([(127,.d (.one (.lit (.int .i64 ((2 * k:Nat):Int)))))],[]),([(128,.d (.one (.lit (.int .i64 ((2 * k+1:Nat):Int)))))],[]),([(129,.d (.one (.ptr (ZaI y))))],[]),([(130,.d (.agg (ZaI y)))],[]),([(16,.ref 16 0)],[(16,.var none [.lit (.int .i64 0),.lit (.string ByteArray.empty),.lit (.int .i64 0),.sl [],.lit (.int .i64 0),.lit (.string ByteArray.empty),.lit (.int .i64 0),.sl [],.sl []])]),([(17,.ref 17 0)],[(17,.var none [.lit (.int .i64 0),.lit (.string ByteArray.empty),.lit (.int .i64 0),.sl [],.lit (.int .i64 0),.lit (.string ByteArray.empty),.lit (.int .i64 0),.sl [],.sl []])]),([(16,.ref 16 0)],[(16,.var none (ZaI x))]),([(17,.ref 17 0)],[(17,.var none (ZaI y))])] (fun j=>([(13,15),(14,16)]:List (Nat × Nat)).lookup j) [] (⟨by simp [gs],by simp [gm]⟩) (fun j hj=>by simp at hj) ⟨?_,?_,?_,?_,?_,?_,?_,?_,?_,?_,?_,?_,?_,?_,?_,?_,?_,trivial⟩ ?_
 iterate 17 (focus
  intro s' m' hB hD hI hJ;have F:=Zcj.1 hB
  try have F:=ai F (Zao.1 (hD 0 (by decide) (by first | exact .inl rfl | exact .inr rfl)))
  try have F:=ai F (Zao.1 (hD 1 (by decide) (by first | exact .inl rfl | exact .inr rfl)))
  try have F:=ai F (Zao.1 (hD 2 (by decide) (by first | exact .inl rfl | exact .inr rfl)))
  try have F:=ai F (Zao.1 (hD 3 (by decide) (by first | exact .inl rfl | exact .inr rfl)))
  try have F:=ai F (Zao.1 (hD 4 (by decide) (by first | exact .inl rfl | exact .inr rfl)))
  try have F:=ai F (Zao.1 (hD 5 (by decide) (by first | exact .inl rfl | exact .inr rfl)))
  try have F:=ai F (Zao.1 (hD 6 (by decide) (by first | exact .inl rfl | exact .inr rfl)))
  try have F:=ai F (Zao.1 (hD 7 (by decide) (by first | exact .inl rfl | exact .inr rfl)))
  try have F:=ai F (Zao.1 (hD 8 (by decide) (by first | exact .inl rfl | exact .inr rfl)))
  try have F:=ai F (Zao.1 (hD 9 (by decide) (by first | exact .inl rfl | exact .inr rfl)))
  try have F:=ai F (Zao.1 (hD 10 (by decide) (by first | exact .inl rfl | exact .inr rfl)))
  try have F:=ai F (Zao.1 (hD 11 (by decide) (by first | exact .inl rfl | exact .inr rfl)))
  try have F:=ai F (Zao.1 (hD 12 (by decide) (by first | exact .inl rfl | exact .inr rfl)))
  try have F:=ai F (Zao.1 (hD 13 (by decide) (by first | exact .inl rfl | exact .inr rfl)))
  try have F:=ai F (Zao.1 (hD 14 (by decide) (by first | exact .inl rfl | exact .inr rfl)))
  simp only [lkS,lkM,List.getD_cons_zero,List.getD_cons_succ,and_true,true_and] at F;have F:=aj11 F w4 w5 hx hy lC hlx hly @Zal chz tmz;refine gO3 ?_
  first | exact kS hB (Zao.2 (by simp [lkS,lkM,gs,gm])) | exact kM hB (Zao.2 (by simp [lkS,lkM,gs,gm,F])) | exact kB hB (Zao.2 (by simp [lkS,lkM,gs,gm])))
 intro s' m' hB hP;refine ⟨_,_,(hB.app (hP 15 (.inl (by decide)) (fun k h=>by simp [List.lookup] at h))).app (hP 16 (.inl (by decide)) (fun k h=>by simp [List.lookup] at h)),?_⟩;simp only [Taf,Tah,List.append_nil,List.getD_cons_zero,List.getD_cons_succ]
 /- gk end link12 -/
 refine ⟨_,Wk.refl _,?_⟩;have cR1:=h x (Tac hx);have cR2:=h y (Tac hy);have fx:(l.conds.map (ZbH m))[2 * k]?=some (ZbH m x):=by rw [Tba,hx];rfl
 have fy:(l.conds.map (ZbH m))[2 * k+1]?=some (ZbH m y):=by rw [Tba,hy];rfl
 have hno:=fun (q:aS m.sig l.occ.mat c.1=some x.frm->aS m.sig l.occ.mat c.2=some y.frm->x.to=y.to->(l.conds.map (ZbH m))[2 * k]?=some true->(l.conds.map (ZbH m))[2 * k+1]?=some true->False)=>ZeK (t:=t) (o:=l.occ) (fl:=l.conds.map (ZbH m)) hix he fun h=>ZfL.not hc hx hy q h.2.2.2;rw [fx,fy] at hno
 cases h5:aS m.sig l.occ.mat c.1 with
 | none =>
  rw [hno fun p1 _ _ _ _=>by rw [h5] at p1;cases p1];exact fD (aj4 @z5 @z6 @hz @tmz)
 | some u1 =>
 cases h6:aS m.sig l.occ.mat c.2 with
 | none =>
  rw [hno fun _ p1 _ _ _=>by rw [h6] at p1;cases p1];exact fD (aj5 @z5 @z6 @z7 @hz @tmz)
 | some u2 =>
 have ok1:=ZaF.ok hg _ u1 (Tan _) (Zqu h5).form;have ok2:=ZaF.ok hg _ u2 (Tan _) (Zqu h6).form;refine fN 13 (aj3 @z7 @z8 @tmz) ?_;refine gB ?_;refine fC (aj5 @z7 @z8 @chz @Zdu @tmz) (ZcC hxf ok1) ?_;by_cases h7:Zag x.frm u1=0;rotate_left
 ·rw [decide_eq_false h7,hno fun p1 _ _ _ _=>by rw [h5] at p1;injection p1 with p1;exact h7 (Zbo.2 p1.symm)];refine fR @tmz ?_;exact fD (aj4 @z5 @z6 @hz @tmz)
 rw [decide_eq_true h7];refine fC (aj5 @z7 @z8 @chz @Zdu @tmz) (ZcC hyf ok2) ?_;by_cases h8:Zag y.frm u2=0;rotate_left
 ·rw [decide_eq_false h8,hno fun _ p1 _ _ _=>by rw [h6] at p1;injection p1 with p1;exact h8 (Zbo.2 p1.symm)];refine fR @tmz ?_;exact fD (aj4 @z5 @z6 @hz @tmz)
 rw [decide_eq_true h8];refine fC (aj5 @z7 @z8 @chz @Zdu @tmz) (ZcC hxt hyt) ?_;by_cases h9:Zag x.to y.to=0;rotate_left
 ·rw [decide_eq_false h9,hno fun _ _ p1 _ _=>h9 (Zbo.2 p1)];refine fR @tmz ?_;exact fD (aj4 @z5 @z6 @hz @tmz)
 rw [decide_eq_true h9];refine fC (ai @chz @tmz) (cR1) ?_
 cases g1:ZbH m x with
 | false =>
  rw [hno fun _ _ _ p1 _=>by rw [g1] at p1;cases p1];refine fR @tmz ?_;exact fD (aj4 @z5 @z6 @hz @tmz)
 | true =>
 refine fC (ai @chz @tmz) (cR2) ?_
 cases g2:ZbH m y with
 | false =>
  rw [hno fun _ _ _ _ p1=>by rw [g2] at p1;cases p1];refine fR @tmz ?_;exact fD (aj4 @z5 @z6 @hz @tmz)
 | true =>
 have hnx:=hct.step hc hx hy (by rw [h5,Zbo.1 h7]) (by rw [h6,Zbo.1 h8]) (Zbo.1 h9) (by rw [fx,g1]) (by rw [fy,g2]);refine fR @tmz ?_;have F:=ai @hwk @tmz;refine gG ?_;exact ⟨k+1,⟨hkl,hnx⟩,gw,gw,om⟩
end
mutual
def szCh:Chn->Nat
 | .mk _ _ ls=>1+ZcE ls
def szLk:Lnk->Nat
 | .mk _ _ cs=>1+Zcv cs
def Zcv:List Chn->Nat
 | []=>0
 | c::cs=>szCh c+Zcv cs
def ZcE:List Lnk->Nat
 | []=>0
 | l::ls=>szLk l+ZcE ls
end
theorem ZfN (c:Chn):szCh c=1+ZcE c.links:=by obtain ⟨a,b,l⟩:=c;simp only [szCh,Chn.links]
theorem ZiF (l:Lnk):szLk l=1+Zcv l.conds:=by obtain ⟨a,b,c⟩:=l;simp only [szLk,Lnk.conds]
theorem ZkE:∀ (a b:List Chn),Zcv (a++b)=Zcv a+Zcv b
 | [],b=>by simp only [Tah,Zcv];omega
 | c::a,b=>by simp only [Taf,Zcv,ZkE a b];omega
theorem ZkF:∀ (a b:List Lnk),ZcE (a++b)=ZcE a+ZcE b
 | [],b=>by simp only [Tah,ZcE];omega
 | c::a,b=>by simp only [Taf,ZcE,ZkF a b];omega
theorem Zmm {l:List Chn} {i:Nat} {x:Chn} (h:l[i]?=some x):Zcv (l.take (i+1))=Zcv (l.take i)+szCh x:=by rw [List.take_add_one,h,ZkE];simp only [Option.toList,Zcv];omega
theorem Zmn {l:List Lnk} {i:Nat} {x:Lnk} (h:l[i]?=some x):ZcE (l.take (i+1))=ZcE (l.take i)+szLk x:=by rw [List.take_add_one,h,ZkF];simp only [Option.toList,ZcE];omega
theorem Zjn (l:List Chn) (i:Nat):Zcv (l.take i)<=Zcv l:=by
 have:=ZkE (l.take i) (l.drop i);rw [Tbm] at this;omega
theorem Zjo (l:List Lnk) (i:Nat):ZcE (l.take i)<=ZcE l:=by
 have:=ZkF (l.take i) (l.drop i);rw [Tbm] at this;omega
theorem ZpF {l:List Chn} {x:Chn} (h:x∈l):szCh x<=Zcv l:=by
 obtain ⟨i,hi⟩:=Tbk h;have:=Zmm hi;have:=Zjn l (i+1);omega
theorem ZpG {l:List Lnk} {x:Lnk} (h:x∈l):szLk x<=ZcE l:=by
 obtain ⟨i,hi⟩:=Tbk h;have:=Zmn hi;have:=Zjo l (i+1);omega
mutual
theorem ZkG:∀ c:Chn,szCh c<=1+bulkRow (ZaI c)
 | .mk a b ls=>by
  have h:=ZnK ls;have h2:=ZhF (.mk a b ls);simp only [Chn.links] at h2;simp only [szCh];omega
theorem ZA3:∀ l:Lnk,szLk l<=1+bulkRow (Zcp l)
 | .mk i o cs=>by
  have h:=ZnJ cs;have h2:=ZhG (.mk i o cs);simp only [Lnk.conds] at h2;simp only [szLk];omega
theorem ZnJ:∀ l:List Chn,Zcv l<=l.length+bulkRows (Zbu l)
 | []=>by simp [Zcv]
 | c::cs=>by
  have h1:=ZkG c;have h2:=ZnJ cs;simp only [Zcv,Zbu,bulkRows,Tag];omega
theorem ZnK:∀ l:List Lnk,ZcE l<=l.length+bulkRows (Zch l)
 | []=>by simp [ZcE]
 | c::cs=>by
  have h1:=ZA3 c;have h2:=ZnK cs;simp only [ZcE,Zch,bulkRows,Tag];omega
end
theorem ZtB (c:Chn) (hs:szCh c<=4000000) (h:∀ l∈c.links,∀ d∈l.conds,Con e0 87 [.agg (ZaI d)] [.one (.lit (.int .i64 (szCh d:Int)))]):Con e0 87 [.agg (ZaI c)] [.one (.lit (.int .i64 (szCh c:Int)))]:=by
 rw [ZfN] at hs;have hlen:c.links.length<=4000000:=by
  have:∀ l:List Lnk,l.length<=ZcE l:=fun l=>by
   induction l with
   | nil=>simp
   | cons x xs ih=>have:=ZiF x;simp only [Tag,ZcE];omega
  have:=this c.links;omega
 have hcl:∀ l:List Chn,l.length<=Zcv l:=fun l=>by
  induction l with
  | nil=>simp
  | cons x xs ih=>have:=ZfN x;simp only [Tag,Zcv];omega
 refine gI (ts:=[.slot 2]) 3940015 Tryz.func87 ?_;refine fG (ai @chz @tmz) ?_;have F:=ai @Int.natCast_one @tmz;refine gL (ι:=Nat × Nat) [3,5,7,11,12,18,19,20,21] [] (fun x=>[(11,A.d (.one (.lit (.int .i64 x.1)))),(3,A.d (.one (.lit (.int .i64 x.2))))]) (fun x=>[]) (fun x=>x.1<=c.links.length∧x.2=1+ZcE (c.links.take x.1)) (fun x=>c.links.length - x.1) ((0,1)) (⟨Taj _,by simp [ZcE]⟩) (fun x hx=>?_);clear F
 obtain ⟨i,N⟩:=x;obtain ⟨hi,hN⟩:=hx;simp only at hi hN;dsimp only;by_cases hil:i < c.links.length;rotate_left
 ·obtain rfl:i=c.links.length:=by omega
  have q1:=lF c.links.length c.links.length;rw [Tap,<- ZfN] at hN;rw [<- hN];exact fD (aj3 @q1 @chz @tmz)
 have q1:=lT i c.links.length;obtain ⟨l,hl⟩:∃ l,c.links[i]?=some l:=⟨_,Taa hil⟩;have hlm:=Tac hl;have hst:=Zmn hl;have hle:=Zjo c.links (i+1);have hsl:=ZiF l;have hcc:=hcl l.conds;have w1:=Zan (k:=N) om;have hwi:=Zan (k:=i) om;have lu:=ZdV l;refine fG (aj8 @q1 @hl @hil @Zal @chz @lu @w1 @tmz) ?_;have F:=@tmz;refine gL (ι:=Nat × Nat) [3,7,20,21] [] (fun y=>[(20,A.d (.one (.lit (.int .i64 y.1)))),(3,A.d (.one (.lit (.int .i64 y.2))))]) (fun y=>[]) (fun y=>y.1<=l.conds.length∧y.2=N+1+Zcv (l.conds.take y.1)) (fun y=>l.conds.length - y.1) ((0,N+1)) (⟨Taj _,by simp [Zcv]⟩) (fun y hy=>?_);clear F
 obtain ⟨k,M⟩:=y;obtain ⟨hk,hM⟩:=hy;simp only at hk hM;dsimp only;by_cases hkl:k < l.conds.length;rotate_left
 ·obtain rfl:k=l.conds.length:=by omega
  have q2:=lF l.conds.length l.conds.length;rw [Tap] at hM;have F:=aj3 @q2 @hwi @tmz;refine gG ?_;exact ⟨(i+1,M),⟨hil,by simp only;omega⟩,gw,gw,om⟩
 have q2:=lT k l.conds.length;obtain ⟨d,hd⟩:∃ d,l.conds[k]?=some d:=⟨_,Taa hkl⟩;have hs2:=Zmm hd;have hs3:=Zjn l.conds (k+1);have w2:IntKind.i64.wrap ((M:Int)+(szCh d:Int))=((M+szCh d:Nat):Int):=ZaM om om om;have hwk:=Zan (k:=k) om;have cD:=h l hlm d (Tac hd);refine fN 9 (aj6 @q2 @hd @hkl @Zal @chz @tmz) ?_;refine gB ?_;refine fC (ai @chz @tmz) (cD) ?_;refine fR (ai @w2 @tmz) ?_;have F:=ai @hwk @tmz;refine gG ?_;exact ⟨(k+1,M+szCh d),⟨hkl,by simp only;omega⟩,gw,gw,om⟩
theorem Zw0 (n:Nat):∀ c:Chn,ZaC (ZaI c) < n->szCh c<=4000000->Con e0 87 [.agg (ZaI c)] [.one (.lit (.int .i64 (szCh c:Int)))]:=by
 induction n with
 | zero=>exact fun _ h=>absurd h om
 | succ n ih =>
  intro c hn hs;refine ZtB c hs fun l hl d hd=>ih d ?_ ?_
  ·have:=Zjl hl;have:=Zjm hd;omega
  ·have h1:=ZpG hl;have h2:=ZpF hd;have h3:=ZfN c;have h4:=ZiF l;omega
theorem ZCw (c:Chn) (hb:bulkRow (ZaI c)<=1048576):Con e0 87 [.agg (ZaI c)] [.one (.lit (.int .i64 (szCh c:Int)))]:=Zw0 _ c (Tan _) (by have:=ZkG c;omega)
theorem ZE1 {left:Int} {a:Nat} (h:0<=sub left a):sub left a - 1=sub left (a+1):=by
 unfold sub at h ⊢;split at h
 ·next h1 =>
  rw [if_pos h1];split <;> omega
 ·omega
theorem ZCx {left:Int} {a b:Nat} (h:0<=sub left a):sub (sub left a) b=sub left (a+b):=by
 unfold sub at h ⊢;split at h
 ·next h1 =>
  rw [if_pos h1];split <;> split <;> omega
 ·omega
theorem Zsz {left:Int} {a b:Nat} (h:¬ 0<=sub left a) (hab:a<=b):sub left a=sub left b:=by
 unfold sub at h ⊢;split at h
 ·omega
 ·next h1=>rw [if_neg h1,if_neg om]
theorem ZsA {left:Int} {a:Nat} (h:0<=left):-1<=sub left a∧sub left a<=left:=by
 unfold sub;split <;> omega
theorem ZtC (c:Chn) (hs:szCh c<=4000000) {left:Int} (h0:0<=left) (h1:left<=1000000) (h:∀ l∈c.links,∀ d∈l.conds,∀ v:Int,0<=v->v<=1000000->Con e0 82 [.agg (ZaI d),.one (.lit (.int .i64 v))] [.one (.lit (.int .i64 (sub v (szCh d))))]):Con e0 82 [.agg (ZaI c),.one (.lit (.int .i64 left))] [.one (.lit (.int .i64 (sub left (szCh c))))]:=by
 rw [ZfN] at hs;have hlen:c.links.length<=4000000:=by
  have:∀ l:List Lnk,l.length<=ZcE l:=fun l=>by
   induction l with
   | nil=>simp
   | cons x xs ih=>have:=ZiF x;simp only [Tag,ZcE];omega
  have:=this c.links;omega
 have hcl:∀ l:List Chn,l.length<=Zcv l:=fun l=>by
  induction l with
  | nil=>simp
  | cons x xs ih=>have:=ZfN x;simp only [Tag,Zcv];omega
 have w0:IntKind.i64.wrap (left - 1)=sub left 1:=by
  rw [IntWalk.i64_in _ om];unfold sub;split <;> omega
 refine gI (ts:=[.slot 4]) 17180000375 Tryz.func82 ?_;refine fG (aj3 @w0 @chz @tmz) ?_;have F:=@tmz;refine gL (ι:=Nat × Nat) [1,5,6,17,34] [] (fun x=>[(5,A.d (.one (.lit (.int .i64 x.1)))),(1,.d (.one (.lit (.int .i64 (sub left x.2)))))]) (fun x=>[]) (fun x=>x.1<=c.links.length∧x.2=1+ZcE (c.links.take x.1)) (fun x=>c.links.length - x.1) ((0,1)) (⟨Taj _,by simp [ZcE]⟩) (fun x hx=>?_);clear F;obtain ⟨i,N⟩:=x
 obtain ⟨hi,hN⟩:=hx;simp only at hi hN;dsimp only;have hb:=ZsA (a:=N) h0;by_cases hil:i < c.links.length;rotate_left
 ·obtain rfl:i=c.links.length:=by omega
  have q1:=lF c.links.length c.links.length;rw [Tap,<- ZfN] at hN;rw [<- hN];exact fD (aj3 @q1 @chz @tmz)
 have q1:=lT i c.links.length;by_cases hv:0<=sub left N;rotate_left
 ·have q3:(sub left N ≥ 0)=False:=eq_false hv;have hle:=Zjo c.links i;have e:sub left (szCh c)=sub left N:=(Zsz hv (by rw [ZfN];omega)).symm;rw [e];exact fD (aj4 @q1 @q3 @chz @tmz)
 have q3:(sub left N ≥ 0)=True:=eq_true hv;obtain ⟨l,hl⟩:∃ l,c.links[i]?=some l:=⟨_,Taa hil⟩;have hlm:=Tac hl;have hst:=Zmn hl;have hle:=Zjo c.links (i+1);have hsl:=ZiF l;have hcc:=hcl l.conds;have w1:IntKind.i64.wrap (sub left N - 1)=sub left (N+1):=by rw [ZE1 hv,IntWalk.i64_in _ (by have:=ZsA (a:=N+1) h0;omega)]
 have hwi:=Zan (k:=i) om;have lu:=ZdV l;refine fG (aj9 @q1 @q3 @hl @hil @Zal @chz @lu @w1 @tmz) ?_;have F:=@tmz;refine gL (ι:=Nat × Nat) [1,6,34] [] (fun y=>[(6,A.d (.one (.lit (.int .i64 y.1)))),(1,.d (.one (.lit (.int .i64 (sub left y.2)))))]) (fun y=>[]) (fun y=>y.1<=l.conds.length∧y.2=N+1+Zcv (l.conds.take y.1)) (fun y=>l.conds.length - y.1) ((0,N+1)) (⟨Taj _,by simp [Zcv]⟩) (fun y hy=>?_);clear F
 obtain ⟨k,M⟩:=y;obtain ⟨hk,hM⟩:=hy;simp only at hk hM;dsimp only;have hb2:=ZsA (a:=M) h0;by_cases hkl:k < l.conds.length;rotate_left
 ·obtain rfl:k=l.conds.length:=by omega
  have q2:=lF l.conds.length l.conds.length;rw [Tap] at hM;have F:=aj8 @q2 @hwi @hl @hil @Zal @lu @chz @tmz;refine gG ?_;exact ⟨(i+1,M),⟨hil,by simp only;omega⟩,gw,gw,om⟩
 have q2:=lT k l.conds.length;by_cases hv2:0<=sub left M;rotate_left
 ·have q4:(sub left M ≥ 0)=False:=eq_false hv2;have hle2:=Zjn l.conds k;have e:sub left M=sub left (N+1+Zcv l.conds):=Zsz hv2 om;rw [e] at q4 ⊢;have F:=aj9 @q2 @q4 @hwi @hl @hil @Zal @lu @chz @tmz;refine gG ?_;exact ⟨(i+1,N+1+Zcv l.conds),⟨hil,by simp only;omega⟩,gw,gw,om⟩
 have q4:(sub left M ≥ 0)=True:=eq_true hv2;obtain ⟨d,hd⟩:∃ d,l.conds[k]?=some d:=⟨_,Taa hkl⟩;have hs2:=Zmm hd;have hs3:=Zjn l.conds (k+1);have hwk:=Zan (k:=k) om;have cD:=h l hlm d (Tac hd) (sub left M) hv2 om;rw [ZCx hv2] at cD;refine fN 9 (aj10 @q2 @q4 @hl @hil @lu @hd @hkl @Zal @chz @tmz) ?_;refine gB ?_;refine fC (aj8 @hl @hil @lu @hd @hkl @Zal @chz @tmz) (cD) ?_;refine fR @tmz ?_;have F:=ai @hwk @tmz;refine gG ?_;exact ⟨(k+1,M+szCh d),⟨hkl,by simp only;omega⟩,gw,gw,om⟩
theorem Zw1 (n:Nat):∀ c:Chn,ZaC (ZaI c) < n->szCh c<=4000000->∀ left:Int,0<=left->left<=1000000->Con e0 82 [.agg (ZaI c),.one (.lit (.int .i64 left))] [.one (.lit (.int .i64 (sub left (szCh c))))]:=by
 induction n with
 | zero=>exact fun _ h=>absurd h om
 | succ n ih =>
  intro c hn hs left h0 h1;refine ZtC c hs h0 h1 fun l hl d hd v h2 h3=>ih d ?_ ?_ v h2 h3
  ·have:=Zjl hl;have:=Zjm hd;omega
  ·have h1:=ZpG hl;have h2:=ZpF hd;have h3:=ZfN c;have h4:=ZiF l;omega
theorem ZCy (c:Chn) (hb:bulkRow (ZaI c)<=1048576):Con e0 82 [.agg (ZaI c),.one (.lit (.int .i64 1000))] [.one (.lit (.int .i64 (sub 1000 (szCh c))))]:=Zw1 _ c (Tan _) (by have:=ZkG c;omega) 1000 om om
noncomputable def chkB (m:Mdl) (c:Chn):Bool:=Zek m && (decide (szCh c<=1000) && ZbH m c)
section
variable {m:Mdl} {mc:C}
theorem ZtD (hg:SgnOk m.sig) (hm:ZgZ m) (hE:ZdB m=true) (hbm:bulkRow (Zco m)<=1048576) (n:Nat):∀ c:Chn,ZaC (ZaI c) < n->Zed c->bulkRow (ZaI c)<=1048576->RigC m mc c:=by
 induction n with
 | zero=>exact fun _ h=>absurd h om
 | succ n ih =>
  intro c hn hc hb;have hbc:=ZhF c;refine Zsy hg hc hb fun l hl t hT=>?_;have hbl:=ZlG hl;have hnl:=Zjl hl;have hokl:=(Zg6.1 hc).2.2 l hl;refine Zp1 hg hm hE hbm hokl om hT fun d hd=>?_;have hbd:=ZlH hd;have hnd:=Zjm hd;have hbl2:=ZhG l;exact ih d om ((Zk7.1 hokl).2.2 d hd) om
theorem ZtE {c:Chn} (hm:ZgZ m) (hbm:bulkRow (Zco m)<=1048576) (hc:Zed c) (hb:bulkRow (ZaI c)<=1048576):Con e0 31 [.agg (Zco m),.agg (ZaI c)] [.one (.lit (.bool (chkB m c)))]:=by
 have es:Zas m.sig=[.sl (m.sig.sorts.names.map ZbY),.sl (m.sig.sorts.subs.map Zb4),.sl (m.sig.ops.map Zbf)]:=rfl;have er:=ZeJ;have cS:=ZCw c hb;by_cases hg:SgnOk m.sig;rotate_left
 ·have e:chkB m c=false:=by simp [chkB,Zek,Zeq hg]
  have cN:=Ziq hm.1 hg;rw [e];simp only [ZhH];refine gI (ts:=[.slot 4]) 127 Tryz.func31 ?_;refine fN 1 (ai @chz @tmz) ?_;refine gB ?_;refine fC (ai @es @tmz) (cN) ?_;refine fR @tmz ?_;exact fD @tmz
 have hs:=ZcH hg;have cN:=Zs5 hm.1 hg;simp only [ZhH];refine gI (ts:=[.slot 4]) 127 Tryz.func31 ?_;refine fN 1 (ai @chz @tmz) ?_;refine gB ?_;have F:=ai @es @tmz;refine gCE (cN) ?_;clear F;rintro r ⟨b0,rfl⟩;have cH:=ZAZ (mc:=.lit (.map (some b0))) hg hm hbm;have cR:=fun hE=>ZtD (mc:=.lit (.map (some b0))) hg hm hE hbm _ c (Tan _) hc hb;generalize C.lit (.map (some b0))=mc at cH cR ⊢;unfold RigC at cR
 simp only [ZhH] at cH cR;refine fR (ai @ZFe @ZkQ) ?_;refine fN 2 @tmz ?_;refine gB ?_;refine fC @tmz (cH) ?_
 cases h1:ZdB m with
 | false =>
  have e:chkB m c=false:=by simp [chkB,Zek,h1]
  rw [e];refine fR @tmz ?_;exact fD @tmz
 | true =>
 refine fC (ai @chz @tmz) (cS) ?_;by_cases h2:szCh c<=1000;rotate_left
 ·have e:chkB m c=false:=by simp [chkB,h2]
  have q2:((szCh c:Int)<=1000)=False:=eq_false om;rw [e];refine fR (ai @q2 @tmz) ?_;exact fD @tmz
 have q2:((szCh c:Int)<=1000)=True:=eq_true om;have e:chkB m c=ZbH m c:=by simp [chkB,Zek,hs,h1,h2]
 rw [e];refine fC (aj3 @q2 @chz @tmz) (cR h1) ?_;refine fR @tmz ?_;exact fD @tmz
end
section
variable {m:Mdl}
theorem ZA4 (hg:SgnOk m.sig) (hm:ZgZ m) (hE:ZdB m=true) (hbm:bulkRow (Zco m)<=1048576) (n:Nat):∀ c:Chn,ZaC (ZaI c) < n->Zed c->bulkRow (ZaI c)<=1048576->RgtC m c:=by
 induction n with
 | zero=>exact fun _ h=>absurd h om
 | succ n ih =>
  intro c hn hc hb;have hbc:=ZhF c;refine ZwZ hg hm.1 hc hb fun l hl t hT=>?_;have hbl:=ZlG hl;have hnl:=Zjl hl;have hokl:=(Zg6.1 hc).2.2 l hl;refine ZtA hg hm hE hbm hokl om hT fun d hd=>?_;have hbd:=ZlH hd;have hnd:=Zjm hd;have hbl2:=ZhG l;exact ih d om ((Zk7.1 hokl).2.2 d hd) om
theorem ZtF {c:Chn} (hm:ZgZ m) (hbm:bulkRow (Zco m)<=1048576) (hc:Zed c) (hb:bulkRow (ZaI c)<=1048576):Con e0 28 [.agg (Zco m),.agg (ZaI c)] [.one (.lit (.bool (chkB m c)))]:=by
 have er:=ZeJ;have cL:=ZCy c hb;have cM:=Ztz hm hbm;have cR:=fun hg hE=>ZA4 hg hm hE hbm _ c (Tan _) hc hb;unfold RgtC at cR;simp only [Zml] at cM cR ⊢;refine gI (ts:=[.slot 4]) 31 Tryz.func28 ?_;refine fN 1 (ai @chz @tmz) ?_;refine gB ?_;refine fC @tmz (cM) ?_
 cases h1:Zek m with
 | false =>
  have e:chkB m c=false:=by simp [chkB,h1]
  rw [e];refine fR @tmz ?_;exact fD @tmz
 | true =>
 refine fC (ai @chz @tmz) (cL) ?_;by_cases h2:szCh c<=1000;rotate_left
 ·have e:chkB m c=false:=by simp [chkB,h2]
  have q2:(sub 1000 (szCh c) ≥ 0)=False:=eq_false (by rw [Zar om];omega);rw [e];refine fR (ai @q2 @tmz) ?_;exact fD @tmz
 have q2:(sub 1000 (szCh c) ≥ 0)=True:=eq_true (by rw [ZaA om];omega);have h1':=h1;simp only [Zek,Tar] at h1';have hg:=ZdK.1 h1'.1;have e:chkB m c=ZbH m c:=by simp [chkB,h1,h2]
 rw [e];refine fC (aj3 @q2 @chz @tmz) (cR hg h1'.2) ?_;refine fR @tmz ?_;exact fD @tmz
end
theorem Zla {row0:List C} (hok0:Zaj (ZbQ) row0) {row1:List C} (hok1:Zaj (Zac .chain) row1) {R0:Bool} (hsp0:bulkRow row0<=1048576->bulkRow row1<=1048576->Con e0 28 [.agg row0,.agg row1] [.one (.lit (.bool R0))]) (him0:bulkRow row0<=1048576->bulkRow row1<=1048576->Con e0 31 [.agg row0,.agg row1] [.one (.lit (.bool R0))]):Con e0 5 [.agg row0,.agg row1] [.one (.lit (.bool true))]:=by
 have okc0:=hok0.cells;obtain ⟨len0,tk0,dr0⟩:=hok0.take (n:=5) rfl;have okc1:=hok1.cells;obtain ⟨len1,tk1,dr1⟩:=hok1.take (n:=9) rfl;refine gI 18159122269183 Tryz.func5 ?_;refine fG (aj9 @okc0 @len0 @tk0 @dr0 @okc1 @len1 @tk1 @dr1 @Za3) ?_;have hL0_0:(0:Int)<=1048576:=om;have hL0_1:(1048576:Int)<=1048576:=om;refine gB ?_;refine fC (aj9 @okc0 @len0 @tk0 @dr0 @okc1 @len1 @tk1 @dr1 @Za3) (ZsB hok0 hL0_0 hL0_1) ?_
 refine fR (aj9 @okc0 @len0 @tk0 @dr0 @okc1 @len1 @tk1 @dr1 @Za3) ?_;by_cases hb0:((bulkRow row0):Int)<=1048576;rotate_left
 ·have n1:sub 1048576 (bulkRow row0)=-1:=Zar om;have n2:(-1:Int) < 0:=om;exact fT (ai @n1 @n2)
 have nq0:sub 1048576 (bulkRow row0)=1048576 - ((bulkRow row0):Nat):=ZaA om;rw [nq0];clear nq0;have hB0:bulkRow row0<=1048576:=om;have hL1_0:(0:Int)<=1048576 - ((bulkRow row0):Nat):=om;have hL1_1:(1048576:Int) - ((bulkRow row0):Nat)<=1048576:=om;generalize hgl0:(1048576:Int) - ((bulkRow row0):Nat)=L1 at *;clear hgl0;have n2:¬ (L1 < 0):=om;refine fG (aj10 @n2 @okc0 @len0 @tk0 @dr0 @okc1 @len1 @tk1 @dr1 @Za3) ?_
 clear n2 hb0;refine gB ?_;refine fC (aj9 @okc0 @len0 @tk0 @dr0 @okc1 @len1 @tk1 @dr1 @Za3) (ZtN hok1 hL1_0 hL1_1) ?_;refine fR (aj9 @okc0 @len0 @tk0 @dr0 @okc1 @len1 @tk1 @dr1 @Za3) ?_;by_cases hb1:((bulkRow row1):Int)<=L1;rotate_left
 ·have n1:sub L1 (bulkRow row1)=-1:=Zar om;have n2:(-1:Int) < 0:=om;exact fT (ai @n1 @n2)
 have nq1:sub L1 (bulkRow row1)=L1 - ((bulkRow row1):Nat):=ZaA om;rw [nq1];clear nq1;have hB1:bulkRow row1<=1048576:=om;have hL2_0:(0:Int)<=L1 - ((bulkRow row1):Nat):=om;have hL2_1:(L1:Int) - ((bulkRow row1):Nat)<=1048576:=om;generalize hgl1:(L1:Int) - ((bulkRow row1):Nat)=L2 at *;clear hgl1;have n2:¬ (L2 < 0):=om;refine fG (aj10 @n2 @okc0 @len0 @tk0 @dr0 @okc1 @len1 @tk1 @dr1 @Za3) ?_;clear n2 hb1
 have hsp:=hsp0 hB0 hB1;have him:=him0 hB0 hB1;have cT0:=ZsD hok0 hB0;have cT1:=ZtR hok1 hB1;refine gB ?_;refine fC (aj9 @okc0 @len0 @tk0 @dr0 @okc1 @len1 @tk1 @dr1 @Za3) (cT0) ?_;refine fC (aj9 @okc0 @len0 @tk0 @dr0 @okc1 @len1 @tk1 @dr1 @Za3) (cT1) ?_;refine fC (aj9 @okc0 @len0 @tk0 @dr0 @okc1 @len1 @tk1 @dr1 @Za3) (hsp) ?_;refine fR (aj9 @okc0 @len0 @tk0 @dr0 @okc1 @len1 @tk1 @dr1 @Za3) ?_;refine fB (aj9 @okc0 @len0 @tk0 @dr0 @okc1 @len1 @tk1 @dr1 @Za3) ?_
 refine fC (aj9 @okc0 @len0 @tk0 @dr0 @okc1 @len1 @tk1 @dr1 @Za3) (cT0) ?_;refine fR (aj9 @okc0 @len0 @tk0 @dr0 @okc1 @len1 @tk1 @dr1 @Za3) ?_;refine fB (aj9 @okc0 @len0 @tk0 @dr0 @okc1 @len1 @tk1 @dr1 @Za3) ?_;refine fC (aj9 @okc0 @len0 @tk0 @dr0 @okc1 @len1 @tk1 @dr1 @Za3) (cT1) ?_;refine fR (aj9 @okc0 @len0 @tk0 @dr0 @okc1 @len1 @tk1 @dr1 @Za3) ?_;refine fB (aj9 @okc0 @len0 @tk0 @dr0 @okc1 @len1 @tk1 @dr1 @Za3) ?_
 refine fC (aj9 @okc0 @len0 @tk0 @dr0 @okc1 @len1 @tk1 @dr1 @Za3) (him) ?_;refine fR (aj9 @okc0 @len0 @tk0 @dr0 @okc1 @len1 @tk1 @dr1 @Za3) ?_;refine fB (aj10 @okc0 @len0 @tk0 @dr0 @okc1 @len1 @tk1 @dr1 @Za3 @beq_self_eq_true.{0}) ?_;refine fC (aj9 @okc0 @len0 @tk0 @dr0 @okc1 @len1 @tk1 @dr1 @Za3) (cT0) ?_;refine fC (aj9 @okc0 @len0 @tk0 @dr0 @okc1 @len1 @tk1 @dr1 @Za3) (ZsC hok0) ?_;refine fR (aj9 @okc0 @len0 @tk0 @dr0 @okc1 @len1 @tk1 @dr1 @Za3) ?_
 refine fB (aj9 @okc0 @len0 @tk0 @dr0 @okc1 @len1 @tk1 @dr1 @Za3) ?_;refine fC (aj9 @okc0 @len0 @tk0 @dr0 @okc1 @len1 @tk1 @dr1 @Za3) (cT1) ?_;refine fC (aj9 @okc0 @len0 @tk0 @dr0 @okc1 @len1 @tk1 @dr1 @Za3) (ZtP hok1) ?_;refine fR (aj9 @okc0 @len0 @tk0 @dr0 @okc1 @len1 @tk1 @dr1 @Za3) ?_;exact fT (aj9 @okc0 @len0 @tk0 @dr0 @okc1 @len1 @tk1 @dr1 @Za3)
theorem ZkH (w:World) (hT:Zc6 w) (row0:List C) (S0:Nat->Prop) (us0:List Value) (hok0:Zaj (ZbQ) row0) (hv0:Zad w S0 row0 us0) (row1:List C) (S1:Nat->Prop) (us1:List Value) (hok1:Zaj (Zac .chain) row1) (hv1:Zad w S1 row1 us1) :
  Calls Tryz.prog 5 #[(.agg us0.toArray:Value),(.agg us1.toArray:Value)] w fun e w'=>e=.returned (.bool true)∧Below w.heap.size w w':=by
 obtain ⟨m,rfl,k0⟩:=ZFN hok0;obtain ⟨c,rfl,k1⟩:=ZFi hok1
 have hc:=(Zla hok0 hok1 (fun b0 b1=>ZtF k0 b0 k1 b1) (fun b0 b1=>ZtE k0 b0 k1 b1)).2 w (fun b=>b < w.heap.size∧b≠2) [(.agg us0.toArray:Value),(.agg us1.toArray:Value)] (fun b hb=>⟨hb.1,hb.2⟩) (ZFg hT) hT
  ⟨⟨us0,rfl,Zad.off (ZzN hT) _ _ _ hok0 hv0.inside'⟩,⟨us1,rfl,Zad.off (ZzN hT) _ _ _ hok1 hv1.inside'⟩,trivial⟩
 refine hc.mono fun e w' ⟨v,h1,h2,h3,h4⟩=>⟨?_,h2.belowT hT h3⟩;have h4:v=.bool true:=by simpa [retA,ARel,DRel,Rep] using h4
 rw [h1,h4]
end Go.Proofs.YtcgacanpeaiabaaGreatDoor
