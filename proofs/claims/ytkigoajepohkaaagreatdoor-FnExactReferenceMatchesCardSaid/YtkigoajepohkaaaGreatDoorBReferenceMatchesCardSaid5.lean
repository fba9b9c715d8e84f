/-
  Part of a proof.
-/
import Derived.Test.YtkigoajepohkaaaGreatDoorBReferenceMatchesCardSaid0
import Derived.Test.YtkigoajepohkaaaGreatDoorBReferenceMatchesCardSaid1
import Derived.Test.YtkigoajepohkaaaGreatDoorBReferenceMatchesCardSaid2
import Derived.Test.YtkigoajepohkaaaGreatDoorBReferenceMatchesCardSaid3
import Derived.Test.YtkigoajepohkaaaGreatDoorBReferenceMatchesCardSaid4
import Derived.Shelf.Lays7
import Derived.Test.YtkigoajepohkaaaGreatDoorChecked
import Derived.Shelf.Spec.TrailingZeros
import Derived.Shelf.SlSortCmp.WholeK
import Derived.Shelf.SlSortCmp.NoneTotal
import Derived.Lib.QuietBelow
import Derived.Shelf.SlLaysF0
import Derived.Shelf.SlSortCmp.Whole1
import Derived.Shelf.SlLaysF
set_option linter.unusedSimpArgs false
set_option linter.unusedVariables false
set_option maxHeartbeats 400000000
set_option maxRecDepth 100000
namespace Go.Proofs.YtkigoajepohkaaaGreatDoor
open Go.Shelf
def ZuU:Ren:=⟨fun | 27=>173 | 28=>196 | 29=>197 | n=>n,fun | 25=>128 | 3=>3 | 27=>178 | 22=>180 | 4=>4 | 53=>217 | 0=>0 | 5=>5 | 54=>218 | n=>n,fun | 0=>1 | 1=>2 | n=>n⟩
theorem tzZ:Go.Proofs.Lays7.n27 Tryz.prog ZuU:={
 mixed:=by kernel_rfl,
 f27:=Tryz.func173.trans (congrArg some (by kernel_rfl)),
 f28:=Tryz.func196.trans (congrArg some (by kernel_rfl)),
 f29:=Tryz.func197.trans (congrArg some (by kernel_rfl)),
 t0:=Tryz.underlying0,
 a0:=Tryz.isAgg0,
 z0:=Tryz.sizeOf0,
 v0:=Tryz.zeroValue0,
 i0:=by kernel_rfl,
 t3:=Tryz.underlying3,
 a3:=Tryz.isAgg3,
 z3:=Tryz.sizeOf3,
 v3:=Tryz.zeroValue3,
 i3:=by kernel_rfl,
 t4:=Tryz.underlying4,
 a4:=Tryz.isAgg4,
 z4:=Tryz.sizeOf4,
 v4:=Tryz.zeroValue4,
 i4:=by kernel_rfl,
 t5:=Tryz.underlying5,
 a5:=Tryz.isAgg5,
 z5:=Tryz.sizeOf5,
 v5:=Tryz.zeroValue5,
 i5:=by kernel_rfl,
 t22:=Tryz.underlying180,
 a22:=Tryz.isAgg180,
 z22:=Tryz.sizeOf180,
 v22:=Tryz.zeroValue180,
 i22:=by kernel_rfl,
 t25:=Tryz.underlying128,
 a25:=Tryz.isAgg128,
 z25:=Tryz.sizeOf128,
 v25:=Tryz.zeroValue128,
 i25:=by kernel_rfl,
 t27:=Tryz.underlying178,
 a27:=Tryz.isAgg178,
 z27:=Tryz.sizeOf178,
 v27:=Tryz.zeroValue178,
 i27:=by kernel_rfl,
 t53:=Tryz.underlying217,
 a53:=Tryz.isAgg217,
 z53:=Tryz.sizeOf217,
 v53:=Tryz.zeroValue217,
 i53:=by kernel_rfl,
 t54:=Tryz.underlying218,
 a54:=Tryz.isAgg218,
 z54:=Tryz.sizeOf218,
 g0:=by kernel_rfl,
 g1:=by kernel_rfl }
end Go.Proofs.YtkigoajepohkaaaGreatDoor
namespace Go.Proofs.YtkigoajepohkaaaGreatDoor
open Go.RowKit
theorem ZEM:∀ q:Fin 8,Lib.ctz 64 (2 ^ q.val)=q.val:=by decide
theorem ZFA {q:Nat} (hq:q < 8):Con e0 173 [.one (.lit (.int .u64 ((2 ^ q:Nat):Int)))] [.one (.lit (.int .i64 (q:Int)))]:=by
 refine ⟨by kernel_rfl,fun w S vs hS hE hG hv=>?_⟩
 match vs,hv with
 | [v],hv =>
  have hv:v=.int .u64 ((2 ^ q:Nat):Int):=by simpa [ZaI,DRel,Rep] using hv
  subst hv;have hp:2 ^ q < 2 ^ 8:=Nat.pow_lt_pow_right om hq;have hT:TabAt (ZuU.g 1) Lib.deBruijn64tab w:=fun j hj=>ZcY.cell hG j hj;refine (Any7.bits_TrailingZeros tzZ (2 ^ q) om w (fun _=>hT)).mono fun en w' ⟨h1,h2⟩=>?_;subst h2;rw [ZEM ⟨q,hq⟩] at h1;exact ⟨_,h1,Kept.refl _ _ _ _,hG,by simp [retA,ARel,DRel,Rep]⟩
theorem Zrq {p m:Nat} (h:p &&& m=p) (hp:p≠0) (hm:p≠m):1<=m ^^^ p∧m ^^^ p < m:=by
 have h1:=Zq8 hm;have h2:=(ZuJ h).2;have h3:m ^^^ p<=m:=by
  have h4:m ^^^ p<=p ||| (m ^^^ p):=Nat.right_le_or;rw [h2] at h4;exact h4
 have h4:m ^^^ p≠m:=fun e=>hp (by
  have:m ^^^ (m ^^^ p)=m ^^^ m:=by rw [e]
  rw [<- Nat.xor_assoc,Nat.xor_self,Nat.zero_xor] at this;exact this)
 omega
section
variable {g:Sgn} {mc:C}
theorem ZB5 (hg:SgnOk g) {i:Nat} {o:Opr} (ho:g.ops[i]?=some o) (ha:o.assoc=true) (hc:o.comm=true) {s t N:Nat}:ofB (AnyB g o [s,t]) N=ofB (fun b=>Two (Eith (Rel2 g o)) s t b) N:=by
 refine Za5 fun b _=>?_;unfold AnyB;rw [Zfa (Opr.deg2 hg ho (.inl ha)),ZB3,hc];simp only [List.reverse_cons,List.reverse_nil,Tah,List.singleton_append,true_and];rw [Zfa (Opr.deg2 hg ho (.inl ha))]
theorem ZEN {R:Nat->Nat->Nat->Prop} {N:Nat} (h:∀ a c b,R a c b->b < N):∀ a c b,Eith R a c b->b < N:=fun a c b h1=>h1.elim (h a c b) (h c a b)
theorem Zn6 (hg:SgnOk g) {op:Int} {o:Opr} (h0:0<=op) (ho:g.ops[op.toNat]?=some o) (ha:o.assoc=true) (hc:o.comm=true) (sets:List Nat) (hn1:1<=sets.length) (hn7:sets.length<=7) (hs:∀ s∈sets,s < 2 ^ g.sorts.names.length):Con e0 138 [.one (.ptr (encX g mc)),.one (.lit (.int .i64 op)),.one (.sl (nR sets))] [.one (.lit (.int .i64 ((bvN g (Rel2 g o) sets (2 ^ sets.length - 1):Nat):Int)))]:=by
 have hN:=hg.sorts.n8;have rl:=ZaT (l:=sets);have rr:=ZaP (l:=sets);have hdeg:=Opr.deg2 hg ho (.inl ha);rw [<- ZB4];have hRlt:=ZEN fun a c b (h:Rel2 g o a c b)=>Rel2.lt hg (Tac ho) h;have hany:=fun s t=>ZB5 (s:=s) (t:=t) (N:=g.sorts.names.length) hg ho ha hc;generalize hRR:Eith (Rel2 g o)=R at hRlt hany ⊢;have hcv:∀ m,bvN g R sets m < 2 ^ g.sorts.names.length:=fun m=>Zcd _ _;have hsh:=Zfq (k:=sets.length) om
 have hT0:=BagT.start (g:=g) (R:=R) (sets:=sets);have hpow:∀ q,2 ^ q < 2 ^ sets.length->q < sets.length:=fun q h=>(Nat.pow_lt_pow_iff_right om).1 h;have hZ1:2 ^ 1<=2 ^ sets.length:=Tbt om hn1;have hZ7:2 ^ sets.length<=2 ^ 7:=Tbt om hn7;have hBl:=fun M T (h:BagT g R sets M T)=>h.1;have hBn:=fun M T (h:BagT g R sets M T)=>h.next;have hB0:=fun M T (h:BagT g R sets M T)=>h.zero;have hBg:=fun M T (h:BagT g R sets M T)=>h.2
 generalize hZ:2 ^ sets.length=Z at hsh hT0 hpow hZ1 hZ7 hBl hBn hB0 hBg ⊢;have hmx:((Z:Int)<=(maxApp:Int))=True:=eq_true (by unfold maxApp;omega);refine gI (ts:=[.slot 6]) 2199090890695 Tryz.func138 ?_;refine fG (aj7 @rl @hsh @hmx @Tby @nR_0 @Zap @tmz) ?_;generalize List.replicate Z 0=T0 at hT0 ⊢;have F:=@tmz;refine gL (ι:=Nat × List Nat) [8,9,10,19,26,41] [8] (fun x=>[(9,A.d (.one (.lit (.int .i64 x.1)))),(8,.buf 8)]) (fun x=>[(8,.buf none 3 1 (nR x.2))]) (fun x=>1<=x.1∧x.1<=Z∧BagT g R sets x.1 x.2) (fun x=>Z - x.1) ((1,T0)) (⟨Tai _,om,hT0⟩) (fun x hx=>?_);clear F
 clear hT0 T0;obtain ⟨m,T⟩:=x;obtain ⟨hm1,hm2,hT⟩:=hx;simp only at hm1 hm2 hT;dsimp only;have nl:=ZaT (l:=T);rw [hBl _ _ hT] at nl;have nr:=ZaP (l:=T);by_cases hmZ:m < Z;rotate_left
 ·obtain rfl:m=Z:=by omega
  have q1:=lF m m;have hg2:=ZaR ((hBg _ _ hT (m - 1) om om).1 om);have w1:IntKind.i64.wrap ((m:Int) - 1)=((m - 1:Nat):Int):=ZaM om om om;have i1:(m - 1 < m)=True:=eq_true om;exact fD (aj9 @q1 @hsh @nl @nr @hg2 @w1 @i1 @Zap @tmz)
 have q1:=lT m Z;have hw:=Zau (k:=m) om;have w1:IntKind.i64.wrap ((m:Int) - 1)=((m - 1:Nat):Int):=ZaM om om om;have ba:=Zea (a:=m) (b:=m - 1) om om;have ba2:=Zea (a:=m - 1) (b:=m) om om;rw [Nat.and_comm] at ba;have i0:(m < Z)=True:=eq_true hmZ;by_cases hA:(m - 1) &&& m=0
 ·obtain ⟨q,rfl⟩:=ZuT om hA;have hq:=hpow q hmZ;rw [hA] at ba;have q2:(((0:Nat):Int)=0)=True:=eq_true rfl;have wu:IntKind.u64.wrap ((2 ^ q:Nat):Int)=((2 ^ q:Nat):Int):=by
   unfold IntKind.wrap;simp only [IntKind.signed,IntKind.bits];exact Int.emod_eq_of_lt om om
  obtain ⟨s,hsq⟩:∃ s,sets[q]?=some s:=⟨_,Taa hq⟩;have hbv:bvN g R sets (2 ^ q)=s:=by unfold bvN;exact ZuM hsq (hs s (Tac hsq))
  have r1:=ZaR hsq;have hT2:=hBn _ _ hT hmZ;rw [hbv] at hT2;have ns:=ZcR (l:=T) (2 ^ q) s;obtain ⟨z,hz⟩:∃ z,T[2 ^ q]?=some z:=⟨_,Taa (by rw [hBl _ _ hT];exact hmZ)⟩;have ng:=ZaR hz;have cz:=ZFA (q:=q) om;have i2:(q < sets.length)=True:=eq_true hq;clear hbv hA;generalize 2 ^ q=M at *;refine fN 7 (aj7 @q1 @hsh @w1 @ba @q2 @Zap @tmz) ?_;refine gB ?_;refine fC (aj5 @Zgh @ZfG @ZeM @wu @tmz) (cz) ?_;refine fR (aj11 @r1 @rl @rr @nl @nr @ns @ng @i0 @i2 @Zap @tmz) ?_
  have F:=ai @hw @tmz;refine gG ?_;exact ⟨(M+1,T.set M s),⟨om,om,hT2⟩,gw,gw,om⟩
 have q2:((((m - 1) &&& m:Nat):Int)=0)=False:=eq_false om;have hnp:∀ i,m≠2 ^ i:=fun i e=>hA (by subst e;exact ZuS i);have hz:=hB0 _ _ hT hm1 hmZ;have hzz:nR (T.set m 0)=nR T:=by rw [hz]
 have hle:(m - 1) &&& m<=m - 1:=Nat.and_le_left;have hs0:=Zm7 (R:=R) (sets:=sets) (N:=g.sorts.names.length) (m:=m) om;have hend:=Zra (R:=R) (sets:=sets) (N:=g.sorts.names.length) (m:=m) hs hRlt hnp;have hT2:=hBn _ _ hT hmZ;clear nl nr;refine fG (aj8 @hsh @q1 @w1 @ba @ba2 @q2 @Zap @tmz) ?_;have F:=ai @hzz @tmz;refine gL (ι:=Nat × Nat) [8,10,41] [8] (fun z=>[(10,A.d (.one (.lit (.int .i64 z.1)))),(8,.buf 8)]) (fun z=>[(8,.buf none 3 1 (nR (T.set m z.2)))]) (fun z=>z.1 < m∧z.1 &&& m=z.1∧z.2=ofB (Zfs R sets g.sorts.names.length m z.1) g.sorts.names.length) (fun z=>z.1) (((m - 1) &&& m,0)) (⟨om,by rw [Nat.and_assoc,Nat.and_self],hs0.symm⟩) (fun z hz=>?_);clear F
 obtain ⟨p,v⟩:=z;obtain ⟨hp1,hp2,hv⟩:=hz;simp only at hp1 hp2 hv;dsimp only;by_cases hp0:p=0
 ·subst hp0;have q3:=lF 0 (0:Nat);have e:v=bvN g R sets m:=by rw [hv,hend];rfl
  subst e;have F:=aj3 @q3 @hw @tmz;refine gG ?_;exact ⟨(m+1,T.set m (bvN g R sets m)),⟨om,om,hT2⟩,gw,gw,om⟩
 have q3:=lT 0 p;have wp:IntKind.i64.wrap ((p:Int) - 1)=((p - 1:Nat):Int):=ZaM om om om;have bap:=Zea (a:=p - 1) (b:=m) om om;have bx:=Zrp (a:=m) (b:=p) om om;have hxp:=Zrq hp2 hp0 om;have hp3:(p - 1) &&& m<=p - 1:=Nat.and_le_left;have hTp:=(hBg _ _ hT p om om).1 hp1;have hTx:=(hBg _ _ hT (m ^^^ p) hxp.1 om).1 hxp.2;have e:=fun b=>ZoU (R:=R) (sets:=sets) (N:=g.sorts.names.length) (m:=m) (p:=p) (b:=b) hp0 om hp2
 have e:v ||| ofB (fun b=>Two R (bvN g R sets p) (bvN g R sets (m ^^^ p)) b) g.sorts.names.length=ofB (Zfs R sets g.sorts.names.length m ((p - 1) &&& m)) g.sorts.names.length:=by
  rw [hv,Zgl];exact Za5 fun b _=>(e b).symm
 have cR:=ZhZ (mc:=mc) hg h0 ho [bvN g R sets p,bvN g R sets (m ^^^ p)] (fun d hd=>hdeg d hd) (by simp) (fun s hs=>by
  simp only [Tbg,List.not_mem_nil,or_false] at hs;rcases hs with rfl | rfl <;> exact hcv _)
 rw [hany] at cR;have cR:=Zgn cR;have hv62:v < 4611686018427387904:=by rw [hv];exact ZbS (Zcd _ _) hN
 have hor:=ZdW hv62 (ZbS (Zcd (fun b=>Two R (bvN g R sets p) (bvN g R sets (m ^^^ p)) b) g.sorts.names.length) hN);rw [e] at hor;generalize ofB (fun b=>Two R (bvN g R sets p) (bvN g R sets (m ^^^ p)) b) g.sorts.names.length=tw at cR hor;have nl:=ZaT (l:=T.set m v);rw [Taz,hBl _ _ hT] at nl;have nr:=ZaP (l:=T.set m v);have g1:(nR (T.set m v))[m]?=some [.lit (.int .i64 v)]:=ZaR (Tbn (by rw [hBl _ _ hT];exact hmZ))
 have g2:(nR (T.set m v))[p]?=some [.lit (.int .i64 (bvN g R sets p))]:=ZaR (by rw [Tbo om];exact hTp);have g3:(nR (T.set m v))[m ^^^ p]?=some [.lit (.int .i64 (bvN g R sets (m ^^^ p)))]:=ZaR (by rw [Tbo om];exact hTx);have ns:=fun x=>ZcR (l:=T.set m v) m x;simp only [List.set_set] at ns;have i2:(p < Z)=True:=eq_true om;have i3:(m ^^^ p < Z)=True:=eq_true om;clear e hv hend;refine fN 11 (ai @q3 @tmz) ?_
 refine gB ?_;refine fC (aj11 @nl @nr @g1 @g2 @g3 @i0 @i2 @i3 @bx @Zap @tmz) (cR) ?_;refine fR (aj8 @nl @nr @g1 @hor @ns @i0 @Zap @tmz) ?_;have F:=aj3 @wp @bap @tmz;refine gG ?_;exact ⟨((p - 1) &&& m,ofB (Zfs R sets g.sorts.names.length m ((p - 1) &&& m)) g.sorts.names.length),⟨om,by rw [Nat.and_assoc,Nat.and_self],rfl⟩,gw,gw,om⟩
end
section
variable {g:Sgn}
theorem Zz2 (hg:SgnOk g) {op:Int} {o:Opr} (h0:0<=op) (ho:g.ops[op.toNat]?=some o) (ha:o.assoc=true) (sets:List Nat) (hn1:1<=sets.length) (hn7:sets.length<=7) (hs:∀ s∈sets,s < 2 ^ g.sorts.names.length):Con e0 114 [.agg (ZaB g),.one (.lit (.int .i64 op)),.one (.sl (nR sets))] [.one (.lit (.int .i64 ((bvN g (Rel2 g o) sets (2 ^ sets.length - 1):Nat):Int)))]:=by
 have hN:=hg.sorts.n8;have rl:=ZaT (l:=sets);have rr:=ZaP (l:=sets);have hdeg:=Opr.deg2 hg ho (.inl ha);have cU:=Zha hg.sorts.n8 hg.sorts.m16 (SortsOk.subsIn hg.sorts.subs);rw [Zbo] at cU;have hRlt:=fun a c b (h:Rel2 g o a c b)=>Rel2.lt hg (Tac ho) h;have hany:∀ s t,ofB (ZdG g o [s,t]) g.sorts.names.length=ofB (fun b=>Two (Rel2 g o) s t b) g.sorts.names.length:=fun s t=>Za5 fun b _=>Zfa hdeg;have cG:=fun l=>ZiZ hg (Tac ho) l
 generalize hRR:Rel2 g o=R at hRlt hany ⊢;have hcv:∀ m,bvN g R sets m < 2 ^ g.sorts.names.length:=fun m=>Zcd _ _;have cB:=Zgi (k:=sets.length) om;have hT0:=BagT.start (g:=g) (R:=R) (sets:=sets);have hpow:∀ q,2 ^ q < 2 ^ sets.length->q < sets.length:=fun q h=>(Nat.pow_lt_pow_iff_right om).1 h;have hZ1:2 ^ 1<=2 ^ sets.length:=Tbt om hn1;have hZ7:2 ^ sets.length<=2 ^ 7:=Tbt om hn7;have hBl:=fun M T (h:BagT g R sets M T)=>h.1
 have hBn:=fun M T (h:BagT g R sets M T)=>h.next;have hB0:=fun M T (h:BagT g R sets M T)=>h.zero;have hBg:=fun M T (h:BagT g R sets M T)=>h.2;generalize hZ:2 ^ sets.length=Z at cB hT0 hpow hZ1 hZ7 hBl hBn hB0 hBg ⊢;have hmx:((Z:Int)<=(maxApp:Int))=True:=eq_true (by unfold maxApp;omega);rw [ZaB];refine gI (ts:=[.slot 6]) 281509890105295 Tryz.func114 ?_;refine fN 2 (ai @rl @tmz) ?_;refine gB ?_;refine fC @tmz (cU) ?_
 refine fR @tmz ?_;refine ZdK ?_;refine gB ?_;refine fC @tmz (cB) ?_;refine fR (aj4 @hmx @Tby @nR_0 @tmz) ?_;refine fG (ai @Zap @tmz) ?_;generalize List.replicate Z 0=T0 at hT0 ⊢;have F:=@tmz;refine gL (ι:=Nat × List Nat) [9,10,11,12,24,29,35,48] [9] (fun x=>[(10,A.d (.one (.lit (.int .i64 x.1)))),(9,.buf 9)]) (fun x=>[(9,.buf none 3 1 (nR x.2))]) (fun x=>1<=x.1∧x.1<=Z∧BagT g R sets x.1 x.2) (fun x=>Z - x.1) ((1,T0)) (⟨Tai _,om,hT0⟩) (fun x hx=>?_);clear F
 clear hT0 T0;obtain ⟨m,T⟩:=x;obtain ⟨hm1,hm2,hT⟩:=hx;simp only at hm1 hm2 hT;dsimp only;refine fN 5 @tmz ?_;refine gB ?_;refine fC @tmz (cB) ?_;by_cases hmZ:m < Z;rotate_left
 ·obtain rfl:m=Z:=by omega
  have nl:=ZaT (l:=T);rw [hBl _ _ hT] at nl;have nr:=ZaP (l:=T);have q1:=lF m m;have hg2:=ZaR ((hBg _ _ hT (m - 1) om om).1 om);have w1:IntKind.i64.wrap ((m:Int) - 1)=((m - 1:Nat):Int):=ZaM om om om;have i1:(m - 1 < m)=True:=eq_true om;refine fR (ai @q1 @tmz) ?_;refine fN 16 @tmz ?_;refine gB ?_;refine fC @tmz (cB) ?_;refine fR (aj7 @nl @nr @hg2 @w1 @i1 @Zap @tmz) ?_;exact fD @tmz
 have q1:=lT m Z;have hw:=Zau (k:=m) om;have w1:IntKind.i64.wrap ((m:Int) - 1)=((m - 1:Nat):Int):=ZaM om om om;have ba2:=Zea (a:=m - 1) (b:=m) om om;have i0:(m < Z)=True:=eq_true hmZ;have hz:=hB0 _ _ hT hm1 hmZ;have hzz:nR (T.set m 0)=nR T:=by rw [hz]
 have hT2:=hBn _ _ hT hmZ;refine fR (ai @q1 @tmz) ?_;refine fG @tmz ?_;have F:=ai @hzz @tmz;refine gL (ι:=Nat × Nat) [9,11,29,35] [9] (fun y=>[(11,A.d (.one (.lit (.int .i64 y.1)))),(9,.buf 9)]) (fun y=>[(9,.buf none 3 1 (nR (T.set m y.2)))]) (fun y=>y.1<=sets.length∧(∀ q,m=2 ^ q->(q < y.1->y.2=bvN g R sets m))∧((∀ q,q < y.1->m≠2 ^ q)->y.2=0)) (fun y=>sets.length - y.1) ((0,0)) (⟨om,fun q _ h=>om,fun _=>rfl⟩) (fun y hy=>?_);clear F
 obtain ⟨i,v⟩:=y;obtain ⟨hi,hv1,hv2⟩:=hy;simp only at hi hv1 hv2;dsimp only;by_cases hil:i < sets.length
 ·have q3:=lT i sets.length;have hwi:=Zau (k:=i) om;have cBi:=Zgi (k:=i) om;refine fN 10 (ai @q3 @tmz) ?_;refine gB ?_;refine fC @tmz (cBi) ?_;by_cases e:m=2 ^ i
  ·have q4:((m:Int)=((2 ^ i:Nat):Int))=True:=eq_true (by rw [e]);obtain ⟨s,hsi⟩:∃ s,sets[i]?=some s:=⟨_,Taa hil⟩;have hbv:bvN g R sets m=s:=by rw [e];unfold bvN;exact ZuM hsi (hs s (Tac hsi))
   have r1:=ZaR hsi;have nl:=ZaT (l:=T.set m v);rw [Taz,hBl _ _ hT] at nl;have nr:=ZaP (l:=T.set m v);have g1:(nR (T.set m v))[m]?=some [.lit (.int .i64 v)]:=ZaR (Tbn (by rw [hBl _ _ hT];exact hmZ));have ns:=fun x=>ZcR (l:=T.set m v) m x;simp only [List.set_set] at ns;have i1:(i < sets.length)=True:=eq_true hil;have hv0:(∀ q,q < i+1->m≠2 ^ q)->s=0:=fun h=>absurd e (h i om);clear cBi;generalize 2 ^ i=M at *
   refine fR (ai @q4 @tmz) ?_;have F:=aj12 @hwi @r1 @rl @rr @nl @nr @g1 @ns @i0 @i1 @Zap @tmz;refine gG ?_;exact ⟨(i+1,s),⟨hil,fun q h1 h2=>hbv.symm,hv0⟩,gw,gw,om⟩
  have q4:((m:Int)=((2 ^ i:Nat):Int))=False:=eq_false om
  have hv3:∀ q,m=2 ^ q->(q < i+1->v=bvN g R sets m):=fun q h1 h2=>hv1 q h1 (by
   by_cases h3:q=i
   ·subst h3;exact absurd h1 e
   ·omega)
  have hv4:(∀ q,q < i+1->m≠2 ^ q)->v=0:=fun h=>hv2 fun q h1=>h q om;clear cBi;refine fR (ai @q4 @tmz) ?_;have F:=ai @hwi @tmz;refine gG ?_;exact ⟨(i+1,v),⟨hil,hv3,hv4⟩,gw,gw,om⟩
 obtain rfl:i=sets.length:=by omega
 have q3:=lF sets.length sets.length;have hz:=hB0 _ _ hT hm1 hmZ;have hle:(m - 1) &&& m<=m - 1:=Nat.and_le_left;refine fG (aj5 @q3 @w1 @ba2 @Zap @tmz) ?_;by_cases hA:(m - 1) &&& m=0
 ·obtain ⟨q,rfl⟩:=ZuT om hA;have hq:=hpow q hmZ;have hv:=hv1 q rfl hq;subst hv;rw [hA];have F:=@tmz;refine gL (ι:=Nat) [12,48] [] (fun z=>[(12,A.d (.one (.lit (.int .i64 z))))]) (fun z=>[]) (fun z=>z=0) (fun z=>z) (0) (rfl) (fun z hz=>?_);clear F;subst hz;have q4:=lF 0 (0:Nat);generalize 2 ^ q=M at *;have F:=aj3 @q4 @hw @tmz;refine gG ?_;exact ⟨(M+1,T.set M (bvN g R sets M)),⟨om,om,hT2⟩,gw,gw,om⟩
 have hnp:∀ i,m≠2 ^ i:=fun i e=>hA (by subst e;exact ZuS i);have hv:=hv2 fun q _=>hnp q;subst hv;have hs0:=Zm7 (R:=R) (sets:=sets) (N:=g.sorts.names.length) (m:=m) om;have hend:=Zra (R:=R) (sets:=sets) (N:=g.sorts.names.length) (m:=m) hs hRlt hnp;have F:=@tmz;refine gL (ι:=Nat × Nat) [9,12,48] [9] (fun z=>[(12,A.d (.one (.lit (.int .i64 z.1)))),(9,.buf 9)]) (fun z=>[(9,.buf none 3 1 (nR (T.set m z.2)))]) (fun z=>z.1 < m∧z.1 &&& m=z.1∧z.2=ofB (Zfs R sets g.sorts.names.length m z.1) g.sorts.names.length) (fun z=>z.1) (((m - 1) &&& m,0)) (⟨om,by rw [Nat.and_assoc,Nat.and_self],hs0.symm⟩) (fun z hz=>?_);clear F
 obtain ⟨p,v⟩:=z;obtain ⟨hp1,hp2,hv⟩:=hz;simp only at hp1 hp2 hv;dsimp only;by_cases hp0:p=0
 ·subst hp0;have q3:=lF 0 (0:Nat);have e:v=bvN g R sets m:=by rw [hv,hend];rfl
  subst e;have F:=aj3 @q3 @hw @tmz;refine gG ?_;exact ⟨(m+1,T.set m (bvN g R sets m)),⟨om,om,hT2⟩,gw,gw,om⟩
 have q3:=lT 0 p;have wp:IntKind.i64.wrap ((p:Int) - 1)=((p - 1:Nat):Int):=ZaM om om om;have bap:=Zea (a:=p - 1) (b:=m) om om;have bx:=Zrp (a:=m) (b:=p) om om;have hxp:=Zrq hp2 hp0 om;have hp3:(p - 1) &&& m<=p - 1:=Nat.and_le_left;have hTp:=(hBg _ _ hT p om om).1 hp1;have hTx:=(hBg _ _ hT (m ^^^ p) hxp.1 om).1 hxp.2;have e:=fun b=>ZoU (R:=R) (sets:=sets) (N:=g.sorts.names.length) (m:=m) (p:=p) (b:=b) hp0 om hp2
 have e:v ||| ofB (fun b=>Two R (bvN g R sets p) (bvN g R sets (m ^^^ p)) b) g.sorts.names.length=ofB (Zfs R sets g.sorts.names.length m ((p - 1) &&& m)) g.sorts.names.length:=by
  rw [hv,Zgl];exact Za5 fun b _=>(e b).symm
 have cR:=cG [bvN g R sets p,bvN g R sets (m ^^^ p)] (fun d hd=>hdeg d hd) (by simp) (fun s hs=>by
  simp only [Tbg,List.not_mem_nil,or_false] at hs;rcases hs with rfl | rfl <;> exact hcv _)
 rw [hany] at cR;have cR:=Zgn cR;have hv62:v < 4611686018427387904:=by rw [hv];exact ZbS (Zcd _ _) hN
 have hor:=ZdW hv62 (ZbS (Zcd (fun b=>Two R (bvN g R sets p) (bvN g R sets (m ^^^ p)) b) g.sorts.names.length) hN);rw [e] at hor;generalize ofB (fun b=>Two R (bvN g R sets p) (bvN g R sets (m ^^^ p)) b) g.sorts.names.length=tw at cR hor;have nl:=ZaT (l:=T.set m v);rw [Taz,hBl _ _ hT] at nl;have nr:=ZaP (l:=T.set m v);have g1:(nR (T.set m v))[m]?=some [.lit (.int .i64 v)]:=ZaR (Tbn (by rw [hBl _ _ hT];exact hmZ))
 have g2:(nR (T.set m v))[p]?=some [.lit (.int .i64 (bvN g R sets p))]:=ZaR (by rw [Tbo om];exact hTp);have g3:(nR (T.set m v))[m ^^^ p]?=some [.lit (.int .i64 (bvN g R sets (m ^^^ p)))]:=ZaR (by rw [Tbo om];exact hTx);have ns:=fun x=>ZcR (l:=T.set m v) m x;simp only [List.set_set] at ns;have i2:(p < Z)=True:=eq_true om;have i3:(m ^^^ p < Z)=True:=eq_true om;clear e hv hend;refine fN 15 (ai @q3 @tmz) ?_
 refine gB ?_;refine fC (aj14 @nl @nr @g1 @g2 @g3 @i0 @i2 @i3 @bx @h0 @ho @Zaj @Zap @tmz) (cR) ?_;refine fR (aj8 @nl @nr @g1 @hor @ns @i0 @Zap @tmz) ?_;have F:=aj3 @wp @bap @tmz;refine gG ?_;exact ⟨((p - 1) &&& m,ofB (Zfs R sets g.sorts.names.length m ((p - 1) &&& m)) g.sorts.names.length),⟨om,by rw [Nat.and_assoc,Nat.and_self],rfl⟩,gw,gw,om⟩
end
section
variable {g:Sgn}
theorem AppOk.len7 (hg:SgnOk g) {t:Tm} {o:Opr} {d:Dcl} (hA:AppOk g t o d):t.args.length<=7:=by
 cases ha:o.assoc with
 | true=>exact (hA.asc ha).2
 | false =>
  rw [hA.nas ha];have:=(hg.decls o (Tac hA.at')).ar d hA.fst;omega
theorem AppOk.dlen (hg:SgnOk g) {t:Tm} {o:Opr} {d:Dcl} (hA:AppOk g t o d) (ha:o.assoc=false):∀ f∈o.decls,f.args.length=t.args.length:=by
 intro f hf;rw [hA.nas ha];exact ((hg.decls o (Tac hA.at')).all d hA.fst f hf).len
theorem Znh {t a:Tm} {i:Nat} (h:t.args[i]?=some a):(t.args.take i).map (sortsTm g)++[sortsTm g a]=(t.args.take (i+1)).map (sortsTm g):=by
 rw [List.take_add_one,h,Tbw];rfl
theorem ZsR (hg:SgnOk g):∀ (n:Nat) {t:Tm},sizeTm t < n->ZaF g t->Con e0 62 [.agg (ZaB g),.agg (Zac t)] [.one (.lit (.int .i64 ((sortsTm g t:Nat):Int)))]:=by
 intro n
 induction n with
 | zero=>exact fun {t} h _=>absurd h om
 | succ n IH =>
 intro t hsz hf;obtain ⟨hnode,hargs,_⟩:=ZaY.1 hf;have cU:=Zha hg.sorts.n8 hg.sorts.m16 (SortsOk.subsIn hg.sorts.subs);rw [Zbo] at cU;by_cases hop:t.op=-1
 ·have hv:Zcj g t:=hnode.resolve_right fun ⟨o,d,hA⟩=>by have:=hA.lo;omega
  have q1:(t.op=-1)=True:=eq_true hop;obtain ⟨k,hk⟩:∃ k:Nat,t.sort=k:=⟨t.sort.toNat,by have:=hv.2.2.1;omega⟩;have hgk:=Zik hg.sorts hv.2.2.1 hv.2.2.2.1;have hgk:=ZaR hgk.1;have e:=ZhV (g:=g) hop;rw [e];have ul:=ZaT (l:=up g.sorts);rw [(ZfX (SortsOk.subsIn hg.sorts.subs)).1] at ul;have ur:=ZaP (l:=up g.sorts);have i0:0<=t.sort:=hv.2.2.1;have i1:(t.sort.toNat < g.sorts.names.length)=True:=eq_true (by have:=hv.2.2.2.1;omega)
  rw [ZaB];refine gI (ts:=[.slot 4]) 4629704814991770879 Tryz.func62 ?_;refine fN 2 (ai @q1 @tmz) ?_;refine gB ?_;refine fC @tmz (cU) ?_;refine fR (aj6 @i0 @i1 @ul @ur @hgk @tmz) ?_;exact fD @tmz
 have q1:(t.op=-1)=False:=eq_false hop;obtain ⟨o,d,hA⟩:∃ o d,AppOk g t o d:=hnode.resolve_left fun hv=>hop hv.1;have h0:=hA.lo;have ho:=hA.at';have h7:=hA.len7 hg
 have ih:∀ a∈t.args,Con e0 62 [.agg (ZaB g),.agg (Zac a)] [.one (.lit (.int .i64 ((sortsTm g a:Nat):Int)))]:=fun a ha=>IH (by
  have h1:=Zbt t;have h2:=ZbA ha;omega) (hargs a ha)
 clear IH;have e:=ZhW hop ho;rw [e];have hss:∀ s∈t.args.map (sortsTm g),s < 2 ^ g.sorts.names.length:=fun s hs=>by
  obtain ⟨a,ha,rfl⟩:=Tbi.1 hs;exact ZeP hg (hargs a ha).node
 have hsl:(t.args.map (sortsTm g)).length=t.args.length:=Tay _;have cB:=fun (ha:o.assoc=true)=>Zz2 hg h0 ho ha (t.args.map (sortsTm g)) (by rw [hsl];have:=(hA.asc ha).1;omega) (by rw [hsl];exact h7) hss;have cC:=fun (ha:o.assoc=true)=>ZsQ hg h0 ho ha (t.args.map (sortsTm g)) (by rw [hsl];have:=(hA.asc ha).1;omega) (by rw [hsl];exact h7) hss;rw [ZaB] at ih cB cC ⊢;have hn0:nR []=[]:=rfl;have ht0:t.args.take 0=[]:=rfl
 refine gI (ts:=[.slot 4]) 4629704814991770879 Tryz.func62 ?_;refine fG (ai @q1 @tmz) ?_;have F:=aj3 @hn0 @ht0 @tmz;refine gL (ι:=Nat) [5,6,23] [5] (fun i=>[(6,A.d (.one (.lit (.int .i64 i)))),(5,.buf 5)]) (fun i=>[(5,.buf none 3 1 (nR ((t.args.take i).map (sortsTm g))))]) (fun i=>i<=t.args.length) (fun i=>t.args.length - i) (0) (Taj _) (fun i hi=>?_);clear F;have nl:=ZaT (l:=(t.args.take i).map (sortsTm g))
 rw [Tay,List.length_take_of_le hi] at nl;have nr:=ZaP (l:=(t.args.take i).map (sortsTm g));by_cases hil:i < t.args.length
 ·have q2:=lT i t.args.length;obtain ⟨a,hai⟩:∃ a,t.args[i]?=some a:=⟨_,Taa hil⟩;have cA:=ih a (Tac hai);have ns:=Zid (l:=(t.args.take i).map (sortsTm g)) (sortsTm g a);rw [Znh hai] at ns;have hmx:(i+1<=maxApp)=True:=eq_true (by unfold maxApp;omega);have hw:=Zau (k:=i) om;refine fN 7 (ai @q2 @tmz) ?_;refine gB ?_;refine fC (aj3 @hai @Zap @tmz) (cA) ?_;refine fR (aj5 @nl @nr @ns @hmx @tmz) ?_;have F:=ai @hw @tmz;refine gG ?_;exact ⟨i+1,hil,gw,gw,om⟩
 obtain rfl:i=t.args.length:=by omega
 have q2:=lF t.args.length t.args.length;rw [Tap] at nl nr ⊢;have hlt:=fun b=>ZeP hg (t:=b);have hD:=hA.dlen hg;rw [<- hsl] at hD;have cF:=fun (ha:o.assoc=false)=>Zlz hg h0 ho (t.args.map (sortsTm g)) (hD ha);have h2:=Opr.deg2 hg ho;rw [ZaB] at cF;clear hi hil
 cases ha:o.assoc with
 | true =>
  cases hc:o.comm with
  | true =>
   have cB:=cB ha;have e2:bvN g (Rel2 g o) (t.args.map (sortsTm g)) (2 ^ (t.args.map (sortsTm g)).length - 1)=appS g o (t.args.map (sortsTm g)):=by
    unfold bvN appS;exact Za5 fun b _=>by unfold AppB;rw [if_pos ha,if_pos hc]
   rw [e2] at cB;refine fN 10 (aj7 @q2 @ha @hc @h0 @ho @Zaj @tmz) ?_;refine gB ?_;refine fC @tmz (cB) ?_;refine fR @tmz ?_;exact fD @tmz
  | false =>
   have cC:=cC ha;have e2:cvN g o (t.args.map (sortsTm g)) 0 (t.args.map (sortsTm g)).length=appS g o (t.args.map (sortsTm g)):=by
    unfold cvN appS;exact Za5 fun b _=>by unfold AppB;rw [if_pos ha,if_neg (by simp [hc])]
   rw [e2] at cC;refine fN 12 (aj7 @q2 @ha @hc @h0 @ho @Zaj @tmz) ?_;refine gB ?_;refine fC @tmz (cC) ?_;refine fR @tmz ?_;exact fD @tmz
 | false =>
  have h3:t.args.length<=3:=by
   rw [hA.nas ha];exact (hg.decls o (Tac ho)).ar d hA.fst
  have cF:=cF ha (by rw [hsl];exact h3) hss
  cases hc:o.comm with
  | true =>
   have e2:ofB (ZdG g o (t.args.map (sortsTm g))) g.sorts.names.length ||| ofB (ZdG g o (t.args.map (sortsTm g)).reverse) g.sorts.names.length=appS g o (t.args.map (sortsTm g)):=by
    unfold appS;rw [Zgl];exact Za5 fun b _=>by unfold AppB AnyB;rw [if_neg (by simp [ha]),hc];simp
   have hor:=ZdW (ZbS (Zcd (ZdG g o (t.args.map (sortsTm g))) g.sorts.names.length) hg.sorts.n8) (ZbS (Zcd (ZdG g o (t.args.map (sortsTm g)).reverse) g.sorts.names.length) hg.sorts.n8);rw [e2] at hor;have cG:=Zlz hg h0 ho (t.args.map (sortsTm g)).reverse (by rw [List.length_reverse];exact hD ha) (by rw [List.length_reverse,hsl];exact h3) (fun s hs=>hss s (List.mem_reverse.1 hs));rw [ZaB] at cG;have hl2:(t.args.map (sortsTm g)).length=2:=by rw [hsl,hA.nas ha];exact h2 (.inr (.inl hc)) d (Tac hA.fst)
   clear e2 cB cC hD h2 ih hargs e;rw [hsl] at hl2;generalize appS g o (t.args.map (sortsTm g))=V at hor ⊢;generalize ofB (ZdG g o (t.args.map (sortsTm g))) g.sorts.names.length=V1 at hor cF;generalize ofB (ZdG g o (t.args.map (sortsTm g)).reverse) g.sorts.names.length=V2 at hor cG;have hl3:=hsl;rw [hl2] at hl3 nl;obtain ⟨s1,s2,hs12⟩:∃ s1 s2,t.args.map (sortsTm g)=[s1,s2]:=by
    match t.args.map (sortsTm g),hl3 with
    | [x,y],_=>exact ⟨x,y,rfl⟩
   rw [hs12] at cF cG nr nl ⊢;simp only [List.reverse_cons,List.reverse_nil,Tah,List.singleton_append] at cG;have cG:=Zgn cG;have g0:(nR [s1,s2])[0]?=some [.lit (.int .i64 s1)]:=rfl;have g1:(nR [s1,s2])[1]?=some [.lit (.int .i64 s2)]:=rfl;refine fN 14 (aj7 @q2 @ha @hc @h0 @ho @Zaj @tmz) ?_;refine Zcp (Zd2 [5] (by simp only [pz,↓reduceIte,Nat.reduceEqDiff,Nat.reduceAdd,Nat.reduceSub,Nat.reduceMul,Nat.reduceLeDiff,Nat.reduceBEq,Tam,decide_true,decide_false,Int.reduceLE,Int.reduceToNat,Int.reduceLT,Int.reduceEq,eq_self,Nat.reduceShiftRight,Nat.reduceAnd,Nat.reduceBneDiff,tmz];exact rfl)) fun σ' hσ=>?_
   subst hσ;refine gB ?_;refine fC @tmz (cF) ?_;refine fC (aj5 @nl @nr @g0 @g1 @tmz) (cG) ?_;refine fR (ai @hor @tmz) ?_;exact fD @tmz
  | false =>
   have e2:ofB (ZdG g o (t.args.map (sortsTm g))) g.sorts.names.length=appS g o (t.args.map (sortsTm g)):=by
    unfold appS;exact Za5 fun b _=>by unfold AppB AnyB;rw [if_neg (by simp [ha]),hc];simp
   rw [e2] at cF;refine fN 15 (aj7 @q2 @ha @hc @h0 @ho @Zaj @tmz) ?_;refine gB ?_;refine fC @tmz (cF) ?_;refine fR @tmz ?_;exact fD @tmz
end
section
variable {g:Sgn}
def Zf6 (g:Sgn) (b:Nat) (t:Tm) (l:List (ByteArray × Value)) (r:List D) (pm:List Bk):Prop:=∃ l',r=[.one (.lit (.int .i64 (sortsTm g t:Nat)))]∧pm=[mapB b l']∧Memo g l'∧Grew g (sizeTm t) l l'
theorem ZFC:∀ (b:Nat) (l:List (ByteArray × Value)),pinned (mapB b l)=true:=fun _ _=>rfl
theorem Zkc (hg:SgnOk g) (b:Nat):∀ (n:Nat) {t:Tm},sizeTm t < n->sizeTm t<=60->ZaF g t->∀ l,Memo g l->ConP e0 82 [.one (.ptr (encX g (.lit (.map (some b))))),.agg (Zac t)] [mapB b l] (Zf6 g b t l):=by
 intro n
 induction n with
 | zero=>exact fun {t} h _ _ _ _=>absurd h om
 | succ n IH =>
 intro t hsz h60 hf l hM;obtain ⟨hnode,hargs,_⟩:=ZaY.1 hf;by_cases hop:t.op=-1
 ·have hv:Zcj g t:=hnode.resolve_right fun ⟨o,d,hA⟩=>by have:=hA.lo;omega
  have q1:(t.op < 0)=True:=eq_true om;have hgk:=Zik hg.sorts hv.2.2.1 hv.2.2.2.1;have hgk:=ZaR hgk.1;have e:=ZhV (g:=g) hop;have ul:=ZaT (l:=up g.sorts);rw [(ZfX (SortsOk.subsIn hg.sorts.subs)).1] at ul;have ur:=ZaP (l:=up g.sorts);have i0:0<=t.sort:=hv.2.2.1;have i1:(t.sort.toNat < g.sorts.names.length)=True:=eq_true (by have:=hv.2.2.2.1;omega);have hR:Zf6 g b t l [.one (.lit (.int .i64 (upk g t.sort:Nat)))] [mapB b l]:=⟨l,by rw [e],rfl,hM,Grew.refl⟩
  clear IH hargs;unfold nR at ul ur hgk;refine gIP (ts:=[.slot 4]) [1000] 604463053930783360175611 Tryz.func82 ?_;refine fG (aj8 @q1 @i0 @i1 @ul @ur @hgk @Za4 @tmz) ?_;exact (have F:=tmz;gTP (R:=Zf6 g b t l) [1000] hR (hp:=rfl))
 have q1:(t.op < 0)=False:=eq_false (by
  obtain ⟨o,d,hA⟩:∃ o d,AppOk g t o d:=hnode.resolve_left fun hv=>hop hv.1;have:=hA.lo;omega)
 obtain ⟨o,d,hA⟩:∃ o d,AppOk g t o d:=hnode.resolve_left fun hv=>hop hv.1;have cK:=Zz0 hg hf h60;refine gIP (ts:=[.slot 4]) [1000] 604463053930783360175611 Tryz.func82 ?_;refine fN 3 (ai @q1 @tmz) ?_;refine gB ?_;refine fC @tmz (cK) ?_;refine fR @tmz ?_;refine fN 4 @tmz ?_;refine gB ?_;have F:=ai @Za4 @tmz;refine gP 5 ?_;clear F
 cases hfs:ZbW l (keyS t) with
 | some v =>
  have hv:=hM t hf v hfs;subst hv;have hR:Zf6 g b t l [.one (.lit (.int .i64 (sortsTm g t:Nat)))] [mapB b l]:=⟨l,rfl,rfl,hM,Grew.refl⟩;refine (have F:=tmz;gLo 1000 ZgR Zef Zz1 (v:=.int .i64 (sortsTm g t:Nat)) (f:=true) (by rw [hfs];rfl) (by rw [hfs];rfl) ?_);refine fR @tmz ?_;refine fG @tmz ?_;exact (have F:=tmz;gTP (R:=Zf6 g b t l) [1000] hR (hp:=rfl))
 | none =>
 refine (have F:=tmz;gLo 1000 ZgR Zef Zz1 (v:=.int .i64 0) (f:=false) (by rw [hfs];rfl) (by rw [hfs];rfl) ?_);have h7:=hA.len7 hg;have hn0:nR []=[]:=rfl;have ht0:t.args.take 0=[]:=rfl;refine fR @tmz ?_;refine fG @tmz ?_;have F:=aj3 @hn0 @ht0 @tmz;refine gL (ι:=Nat × List (ByteArray × Value)) [8,10,41,42] [8,1000] (fun x=>[(41,A.d (.one (.lit (.int .i64 x.1)))),(8,.buf 8)]) (fun x=>[(8,.buf none 3 1 (nR ((t.args.take x.1).map (sortsTm g)))),(1000,mapB b x.2)]) (fun x=>x.1<=t.args.length∧Memo g x.2∧Grew g (sizeTm t - 1) l x.2) (fun x=>t.args.length - x.1) ((0,l)) (⟨Taj _,hM,Grew.refl⟩) (fun x hx=>?_);clear F
 obtain ⟨i,l1⟩:=x;obtain ⟨hi,hM1,hG1⟩:=hx;simp only at hi hM1 hG1;dsimp only;have nl:=ZaT (l:=(t.args.take i).map (sortsTm g));rw [Tay,List.length_take_of_le hi] at nl;have nr:=ZaP (l:=(t.args.take i).map (sortsTm g));by_cases hil:i < t.args.length
 ·have q2:=lT i t.args.length;obtain ⟨a,hai⟩:∃ a,t.args[i]?=some a:=⟨_,Taa hil⟩;have ham:=Tac hai;have hs1:=Zbt t;have hs2:=ZbA ham;have cA:=IH (t:=a) om om (hargs a ham) l1 hM1;have ns:=Zid (l:=(t.args.take i).map (sortsTm g)) (sortsTm g a);rw [Znh hai] at ns;have hmx:(i+1<=maxApp)=True:=eq_true (by unfold maxApp;omega);have hw:=Zau (k:=i) om;refine fN 11 (aj4 @q2 @hai @Zap @tmz) ?_;refine gB ?_;have F:=aj5 @ZFC @Za4 @hai @Zap @tmz;refine gCP [1000] [1000] (hpn:=rfl) (cA) ?_;clear F
  rintro r pm ⟨l2,rfl,rfl,hM2,hG2⟩;simp only [setA,retA,zipM,Taf,Tah];refine fR (aj5 @nl @nr @ns @hmx @tmz) ?_;have F:=ai @hw @tmz;refine gG ?_;exact ⟨(i+1,l2),⟨hil,hM2,hG1.trans (hG2.mono om)⟩,gw,gw,om⟩
 obtain rfl:i=t.args.length:=by omega
 have q2:=lF t.args.length t.args.length;rw [Tap] at nl nr ⊢;clear IH;have h0:=hA.lo;have ho:=hA.at';have e:=ZhW hop ho;have hnone:ZbW l1 (keyS t)=none:=hG1 t hf (by have:=Zbt t;omega) hfs;have hR:Zf6 g b t l [.one (.lit (.int .i64 (sortsTm g t:Nat)))] [mapB b (l1++[(keyS t,.int .i64 (sortsTm g t:Nat))])]:=⟨_,rfl,rfl,hM1.snoc hg hf,(hG1.mono om).trans (Grew.snoc hg hf)⟩;have hss:∀ s∈t.args.map (sortsTm g),s < 2 ^ g.sorts.names.length:=fun s hs=>by
  obtain ⟨a,ha,rfl⟩:=Tbi.1 hs;exact ZeP hg (hargs a ha).node
 have hsl:(t.args.map (sortsTm g)).length=t.args.length:=Tay _;have h3:o.assoc=false->t.args.length<=3:=fun ha=>by
  rw [hA.nas ha];exact (hg.decls o (Tac ho)).ar d hA.fst
 have hD:=hA.dlen hg;have h2:=Opr.deg2 hg ho;have cR:=fun h1 h2=>ZhZ (mc:=.lit (.map (some b))) hg h0 ho (t.args.map (sortsTm g)) h1 h2 hss;have cA:=fun h1 h2 h3=>Zn6 (mc:=.lit (.map (some b))) hg h0 ho h1 h2 (t.args.map (sortsTm g)) h3 (by rw [hsl];exact h7) hss;have cW:=fun h1 h2 h3=>Zn7 (mc:=.lit (.map (some b))) hg h0 ho h1 h2 (t.args.map (sortsTm g)) h3 (by rw [hsl];exact h7) hss;have eR:=ZEB hg ho (sets:=t.args.map (sortsTm g))
 rw [hsl] at cR cA cW eR;have eA:o.assoc=true->o.comm=true->bvN g (Rel2 g o) (t.args.map (sortsTm g)) (2 ^ t.args.length - 1)=sortsTm g t:=fun ha hc=>by
  rw [e];unfold bvN appS;exact Za5 fun b _=>by unfold AppB;rw [if_pos ha,if_pos hc,hsl]
 have eC:o.assoc=true->o.comm=false->cvN g o (t.args.map (sortsTm g)) 0 t.args.length=sortsTm g t:=fun ha hc=>by
  rw [e];unfold cvN appS;exact Za5 fun b _=>by unfold AppB;rw [if_pos ha,if_neg (by simp [hc]),hsl]
 rw [<- e] at eR;clear hargs e hss;by_cases hle:t.args.length<=2
 ·have q3:((t.args.length:Int)<=2)=True:=eq_true om
  have cR:=cR (by
   cases ha:o.assoc with
   | true=>exact fun f hf=>by rw [h2 (.inl ha) f hf];have:=(hA.asc ha).1;omega
   | false=>exact hD ha) om
  rw [eR fun ha=>by have:=(hA.asc ha).1;omega] at cR;refine fN 16 (aj5 @q2 @q3 @nl @nr @tmz) ?_;refine gB ?_;refine fC (ai @Za4 @tmz) (cR) ?_;refine fR @tmz ?_;refine fN 19 @tmz ?_;refine gB ?_;have F:=ai @Za4 @tmz;refine gP 6 ?_;clear F;refine (have F:=tmz;gUp 1000 ZgR Zef hnone ?_);refine fR @tmz ?_;refine fG @tmz ?_;exact (have F:=tmz;gTP (R:=Zf6 g b t l) [1000] hR (hp:=rfl))
 have q3:((t.args.length:Int)<=2)=False:=eq_false om
 cases ha:o.assoc with
 | false =>
  have cR:=cR (hD ha) (h3 ha);rw [eR fun ha'=>by rw [ha] at ha';cases ha'] at cR;refine fN 16 (aj10 @q2 @q3 @nl @nr @ha @h0 @ho @Za4 @Zaj @tmz) ?_;refine gB ?_;refine fC (ai @Za4 @tmz) (cR) ?_;refine fR @tmz ?_;refine fN 19 @tmz ?_;refine gB ?_;have F:=ai @Za4 @tmz;refine gP 6 ?_;clear F;refine (have F:=tmz;gUp 1000 ZgR Zef hnone ?_);refine fR @tmz ?_;refine fG @tmz ?_;exact (have F:=tmz;gTP (R:=Zf6 g b t l) [1000] hR (hp:=rfl))
 | true =>
  have h1:1<=t.args.length:=om
  cases hc:o.comm with
  | true =>
   have cA:=cA ha hc h1;rw [eA ha hc] at cA;refine fN 18 (aj11 @q2 @q3 @nl @nr @ha @hc @h0 @ho @Za4 @Zaj @tmz) ?_;refine gB ?_;refine fC (ai @Za4 @tmz) (cA) ?_;refine fR @tmz ?_;refine fN 19 @tmz ?_;refine gB ?_;have F:=ai @Za4 @tmz;refine gP 6 ?_;clear F;refine (have F:=tmz;gUp 1000 ZgR Zef hnone ?_);refine fR @tmz ?_;refine fG @tmz ?_;exact (have F:=tmz;gTP (R:=Zf6 g b t l) [1000] hR (hp:=rfl))
  | false =>
   have cW:=cW ha hc h1;rw [eC ha hc] at cW;refine fN 14 (aj11 @q2 @q3 @nl @nr @ha @hc @h0 @ho @Za4 @Zaj @tmz) ?_;refine gB ?_;refine fC (ai @Za4 @tmz) (cW) ?_;refine fR @tmz ?_;refine fN 19 @tmz ?_;refine gB ?_;have F:=ai @Za4 @tmz;refine gP 6 ?_;clear F;refine (have F:=tmz;gUp 1000 ZgR Zef hnone ?_);refine fR @tmz ?_;refine fG @tmz ?_;exact (have F:=tmz;gTP (R:=Zf6 g b t l) [1000] hR (hp:=rfl))
end
section
variable {g:Sgn}
def RAlg (g:Sgn) (r:List D) (pm:List Bk):Prop:=∃ b:Nat,r=[.one (.ptr (encX g (.lit (.map (some b))))),.one (.lit (.bool true))]∧pm=[mapB b []]
theorem ZsS (hok:ZdQ g) (hg:SgnOk g):ConP e0 28 [.agg (ZaB g)] [] (RAlg g):=by
 have hs:ZcI g=true:=ZgC hg;have c:=Zln hok;rw [hs,ZaB] at c;have c2:=ZjW hok.1 hg.sorts;rw [Zbo,ZeA] at c2;rw [ZaB];refine gIP (ts:=[.slot 2,.slot 3]) [] 287 Tryz.func28 ?_;refine fN 1 @tmz ?_;refine gB ?_;refine fC @tmz (c) ?_;refine fR @tmz ?_;refine fN 3 @tmz ?_;refine gB ?_;refine fC @tmz (c2) ?_;refine fR @tmz ?_;refine fN 4 @tmz ?_;refine gB ?_;have F:=@tmz;refine gP 2 ?_;clear F;refine gMk fun b=>?_
 refine fR @tmz ?_;refine Zcp (Zd2 [19] (by simp only [pz,↓reduceIte,Nat.reduceEqDiff,Nat.reduceAdd,Nat.reduceSub,Nat.reduceMul,Nat.reduceLeDiff,Nat.reduceBEq,Tam,decide_true,decide_false,Int.reduceLE,Int.reduceToNat,Int.reduceLT,Int.reduceEq,eq_self,Nat.reduceShiftRight,Nat.reduceAnd,Nat.reduceBneDiff,tmz];exact rfl)) fun σ' hσ=>?_;subst hσ;exact (have F:=tmz;gTP (R:=RAlg g) [17] ⟨b,rfl,rfl⟩ (hp:=rfl))
end
section
variable {g:Sgn} {l:List Bd}
theorem Zcj.term {t:Tm} (h:Zcj g t):TermOk g t:=by
 have ha0:t.args=[]:=h.2.2.2.2;have hf:ZaF g t:=ZaY.2 ⟨.inl h,(by rw [ha0];intro a ha;cases ha),.inl h.1⟩;have h1:=Zbt t;rw [ha0,ZoP] at h1;have h2:=ZmR t;exact ⟨om,om,hf⟩
theorem TermOk.var {t:Tm} (h:TermOk g t) (ho:t.op=-1):Zcj g t:=h.form.node.resolve_right fun ⟨o,d,hA⟩=>by have:=hA.lo;omega
end
theorem Zcj.eq_iff {g:Sgn} {a b:Tm} (ha:Zcj g a) (hb:Zcj g b):Zai a b=0 ↔ a.name=b.name∧a.sort=b.sort:=by
 rw [ZjO];obtain ⟨h1,_,_,_,h2⟩:=ha;obtain ⟨h3,_,_,_,h4⟩:=hb;obtain ⟨o,n,s,l⟩:=a;obtain ⟨o',n',s',l'⟩:=b;simp only [Tm.op,Tm.args] at h1 h2 h3 h4;subst h1 h2 h3 h4;simp [Tm.name,Tm.sort]
section
variable {g:Sgn} {l:List Bd}
theorem Zo6 {l:List Bd} {i:Nat} {y:Bd} (h:l[i]?=some y) (v:Tm):Zcm (l.drop i) v=if Zai y.var v=0 then some y.to else Zcm (l.drop (i+1)) v:=by
 obtain ⟨hi,rfl⟩:=Tad.1 h;rw [List.drop_eq_getElem_cons hi];rfl
theorem ZsT (hl:∀ y∈l,Zcj g y.var) (h8:l.length<=1000) {v:Tm} (hv:Zcj g v):Con e0 78 [.one (.sl (Zat l)),.agg (Zac v)] [.agg (Zac ((Zcm l v).getD v)),.one (.lit (.bool (Zcm l v).isSome))]:=by
 have bl:=Zcl l;have bg:=ZdA l;have bb:=bds8 l;refine gI (ts:=[.cell 4 46,.slot 5]) 134221755 Tryz.func78 ?_;refine fG (ai @bl @tmz) ?_;have F:=@tmz;refine gL (ι:=Nat) [5,7,10,11,27] [] (fun i=>[(10,A.d (.one (.lit (.int .i64 i))))]) (fun i=>[]) (fun i=>i<=l.length∧Zcm (l.drop i) v=Zcm l v) (fun i=>l.length - i) (0) (⟨Taj _,rfl⟩) (fun i hi=>?_);clear F;obtain ⟨hi,hlo⟩:=hi;by_cases hil:i < l.length
 rotate_left
 ·obtain rfl:i=l.length:=by omega
  have q2:=lF l.length l.length;rw [List.drop_length] at hlo;have e:Zcm l v=none:=hlo.symm;rw [e];have z1:(none:Option Tm).getD v=v:=rfl;exact fD (aj3 @q2 @z1 @tmz)
 have q2:=lT i l.length;obtain ⟨y,hy⟩:∃ y,l[i]?=some y:=⟨_,Taa hil⟩;rw [Zo6 hy] at hlo;have hyv:=hl y (Tac hy);have hwi:=Zau (k:=i) om;have he:=Zcj.eq_iff hyv hv;by_cases h1:y.var.name=v.name;rotate_left
 ·have q3:(y.var.name.toList==v.name.toList)=false:=beq_eq_false_iff_ne.2 fun h=>h1 (toList_inj h);rw [if_neg (fun h=>h1 (he.1 h).1)] at hlo;have F:=aj11 @q2 @q3 @hwi @bl @bb @bg @hy @bdz @ZvA @Zap @tmz;refine gG ?_;exact ⟨i+1,⟨hil,hlo⟩,gw,gw,om⟩
 have q3:(y.var.name.toList==v.name.toList)=true:=by rw [h1];exact beq_self_eq_true _
 by_cases h2:y.var.sort=v.sort;rotate_left
 ·have q4:(y.var.sort=v.sort)=False:=eq_false h2;rw [if_neg (fun h=>h2 (he.1 h).2)] at hlo;have F:=aj12 @q2 @q3 @q4 @hwi @bl @bb @bg @hy @bdz @ZvA @Zap @tmz;refine gG ?_;exact ⟨i+1,⟨hil,hlo⟩,gw,gw,om⟩
 have q4:(y.var.sort=v.sort)=True:=eq_true h2;rw [if_pos (he.2 ⟨h1,h2⟩)] at hlo;rw [<- hlo];have z1:(some y.to).getD v=y.to:=rfl;exact fD (aj12 @q2 @q3 @q4 @z1 @bl @bb @bg @hy @bdz @ZvA @Zap @tmz)
theorem Zz6 (hl:Zdq l) {v:Tm} (hv:okTm v) (h8:l.length<=1000):Con e0 110 [.one (.sl (Zat l)),.agg (Zac v)] [.agg (Zac ((Zcm l v).getD zTm)),.one (.lit (.bool (Zcm l v).isSome))]:=by
 have bl:=Zcl l;have bg:=ZdA l;have bb:=bds8 l;have hz:=Zna;refine gI (ts:=[.cell 4 46,.slot 5]) 525435 Tryz.func110 ?_;refine fG (ai @bl @tmz) ?_;have F:=@tmz;refine gL (ι:=Nat) [5,6,10,19] [] (fun i=>[(6,A.d (.one (.lit (.int .i64 i))))]) (fun i=>[]) (fun i=>i<=l.length∧Zcm (l.drop i) v=Zcm l v) (fun i=>l.length - i) (0) (⟨Taj _,rfl⟩) (fun i hi=>?_);clear F;obtain ⟨hi,hlo⟩:=hi;by_cases hil:i < l.length
 rotate_left
 ·obtain rfl:i=l.length:=by omega
  have q2:=lF l.length l.length;rw [List.drop_length] at hlo;have e:Zcm l v=none:=hlo.symm;rw [e];have z1:(none:Option Tm).getD zTm=zTm:=rfl;exact fD (aj5 @q2 @z1 @hz @bl @tmz)
 have q2:=lT i l.length;obtain ⟨y,hy⟩:∃ y,l[i]?=some y:=⟨_,Taa hil⟩;rw [Zo6 hy] at hlo;have hwi:=Zau (k:=i) om;have cS:=Zfn (hl y (Tac hy)).1 hv;refine fN 4 (aj3 @q2 @bl @tmz) ?_;refine gB ?_;refine fC (aj7 @bl @bb @bg @hy @bdz @Zap @tmz) (cS) ?_;by_cases h1:Zai y.var v=0;rotate_left
 ·have q3:decide (Zai y.var v=0)=false:=decide_eq_false h1;rw [if_neg h1] at hlo;rw [q3];refine fR @tmz ?_;have F:=aj3 @hwi @bdz @tmz;refine gG ?_;exact ⟨i+1,⟨hil,hlo⟩,gw,gw,om⟩
 have q3:decide (Zai y.var v=0)=true:=decide_eq_true h1;rw [if_pos h1] at hlo;rw [q3,<- hlo];have z1:(some y.to).getD zTm=y.to:=rfl;refine fR @tmz ?_;exact fD (aj8 @z1 @bl @bb @bg @hy @bdz @Zap @tmz)
structure SbsW (g:Sgn) (l:List Bd):Prop where
 len:l.length<=1000
 var:∀ y∈l,Zcj g y.var
 to':∀ y∈l,TermOk g y.to
theorem SbsOk.w (h:SbsOk g l):SbsW g l:=⟨Tbe h.len (by decide),h.var,h.to'⟩
theorem SbsW.okB (hg:SgnOk g) (h:SbsW g l):Zdq l:=fun y hy=>⟨ZaF.ok hg _ _ (Tan _) (h.var y hy).term.form,ZaF.ok hg _ _ (Tan _) (h.to' y hy).form⟩
noncomputable def ap6 (g:Sgn) (l:List Bd) (t:Tm):Tm:=if t.op=-1 then (Zcm l t).getD t else match apTs g l t.args with
 | none=>zTm
 | some us=>match g.ops[t.op.toNat]? with
  | none=>zTm
  | some o=>match o.decls[0]? with
   | none=>zTm
   | some d=>mk6 g o d t.op us
theorem ZuX {t:Tm} (h:t.op=-1):ap6 g l t=(Zcm l t).getD t:=by unfold ap6;rw [if_pos h]
theorem ZB9 {t:Tm} (h:t.op≠-1) (hn:apTs g l t.args=none):ap6 g l t=zTm:=by unfold ap6;rw [if_neg h,hn]
theorem ZEP {t:Tm} {us:List Tm} {o:Opr} {d:Dcl} (h:t.op≠-1) (hu:apTs g l t.args=some us) (ho:g.ops[t.op.toNat]?=some o) (hd:o.decls[0]?=some d):ap6 g l t=mk6 g o d t.op us:=by
 unfold ap6;rw [if_neg h,hu];simp only [ho,hd]
theorem Zrr {t u:Tm} (h:apT g l t=some u):ap6 g l t=u:=by
 by_cases ho:t.op=-1
 ·rw [ZkO ho,Taq] at h;rw [ZuX ho,h]
 ·rw [ZgQ ho] at h;unfold ap6;rw [if_neg ho]
  cases h1:apTs g l t.args with
  | none=>rw [h1] at h;cases h
  | some us =>
   rw [h1,Option.bind_some] at h;unfold mkT at h
   cases h2:g.ops[t.op.toNat]? with
   | none=>rw [h2] at h;cases h
   | some o =>
    rw [h2] at h;simp only at h ⊢
    cases h3:o.decls[0]? with
    | none=>rw [h3] at h;cases h
    | some d =>
     rw [h3] at h;simp only at h ⊢;unfold mk6;rw [h];rfl
theorem Zz7 {mc:C} (hg:SgnOk g) (hS:SbsW g l):∀ (n:Nat) {t:Tm},sizeTm t < n->TermOk g t->Con e0 33 [.one (.ptr (encX g mc)),.one (.sl (Zat l)),.agg (Zac t)] [.agg (Zac ((apT g l t).getD zTm)),.one (.lit (.bool (apT g l t).isSome))]:=by
 intro n
 induction n with
 | zero=>exact fun {t} h _=>absurd h om
 | succ n IH =>
 intro t hsz ht;have hz:=Zna;have h60:=Zq6 ht;by_cases hop:t.op=-1
 ·have hv:=ht.var hop;have q1:(t.op < 0)=True:=eq_true om;have cB:=ZsT hS.var hS.len hv;have z1:(some ((Zcm l t).getD t)).getD zTm=(Zcm l t).getD t:=rfl;have z2:(some ((Zcm l t).getD t)).isSome=true:=rfl;rw [ZkO hop];refine gI (ts:=[.cell 6 46,.slot 7]) 2201036682727 Tryz.func33 ?_;refine fN 2 (ai @q1 @tmz) ?_;refine gB ?_;refine fC @tmz (cB) ?_;refine fR @tmz ?_;exact fD (aj3 @z1 @z2 @tmz)
 obtain ⟨o,d,hA⟩:=ht.form.node.resolve_left (fun hv=>hop hv.1);have q1:(t.op < 0)=False:=eq_false (by have:=hA.lo;omega);have cB:=fun us h1 h2=>ZzP (mc:=mc) hg hA.lo hA.at' hA.fst us h1 h2;refine gI (ts:=[.cell 6 46,.slot 7]) 2201036682727 Tryz.func33 ?_;refine fG (ai @q1 @tmz) ?_;have F:=ai @Zec @tmz;refine gL (ι:=Nat × List Tm) [7,10,12,13,14,29,30,41] [10] (fun x=>[(29,A.d (.one (.lit (.int .i64 x.1)))),(10,.buf 10)]) (fun x=>[(10,.buf none 46 4 (Zaa x.2))]) (fun x=>x.1<=t.args.length∧apTs g l (t.args.take x.1)=some x.2) (fun x=>t.args.length - x.1) ((0,[])) (⟨Taj _,rfl⟩) (fun x hx=>?_);clear F
 obtain ⟨i,us⟩:=x;obtain ⟨hi,hus⟩:=hx;simp only at hi hus;dsimp only;have hul:=ZlX hus;rw [List.length_take_of_le hi] at hul;have nl:=Zad us;have nr:ZaC 4 (Zaa us)=true:=ZdR _;by_cases hil:i < t.args.length;rotate_left
 ·obtain rfl:i=t.args.length:=by omega
  have q2:=lF t.args.length t.args.length;rw [Tap] at hus;have e:apT g l t=mkO g o d t.op us:=by rw [ZgQ hop,hus];exact ZzG hA.at' hA.fst us
  have cB:=cB us (fun u hu=>by
   obtain ⟨a,ha,hau⟩:=ZiU hus u hu;exact Zm9 hg hS.to' _ a (Tan _) (ht.arg ha) hau) om
  rw [e];refine fN 13 (ai @q2 @tmz) ?_;refine gB ?_;refine fC @tmz (cB) ?_;refine fR @tmz ?_;exact fD @tmz
 have q2:=lT i t.args.length;obtain ⟨a,ha⟩:∃ a,t.args[i]?=some a:=⟨_,Taa hil⟩;have ham:=Tac ha;have hs1:=Zbt t;have hs2:=ZbA ham;have cA:=IH (t:=a) om (ht.arg ham);have hwi:=Zau (k:=i) om;have hmx:(us.length+1<=maxApp)=True:=eq_true (by unfold maxApp;omega);have hsn:apTs g l (t.args.take (i+1))=(apT g l a).map fun u=>us++[u]:=by rw [Zcw ha,Zj3,hus];rfl
 refine fN 8 (aj4 @q2 @ha @Zap @tmz) ?_;refine gB ?_;refine fC (aj3 @ha @Zap @tmz) (cA) ?_;refine fR @tmz ?_
 cases hu:apT g l a with
 | none =>
  have z3:(none:Option Tm).isSome=false:=rfl;have z5:(none:Option Tm).getD zTm=zTm:=rfl;have e:apTs g l t.args=none:=Zj4 ham hu;have e2:apT g l t=none:=by rw [ZgQ hop,e];rfl
  rw [e2];exact fD (aj4 @z3 @z5 @hz @tmz)
 | some u =>
  have z3:(some u).isSome=true:=rfl;have z5:(some u).getD zTm=u:=rfl;rw [hu] at hsn;have ns:Zaa us++[Zac u]=Zaa (us++[u]):=by simp [ZbB]

  have F:=aj8 @z3 @z5 @nl @nr @ns @hmx @hwi @tmz;refine gG ?_;exact ⟨(i+1,us++[u]),⟨hil,hsn⟩,gw,gw,om⟩
theorem ZsU (hokg:ZdQ g) (hg:SgnOk g) (hS:SbsW g l):∀ (n:Nat) {t:Tm},sizeTm t < n->TermOk g t->Con e0 58 [.agg (ZaB g),.one (.sl (Zat l)),.agg (Zac t)] [.agg (Zac (ap6 g l t)),.one (.lit (.bool (apT g l t).isSome))]:=by
 intro n
 induction n with
 | zero=>exact fun {t} h _=>absurd h om
 | succ n IH =>
 intro t hsz ht;have hz:=Zna;have h60:=Zq6 ht;have hok2:=ZaF.ok hg _ t (Tan _) ht.form;have hokB:Zdq l:=hS.okB hg;by_cases hop:t.op=-1
 ·have q1:(t.op=-1)=True:=eq_true hop;have cB:=Zz6 hokB hok2 hS.len;have z2:(some ((Zcm l t).getD t)).isSome=true:=rfl;rw [ZuX hop,ZkO hop];rw [ZaB] at *;refine gI (ts:=[.cell 6 46,.slot 7]) 70370900131823 Tryz.func58 ?_;refine fN 2 (ai @q1 @tmz) ?_;refine gB ?_;refine fC @tmz (cB) ?_;refine fR @tmz ?_
  cases hk:Zcm l t with
  | none =>
   have z1:(none:Option Tm).getD t=t:=rfl;have z3:(none:Option Tm).isSome=false:=rfl;rw [hk] at z2;exact fD (aj4 @z1 @z2 @z3 @tmz)
  | some u =>
   have z1:(some u).getD t=u:=rfl;have z3:(some u).isSome=true:=rfl;have z4:(some u).getD zTm=u:=rfl;rw [hk] at z2;exact fD (aj5 @z1 @z2 @z3 @z4 @tmz)
 obtain ⟨o,d,hA⟩:=ht.form.node.resolve_left (fun hv=>hop hv.1);have q1:(t.op=-1)=False:=eq_false hop;have cB:=fun us h1 h2=>Zv3 hokg hg hA.lo hA.at' hA.fst us h1 h2;rw [ZaB] at *;refine gI (ts:=[.cell 6 46,.slot 7]) 70370900131823 Tryz.func58 ?_;refine fG (ai @q1 @tmz) ?_;have F:=ai @Zec @tmz;refine gL (ι:=Nat × List Tm) [7,10,11,12,13,31,46] [10] (fun x=>[(11,A.d (.one (.lit (.int .i64 x.1)))),(10,.buf 10)]) (fun x=>[(10,.buf none 46 4 (Zaa x.2))]) (fun x=>x.1<=t.args.length∧apTs g l (t.args.take x.1)=some x.2) (fun x=>t.args.length - x.1) ((0,[])) (⟨Taj _,rfl⟩) (fun x hx=>?_);clear F
 obtain ⟨i,us⟩:=x;obtain ⟨hi,hus⟩:=hx;simp only at hi hus;dsimp only;have hul:=ZlX hus;rw [List.length_take_of_le hi] at hul;have nl:=Zad us;have nr:ZaC 4 (Zaa us)=true:=ZdR _;by_cases hil:i < t.args.length;rotate_left
 ·obtain rfl:i=t.args.length:=by omega
  have q2:=lF t.args.length t.args.length;rw [Tap] at hus;have e:apT g l t=mkO g o d t.op us:=by rw [ZgQ hop,hus];exact ZzG hA.at' hA.fst us
  have cB:=cB us (fun u hu=>by
   obtain ⟨a,ha,hau⟩:=ZiU hus u hu;exact Zm9 hg hS.to' _ a (Tan _) (ht.arg ha) hau) om
  rw [e,ZEP hop hus hA.at' hA.fst];refine fN 14 (ai @q2 @tmz) ?_;refine gB ?_;refine fC @tmz (cB) ?_;refine fR @tmz ?_;exact fD @tmz
 have q2:=lT i t.args.length;obtain ⟨a,ha⟩:∃ a,t.args[i]?=some a:=⟨_,Taa hil⟩;have ham:=Tac ha;have hs1:=Zbt t;have hs2:=ZbA ham;have cA:=IH (t:=a) om (ht.arg ham);have hwi:=Zau (k:=i) om;have hmx:(us.length+1<=maxApp)=True:=eq_true (by unfold maxApp;omega);have hsn:apTs g l (t.args.take (i+1))=(apT g l a).map fun u=>us++[u]:=by rw [Zcw ha,Zj3,hus];rfl
 refine fN 10 (aj4 @q2 @ha @Zap @tmz) ?_;refine gLt 11 10 12 ?_;refine fC (aj3 @ha @Zap @tmz) (cA) ?_;refine fR @tmz ?_
 cases hu:apT g l a with
 | none =>
  have z3:(none:Option Tm).isSome=false:=rfl;have z5:(none:Option Tm).getD zTm=zTm:=rfl;have e:apTs g l t.args=none:=Zj4 ham hu;have e2:apT g l t=none:=by rw [ZgQ hop,e];rfl
  rw [e2,ZB9 hop e];exact fD (aj4 @z3 @z5 @hz @tmz)
 | some u =>
  have z3:(some u).isSome=true:=rfl;have z5:ap6 g l a=u:=Zrr hu;rw [hu] at hsn;have ns:Zaa us++[Zac u]=Zaa (us++[u]):=by simp [ZbB]
  rw [z5];have F:=aj8 @z3 @z5 @nl @nr @ns @hmx @hwi @tmz;refine gG ?_;exact ⟨(i+1,us++[u]),⟨hil,hsn⟩,gw,gw,om⟩
end
def mkB:List Tm->List Tm->List Bd
 | v::vs,x::xs=>⟨v,x⟩::mkB vs xs
 | _,_=>[]
theorem Zip:∀ {vs xs:List Tm},xs.length=vs.length->(mkB vs xs).length=vs.length
 | [],[],_=>rfl
 | _::vs,_::xs,h=>by simp only [mkB,Tag];rw [Zip (vs:=vs) (xs:=xs) (by simpa using h)]
theorem ZuY:∀ {vs xs:List Tm} {i:Nat} {v x:Tm},vs[i]?=some v->xs[i]?=some x->(mkB vs xs)[i]?=some ⟨v,x⟩
 | _::vs,_::xs,0,v,x,h1,h2=>by
  simp only [Tat,Taq] at h1 h2;simp [mkB,h1,h2]
 | _::vs,_::xs,i+1,v,x,h1,h2=>by
  simp only [mkB,Tau] at h1 h2 ⊢;exact ZuY h1 h2
theorem Zfw:∀ {vs xs:List Tm} {i:Nat} {y:Bd},(mkB vs xs)[i]?=some y->vs[i]?=some y.var∧xs[i]?=some y.to
 | [],_,i,y,h=>by simp [mkB] at h
 | _::vs,[],i,y,h=>by simp [mkB] at h
 | v::vs,x::xs,0,y,h=>by
  simp only [mkB,Tat,Taq] at h;subst h;exact ⟨rfl,rfl⟩
 | v::vs,x::xs,i+1,y,h=>by
  simp only [mkB,Tau] at h ⊢;exact Zfw h
theorem ZuZ:∀ {vs xs ys:List Tm},xs.length=vs.length->ys.length=vs.length->mkB vs xs=mkB vs ys->xs=ys
 | [],[],[],_,_,_=>rfl
 | v::vs,x::xs,y::ys,h1,h2,h=>by
  simp only [mkB,List.cons.injEq,Bd.mk.injEq,true_and] at h;rw [h.1,ZuZ (vs:=vs) (by simpa using h1) (by simpa using h2) h.2]
section
variable {g:Sgn} {p t:Tm} {cs:List Tm}
def Zi1 (g:Sgn) (vs xs:List Tm):Prop:=∀ (i:Nat) v x,vs[i]?=some v->xs[i]?=some x->(sortsTm g x).testBit v.sort.toNat=true
theorem Zi1.cons {v x:Tm} {vs xs:List Tm}:Zi1 g (v::vs) (x::xs) ↔ (sortsTm g x).testBit v.sort.toNat=true∧Zi1 g vs xs:=by
 constructor
 ·exact fun h=>⟨h 0 v x rfl rfl,fun i a b h1 h2=>h (i+1) a b h1 h2⟩
 ·rintro ⟨h1,h2⟩ i a b ha hb
  cases i with
  | zero =>
   simp only [Tat,Taq] at ha hb;subst ha hb;exact h1
  | succ i=>exact h2 i a b ha hb
theorem Zu0 {vs xs:List Tm} (ha:Asc vs) (hv:∀ v∈vs,Zcj g v) (hx:∀ x∈xs,TermOk g x) (hl:xs.length=vs.length):SbsOk g (mkB vs xs) ↔ vs.length<=8∧Zi1 g vs xs:=by
 constructor
 ·intro h;refine ⟨by have:=h.len;rwa [Zip hl] at this,fun i v x h1 h2=>(h.at' i ⟨v,x⟩ (ZuY h1 h2)).srt⟩
 ·rintro ⟨h1,h2⟩;refine ⟨by rw [Zip hl];exact h1,fun i y hy=>?_⟩;obtain ⟨e1,e2⟩:=Zfw hy;refine ⟨hv _ (Tac e1),fun j q hj hq=>?_,hx _ (Tac e2),h2 i _ _ e1 e2⟩;subst hj;obtain ⟨l1,f1⟩:=Tad.1 (Zfw hq).1;obtain ⟨l2,f2⟩:=Tad.1 e1;have:=List.pairwise_iff_getElem.1 ha j (j+1) l1 l2 om
  rwa [f1,f2] at this
theorem ZER {vs xs:List Tm} (hv:∀ v∈vs,Zcj g v) (hx:∀ x∈xs,TermOk g x) (hl:xs.length=vs.length) (hn:vs.length<=1000):SbsW g (mkB vs xs) :=
 ⟨by rw [Zip hl];exact hn,fun y hy=>by
  obtain ⟨i,hi⟩:=Tbk hy;exact hv _ (Tac (Zfw hi).1),fun y hy=>by
  obtain ⟨i,hi⟩:=Tbk hy;exact hx _ (Tac (Zfw hi).2)⟩
open Classical in
noncomputable def tryL (g:Sgn) (p t:Tm) (cs:List Tm):List Tm->List Bd->List (List Bd)
 | [],b=>if apT g b p=some t then [b] else []
 | v::vs,b=>cs.flatMap fun x=>if (sortsTm g x).testBit v.sort.toNat=true then tryL g p t cs vs (b++[⟨v,x⟩]) else []
theorem Zho:∀ {vs:List Tm} {b b':List Bd},b'∈tryL g p t cs vs b ↔ ∃ xs:List Tm,xs.length=vs.length∧(∀ x∈xs,x∈cs)∧Zi1 g vs xs∧b'=b++mkB vs xs∧apT g b' p=some t
 | [],b,b'=>by
  simp only [tryL];constructor
  ·intro h;split at h
   ·rename_i h1;rw [Tbj] at h;subst h;exact ⟨[],rfl,by simp,fun i v x h=>by simp at h,by simp [mkB],h1⟩
   ·cases h
  ·rintro ⟨xs,h1,_,_,h4,h5⟩;have:xs=[]:=Tao h1;subst this;simp only [mkB,List.append_nil] at h4;subst h4;rw [if_pos h5];exact Tbj.2 rfl
 | v::vs,b,b'=>by
  simp only [tryL,List.mem_flatMap];constructor
  ·rintro ⟨x,hx,h⟩;split at h
   ·rename_i hs;obtain ⟨xs,h1,h2,h3,h4,h5⟩:=Zho.1 h;refine ⟨x::xs,by simp [h1],?_,Zi1.cons.2 ⟨hs,h3⟩,by rw [h4,Tbf];rfl,h5⟩;intro y hy;rcases Tbg.1 hy with rfl | hy
    ·exact hx
    ·exact h2 y hy
   ·cases h
  ·rintro ⟨xs,h1,h2,h3,h4,h5⟩
   match xs,h1 with
   | x::xs,h1 =>
    obtain ⟨hs,h3⟩:=Zi1.cons.1 h3;refine ⟨x,h2 x Tas,?_⟩;rw [if_pos hs];exact Zho.2 ⟨xs,by simpa using h1,fun y hy=>h2 y (Tal _ hy),h3,by rw [h4,Tbf];rfl,h5⟩
noncomputable def ZdH (g:Sgn) (p t:Tm) (cs:List Tm) (v:Tm) (vs:List Tm) (b:List Bd) (i:Nat):List (List Bd):=(cs.take i).flatMap fun x=>if (sortsTm g x).testBit v.sort.toNat=true then tryL g p t cs vs (b++[⟨v,x⟩]) else []
theorem ZES (v:Tm) (vs:List Tm) (b:List Bd):ZdH g p t cs v vs b 0=[]:=by simp [ZdH]
theorem Zz9 (v:Tm) (vs:List Tm) (b:List Bd):ZdH g p t cs v vs b cs.length=tryL g p t cs (v::vs) b:=by simp [ZdH,tryL]
theorem ZAa {v x:Tm} {vs:List Tm} {b:List Bd} {i:Nat} (h:cs[i]?=some x) (hs:(sortsTm g x).testBit v.sort.toNat=true):ZdH g p t cs v vs b (i+1)=ZdH g p t cs v vs b i++tryL g p t cs vs (b++[⟨v,x⟩]):=by
 simp [ZdH,List.take_add_one,h,hs]
theorem ZCa {v x:Tm} {vs:List Tm} {b:List Bd} {i:Nat} (h:cs[i]?=some x) (hs:(sortsTm g x).testBit v.sort.toNat=false):ZdH g p t cs v vs b (i+1)=ZdH g p t cs v vs b i:=by
 simp [ZdH,List.take_add_one,h,hs]
theorem Zkd {α β:Type} {f:α->List β} {n:Nat}:∀ {l:List α},(∀ x∈l,(f x).length<=n)->(l.flatMap f).length<=l.length * n
 | [],_=>by simp
 | x::l,h=>by
  have:=Zkd (l:=l) fun y hy=>h y (Tal _ hy);have h1:=h x Tas;simp only [List.flatMap_cons,Tae,Tag,Nat.succ_mul];omega
theorem Zl2:∀ (vs:List Tm) (b:List Bd),(tryL g p t cs vs b).length<=cs.length ^ vs.length
 | [],b=>by
  simp only [tryL];split <;> simp
 | v::vs,b=>by
  simp only [tryL,Tag,Nat.pow_succ];rw [Nat.mul_comm];refine Zkd fun x _=>?_;split
  ·exact Zl2 vs _
  ·simp
open Classical in
noncomputable def chkB (g:Sgn) (p t:Tm) (b:List Bd):Option (List Bd):=if apT g b p=some t∧SbsOk g b then some b else none
theorem Zrs {b:List Bd} (h:apT g b p=some t∧SbsOk g b):chkB g p t b=some b:=if_pos h
theorem Zn9 {b:List Bd} (h:¬ (apT g b p=some t∧SbsOk g b)):chkB g p t b=none:=if_neg h
def ZbY (cs:List Tm) (ks:List Int):List Tm:=ks.map fun k=>cs.getD k.toNat zTm
theorem Zrt {ks:List Int} (h:Zcn cs.length ks):∀ x∈ZbY cs ks,x∈cs:=fun x hx=>by
 obtain ⟨k,hk,rfl⟩:=Tbi.1 hx;obtain ⟨h0,h1⟩:=h k hk;have hl:k.toNat < cs.length:=om;rw [List.getD_eq_getElem?_getD,Taa hl];exact List.getElem_mem hl
theorem Zu1:∀ {xs:List Tm},(∀ x∈xs,x∈cs)->∃ ks:List Int,ks.length=xs.length∧Zcn cs.length ks∧ZbY cs ks=xs
 | [],_=>⟨[],rfl,(by intro x hx;cases hx),rfl⟩
 | x::xs,h=>by
  obtain ⟨ks,h1,h2,h3⟩:=Zu1 (xs:=xs) fun y hy=>h y (Tal _ hy);obtain ⟨i,hi⟩:=Tbk (h x Tas);have hl:=(Tad.1 hi).1;refine ⟨(i:Int)::ks,by simp [h1],fun k hk=>?_,?_⟩
  ·rcases Tbg.1 hk with rfl | hk
   ·exact ⟨om,om⟩
   ·exact h2 k hk
  ·simp only [ZbY,Tbv,Tby,List.getD_eq_getElem?_getD,hi,Option.getD_some];rw [<- h3];rfl
theorem Zru (hn:cs.Pairwise (·≠·)):∀ {ks js:List Int},ks.length=js.length->Zcn cs.length ks->Zcn cs.length js->ZbY cs ks=ZbY cs js->ks=js
 | [],[],_,_,_,_=>rfl
 | k::ks,j::js,hl,h1,h2,h=>by
  simp only [ZbY,Tbv,List.cons.injEq] at h;have a:=h1 k Tas;have b:=h2 j Tas;obtain ⟨a0,a1⟩:=a;obtain ⟨b0,b1⟩:=b;have ha:k.toNat < cs.length:=om;have hb:j.toNat < cs.length:=om;have e:=h.1;simp only [List.getD_eq_getElem?_getD,Taa ha,Taa hb,Option.getD_some] at e;have hkj:k.toNat=j.toNat:=by
   rcases Nat.lt_trichotomy k.toNat j.toNat with q | q | q
   ·exact absurd e (List.pairwise_iff_getElem.1 hn _ _ ha hb q)
   ·exact q
   ·exact absurd e.symm (List.pairwise_iff_getElem.1 hn _ _ hb ha q)
  rw [show k=j by omega,Zru hn (by simpa using hl) (fun x hx=>h1 x (Tal _ hx)) (fun x hx=>h2 x (Tal _ hx)) h.2]
theorem Zoa {z:Int} (hz:1<=z):∀ (n:Nat) (k:Int),0<=k->k < z ^ n->numL z (digL z n k)=k
 | 0,k,h0,h1=>by
  simp only [Int.pow_zero] at h1;have:k=0:=om;subst this;rfl
 | n+1,k,h0,h1=>by
  have h2:k / z < z ^ n:=by
   rw [Int.pow_succ] at h1;exact Int.ediv_lt_of_lt_mul om h1
  simp only [digL,numL];rw [Zoa hz n (k / z) (Int.ediv_nonneg h0 om) h2];have:=Int.emod_add_mul_ediv k z;omega
noncomputable def enmL (g:Sgn) (p t:Tm) (cs vs:List Tm) (k:Nat):List (List Bd):=(List.range k).filterMap fun (j:Nat)=>chkB g p t (mkB vs (ZbY cs (digL cs.length vs.length (j:Int)).reverse))
theorem ZF7 (vs:List Tm):enmL g p t cs vs 0=[]:=rfl
theorem ZCb (vs:List Tm) (k:Nat):enmL g p t cs vs (k+1)=enmL g p t cs vs k++(chkB g p t (mkB vs (ZbY cs (digL cs.length vs.length (k:Int)).reverse))).toList:=by
 simp only [enmL,List.range_succ,List.filterMap_append];congr 1
theorem Zu2 {vs:List Tm} (hz:1<=(cs.length:Int)) {b:List Bd}:b∈enmL g p t cs vs (cs.length ^ vs.length) ↔ ∃ xs:List Tm,xs.length=vs.length∧(∀ x∈xs,x∈cs)∧b=mkB vs xs∧apT g b p=some t∧SbsOk g b:=by
 simp only [enmL,List.mem_filterMap,List.mem_range];constructor
 ·rintro ⟨j,hj,h⟩;refine ⟨ZbY cs (digL cs.length vs.length (j:Int)).reverse,by simp [ZbY,Zi0],Zrt fun x hx=>Zn8 hz _ _ x (List.mem_reverse.1 hx),?_⟩;unfold chkB at h;split at h
  ·rename_i h1;injection h with h
   subst h;exact ⟨rfl,h1⟩
  ·cases h
 ·rintro ⟨xs,h1,h2,h3,h4⟩;obtain ⟨ks,k1,k2,k3⟩:=Zu1 h2;have hr:Zcn cs.length ks.reverse:=fun x hx=>k2 x (List.mem_reverse.1 hx);obtain ⟨n1,n2⟩:=Zio hz hr;rw [List.length_reverse,k1,h1] at n2;have hd:=Zl1 hz hr;rw [List.length_reverse,k1,h1] at hd;refine ⟨(numL cs.length ks.reverse).toNat,?_,?_⟩
  ·have:((cs.length ^ vs.length:Nat):Int)=(cs.length:Int) ^ vs.length:=Int.natCast_pow ..;omega
  ·rw [Int.toNat_of_nonneg n1,hd,List.reverse_reverse,k3,<- h3];exact Zrs h4
theorem ZAb {vs:List Tm} (hz:1<=(cs.length:Int)) (hn:cs.Pairwise (·≠·)) {k:Nat} (hk:k<=cs.length ^ vs.length):(enmL g p t cs vs k).Pairwise (·≠·):=by
 unfold enmL;rw [List.pairwise_filterMap];have hb:∀ j b,chkB g p t (mkB vs (ZbY cs (digL cs.length vs.length (j:Int)).reverse))=some b->mkB vs (ZbY cs (digL cs.length vs.length (j:Int)).reverse)=b:=fun j b h=>by
  unfold chkB at h;split at h
  ·exact Option.some.inj h
  ·cases h
 have hpw:((cs.length ^ vs.length:Nat):Int)=(cs.length:Int) ^ vs.length:=Int.natCast_pow ..;refine List.Pairwise.imp_of_mem (R:=(· < ·)) ?_ List.pairwise_lt_range;intro i j hi hj hij b h1 b' h2 he;have e1:=hb _ _ h1;have e2:=hb _ _ h2;rw [<- e1,<- e2] at he;have hl:∀ q:Int,(ZbY cs (digL cs.length vs.length q).reverse).length=vs.length:=fun q=>by simp [ZbY,Zi0]
 have ha:∀ q:Int,Zcn cs.length (digL cs.length vs.length q).reverse:=fun q x hx=>Zn8 hz _ _ x (List.mem_reverse.1 hx);have he:=Zru hn (by simp [Zi0]) (ha _) (ha _) (ZuZ (hl _) (hl _) he);have he:=List.reverse_inj.1 he;have n1:=Zoa hz vs.length (i:Int) om (by have:=List.mem_range.1 hi;rw [<- hpw];omega);have n2:=Zoa hz vs.length (j:Int) om (by have:=List.mem_range.1 hj;rw [<- hpw];omega);rw [he,n2] at n1
 omega
theorem Zu3 {vs:List Tm} (k:Nat):(enmL g p t cs vs k).length<=k:=by
 refine Tbe (List.length_filterMap_le _ _) ?_;rw [List.length_range];exact Tai _
noncomputable def matL (g:Sgn) (p t:Tm) (cs vs:List Tm):List (List Bd):=if vs.length<=8 then colR lexB (tryL g p t cs vs []) [] else []
theorem ZCc {vs:List Tm} (ha:Asc vs) (hv:∀ v∈vs,Zcj g v) (hc:∀ x∈cs,TermOk g x) (hz:1<=(cs.length:Int)):colR lexB (enmL g p t cs vs (cs.length ^ vs.length)) []=matL g p t cs vs:=by
 unfold matL;split
 ·rename_i h8;refine ZBD ZhG fun b=>?_;rw [Zu2 hz,Zho];constructor
  ·rintro ⟨xs,h1,h2,h3,h4,h5⟩;refine ⟨xs,h1,h2,?_,by simpa using h3,h4⟩;rw [h3] at h5;exact ((Zu0 ha hv (fun x hx=>hc x (h2 x hx)) h1).1 h5).2
  ·rintro ⟨xs,h1,h2,h3,h4,h5⟩;have h4:b=mkB vs xs:=by simpa using h4
   refine ⟨xs,h1,h2,h4,h5,?_⟩;rw [h4];exact (Zu0 ha hv (fun x hx=>hc x (h2 x hx)) h1).2 ⟨h8,h3⟩
 ·rename_i h8;have:enmL g p t cs vs (cs.length ^ vs.length)=[]:=by
   refine List.eq_nil_iff_forall_not_mem.2 fun b hb=>?_;obtain ⟨xs,h1,h2,h3,h4,h5⟩:=(Zu2 hz).1 hb;have:=h5.len;rw [h3,Zip h1] at this;exact h8 this
  rw [this];rfl
end
section
variable {g:Sgn} {b:Nat}
def ZD5 (g:Sgn) (b:Nat) (w:World):Prop:=(∀ c,c=b->¬ e0.E c)∧∃ M,Memo g M∧MapL w b M
noncomputable def eM (g:Sgn) (b:Nat):Env:=e0.plus (fun c=>c=b) (ZD5 g b)
theorem eMP:∀ (g:Sgn) (b:Nat),(eM g b).P=Tryz.prog:=fun _ _=>rfl
theorem Zdj:Fits e0 (fun c=>c=b) (ZD5 g b):=⟨fun w w' hz hE ⟨h1,M,h2,h3⟩=>⟨h1,M,h2,MapL.stable b M w w' hz hE h3⟩,fun w h=>h.1⟩
theorem ZF8:(eM g b).Ok:=Zdj.ok Zvu
theorem Con.m {f:FuncId} {args r:List D} (h:Con e0 f args r):Con (eM g b) f args r:=Con.up Zdj h
theorem ConE.m {f:FuncId} {args:List D} {R:List D->Prop} (h:ConE e0 f args R):ConE (eM g b) f args R:=ConE.up Zdj h
theorem ConR.m {f:FuncId} {args:List D} {ty sz:Nat} {rows:List (List C)} (h:ConR e0 f args ty sz rows):ConR (eM g b) f args ty sz rows:=ConR.up Zdj h
theorem ConI.m {f:FuncId} {ty sz:Nat} {rows rows':List (List C)} {args r:List D} (h:ConI e0 f ty sz rows args rows' r):ConI (eM g b) f ty sz rows args rows' r:=ConI.up Zdj h
theorem ConT.m {f:FuncId} {ty sz:Nat} {rows rows':List (List C)} {args:List D} (h:ConT e0 f ty sz rows args rows'):ConT (eM g b) f ty sz rows args rows':=ConT.up Zdj h
theorem ConP.m {f:FuncId} {args:List D} {pm:List Bk} {R:List D->List Bk->Prop} (h:ConP e0 f args pm R):ConP (eM g b) f args pm R:=ConP.up Zdj h
theorem ConP.imp {e:Env} {f:FuncId} {args:List D} {pm:List Bk} {R R':List D->List Bk->Prop} (h:ConP e f args pm R) (hR:∀ r pm,R r pm->R' r pm):ConP e f args pm R' :=
 ⟨h.1,fun w S vs hS hE hG hpm hap hvs=>(h.2 w S vs hS hE hG hpm hap hvs).mono fun en w' ⟨v,r,pm',h1,hr,hk⟩=>⟨v,r,pm',h1,hR r pm' hr,hk⟩⟩
theorem Znj (hg:SgnOk g) {t:Tm} (hs:sizeTm t<=60) (hf:ZaF g t):Con (eM g b) 82 [.one (.ptr (encX g (.lit (.map (some b))))),.agg (Zac t)] [.one (.lit (.int .i64 (sortsTm g t:Nat)))] :=
 ZCd (ι:=List (ByteArray × Value)) (G:=fun M w=>MapL w b M) (ok:=Memo g) Zdj (MapL.stable b) (fun w h=>h.2) (fun w M h1 h2 h3=>⟨h1,M,h2,h3⟩) (Zkc hg b _ (Tan _) hs hf [] Memo.nil).1
  fun M hM=>(Zkc hg b _ (Tan _) hs hf M hM).imp fun r pm ⟨M',h1,h2,h3,_⟩=>⟨h1,M',h3,h2⟩
theorem pM {mask:Nat} {c:Code} {s:List (Nat × A)} {m m2:List (Nat × Bk)} {Q:PX->St->Prop} (g:Sgn) (b k:Nat) (hK:pwp (eM g b) mask c ⟨s,m2⟩ Q) (hm:gm m k=some (mapB b []):=by exact snx) (hr:remM k m=m2:=by exact snv):pwp e0 mask c ⟨s,m⟩ Q:=by
 subst hr;exact ZET k Zdj.st hm (fun hd=>⟨Zdj,fun w h=>⟨hd,[],Memo.nil,h⟩⟩) fun _=>hK
theorem Zu4 (a k:Nat):(a &&& 2 ^ k=0) ↔ a.testBit k=false:=by
 constructor
 ·intro h;have:=congrArg (fun x=>x.testBit k) h;simpa [Nat.testBit_and,Nat.testBit_two_pow] using this
 ·intro h;refine Nat.eq_of_testBit_eq fun i=>?_;rw [Nat.testBit_and,Nat.testBit_two_pow,Nat.zero_testBit];by_cases e:k=i
  ·subst e;rw [h];rfl
  ·simp [e]
theorem tmM:type_of% (aj3 @tmz @eMP @Za4):=aj3 @tmz @eMP @Za4
end
section
variable {g:Sgn} {l:List Bd} {b:Nat}
theorem ZAc (hg:SgnOk g) (hl:Zdq l) (ht:∀ y∈l,sizeTm y.to<=big):Con (eM g b) 35 [.one (.ptr (encX g (.lit (.map (some b))))),.one (.sl (Zat l))] [.one (.lit (.bool (Zft g l)))]:=by
 have heM:=ZF8 (g:=g) (b:=b);have bl:=Zcl l;have bg:=ZdA l;have hV:=fun y (hy:y∈l)=>(Zif (mc:=.lit (.map (some b))) hg (t:=y.var) (by have:=(hl y hy).1;revert this;cases y.var;simp only [okTm,Tm.name];exact fun h=>h.2.1)).m (g:=g) (b:=b);have hT:=fun y (hy:y∈l)=>(ZhT (mc:=.lit (.map (some b))) hg (hl y hy).2 (ht y hy)).m (g:=g) (b:=b);have hC:=fun y z (hy:y∈l) (hz:z∈l)=>(Zlh (hl y hy).1 (hl z hz).1).m (g:=g) (b:=b)
 have bb:ZaC 8 (Zat l)=true:=by
  refine List.all_eq_true.2 fun r hr=>?_;obtain ⟨y,hy,rfl⟩:=Tbi.1 hr;simp [Za8,List.all_append,tmz]
 by_cases h8:l.length<=8;rotate_left
 ·have q1:=lT 8 l.length;have hf:Zft g l=false:=Zlw fun h=>h8 h.len;rw [hf];refine gI (ts:=[.slot 4]) 72057594037943923 Tryz.func35 ?_;exact fD (aj3 @q1 @bl @tmM)
 have q1:=lF 8 l.length;refine gI (ts:=[.slot 4]) 72057594037943923 Tryz.func35 ?_;refine fG (aj3 @q1 @bl @tmM) ?_;have F:=@tmM;refine gL (ι:=Nat) [4,5,6,12,13,56] [] (fun i=>[(12,A.d (.one (.lit (.int .i64 i))))]) (fun i=>[]) (fun i=>i<=l.length∧∀ (j:Nat) y,j < i->l[j]?=some y->SbsAt g l j y) (fun i=>l.length - i) (0) (⟨Taj _,fun j y h=>absurd h om⟩) (fun i hi=>?_);clear F;obtain ⟨hi,hall⟩:=hi;by_cases hil:i < l.length
 rotate_left
 ·obtain rfl:i=l.length:=by omega
  have q2:=lF l.length l.length;have hf:Zft g l=true:=Zm8 ⟨h8,fun j y hj=>hall j y (Tad.1 hj).1 hj⟩;rw [hf];exact fD (aj3 @q2 @bl @tmM)
 have q2:=lT i l.length;obtain ⟨y,hy⟩:∃ y,l[i]?=some y:=⟨_,Taa hil⟩;have hym:=Tac hy;have hbad:¬ SbsAt g l i y->Zft g l=false:=fun h=>Zlw fun h'=>h (h'.at' i y hy);have cV:=hV y hym;refine fN 6 (aj8 @q2 @bl @bb @bg @hy @bdz @Zap @tmM) ?_;refine gB ?_;refine fC (ai @bdz @tmM) (cV) ?_;by_cases hvo:Zcj g y.var;rotate_left
 ·have hVf:Zfr g y.var=false:=by simp [Zfr,hvo]
  have hf:=hbad fun h=>hvo h.var;rw [hVf,hf];refine fR (ai @bdz @tmM) ?_;exact fD @tmM
 have hVt:Zfr g y.var=true:=by simp [Zfr,hvo]
 rw [hVt];obtain ⟨k,hk⟩:∃ k:Nat,y.var.sort=k:=⟨y.var.sort.toNat,by have:=hvo.2.2.1;omega⟩;have hk8:k < 8:=by have:=hvo.2.2.2.1;have:=hg.sorts.n8;omega
 have hkt:y.var.sort.toNat=k:=om;have hsh:=Zfq (k:=k) om;have hwi:=Zau (k:=i) om;have cT:=hT y hym;have hnext:TermOk g y.to->(sortsTm g y.to).testBit k=true->(∀ (j:Nat) p,i=j+1->l[j]?=some p->Zai p.var y.var < 0)->i+1<=l.length∧∀ (j:Nat) z,j < i+1->l[j]?=some z->SbsAt g l j z:=fun b1 b2 ho=>⟨hil,fun j z h1 h2=>by
  by_cases e:j=i
  ·subst e;rw [hy] at h2;injection h2 with h2
   subst h2;exact ⟨hvo,ho,b1,by rw [hkt];exact b2⟩
  ·exact hall j z om h2⟩
 by_cases hi0:i=0
 ·subst hi0;have q4:=lF 0 (0:Nat);have hord:∀ (j:Nat) p,0=j+1->l[j]?=some p->Zai p.var y.var < 0:=fun j p h=>absurd h om;refine fC (aj4 @q4 @bdz @Zap @tmM) (cT) ?_
  cases hb:ZdD g y.to with
  | false =>
   have hf:=hbad fun h=>by rw [Zej h.to'] at hb;cases hb
   rw [hf];refine fR (ai @bdz @tmM) ?_;exact fD @tmM
  | true =>
  have hto:=Zm0.1 hb;have hso:=ZbS (ZeP hg hto.form.node) hg.sorts.n8;have hba:=Zea hso (show 2 ^ k < 4611686018427387904 from Tbd (Nat.pow_lt_pow_right om hk8) (by decide));have hbp:=Zu4 (sortsTm g y.to) k;have cO:=Znj (b:=b) hg hto.size hto.form;refine fC (ai @bdz @tmM) (cO) ?_
  cases hbt:(sortsTm g y.to).testBit k with
  | false =>
   have q6:(((sortsTm g y.to &&& 2 ^ k:Nat):Int)=0)=True:=eq_true (by rw [hbp.2 hbt];rfl);have hf:=hbad fun h=>by rw [<- hkt,h.srt] at hbt;cases hbt
   rw [hf];generalize 2 ^ k=K at *;refine fR (aj6 @hk @hsh @hba @q6 @bdz @tmM) ?_;exact fD @tmM
  | true =>
   have q6:(((sortsTm g y.to &&& 2 ^ k:Nat):Int)=0)=False:=eq_false (fun h=>by rw [hbp.1 om] at hbt;cases hbt);have hn2:=hnext hto hbt hord;generalize 2 ^ k=K at *;refine fR (aj6 @hk @hsh @hba @q6 @bdz @tmM) ?_;have F:=aj3 @hwi @bdz @tmM;refine gG ?_;exact ⟨0+1,hn2,gw,gw,om⟩
 obtain ⟨j,rfl⟩:∃ j,i=j+1:=⟨i - 1,om⟩;have q4:=lT 0 (j+1:Nat);obtain ⟨p,hp⟩:∃ p,l[j]?=some p:=⟨_,Taa om⟩;have cC:=hC p y (Tac hp) hym;have wj:IntKind.i64.wrap (((j+1:Nat):Int) - 1)=(j:Int):=ZaM om om om;have i1:(j < l.length)=True:=eq_true om;refine fC (aj10 @q4 @wj @i1 @bl @bb @bg @hp @bdz @Zap @tmM) (cC) ?_;by_cases hcm:Zai p.var y.var < 0;rotate_left
 ·have q5:((0:Int)<=Zai p.var y.var)=True:=eq_true om;have hf:=hbad fun h=>hcm (h.ord j p rfl hp);rw [hf];refine fR (aj3 @q5 @bdz @tmM) ?_;exact fD @tmM
 have q5:((0:Int)<=Zai p.var y.var)=False:=eq_false om;have hord:∀ (j':Nat) p',j+1=j'+1->l[j']?=some p'->Zai p'.var y.var < 0:=fun j' p' h h1=>by
  obtain rfl:j=j':=by omega
  rw [hp] at h1;injection h1 with h1
  subst h1;exact hcm
 refine fC (aj4 @q5 @bdz @Zap @tmM) (cT) ?_
 cases hb:ZdD g y.to with
 | false =>
  have hf:=hbad fun h=>by rw [Zej h.to'] at hb;cases hb
  rw [hf];refine fR (ai @bdz @tmM) ?_;exact fD @tmM
 | true =>
 have hto:=Zm0.1 hb;have hso:=ZbS (ZeP hg hto.form.node) hg.sorts.n8;have hba:=Zea hso (show 2 ^ k < 4611686018427387904 from Tbd (Nat.pow_lt_pow_right om hk8) (by decide));have hbp:=Zu4 (sortsTm g y.to) k;have cO:=Znj (b:=b) hg hto.size hto.form;refine fC (ai @bdz @tmM) (cO) ?_
 cases hbt:(sortsTm g y.to).testBit k with
 | false =>
  have q6:(((sortsTm g y.to &&& 2 ^ k:Nat):Int)=0)=True:=eq_true (by rw [hbp.2 hbt];rfl);have hf:=hbad fun h=>by rw [<- hkt,h.srt] at hbt;cases hbt
  rw [hf];generalize 2 ^ k=K at *;refine fR (aj6 @hk @hsh @hba @q6 @bdz @tmM) ?_;exact fD @tmM
 | true =>
  have q6:(((sortsTm g y.to &&& 2 ^ k:Nat):Int)=0)=False:=eq_false (fun h=>by rw [hbp.1 om] at hbt;cases hbt);have hn2:=hnext hto hbt hord;generalize 2 ^ k=K at *;refine fR (aj6 @hk @hsh @hba @q6 @bdz @tmM) ?_;have F:=aj3 @hwi @bdz @tmM;refine gG ?_;exact ⟨j+1+1,hn2,gw,gw,om⟩
end
section
variable {g:Sgn} {l:List Bd}
theorem Zu5 {t:Tm} (h:TermOk g t):bulkRow (Zac t)<=1048576:=by
 have h1:=ZeB h.form;have h2:=h.size;omega
theorem ZAd:Zft g l=true ↔ SbsOk g l:=by simp [Zft]
end
structure TwoU where
 a0:Value
 a1:Value
 a2:Value
 a3:Value
 b0:Value
 b1:Value
 b2:Value
 b3:Value
 E:Nat->Prop
 F:Nat->Prop
def TwoU.z:TwoU:=⟨.bool true,.bool true,.bool true,.bool true,.bool true,.bool true,.bool true,.bool true,fun _=>False,fun _=>False⟩
abbrev TwoU.okA (x:TwoU):Prop:=Zas (.lit x.a0)=true∧Zas (.lit x.a1)=true∧Zas (.lit x.a2)=true∧Zas (.lit x.a3)=true
abbrev TwoU.okB (x:TwoU):Prop:=Zas (.lit x.b0)=true∧Zas (.lit x.b1)=true∧Zas (.lit x.b2)=true∧Zas (.lit x.b3)=true
def TwoU.ok (i:Nat) (x:TwoU):Prop:=(i=3∨7<=i∧i<=10->x.okA)∧(6<=i∧i<=10->x.okB)
section
variable {g:Sgn}
theorem ZAh {l:List Bd} (hl:Zdq l) (hn:l.length<=1000) {y:Bd} (hy:okBd y):Con e0 63 [.one (.sl (Zat l)),.agg (Zac y.var),.agg (Zac y.to)] [.one (.sl (Zat (putB l y)))]:=by
 have bl:=Zcl l;have bg:=ZdA l;have bb:=bds8 l;have hbd:Zac y.var++Zac y.to=Za8 y:=rfl;have h7:∀ (c0 c1 c2 c3:C),List.take 4 (Zac y.var++[c0,c1,c2,c3])++(Zac y.to++List.drop 8 (Zac y.var++[c0,c1,c2,c3]))=Za8 y:=fun c0 c1 c2 c3=>by
  obtain ⟨⟨o,n,s,a⟩,t⟩:=y;simp [Zac,Za8]
 refine gI (ts:=[.slot 6]) 4194807 Tryz.func63 ?_;refine fN 1 (ai @bl @tmz) ?_;refine gB ?_;refine fR @tmz ?_
 with_reducible refine ZdK ?_
 refine gM (ι:=Nat) [7,22] [] (fun i=>[(7,A.d (.one (.lit (.int .i64 i))))]) (fun i=>[]) (fun i=>i<=l.length∧putB l y=l.take i++y::l.drop i) ?_ (fun i hi=>Exists.intro _ (ai (Wk.refl _) ?_))
 ·refine fG @tmz ?_;have F:=@tmz;refine gL (ι:=Nat) [7,22] [] (fun i=>[(7,A.d (.one (.lit (.int .i64 i))))]) (fun i=>[]) (fun i=>i<=l.length∧∀ (j:Nat) x,j < i->l[j]?=some x->Zai x.var y.var < 0) (fun i=>l.length - i) (0) (⟨Taj _,fun j x h=>absurd h om⟩) (fun i hi=>?_);clear F;obtain ⟨hi,hall⟩:=hi;have stop:(∀ x,l[i]?=some x->¬ Zai x.var y.var < 0)->i<=l.length∧putB l y=l.take i++y::l.drop i:=fun h=>⟨hi,Zu6 hi hall h⟩
  refine fN 2 @tmz ?_;by_cases hil:i < l.length;rotate_left
  ·have q2:=lF i l.length;have hst:=stop fun x hx=>by rw [List.getElem?_eq_none om] at hx;cases hx
   have F:=aj3 @q2 @bl @tmz;refine gG ?_;exact ⟨i,hst,gw,gw⟩
  have q2:=lT i l.length;obtain ⟨x,hx⟩:∃ x,l[i]?=some x:=⟨_,Taa hil⟩;have cC:=ZdL (hl x (Tac hx)).1 hy.1;have hwi:=Zau (k:=i) om;refine gB ?_;refine fC (aj8 @q2 @bl @bb @bg @hx @bdz @Zap @tmz) (cC) ?_;by_cases hc:Zai x.var y.var < 0
  ·have q3:(Zai x.var y.var < 0)=True:=eq_true hc;have hnx:i+1<=l.length∧∀ (j:Nat) z,j < i+1->l[j]?=some z->Zai z.var y.var < 0:=⟨hil,fun j z hj hz=>by
    by_cases e:j=i
    ·subst e;rw [hx] at hz;injection hz with hz;subst hz;exact hc
    ·exact hall j z om hz⟩
   refine fR (ai @q3 @tmz) ?_;have F:=ai @hwi @tmz;refine gG ?_;exact ⟨i+1,hnx,gw,gw,om⟩
  ·have q3:(Zai x.var y.var < 0)=False:=eq_false hc;have hst:=stop fun z hz=>by rw [hx] at hz;injection hz with hz;subst hz;exact hc
   refine fR (ai @q3 @tmz) ?_;have F:=@tmz;refine gG ?_;exact ⟨i,hst,gw,gw⟩
 obtain ⟨hi,hput⟩:=hi;have s1:((i:Int)<=(l.length:Int))=True:=eq_true om;have s2:List.take i (Zat l)=Zat (l.take i):=by simp [Zat]
 have s3:List.drop i (Zat l)=Zat (l.drop i):=by simp [Zat]
 have s4:List.take l.length (Zat l)=Zat l:=by rw [<- bl,Tap]
 have l6:((l.take i).length+1+(l.drop i).length<=maxApp)=True:=eq_true (by simp only [Taw,Tax];unfold maxApp;omega);have l7:Zat (l.take i++[y])++Zat (l.drop i)=Zat (putB l y):=by rw [hput];simp [Zat]
 have l1:∀ l:List Bd,ZaC 8 (Zat l)=true:=fun l=>bds8 l;have l2:((l.take i).length<=maxApp)=True:=eq_true (by rw [Taw];unfold maxApp;omega);have l3:=Zcl;have l4:((l.take i).length+1<=maxApp)=True:=eq_true (by rw [Taw];unfold maxApp;omega);have l5:Zat (l.take i)++[Za8 y]=Zat (l.take i++[y]):=by simp [Zat]
 refine fN 4 @tmz ?_
 /- gk l9put -/
 refine gGk [(0,.d (.one (.sl (Zat l)))),(4,.ref 4 0),(5,.ref 5 0),(6,.buf 6),(7,.d (.one (.lit (.int .i64 (i:Int)))))] [(4,.var none (Zac y.var)),(5,.var none (Zac y.to)),(6,.buf none 74 8 [])] [([(25,.d (.clip []))],[]),([(26,.d (.one (.sl (Zat l))))],[]),([(27,.d (.one (.lit (.int .i64 (i:Int)))))],[]),([(28,.d (.one (.sl (Zat (l.take i)))))],[]),([(29,.buf 29)],[(29,.buf none 74 8 (Zat (l.take i)))]),([(30,.d (.agg (Zac y.var)))],[]),([(31,.d (.agg (Zac y.to)))],[]),([(32,.d (.agg (Za8 y)))],[]),([(33,.d (.clip [Za8 y]))],[]),([(34,.buf 34)],[(34,.buf none 74 8 (Zat (l.take i++[y])))]),([(8,.buf 8)],[(8,.buf none 74 8 (Zat (l.take i++[y])))])] (fun j=>([(4,9),(9,10)]:List (Nat × Nat)).lookup j) [] (⟨by simp [gs],by simp [gm]⟩) (fun j hj=>by simp at hj) ⟨?_,?_,?_,?_,?_,?_,?_,?_,?_,?_,?_,trivial⟩ ?_
 ·intro s' m' hB hD hI hJ;have F:=(Za6.1 hB);simp only [lkS,lkM,List.getD_cons_zero,List.getD_cons_succ,and_true,true_and] at F;have F:=ai F (tmz);refine gO3 ?_;exact kS hB (ZbN.2 (by simp [lkS,lkM,gs,gm]))
 ·intro s' m' hB hD hI hJ;have F:=(Za6.1 hB);simp only [lkS,lkM,List.getD_cons_zero,List.getD_cons_succ,and_true,true_and] at F;have F:=ai F (tmz);refine gO3 ?_;exact kS hB (ZbN.2 (by simp [lkS,lkM,gs,gm]))
 ·intro s' m' hB hD hI hJ;have F:=(Za6.1 hB);simp only [lkS,lkM,List.getD_cons_zero,List.getD_cons_succ,and_true,true_and] at F;have F:=ai F (tmz);refine gO3 ?_;exact kS hB (ZbN.2 (by simp [lkS,lkM,gs,gm]))
 ·intro s' m' hB hD hI hJ;have F:=aj3 (Za6.1 hB) (ZbN.1 (hD 1 (by decide) (.inl rfl))) (ZbN.1 (hD 2 (by decide) (.inl rfl)));simp only [lkS,lkM,List.getD_cons_zero,List.getD_cons_succ,and_true,true_and] at F;have F:=aj6 F bl bb s1 s2 tmz;refine gO3 ?_;exact kS hB (ZbN.2 (by simp [lkS,lkM,gs,gm]))
 ·intro s' m' hB hD hI hJ;have F:=aj3 (Za6.1 hB) (ZbN.1 (hD 0 (by decide) (.inl rfl))) (ZbN.1 (hD 3 (by decide) (.inl rfl)));simp only [lkS,lkM,List.getD_cons_zero,List.getD_cons_succ,and_true,true_and] at F;have F:=aj5 F l1 l2 l3 tmz;refine gO3 ?_;exact kB hB (ZbN.2 (by simp [lkS,lkM,gs,gm]))
 ·intro s' m' hB hD hI hJ;have F:=(Za6.1 hB);simp only [lkS,lkM,List.getD_cons_zero,List.getD_cons_succ,and_true,true_and] at F;have F:=ai F (tmz);refine gO3 ?_;exact kS hB (ZbN.2 (by simp [lkS,lkM,gs,gm]))
 ·intro s' m' hB hD hI hJ;have F:=(Za6.1 hB);simp only [lkS,lkM,List.getD_cons_zero,List.getD_cons_succ,and_true,true_and] at F;have F:=ai F (tmz);refine gO3 ?_;exact kS hB (ZbN.2 (by simp [lkS,lkM,gs,gm]))
 ·intro s' m' hB hD hI hJ;have F:=aj3 (Za6.1 hB) (ZbN.1 (hD 5 (by decide) (.inl rfl))) (ZbN.1 (hD 6 (by decide) (.inl rfl)));simp only [lkS,lkM,List.getD_cons_zero,List.getD_cons_succ,and_true,true_and] at F;have F:=aj3 F hbd tmz;refine gO3 ?_;exact kS hB (ZbN.2 (by simp [lkS,lkM,gs,gm,h7]))
 ·intro s' m' hB hD hI hJ;have F:=ai (Za6.1 hB) (ZbN.1 (hD 7 (by decide) (.inl rfl)));simp only [lkS,lkM,List.getD_cons_zero,List.getD_cons_succ,and_true,true_and] at F;have F:=aj3 F bdz tmz;refine gO3 ?_;exact kS hB (ZbN.2 (by simp [lkS,lkM,gs,gm]))
 ·intro s' m' hB hD hI hJ;have F:=aj3 (Za6.1 hB) (ZbN.1 (hD 4 (by decide) (.inr rfl))) (ZbN.1 (hD 8 (by decide) (.inl rfl)));simp only [lkS,lkM,List.getD_cons_zero,List.getD_cons_succ,and_true,true_and] at F;have F:=aj7 F l1 l3 l4 l5 bdz tmz;refine gO3 ?_;exact kE hB (ZbN.2 (by simp [lkS,lkM,gs,gm]))
 ·intro s' m' hB hD hI hJ;have F:=ai (Za6.1 hB) (ZbN.1 (hD 9 (by decide) (.inr rfl)));simp only [lkS,lkM,List.getD_cons_zero,List.getD_cons_succ,and_true,true_and] at F;have F:=ai F (tmz);refine gO3 ?_;exact kE hB (ZbN.2 (by simp [lkS,lkM,gs,gm]))
 intro s' m' hB hP;refine ⟨_,_,hB.app (hP 10 (.inl (by decide)) (fun k h=>by simp [List.lookup] at h)),?_⟩;simp only [Taf,Tah,List.append_nil,List.getD_cons_zero,List.getD_cons_succ]
 /- gk end l9put -/
 refine ⟨_,Wk.refl _,?_⟩;have s5:((l.length:Int)<=(l.length:Int))=True:=eq_true om;have F:=aj10 @s1 @s3 @s4 @s5 @l1 @l3 @l6 @l7 @Zap @tmz;refine gG ?_;exact gTz [6]
end
theorem bz3:type_of% (aj4 Zcl bds8 ZdA bdz):=aj4 Zcl bds8 ZdA bdz
theorem ZAi (a b:Bd):Con e1 86 [.agg (Za8 a),.agg (Za8 b)] [.one (.lit (.int .i64 (Zd9 a b)))]:=by
 have hor:=ZmG [Zai a.var b.var,Zai a.to b.to] (by simp);simp only [Tbv,List.map_nil] at hor;rw [show Zd9 a b=ZaN [Zai a.var b.var,Zai a.to b.to] from rfl];refine gI (ts:=[.slot 4]) 31 Tryz.func86 ?_;refine fB (ai @bdz @tmz) ?_;refine fC (ai @bdz @tmz) (Zd8 a.var b.var) ?_;refine fC (ai @bdz @tmz) (Zd8 a.to b.to) ?_;refine fC (ai @bdz @tmz) (hor) ?_;refine fR (ai @bdz @tmz) ?_;exact fD @tmz
theorem Zpa {b:List Bd} {k:Nat} {xs:List Bd} (h:xs.length<=k):lexB (xs.drop k) b=if b=[] then 0 else -1:=by
 rw [List.drop_eq_nil_of_le h]
 cases b <;> simp [lexB]
theorem Zpb {a:Bd} {k:Nat} {xs bs:List Bd} (ha:xs[k]?=some a) (h:bs.length<=k):lexB (xs.drop k) (bs.drop k)=1:=by
 obtain ⟨hl,hx⟩:=Tad.1 ha;rw [List.drop_eq_nil_of_le h,List.drop_eq_getElem_cons hl];simp [lexB]
theorem Znm (xs bs:List Bd) (hla:xs.length<=maxLen) (hlb:bs.length<=maxLen):Con e1 85 [.one (.sl (Zat xs)),.one (.sl (Zat bs)),.one (.fn 86 [])] [.one (.lit (.int .i64 (lexB xs bs)))]:=by
 unfold maxLen at hla hlb;refine gI (ts:=[.slot 6]) 277027520455 Tryz.func85 ?_;refine fG (ai @bz3 @tmz) ?_;have F:=ai @bz3 @tmz;refine gL (ι:=Nat) [6,7,8,9,10,13,14,21,31] [] (fun x=>[(13,.d (.one (.lit (.int .i64 (x:Int)))))]) (fun x=>[]) (fun x=>x<=xs.length∧x<=bs.length∧lexB xs bs=lexB (xs.drop x) (bs.drop x)) (fun x=>xs.length - x) (0) (⟨Taj _,Taj _,rfl⟩) (fun x hx=>?_);clear F;obtain ⟨hi,hj,hf⟩:=hx
 rw [hf];clear hf;by_cases hlt:x < xs.length
 ·obtain ⟨a,ha⟩:∃ n,xs[x]?=some n:=⟨_,Taa hlt⟩;have q1:=lT x xs.length;by_cases hlt2:x < bs.length
  ·obtain ⟨b,hb⟩:∃ n,bs[x]?=some n:=⟨_,Taa hlt2⟩;have q2:((x:Int) ≥ (bs.length:Int))=False:=eq_false om;have q4:IntKind.i64.wrap ((x:Int)+1)=(x:Int)+1:=IntWalk.i64_in _ om;rw [ZoD ha hb];simp only [ZaN];refine fB (aj6 @q1 @q2 @bz3 @tmz @ha @hb) ?_;refine fC (ai @bz3 @tmz) (ZAi a b) ?_;refine fR (ai @bz3 @tmz) ?_;by_cases h0:Zd9 a b=0
   ·have q3:(Zd9 a b=0)=True:=eq_true h0;rw [if_pos h0,show (if lexB (xs.drop (x+1)) (bs.drop (x+1))=0 then (0:Int) else lexB (xs.drop (x+1)) (bs.drop (x+1)))=lexB (xs.drop (x+1)) (bs.drop (x+1)) by split <;> simp_all];refine fG (aj3 @bz3 @tmz @q3) ?_;have F:=@q4;refine gG ?_;exact ⟨x+1,⟨hlt,hlt2,rfl⟩,gw,gw,om⟩
   ·have q3:(Zd9 a b=0)=False:=eq_false h0;rw [if_neg h0];exact fD (aj3 @bz3 @tmz @q3)
  ·have q2:((x:Int) ≥ (bs.length:Int))=True:=eq_true om;rw [Zpb ha om];exact fD (aj5 @q1 @q2 @bz3 @tmz @ha)
 ·have q1:=lF x xs.length;rw [Zpa om];by_cases h2:xs.length < bs.length
  ·have q2:=lT xs.length bs.length;rw [if_neg (by intro e;have:=congrArg List.length e;simp at this;omega)];exact fD (aj4 @q1 @q2 @bz3 @tmz)
  ·have q2:=lF xs.length bs.length;rw [if_pos (by apply List.drop_eq_nil_of_le;omega)];exact fD (aj4 @q1 @q2 @bz3 @tmz)
theorem Zry (xs bs:List Bd):Con e1 85 [.one (.sl (Zat xs)),.one (.sl (Zat bs)),.one (.fn 86 [])] [.one (.lit (.int .i64 (lexB xs bs)))]:=by
 refine ZqI (φ:=xs.length<=maxLen∧bs.length<=maxLen) (by kernel_rfl) (fun w S vs hv=>?_) fun hφ=>Znm xs bs hφ.1 hφ.2
 match vs,hv with
 | [x,y,z],hv =>
  have h1:=ZkE hv.1;have h2:=ZkE hv.2.1;rw [Zcl] at h1 h2;exact ⟨h1,h2⟩
theorem Zv8 (xs bs:List Bd):Con e1 37 [.one (.sl (Zat xs)),.one (.sl (Zat bs))] [.one (.lit (.int .i64 (lexB xs bs)))]:=by
 refine gI (ts:=[.slot 4]) 19 Tryz.func37 ?_;refine fB (ai @bz3 @tmz) ?_;refine fC (ai @bz3 @tmz) (Zry xs bs) ?_;refine fR (ai @bz3 @tmz) ?_;exact fD (ai @bz3 @tmz)
theorem ZpB {xs bs:List Bd} (hx:Zdq xs) (hb:Zdq bs) (hlx:xs.length<=1000) (hlb:bs.length<=1000):Con e0 112 [.one (.sl (Zat xs)),.one (.sl (Zat bs))] [.one (.lit (.int .i64 (lexB xs bs)))]:=by
 refine gI (ts:=[.slot 4]) 37172291259400307 Tryz.func112 ?_;refine fG (ai @bz3 @tmz) ?_;have F:=ai @bz3 @tmz;refine gL (ι:=Nat) [4,5,6,16,31,44] [] (fun x=>[(5,.d (.one (.lit (.int .i64 (x:Int)))))]) (fun x=>[]) (fun x=>x<=xs.length∧x<=bs.length∧lexB xs bs=lexB (xs.drop x) (bs.drop x)) (fun x=>xs.length - x) (0) (⟨Taj _,Taj _,rfl⟩) (fun x hx=>?_);clear F;obtain ⟨hi,hj,hf⟩:=hx;rw [hf];clear hf;by_cases hlt:x < xs.length
 ·obtain ⟨a,ha⟩:∃ n,xs[x]?=some n:=⟨_,Taa hlt⟩;have q1:=lT x xs.length;by_cases hlt2:x < bs.length
  ·obtain ⟨b,hb'⟩:∃ n,bs[x]?=some n:=⟨_,Taa hlt2⟩;have q2:=lT x bs.length;have q4:IntKind.i64.wrap ((x:Int)+1)=(x:Int)+1:=IntWalk.i64_in _ om;have oa:=hx a (Tac ha);have ob:=hb b (Tac hb');have c1:=ZdL oa.1 ob.1;have c2:=ZdL oa.2 ob.2;have e:lexB (xs.drop x) (bs.drop x)=if Zai a.var b.var=0 then (if Zai a.to b.to=0 then lexB (xs.drop (x+1)) (bs.drop (x+1)) else Zai a.to b.to) else Zai a.var b.var:=by
    rw [ZoD ha hb'];simp only [Zd9,Zib];split <;> simp_all
   rw [e];refine fN 4 (aj4 @q1 @q2 @bz3 @tmz) ?_;refine gB ?_;refine fC (aj4 @ha @hb' @bz3 @tmz) (c1) ?_;by_cases h0:Zai a.var b.var=0
   ·have q3:(Zai a.var b.var=0)=True:=eq_true h0;rw [if_pos h0];refine fR (ai @q3 @tmz) ?_;refine fN 6 (ai @q3 @tmz) ?_;refine gB ?_;refine fC (aj4 @ha @hb' @bz3 @tmz) (c2) ?_;by_cases h1:Zai a.to b.to=0
    ·have q5:(Zai a.to b.to=0)=True:=eq_true h1;rw [if_pos h1];refine fR (ai @q5 @tmz) ?_;have F:=aj3 @q5 @q4 @tmz;refine gG ?_;exact ⟨x+1,⟨hlt,hlt2,rfl⟩,gw,gw,om⟩
    ·have q5:(Zai a.to b.to=0)=False:=eq_false h1;rw [if_neg h1];refine fR (ai @q5 @tmz) ?_;exact fD (ai @q5 @tmz)
   ·have q3:(Zai a.var b.var=0)=False:=eq_false h0;rw [if_neg h0];refine fR (ai @q3 @tmz) ?_;exact fD (ai @q3 @tmz)
  ·have q2:=lF x bs.length;have q3:=lF xs.length bs.length;have q4:=lT bs.length xs.length;rw [Zpb ha om];exact fD (aj7 @q1 @q2 @q3 @q4 @bz3 @tmz @ha)
 ·have q1:=lF x xs.length;rw [Zpa om];by_cases h2:xs.length < bs.length
  ·have q2:=lT xs.length bs.length;rw [if_neg (by intro e;have:=congrArg List.length e;simp at this;omega)];exact fD (aj4 @q1 @q2 @bz3 @tmz)
  ·have q2:=lF xs.length bs.length;have q3:=lF bs.length xs.length;rw [if_pos (by apply List.drop_eq_nil_of_le;omega)];exact fD (aj5 @q1 @q2 @q3 @bz3 @tmz)
def Zay (l:List (List Bd)):List (List C):=l.map fun b=>[.sl (Zat b)]
theorem ZfK (l:List (List Bd)):(Zay l).length=l.length:=by simp [Zay]
theorem Zu7 (l:List (List Bd)) (i:Nat):(Zay l)[i]?=l[i]?.map fun b=>[.sl (Zat b)]:=by simp [Zay]
theorem Zrz (l:List (List Bd)):ZaC 1 (Zay l)=true:=Zdh (e:=fun b:List Bd=>[C.sl (Zat b)]) (n:=1) (fun _=>rfl) l
theorem Ziq (l m:List (List Bd)):Zay (l++m)=Zay l++Zay m:=by simp [Zay]
theorem ZrA (l:List (List Bd)) (k:Nat):(Zay l).take k=Zay (l.take k):=by simp [Zay]
theorem ZrB (l:List (List Bd)) (k:Nat):(Zay l).drop k=Zay (l.drop k):=by simp [Zay]
theorem sz3:type_of% (aj3 ZfK Zu7 Zrz):=aj3 ZfK Zu7 Zrz
theorem ZAj {b x:List Bd} {l:List (List Bd)} {i:Nat} (hx:l[i]?=some x) (h:insR lexB b l=l.take i++insR lexB b (l.drop i)) (hc:lexB x b < 0):insR lexB b l=l.take (i+1)++insR lexB b (l.drop (i+1)):=by
 obtain ⟨hl,e⟩:=Tad.1 hx;rw [h,List.drop_eq_getElem_cons hl,e,insR,if_pos hc];simp [List.take_add_one,hx]
theorem ZAk {b x:List Bd} {l:List (List Bd)} {i:Nat} (hx:l[i]?=some x) (h:insR lexB b l=l.take i++insR lexB b (l.drop i)) (h0:lexB x b=0):insR lexB b l=l:=by
 obtain ⟨hl,e⟩:=Tad.1 hx;rw [h,List.drop_eq_getElem_cons hl,e,insR,if_neg om,if_pos h0,<- e,<- List.drop_eq_getElem_cons hl,Tbm]
theorem ZAl {b x:List Bd} {l:List (List Bd)} {i:Nat} (hx:l[i]?=some x) (h:insR lexB b l=l.take i++insR lexB b (l.drop i)) (hc:¬ lexB x b < 0) (h0:¬ lexB x b=0):insR lexB b l=l.take i++[b]++l.drop i:=by
 obtain ⟨hl,e⟩:=Tad.1 hx;rw [h,List.drop_eq_getElem_cons hl,e,insR,if_neg hc,if_neg h0];simp
theorem ZCg {b:List Bd} {l:List (List Bd)} {i:Nat} (hl:l.length<=i) (h:insR lexB b l=l.take i++insR lexB b (l.drop i)):insR lexB b l=l.take i++[b]++l.drop i:=by
 rw [h,List.drop_eq_nil_of_le hl];simp [insR]
theorem ZrC (b:List Bd):∀ l:List (List Bd),(insR lexB b l).length<=l.length+1
 | []=>by simp [insR]
 | x::l=>by
  simp only [insR];have:=ZrC b l;split
  ·simp only [Tag];omega
  ·split <;> simp only [Tag] <;> omega
theorem ZrD {out:List (List Bd)} {b:List Bd} (ho:∀ x∈out,Zdq x∧x.length<=1000) (hb:Zdq b) (hbl:b.length<=1000) (hl:out.length<=8000000):Con e0 60 [.one (.sl (Zay out)),.one (.sl (Zat b))] [.one (.sl (Zay (insR lexB b out)))]:=by
 have tail:∀ x:Nat,x<=out.length->insR lexB b out=out.take x++[b]++out.drop x->((out.take x).length<=maxApp)=True∧((out.take x).length+1<=maxApp)=True∧((out.take x).length+1+(out.drop x).length<=maxApp)=True∧Zay (out.take x)++[[.sl (Zat b)]]=Zay (out.take x++[b])∧Zay (out.take x++[b])++Zay (out.drop x)=Zay (insR lexB b out):=fun x _ h=>⟨eq_true (by rw [Taw];unfold maxApp;omega),eq_true (by rw [Taw];unfold maxApp;omega),eq_true (by rw [Taw,Tax];unfold maxApp;omega),by rw [Ziq];rfl,by rw [h];exact (Ziq _ _).symm⟩
 refine gI (ts:=[.slot 4]) 17180393587 Tryz.func60 ?_;refine fG (ai @sz3 @tmz) ?_;have F:=ai @sz3 @tmz;refine gL (ι:=Nat) [5,19] [] (fun x=>[(5,.d (.one (.lit (.int .i64 (x:Int)))))]) (fun x=>[]) (fun x=>x<=out.length∧insR lexB b out=out.take x++insR lexB b (out.drop x)) (fun x=>out.length - x) (0) (⟨Taj _,rfl⟩) (fun x hx=>?_);clear F;obtain ⟨hi,hf⟩:=hx;have tkA:(Zay out).take out.length=Zay out:=by rw [<- ZfK out,Tap]
 have hll:((out.length:Int)<=(out.length:Int))=True:=eq_true (Int.le_refl _);by_cases hlt:x < out.length
 ·obtain ⟨a,ha⟩:∃ n,out[x]?=some n:=⟨_,Taa hlt⟩;have q1:=lT x out.length;have q4:IntKind.i64.wrap ((x:Int)+1)=(x:Int)+1:=IntWalk.i64_in _ om;obtain ⟨oa,la⟩:=ho a (Tac ha);have hcmp:=ZpB oa hb la hbl;refine fB (aj3 @q1 @sz3 @tmz) ?_;refine fC (aj4 @q1 @sz3 @tmz @ha) (hcmp) ?_;by_cases hc:lexB a b < 0
  ·have q2:(lexB a b < 0)=True:=eq_true hc;refine fR (aj3 @q1 @q2 @tmz) ?_;have hs:=ZAj ha hf hc;have F:=ai @q4 @q2;refine gG ?_;exact ⟨x+1,⟨hlt,hs⟩,gw,gw,om⟩
  ·have q2:(lexB a b < 0)=False:=eq_false hc;refine fR (aj3 @q1 @q2 @tmz) ?_;refine fB (aj3 @q1 @q2 @tmz) ?_;refine fC (aj4 @q1 @sz3 @tmz @ha) (hcmp) ?_;by_cases h0:lexB a b=0
   ·have q3:(lexB a b=0)=True:=eq_true h0;refine fR (aj3 @q1 @q3 @tmz) ?_;rw [ZAk ha hf h0];exact fD (ai @q3 @tmz)
   ·have q3:(lexB a b=0)=False:=eq_false h0;refine fR (aj3 @q1 @q3 @tmz) ?_;have hins:=ZAl ha hf hc h0;obtain ⟨r1,r2,n3,n4,n5⟩:=tail x hi hins;have hxl:((x:Int)<=(out.length:Int))=True:=eq_true om;refine fN 6 (ai @q3 @tmz) ?_;have F:=aj12 @r1 @r2 @hxl @n3 @n4 @n5 @hll @tkA @ZrA @ZrB @sz3 @tmz;refine gG ?_;exact gTz [4]
 ·have q1:=lF x out.length;have hins:=ZCg om hf;obtain ⟨r1,r2,n3,n4,n5⟩:=tail x hi hins;have hxl:((x:Int)<=(out.length:Int))=True:=eq_true om;refine fN 6 (aj3 @q1 @sz3 @tmz) ?_;have F:=aj12 @r1 @r2 @hxl @n3 @n4 @n5 @hll @tkA @ZrA @ZrB @sz3 @tmz;refine gG ?_;exact gTz [4]
theorem ZrE {vs xs:List Tm} {v x:Tm} (h:vs[xs.length]?=some v):mkB vs (xs++[x])=mkB vs xs++[⟨v,x⟩]:=by
 induction xs generalizing vs with
 | nil =>
  cases vs with
  | nil=>simp at h
  | cons w vs =>
   simp only [Tak,Tat,Taq] at h;subst h;simp [mkB]
 | cons y ys ih =>
  cases vs with
  | nil=>simp at h
  | cons w vs =>
   simp only [Tag,Tau] at h;simp only [Taf,mkB];rw [ih h]
theorem Zir:∀ (vs xs:List Tm),(mkB vs xs).length<=vs.length
 | [],_=>by simp [mkB]
 | _::vs,[]=>by simp [mkB]
 | _::vs,_::xs=>by have:=Zir vs xs;simp only [mkB,Tag];omega
theorem Zdk {vs xs:List Tm} {y:Bd} (h:y∈mkB vs xs):y.var∈vs∧y.to∈xs:=by
 obtain ⟨i,hi⟩:=Tbk h;exact ⟨Tac (Zfw hi).1,Tac (Zfw hi).2⟩
section
variable {g:Sgn} {p t:Tm} {cs:List Tm}
theorem ZEV {vs:List Tm} {b:List Bd} (hv:∀ v∈vs,okTm v) (hc:∀ x∈cs,okTm x) (hb:Zdq b) (hl:b.length+vs.length<=1000):∀ b'∈tryL g p t cs vs b,Zdq b'∧b'.length<=1000:=fun b' h=>by
 obtain ⟨xs,h1,h2,h3,h4,h5⟩:=Zho.1 h;rw [h4];have:=Zir vs xs;refine ⟨fun y hy=>?_,by rw [Tae];omega⟩;rcases Tbh.1 hy with q | q
 ·exact hb y q
 ·exact ⟨hv _ (Zdk q).1,hc _ (h2 _ (Zdk q).2)⟩
theorem ZAm {v:Tm} {vs:List Tm} {b b':List Bd} {i:Nat} (h:b'∈ZdH g p t cs v vs b i):b'∈tryL g p t cs (v::vs) b:=by
 unfold ZdH at h;simp only [tryL];obtain ⟨x,hx,hb⟩:=List.mem_flatMap.1 h;exact List.mem_flatMap.2 ⟨x,List.mem_of_mem_take hx,hb⟩
theorem ZCh (v:Tm) (vs:List Tm) (b:List Bd) (i:Nat):(ZdH g p t cs v vs b i).length<=i * cs.length ^ vs.length:=by
 refine Tbe (Zkd (n:=cs.length ^ vs.length) fun x _=>?_) (Nat.mul_le_mul_right _ ?_)
 ·split
  ·exact Zl2 vs _
  ·simp
 ·rw [Taw];exact Nat.min_le_left _ _
theorem Zl3:∀ (l out:List (List Bd)),(colR lexB l out).length<=out.length+l.length
 | [],out=>by simp [colR]
 | b::l,out=>by
  have h:=Zl3 l (insR lexB b out);have h2:=ZrC b out;have e:colR lexB (b::l) out=colR lexB l (insR lexB b out):=rfl;rw [e,Tag];omega
theorem ZrF {y:Bd}:∀ {l:List Bd},(∀ x∈l,Zai x.var y.var < 0)->putB l y=l++[y]
 | [],_=>rfl
 | x::l,h=>by
  simp only [putB];rw [if_pos (h x Tas),ZrF fun z hz=>h z (Tal _ hz)];rfl
theorem Zv9 {vs xs:List Tm} {v:Tm} (ha:Asc vs) (h:vs[xs.length]?=some v):∀ y∈mkB vs xs,Zai y.var v < 0:=fun y hy=>by
 obtain ⟨i,hi⟩:=Tbk hy;obtain ⟨l1,e1⟩:=Tad.1 (Zfw hi).1;have l3:=(Tad.1 (Zfw hi).2).1;obtain ⟨l2,e2⟩:=Tad.1 h;have:=List.pairwise_iff_getElem.1 ha i xs.length l1 l2 l3
 rwa [e1,e2] at this
theorem Zwa (hokg:ZdQ g) (hg:SgnOk g) (hp:TermOk g p) (ht:TermOk g t) (hc:∀ x∈cs,TermOk g x) (hcl:cs.length<=1048576) {vs:List Tm} (ha:Asc vs) (hv:∀ v∈vs,Zcj g v) (h8:vs.length<=8):∀ (n:Nat) (ys:List Tm) (out:List (List Bd)),n+ys.length=vs.length->(∀ y∈ys,TermOk g y)->(∀ x∈out,Zdq x∧x.length<=1000)->out.length+cs.length ^ n<=8000000->Con e0 23 [.agg (ZaB g),.agg (Zac p),.agg (Zac t),.one (.sl (Zaa (vs.drop ys.length))),.one (.sl (Zaa cs)),.one (.sl (Zat (mkB vs ys))),.one (.sl (Zay out))] [.one (.sl (Zay (colR lexB (tryL g p t cs (vs.drop ys.length) (mkB vs ys)) out)))]:=by
 have hvo:∀ v∈vs,okTm v:=fun v h=>(hv v h).term.ok hg;have hco:∀ x∈cs,okTm x:=fun x h=>(hc x h).ok hg;intro n
 induction n with
 | zero =>
  intro ys out hn hy ho hb;have hd:vs.drop ys.length=[]:=List.drop_eq_nil_of_le om;have hW:SbsW g (mkB vs ys):=⟨by have:=Zir vs ys;omega,fun y h=>hv _ (Zdk h).1,fun y h=>hy _ (Zdk h).2⟩;have hbo:Zdq (mkB vs ys):=fun y h=>⟨hvo _ (Zdk h).1,(hy _ (Zdk h).2).ok hg⟩;have hbl:(mkB vs ys).length<=1000:=hW.len;have cA:=ZsU hokg hg hW (sizeTm p+1) (Tan _) hp;have hau:=fun u=>Zm9 hg hW.to' (sizeTm p+1) p (Tan _) hp (u:=u)
  have ha6:=fun u=>Zrr (g:=g) (l:=mkB vs ys) (t:=p) (u:=u);rw [hd];generalize mkB vs ys=b at hbo hbl cA hau ha6 ⊢;rw [ZaB] at cA ⊢;have e0:Zaa ([]:List Tm)=[]:=rfl;rw [e0];have z1:((([]:List (List C)).length:Int)=0)=True:=eq_true rfl;have z2:(((0:Nat):Int)=0)=True:=eq_true rfl;refine gI (ts:=[.slot 14]) 18016606123967487 Tryz.func23 ?_;refine fN 2 (aj3 @z1 @z2 @tmz) ?_;refine gB ?_;refine fC @tmz (cA) ?_
  simp only [tryL]
  cases hr:apT g b p with
  | none =>
   rw [if_neg (by simp)];refine fR @tmz ?_;exact fD @tmz
  | some u =>
   have hu:=hau u hr;have cE:=Zfn (hu.ok hg) (ht.ok hg);rw [ha6 u hr];refine fR @tmz ?_;refine fN 3 @tmz ?_;refine gB ?_;refine fC @tmz (cE) ?_;by_cases h0:Zai u t=0
   ·have q3:decide (Zai u t=0)=true:=decide_eq_true h0;rw [if_pos (by rw [Zdb h0])];have cI:=ZrD ho hbo hbl om;refine fR (ai @q3 @tmz) ?_;refine fN 4 (ai @q3 @tmz) ?_;refine gB ?_;refine fC @tmz (cI) ?_;refine fR @tmz ?_;exact fD @tmz
   ·have q3:decide (Zai u t=0)=false:=decide_eq_false h0;rw [if_neg (by intro e;injection e with e;exact h0 (by rw [e,Zdc]))];refine fR (ai @q3 @tmz) ?_;exact fD (ai @q3 @tmz)
 | succ n ih =>
  intro ys out hn hy ho hb;obtain ⟨v,hvy⟩:∃ v,vs[ys.length]?=some v:=⟨_,Taa om⟩;have hd:vs.drop ys.length=v::vs.drop (ys.length+1):=by
   obtain ⟨l,e⟩:=Tad.1 hvy;rw [List.drop_eq_getElem_cons l,e]
  have hvm:=hv v (Tac hvy);rw [hd];have hdl:(vs.drop (ys.length+1)).length=n:=by rw [Tax];omega
  have hrm:∀ w∈v::vs.drop (ys.length+1),okTm w:=fun w hw=>by rw [<- hd] at hw;exact hvo w (List.mem_of_mem_drop hw)
  have hih:=fun x=>ih (ys++[x]);simp only [Tae,Tag,Tak,Nat.zero_add] at hih;generalize vs.drop (ys.length+1)=rest at hdl hrm hih ⊢;have hbo:Zdq (mkB vs ys):=fun y h=>⟨hvo _ (Zdk h).1,(hy _ (Zdk h).2).ok hg⟩;have hml:=Zir vs ys;have hbef:=Zv9 ha hvy;have hsn:=fun x=>ZrE (x:=x) hvy;have l2:(Zaa (v::rest))[0]?=some (Zac v):=by rw [Zbq];rfl
  have l4:(Zaa (v::rest)).drop 1=Zaa rest:=by simp [Zaa]
  have l0:(Zaa (v::rest)).length=rest.length+1:=by rw [Zad,Tag]
  have l3:ZaC 4 (Zaa (v::rest))=true:=ZdR _;have l5:(Zaa (v::rest)).take (Zaa (v::rest)).length=Zaa (v::rest):=Tap;generalize Zaa (v::rest)=rows at l0 l2 l3 l4 l5 ⊢;have l1:((rows.length:Int)=0)=False:=eq_false (by rw [l0];omega);have l6:((1:Int)<=(rows.length:Int))=True:=eq_true (by rw [l0];omega);have l7:((rows.length:Int)<=(rows.length:Int))=True:=eq_true (Int.le_refl _);have l8:(0 < rows.length)=True:=eq_true om
  have t0:Int.toNat 0=0:=rfl;have t1:Int.toNat 1=1:=rfl;clear l0;have hT0:colR lexB (ZdH g p t cs v rest (mkB vs ys) 0) out=out:=by rw [ZES];rfl
  obtain ⟨k,hk⟩:∃ k:Nat,v.sort=k:=⟨v.sort.toNat,by have:=hvm.2.2.1;omega⟩;have hk8:k < 8:=by have:=hvm.2.2.2.1;have:=hg.sorts.n8;omega
  have hkt:v.sort.toNat=k:=om;rw [ZaB];refine gI (ts:=[.slot 14]) 18016606123967487 Tryz.func23 ?_;refine fN 6 (ai @l1 @tmz) ?_;refine fG @tmz ?_;have F:=ai @hT0 @tmz;refine gL (ι:=Nat) [6,17,41,54] [] (fun i=>[(17,A.d (.one (.lit (.int .i64 i)))),(6,.d (.one (.sl (Zay (colR lexB (ZdH g p t cs v rest (mkB vs ys) i) out)))))]) (fun i=>[]) (fun i=>i<=cs.length) (fun i=>cs.length - i) (0) (Taj _) (fun i hi=>?_);clear F
  by_cases hlt:i < cs.length;rotate_left
  ·obtain rfl:i=cs.length:=by omega
   have q1:=lF cs.length cs.length;rw [Zz9];exact fD (ai @q1 @tmz)
  obtain ⟨x,hx⟩:∃ x,cs[i]?=some x:=⟨_,Taa hlt⟩;have hT:=hc x (Tac hx);have q1:=lT i cs.length;have wi:=Zau (k:=i) om;have cL:=ZsR hg (sizeTm x+1) (Tan _) hT.form;have hso:sortsTm g x < 4611686018427387904:=ZbS (ZeP hg hT.form.node) hg.sorts.n8;have cH:=Zfe (k:=k) hso om;rw [<- hk] at cH;rw [ZaB] at cL;refine fN 9 (ai @q1 @tmz) ?_;refine gB ?_;refine fC (ai @hx @tmz) (cL) ?_;refine fC (aj6 @hx @l2 @l3 @l8 @t0 @tmz) (cH) ?_
  cases hs:tbit (sortsTm g x) k with
  | false =>
   have hst:=ZCa (g:=g) (p:=p) (t:=t) (v:=v) (vs:=rest) (b:=mkB vs ys) hx (by rw [hkt];exact hs);rw [<- hst];refine fR @tmz ?_;have F:=ai @wi @tmz;refine gG ?_;exact ⟨i+1,hlt,gw,gw,om⟩
  | true =>
   have hst:=ZAa (g:=g) (p:=p) (t:=t) (v:=v) (vs:=rest) (b:=mkB vs ys) hx (by rw [hkt];exact hs);have hle:=ZCh (g:=g) (p:=p) (t:=t) (cs:=cs) v rest (mkB vs ys) i;have hcl2:=Zl3 (ZdH g p t cs v rest (mkB vs ys) i) out;have hpw:(i+1) * cs.length ^ n<=cs.length ^ (n+1):=by rw [Nat.pow_succ,Nat.mul_comm];exact Nat.mul_le_mul_left _ hlt
   rw [hdl] at hle;rw [Nat.succ_mul] at hpw;have cR:=hih x (colR lexB (ZdH g p t cs v rest (mkB vs ys) i) out) om (fun y hy'=>by
    rcases Tbh.1 hy' with q | q
    ·exact hy y q
    ·rw [Tbj.1 q];exact hT) (fun b hb'=>by
    rw [ZfF ZhG] at hb';rcases hb' with q | q
    ·exact ZEV hrm hco hbo (by rw [Tag,hdl];omega) b (ZAm q)
    ·exact ho b q) om
   have cPt:=ZAh hbo om (y:=⟨v,x⟩) ⟨hrm v Tas,hT.ok hg⟩;rw [ZrF hbef,<- hsn] at cPt;rw [ZaB,hsn] at cR;rw [hsn] at cPt;rw [<- ZBC,<- hst] at cR;refine fR @tmz ?_;refine fN 10 @tmz ?_;refine gB ?_;refine fC (aj11 @hx @l2 @l3 @l8 @l4 @l5 @l6 @l7 @t0 @t1 @tmz) (cPt) ?_;refine fC (aj11 @hx @l2 @l3 @l8 @l4 @l5 @l6 @l7 @t0 @t1 @tmz) (cR) ?_;refine fR @tmz ?_;have F:=ai @wi @tmz;refine gG ?_;exact ⟨i+1,hlt,gw,gw,om⟩
end
end Go.Proofs.YtkigoajepohkaaaGreatDoor
namespace Go.Proofs.YtkigoajepohkaaaGreatDoor
open Go.RowKit
open Go.Sort (grow HoldsK putRowK flatK SWO PermIn SortedIn Holds mapBlock onCells putRow putCells get_flatK size_flatK)
theorem Zpc {w w':World} (h:Kept True (fun _=>False) w.heap.size w w'):∃ q os,w'=grow (w.drewN q) os:=by
 obtain ⟨p,hp⟩:=regrown_of_below (w:=w) (w':=w') ⟨h.os,h.tape,h.output,h.size,fun k hk=>h.block k hk id⟩;have hd:=h.drawn trivial;have e:p.d=w'.drawn:=by rw [hp];rfl
 refine ⟨w'.drawn - w.drawn,p.os,?_⟩;have e2:redrawn w p.d=w.drewN (w'.drawn - w.drawn):=by
  unfold redrawn World.drewN;rw [e,show w.drawn+(w'.drawn - w.drawn)=w'.drawn by omega]
 rw [<- e2];exact hp
abbrev SRow (w:World) (S:Nat->Prop) (Q:List C->Prop):={x:List C × List Value // Q x.1∧Zab w S x.1 x.2}
theorem Zl4 {w:World} {S:Nat->Prop} {b k:Nat} {Q:List C->Prop} (hk:∀ r,Q r->r.length=k):∀ (rows:List (List C)) (off:Nat),(∀ r∈rows,Q r)->Zaq w S b off rows->∃ l:List (SRow w S Q),l.map (fun x=>x.1.1)=rows∧∀ (i:Nat) x,l[i]?=some x->∀ j u,x.1.2[j]?=some u->w.cell? ⟨b,off+i * k+j,none⟩=some u
 | [],off,_,_=>⟨[],rfl,fun i x h=>by simp at h⟩
 | r::rs,off,hQ,h=>by
  simp only [Zaq] at h;obtain ⟨vs,h1,h2⟩:=h.1.vals;obtain ⟨l,e,hl⟩:=Zl4 hk rs (off+r.length) (fun x hx=>hQ x (Tal _ hx)) h.2;have hr:=hQ r Tas;refine ⟨⟨(r,vs),hr,h1⟩::l,by simp [e],fun i x hi j u hj=>?_⟩
  cases i with
  | zero =>
   simp only [Tat,Taq] at hi;subst hi;have:=h2 j u hj
   rwa [Nat.zero_mul,Nat.add_zero]
  | succ i =>
   have:=hl i x (by simpa using hi) j u hj;rw [hk r hr] at this
   rwa [show off+(i+1) * k+j=off+k+i * k+j by rw [Nat.succ_mul];omega]
theorem Zi4 {w W:World} {S S2:Nat->Prop} {b k:Nat} {Q:List C->Prop} (hk:∀ r,Q r->r.length=k) (hv:∀ x:SRow w S Q,Zab W S2 x.1.1 x.1.2):∀ (l:List (SRow w S Q)) (off:Nat),(∀ (i:Nat) x,l[i]?=some x->∀ j u,x.1.2[j]?=some u->W.cell? ⟨b,off+i * k+j,none⟩=some u)->Zaq W S2 b off (l.map (fun x=>x.1.1))
 | [],off,_=>by simp [Zaq]
 | x::l,off,h=>by
  simp only [Tbv,Zaq];refine ⟨Zak.of_vals _ _ off (hv x) fun j u hj=>?_,?_⟩
  ·have:=h 0 x rfl j u hj
   rwa [Nat.zero_mul,Nat.add_zero] at this
  ·rw [hk _ x.2.1];refine Zi4 hk hv l (off+k) fun i y hi j u hj=>?_;have:=h (i+1) y (by simpa using hi) j u hj
   rwa [show off+(i+1) * k+j=off+k+i * k+j by rw [Nat.succ_mul];omega] at this
theorem ZrG {α:Type} [Inhabited α] {enc:α->List Value} {k:Nat} {W:World} {b:Nat} {d:Array α} (hk:∀ x,(enc x).length=k) (h:HoldsK enc k W b 0 d) {i:Nat} {x:α} (hi:d.toList[i]?=some x) {j:Nat} {u:Value} (hj:(enc x)[j]?=some u):W.cell? ⟨b,0+i * k+j,none⟩=some u:=by
 have hil:i < d.size:=by have:=(Tad.1 hi).1;simpa using this
 have hjl:j < k:=by have:=(Tad.1 hj).1;rwa [hk] at this
 have ht:i * k+j < d.size * k:=by
  have:=Nat.mul_le_mul_right k (show i+1<=d.size from hil);rw [Nat.succ_mul] at this;omega
 have h1:=(h (i * k+j) (by rw [size_flatK];exact ht)).1;rw [get_flatK _ _ _ _ ht,show (i * k+j) / k=i by rw [Nat.add_comm,Nat.add_mul_div_right _ _ om,Nat.div_eq_of_lt hjl,Nat.zero_add],show (i * k+j) % k=j by rw [Nat.add_comm,Nat.add_mul_mod_self_right,Nat.mod_eq_of_lt hjl]] at h1;have e1:d[i]! = x:=by
  rw [getElem!_pos d i hil];have:=(Tad.1 hi).2;simpa using this
 have e2:(enc x)[j]! = u:=by
  rw [getElem!_pos (enc x) j (by rw [hk];exact hjl)];exact (Tad.1 hj).2
 rw [e1,e2,<- Tbx] at h1;exact h1
theorem ZAn {α:Type} [Inhabited α] {enc:α->List Value} {k:Nat} {w:World} {b:Nat} {l:List α} (hk:∀ x,(enc x).length=k) (hf:∀ o,w.frozen? ⟨b,o,none⟩=false) (h:∀ (i:Nat) x,l[i]?=some x->∀ j u,(enc x)[j]?=some u->w.cell? ⟨b,0+i * k+j,none⟩=some u):HoldsK enc k w b 0 l.toArray:=by
 intro t ht;refine ⟨?_,hf _⟩;rw [size_flatK] at ht;have ht':t < l.length * k:=by simpa using ht
 have k0 : 0 < k := by rcases Nat.eq_zero_or_pos k with e | e; · subst e; simp at ht'
                       ·exact e
 have hi:t / k < l.length:=Nat.div_lt_of_lt_mul (by rw [Nat.mul_comm];exact ht');have hj:t % k < k:=Nat.mod_lt _ k0;rw [get_flatK _ _ _ _ ht];have e1:l.toArray[t / k]! = l[t / k]:=by rw [getElem!_pos _ _ (by simpa using hi)];rfl
 rw [e1,getElem!_pos _ _ (by rw [hk];exact hj)];have:=h (t / k) l[t / k] (Taa hi) (t % k) _ (Taa (by rw [hk];exact hj))
 rwa [show 0+t / k * k+t % k=0+t by have:=Nat.div_add_mod' t k;omega] at this
theorem Zab.one {w:World} {S:Nat->Prop}:∀ {cs:List C} {us:List Value},cs.all Zas=true->Zab w S cs us->∀ v∈us,v.oneCell'=true
 | [],[],_,_,v,h=>by simp at h
 | c::cs,u::us,hc,h,v,hv=>by
  simp only [List.all_cons,Tar] at hc;simp only [Zab] at h;rcases Tbg.1 hv with rfl | hv
  ·exact Zgx hc.1 h.1
  ·exact Zab.one hc.2 h.2 v hv
 | [],_::_,_,h,_,_=>by simp [Zab] at h
 | _::_,[],_,h,_,_=>by simp [Zab] at h
theorem ZCi {α:Type} [Inhabited α] {enc:α->List Value} {k:Nat} {w:World} {b n:Nat} {d:Array α} {os:Array Obj} {cur:Array Value} {ty:Nat} (hh:w.heap[b]?=some (.cells cur ty (0,0))):(sortWorldK enc k w b 0 n d os).heap[b]?=some (.cells (putCells id 0 (flatK enc k d) cur) ty (0,0)):=by
 have hb:b < w.heap.size:=(Tbl.1 hh).1;show ((w.heap.modify b (onCells (putCells id 0 (flatK enc k d))))++os)[b]?=_;rw [Array.getElem?_append_left (by simpa using hb),Array.getElem?_modify,if_pos rfl,hh];rfl
theorem Zl5 {α:Type} [Inhabited α] {enc:α->List Value} {k:Nat} {w:World} {b n j:Nat} {d:Array α} {os:Array Obj} (hj:j < w.heap.size) (hne:j≠b):(sortWorldK enc k w b 0 n d os).heap[j]?=w.heap[j]?:=by
 show ((w.heap.modify b (onCells (putCells id 0 (flatK enc k d))))++os)[j]?=_;rw [Array.getElem?_append_left (by simpa using hj),Array.getElem?_modify,if_neg (fun e=>hne e.symm)]
theorem ZgS {α:Type} [Inhabited α] {enc:α->List Value} {k:Nat} {w:World} {b n:Nat} {d:Array α} {os:Array Obj}:w.heap.size<=(sortWorldK enc k w b 0 n d os).heap.size:=by
 show _<=((w.heap.modify b (onCells (putCells id 0 (flatK enc k d))))++os).size;simp
theorem ZAo {P:Program} (hP:e1.P=P) {ρ:Go.Shelf.Ren} (L:SlLaysF0.n6 P ρ) {k ty:Nat} (aE:∀ w,(isAgg (ρ.t 24)).run P w=.ok true w) (zE:∀ w,(Go.sizeOf (ρ.t 24)).run P w=.ok k w) (hbody:Zcr P (ρ.f 6)=true) {g:FuncId} (eg:∀ args w,(callFunc g args).run P w=.ok (.enter g args) w)
  {rows rows':List (List C)} {cf:List C->List C->Int} (hlen:rows.length < 4611686018427387904) (hg:∀ a∈rows,∀ b∈rows,Con e1 g [.agg a,.agg b] [.one (.lit (.int .i64 (cf a b)))])
  (h1:∀ a∈rows,¬ cf a a < 0) (h2:∀ a∈rows,∀ b∈rows,∀ c∈rows,cf a b < 0->cf b c < 0->cf a c < 0) (h3:∀ a∈rows,∀ b∈rows,∀ c∈rows,¬ cf a b < 0->¬ cf b c < 0->¬ cf a c < 0)
  (hu:∀ l:List (List C),l.Perm rows->(∀ (i j:Nat) a b,i < j->l[i]?=some a->l[j]?=some b->¬ cf b a < 0)->l=rows'):ConI e1 (ρ.f 6) ty k rows [.one (.fn g [])] rows' []:=by
 refine ⟨by rw [hP];exact hbody,fun w S v0 vs hS hE hvE hG hbuf hargs=>?_⟩;rw [hP]
 match vs,hargs with
 | [u],hargs =>
  obtain ⟨⟨us,rfl,hus⟩,_⟩:(∃ us:List Value,u=.func (.func g) #[] us.toArray∧Zab w S [] us)∧True:=by simpa [ZaI,DRel,Rep] using hargs
  have hus0:us=[]:=by cases us with
   | nil=>rfl
   | cons _ _=>simp [Zab] at hus
  subst hus0;obtain ⟨h0,hrl,hcase⟩:=hbuf;by_cases hne:rows=[]
  ·subst hne;have hr':rows'=[]:=(hu [] (List.Perm.refl _) (fun i j a b _ h=>by simp at h)).symm;subst hr';have hform:∃ p cap,v0=.slice p 0 cap:=by
    rcases hcase with ⟨_,a,rfl⟩ | ⟨b,cap,cur,rfl,_⟩
    ·exact ⟨a,0,rfl⟩
    ·exact ⟨_,cap,rfl⟩
   obtain ⟨p,cap,hv0⟩:=hform;rw [hv0];refine (AnyF.slices_SortFunc_none (P:=P) L p cap _ w).mono ?_;rintro e w' ⟨rfl,rfl⟩;rw [<- hv0];have hs:(fun b=>S b∨(w'.heap.size<=b∧b < w'.heap.size))=S:=by
    funext b;exact propext ⟨fun h=>h.elim id (fun h=>absurd h.2 om),.inl⟩
   refine ⟨_,rfl,Kept.refl ..,hG,?_,[],rfl,trivial⟩;rw [hs];exact ⟨h0,hrl,hcase⟩
  ·rcases hcase with ⟨e,_⟩ | ⟨b,cap,cur,rfl,hc,hbz,hSb,hh,hle,hmx,hcs,hrows⟩
   ·exact absurd e hne
   have hkr:∀ r,r∈rows->r.length=k:=fun r hr=>(hrl r hr).1;obtain ⟨l,hl,hcell⟩:=Zl4 (k:=k) (Q:=fun r=>r∈rows) hkr rows 0 (fun r h=>h) hrows;have hll:l.length=rows.length:=by have:=congrArg List.length hl;rwa [Tay] at this
   obtain ⟨x0,hx0⟩:∃ x,x∈l:=List.exists_mem_of_ne_nil _ (fun e=>hne (Tao (by rw [<- hll,e];rfl)))
   letI:Inhabited (SRow w S (fun r=>r∈rows)):=⟨x0⟩
   have hk:∀ x:SRow w S (fun r=>r∈rows),x.1.2.length=k:=fun x=>by rw [x.2.2.len];exact hkr _ x.2.1
   have h1c:∀ x:SRow w S (fun r=>r∈rows),∀ v∈x.1.2,v.oneCell'=true:=fun x=>Zab.one (hrl _ x.2.1).2 x.2.2;have hH:HoldsK (fun x:SRow w S (fun r=>r∈rows)=>x.1.2) k w b 0 l.toArray:=ZAn hk (fun o=>frozen_of_row w b o cur ty hh) hcell
   have keepV:∀ (m:Nat) (os:Array Obj) (dk:Array (SRow w S (fun r=>r∈rows))) (S2:Nat->Prop),(∀ b,S b->S2 b)->∀ x:SRow w S (fun r=>r∈rows),Zab (sortWorldK (fun x:SRow w S (fun r=>r∈rows)=>x.1.2) k w b 0 m dk os) S2 x.1.1 x.1.2:=fun m os dk S2 hS2 x =>
    Zab.keep2 ZgS (fun b' o hb'=>ZbD (Zl5 (hS b' hb').1 (fun e:b'=b=>hSb (by rw [<- e];exact hb'))) o) hS2 x.2.2
   have hvb:vblk (.slice (some ⟨b,0,none⟩) rows.length cap)=some b:=by simp only [vblk];rw [if_neg om]
   have keepG:∀ (m:Nat) (os:Array Obj) (dk:Array (SRow w S (fun r=>r∈rows))),e1.G (sortWorldK (fun x:SRow w S (fun r=>r∈rows)=>x.1.2) k w b 0 m dk os):=fun m os dk =>
    ZpV.keep w _ ZgS (fun b' hb'=>Zl5 (hE b' hb') (fun e=>hvE b hvb (e ▸ hb'))) hG
   have hcmp:CmpLays P g #[] (fun x:SRow w S (fun r=>r∈rows)=>x.1.2) k (fun x y=>cf x.1.1 y.1.1) b 0 l.toArray.size w:=by
    intro m os dk hdk x y
    have hc:=(hg _ x.2.1 _ y.2.1).2 (sortWorldK (fun x:SRow w S (fun r=>r∈rows)=>x.1.2) k w b 0 m dk os) S [.agg x.1.2.toArray,.agg y.1.2.toArray] (fun b' hb'=>⟨Tbd (hS b' hb').1 ZgS,(hS b' hb').2⟩) (fun b' h=>Tbd (hE b' h) ZgS) (keepG m os dk)
     ⟨⟨_,rfl,keepV m os dk S (fun _ h=>h) x⟩,⟨_,rfl,keepV m os dk S (fun _ h=>h) y⟩,trivial⟩
    rw [hP] at hc;refine hc.mono ?_;rintro e w' ⟨v,rfl,hK,hG',hv⟩;have hv:v=.int .i64 (cf x.1.1 y.1.1):=by simpa [retA,ARel,DRel,Rep] using hv
    exact ⟨by rw [hv],Zpc (hK.all1 (keepG m os dk) hG')⟩
   have hO:SWO (ltOf (fun x y:SRow w S (fun r=>r∈rows)=>cf x.1.1 y.1.1)):=by
    refine ⟨fun x=>?_,fun x y z=>?_,fun x y z=>?_⟩ <;> simp only [ltOf,decide_eq_false_iff_not,decide_eq_true_eq]
    ·exact h1 _ x.2.1
    ·exact h2 _ x.2.1 _ y.2.1 _ z.2.1
    ·exact h3 _ x.2.1 _ y.2.1 _ z.2.1
   have hsort:=AnyQ.slices_SortFunc L k aE zE (fun x:SRow w S (fun r=>r∈rows)=>x.1.2) hk h1c (fun x y=>cf x.1.1 y.1.1) hO g #[] b 0 cap l.toArray w eg hcmp hH hbz (by simp only [List.size_toArray];omega);have hlz:l.toArray.size=rows.length:=by simpa using hll
   rw [hlz] at hsort;refine hsort.mono ?_;rintro e w' ⟨rfl,d',n,os,hp,hs,rfl⟩;obtain ⟨hp1,_,hp3⟩:=hp;rw [hlz] at hp1;have hex:∀ a:Array (SRow w S (fun r=>r∈rows)),a.size=rows.length->a.extract 0 rows.length=a:=fun a ha=>by rw [<- ha];simp
   rw [hex d' hp1,hex _ hlz] at hp3;have hperm:(d'.toList.map (fun x=>x.1.1)).Perm rows:=by
    have:=hp3.map (fun x:SRow w S (fun r=>r∈rows)=>x.1.1)
    rwa [show l.toArray.toList=l from rfl,hl] at this
   have hrows':d'.toList.map (fun x=>x.1.1)=rows':=hu _ hperm fun i j a c hij ha hc=>by
    simp only [Tba,Tav] at ha hc;obtain ⟨x,hx,rfl⟩:=ha;obtain ⟨y,hy,rfl⟩:=hc;have hjl:j < rows.length:=by have:=(Tad.1 hy).1;simpa [hp1] using this
    have:=hs i j (Taj _) hij hjl;have ex:d'[i]! = x:=by
     rw [getElem!_pos d' i om];have:=(Tad.1 hx).2;simpa using this
    have ey:d'[j]! = y:=by
     rw [getElem!_pos d' j om];have:=(Tad.1 hy).2;simpa using this
    rw [ex,ey] at this;simpa [ltOf] using this
   have hlr:rows'.length=rows.length:=by rw [<- hrows',Tay,Array.length_toList,hp1]
   have hW:HoldsK (fun x:SRow w S (fun r=>r∈rows)=>x.1.2) k (sortWorldK (fun x:SRow w S (fun r=>r∈rows)=>x.1.2) k w b 0 n d' os) b 0 d':=SWK.holds (d0:=l.toArray) ⟨n,os,rfl⟩ hbz hH (by rw [hp1,hlz]);refine ⟨_,rfl,⟨rfl,rfl,rfl,fun _=>Nat.le_add_right _ _,ZgS,fun j hj hn=>Zl5 hj (fun e=>hn (.inr (by rw [hvb,e])))⟩,keepG n os d',⟨h0,fun r hr=>?_,.inr ⟨b,cap,_,by rw [hlr],hc,Tbd hbz ZgS,fun hn=>?_,ZCi hh,om,hmx,by simp [putCells,hcs],?_⟩⟩,[],rfl,trivial⟩
   ·rw [<- hrows'] at hr;exact hrl r (hperm.mem_iff.1 hr)
   ·rcases hn with hn | hn
    ·exact hSb hn
    ·omega
   ·rw [<- hrows'];exact Zi4 (Q:=fun r=>r∈rows) hkr (keepV n os d' _ (fun b hb=>.inl hb)) d'.toList 0 fun i x hi j u hj=>ZrG hk hW hi hj
end Go.Proofs.YtkigoajepohkaaaGreatDoor
namespace Go.Proofs.YtkigoajepohkaaaGreatDoor
open Go.Shelf
def ZAp:Ren:=⟨fun | 6=>128 | 15=>84 | 14=>167 | 28=>148 | 29=>149 | 20=>185 | 21=>186 | 22=>187 | 23=>188 | 24=>189 | 25=>190 | 26=>191 | 27=>192 | 46=>200 | 47=>175 | 48=>176 | 49=>201 | 50=>202 | 57=>205 | n=>n,fun | 22=>44 | 24=>46 | 25=>125 | 3=>3 | 39=>128 | 0=>0 | 53=>178 | 55=>180 | 4=>4 | 46=>172 | 45=>171 | 50=>168 | 5=>5 | 9=>9 | 66=>197 | 70=>201 | 76=>210 | 77=>211 | n=>n,fun | n=>n⟩
theorem ZGa:Go.Proofs.SlLaysF0.n6 Tryz.prog ZAp:={
 mixed:=by kernel_rfl,
 f6:=⟨Tryz.f128.name,by decide,Tryz.func128.trans (congrArg some (by kernel_rfl))⟩,
 f14:=⟨Tryz.f167.name,by decide,Tryz.func167.trans (congrArg some (by kernel_rfl))⟩,
 f15:=Tryz.func84.trans (congrArg some (by kernel_rfl)),
 f20:=⟨Tryz.f185.name,by decide,Tryz.func185.trans (congrArg some (by kernel_rfl))⟩,
 f21:=⟨Tryz.f186.name,by decide,Tryz.func186.trans (congrArg some (by kernel_rfl))⟩,
 f22:=⟨Tryz.f187.name,by decide,Tryz.func187.trans (congrArg some (by kernel_rfl))⟩,
 f23:=⟨Tryz.f188.name,by decide,Tryz.func188.trans (congrArg some (by kernel_rfl))⟩,
 f24:=⟨Tryz.f189.name,by decide,Tryz.func189.trans (congrArg some (by kernel_rfl))⟩,
 f25:=⟨Tryz.f190.name,by decide,Tryz.func190.trans (congrArg some (by kernel_rfl))⟩,
 f26:=⟨Tryz.f191.name,by decide,Tryz.func191.trans (congrArg some (by kernel_rfl))⟩,
 f27:=⟨Tryz.f192.name,by decide,Tryz.func192.trans (congrArg some (by kernel_rfl))⟩,
 f28:=Tryz.func148.trans (congrArg some (by kernel_rfl)),
 f29:=Tryz.func149.trans (congrArg some (by kernel_rfl)),
 f46:=⟨Tryz.f200.name,by decide,Tryz.func200.trans (congrArg some (by kernel_rfl))⟩,
 f47:=Tryz.func175.trans (congrArg some (by kernel_rfl)),
 f48:=Tryz.func176.trans (congrArg some (by kernel_rfl)),
 f49:=⟨Tryz.f201.name,by decide,Tryz.func201.trans (congrArg some (by kernel_rfl))⟩,
 f50:=⟨Tryz.f202.name,by decide,Tryz.func202.trans (congrArg some (by kernel_rfl))⟩,
 f57:=⟨Tryz.f205.name,by decide,Tryz.func205.trans (congrArg some (by kernel_rfl))⟩,
 t0:=Tryz.underlying0,
 a0:=Tryz.isAgg0,
 z0:=Tryz.sizeOf0,
 v0:=Tryz.zeroValue0,
 t3:=Tryz.underlying3,
 a3:=Tryz.isAgg3,
 z3:=Tryz.sizeOf3,
 v3:=Tryz.zeroValue3,
 t4:=Tryz.underlying4,
 a4:=Tryz.isAgg4,
 z4:=Tryz.sizeOf4,
 v4:=Tryz.zeroValue4,
 t5:=Tryz.underlying5,
 a5:=Tryz.isAgg5,
 z5:=Tryz.sizeOf5,
 v5:=Tryz.zeroValue5,
 t9:=Tryz.underlying9,
 a9:=Tryz.isAgg9,
 z9:=Tryz.sizeOf9,
 v9:=Tryz.zeroValue9,
 t22:=Tryz.underlying44,
 a22:=Tryz.isAgg44,
 z22:=Tryz.sizeOf44,
 v22:=Tryz.zeroValue44,
 t25:=Tryz.underlying125,
 a25:=Tryz.isAgg125,
 z25:=Tryz.sizeOf125,
 v25:=Tryz.zeroValue125,
 t39:=Tryz.underlying128,
 a39:=Tryz.isAgg128,
 z39:=Tryz.sizeOf128,
 v39:=Tryz.zeroValue128,
 t45:=Tryz.underlying171,
 a45:=Tryz.isAgg171,
 z45:=Tryz.sizeOf171,
 v45:=Tryz.zeroValue171,
 t46:=Tryz.underlying172,
 a46:=Tryz.isAgg172,
 z46:=Tryz.sizeOf172,
 v46:=Tryz.zeroValue172,
 t50:=Tryz.underlying168,
 a50:=Tryz.isAgg168,
 z50:=Tryz.sizeOf168,
 v50:=Tryz.zeroValue168,
 t53:=Tryz.underlying178,
 a53:=Tryz.isAgg178,
 z53:=Tryz.sizeOf178,
 v53:=Tryz.zeroValue178,
 t55:=Tryz.underlying180,
 a55:=Tryz.isAgg180,
 z55:=Tryz.sizeOf180,
 v55:=Tryz.zeroValue180,
 t66:=Tryz.underlying197,
 a66:=Tryz.isAgg197,
 z66:=Tryz.sizeOf197,
 v66:=Tryz.zeroValue197,
 t70:=Tryz.underlying201,
 a70:=Tryz.isAgg201,
 z70:=Tryz.sizeOf201,
 v70:=Tryz.zeroValue201,
 t76:=Tryz.underlying210,
 a76:=Tryz.isAgg210,
 z76:=Tryz.sizeOf210,
 v76:=Tryz.zeroValue210,
 t77:=Tryz.underlying211,
 a77:=Tryz.isAgg211,
 z77:=Tryz.sizeOf211,
 v77:=Tryz.zeroValue211 }
end Go.Proofs.YtkigoajepohkaaaGreatDoor
namespace Go.Proofs.YtkigoajepohkaaaGreatDoor
open Go.RowKit
theorem Zu8 {f:FuncId} {ty sz:Nat} {rows rows':List (List C)} {args r:List D} (h:ConI e1 f ty sz rows args rows' r):ConI e0 f ty sz rows args rows' r :=
 ⟨h.1,fun w S v0 vs h1 h2 h3 h4 h5 h6=>(h.2 w S v0 vs h1 h2 h3 h4 h5 h6).mono fun en w' ⟨v,k1,k2,k3⟩=>⟨v,k1,⟨k2.os,k2.tape,k2.output,fun d=>d.elim,k2.size,k2.block⟩,k3⟩⟩
theorem Zwb (ts:List Tm) (hl:ts.length<=4000000):ConI e0 128 46 4 (Zaa ts) [.one (.fn 80 [])] (Zaa (ZaA ts)) []:=by
 have hrow:∀ a∈Zaa ts,a=Zac (unT a):=fun a ha=>by
  rw [ZbB] at ha;obtain ⟨t,_,rfl⟩:=Tbi.1 ha;rw [ZkM]
 exact Zu8 (ZAo (P:=Tryz.prog) rfl ZGa (k:=4) (ty:=46) Tryz.isAgg46 Tryz.sizeOf46 (by kernel_rfl) (g:=80) (enters_of Tryz.func80 (by kernel_rfl) rfl) (rows:=Zaa ts) (rows':=Zaa (ZaA ts)) (cf:=fun a b=>Zai (unT a) (unT b)) (by rw [Zad];omega)
  (fun a ha b hb=>by
   have h:=Zd8 (unT a) (unT b)
   rwa [<- hrow a ha,<- hrow b hb] at h)
  (fun a _=>by rw [Zdc];omega) (fun a _ b _ c _ h1 h2=>ZeL h1 h2) (fun a _ b _ c _ h1 h2=>by
   rw [Zci (unT b) (unT a)] at h1;rw [Zci (unT c) (unT b)] at h2;rw [Zci (unT c) (unT a)];have:=Zb3 (a:=unT c) (b:=unT b) (c:=unT a) om om;omega)
  (fun l hp hs=>by
   have hmem:∀ a∈l,a=Zac (unT a):=fun a ha=>hrow a (hp.mem_iff.1 ha);have hp2:(l.map unT).Perm ts:=by have:=hp.map unT;rwa [ZEt] at this
   have hup:Up (l.map unT):=by
    refine List.pairwise_iff_getElem.2 fun i j hi hj hij=>?_;simp only [List.getElem_map];simp only [Tay] at hi hj;have:=hs i j l[i] l[j] hij (Taa hi) (Taa hj);rw [Zci (unT l[j]) (unT l[i])];omega
   have e:=ZkL (Zcs ts) hup ((Zbg ts).trans hp2.symm);rw [e,ZbB,List.map_map]
   conv=>lhs;rw [<- List.map_id l]
   exact List.map_congr_left fun a ha=>hmem a ha))
def RCut (a:Option Addr) (cap ty sz:Nat) (rows:List (List C)) (r:List D) (pm:List Bk):Prop:=r=[.one (.lit (.slice a rows.length cap))]∧pm=[.buf (some (a,cap)) ty sz rows]
theorem Zkf {m:List (Nat × Bk)} {a:Option Addr} {n cap:Nat}:lenA m (some true) [nrm m (.d (.one (.lit (.slice a n cap))))]=some (.d (.one (.lit (.int .i64 (n:Int))))):=by
 show lenA m (some true) [Zkw m a n cap (bufK a n cap m)]=_
 cases bufK a n cap m with
 | none=>rfl
 | some k =>
  show lenA m (some true) [nrmB a n cap k (gm m k)]=_
  cases hg:gm m k with
  | none=>rfl
  | some bk =>
   cases bk with
   | var o cs=>rfl
   | set E G=>rfl
   | buf o ty sz rows =>
    cases o with
    | none=>rfl
    | some q =>
     obtain ⟨a',cap'⟩:=q;simp only [nrmB];split
     ·rename_i h;show lenS (bufA (gm m k))=_;rw [hg,h.2.1];rfl
     ·rfl
theorem ZAq {m:List (Nat × Bk)} {a:Option Addr} {l h cap sz:Nat}:lenA m (some true) [nrm m (.d (.one (.lit (sliced a l h cap sz))))]=some (.d (.one (.lit (.int .i64 ((h - l:Nat):Int))))):=Zkf
theorem Zwc (l:List Tm) (k:Nat) (t:Tm):(Zaa l).set k (Zac t)=Zaa (l.set k t):=by rw [ZbB,ZbB,List.map_set]
theorem ZAr {α:Type} {l:List α} {i:Nat} {x:α} (h:i < l.length):(l.set i x).take (i+1)=l.take i++[x]:=by
 rw [List.take_add_one,List.take_set_of_le (Tai _)];simp [h]
theorem Zu9 {l l':List Tm} {m:Nat} (h:l.drop m=l'.drop m) (i:Nat):l[m+i]?=l'[m+i]?:=by
 rw [<- Tbb,<- Tbb,h]
theorem ZCj {ts:List Tm} (h:ts.length < 2):ddT none ts=ts:=by
 match ts,h with
 | [],_=>rfl
 | [x],_=>rfl
theorem ZrH (ts:List Tm) (hl:ts.length<=4000000) (a:Option Addr) (cap:Nat):ConP e0 129 [.one (.lit (.slice a ts.length cap)),.one (.fn 34 [])] [.buf (some (a,cap)) 46 4 (Zaa ts)] (RCut a cap 46 4 (Zaa (ddT none ts))):=by
 refine gIP (ts:=[.slot 4]) [1000] 562984581629171 Tryz.func129 ?_;by_cases h2:ts.length < 2
 ·have q1:=lT ts.length 2;refine fG (ai @q1 @tmz) ?_;rw [ZCj h2];exact (have F:=Zad;gTP (R:=RCut a cap 46 4 (Zaa ts)) [1000] ⟨by rw [Zad],rfl⟩)
 have q1:=lF ts.length 2;refine fG (ai @q1 @tmz) ?_;clear q1;obtain ⟨t0,ht0⟩:∃ t,ts[0]?=some t:=⟨_,Taa om⟩;have F:=@tmz;refine gL (ι:=Nat) [4,5,6,7,15,28,35,49] [] (fun x=>[(5,.d (.one (.lit (.int .i64 (x:Int)))))]) (fun x=>[]) (fun x=>1<=x∧x<=ts.length∧ddT none (ts.take x)=ts.take x) (fun x=>ts.length - x) (1) (⟨Tai _,om,by rw [ZEs ht0];cases ts with | nil=>simp at ht0 | cons y ys=>simp at ht0;simp [ht0]⟩) (fun x hx=>?_);clear F
 obtain ⟨hx1,hxn,hxd⟩:=hx;by_cases hlt:x < ts.length;rotate_left
 ·obtain rfl:x=ts.length:=by omega
  have q1:=lF ts.length ts.length;rw [Tap] at hxd;refine fG (ai @q1 @tmz) ?_;rw [hxd];exact (have F:=Zad;gTP (R:=RCut a cap 46 4 (Zaa ts)) [1000] ⟨by rw [Zad],rfl⟩)
 obtain ⟨u,hu⟩:∃ t,ts[x]?=some t:=⟨_,Taa hlt⟩;obtain ⟨z,rfl⟩:∃ z,x=z+1:=⟨x - 1,om⟩;obtain ⟨v,hv⟩:∃ t,ts[z]?=some t:=⟨_,Taa om⟩;have q1:=lT (z+1:Nat) ts.length;have w1:IntKind.i64.wrap (((z+1:Nat):Int) - 1)=(z:Int):=ZaM om om om;have w2:IntKind.i64.wrap (((z+1:Nat):Int)+1)=((z+1+1:Nat):Int):=ZaM om om om;have hz1:z+1 < ts.length:=hlt;have hz0:z < ts.length:=om;have hst:=ZqZ hu hv;generalize hxx:z+1=x at *
 rw [show z+2=x+1 by omega] at hst;refine fB (ai @q1 @tmz) ?_;refine fC (aj8 @q1 @tmz @hu @hv @w1 @hz1 @hz0 @Zad) (Zhf u v) ?_;refine fR (ai @q1 @tmz) ?_;by_cases h0:Zai u v=0;rotate_left
 ·have q3:decide (Zai u v=0)=false:=decide_eq_false h0;rw [if_neg h0,hxd] at hst;have F:=ai @q3 @w2;refine gG ?_;exact ⟨x+1,⟨om,hlt,by rw [hst];simp [List.take_add_one,hu]⟩,gw,gw,om⟩
 have q3:decide (Zai u v=0)=true:=decide_eq_true h0;rw [if_pos h0,hxd] at hst;refine fN 7 (ai @q3 @tmz) ?_;refine gB ?_;have F:=ai @q3 @tmz;refine gP 2 ?_;clear F;have F:=Zad;refine gSub 1000 x ts.length ⟨om,by rw [Zad];exact Tai _⟩ ?_;clear F;refine fR @tmz ?_;refine fG @tmz ?_;have F:=@tmz;refine gL (ι:=Nat × Nat × List Tm) [5,7,35,49] [1000] (fun y=>[(7,.d (.one (.lit (.int .i64 (y.1:Int))))),(5,.d (.one (.lit (.int .i64 (y.2.1:Int)))))]) (fun y=>[(1000,.buf (some (a,cap)) 46 4 (Zaa y.2.2))]) (fun y=>1<=y.1∧x+y.1<=ts.length∧y.2.1+1<=x+y.1∧y.2.2.length=ts.length∧y.2.2.take y.2.1=ddT none (ts.take (x+y.1))∧y.2.2.drop (x+y.1 - 1)=ts.drop (x+y.1 - 1)) (fun y=>ts.length - y.1) ((1,x,ts)) (⟨Tai _,hlt,Tai _,rfl,hst.symm,rfl⟩) (fun y hy=>?_);clear F
 obtain ⟨j,k,us⟩:=y;obtain ⟨h1,h2',h3,h4,h5,h6⟩:=hy;simp only at h1 h2' h3 h4 h5 h6;dsimp only;have hn4:ts.length=us.length:=h4.symm;by_cases hj:j < ts.length - x
 ·obtain ⟨i,rfl⟩:∃ i,j=i+1:=⟨j - 1,om⟩;obtain ⟨u1,hu1⟩:∃ t,ts[x+i+1]?=some t:=⟨_,Taa om⟩;obtain ⟨v1,hv1⟩:∃ t,ts[x+i]?=some t:=⟨_,Taa om⟩;have e1:us[x+(i+1)]?=some u1:=by
   rw [<- hu1,show x+(i+1) - 1=x+i by omega] at *;exact Zu9 h6 1
  have e2:us[x+i]?=some v1:=by
   rw [<- hv1,show x+(i+1) - 1=x+i by omega] at *;exact Zu9 h6 0
  have q4:=lT (i+1:Nat) (ts.length - x:Nat);have w3:IntKind.i64.wrap (((i+1:Nat):Int) - 1)=(i:Int):=ZaM om om om;have w4:IntKind.i64.wrap (((i+1:Nat):Int)+1)=((i+1+1:Nat):Int):=ZaM om om om;have hst2:=ZqZ hu1 hv1;rw [show x+i+2=x+(i+1+1) by omega,show x+i+1=x+(i+1) by omega,<- h5] at hst2;refine fN 11 (aj3 @q4 @ZAq @tmz) ?_;refine gB ?_;have F:=ai @q4 @tmz;refine gP 3 ?_;clear F;have F:=Zad;refine ZzO (l:=x) (h:=ts.length) (rows:=Zaa us) 1000 (i+1) ⟨om,by rw [Zad];omega⟩ ?_
  clear F;have F:=aj3 @tmz @e1 @w3;refine gP 4 ?_;clear F;have F:=Zad;refine ZzO (l:=x) (h:=ts.length) (rows:=Zaa us) 1000 i ⟨om,by rw [Zad];omega⟩ ?_;clear F;refine fC (ai @tmz @e2) (Zhf u1 v1) ?_;refine fR @tmz ?_;by_cases h7:Zai u1 v1=0
  ·have q5:decide (Zai u1 v1=0)=true:=decide_eq_true h7;rw [if_pos h7] at hst2;have F:=ai @q5 @w4;refine gG ?_;exact ⟨(i+1+1,k,us),⟨by dsimp only;omega,by dsimp only;omega,by dsimp only;omega,h4,hst2.symm,by rw [show x+(i+1+1) - 1=x+(i+1) - 1+1 by omega,<- List.drop_drop,<- List.drop_drop,h6]⟩,gw,gw,om⟩
  ·have q5:decide (Zai u1 v1=0)=false:=decide_eq_false h7;rw [if_neg h7] at hst2;obtain ⟨ok,hok⟩:∃ t,us[k]?=some t:=⟨_,Taa om⟩;have w5:IntKind.i64.wrap ((k:Int)+1)=((k+1:Nat):Int):=ZaM om om om;have hkl:k < us.length:=om;refine fN 12 (ai @q5 @tmz) ?_;refine gB ?_;have F:=ai @q5 @tmz;refine gP 4 ?_;clear F;have F:=Zad;refine ZF2 (l:=x) (h:=ts.length) (rows:=Zaa us) 1000 (i+1) ⟨om,by rw [Zad];omega⟩ ?_
   clear F;refine fR (aj6 @tmz @e1 @hok @hn4 @hkl @Zwc) ?_;have F:=aj3 @w4 @w5 @hn4;refine gG ?_;exact ⟨(i+1+1,k+1,us.set k u1),⟨by dsimp only;omega,by dsimp only;omega,by dsimp only;omega,by rw [Taz];exact h4,by rw [hst2,ZAr hkl],by rw [List.drop_set_of_lt om,show x+(i+1+1) - 1=x+(i+1) - 1+1 by omega,<- List.drop_drop,<- List.drop_drop,h6]⟩,gw,gw,om⟩
 ·have q4:=lF j (ts.length - x:Nat);have hjn:x+j=ts.length:=om;rw [hjn,Tap] at h5;have hkl:k < us.length:=om;refine fN 14 (aj3 @q4 @ZAq @tmz) ?_;refine gB ?_;have F:=ai @q4 @tmz;refine gP 2 ?_;clear F;have F:=ai Zad hn4;refine gSub 1000 k us.length ⟨om,by rw [Zad];exact Tai _⟩ ?_;rw [show us.length=(Zaa us).length by rw [Zad]];refine ZFr 1000 (by rw [Zad];exact hkl) ?_;clear F;have hRl:((Zaa us).take k++List.replicate ((Zaa us).length - k) [C.lit (Value.int IntKind.i64 0),C.lit (Value.string ByteArray.empty),C.lit (Value.int IntKind.i64 0),C.sl []]).length=us.length:=by simp [Zad];omega
  have hRt:((Zaa us).take k++List.replicate ((Zaa us).length - k) [C.lit (Value.int IntKind.i64 0),C.lit (Value.string ByteArray.empty),C.lit (Value.int IntKind.i64 0),C.sl []]).take k=Zaa (ddT none ts):=by
   rw [List.take_append_of_le_length (by simp [Zad];omega),List.take_take,Nat.min_self,ZdN,h5]
  generalize (Zaa us).take k++List.replicate ((Zaa us).length - k) [C.lit (Value.int IntKind.i64 0),C.lit (Value.string ByteArray.empty),C.lit (Value.int IntKind.i64 0),C.sl []]=R at hRl hRt ⊢;refine fR @tmz ?_;refine fN 15 (ai @q4 @tmz) ?_;refine gB ?_;have F:=ai @q4 @tmz;refine gP 2 ?_;clear F;have F:=ai hRl hn4;refine gSub 1000 0 k ⟨om,by rw [hRl];omega⟩ ?_;clear F;rw [Zlx];refine fR @tmz ?_;refine fG @tmz ?_
  refine pE [1000] [1000] (ZzN k (by rw [hRl];omega)) ?_;rw [hRt];have hk2:k=(Zaa (ddT none ts)).length:=by rw [Zad,<- h5,Taw];omega
  exact (have F:=Zad;gTP (R:=RCut a cap 46 4 (Zaa (ddT none ts))) [1000] ⟨by rw [<- hk2],rfl⟩)
theorem Zh0 (ts:List Tm):(ZaA ts).length=ts.length:=(Zbg ts).length_eq
theorem ZEW (ts:List Tm):ddT none (ZaA ts)=Zc5 ts:=by rw [ZBO (Zcs ts),ZsB (Zbg ts)]
theorem Zjr (ts:List Tm) (hl:ts.length<=4000000) (a:Option Addr) (cap:Nat):ConP e0 76 [.one (.lit (.slice a ts.length cap))] [.buf (some (a,cap)) 46 4 (Zaa ts)] (RCut a cap 46 4 (Zaa (Zc5 ts))):=by
 have hc:=ZrH (ZaA ts) (by rw [Zh0];exact hl) a cap;rw [Zh0,ZEW] at hc;refine gIP (ts:=[.slot 2]) [1000] 5 Tryz.func76 ?_;refine fB @tmz ?_;have F:=@tmz;refine gCI (Zwb ts hl) (by rw [Zad,Zad,Zh0]) ?_;clear F;refine fR @tmz ?_;refine fB @tmz ?_;have F:=@tmz;refine gCP [1000] [1000] (hc) ?_;clear F;rintro r pm ⟨rfl,rfl⟩;simp only [setA,retA,zipM,Taf,Tah];refine fR @tmz ?_;refine fG @tmz ?_;exact (have F:=Zad;gTP (R:=RCut a cap 46 4 (Zaa (Zc5 ts))) [1000] ⟨rfl,rfl⟩)
theorem Zwd {t x:Tm} {ts:List Tm} {i:Nat} (hx:ts[i]?=some x) (h:Zbh t ts=ts.take i++Zbh t (ts.drop i)) (hc:Zai x t < 0):Zbh t ts=ts.take (i+1)++Zbh t (ts.drop (i+1)):=by
 obtain ⟨hl,e⟩:=Tad.1 hx;rw [h,List.drop_eq_getElem_cons hl,e,Zbh,if_pos hc];simp [List.take_add_one,hx]
theorem Zwe {t x:Tm} {ts:List Tm} {i:Nat} (hx:ts[i]?=some x) (h:Zbh t ts=ts.take i++Zbh t (ts.drop i)) (hc:Zai x t=0):Zbh t ts=ts:=by
 obtain ⟨hl,e⟩:=Tad.1 hx;rw [h,List.drop_eq_getElem_cons hl,e,Zbh,if_neg om,if_pos hc,<- e,<- List.drop_eq_getElem_cons hl,Tbm]
theorem Zwf {t x:Tm} {ts:List Tm} {i:Nat} (hx:ts[i]?=some x) (h:Zbh t ts=ts.take i++Zbh t (ts.drop i)) (h1:¬ Zai x t < 0) (h2:¬ Zai x t=0):Zbh t ts=ts.take i++[t]++ts.drop i:=by
 obtain ⟨hl,e⟩:=Tad.1 hx;rw [h,List.drop_eq_getElem_cons hl,e,Zbh,if_neg h1,if_neg h2];simp
theorem ZAs {t:Tm} {ts:List Tm} {i:Nat} (hi:ts.length<=i) (h:Zbh t ts=ts.take i++Zbh t (ts.drop i)):Zbh t ts=ts.take i++[t]++ts.drop i:=by
 rw [h,List.drop_eq_nil_of_le hi,Zbh];simp
theorem ZeD (ts:List Tm) (t:Tm) (hts:ZaD ts) (ht:okTm t) (hl:ts.length<=8000000):Con e0 57 [.one (.sl (Zaa ts)),.agg (Zac t)] [.one (.sl (Zaa (Zbh t ts)))]:=by
 refine gI (ts:=[.slot 4]) 8590459003 Tryz.func57 ?_;refine fG @tmz ?_;have F:=@tmz;refine gL (ι:=Nat) [5,19] [] (fun x=>[(5,.d (.one (.lit (.int .i64 (x:Int)))))]) (fun x=>[]) (fun x=>x<=ts.length∧Zbh t ts=ts.take x++Zbh t (ts.drop x)) (fun x=>ts.length - x) (0) (⟨Taj _,rfl⟩) (fun x hx=>?_);clear F;obtain ⟨hi,hf⟩:=hx;by_cases hlt:x < ts.length
 ·obtain ⟨a,ha⟩:∃ n,ts[x]?=some n:=⟨_,Taa hlt⟩;have q1:=lT x ts.length;have q4:IntKind.i64.wrap ((x:Int)+1)=(x:Int)+1:=IntWalk.i64_in _ om;have hcmp:=ZdL (hts.mem (Tac ha)) ht;refine fB (ai @q1 @tmz) ?_;refine fC (aj3 @q1 @tmz @ha) (hcmp) ?_;by_cases hc:Zai a t < 0
  ·have q2:(Zai a t < 0)=True:=eq_true hc;refine fR (aj3 @q1 @q2 @tmz) ?_;have hs:=Zwd ha hf hc;have F:=ai @q4 @q2;refine gG ?_;exact ⟨x+1,⟨hlt,hs⟩,gw,gw,om⟩
  ·have q2:(Zai a t < 0)=False:=eq_false hc;refine fR (aj3 @q1 @q2 @tmz) ?_;refine fB (aj3 @q1 @q2 @tmz) ?_;refine fC (aj3 @q1 @tmz @ha) (Zfn (hts.mem (Tac ha)) ht) ?_;by_cases h0:Zai a t=0
   ·have q3:decide (Zai a t=0)=true:=decide_eq_true h0;refine fR (aj3 @q1 @q3 @tmz) ?_;rw [Zwe ha hf h0];exact fD (ai @q3 @tmz)
   ·have q3:decide (Zai a t=0)=false:=decide_eq_false h0;refine fR (aj3 @q1 @q3 @tmz) ?_;have hins:=Zwf ha hf hc h0;refine fN 6 (ai @q3 @tmz) ?_;rw [hins,Zb8,Zb8,ZdE,<- ZdN,<- Zek];have hxl:((x:Int)<=(ts.length:Int))=True:=eq_true om;have r1:ZaC 4 ((Zaa ts).take x)=true:=by rw [ZdN];exact ZdR _
    have r2:ZaC 4 ((Zaa ts).drop x)=true:=by rw [Zek];exact ZdR _
    have n1:((Zaa ts).take x).length<=8000000:=by rw [Taw,Zad];omega
    have n2:((Zaa ts).drop x).length<=8000000:=by rw [Tax,Zad];omega
    have n3:((Zaa ts).take x).length+1<=maxApp:=by unfold maxApp;omega
    have n4:((Zaa ts).take x).length+1+((Zaa ts).drop x).length<=maxApp:=by unfold maxApp;omega
    have F:=aj6 r1 r2 hxl n3 n4 tmz;refine gA 7 4 ?_ (.inl rfl) ?_
    ·show 0+_<=maxApp;unfold maxApp;omega
    clear F;refine fR (aj6 @r1 @r2 @hxl @n3 @n4 @tmz) ?_;have tkA:(Zaa ts).take ts.length=Zaa ts:=by rw [<- Zad ts,Tap]
    have n5:((Zaa ts).take x++[Zac t]).length+((Zaa ts).drop x).length<=maxApp:=by simp only [Tae,Tag,Tak];omega
    have hll:((ts.length:Int)<=(ts.length:Int))=True:=eq_true (Int.le_refl _);have F:=aj9 @r1 @r2 @hxl @n3 @n4 @n5 @hll @tkA @tmz;refine gG ?_;exact gTz [4]
 ·have q1:=lF x ts.length;have hins:=ZAs om hf;refine fN 6 (ai @q1 @tmz) ?_;rw [hins,Zb8,Zb8,ZdE,<- ZdN,<- Zek];have hxl:((x:Int)<=(ts.length:Int))=True:=eq_true om;have r1:ZaC 4 ((Zaa ts).take x)=true:=by rw [ZdN];exact ZdR _
  have r2:ZaC 4 ((Zaa ts).drop x)=true:=by rw [Zek];exact ZdR _
  have n1:((Zaa ts).take x).length<=8000000:=by rw [Taw,Zad];omega
  have n2:((Zaa ts).drop x).length<=8000000:=by rw [Tax,Zad];omega
  have n3:((Zaa ts).take x).length+1<=maxApp:=by unfold maxApp;omega
  have n4:((Zaa ts).take x).length+1+((Zaa ts).drop x).length<=maxApp:=by unfold maxApp;omega
  have F:=aj6 r1 r2 hxl n3 n4 tmz;refine gA 7 4 ?_ (.inl rfl) ?_
  ·show 0+_<=maxApp;unfold maxApp;omega
  clear F;refine fR (aj6 @r1 @r2 @hxl @n3 @n4 @tmz) ?_;have tkA:(Zaa ts).take ts.length=Zaa ts:=by rw [<- Zad ts,Tap]
  have n5:((Zaa ts).take x++[Zac t]).length+((Zaa ts).drop x).length<=maxApp:=by simp only [Tae,Tag,Tak];omega
  have hll:((ts.length:Int)<=(ts.length:Int))=True:=eq_true (Int.le_refl _);have F:=aj9 @r1 @r2 @hxl @n3 @n4 @n5 @hll @tkA @tmz;refine gG ?_;exact gTz [4]
def colT (l:List Tm) (r:List Tm):List Tm:=l.foldl (fun r t=>Zbh t r) r
theorem colT_nil0 {ts:List Tm}:colT (Za0 []) ts=ts:=by simp [colT,Za0]
theorem ZfL (a b r:List Tm):colT (a++b) r=colT b (colT a r):=by unfold colT;rw [List.foldl_append]
theorem Zpd (t:Tm):∀ l:List Tm,(Zbh t l).length<=l.length+1
 | []=>by simp [Zbh]
 | x::xs=>by
  have:=Zpd t xs;simp only [Zbh];split
  ·simp only [Tag];omega
  ·split <;> simp only [Tag] <;> omega
theorem Zdn:∀ (l r:List Tm),(colT l r).length<=r.length+l.length
 | [],r=>by simp [colT]
 | x::xs,r=>by
  have h1:=Zdn xs (Zbh x r);have h2:=Zpd x r;simp only [colT,List.foldl_cons,Tag] at h1 ⊢;omega
theorem Zl6 {t:Tm} (ht:okTm t):∀ {l:List Tm},ZaD l->ZaD (Zbh t l)
 | [],_=>by simp only [Zbh,ZaD];exact ⟨ht,trivial⟩
 | x::xs,h=>by
  simp only [ZaD] at h;simp only [Zbh];split
  ·simp only [ZaD];exact ⟨h.1,Zl6 ht h.2⟩
  ·split
   ·simp only [ZaD];exact h
   ·simp only [ZaD];exact ⟨ht,h⟩
theorem ZeS:∀ {l r:List Tm},ZaD l->ZaD r->ZaD (colT l r)
 | [],r,_,h=>h
 | x::xs,r,h1,h2=>by
  simp only [ZaD] at h1;exact ZeS (l:=xs) (r:=Zbh x r) h1.2 (Zl6 h1.1 h2)
theorem Zkg:∀ {a b:List Tm},ZaD a->ZaD b->ZaD (a++b)
 | [],_,_,h=>h
 | x::xs,b,h1,h2=>by
  simp only [ZaD] at h1;simp only [Taf,ZaD];exact ⟨h1.1,Zkg h1.2 h2⟩
mutual
theorem Zl7:∀ t:Tm,(Zbc t).length<=1+bulkRow (Zac t)
 | .mk op nm so args=>by
  have:=Zkh args;simp only [Zbc,Zac,bulkRow,ZbG,Zad];split
  ·simp
  ·omega
theorem Zkh:∀ ts:List Tm,(Za0 ts).length<=ts.length+bulkRows (Zaa ts)
 | []=>by simp [Za0]
 | t::ts=>by
  have h1:=Zl7 t;have h2:=Zkh ts;simp only [Za0,Zaa,bulkRows,Tae,Tag];omega
end
theorem ZAt {t:Tm} (h:bulkRow (Zac t)<=1048576):(Zbc t).length<=1048576:=by
 obtain ⟨op,nm,so,args⟩:=t;have:=Zkh args;simp only [Zbc,Zac,bulkRow,ZbG,Zad] at h ⊢;split
 ·simp
 ·omega
theorem Zki:∀ (l:List Tm) (t:Tm),Za0 (l++[t])=Za0 l++Zbc t
 | [],t=>by simp [Za0]
 | x::xs,t=>by simp [Za0,Zki xs t]
theorem Zhq {l:List Tm} {i:Nat} {t:Tm} (h:l[i]?=some t):Za0 (l.take (i+1))=Za0 (l.take i)++Zbc t:=by
 rw [show l.take (i+1)=l.take i++[t] by simp [List.take_add_one,h],Zki]
theorem Zi5:∀ (l:List Tm) (i:Nat),(Za0 (l.take i)).length<=(Za0 l).length
 | [],i=>by simp [Za0]
 | x::xs,0=>by simp [Za0]
 | x::xs,i+1=>by have:=Zi5 xs i;simp only [Tbc,Za0,Tae];omega
def visL (ts args:List Tm) (i:Nat):List Tm:=ts++Za0 (args.take i)
theorem ZFF (ts args:List Tm):visL ts args 0=ts:=by simp [visL,Za0]
theorem ZAu {ts args:List Tm} {i:Nat} {b:Tm} (h:args[i]?=some b):visL ts args (i+1)=visL ts args i++Zbc b:=by
 unfold visL;rw [Zhq h,Tbf]
theorem ZCk (ts args:List Tm):visL ts args args.length=ts++Za0 args:=by unfold visL;rw [Tap]
theorem ktF:Za1 Tryz.prog 120=some .one:=by kernel_rfl
theorem ztF:Za3 Tryz.prog 120=some 1:=by kernel_rfl
theorem otF:ZaX Tryz.prog 120=some [.lit .nilFunc]:=by kernel_rfl
theorem ZAv:Zas (.lit .nilFunc)=true:=rfl
theorem okFn {f:FuncId} {cs:List C}:Zas (.fn f cs)=true:=rfl
theorem Ze2:Zaa []=[]:=by simp [Zaa]
theorem gTPn {X:Prop} {P:Program} {ts:List RS} {R:List D->List Bk->Prop} {σ:St} {r:List D} {pm:List Bk} (ks:List Nat) (hR:R r pm) (hx:ZkB P ts R .normal σ->X:=by first | exact fun h=>h | exact fun h=>⟨_,Wk.refl _,h⟩) (hr:resD P σ ts=some r:=by exact sfy) (hg:getM σ.m ks=some pm:=by exact sny) (hn:ks.Nodup:=by decide) (hp:pm.all pinned=true:=by exact sny):X :=
 hx ⟨r,ks,pm,hg,hn,hp,hR,ZfE hr⟩
def ptr0 (b:Nat):Value:=.pointer (some ⟨b,0,none⟩)
def RVis (bo bv:Nat) (f:FuncId) (ty:Nat) (ts:List Tm) (r:List D) (pm:List Bk):Prop:=∃ a cap,r=[]∧pm=[.var (some bo) [.lit (.slice a ts.length cap)],.buf (some (a,cap)) ty 4 (Zaa ts),.var (some bv) [.fn f [.lit (ptr0 bo),.lit (ptr0 bv)]]]
theorem ZpC (t:Tm) (ts:List Tm) (a:Option Addr) (cap bo bv:Nat) (hne:bo≠bv) (hb:bulkRow (Zac t)<=1048576) (hl:ts.length+(Zbc t).length<=4000000)
  (h:∀ x∈t.args,∀ (us:List Tm) (a:Option Addr) (cap:Nat),us.length+(Zbc x).length<=4000000->ConP e0 77 [.agg (Zac x),.one (.lit (ptr0 bo)),.one (.lit (ptr0 bv))] [.var (some bo) [.lit (.slice a us.length cap)],.buf (some (a,cap)) 46 4 (Zaa us),.var (some bv) [.fn 77 [.lit (ptr0 bo),.lit (ptr0 bv)]]] (RVis bo bv 77 46 (us++Zbc x))) :
  ConP e0 77 [.agg (Zac t),.one (.lit (ptr0 bo)),.one (.lit (ptr0 bv))] [.var (some bo) [.lit (.slice a ts.length cap)],.buf (some (a,cap)) 46 4 (Zaa ts),.var (some bv) [.fn 77 [.lit (ptr0 bo),.lit (ptr0 bv)]]] (RVis bo bv 77 46 (ts++Zbc t)):=by
 obtain ⟨op,nm,so,args⟩:=t;have hc:Zac (.mk op nm so args)=[.lit (.int .i64 op),.lit (.string nm),.lit (.int .i64 so),.sl (Zaa args)]:=by simp only [Zac]
 have hn1:(bo=bv)=False:=eq_false hne;have hn2:(bv=bo)=False:=eq_false (fun e=>hne e.symm);simp only [Tm.args] at h;simp only [Zac,bulkRow,ZbG,Zad] at hb;simp only [ptr0] at h ⊢;refine gIP (ts:=[]) [1001,1000,1002] 15728943 Tryz.func77 ?_;by_cases ho:op=-1
 ·have q1:(op=-1)=True:=eq_true ho;have e1:Zbc (.mk op nm so args)=[.mk (-1) nm so []]:=by simp only [Zbc,if_pos ho]
  rw [e1] at hl ⊢;simp only [Tag,Tak,Nat.zero_add] at hl;have hm:ts.length+1<=maxApp:=by unfold maxApp;omega
  have c1:Zac (.mk (-1) nm so [])=[.lit (.int .i64 (-1)),.lit (.string nm),.lit (.int .i64 so),.sl []]:=by simp only [Zac,Zaa]
  refine fN 2 (aj3 @hc @q1 @tmz) ?_
  have hR:∀ (a2:Option Addr) (cap2:Nat),RVis bo bv 77 46 (ts++[.mk (-1) nm so []]) [] [.var (some bo) [.lit (.slice a2 (ts.length+1) cap2)],.buf (some (a2,cap2)) 46 4 (Zaa ts++[[.lit (.int .i64 (-1)),.lit (.string nm),.lit (.int .i64 so),.sl []]]),.var (some bv) [.fn 77 [.lit (.pointer (some ⟨bo,0,none⟩)),.lit (.pointer (some ⟨bv,0,none⟩))]]]:=fun a2 cap2=>⟨a2,cap2,rfl,by
   rw [show Zaa (ts++[.mk (-1) nm so []])=Zaa ts++[[.lit (.int .i64 (-1)),.lit (.string nm),.lit (.int .i64 so),.sl []]] by rw [ZbB,Tbw,<- ZbB,Tbv,List.map_nil,c1],Tae];rfl⟩
  have a1:(ts.length < ts.length+1)=True:=eq_true (Tan _);have a2:∀ Z:List C,(Zaa ts++[Z])[ts.length]?=some Z:=fun Z=>by rw [Tbq (by rw [Zad];exact Tai _),Zad,Nat.sub_self];rfl
  have a3:∀ Z X:List C,(Zaa ts++[Z]).set ts.length X=Zaa ts++[X]:=fun Z X=>by rw [List.set_append_right _ _ (by rw [Zad];exact Tai _),Zad,Nat.sub_self];rfl
  have F:=aj10 a1 a2 a3 hc q1 @Zkf hm hn1 hn2 tmz;refine ZpX 8 ?_;refine gT1 8 ?_;refine gS 17 fun a2 cap2=>?_;refine ZaJ ?_;refine gT2 9 11 ?_ ?_
  ·refine ZaJ ?_;refine gT2 10 11 ?_ ?_
   ·refine ZaJ ?_;refine gT1 11 ?_;refine ZaJ ?_;refine gT0 ?_
    (refine wkI ?_;(refine fG @tmz ?_);exact (have F:=tmz;gTP [1001,17,1002] (hR a2 cap2)))
   ·refine ZaJ ?_;refine gT1 10 ?_;refine ZaJ ?_;refine gT0 ?_
    (refine wkI ?_;(refine fG @tmz ?_);exact (have F:=tmz;gTP [1001,17,1002] (hR a2 cap2)))
  ·refine ZaJ ?_;refine gT1 9 ?_;refine ZaJ ?_;refine gT1 10 ?_;refine ZaJ ?_;refine gT0 ?_
   (refine wkI ?_;(refine fG @tmz ?_);exact (have F:=tmz;gTP [1001,17,1002] (hR a2 cap2)))
 ·have q1:(op=-1)=False:=eq_false ho;have e1:Zbc (.mk op nm so args)=Za0 args:=by simp only [Zbc,if_neg ho]
  rw [e1] at hl ⊢;have hal:args.length<=1048576:=om;refine fG (aj3 @hc @q1 @tmz) ?_;have F:=@ZFF;refine gL (ι:=Nat × Option Addr × Nat) [5,22,23] [1000,1001,1002] (fun x=>[(22,.d (.one (.lit (.int .i64 (x.1:Int)))))]) (fun x=>[(1001,.var (some bo) [.lit (.slice x.2.1 (visL ts args x.1).length x.2.2)]),(1000,.buf (some (x.2.1,x.2.2)) 46 4 (Zaa (visL ts args x.1))),(1002,.var (some bv) [.fn 77 [.lit (.pointer (some ⟨bo,0,none⟩)),.lit (.pointer (some ⟨bv,0,none⟩))]])]) (fun x=>x.1<=args.length) (fun x=>args.length - x.1) ((0,a,cap)) (Taj _) (fun x hx=>?_);clear F
  obtain ⟨i,a2,cap2⟩:=x;simp only at hx;dsimp only;by_cases hlt:i < args.length
  ·obtain ⟨b,hg⟩:∃ b,args[i]?=some b:=⟨_,Taa hlt⟩;have q2:=lT i args.length;have q4:IntKind.i64.wrap ((i:Int)+1)=(i:Int)+1:=IntWalk.i64_in _ om;have hvt:=Zhq hg;have hle:=Zi5 args (i+1);rw [hvt,Tae] at hle;have hcon:=h b (Tac hg) (visL ts args i) a2 cap2 (by unfold visL;rw [Tae];omega);rw [<- ZAu hg] at hcon;refine fB (aj6 @q2 @hc @Zad @Zbq @hg @tmz) ?_;have F:=aj4 @ktF @hn1 @hn2 @tmz;refine gCP [1001,1000,1002] [1001,1000,1002] (hcon) ?_;clear F
   rintro r pm ⟨a3,cap3,rfl,rfl⟩;simp only [ptr0,setA,retA,zipM,Taf,Tah];refine fR @tmz ?_;have F:=@q4;refine gG ?_;exact ⟨(i+1,a3,cap3),hlt,gw,gw,om⟩
  ·obtain rfl:i=args.length:=by omega
   have q2:=lF args.length args.length;refine fG @q2 ?_;have hR:RVis bo bv 77 46 (ts++Za0 args) [] [.var (some bo) [.lit (.slice a2 (visL ts args args.length).length cap2)],.buf (some (a2,cap2)) 46 4 (Zaa (visL ts args args.length)),.var (some bv) [.fn 77 [.lit (.pointer (some ⟨bo,0,none⟩)),.lit (.pointer (some ⟨bv,0,none⟩))]]]:=by
    rw [<- ZCk];exact ⟨a2,cap2,rfl,rfl⟩
   exact (have F:=tmz;gTPn [1001,1000,1002] hR)
theorem ZrI (bo bv:Nat) (hne:bo≠bv) (n:Nat):∀ (t:Tm),Za7 (Zac t) < n->bulkRow (Zac t)<=1048576->∀ (ts:List Tm) (a:Option Addr) (cap:Nat),ts.length+(Zbc t).length<=4000000->ConP e0 77 [.agg (Zac t),.one (.lit (ptr0 bo)),.one (.lit (ptr0 bv))] [.var (some bo) [.lit (.slice a ts.length cap)],.buf (some (a,cap)) 46 4 (Zaa ts),.var (some bv) [.fn 77 [.lit (ptr0 bo),.lit (ptr0 bv)]]] (RVis bo bv 77 46 (ts++Zbc t)):=by
 induction n with
 | zero=>exact fun _ h=>om
 | succ n ih =>
  intro t hn hb ts a cap hl;refine ZpC t ts a cap bo bv hne hb hl fun x hx us a cap hl2=>ih x ?_ ?_ us a cap hl2
  ·obtain ⟨op,nm,so,args⟩:=t;simp only [Zac,Za7,Zc3] at hn;simp only [Tm.args] at hx;obtain ⟨i,hi⟩:=Tbk hx;have hi':(Zaa args)[i]?=some (Zac x):=by rw [Zbq,hi];rfl
   have h1:=Zcb hi';omega
  ·obtain ⟨op,nm,so,args⟩:=t;simp only [Zac,bulkRow,ZbG] at hb;simp only [Tm.args] at hx;obtain ⟨i,hi⟩:=Tbk hx;have hi':(Zaa args)[i]?=some (Zac x):=by rw [Zbq,hi];rfl
   have h1:=Zco hi';omega
theorem ZrJ (t:Tm) (hb:bulkRow (Zac t)<=1048576):Con e0 31 [.agg (Zac t)] [.one (.sl (Zaa (Zbs t)))]:=by
 have hv:=ZAt hb;refine gI (ts:=[.slot 2]) 31 Tryz.func31 ?_;refine fN 1 @tmz ?_;refine gB ?_;have F:=@tmz;refine gP 1 ?_;clear F;refine gO 5 46 4 ?_;refine gS 5 fun a cap=>?_;refine fR @tmz ?_;refine fN 3 (aj3 @otF @ztF @tmz) ?_;refine pV 3 fun b3 hb3=>?_;refine pV 4 fun b4 hb4=>?_;have hne:b3≠b4:=fun e=>hb4 3 b3 _ (by decide) rfl e.symm;clear hb3 hb4;have hn1:(b3=b4)=False:=eq_false hne;have hn2:(b4=b3)=False:=eq_false (fun e=>hne e.symm)
 refine fN 4 (aj7 @ktF @ztF @ZAv @okFn @hn1 @hn2 @tmz) ?_;refine gB ?_;have hcon:=ZrI b3 b4 hne _ t (Tan _) om [] a cap (by simp;omega);have hdis:=fun (a:Option Addr) (cap:Nat)=>Zjr (Zbc t) om a cap;simp only [ptr0,Tak,Tah,Ze2] at hcon;have F:=aj4 @ktF @hn1 @hn2 @tmz;refine gCP [3,5,4] [3,5,4] (hcon) ?_;clear F;rintro r pm ⟨a2,cap2,rfl,rfl⟩;simp only [ptr0,setA,retA,zipM,Taf,Tah];refine fR @tmz ?_
 refine fB @tmz ?_;have F:=aj3 @hn1 @hn2 @tmz;refine gCP [5] [5] (hdis a2 cap2) ?_;clear F;rintro r pm ⟨rfl,rfl⟩;simp only [setA,retA,zipM,Taf,Tah];refine fR @tmz ?_;refine pD 5 [2] [] ?_ (hs:=by exact snv);exact fD @tmz
theorem ZAw (nm:ByteArray) (so:Int):Con e0 107 [.one (.lit (.string nm)),.one (.lit (.int .i64 so))] [.agg (Zac (.mk (-1) nm so []))]:=by
 have c1:Zac (.mk (-1) nm so [])=[.lit (.int .i64 (-1)),.lit (.string nm),.lit (.int .i64 so),.sl []]:=by simp only [Zac,Zaa]
 rw [c1];refine gI (ts:=[.cell 4 46]) 19 Tryz.func107 ?_;exact fD @e0P
theorem ZAx {e:Env} {f:FuncId} {a:D} {rows:List (List C)} {r:List D} (h:Con e f [a,.one (.sl rows)] r):Con e f [a,.clip rows] r :=
 ⟨h.1,fun w S vs h1 h2 h3 h4=>h.2 w S vs h1 h2 h3 (by
  match vs,h4 with
  | [x,y],h4=>exact ⟨h4.1,h4.2.1.1,trivial⟩)⟩
theorem ZrK {op so:Int} {nm:ByteArray} {args:List Tm} (h:okTm (.mk op nm so args)):okTm (.mk (-1) nm so []):=by
 simp only [okTm,ZaD,and_true] at h ⊢;exact ⟨by unfold I64;omega,h.2.1,h.2.2.1⟩
mutual
theorem ZAy:∀ {t:Tm},okTm t->ZaD (Zbc t)
 | .mk op nm so args,h=>by
  simp only [Zbc];split
  ·simp only [ZaD];exact ⟨ZrK h,trivial⟩
  ·simp only [okTm] at h;exact Zi6 h.2.2.2
theorem Zi6:∀ {l:List Tm},ZaD l->ZaD (Za0 l)
 | [],_=>by simp [Za0,ZaD]
 | x::xs,h=>by
  simp only [ZaD] at h;simp only [Za0];exact Zkg (ZAy h.1) (Zi6 h.2)
end
theorem Zi7:∀ {l:List Tm} (i:Nat),ZaD l->ZaD (l.take i)
 | [],_,_=>by simp [ZaD]
 | x::xs,0,_=>by simp [ZaD]
 | x::xs,i+1,h=>by
  simp only [ZaD] at h;simp only [Tbc,ZaD];exact ⟨h.1,Zi7 i h.2⟩
theorem Zl8 (t:Tm) (ts:List Tm) (ht:okTm t) (hts:ZaD ts) (hb:bulkRow (Zac t)<=1048576) (hl:ts.length+(Zbc t).length<=7000000) (h:∀ x∈t.args,∀ us:List Tm,ZaD us->us.length+(Zbc x).length<=7000000->Con e0 54 [.agg (Zac x),.one (.sl (Zaa us))] [.one (.sl (Zaa (colT (Zbc x) us)))]) :
  Con e0 54 [.agg (Zac t),.one (.sl (Zaa ts))] [.one (.sl (Zaa (colT (Zbc t) ts)))]:=by
 obtain ⟨op,nm,so,args⟩:=t;have hc:Zac (.mk op nm so args)=[.lit (.int .i64 op),.lit (.string nm),.lit (.int .i64 so),.sl (Zaa args)]:=by simp only [Zac]
 simp only [Tm.args] at h;simp only [Zac,bulkRow,ZbG,Zad] at hb;refine gI (ts:=[.slot 4]) 1048887 Tryz.func54 ?_;by_cases ho:op=-1
 ·have q1:(op=-1)=True:=eq_true ho;have e1:Zbc (.mk op nm so args)=[.mk (-1) nm so []]:=by simp only [Zbc,if_pos ho]
  rw [e1] at hl ⊢;simp only [Tag,Tak,Nat.zero_add] at hl;have hI:=ZeD ts (.mk (-1) nm so []) hts (ZrK ht) om;refine fB (aj3 @hc @q1 @tmz) ?_;refine fC @hc (ZAw nm so) ?_;refine fC @hc (hI) ?_;refine fR @hc ?_;simp only [colT,List.foldl_cons,List.foldl_nil];exact fD @tmz
 ·have q1:(op=-1)=False:=eq_false ho;have e1:Zbc (.mk op nm so args)=Za0 args:=by simp only [Zbc,if_neg ho]
  rw [e1] at hl ⊢;have hk:ZaD args:=by simp only [okTm] at ht;exact ht.2.2.2
  refine fG (aj3 @hc @q1 @tmz) ?_;have F:=ai ((fun (r:List Tm)=>(colT_nil0:colT (Za0 []) r=r))) @tmz;refine gL (ι:=Nat) [1,5,20] [] (fun x=>[(5,.d (.one (.lit (.int .i64 (x:Int))))),(1,.d (.one (.sl (Zaa (colT (Za0 (args.take x)) ts)))))]) (fun x=>[]) (fun x=>x<=args.length) (fun x=>args.length - x) (0) (Taj _) (fun x hx=>?_);clear F;by_cases hlt:x < args.length
  ·obtain ⟨b,hg⟩:∃ b,args[x]?=some b:=⟨_,Taa hlt⟩;have q2:=lT x args.length;have q4:IntKind.i64.wrap ((x:Int)+1)=(x:Int)+1:=IntWalk.i64_in _ om;have hvt:=Zhq hg;have hle:=Zi5 args (x+1);rw [hvt,Tae] at hle;have hcl:=Zdn (Za0 (args.take x)) ts;have hcon:=h b (Tac hg) (colT (Za0 (args.take x)) ts) (ZeS (Zi6 (Zi7 x hk)) hts) om;rw [<- ZfL,<- hvt] at hcon;refine fB (aj3 @q2 @hc @tmz) ?_;refine fC (aj4 @q2 @hc @hg @tmz) (hcon) ?_
   refine fR @tmz ?_;have F:=@q4;refine gG ?_;exact ⟨x+1,hlt,gw,gw,om⟩
  ·obtain rfl:x=args.length:=by omega
   have q2:=lF args.length args.length;rw [Tap];exact fD (aj3 @q2 @hc @tmz)
theorem Znn (n:Nat):∀ t:Tm,Za7 (Zac t) < n->okTm t->bulkRow (Zac t)<=1048576->∀ ts:List Tm,ZaD ts->ts.length+(Zbc t).length<=7000000->Con e0 54 [.agg (Zac t),.one (.sl (Zaa ts))] [.one (.sl (Zaa (colT (Zbc t) ts)))]:=by
 induction n with
 | zero=>exact fun _ h=>om
 | succ n ih =>
  intro t hn ht hb ts hts hl;refine Zl8 t ts ht hts hb hl fun x hx us hus hl2=>?_;obtain ⟨op,nm,so,args⟩:=t;simp only [Zac,Za7,Zc3] at hn;simp only [Zac,bulkRow,ZbG] at hb;simp only [okTm] at ht;simp only [Tm.args] at hx;obtain ⟨i,hi⟩:=Tbk hx;have hi':(Zaa args)[i]?=some (Zac x):=by rw [Zbq,hi];rfl
  have h1:=Zcb hi';have h2:=Zco hi';exact ih x om (ht.2.2.2.mem hx) om us hus hl2
theorem ZrL {t:Tm} (ht:okTm t) (hb:bulkRow (Zac t)<=1048576):Con e0 21 [.agg (Zac t)] [.one (.sl (Zaa (Zbs t)))]:=by
 have hv:=Zl7 t;have hcon:=Znn _ t (Tan _) ht hb [] trivial (by simp;omega);have hcon:=ZAx (by rw [Ze2] at hcon;exact hcon);rw [show colT (Zbc t) []=Zbs t from rfl] at hcon;refine gI (ts:=[.slot 2]) 7 Tryz.func21 ?_;refine fB @tmz ?_;refine fC @tmz (hcon) ?_;refine fR @tmz ?_;exact fD @tmz
theorem pFz {e:Env} {mask:Nat} {Q:PX->St->Prop} {c:Code} {σ σ1:St} (ks:List Nat) (hK:pwp e mask c σ1 Q) (hf:frzs ks σ=σ1:=by exact snv):pwp e mask c σ Q :=
 Zcp (Zd2 ks hf) fun σ' h=>by subst h;exact hK
def pkTo {α:Type} (m:Nat) (l:List α):Nat->List α
 | 0=>[]
 | i+1=>pkTo m l i++(if tbit m i then (l[i]?).toList else [])
def Zbi {α:Type} (m:Nat) (l:List α):List α:=pkTo m l l.length
theorem ZCl {α:Type} {m:Nat} {l:List α} {i:Nat} {x:α} (h:l[i]?=some x) (hb:tbit m i=true):pkTo m l (i+1)=pkTo m l i++[x]:=by simp [pkTo,hb,h]
theorem Zob {α:Type} {m:Nat} {l:List α} {i:Nat} (hb:tbit m i=false):pkTo m l (i+1)=pkTo m l i:=by simp [pkTo,hb]
theorem ZfM {α:Type} (m:Nat) (l:List α):∀ i,(pkTo m l i).length<=i
 | 0=>Tai _
 | i+1=>by
  have:=ZfM m l i;simp only [pkTo,Tae];split
  ·cases l[i]? <;> simp <;> omega
  ·simp;omega
theorem ZrM {α β:Type} (f:α->β) (m:Nat) (l:List α):∀ i,pkTo m (l.map f) i=(pkTo m l i).map f
 | 0=>rfl
 | i+1=>by
  simp only [pkTo,Tbw,ZrM f m l i,Tba];split
  ·cases l[i]? <;> simp
  ·simp
theorem ZrN {α:Type} (m:Nat) (l:List α):∀ i,(pkTo m l i).Sublist (l.take i)
 | 0=>by simp [pkTo]
 | i+1=>by
  rw [List.take_add_one];simp only [pkTo];refine (ZrN m l i).append ?_;split
  ·exact List.Sublist.refl _
  ·exact List.nil_sublist _
theorem Zkj {α:Type} (m:Nat) (l:List α):(Zbi m l).Sublist l:=by
 have h:=ZrN m l l.length
 rwa [Tap] at h
theorem pk_0 (m:Nat) (ts:List Tm):Zaa (pkTo m ts 0)=[]:=Ze2
theorem ZAz {m:Nat} {ts:List Tm} {i:Nat} {t:Tm} (h:ts[i]?=some t) (hb:tbit m i=true):Zaa (pkTo m ts (i+1))=Zaa (pkTo m ts i)++[Zac t]:=by rw [ZCl h hb,Zb8,ZdE]
theorem ZCm {m:Nat} (hm:m < 4611686018427387904) (ts:List Tm) (hl:ts.length<=60):Con e0 74 [.one (.sl (Zaa ts)),.one (.lit (.int .i64 m))] [.one (.sl (Zaa (Zbi m ts)))]:=by
 refine gI 1056499 Tryz.func74 ?_;refine fG @tmz ?_;have F:=((pk_0 m ts));refine gL (ι:=Nat) [5,6,7,11,12,20] [5] (fun i=>[(11,A.d (.one (.lit (.int .i64 i)))),(5,.buf 5)]) (fun i=>[(5,.buf none 46 4 (Zaa (pkTo m ts i)))]) (fun i=>i<=ts.length) (fun i=>ts.length - i) (0) (Taj _) (fun i hi=>?_);clear F;by_cases hlt:i < ts.length
 ·obtain ⟨t,ht⟩:∃ t,ts[i]?=some t:=⟨_,Taa hlt⟩;have q1:=lT i ts.length;have hw:=Zau (k:=i) om;have h1:=Zfq (k:=i) om;have h2:=ZkG (x:=m) (k:=i) hm om;have l1:ZaC 4 (Zaa (pkTo m ts i))=true:=ZdR _;have l2:((Zaa (pkTo m ts i)).length+1<=maxApp)=True:=eq_true (by rw [Zad];have:=ZfM m ts i;unfold maxApp;omega);have l3:((pkTo m ts i).length+1<=maxApp)=True:=eq_true (by have:=ZfM m ts i;unfold maxApp;omega)
  cases hb:tbit m i with
  | false =>
   rw [hb] at h2;have e:=Zob (l:=ts) hb;rw [<- e];have F:=aj7 @q1 @h1 @h2 @Zap @ht @tmz @hw;refine gG ?_;exact ⟨i+1,hlt,gw,gw,om⟩
  | true =>
   rw [hb] at h2;have e:=ZAz ht hb;have F:=aj11 @q1 @h1 @h2 @Zap @ht @l1 @l2 @l3 @tmz @e @hw;refine gG ?_;exact ⟨i+1,hlt,gw,gw,om⟩
 ·obtain rfl:i=ts.length:=by omega
  have q1:¬ ((ts.length:Int) < (ts.length:Int)):=om;rw [Zbi];refine fG @q1 ?_;have F:=@tmz;refine gG ?_;exact gTz [4]
def rowI (m:Int):Bool:=decide (bits .and .i64 (IntKind.i64.wrap (m+bits .and .i64 m (IntKind.i64.wrap (-m)))) m=0)
theorem ZFG (m:Int):decide (bits .and .i64 (IntKind.i64.wrap (m+bits .and .i64 m (IntKind.i64.wrap (-m)))) m=0)=rowI m:=rfl
theorem ZAA (m:Int):Con e0 75 [.one (.lit (.int .i64 m))] [.one (.lit (.bool (rowI m)))]:=by
 refine gI 13 Tryz.func75 ?_;exact fT (ai @ZFG @tmz)
def mskL {α:Type} (F:Nat->List α):Nat->List α
 | 0=>[]
 | k+1=>mskL F k++F k
theorem ZeE {α:Type} {F:Nat->List α} {x:α}:∀ {k:Nat},x∈mskL F k ↔ ∃ m,m < k∧x∈F m
 | 0=>by simp [mskL]
 | k+1=>by
  simp only [mskL,Tbh,ZeE (k:=k)];constructor
  ·rintro (⟨m,h1,h2⟩ | h)
   ·exact ⟨m,om,h2⟩
   ·exact ⟨k,om,h⟩
  ·rintro ⟨m,h1,h2⟩;by_cases e:m=k
   ·subst e;exact .inr h2
   ·exact .inl ⟨m,om,h2⟩
theorem Zpe {α:Type} (F:Nat->List α) {j k:Nat} (h:j<=k):(mskL F j).length<=(mskL F k).length:=by
 induction k with
 | zero => obtain rfl : j = 0 := by omega
           exact Tai _
 | succ k ih =>
  by_cases e:j=k+1
  ·subst e;exact Tai _
  ·have:=ih om;simp only [mskL,Tae];omega
theorem ZEX {α:Type} (l:List α):Zbi 0 l=[]:=by
 unfold Zbi;generalize l.length=n
 induction n with
 | zero=>rfl
 | succ n ih=>rw [Zob (by simp [tbit]),ih]
theorem Zkk {α β:Type} (f:α->β) (m:Nat) (l:List α):Zbi m (l.map f)=(Zbi m l).map f:=by
 unfold Zbi;rw [Tay,ZrM]
theorem Zpf {α:Type} (m:Nat) (l:List α):(Zbi m l).length=(Zbi m (List.range l.length)).length:=by
 have h1:(Zbi m (l.map fun _=>())).length=(Zbi m l).length:=by rw [Zkk,Tay]
 have h2:(Zbi m ((List.range l.length).map fun _=>())).length=(Zbi m (List.range l.length)).length:=by rw [Zkk,Tay]
 rw [<- h1,<- h2];congr 2;apply List.ext_getElem <;> simp
def ZbK (op:Int) (P:Nat->Bool) (ts:List Tm) (m:Nat):List Tm:=if 2<=(Zbi m ts).length∧P m=true then [.mk op ByteArray.empty 0 (Zbi m ts)] else []
theorem ZrO (op:Int) (P:Nat->Bool) (ts:List Tm):ZbK op P ts 0=[]:=by
 rw [ZbK,ZEX];exact if_neg fun h=>absurd h.1 (by decide)
theorem Zno {op:Int} {P:Nat->Bool} {ts:List Tm} {m:Nat} (h:2<=(Zbi m ts).length) (hp:P m=true):ZbK op P ts m=[.mk op ByteArray.empty 0 (Zbi m ts)]:=if_pos ⟨h,hp⟩
theorem Zpg {op:Int} {P:Nat->Bool} {ts:List Tm} {m:Nat} (h:¬ (2<=(Zbi m ts).length∧P m=true)):ZbK op P ts m=[]:=if_neg h
def cnt2 (n:Nat) (m:Nat):List Unit:=if 2<=(Zbi m (List.range n)).length then [()] else []
theorem ZEY:∀ n,n<=7->(mskL (cnt2 n) (2 ^ n)).length<=18 * n:=by decide +kernel
theorem Zkl (op:Int) (P:Nat->Bool) {ts:List Tm} (h:ts.length<=7):(mskL (ZbK op P ts) (2 ^ ts.length)).length<=18 * ts.length:=by
 refine Tbe ?_ (ZEY _ h);generalize 2 ^ ts.length=k
 induction k with
 | zero=>exact Tai _
 | succ k ih =>
  simp only [mskL,Tae];refine Nat.add_le_add ih ?_;unfold ZbK cnt2;rw [<- Zpf];by_cases h2:2<=(Zbi k ts).length
  ·rw [if_pos h2];split <;> simp
  ·rw [if_neg h2,if_neg fun h=>h2 h.1];exact Tai _
def rowP (cm:Bool) (m:Nat):Bool:=cm || rowI (m:Int)
def ZaU (g:Sgn) (op:Int) (ts:List Tm):List Tm:=if op < 0 then [] else match g.ops[op.toNat]? with
 | none=>[]
 | some o=>if o.assoc=true then mskL (ZbK op (rowP o.comm) ts) (2 ^ ts.length) else []
def ivJ (op:Int) (ts:List Tm) (i k:Nat):List Tm:=mskL (fun k=>[.mk op ByteArray.empty 0 ((ts.take (i+2+k)).drop i)]) k
def ivI (op:Int) (ts:List Tm) (i:Nat):List Tm:=mskL (fun i=>ivJ op ts i (ts.length - (i+1))) i
def Zbp (g:Sgn) (op:Int) (ts:List Tm):List Tm:=if op < 0 then [] else match g.ops[op.toNat]? with
 | none=>[]
 | some o=>if o.assoc=true then (if o.comm=true then mskL (ZbK op (fun _=>true) ts) (2 ^ ts.length) else ivI op ts ts.length) else []
mutual
def Zby (W:Int->List Tm->List Tm):Tm->List Tm
 | .mk op nm so args=>.mk op nm so args::(Zba W args++W op args)
def Zba (W:Int->List Tm->List Tm):List Tm->List Tm
 | []=>[]
 | t::ts=>Zby W t++Zba W ts
end
theorem ZlC (W:Int->List Tm->List Tm):∀ (l:List Tm) (t:Tm),Zba W (l++[t])=Zba W l++Zby W t
 | [],t=>by simp [Zba]
 | x::xs,t=>by simp [Zba,ZlC W xs t]
theorem Zh1 {W:Int->List Tm->List Tm} {l:List Tm} {i:Nat} {t:Tm} (h:l[i]?=some t):Zba W (l.take (i+1))=Zba W (l.take i)++Zby W t:=by
 rw [show l.take (i+1)=l.take i++[t] by simp [List.take_add_one,h],ZlC]
theorem Zkm (W:Int->List Tm->List Tm):∀ (l:List Tm) (i:Nat),(Zba W (l.take i)).length<=(Zba W l).length
 | [],i=>by simp [Zba]
 | x::xs,0=>by simp [Zba]
 | x::xs,i+1=>by have:=Zkm W xs i;simp only [Tbc,Zba,Tae];omega
def Zbz (l:List Opr) (i:Nat):List Tm:=(l.take i).flatMap fun o=>if o.unit=0 then [] else [Zbd o]
theorem Zva (l:List Opr):Zbz l 0=[]:=by simp [Zbz]
theorem Zph {l:List Opr} {i:Nat} {o:Opr} (h:l[i]?=some o) (hu:¬ o.unit=0):Zbz l (i+1)=Zbz l i++[Zbd o]:=by simp [Zbz,List.take_add_one,h,hu]
theorem ZrP {l:List Opr} {i:Nat} {o:Opr} (h:l[i]?=some o) (hu:o.unit=0):Zbz l (i+1)=Zbz l i:=by simp [Zbz,List.take_add_one,h,hu]
theorem Zkn (l:List Opr) (i:Nat):(Zbz l i).length<=l.length:=by
 unfold Zbz;have h:∀ r:List Opr,(r.flatMap fun o=>if o.unit=0 then [] else [Zbd o]).length<=r.length:=fun r=>by
  induction r with
  | nil=>simp
  | cons o r ih =>
   simp only [List.flatMap_cons,Tae,Tag];generalize (r.flatMap fun o=>if o.unit=0 then [] else [Zbd o]).length=x at ih ⊢;split
   ·simp only [Tak];omega
   ·simp only [Tag,Tak];omega
 have:=h (l.take i);rw [Taw] at this;omega
def ZbQ (g:Sgn) (t:Tm):List Tm:=Zc5 (Zbz g.ops g.ops.length++Zby (ZaU g) t)
def Zp1 (g:Sgn) (t:Tm):List Tm:=Zc5 (Zby (Zbp g) t++Zbz g.ops g.ops.length)
def ixM (n m:Nat):List Nat:=Zbi m (List.range n)
theorem Zvb {α:Type} {l:List α} {d:α}:l=(List.range l.length).map fun i=>l.getD i d:=by
 apply List.ext_getElem
 ·simp
 ·intro i h1 h2;simp at h2;simp [List.getD,h2]
theorem ZD9 {m:Nat} (ts:List Tm) (d:Tm):Zbi m ts=(ixM ts.length m).map fun i=>ts.getD i d:=by
 conv=>lhs;rw [Zvb (l:=ts) (d:=d)]
 rw [Zkk];rfl
theorem ZEa (ts:List Tm) (d:Tm) (i j:Nat):(ts.take j).drop i=(((List.range ts.length).take j).drop i).map fun i=>ts.getD i d:=by
 conv=>lhs;rw [Zvb (l:=ts) (d:=d)]
 rw [List.map_drop,List.map_take]
theorem ZFH:∀ n,n<=7->∀ m,m < 2 ^ n->2<=(ixM n m).length->rowI (m:Int)=true->∃ i,i < n∧∃ k,k < n - (i+1)∧ixM n m=((List.range n).take (i+2+k)).drop i:=by decide +kernel
theorem ZFI:∀ n,n<=7->∀ i,i < n->∀ k,k < n - (i+1)->∃ m,m < 2 ^ n∧2<=(ixM n m).length∧rowI (m:Int)=true∧ixM n m=((List.range n).take (i+2+k)).drop i:=by decide +kernel
theorem Zi8 {op:Int} {P:Nat->Bool} {ts:List Tm} {m:Nat} {x:Tm}:x∈ZbK op P ts m ↔ 2<=(Zbi m ts).length∧P m=true∧x=.mk op ByteArray.empty 0 (Zbi m ts):=by
 unfold ZbK;by_cases h:2<=(Zbi m ts).length∧P m=true
 ·rw [if_pos h];simp [h.1,h.2]
 ·rw [if_neg h];constructor
  ·intro h;cases h
  ·exact fun h'=>absurd ⟨h'.1,h'.2.1⟩ h
theorem ZAB {op:Int} {ts:List Tm} {x:Tm}:x∈ivI op ts ts.length ↔ ∃ i,i < ts.length∧∃ k,k < ts.length - (i+1)∧x=.mk op ByteArray.empty 0 ((ts.take (i+2+k)).drop i):=by
 unfold ivI ivJ;rw [ZeE];refine exists_congr fun i=>and_congr_right fun hi=>?_;rw [ZeE];refine exists_congr fun k=>and_congr_right fun hk=>?_;simp
theorem ZAC (ts:List Tm) (m:Nat):(Zbi m ts).length=(ixM ts.length m).length:=Zpf m ts
theorem ZCn {op:Int} {ts:List Tm} (h:ts.length<=7) {x:Tm}:x∈mskL (ZbK op (rowP false) ts) (2 ^ ts.length) ↔ x∈ivI op ts ts.length:=by
 rw [ZeE,ZAB];constructor
 ·rintro ⟨m,h1,h2⟩;obtain ⟨h3,h4,rfl⟩:=Zi8.1 h2;rw [ZAC] at h3;obtain ⟨i,hi,k,hk,e⟩:=ZFH _ h m h1 h3 (by simpa [rowP] using h4);exact ⟨i,hi,k,hk,by rw [ZD9 ts (.mk 0 ByteArray.empty 0 []),e,<- ZEa]⟩
 ·rintro ⟨i,hi,k,hk,rfl⟩;obtain ⟨m,h1,h2,h3,e⟩:=ZFI _ h i hi k hk;exact ⟨m,h1,Zi8.2 ⟨by rw [ZAC];exact h2,by simpa [rowP] using h3,by rw [ZD9 ts (.mk 0 ByteArray.empty 0 []),e,<- ZEa]⟩⟩
section
variable {g:Sgn}
theorem ZaF.args7 {t:Tm} (h:ZaF g t) {o:Opr} (h0:¬ t.op < 0) (ho:g.ops[t.op.toNat]?=some o) (ha:o.assoc=true):2<=t.args.length∧t.args.length<=7:=by
 obtain ⟨o',d,hA⟩:=h.node.app om;have e:=hA.at';rw [ho] at e;injection e with e
 subst e;exact hA.asc ha
theorem ZAD {op:Int} {nm:ByteArray} {so:Int} {ts:List Tm} (h:ZaF g (.mk op nm so ts)) {x:Tm}:x∈ZaU g op ts ↔ x∈Zbp g op ts:=by
 unfold ZaU Zbp;by_cases h0:op < 0
 ·rw [if_pos h0,if_pos h0]
 rw [if_neg h0,if_neg h0]
 cases ho:g.ops[op.toNat]? with
 | none=>exact Iff.rfl
 | some o =>
  simp only;by_cases ha:o.assoc=true
  ·rw [if_pos ha,if_pos ha]
   cases hc:o.comm with
   | true=>rw [if_pos rfl];exact Iff.rfl
   | false =>
    rw [if_neg (by simp)];exact ZCn (h.args7 h0 ho ha).2
  ·rw [if_neg ha,if_neg ha]
mutual
theorem Zpi {x:Tm}:∀ {t:Tm},ZaF g t->(x∈Zby (ZaU g) t ↔ x∈Zby (Zbp g) t)
 | .mk op nm so args,h=>by
  have e:=Znp (x:=x) (ZeY.2 (ZaY.1 h).2.1);simp only [Tm.args] at e;simp only [Zby,Tbg,Tbh,ZAD h,e]
theorem Znp {x:Tm}:∀ {ts:List Tm},ZcA g ts->(x∈Zba (ZaU g) ts ↔ x∈Zba (Zbp g) ts)
 | [],_=>Iff.rfl
 | t::ts,h=>by
  simp only [ZcA] at h;simp only [Zba,Tbh,Zpi h.1,Znp h.2]
end
theorem ZAE {t:Tm} (h:ZaF g t):ZbQ g t=Zp1 g t :=
 (ZdB _).ext (ZdB _) fun x=>by
  unfold Zp1;rw [Zdd,Zdd,Tbh,Tbh,Zpi h,or_comm]
theorem Zwg {op:Int} {nm:ByteArray} {so:Int} {ts:List Tm} (h:ZaF g (.mk op nm so ts)):(ZaU g op ts).length<=18 * ts.length:=by
 unfold ZaU;by_cases h0:op < 0
 ·rw [if_pos h0];exact Taj _
 rw [if_neg h0]
 cases ho:g.ops[op.toNat]? with
 | none=>exact Taj _
 | some o =>
  simp only;by_cases ha:o.assoc=true
  ·rw [if_pos ha];exact Zkl _ _ (h.args7 h0 ho ha).2
  ·rw [if_neg ha];exact Taj _
mutual
theorem Zko {W:Int->List Tm->List Tm} (hW:∀ {op:Int} {nm:ByteArray} {so:Int} {ts:List Tm},ZaF g (.mk op nm so ts)->(W op ts).length<=18 * ts.length):∀ {t:Tm},ZaF g t->(Zby W t).length+18<=19 * sizeTm t
 | .mk op nm so args,h=>by
  have h1:=Znq hW (ZeY.2 (ZaY.1 h).2.1);have h2:=hW h;simp only [Tm.args] at h1;simp only [Zby,sizeTm,Tag,Tae];omega
theorem Znq {W:Int->List Tm->List Tm} (hW:∀ {op:Int} {nm:ByteArray} {so:Int} {ts:List Tm},ZaF g (.mk op nm so ts)->(W op ts).length<=18 * ts.length):∀ {ts:List Tm},ZcA g ts->(Zba W ts).length+18 * ts.length<=19 * sizeTms ts
 | [],_=>by simp [Zba]
 | t::ts,h=>by
  simp only [ZcA] at h;have h1:=Zko hW h.1;have h2:=Znq hW h.2;simp only [Zba,sizeTms,Tag,Tae];omega
end
theorem Zpj {t:Tm} (h:ZaF g t):(Zby (ZaU g) t).length+18<=19 * sizeTm t:=Zko Zwg h
theorem Zoc {α:Type} {F:Nat->List α} {n:Nat} (h:∀ m,(F m).length<=n):∀ k,(mskL F k).length<=k * n
 | 0=>by simp [mskL]
 | k+1=>by
  have:=Zoc h k;have:=h k;simp only [mskL,Tae,Nat.succ_mul];omega
theorem Zvc (op:Int) (ts:List Tm) (i k:Nat):(ivJ op ts i k).length<=k:=by
 have:=Zoc (F:=fun k=>[Tm.mk op ByteArray.empty 0 ((ts.take (i+2+k)).drop i)]) (n:=1) (fun _=>Tai _) k
 rwa [Nat.mul_one] at this
theorem Zvd (op:Int) (ts:List Tm) (i:Nat):(ivI op ts i).length<=i * ts.length :=
 Zoc (fun m=>Tbe (Zvc op ts m _) (Nat.sub_le _ _)) i
theorem Zwh {op:Int} {nm:ByteArray} {so:Int} {ts:List Tm} (h:ZaF g (.mk op nm so ts)):(Zbp g op ts).length<=18 * ts.length:=by
 unfold Zbp;by_cases h0:op < 0
 ·rw [if_pos h0];exact Taj _
 rw [if_neg h0]
 cases ho:g.ops[op.toNat]? with
 | none=>exact Taj _
 | some o =>
  simp only;by_cases ha:o.assoc=true
  ·rw [if_pos ha];have h7:ts.length<=7:=(h.args7 h0 ho ha).2;split
   ·exact Zkl _ _ h7
   ·exact Tbe (Zvd op ts _) (Nat.mul_le_mul_right _ om)
  ·rw [if_neg ha];exact Taj _
theorem ZAF {t:Tm} (h:ZaF g t):(Zby (Zbp g) t).length+18<=19 * sizeTm t:=Zko Zwh h
end
theorem Zl9 (l:List Tm):(Zc5 l).length<=l.length:=by have:=Zdn l [];simpa [colT,Zc5] using this
theorem Zwi (t:Tm):(Zbs t).length<=1+bulkRow (Zac t):=Tbe (Zl9 _) (Zl7 t)
theorem ZCo {a b:List Tm} (h:a.Sublist b):a.length+bulkRows (Zaa a)<=b.length+bulkRows (Zaa b):=by
 induction h with
 | slnil=>exact Tai _
 | cons x h ih=>simp only [Zaa,bulkRows,Tag];omega
 | cons_cons x h ih=>simp only [Zaa,bulkRows,Tag];omega
theorem ZCp {l:List Tm} {B:Nat} (h:∀ x∈l,bulkRow (Zac x)<=B):bulkRows (Zaa l)<=l.length * B:=by
 induction l with
 | nil=>simp [Zaa,bulkRows]
 | cons x l ih =>
  have h1:=h x Tas;have h2:=ih fun y hy=>h y (Tal _ hy);simp only [Zaa,bulkRows,Tag,Nat.succ_mul];omega
section
variable {g:Sgn}
theorem Zkp {op:Int} {P:Nat->Bool} {ts:List Tm} {k:Nat} {x:Tm} (h:x∈mskL (ZbK op P ts) k):∃ us:List Tm,us.Sublist ts∧x=.mk op ByteArray.empty 0 us:=by
 obtain ⟨m,_,hm⟩:=ZeE.1 h;exact ⟨_,Zkj m ts,(Zi8.1 hm).2.2⟩
theorem Zwj {op:Int} {ts:List Tm} {x:Tm} (h:x∈ZaU g op ts):∃ us:List Tm,us.Sublist ts∧x=.mk op ByteArray.empty 0 us:=by
 unfold ZaU at h;split at h
 ·cases h
 ·split at h
  ·cases h
  ·split at h
   ·exact Zkp h
   ·cases h
theorem Znr {op:Int} {ts:List Tm} {x:Tm} (h:x∈Zbp g op ts):∃ us:List Tm,us.Sublist ts∧x=.mk op ByteArray.empty 0 us:=by
 unfold Zbp at h;split at h
 ·cases h
 ·split at h
  ·cases h
  ·split at h
   ·split at h
    ·exact Zkp h
    ·obtain ⟨i,_,k,_,rfl⟩:=ZAB.1 h;exact ⟨_,(List.drop_sublist _ _).trans (List.take_sublist _ _),rfl⟩
   ·cases h
mutual
theorem ZhP {W:Int->List Tm->List Tm} (P:Tm->Prop) (hW:∀ op nm so ts,P (.mk op nm so ts)->∀ x∈W op ts,P x) (hA:∀ op nm so ts,P (.mk op nm so ts)->∀ a∈ts,P a):∀ {t:Tm},P t->∀ x∈Zby W t,P x
 | .mk op nm so args,h,x,hx=>by
  simp only [Zby,Tbg,Tbh] at hx;rcases hx with rfl | hx | hx
  ·exact h
  ·exact Zns P hW hA (hA op nm so args h) x hx
  ·exact hW op nm so args h x hx
theorem Zns {W:Int->List Tm->List Tm} (P:Tm->Prop) (hW:∀ op nm so ts,P (.mk op nm so ts)->∀ x∈W op ts,P x) (hA:∀ op nm so ts,P (.mk op nm so ts)->∀ a∈ts,P a):∀ {ts:List Tm},(∀ a∈ts,P a)->∀ x∈Zba W ts,P x
 | [],_,x,hx=>by simp only [Zba] at hx;cases hx
 | t::ts,h,x,hx=>by
  simp only [Zba,Tbh] at hx;rcases hx with hx | hx
  ·exact ZhP P hW hA (h t Tas) x hx
  ·exact Zns P hW hA (fun a ha=>h a (Tal _ ha)) x hx
end
theorem Zwk {t:Tm} {B:Nat} (h:bulkRow (Zac t)<=B):∀ x∈Zby (ZaU g) t,bulkRow (Zac x)<=B :=
 ZhP (fun x=>bulkRow (Zac x)<=B) (fun op nm so ts h x hx=>by
  obtain ⟨us,hs,rfl⟩:=Zwj hx;have:=ZCo hs;rw [ZkS] at h ⊢;have:ByteArray.empty.size=0:=rfl;omega) (fun op nm so ts h a ha=>by
  obtain ⟨i,hi⟩:=Tbk ha;have hi':(Zaa ts)[i]?=some (Zac a):=by rw [Zbq,hi];rfl
  have:=Zco hi';rw [ZkS] at h;omega) h
theorem Zve {W:Int->List Tm->List Tm} (hW:∀ {op:Int} {ts:List Tm} {x:Tm},x∈W op ts->∃ us:List Tm,us.Sublist ts∧x=.mk op ByteArray.empty 0 us) {t:Tm} (h:okTm t):ZaD (Zby W t) :=
 ZcS.2 (ZhP okTm (fun op nm so ts h x hx=>by
  obtain ⟨us,hs,rfl⟩:=hW hx;simp only [okTm] at h ⊢;exact ⟨h.1,by simp [maxLen],⟨by decide,by decide⟩,ZcS.2 fun a ha=>ZcS.1 h.2.2.2 a (hs.subset ha)⟩) (fun op nm so ts h a ha=>by
  simp only [okTm] at h;exact h.2.2.2.mem ha) h)
theorem Zpk {l:List Opr} {i:Nat} {x:Tm} (h:x∈Zbz l i):∃ o∈l,x=Zbd o:=by
 unfold Zbz at h;obtain ⟨o,ho,hx⟩:=List.mem_flatMap.1 h;refine ⟨o,List.mem_of_mem_take ho,?_⟩;split at hx
 ·cases hx
 ·simpa using hx
theorem ZCq (hg:SgnOk g) (i:Nat):ZaD (Zbz g.ops i) :=
 ZcS.2 fun x hx=>by
  obtain ⟨o,ho,rfl⟩:=Zpk hx;have hax:=hg.axs o ho;have:=hax.hi;have:=hg.len;exact ZhJ hax.lo om
theorem ZAH (o:Opr):bulkRow (Zac (Zbd o))=0:=by rw [Zbd,ZkS];rfl
theorem ZAI (hg:SgnOk g) {t:Tm} (ht:TermOk g t):tmsB (ZbQ g t):=by
 have h1:=Zpj ht.form;have h2:=ht.size;have h3:=ZeB ht.form;have h4:=Zkn g.ops g.ops.length;have h5:=hg.len;have h6:=Zl9 (Zbz g.ops g.ops.length++Zby (ZaU g) t);rw [Tae] at h6;have h7:∀ x∈ZbQ g t,bulkRow (Zac x)<=779:=fun x hx=>by
  unfold ZbQ at hx;rw [Zdd,Tbh] at hx;rcases hx with hx | hx
  ·obtain ⟨o,_,rfl⟩:=Zpk hx;rw [ZAH];exact Taj _
  ·exact Zwk om x hx
 have h8:=ZCp h7;have h9:(ZbQ g t).length<=1136:=by unfold ZbQ;omega
 unfold tmsB;have h10:(ZbQ g t).length * 779<=1136 * 779:=Nat.mul_le_mul_right _ h9;omega
end
theorem ZsV {a b:List Tm} (h:a.Sublist b):sizeTms a<=sizeTms b∧depthTms a<=depthTms b:=by
 induction h with
 | slnil=>exact ⟨Tai _,Tai _⟩
 | cons x h ih=>simp only [sizeTms,depthTms];omega
 | cons_cons x h ih=>simp only [sizeTms,depthTms];omega
theorem ZFJ {l:List Tm} (h:∀ (j:Nat) p a,l[j]?=some p->l[j+1]?=some a->Zai p a<=0):l.Pairwise fun a b=>Zai a b<=0:=by
 refine List.pairwise_iff_getElem.2 fun i j hi hj hij=>?_;obtain ⟨d,rfl⟩:∃ d,j=i+1+d:=⟨j - (i+1),om⟩
 induction d with
 | zero=>exact h i _ _ (Taa hi) (Taa hj)
 | succ d ih =>
  have h1:=ih om om;exact Zb3 h1 (h (i+1+d) _ _ (Taa om) (Taa hj))
section
variable {g:Sgn}
theorem ZAJ {op:Int} {nm:ByteArray} {so:Int} {ts us:List Tm} {o:Opr} (h:TermOk g (.mk op nm so ts)) (h0:¬ op < 0) (ho:g.ops[op.toNat]?=some o) (ha:o.assoc=true) (hs:us.Sublist ts) (h2:2<=us.length):TermOk g (.mk op ByteArray.empty 0 us):=by
 obtain ⟨z1,z2⟩:=ZsV hs;have hsz:=h.size;have hdp:=h.depth;have hf:=ZaY.1 h.form;simp only [sizeTm,depthTm] at hsz hdp;simp only [Tm.args,Tm.op] at hf;obtain ⟨hn,hfa,hr⟩:=hf;have hr:Zie g op ts:=hr.resolve_left om;obtain ⟨o',d,hA⟩:∃ o d,AppOk g (.mk op nm so ts) o d:=hn.resolve_left fun hv=>by have:=hv.1;simp only [Tm.op] at this;omega
 have hat:=hA.at';simp only [Tm.op] at hat;rw [ho] at hat;injection hat with hat
 subst hat;have h7:=hA.asc ha;simp only [Tm.args] at h7;have hul:=hs.length_le;refine ⟨by simp only [sizeTm];omega,by simp only [depthTm];omega,ZaY.2 ⟨.inr ⟨o,d,⟨by simp only [Tm.op];omega,ho,hA.fst,rfl,rfl,fun _=>⟨h2,by simp only [Tm.args];omega⟩,fun q=>by rw [ha] at q;cases q⟩⟩,fun a ha'=>hfa a (hs.subset ha'),.inr ?_⟩⟩;simp only [Tm.args,Tm.op];intro o2 d2 ho2 hd2 i a hi;rw [ho] at ho2;injection ho2 with ho2
 subst ho2;obtain ⟨j,hj⟩:=Tbk (hs.subset (Tac hi));have hR:=hr o d2 ho hd2 j a hj;have hpw:o.comm=true->ts.Pairwise fun a b=>Zai a b<=0:=fun hc=>ZFJ fun j p a h1 h3=>(hr o d2 ho hd2 (j+1) a h3).ord hc j p rfl h1;refine ⟨fun k hk=>hR.kind k (by rw [argAt,if_pos ha] at hk ⊢;exact hk),hR.nest,hR.unit,fun hc q p hq hp=>?_⟩;subst hq;have:=(hpw hc).sublist hs;obtain ⟨l1,e1⟩:=Tad.1 hp;obtain ⟨l2,e2⟩:=Tad.1 hi
 have:=List.pairwise_iff_getElem.1 this q (q+1) l1 l2 om
 rwa [e1,e2] at this
theorem ZsW {op:Int} {nm:ByteArray} {so:Int} {ts:List Tm} (h:TermOk g (.mk op nm so ts)) {x:Tm} (hx:x∈ZaU g op ts):TermOk g x:=by
 unfold ZaU at hx;split at hx
 ·cases hx
 ·rename_i h0;split at hx
  ·cases hx
  ·rename_i o ho;split at hx
   ·rename_i ha;obtain ⟨m,_,hm⟩:=ZeE.1 hx;obtain ⟨h2,_,rfl⟩:=Zi8.1 hm;exact ZAJ h h0 ho ha (Zkj m ts) h2
   ·cases hx
theorem TermOk.sub {op:Int} {nm:ByteArray} {so:Int} {ts:List Tm} (h:TermOk g (.mk op nm so ts)) {a:Tm} (ha:a∈ts):TermOk g a:=by
 have s1:=ZbA ha;have s2:=Zhc ha;have s3:=h.size;have s4:=h.depth;simp only [sizeTm,depthTm] at s3 s4;have hf:=(ZaY.1 h.form).2.1 a ha;exact ⟨om,om,hf⟩
theorem Zkq (hg:SgnOk g) {t:Tm} (ht:TermOk g t):∀ x∈ZbQ g t,TermOk g x:=fun x hx=>by
 rcases Tbh.1 (Zdd.1 hx) with h | h
 ·unfold Zbz at h;obtain ⟨o,ho,hx⟩:=List.mem_flatMap.1 h;split at hx
  ·cases hx
  ·rename_i hu;rw [Tbj] at hx;subst hx;obtain ⟨i,hi⟩:=Tbk (List.mem_of_mem_take ho);obtain ⟨d,hd,_⟩:=hg.first hi;exact (ZoS hg hi hd hu).1
 ·exact ZhP (TermOk g) (fun op nm so ts h x hx=>ZsW h hx) (fun op nm so ts h a ha=>h.sub ha) ht x h
theorem ZAK {t:Tm}:t∈ZbQ g t:=Zdd.2 (List.mem_append_right _ (by cases t;simp [Zby]))
end
theorem Zma (F:Nat->List Tm) (k:Nat) (r:List Tm):colT (mskL F (k+1)) r=colT (F k) (colT (mskL F k) r):=by rw [mskL,ZfL]
theorem ZrQ (x:Tm) (r:List Tm):colT [x] r=Zbh x r:=rfl
theorem Zod (r:List Tm):colT [] r=r:=rfl
theorem ZAL {F:Nat->List Tm} (h:F 0=[]) (r:List Tm):colT (mskL F 1) r=r:=by simp [mskL,h,colT]
theorem ZCr (W:Int->List Tm->List Tm) (r:List Tm):colT (Zba W []) r=r:=by simp [Zba,colT]
theorem ZFK (op:Int) (ts r:List Tm):colT (ivI op ts 0) r=r:=by simp [ivI,mskL,colT]
theorem ZEZ (op:Int) (ts:List Tm) (i:Nat) (r:List Tm):colT (ivJ op ts i 0) r=r:=by simp [ivJ,mskL,colT]
theorem ZCs (op:Int) (ts:List Tm) (i k:Nat) (r:List Tm):colT (ivJ op ts i (k+1)) r=Zbh (.mk op ByteArray.empty 0 ((ts.take (i+2+k)).drop i)) (colT (ivJ op ts i k) r):=by
 unfold ivJ;rw [Zma];rfl
theorem ZCt (op:Int) (ts:List Tm) (i:Nat) (r:List Tm):colT (ivI op ts (i+1)) r=colT (ivJ op ts i (ts.length - (i+1))) (colT (ivI op ts i) r):=by
 unfold ivI;rw [Zma]
def Znt (g:Sgn) (t:Tm) (ts us:List Tm):Prop:=Con e0 55 [.agg (ZaB g),.agg (Zac t),.one (.sl (Zaa ts))] [.one (.sl (Zaa us))]
section
variable {g:Sgn}
theorem ZkZ {op:Int} {us args:List Tm} (ho:I64 op) (ha:ZaD args) (hs:us.Sublist args):okTm (.mk op ByteArray.empty 0 us):=by
 simp only [okTm];exact ⟨ho,by simp [maxLen],⟨by decide,by decide⟩,ZcS.2 fun a h=>ZcS.1 ha a (hs.subset h)⟩
theorem ZFL {op:Int} {P:Nat->Bool} {args:List Tm} (ho:I64 op) (ha:ZaD args) (k:Nat):ZaD (mskL (ZbK op P args) k) :=
 ZcS.2 fun x hx=>by
  obtain ⟨us,hs,rfl⟩:=Zkp hx;exact ZkZ ho ha hs
theorem ZAM {op:Int} {args:List Tm} (ho:I64 op) (ha:ZaD args) (i k:Nat):ZaD (ivJ op args i k) :=
 ZcS.2 fun x hx=>by
  obtain ⟨m,_,hm⟩:=ZeE.1 hx;rw [Tbj] at hm;subst hm;exact ZkZ ho ha ((List.drop_sublist _ _).trans (List.take_sublist _ _))
theorem ZFM {op:Int} {args:List Tm} (ho:I64 op) (ha:ZaD args) (i:Nat):ZaD (ivI op args i) :=
 ZcS.2 fun x hx=>by
  obtain ⟨m,_,hm⟩:=ZeE.1 hx;exact ZcS.1 (ZAM ho ha m _) x hm
theorem ZrR {l:List Tm} (h:ZaD l):ZaD (Zba (Zbp g) l):=by
 induction l with
 | nil=>simp [Zba,ZaD]
 | cons t l ih =>
  simp only [ZaD] at h;simp only [Zba];exact Zkg (Zve Znr h.1) (ih h.2)
theorem Znu (t:Tm) (hf:ZaF g t) (ht:okTm t) (ts:List Tm) (hts:ZaD ts) (hb:bulkRow (Zac t)<=1048576) (hl:ts.length+(Zby (Zbp g) t).length<=7000000)
  (h:∀ x∈t.args,∀ us:List Tm,ZaD us->us.length+(Zby (Zbp g) x).length<=7000000->Znt g x us (colT (Zby (Zbp g) x) us)):Znt g t ts (colT (Zby (Zbp g) t) ts):=by
 unfold Znt at h ⊢;rw [ZaB] at h ⊢;have hnode:=hf.node;have h7:=fun o=>hf.args7 (o:=o);have hI:=ZeD ts t hts ht om;obtain ⟨op,nm,so,args⟩:=t;have hc:Zac (.mk op nm so args)=[.lit (.int .i64 op),.lit (.string nm),.lit (.int .i64 so),.sl (Zaa args)]:=by simp only [Zac]
 simp only [Tm.args,Tm.op] at h h7;have hka:ZaD args:=by simp only [okTm] at ht;exact ht.2.2.2
 have hko:I64 op:=by simp only [okTm] at ht;exact ht.1
 have h1:=Zl6 ht hts;have h2:=Zdn [Tm.mk op nm so args] ts;rw [ZrQ] at h2;simp only [Tag,Tak] at h2;simp only [Zac,bulkRow,ZbG,Zad] at hb;have e0':colT (Zby (Zbp g) (.mk op nm so args)) ts=colT (Zbp g op args) (colT (Zba (Zbp g) args) (Zbh (.mk op nm so args) ts)):=by simp only [Zby];rw [<- ZfL];rfl
 rw [e0'];simp only [Zby,Tag,Tae] at hl;generalize Zbh (Tm.mk op nm so args) ts=us at hI h1 h2 e0' ⊢;clear e0';have hal:args.length<=1048576:=om;refine gI (ts:=[.slot 6]) 319390949205364956188664414175 Tryz.func55 ?_;refine fB (ai @hc @tmz) ?_;refine fC (ai @hc @tmz) (hI) ?_;refine fR @tmz ?_;refine fG @tmz ?_;have F:=ai ((ZCr (Zbp g))) @tmz;refine gL (ι:=Nat) [2,7,21] [] (fun x=>[(7,A.d (.one (.lit (.int .i64 x)))),(2,.d (.one (.sl (Zaa (colT (Zba (Zbp g) (args.take x)) us)))))]) (fun x=>[]) (fun x=>x<=args.length) (fun x=>args.length - x) (0) (Taj _) (fun x hx=>?_);clear F
 by_cases hlt:x < args.length
 ·obtain ⟨b,hg⟩:∃ b,args[x]?=some b:=⟨_,Taa hlt⟩;have q2:=lT x args.length;have q4:=Zau (k:=x) om;have hct:=Zh1 (W:=Zbp g) hg;have hle:=Zkm (Zbp g) args (x+1);rw [hct,Tae] at hle;have hcl:=Zdn (Zba (Zbp g) (args.take x)) us;have hcon:=h b (Tac hg) (colT (Zba (Zbp g) (args.take x)) us) (ZeS (ZrR (Zi7 x hka)) h1) om;rw [<- ZfL,<- hct] at hcon;refine fB (aj3 @q2 @hc @tmz) ?_;refine fC (aj4 @q2 @hc @hg @tmz) (hcon) ?_
  refine fR @tmz ?_;have F:=@q4;refine gG ?_;exact ⟨x+1,hlt,gw,gw,om⟩
 obtain rfl:x=args.length:=by omega
 have q2:=lF args.length args.length;rw [Tap];have hcl:=Zdn (Zba (Zbp g) args) us;have h3:=ZeS (ZrR (g:=g) hka) h1;generalize colT (Zba (Zbp g) args) us=vs at hcl h3 ⊢;rcases hnode with hv | ⟨o,d,hA⟩
 ·have hv1:op=-1:=hv.1;have e:colT (Zbp g op args) vs=vs:=by simp [Zbp,hv1,colT]
  rw [e];exact fD (aj4 @q2 @hc @hv1 @tmz)
 have h0:0<=op:=hA.lo;have hnn:¬ (op=-1):=om;have ho:g.ops[op.toNat]?=some o:=hA.at';have hneg:¬ (op < 0):=om;have e9:Zbp g op args=if o.assoc=true then (if o.comm=true then mskL (ZbK op (fun _=>true) args) (2 ^ args.length) else ivI op args args.length) else []:=by simp only [Zbp,if_neg hneg,ho]
 rw [e9] at hl ⊢;clear e9
 cases ha:o.assoc with
 | false =>
  rw [if_neg (by simp),Zod];exact fD (aj8 @q2 @hc @hnn @h0 @ho @Zaj @ha @tmz)
 | true =>
 rw [ha,if_pos rfl] at hl;rw [if_pos rfl];obtain ⟨hn2',hn7⟩:=h7 o hneg ho ha;have hp7:2 ^ args.length<=128:=Tbt (by decide:0 < 2) hn7;have hp1:1 < 2 ^ args.length:=Nat.one_lt_two_pow om
 cases hcm:o.comm with
 | true =>
  rw [if_pos rfl];have hpl:=Zkl op (fun _=>true) hn7;have hf0:=ZrO op (fun _=>true) args;have hlb:=Zgi (k:=args.length) om;refine fG (aj9 @q2 @hc @hnn @h0 @ho @Zaj @ha @hcm @tmz) ?_;have F:=aj3 @Zap ((ZAL hf0)) @tmz;refine gL (ι:=Nat) [2,9,10,11,59,65,70,81] [] (fun m=>[(9,A.d (.one (.lit (.int .i64 m)))),(2,.d (.one (.sl (Zaa (colT (mskL (ZbK op (fun _=>true) args) m) vs)))))]) (fun m=>[]) (fun m=>1<=m∧m<=2 ^ args.length) (fun m=>2 ^ args.length - m) (1) (⟨Tai _,om⟩) (fun m hm=>?_);clear F
  obtain ⟨hm1,hm2⟩:=hm;refine fB @tmz ?_;refine fC @tmz (hlb) ?_;by_cases hlt:m < 2 ^ args.length;rotate_left
  ·obtain rfl:m=2 ^ args.length:=by omega
   have q3:=lF (((2 ^ args.length:Nat):Int)) (2 ^ args.length:Nat);refine fR @q3 ?_;exact fD (ai @q3 @tmz)
  have q3:=lT m (2 ^ args.length:Nat);have hw:=Zau (k:=m) om;have hlm:=Zpe (ZbK op (fun _=>true) args) hm2;have hcm2:=Zdn (mskL (ZbK op (fun _=>true) args) m) vs;have hkm:=ZeS (ZFL (P:=fun _=>true) hko hka m) h3;have hst:=Zma (ZbK op (fun _=>true) args) m vs;generalize colT (mskL (ZbK op (fun _=>true) args) m) vs=ws at hcm2 hkm hst ⊢;refine fR @q3 ?_;refine fG @q3 ?_;have F:=((pk_0 m args));refine gL (ι:=Nat) [10,11,65,70] [10] (fun i=>[(11,A.d (.one (.lit (.int .i64 i)))),(10,.buf 10)]) (fun i=>[(10,.buf none 46 4 (Zaa (pkTo m args i)))]) (fun i=>i<=args.length) (fun i=>args.length - i) (0) (Taj _) (fun i hi=>?_);clear F
  by_cases hli:i < args.length
  ·obtain ⟨b,hg⟩:∃ b,args[i]?=some b:=⟨_,Taa hli⟩;have q4:=lT i args.length;have hwi:=Zau (k:=i) om;have l1:ZaC 4 (Zaa (pkTo m args i))=true:=ZdR _;have l2:((Zaa (pkTo m args i)).length+1<=maxApp)=True:=eq_true (by rw [Zad];have:=ZfM m args i;unfold maxApp;omega);have l3:((pkTo m args i).length+1<=maxApp)=True:=eq_true (by have:=ZfM m args i;unfold maxApp;omega);refine fB @q4 ?_;refine fC @q4 (Zfe (a:=m) (k:=i) om om) ?_
   refine fR @q4 ?_
   cases hbt:tbit m i with
   | false =>
    have e:=Zob (l:=args) hbt;rw [<- e];have F:=@hwi;refine gG ?_;exact ⟨i+1,hli,gw,gw,om⟩
   | true =>
    have e:=ZAz hg hbt;have F:=aj8 @hc @hg @l1 @l2 @l3 @tmz @e @hwi;refine gG ?_;exact ⟨i+1,hli,gw,gw,om⟩
  obtain rfl:i=args.length:=by omega
  have q4:=lF args.length args.length;rw [show pkTo m args args.length=Zbi m args from rfl];refine fG (ai @q4 @tmz) ?_;refine pFz [10] ?_;by_cases h2p:2<=(Zbi m args).length;rotate_left
  ·have z:decide ((1:Int) < ((Zbi m args).length:Int))=false:=decide_eq_false om;have e:ZbK op (fun _=>true) args m=[]:=Zpg fun h=>h2p h.1;rw [e,Zod] at hst;rw [<- hst];have F:=aj3 @z @hw @tmz;refine gG ?_;exact ⟨m+1,⟨om,hlt⟩,gw,gw,om⟩
  have z:decide ((1:Int) < ((Zbi m args).length:Int))=true:=decide_eq_true om;have e:ZbK op (fun _=>true) args m=[.mk op ByteArray.empty 0 (Zbi m args)]:=Zno h2p rfl;rw [e,ZrQ] at hst;have hIn:=ZeD ws (.mk op ByteArray.empty 0 (Zbi m args)) hkm (ZkZ hko hka (Zkj m args)) om;rw [<- hst] at hIn;simp only [Zac] at hIn;refine fB (ai @z @tmz) ?_;refine fC (ai @hc @tmz) (hIn) ?_;refine fR @tmz ?_;have F:=@hw;refine gG ?_;exact ⟨m+1,⟨om,hlt⟩,gw,gw,om⟩
 | false =>
  rw [if_neg (by simp)];have hil:=Zvd op args;refine fG (aj9 @q2 @hc @hnn @h0 @ho @Zaj @ha @hcm @tmz) ?_;have F:=ai ((ZFK op args)) @tmz;refine gL (ι:=Nat) [2,12,13,91,98] [] (fun i=>[(12,A.d (.one (.lit (.int .i64 i)))),(2,.d (.one (.sl (Zaa (colT (ivI op args i) vs)))))]) (fun i=>[]) (fun i=>i<=args.length) (fun i=>args.length - i) (0) (Taj _) (fun i hi=>?_);clear F;by_cases hlt:i < args.length;rotate_left
  ·obtain rfl:i=args.length:=by omega
   have q4:=lF args.length args.length;exact fD (ai @q4 @tmz)
  have q4:=lT i args.length;have hw:=Zau (k:=i) om;have hw2:IntKind.i64.wrap ((i:Int)+2)=((i+2+0:Nat):Int):=ZaM om om om;have hi1:=hil i;have hi2:i * args.length<=7 * 7:=Nat.mul_le_mul om hn7;have hcm2:=Zdn (ivI op args i) vs;have hkm:=ZeS (ZFM hko hka i) h3;have hst:=ZCt op args i vs;generalize colT (ivI op args i) vs=ws at hcm2 hkm hst ⊢;refine fG (aj3 @q4 @hw2 @tmz) ?_;have F:=ai ((ZEZ op args i)) @tmz;refine gL (ι:=Nat) [2,13,98] [] (fun k=>[(13,A.d (.one (.lit (.int .i64 (i+2+k:Nat))))),(2,.d (.one (.sl (Zaa (colT (ivJ op args i k) ws)))))]) (fun k=>[]) (fun k=>k<=args.length - (i+1)) (fun k=>args.length - (i+1) - k) (0) (Taj _) (fun k hk=>?_);clear F
  by_cases hlk:k < args.length - (i+1);rotate_left
  ·obtain rfl:k=args.length - (i+1):=by omega
   have q5:(((i+2+(args.length - (i+1)):Nat):Int)<=(args.length:Int))=False:=eq_false om;rw [<- hst];have F:=ai @q5 @hw;refine gG ?_;exact ⟨i+1,hlt,gw,gw,om⟩
  have q5:(((i+2+k:Nat):Int)<=(args.length:Int))=True:=eq_true om;have q6:((i:Int)<=((i+2+k:Nat):Int))=True:=eq_true om;have hwk:IntKind.i64.wrap (((i+2+k:Nat):Int)+1)=((i+2+(k+1):Nat):Int):=ZaM om om om;have hcj:=Zdn (ivJ op args i k) ws;have hjl:=Zvc op args i k;have hkj:=ZeS (ZAM hko hka i k) hkm;have hsj:=ZCs op args i k ws;generalize colT (ivJ op args i k) ws=xs at hcj hkj hsj ⊢;have hIn:=ZeD xs (.mk op ByteArray.empty 0 ((args.take (i+2+k)).drop i)) hkj (ZkZ hko hka ((List.drop_sublist _ _).trans (List.take_sublist _ _))) om
  rw [<- hsj] at hIn;simp only [Zac] at hIn;refine fB (ai @q5 @tmz) ?_;refine fC (aj7 @hc @q5 @q6 @Zap @ZdN @Zek @tmz) (hIn) ?_;refine fR @tmz ?_;have F:=@hwk;refine gG ?_;exact ⟨k+1,hlk,gw,gw,om⟩
theorem Zoe (n:Nat):∀ t:Tm,Za7 (Zac t) < n->ZaF g t->okTm t->bulkRow (Zac t)<=1048576->∀ ts:List Tm,ZaD ts->ts.length+(Zby (Zbp g) t).length<=7000000->Znt g t ts (colT (Zby (Zbp g) t) ts):=by
 induction n with
 | zero=>exact fun _ h=>om
 | succ n ih =>
  intro t hn hf ht hb ts hts hl;refine Znu t hf ht ts hts hb hl fun x hx us hus hl2=>?_;have hfx:=(ZaY.1 hf).2.1 x hx;obtain ⟨op,nm,so,args⟩:=t;simp only [Zac,Za7,Zc3] at hn;simp only [Zac,bulkRow,ZbG] at hb;simp only [okTm] at ht;simp only [Tm.args] at hx;obtain ⟨i,hi⟩:=Tbk hx;have hi':(Zaa args)[i]?=some (Zac x):=by rw [Zbq,hi];rfl
  have h1:=Zcb hi';have h2:=Zco hi';exact ih x om hfx (ht.2.2.2.mem hx) om us hus hl2
theorem ZsX (hg:SgnOk g) {t:Tm} (hf:TermOk g t) (ht:okTm t) (hb:bulkRow (Zac t)<=1048576):Con e0 22 [.agg (ZaB g),.agg (Zac t)] [.one (.sl (Zaa (Zp1 g t)))]:=by
 have hln:=hg.len;have hcl:=ZAF hf.form;have hsz:=hf.size;have cP:=Zoe _ t (Tan _) hf.form ht hb [] trivial (by simp;omega);have cU:=fun (i:Nat) (o:Opr) (ho:g.ops[i]?=some o)=>ZiS hg (op:=(i:Int)) om (show g.ops[(i:Int).toNat]?=some o by rw [Tby];exact ho);have hul:=Zkn g.ops;have huo:=ZCq hg;have hk:=Zve (W:=Zbp g) Znr ht;have hes:Zp1 g t=colT (Zbz g.ops g.ops.length) (colT (Zby (Zbp g) t) []):=by rw [<- ZfL];rfl
 have hcc:=Zdn (Zby (Zbp g) t) [];have hck:=ZeS hk (show ZaD [] from trivial);simp only [Tak,Nat.zero_add] at hcc;unfold Znt at cP;rw [ZaB] at cP cU ⊢;rw [hes];generalize colT (Zby (Zbp g) t) []=vs at cP hcc hck ⊢;clear hes;rw [Ze2] at cP;have cP:=ZAG cP;refine gI (ts:=[.slot 4]) 67240447 Tryz.func22 ?_;refine fB @tmz ?_;refine fC @tmz (cP) ?_;refine fR @tmz ?_;refine fG @tmz ?_;have F:=aj3 @Zva ((Zod vs)) @tmz;refine gL (ι:=Nat) [5,6,7,8,17,26] [] (fun i=>[(6,A.d (.one (.lit (.int .i64 i)))),(5,.d (.one (.sl (Zaa (colT (Zbz g.ops i) vs)))))]) (fun i=>[]) (fun i=>i<=g.ops.length) (fun i=>g.ops.length - i) (0) (Taj _) (fun i hi=>?_);clear F
 by_cases hlt:i < g.ops.length;rotate_left
 ·obtain rfl:i=g.ops.length:=by omega
  have q2:=lF g.ops.length g.ops.length;exact fD (ai @q2 @tmz)
 obtain ⟨o,ho⟩:∃ b,g.ops[i]?=some b:=⟨_,Taa hlt⟩;have q2:=lT i g.ops.length;have q4:=Zau (k:=i) om;have cU:=cU i o ho;refine fB (ai @q2 @tmz) ?_;refine fC @tmz (cU) ?_;refine fR @tmz ?_;by_cases hu:o.unit=0
 ·have z:(!decide (o.unit=0))=false:=by simp [hu]
  have e:=ZrP ho hu;have F:=aj4 @z @q4 @e @tmz;refine gG ?_;exact ⟨i+1,hlt,gw,gw,om⟩
 have z:(!decide (o.unit=0))=true:=by simp [hu]
 have e:=Zph ho hu;have hui:=hul i;have hcl2:=Zdn (Zbz g.ops i) vs;have hax:=hg.axs o (Tac ho);have hhi:=hax.hi;have hIn:=ZeD (colT (Zbz g.ops i) vs) (Zbd o) (ZeS (huo i) hck) (ZhJ hax.lo om) om;have e2:Zbh (Zbd o) (colT (Zbz g.ops i) vs)=colT (Zbz g.ops (i+1)) vs:=by rw [e,ZfL];rfl
 rw [e2] at hIn;refine fB (ai @z @tmz) ?_;refine fC @tmz (hIn) ?_;refine fR @tmz ?_;have F:=@q4;refine gG ?_;exact ⟨i+1,hlt,gw,gw,om⟩
end
theorem Zkr (l:List Bd) {i:Nat} {y:Bd} (h:l[i]?=some y):Zat (l.take (i+1))=Zat (l.take i)++[Za8 y]:=by
 simp only [Zat,List.take_add_one,h,Option.toList,Tbw,Tbv,List.map_nil]
theorem ZlD:Zat []=[]:=rfl
theorem ZE0 {w:World} {y:Bd} {E F:Nat->Prop} {us vs:List Value} (h:Zaf w (Zac y.var) E us) (h2:Zaf w (Zac y.to) F vs) (hd:∀ b,E b->F b->False):Zaf w (Za8 y) (fun b=>E b∨F b) (us++vs):=Zaf.append E F h h2 (fun _ h=>.inl h) (fun _ h=>.inr h) hd
theorem ZsY (l:List Bd) (hn:l.length<=1048576) (hb:∀ y∈l,bulkRow (Zac y.var)<=1048576∧bulkRow (Zac y.to)<=1048576):Con e0 24 [.one (.sl (Zat l))] [.one (.sl (Zat l))]:=by
 have bl:=Zcl l;have bg:=ZdA l;have bb:=bds8 l;have l1:∀ l:List Bd,ZaC 8 (Zat l)=true:=fun l=>bds8 l;have l3:=Zcl;refine gI (ts:=[.slot 2]) 541 Tryz.func24 ?_;refine fG (ai @bl @tmz) ?_;have F:=ai @ZlD @tmz;refine gL (ι:=Nat) [3,4,9] [3] (fun i=>[(4,A.d (.one (.lit (.int .i64 i)))),(3,.buf 3)]) (fun i=>[(3,.buf none 74 8 (Zat (l.take i)))]) (fun i=>i<=l.length) (fun i=>l.length - i) (0) (Taj _) (fun i hi=>?_);clear F
 by_cases hlt:i < l.length;rotate_left
 ·obtain rfl:i=l.length:=by omega
  have q1:=lF l.length l.length;rw [Tap];have F:=aj3 @q1 @bl @tmz;refine gG ?_;exact gTz [2]
 obtain ⟨y,hy⟩:∃ y,l[i]?=some y:=⟨_,Taa hlt⟩;have hym:=Tac hy;have cV:=ZgF y.var (hb y hym).1;have cT:=ZgF y.to (hb y hym).2;have q1:=lT i l.length;have q2:((l.take i).length+1<=maxApp)=True:=eq_true (by rw [Taw];unfold maxApp;omega);have hwi:=Zau (k:=i) om;have hbd:Zac y.var++Zac y.to=Za8 y:=rfl;have h7:∀ (c0 c1 c2 c3:C),List.take 4 (Zac y.var++[c0,c1,c2,c3])++Zac y.to++List.drop 8 (Zac y.var++[c0,c1,c2,c3])=Za8 y:=fun c0 c1 c2 c3=>by
  obtain ⟨⟨o,n,s,a⟩,t⟩:=y;simp [Zac,Za8]
 have l5:Zat (l.take i)++[Za8 y]=Zat (l.take (i+1)):=(Zkr l hy).symm;refine fN 5 (aj3 @q1 @bl @tmz) ?_;refine gB ?_;refine fC (aj7 @bl @bb @bg @hy @bdz @Zap @tmz) (cV) ?_;refine fC (aj7 @bl @bb @bg @hy @bdz @Zap @tmz) (cT) ?_;refine fR (aj7 @h7 @l1 @l3 @l5 @q2 @bdz @tmz) ?_;have F:=ai @hwi @tmz;refine gG ?_;exact ⟨i+1,hlt,gw,gw,om⟩
theorem ZrS (l:List Bd) (hl:l.length<=1048576) (hb:∀ y∈l,bulkRow (Zac y.var)<=1048576∧bulkRow (Zac y.to)<=1048576):ConP e0 88 [.one (.sl (Zat l))] [] (Zct (Zat l)):=by
 have bl:=Zcl l;have bg:=ZdA l;have bb:=bds8 l;refine gIP (ts:=[.slot 2]) [] 1965 Tryz.func88 ?_;refine fG (ai @bl @tmz) ?_;refine pE [] [1000] Zb4 ?_;have F:=aj3 @bl @ZlD @tmz;refine gL (ι:=Nat × List (List Value) × (Nat->Prop)) [3,5,9,10] [3,1000] (fun x=>[(9,A.d (.one (.lit (.int .i64 x.1)))),(3,.buf 3)]) (fun x=>[(3,.buf none 74 8 (x.2.1.map Zah)),(1000,.set x.2.2 (fun w=>Zao w (Zat (l.take x.1)) x.2.2 x.2.1))]) (fun x=>x.1<=l.length∧x.2.1.length=x.1) (fun x=>l.length - x.1) ((0,[],fun _=>False)) (⟨Taj _,rfl⟩) (fun x hx=>?_);clear F
 obtain ⟨i,uss,E0⟩:=x;obtain ⟨hi,hn⟩:=hx;simp only at hi hn;by_cases hlt:i < l.length;rotate_left
 ·obtain rfl:i=l.length:=by omega
  have q1:=lF l.length l.length;refine fG (aj3 @q1 @bl @tmz) ?_;rw [Tap];refine pS 2 fun a cap=>?_;refine pE [2,1000] [1000] (Zb6 (uss:=uss) (G':=fun w=>Own w (.sl (Zat l)) (fun b=>vblk (.slice a uss.length cap)=some b∨E0 b) (.slice a uss.length cap)) (fun w h=>h) (Own.stable _ _ _)) ?_;exact (have F:=ZaH;gTP (R:=Zct (Zat l)) [1000] ⟨.slice a uss.length cap,fun b=>vblk (.slice a uss.length cap)=some b∨E0 b,rfl,rfl,rfl⟩)
 obtain ⟨y,hy⟩:∃ y,l[i]?=some y:=⟨_,Taa hlt⟩;have hym:=Tac hy;have cV:=Zj8 y.var (hb y hym).1;have cT:=Zj8 y.to (hb y hym).2;have q1:=lT i l.length;have q2:(i+1<=maxApp)=True:=eq_true (by unfold maxApp;omega);have hwi:=Zau (k:=i) om;refine fN 5 (aj8 @q1 @bl @bb @bg @hy @bdz @Zap @tmz) ?_
 /- gk cpbdJ -/
 refine gGx (X:=UU) [(0,.d (.one (.sl (Zat l)))),(2,.buf 2),(5,.ref 5 0),(7,.d (.one (.sl (Zat l)))),(8,.d (.one (.lit (.int .i64 (l.length:Int))))),(9,.d (.one (.lit (.int .i64 (i:Int)))))] [(2,.buf none 74 8 []),(5,.var none (Za8 y)),(1000,.set E0 (fun w=>Zao w (Zat (l.take i)) E0 uss))] (fun _ x=>x.ok) (fun x=>[([(13,.buf 3)],[]),([(14,.ref 5 0)],[]),([(15,.d (.agg (Zac y.var)))],[]),([(16,.d (.agg [.lit (x.v 3 0),.lit (x.v 3 1),.lit (x.v 3 2),.lit (x.v 3 3)]))],[(1003,.set (x.E 3) (fun w=>Zaf w (Zac y.var) (x.E 3) [x.v 3 0,x.v 3 1,x.v 3 2,x.v 3 3]))]),([(17,.ref 5 4)],[]),([(18,.d (.agg (Zac y.to)))],[]),([(19,.d (.agg [.lit (x.v 6 0),.lit (x.v 6 1),.lit (x.v 6 2),.lit (x.v 6 3)]))],[(1006,.set (x.E 6) (fun w=>Zaf w (Zac y.to) (x.E 6) [x.v 6 0,x.v 6 1,x.v 6 2,x.v 6 3]))]),([(20,.d (.agg [.lit (x.v 3 0),.lit (x.v 3 1),.lit (x.v 3 2),.lit (x.v 3 3),.lit (x.v 6 0),.lit (x.v 6 1),.lit (x.v 6 2),.lit (x.v 6 3)]))],[(1003,.set (x.E 3) (fun w=>Zaf w (Zac y.var) (x.E 3) [x.v 3 0,x.v 3 1,x.v 3 2,x.v 3 3])),(1006,.set (x.E 6) (fun w=>Zaf w (Zac y.to) (x.E 6) [x.v 6 0,x.v 6 1,x.v 6 2,x.v 6 3]))]),([(21,.d (.clip [[.lit (x.v 3 0),.lit (x.v 3 1),.lit (x.v 3 2),.lit (x.v 3 3),.lit (x.v 6 0),.lit (x.v 6 1),.lit (x.v 6 2),.lit (x.v 6 3)]]))],[(1003,.set (x.E 3) (fun w=>Zaf w (Zac y.var) (x.E 3) [x.v 3 0,x.v 3 1,x.v 3 2,x.v 3 3])),(1006,.set (x.E 6) (fun w=>Zaf w (Zac y.to) (x.E 6) [x.v 6 0,x.v 6 1,x.v 6 2,x.v 6 3]))]),([(22,.buf 22)],[(22,.buf none 74 8 ((uss.map Zah)++[[.lit (x.v 3 0),.lit (x.v 3 1),.lit (x.v 3 2),.lit (x.v 3 3),.lit (x.v 6 0),.lit (x.v 6 1),.lit (x.v 6 2),.lit (x.v 6 3)]])),(1003,.set (x.E 3) (fun w=>Zaf w (Zac y.var) (x.E 3) [x.v 3 0,x.v 3 1,x.v 3 2,x.v 3 3])),(1006,.set (x.E 6) (fun w=>Zaf w (Zac y.to) (x.E 6) [x.v 6 0,x.v 6 1,x.v 6 2,x.v 6 3]))]),([(3,.buf 3)],[(3,.buf none 74 8 ((uss.map Zah)++[[.lit (x.v 3 0),.lit (x.v 3 1),.lit (x.v 3 2),.lit (x.v 3 3),.lit (x.v 6 0),.lit (x.v 6 1),.lit (x.v 6 2),.lit (x.v 6 3)]])),(1003,.set (x.E 3) (fun w=>Zaf w (Zac y.var) (x.E 3) [x.v 3 0,x.v 3 1,x.v 3 2,x.v 3 3])),(1006,.set (x.E 6) (fun w=>Zaf w (Zac y.to) (x.E 6) [x.v 6 0,x.v 6 1,x.v 6 2,x.v 6 3]))]),([(3,.buf 3)],[]),([],[(3,.buf none 74 8 (uss.map Zah))])]) (fun j=>([(0,9),(3,7),(6,7),(7,8),(8,9),(9,10),(11,9),(12,9)]:List (Nat × Nat)).lookup j) [11,12] (⟨by simp [gs],by simp [gm]⟩) (fun j hj=>by simp only [Tbg,List.not_mem_nil,or_false] at hj;rcases hj with rfl | rfl <;> exact ⟨UU.z,UU.z_ok,by simp [gs],by simp [gm]⟩) ⟨?_,?_,?_,?_,?_,?_,?_,?_,?_,?_,?_,trivial⟩ ?_
 ·intro s' m' hB hD hI hJ;have F:=Za6.1 hB;simp only [lkS,lkM,List.getD_cons_zero,List.getD_cons_succ,and_true,true_and] at F;obtain ⟨x11,o11,F11⟩:=ZaE.1 (hJ 11 (by decide) 9 rfl (by decide));simp only [lkS,lkM,List.getD_cons_zero,List.getD_cons_succ,and_true,true_and] at F11;have F:=ai F F11;have F:=aj3 F bdz tmz;refine gO3 ?_;exact xS hB (ZaE.2 ⟨UU.z,UU.z_ok,by simp [lkS,lkM,gs,gm,ZaG,F11,UU.two,UU.vs,UU.sl]⟩)
 ·intro s' m' hB hD hI hJ;have F:=Za6.1 hB;simp only [lkS,lkM,List.getD_cons_zero,List.getD_cons_succ,and_true,true_and] at F;have F:=aj3 F bdz tmz;refine gO3 ?_;exact xS hB (ZaE.2 ⟨UU.z,UU.z_ok,by simp [lkS,lkM,gs,gm,ZaG,UU.two,UU.vs,UU.sl]⟩)
 ·intro s' m' hB hD hI hJ;have F:=Za6.1 hB;simp only [lkS,lkM,List.getD_cons_zero,List.getD_cons_succ,and_true,true_and] at F;obtain ⟨x1,o1,F1⟩:=ZaE.1 (hD 1 (by decide) (.inl rfl));simp only [lkS,lkM,List.getD_cons_zero,List.getD_cons_succ,and_true,true_and] at F1;have F:=ai F F1;have F:=aj3 F bdz tmz;refine gO3 ?_;exact xS hB (ZaE.2 ⟨UU.z,UU.z_ok,by simp [lkS,lkM,gs,gm,ZaG,F1,UU.two,UU.vs,UU.sl]⟩)
 ·intro s' m' hB hD hI hJ;have F:=Za6.1 hB;simp only [lkS,lkM,List.getD_cons_zero,List.getD_cons_succ,and_true,true_and] at F;obtain ⟨x2,o2,F2⟩:=ZaE.1 (hD 2 (by decide) (.inl rfl));simp only [lkS,lkM,List.getD_cons_zero,List.getD_cons_succ,and_true,true_and] at F2;have F:=ai F F2;have F:=aj3 F bdz tmz;refine gCP [] [1003] (cV) ?_;rintro r pm ⟨us,E2,rfl,hu,hok,rfl⟩;rw [Zia] at hu;obtain ⟨u0,u1,u2,u3,rfl⟩:=len4 hu
  rw [show Zah [u0,u1,u2,u3]=[.lit u0,.lit u1,.lit u2,.lit u3] from rfl] at hok ⊢;simp only [setA,retA,zipM,Taf,Tah];refine ZaJ ?_;exact xP hB (ZaE.2 ⟨UU.vs [u0,u1,u2,u3] E2,UU.vs_ok hok,by simp [lkS,lkM,gs,gm,UU.two,UU.vs,UU.sl]⟩)
 ·intro s' m' hB hD hI hJ;have F:=Za6.1 hB;simp only [lkS,lkM,List.getD_cons_zero,List.getD_cons_succ,and_true,true_and] at F;have F:=aj3 F bdz tmz;refine gO3 ?_;exact xS hB (ZaE.2 ⟨UU.z,UU.z_ok,by simp [lkS,lkM,gs,gm,ZaG,UU.two,UU.vs,UU.sl]⟩)
 ·intro s' m' hB hD hI hJ;have F:=Za6.1 hB;simp only [lkS,lkM,List.getD_cons_zero,List.getD_cons_succ,and_true,true_and] at F;obtain ⟨x4,o4,F4⟩:=ZaE.1 (hD 4 (by decide) (.inl rfl));simp only [lkS,lkM,List.getD_cons_zero,List.getD_cons_succ,and_true,true_and] at F4;have F:=ai F F4;have F:=aj3 F bdz tmz;refine gO3 ?_;exact xS hB (ZaE.2 ⟨UU.z,UU.z_ok,by simp [lkS,lkM,gs,gm,ZaG,F4,UU.two,UU.vs,UU.sl]⟩)
 ·intro s' m' hB hD hI hJ;have F:=Za6.1 hB;simp only [lkS,lkM,List.getD_cons_zero,List.getD_cons_succ,and_true,true_and] at F;obtain ⟨x5,o5,F5⟩:=ZaE.1 (hD 5 (by decide) (.inl rfl));simp only [lkS,lkM,List.getD_cons_zero,List.getD_cons_succ,and_true,true_and] at F5;have F:=ai F F5;have F:=aj3 F bdz tmz;refine gCP [] [1006] (cT) ?_;rintro r pm ⟨us,E2,rfl,hu,hok,rfl⟩;rw [Zia] at hu;obtain ⟨u0,u1,u2,u3,rfl⟩:=len4 hu
  rw [show Zah [u0,u1,u2,u3]=[.lit u0,.lit u1,.lit u2,.lit u3] from rfl] at hok ⊢;simp only [setA,retA,zipM,Taf,Tah];refine ZaJ ?_;exact xP hB (ZaE.2 ⟨UU.vs [u0,u1,u2,u3] E2,UU.vs_ok hok,by simp [lkS,lkM,gs,gm,UU.two,UU.vs,UU.sl]⟩)
 ·intro s' m' hB hD hI hJ;have F:=Za6.1 hB;simp only [lkS,lkM,List.getD_cons_zero,List.getD_cons_succ,and_true,true_and] at F;obtain ⟨x3,o3,F3⟩:=ZaE.1 (hD 3 (by decide) (.inr rfl));obtain ⟨x6,o6,F6⟩:=ZaE.1 (hD 6 (by decide) (.inr rfl));simp only [lkS,lkM,List.getD_cons_zero,List.getD_cons_succ,and_true,true_and] at F3;have F:=ai F F3;simp only [lkS,lkM,List.getD_cons_zero,List.getD_cons_succ,and_true,true_and] at F6
  have F:=ai F F6;have F:=ai F (UU.v_ok o3);have F:=ai F (UU.v_ok o6);have F:=aj3 F bdz tmz;refine gO3 ?_;exact xS hB (ZaE.2 ⟨(UU.two 3 x3 (x6)),(UU.two_ok o3 (o6)),by simp [lkS,lkM,gs,gm,ZaG,F3,F6,UU.two,UU.vs,UU.sl]⟩)
 ·intro s' m' hB hD hI hJ;have F:=Za6.1 hB;simp only [lkS,lkM,List.getD_cons_zero,List.getD_cons_succ,and_true,true_and] at F;obtain ⟨x7,o7,F7⟩:=ZaE.1 (hD 7 (by decide) (.inr rfl));simp only [lkS,lkM,List.getD_cons_zero,List.getD_cons_succ,and_true,true_and] at F7;have F:=ai F F7;have F:=ai F (UU.v_ok o7);have F:=aj3 F bdz tmz;refine gO3 ?_;exact xS hB (ZaE.2 ⟨x7,o7,by simp [lkS,lkM,gs,gm,ZaG,F7,UU.two,UU.vs,UU.sl]⟩)
 ·intro s' m' hB hD hI hJ;have F:=Za6.1 hB;simp only [lkS,lkM,List.getD_cons_zero,List.getD_cons_succ,and_true,true_and] at F;obtain ⟨x0,o0,F0⟩:=ZaE.1 (hD 0 (by decide) (.inr rfl));obtain ⟨x8,o8,F8⟩:=ZaE.1 (hD 8 (by decide) (.inr rfl));obtain ⟨x11,o11,F11⟩:=ZaE.1 (hI 11 (by decide) (by decide));obtain ⟨x12,o12,F12⟩:=ZaE.1 (hI 12 (by decide) (by decide));simp only [lkS,lkM,List.getD_cons_zero,List.getD_cons_succ,and_true,true_and] at F0
  have F:=ai F F0;simp only [lkS,lkM,List.getD_cons_zero,List.getD_cons_succ,and_true,true_and] at F8;have F:=ai F F8;simp only [lkS,lkM,List.getD_cons_zero,List.getD_cons_succ,and_true,true_and] at F11;have F:=ai F F11;simp only [lkS,lkM,List.getD_cons_zero,List.getD_cons_succ,and_true,true_and] at F12;have F:=ai F F12;have F:=ai F (UU.v_ok o8);have F:=aj5 F @ZaH hn q2 tmz;refine gO3 ?_;exact xE hB (ZaE.2 ⟨x8,o8,by simp [lkS,lkM,gs,gm,ZaG,F0,F8,F11,F12,UU.two,UU.vs,UU.sl]⟩)
 ·intro s' m' hB hD hI hJ;have F:=Za6.1 hB;simp only [lkS,lkM,List.getD_cons_zero,List.getD_cons_succ,and_true,true_and] at F;obtain ⟨x9,o9,F9⟩:=ZaE.1 (hD 9 (by decide) (.inr rfl));simp only [lkS,lkM,List.getD_cons_zero,List.getD_cons_succ,and_true,true_and] at F9;have F:=ai F F9;have F:=ai F (UU.v_ok o9);have F:=aj3 F bdz tmz;refine gO3 ?_;exact xE hB (ZaE.2 ⟨x9,o9,by simp [lkS,lkM,gs,gm,ZaG,F9,UU.two,UU.vs,UU.sl]⟩)
 intro s' m' hB hP;obtain ⟨x10,o10,P10⟩:=hP 10 (.inl (by decide)) (fun k h=>by simp [List.lookup] at h);refine ⟨_,_,hB.app P10,?_⟩;simp only [Taf,Tah,List.append_nil,List.getD_cons_zero,List.getD_cons_succ]
 /- gk end cpbdJ -/
 refine ⟨_,Wk.refl _,?_⟩;obtain ⟨a0,ha0⟩:∃ a,a=x10.v 3 0:=⟨_,rfl⟩;obtain ⟨a1,ha1⟩:∃ a,a=x10.v 3 1:=⟨_,rfl⟩;obtain ⟨a2,ha2⟩:∃ a,a=x10.v 3 2:=⟨_,rfl⟩;obtain ⟨a3,ha3⟩:∃ a,a=x10.v 3 3:=⟨_,rfl⟩;obtain ⟨b0,hb0⟩:∃ a,a=x10.v 6 0:=⟨_,rfl⟩;obtain ⟨b1,hb1⟩:∃ a,a=x10.v 6 1:=⟨_,rfl⟩;obtain ⟨b2,hb2⟩:∃ a,a=x10.v 6 2:=⟨_,rfl⟩;obtain ⟨b3,hb3⟩:∃ a,a=x10.v 6 3:=⟨_,rfl⟩;obtain ⟨E,hE⟩:∃ a,a=x10.E 3:=⟨_,rfl⟩;obtain ⟨F',hF⟩:∃ a,a=x10.E 6:=⟨_,rfl⟩
 simp only [<- ha0,<- ha1,<- ha2,<- ha3,<- hb0,<- hb1,<- hb2,<- hb3,<- hE,<- hF];refine pE [1003,1006] [1006] (Zgm (G':=fun w=>Zaf w (Za8 y) (fun b=>E b∨F' b) [a0,a1,a2,a3,b0,b1,b2,b3]) (fun w h1 h2 hd=>ZE0 h1 h2 hd) (Zaf.stable _ _ _)) ?_;refine pE [1000,1006] [1000] (Zgm (G':=fun w=>Zao w (Zat (l.take (i+1))) (fun b=>E0 b∨(E b∨F' b)) (uss++[[a0,a1,a2,a3,b0,b1,b2,b3]])) (fun w h1 h2 hd=>?_) (Zao.stable _ _ _)) ?_
 ·rw [Zkr l hy];exact Zao.snoc h1 h2 (fun _ h=>.inl h) (fun _ h=>.inr h) hd
 have hl8:Zah [a0,a1,a2,a3,b0,b1,b2,b3]=[.lit a0,.lit a1,.lit a2,.lit a3,.lit b0,.lit b1,.lit b2,.lit b3]:=rfl;have F:=aj4 @hl8 @hwi (@Tbw.{0,0}) @tmz;refine gG ?_;exact ⟨(i+1,uss++[[a0,a1,a2,a3,b0,b1,b2,b3]],fun b=>E0 b∨(E b∨F' b)),⟨hlt,by simp [hn]⟩,gw,gw,om⟩
theorem ZAN {e:Env} {f:FuncId} {args args' r:List D} (h:Con e f args r) (hd:∀ (w:World) (S:Nat->Prop) (vs:List Value),ZaI w S args' vs->ZaI w S args vs):Con e f args' r :=
 ⟨h.1,fun w S vs h1 h2 h3 h4=>h.2 w S vs h1 h2 h3 (hd w S vs h4)⟩
section
variable {g:Sgn} {p t:Tm}
open Classical in
noncomputable def refM (g:Sgn) (p t:Tm):Option (List (List Bd)):=if SgnOk g∧TermOk g p∧TermOk g t∧(ZbQ g t).length ^ (Zbs p).length<=20000 then some (matL g p t (ZbQ g t) (Zbs p)) else none
theorem Zi9 (h1:SgnOk g) (h2:TermOk g p) (h3:TermOk g t) (h4:(ZbQ g t).length ^ (Zbs p).length<=20000):refM g p t=some (matL g p t (ZbQ g t) (Zbs p)):=if_pos ⟨h1,h2,h3,h4⟩
theorem Zen (h:¬ (SgnOk g∧TermOk g p∧TermOk g t∧(ZbQ g t).length ^ (Zbs p).length<=20000)):refM g p t=none:=if_neg h
theorem ZAO:∀ (n:Nat) (t:Tm),sizeTm t < n->ZaF g t->∀ v∈Zbc t,Zcj g v:=by
 intro n
 induction n with
 | zero=>exact fun t h=>absurd h om
 | succ n ih =>
  intro t hn ht v hv;have key:∀ {ts:List Tm},v∈Za0 ts->∃ a∈ts,v∈Zbc a:=by
   intro ts
   induction ts with
   | nil=>intro h;simp [Za0] at h
   | cons x xs ih =>
    intro h;simp only [Za0,Tbh] at h;rcases h with h | h
    ·exact ⟨x,Tas,h⟩
    ·obtain ⟨a,ha,h⟩:=ih h;exact ⟨a,Tal _ ha,h⟩
  by_cases hop:t.op=-1
  ·have hV:Zcj g t:=by
    rcases ht.node with h | ⟨o,d,h⟩
    ·exact h
    ·have:=h.lo;omega
   obtain ⟨op,nm,so,args⟩:=t;simp only [Tm.op] at hop;have ha0:args=[]:=hV.2.2.2.2;subst hop ha0;simp only [Zbc,if_pos,Tbj] at hv;rw [hv];exact hV
  ·have e:Zbc t=Za0 t.args:=by
    obtain ⟨op,nm,so,args⟩:=t;simp only [Tm.op] at hop;simp only [Zbc,if_neg hop,Tm.args]
   rw [e] at hv;obtain ⟨a,ha,hv⟩:=key hv;have:=ZbA ha;have:=Zbt t;exact ih a om ((ZaY.1 ht).2.1 a ha) v hv
theorem Zwm (ht:TermOk g p):∀ v∈Zbs p,Zcj g v:=fun v hv=>ZAO _ p (Tan _) ht.form v (Zdd.1 hv)
mutual
theorem Zpl:∀ t:Tm,(Zbc t).length<=sizeTm t
 | .mk op nm so args=>by
  have:=Znv args;simp only [Zbc,sizeTm];split
  ·simp only [Tag,Tak];omega
  ·omega
theorem Znv:∀ ts:List Tm,(Za0 ts).length<=sizeTms ts
 | []=>by simp [Za0]
 | t::ts=>by
  have h1:=Zpl t;have h2:=Znv ts;simp only [Za0,sizeTms,Tae];omega
end
theorem ZAP (t:Tm):(Zbs t).length<=sizeTm t:=Tbe (Zl9 _) (Zpl t)
theorem ZrT {z i m:Nat} (hz:1<=z) (h:i<=m):z ^ i<=z ^ m:=Tbt hz h
theorem ZrU:1<=(ZbQ g t).length:=by
 have:=ZAK (g:=g) (t:=t)
 cases h:ZbQ g t with
 | nil=>rw [h] at this;cases this
 | cons x xs=>simp
theorem ZrV (hT:TermOk g t) (hg:SgnOk g):(ZbQ g t).length<=1048576:=by
 have:=ZAI hg hT;unfold tmsB at this;omega
theorem Zk0 (hg:SgnOk g) (hp:TermOk g p) (hT:TermOk g t):∀ b∈matL g p t (ZbQ g t) (Zbs p),Zdq b∧b.length<=8∧∀ y∈b,TermOk g y.var∧TermOk g y.to:=fun b hb=>by
 unfold matL at hb;split at hb
 ·rename_i h8;rw [ZfF ZhG] at hb;rcases hb with hb | hb
  ·obtain ⟨xs,h1,h2,h3,h4,h5⟩:=Zho.1 hb;have h4:b=mkB (Zbs p) xs:=by simpa using h4
   have hT2:∀ y∈b,TermOk g y.var∧TermOk g y.to:=fun y hy=>by
    rw [h4] at hy;exact ⟨(Zwm hp _ (Zdk hy).1).term,Zkq hg hT _ (h2 _ (Zdk hy).2)⟩
   refine ⟨fun y hy=>⟨(hT2 y hy).1.ok hg,(hT2 y hy).2.ok hg⟩,?_,hT2⟩;rw [h4];exact Tbe (Zir _ _) h8
  ·cases hb
 ·cases hb
theorem ZrW:(matL g p t (ZbQ g t) (Zbs p)).length<=(ZbQ g t).length ^ (Zbs p).length:=by
 unfold matL;split
 ·refine Tbe (Zl3 _ _) ?_;have:=Zl2 (g:=g) (p:=p) (t:=t) (cs:=ZbQ g t) (Zbs p) [];simp only [Tak];omega
 ·simp
theorem Zwn (hokg:ZdQ g) (hp:okTm p) (ht:okTm t) (hbp:bulkRow (Zac p)<=1048576) (hbt:bulkRow (Zac t)<=1048576):Con e0 6 [.agg (ZaB g),.agg (Zac p),.agg (Zac t)] [.one (.sl (Zay ((refM g p t).getD []))),.one (.lit (.bool (refM g p t).isSome))]:=by
 have cP:=Zii hokg hp (Zf7 hbp);have cT:=Zii hokg ht (Zf7 hbt);have hz:Zay []=[]:=rfl;rw [ZaB] at cP cT;rw [ZaB];refine gI (ts:=[.slot 6,.slot 7]) 288250175967756287 Tryz.func6 ?_;refine fN 1 @tmz ?_;refine gB ?_;refine fC @tmz (cP) ?_;by_cases hg:SgnOk g;rotate_left
 ·have hsf:ZcI g=false:=ZfZ hg;rw [Zen fun h=>hg h.1,hsf,Bool.false_and];refine fR @tmz ?_;have F:=ai @hz @tmz;refine gG ?_;exact gTz [6]
 have hsg:ZcI g=true:=ZgC hg;simp only [hsg,Bool.true_and] at cT ⊢;by_cases hpt:TermOk g p;rotate_left
 ·rw [Zen fun h=>hpt h.2.1,ZdY hpt];refine fR @tmz ?_;have F:=ai @hz @tmz;refine gG ?_;exact gTz [6]
 rw [Zej hpt];refine fC @tmz (cT) ?_;by_cases htt:TermOk g t;rotate_left
 ·rw [Zen fun h=>htt h.2.2.1,ZdY htt];refine fR @tmz ?_;have F:=ai @hz @tmz;refine gG ?_;exact gTz [6]
 rw [Zej htt];have cV:=ZrL hp hbp;have cC:=ZsX hg htt ht hbt;rw [<- ZAE htt.form,ZaB] at cC;have hcp:=ZrU (g:=g) (t:=t);have hcl:=ZrV htt hg;have hct:=Zkq hg htt;have hvv:=Zwm hpt;have hva:Asc (Zbs p):=ZdB _;have hmo:=fun h4=>Zi9 hg hpt htt h4;have hmn:¬ (ZbQ g t).length ^ (Zbs p).length<=20000->refM g p t=none:=fun h=>Zen fun q=>h q.2.2.2;have hmt:=Zk0 hg hpt htt;have hml:=ZrW (g:=g) (p:=p) (t:=t)
 have hm8:¬ (Zbs p).length<=8->matL g p t (ZbQ g t) (Zbs p)=[]:=fun h=>if_neg h;have hm9:(Zbs p).length<=8->matL g p t (ZbQ g t) (Zbs p)=colR lexB (tryL g p t (ZbQ g t) (Zbs p) []) []:=fun h=>if_pos h;have hvl:(Zbs p).length<=1048577:=by have:=Zwi p;omega
 refine fR @tmz ?_;refine fN 3 @tmz ?_;refine gB ?_;refine fC @tmz (cV) ?_;refine fR @tmz ?_;refine fN 4 @tmz ?_;refine gB ?_;refine fC @tmz (cC) ?_;refine fR @tmz ?_;have cTr:=fun h8=>Zwa (p:=p) (t:=t) hokg hg hpt htt hct hcl (vs:=Zbs p) hva hvv h8 (Zbs p).length [] [];generalize matL g p t (ZbQ g t) (Zbs p)=ML at hmo hmt hml hm8 hm9;generalize hR:refM g p t=R at hmo hmn ⊢;generalize ZbQ g t=cs at hcp hcl hct hmo hmn hml hm9 cTr ⊢
 generalize Zbs p=vs at hvv hva hvl hmo hmn hml hm8 hm9 cTr ⊢;refine fG @tmz ?_;have F:=@tmz;refine gL (ι:=Nat) [6,7,10,11,33,41] [] (fun i=>[(11,A.d (.one (.lit (.int .i64 i)))),(10,A.d (.one (.lit (.int .i64 (cs.length ^ i)))))]) (fun i=>[]) (fun i=>i<=vs.length∧cs.length ^ i<=20000) (fun i=>vs.length - i) (0) (⟨Taj _,by simp⟩) (fun i hi=>?_);clear F;obtain ⟨hi,hpw⟩:=hi;have hpi:((cs.length:Int) ^ i)=((cs.length ^ i:Nat):Int):=(Int.natCast_pow _ _).symm
 by_cases hlt:i < vs.length
 ·have q1:=lT i vs.length;have wi:=Zau (k:=i) om;have hps:((cs.length:Int) ^ (i+1))=((cs.length ^ (i+1):Nat):Int):=(Int.natCast_pow _ _).symm;have hmu:cs.length ^ i * cs.length<=20000 * 1048576:=Nat.mul_le_mul hpw hcl;have hmi:((cs.length ^ (i+1):Nat):Int)=((cs.length ^ i:Nat):Int) * (cs.length:Int):=by rw [Nat.pow_succ];exact Int.natCast_mul _ _
  have hme:cs.length ^ (i+1)=cs.length ^ i * cs.length:=by rw [Nat.pow_succ]
  have wm:IntKind.i64.wrap (((cs.length:Int) ^ i) * (cs.length:Int))=(cs.length:Int) ^ (i+1):=by
   rw [hpi,hps,<- hmi];exact IntWalk.i64_in _ om
  by_cases h2:cs.length ^ (i+1)<=20000
  ·have q2:((20000:Int) < (cs.length:Int) ^ (i+1))=False:=eq_false (by rw [hps];omega);have F:=aj5 @q1 @q2 @wi @wm @tmz;refine gG ?_;exact ⟨i+1,⟨hlt,h2⟩,gw,gw,om⟩
  ·have q2:((20000:Int) < (cs.length:Int) ^ (i+1))=True:=eq_true (by rw [hps];omega);rw [hmn fun h=>h2 (Tbe (ZrT hcp hlt) h)];have F:=aj6 @q1 @q2 @wi @wm @hz @tmz;refine gG ?_;exact gTz [6]
 obtain rfl:i=vs.length:=by omega
 have q1:=lF vs.length vs.length;rw [hmo hpw];by_cases h8:vs.length<=8;rotate_left
 ·have q2:=lT 8 vs.length;rw [hm8 h8];have F:=aj4 @q1 @q2 @hz @tmz;refine gG ?_;exact gTz [6]
 have q2:=lF 8 vs.length;have cTr:=cTr h8 rfl (by simp) (by simp) (by simp only [Tak];omega);rw [Tak,List.drop_zero,show mkB vs []=[] by cases vs <;> rfl,<- hm9 h8] at cTr;have cTr:=ZAN cTr (args':=[.agg (ZaB g),.agg (Zac p),.agg (Zac t),.one (.sl (Zaa vs)),.one (.sl (Zaa cs)),.clip [],.clip []]) (fun w S us h=>by
  match us,h with
  | [u0,u1,u2,u3,u4,u5,u6],h =>
   obtain ⟨h0,h1,h2,h3,h4,h5,h6,_⟩:=h;exact ⟨h0,h1,h2,h3,h4,h5.1,h6.1,trivial⟩)
 rw [ZaB] at cTr;refine fN 14 (aj3 @q1 @q2 @tmz) ?_;refine gB ?_;refine fC @tmz (cTr) ?_;refine fR @tmz ?_;refine fG (ai @sz3 @tmz) ?_;have F:=aj3 @hz @sz3 @tmz;refine gL (ι:=Nat) [13,14,58] [13] (fun i=>[(14,A.d (.one (.lit (.int .i64 i)))),(13,.buf 13)]) (fun i=>[(13,.buf none 62 1 (Zay (ML.take i)))]) (fun i=>i<=ML.length) (fun i=>ML.length - i) (0) (Taj _) (fun i hi=>?_);clear F;by_cases hlt:i < ML.length
 ·obtain ⟨b,hb⟩:∃ b,ML[i]?=some b:=⟨_,Taa hlt⟩;obtain ⟨m1,m2,m3⟩:=hmt b (Tac hb);have cK:=ZsY b om fun y hy=>⟨by have:=ZeB (m3 y hy).1.form;have:=(m3 y hy).1.size;omega,by have:=ZeB (m3 y hy).2.form;have:=(m3 y hy).2.size;omega⟩;have q3:=lT i ML.length;have wi:=Zau (k:=i) om;have l1:((ML.take i).length+1<=maxApp)=True:=eq_true (by rw [Taw];unfold maxApp;omega);have l2:Zay (ML.take i)++[[.sl (Zat b)]]=Zay (ML.take (i+1)):=by rw [List.take_add_one,hb,Ziq];rfl
  refine fG (aj3 @q3 @sz3 @tmz) ?_;refine fN 19 (aj3 @q3 @sz3 @tmz) ?_;refine gB ?_;refine fC (aj3 @hb @sz3 @tmz) (cK) ?_;refine fR (aj4 @l1 @l2 @sz3 @tmz) ?_;have F:=ai @wi @tmz;refine gG ?_;exact ⟨i+1,hlt,gw,gw,om⟩
 obtain rfl:i=ML.length:=by omega
 have q3:=lF ML.length ML.length;rw [Tap];have F:=aj3 @q3 @sz3 @tmz;refine gG ?_;exact gTz [6]
end
end Go.Proofs.YtkigoajepohkaaaGreatDoor
namespace Go.Proofs.YtkigoajepohkaaaGreatDoor
open Go.RowKit
open Go.Sort (grow SWO PermIn SortedIn Holds mapBlock onCells putRow putCells)
def encH {w:World} {S:Nat->Prop} {Q:List C->Prop} (x:SRow w S Q):Value:=x.1.2.headD (.bool true)
theorem Zof {w:World} {S:Nat->Prop} {Q:List C->Prop} {x:SRow w S Q} (h:x.1.2.length=1):x.1.2=[encH x]:=by
 unfold encH
 match x.1.2,h with
 | [u],_=>rfl
theorem ZrX {w:World} {S:Nat->Prop} {cs:List C} {us:List Value} {u:Value} (h:cs.length=1) (hu:us=[u]) (hr:Zab w S cs us):Rep w S (cs.headD (.lit (.bool true))) u:=by
 subst hu
 match cs,h,hr with
 | [c],_,hr=>exact hr.1
section
variable {w W:World} {S:Nat->Prop} {Q:List C->Prop} [Inhabited (SRow w S Q)]
theorem ZAQ {b:Nat} {l:List (SRow w S Q)} (hk:∀ x:SRow w S Q,x.1.2.length=1) (hf:∀ o,w.frozen? ⟨b,o,none⟩=false) (h:∀ (i:Nat) x,l[i]?=some x->∀ j u,x.1.2[j]?=some u->w.cell? ⟨b,0+i * 1+j,none⟩=some u):Holds encH w b 0 l.toArray:=by
 intro i hi;have hi':i < l.length:=by simpa using hi
 refine ⟨?_,hf _⟩;have e1:l.toArray[i]! = l[i]:=by rw [getElem!_pos _ _ (by simpa using hi)];rfl
 rw [e1];have:=h i l[i] (Taa hi') 0 (encH l[i]) (by rw [Zof (hk _)];rfl)
 rwa [show 0+i * 1+0=0+i by omega] at this
theorem ZrY {b:Nat} {d:Array (SRow w S Q)} (hk:∀ x:SRow w S Q,x.1.2.length=1) (h:Holds encH W b 0 d) {i:Nat} {x:SRow w S Q} (hi:d.toList[i]?=some x) {j:Nat} {u:Value} (hj:x.1.2[j]?=some u):W.cell? ⟨b,0+i * 1+j,none⟩=some u:=by
 have hil:i < d.size:=by have:=(Tad.1 hi).1;simpa using this
 rw [Zof (hk x)] at hj;have hj0:j=0:=by
  have:=(Tad.1 hj).1;simp only [Tag,Tak] at this;omega
 subst hj0;have hu:encH x=u:=by simpa using hj
 have h1:=(h i hil).1;have e1:d[i]! = x:=by
  rw [getElem!_pos d i hil];have:=(Tad.1 hi).2;simpa using this
 rw [e1,hu] at h1
 rwa [show 0+i * 1+0=0+i by omega]
theorem ZAR {b n:Nat} {d:Array (SRow w S Q)} {os:Array Obj} {cur:Array Value} {ty:Nat} (hh:w.heap[b]?=some (.cells cur ty (0,0))):(sortWorld encH w b 0 n d os).heap[b]?=some (.cells (putCells encH 0 d cur) ty (0,0)):=by
 have hb:b < w.heap.size:=(Tbl.1 hh).1;show ((w.heap.modify b (onCells (putCells encH 0 d)))++os)[b]?=_;rw [Array.getElem?_append_left (by simpa using hb),Array.getElem?_modify,if_pos rfl,hh];rfl
theorem Zks {b n j:Nat} {d:Array (SRow w S Q)} {os:Array Obj} (hj:j < w.heap.size) (hne:j≠b):(sortWorld encH w b 0 n d os).heap[j]?=w.heap[j]?:=by
 show ((w.heap.modify b (onCells (putCells encH 0 d)))++os)[j]?=_;rw [Array.getElem?_append_left (by simpa using hj),Array.getElem?_modify,if_neg (fun e=>hne e.symm)]
theorem ZfN {b n:Nat} {d:Array (SRow w S Q)} {os:Array Obj}:w.heap.size<=(sortWorld encH w b 0 n d os).heap.size:=by
 show _<=((w.heap.modify b (onCells (putCells encH 0 d)))++os).size;simp
end
theorem Zwo {P:Program} (hP:e1.P=P) {ρ:Go.Shelf.Ren} (L:SlLaysF.n6 P ρ) (L0:SlLaysF0.n6 P ρ) {ty:Nat} (hbody:Zcr P (ρ.f 6)=true) {g:FuncId} (eg:∀ args w,(callFunc g args).run P w=.ok (.enter g args) w)
  {rows rows':List (List C)} {cf:List C->List C->Int} (hlen:rows.length < 4611686018427387904) (hg:∀ a∈rows,∀ b∈rows,Con e1 g [.one (a.headD (.lit (.bool true))),.one (b.headD (.lit (.bool true)))] [.one (.lit (.int .i64 (cf a b)))])
  (h1:∀ a∈rows,¬ cf a a < 0) (h2:∀ a∈rows,∀ b∈rows,∀ c∈rows,cf a b < 0->cf b c < 0->cf a c < 0) (h3:∀ a∈rows,∀ b∈rows,∀ c∈rows,¬ cf a b < 0->¬ cf b c < 0->¬ cf a c < 0)
  (hu:∀ l:List (List C),l.Perm rows->(∀ (i j:Nat) a b,i < j->l[i]?=some a->l[j]?=some b->¬ cf b a < 0)->l=rows'):ConI e1 (ρ.f 6) ty 1 rows [.one (.fn g [])] rows' []:=by
 refine ⟨by rw [hP];exact hbody,fun w S v0 vs hS hE hvE hG hbuf hargs=>?_⟩;rw [hP]
 match vs,hargs with
 | [u],hargs =>
  obtain ⟨⟨us,rfl,hus⟩,_⟩:(∃ us:List Value,u=.func (.func g) #[] us.toArray∧Zab w S [] us)∧True:=by simpa [ZaI,DRel,Rep] using hargs
  have hus0:us=[]:=by cases us with
   | nil=>rfl
   | cons _ _=>simp [Zab] at hus
  subst hus0;obtain ⟨h0,hrl,hcase⟩:=hbuf;by_cases hne:rows=[]
  ·subst hne;have hr':rows'=[]:=(hu [] (List.Perm.refl _) (fun i j a b _ h=>by simp at h)).symm;subst hr';have hform:∃ p cap,v0=.slice p 0 cap:=by
    rcases hcase with ⟨_,a,rfl⟩ | ⟨b,cap,cur,rfl,_⟩
    ·exact ⟨a,0,rfl⟩
    ·exact ⟨_,cap,rfl⟩
   obtain ⟨p,cap,hv0⟩:=hform;rw [hv0];refine (AnyF.slices_SortFunc_none (P:=P) L0 p cap _ w).mono ?_;rintro e w' ⟨rfl,rfl⟩;rw [<- hv0];have hs:(fun b=>S b∨(w'.heap.size<=b∧b < w'.heap.size))=S:=by
    funext b;exact propext ⟨fun h=>h.elim id (fun h=>absurd h.2 om),.inl⟩
   refine ⟨_,rfl,Kept.refl ..,hG,?_,[],rfl,trivial⟩;rw [hs];exact ⟨h0,hrl,hcase⟩
  ·rcases hcase with ⟨e,_⟩ | ⟨b,cap,cur,rfl,hc,hbz,hSb,hh,hle,hmx,hcs,hrows⟩
   ·exact absurd e hne
   have hkr:∀ r,r∈rows->r.length=1:=fun r hr=>(hrl r hr).1;obtain ⟨l,hl,hcell⟩:=Zl4 (k:=1) (Q:=fun r=>r∈rows) hkr rows 0 (fun r h=>h) hrows;have hll:l.length=rows.length:=by have:=congrArg List.length hl;rwa [Tay] at this
   obtain ⟨x0,hx0⟩:∃ x,x∈l:=List.exists_mem_of_ne_nil _ (fun e=>hne (Tao (by rw [<- hll,e];rfl)))
   letI:Inhabited (SRow w S (fun r=>r∈rows)):=⟨x0⟩
   have hk:∀ x:SRow w S (fun r=>r∈rows),x.1.2.length=1:=fun x=>by rw [x.2.2.len];exact hkr _ x.2.1
   have hen:∀ x:SRow w S (fun r=>r∈rows),x.1.2=[encH x]:=fun x=>Zof (hk x);have h1c:OneCell (encH (w:=w) (S:=S) (Q:=fun r=>r∈rows)):=fun x=>Zab.one (hrl _ x.2.1).2 x.2.2 _ (by rw [hen x];exact Tbj.2 rfl);have hH:Holds encH w b 0 l.toArray:=ZAQ hk (fun o=>frozen_of_row w b o cur ty hh) hcell
   have keepV:∀ (m:Nat) (os:Array Obj) (dk:Array (SRow w S (fun r=>r∈rows))) (S2:Nat->Prop),(∀ b,S b->S2 b)->∀ x:SRow w S (fun r=>r∈rows),Zab (sortWorld encH w b 0 m dk os) S2 x.1.1 x.1.2:=fun m os dk S2 hS2 x =>
    Zab.keep2 (ZfN (Q:=fun r=>r∈rows)) (fun b' o hb'=>ZbD (Zks (Q:=fun r=>r∈rows) (hS b' hb').1 (fun e:b'=b=>hSb (by rw [<- e];exact hb'))) o) hS2 x.2.2
   have hvb:vblk (.slice (some ⟨b,0,none⟩) rows.length cap)=some b:=by simp only [vblk];rw [if_neg om]
   have keepG:∀ (m:Nat) (os:Array Obj) (dk:Array (SRow w S (fun r=>r∈rows))),e1.G (sortWorld encH w b 0 m dk os):=fun m os dk =>
    ZpV.keep w _ (ZfN (Q:=fun r=>r∈rows)) (fun b' hb'=>Zks (Q:=fun r=>r∈rows) (hE b' hb') (fun e=>hvE b hvb (e ▸ hb'))) hG
   have hcmp:CmpLays1 P g #[] (encH (w:=w) (S:=S) (Q:=fun r=>r∈rows)) (fun x y=>cf x.1.1 y.1.1) b 0 l.toArray.size w:=by
    intro m os dk hdk x y
    have hc:=(hg _ x.2.1 _ y.2.1).2 (sortWorld encH w b 0 m dk os) S [encH x,encH y] (fun b' hb'=>⟨Tbd (hS b' hb').1 (ZfN (Q:=fun r=>r∈rows)),(hS b' hb').2⟩) (fun b' h=>Tbd (hE b' h) (ZfN (Q:=fun r=>r∈rows))) (keepG m os dk)
     ⟨ZrX (hkr _ x.2.1) (hen x) (keepV m os dk S (fun _ h=>h) x),ZrX (hkr _ y.2.1) (hen y) (keepV m os dk S (fun _ h=>h) y),trivial⟩
    rw [hP] at hc;refine hc.mono ?_;rintro e w' ⟨v,rfl,hK,hG',hv⟩;have hv:v=.int .i64 (cf x.1.1 y.1.1):=by simpa [retA,ARel,DRel,Rep] using hv
    exact ⟨by rw [hv],Zpc (hK.all1 (keepG m os dk) hG')⟩
   have hO:SWO (ltOf (fun x y:SRow w S (fun r=>r∈rows)=>cf x.1.1 y.1.1)):=by
    refine ⟨fun x=>?_,fun x y z=>?_,fun x y z=>?_⟩ <;> simp only [ltOf,decide_eq_false_iff_not,decide_eq_true_eq]
    ·exact h1 _ x.2.1
    ·exact h2 _ x.2.1 _ y.2.1 _ z.2.1
    ·exact h3 _ x.2.1 _ y.2.1 _ z.2.1
   have hsort:=Any.slices_SortFunc L (encH (w:=w) (S:=S) (Q:=fun r=>r∈rows)) h1c (fun x y=>cf x.1.1 y.1.1) hO g #[] b 0 cap l.toArray w eg hcmp hH hbz (by simp only [List.size_toArray];omega);have hlz:l.toArray.size=rows.length:=by simpa using hll
   rw [hlz] at hsort;refine hsort.mono ?_;rintro e w' ⟨rfl,d',n,os,hp,hs,rfl⟩;obtain ⟨hp1,_,hp3⟩:=hp;rw [hlz] at hp1;have hex:∀ a:Array (SRow w S (fun r=>r∈rows)),a.size=rows.length->a.extract 0 rows.length=a:=fun a ha=>by rw [<- ha];simp
   rw [hex d' hp1,hex _ hlz] at hp3;have hperm:(d'.toList.map (fun x=>x.1.1)).Perm rows:=by
    have:=hp3.map (fun x:SRow w S (fun r=>r∈rows)=>x.1.1)
    rwa [show l.toArray.toList=l from rfl,hl] at this
   have hrows':d'.toList.map (fun x=>x.1.1)=rows':=hu _ hperm fun i j a c hij ha hc=>by
    simp only [Tba,Tav] at ha hc;obtain ⟨x,hx,rfl⟩:=ha;obtain ⟨y,hy,rfl⟩:=hc;have hjl:j < rows.length:=by have:=(Tad.1 hy).1;simpa [hp1] using this
    have:=hs i j (Taj _) hij hjl;have ex:d'[i]! = x:=by
     rw [getElem!_pos d' i om];have:=(Tad.1 hx).2;simpa using this
    have ey:d'[j]! = y:=by
     rw [getElem!_pos d' j om];have:=(Tad.1 hy).2;simpa using this
    rw [ex,ey] at this;simpa [ltOf] using this
   have hlr:rows'.length=rows.length:=by rw [<- hrows',Tay,Array.length_toList,hp1]
   have hW:Holds encH (sortWorld encH w b 0 n d' os) b 0 d':=SW.holds (d0:=l.toArray) ⟨n,os,rfl⟩ hbz hH (by rw [hp1,hlz]);refine ⟨_,rfl,⟨rfl,rfl,rfl,fun _=>Nat.le_add_right _ _,ZfN (Q:=fun r=>r∈rows),fun j hj hn=>Zks (Q:=fun r=>r∈rows) hj (fun e=>hn (.inr (by rw [hvb,e])))⟩,keepG n os d',⟨h0,fun r hr=>?_,.inr ⟨b,cap,_,by rw [hlr],hc,Tbd hbz (ZfN (Q:=fun r=>r∈rows)),fun hn=>?_,ZAR hh,om,hmx,by simp [putCells,hcs],?_⟩⟩,[],rfl,trivial⟩
   ·rw [<- hrows'] at hr;exact hrl r (hperm.mem_iff.1 hr)
   ·rcases hn with hn | hn
    ·exact hSb hn
    ·omega
   ·rw [<- hrows'];exact Zi4 (Q:=fun r=>r∈rows) hkr (keepV n os d' _ (fun b hb=>.inl hb)) d'.toList 0 fun i x hi j u hj=>ZrY hk hW hi hj
end Go.Proofs.YtkigoajepohkaaaGreatDoor
namespace Go.Proofs.YtkigoajepohkaaaGreatDoor
open Go.Shelf
def Zwp:Ren:=⟨fun | 6=>36 | 15=>84 | 14=>83 | 28=>148 | 29=>149 | 20=>140 | 21=>141 | 22=>142 | 23=>143 | 24=>144 | 25=>145 | 26=>146 | 27=>147 | 46=>174 | 47=>175 | 48=>176 | 49=>177 | 50=>178 | 57=>198 | n=>n,fun | 22=>34 | 24=>62 | 25=>79 | 3=>3 | 39=>128 | 0=>0 | 53=>178 | 55=>180 | 4=>4 | 46=>172 | 45=>171 | 50=>168 | 5=>5 | 9=>9 | 66=>197 | 70=>201 | 76=>210 | 77=>211 | n=>n,fun | n=>n⟩
theorem ZAS:Go.Proofs.SlLaysF.n6 Tryz.prog Zwp:={
 mixed:=by kernel_rfl,
 f6:=⟨Tryz.f36.name,by decide,Tryz.func36.trans (congrArg some (by kernel_rfl))⟩,
 f14:=⟨Tryz.f83.name,by decide,Tryz.func83.trans (congrArg some (by kernel_rfl))⟩,
 f15:=Tryz.func84.trans (congrArg some (by kernel_rfl)),
 f20:=⟨Tryz.f140.name,by decide,Tryz.func140.trans (congrArg some (by kernel_rfl))⟩,
 f21:=⟨Tryz.f141.name,by decide,Tryz.func141.trans (congrArg some (by kernel_rfl))⟩,
 f22:=⟨Tryz.f142.name,by decide,Tryz.func142.trans (congrArg some (by kernel_rfl))⟩,
 f23:=⟨Tryz.f143.name,by decide,Tryz.func143.trans (congrArg some (by kernel_rfl))⟩,
 f24:=⟨Tryz.f144.name,by decide,Tryz.func144.trans (congrArg some (by kernel_rfl))⟩,
 f25:=⟨Tryz.f145.name,by decide,Tryz.func145.trans (congrArg some (by kernel_rfl))⟩,
 f26:=⟨Tryz.f146.name,by decide,Tryz.func146.trans (congrArg some (by kernel_rfl))⟩,
 f27:=⟨Tryz.f147.name,by decide,Tryz.func147.trans (congrArg some (by kernel_rfl))⟩,
 f28:=Tryz.func148.trans (congrArg some (by kernel_rfl)),
 f29:=Tryz.func149.trans (congrArg some (by kernel_rfl)),
 f46:=⟨Tryz.f174.name,by decide,Tryz.func174.trans (congrArg some (by kernel_rfl))⟩,
 f47:=Tryz.func175.trans (congrArg some (by kernel_rfl)),
 f48:=Tryz.func176.trans (congrArg some (by kernel_rfl)),
 f49:=⟨Tryz.f177.name,by decide,Tryz.func177.trans (congrArg some (by kernel_rfl))⟩,
 f50:=⟨Tryz.f178.name,by decide,Tryz.func178.trans (congrArg some (by kernel_rfl))⟩,
 f57:=⟨Tryz.f198.name,by decide,Tryz.func198.trans (congrArg some (by kernel_rfl))⟩,
 t0:=Tryz.underlying0,
 a0:=Tryz.isAgg0,
 z0:=Tryz.sizeOf0,
 v0:=Tryz.zeroValue0,
 t3:=Tryz.underlying3,
 a3:=Tryz.isAgg3,
 z3:=Tryz.sizeOf3,
 v3:=Tryz.zeroValue3,
 t4:=Tryz.underlying4,
 a4:=Tryz.isAgg4,
 z4:=Tryz.sizeOf4,
 v4:=Tryz.zeroValue4,
 t5:=Tryz.underlying5,
 a5:=Tryz.isAgg5,
 z5:=Tryz.sizeOf5,
 v5:=Tryz.zeroValue5,
 t9:=Tryz.underlying9,
 a9:=Tryz.isAgg9,
 z9:=Tryz.sizeOf9,
 v9:=Tryz.zeroValue9,
 t22:=Tryz.underlying34,
 a22:=Tryz.isAgg34,
 z22:=Tryz.sizeOf34,
 v22:=Tryz.zeroValue34,
 a24:=Tryz.isAgg62,
 z24:=Tryz.sizeOf62,
 t25:=Tryz.underlying79,
 a25:=Tryz.isAgg79,
 z25:=Tryz.sizeOf79,
 v25:=Tryz.zeroValue79,
 t39:=Tryz.underlying128,
 a39:=Tryz.isAgg128,
 z39:=Tryz.sizeOf128,
 v39:=Tryz.zeroValue128,
 t45:=Tryz.underlying171,
 a45:=Tryz.isAgg171,
 z45:=Tryz.sizeOf171,
 v45:=Tryz.zeroValue171,
 t46:=Tryz.underlying172,
 a46:=Tryz.isAgg172,
 z46:=Tryz.sizeOf172,
 v46:=Tryz.zeroValue172,
 t50:=Tryz.underlying168,
 a50:=Tryz.isAgg168,
 z50:=Tryz.sizeOf168,
 v50:=Tryz.zeroValue168,
 t53:=Tryz.underlying178,
 a53:=Tryz.isAgg178,
 z53:=Tryz.sizeOf178,
 v53:=Tryz.zeroValue178,
 t55:=Tryz.underlying180,
 a55:=Tryz.isAgg180,
 z55:=Tryz.sizeOf180,
 v55:=Tryz.zeroValue180,
 t66:=Tryz.underlying197,
 a66:=Tryz.isAgg197,
 z66:=Tryz.sizeOf197,
 v66:=Tryz.zeroValue197,
 t70:=Tryz.underlying201,
 a70:=Tryz.isAgg201,
 z70:=Tryz.sizeOf201,
 v70:=Tryz.zeroValue201,
 t76:=Tryz.underlying210,
 a76:=Tryz.isAgg210,
 z76:=Tryz.sizeOf210,
 v76:=Tryz.zeroValue210,
 t77:=Tryz.underlying211,
 a77:=Tryz.isAgg211,
 z77:=Tryz.sizeOf211,
 v77:=Tryz.zeroValue211 }
end Go.Proofs.YtkigoajepohkaaaGreatDoor
namespace Go.Proofs.YtkigoajepohkaaaGreatDoor
open Go.RowKit
noncomputable def unBd (r:List C):Bd:=⟨unT (r.take 4),unT (r.drop 4)⟩
theorem ZCu (b:Bd):unBd (Za8 b)=b:=by
 unfold unBd;rw [Zvy,Zvz,ZkM,ZkM]
noncomputable def unSb:List C->List Bd
 | [.sl rows]=>rows.map unBd
 | _=>[]
theorem Zmb (b:List Bd):unSb [.sl (Zat b)]=b:=by
 simp only [unSb,Zat,List.map_map]
 conv=>rhs;rw [<- List.map_id b]
 exact List.map_congr_left fun y _=>ZCu y
theorem ZsZ (l:List (List Bd)) (hn:l.Pairwise (·≠·)) (hl:l.length<=4000000):ConI e0 36 62 1 (Zay l) [.one (.fn 37 [])] (Zay (colR lexB l [])) []:=by
 have hrow:∀ a∈Zay l,a=[.sl (Zat (unSb a))]:=fun a ha=>by
  obtain ⟨b,_,rfl⟩:=Tbi.1 ha;rw [Zmb]
 exact Zu8 (Zwo (P:=Tryz.prog) rfl ZAS { ZAS with } (by kernel_rfl) (g:=37) (enters_of Tryz.func37 (by kernel_rfl) rfl) (rows:=Zay l) (rows':=Zay (colR lexB l [])) (cf:=fun a b=>lexB (unSb a) (unSb b)) (by rw [ZfK];omega)
  (fun a ha b hb=>by
   have h:=Zv8 (unSb a) (unSb b);rw [hrow a ha,hrow b hb];simp only [List.headD_cons,Zmb];exact h)
  (fun a _=>by rw [ZhG.self];omega) (fun a _ b _ c _ h1 h2=>ZhG.lt h1 h2) (fun a _ b _ c _ h1 h2=>ZhG.ge h1 h2)
  (fun m hp hs=>by
   have hmem:∀ a∈m,a=[.sl (Zat (unSb a))]:=fun a ha=>hrow a (hp.mem_iff.1 ha);have hul:(Zay l).map unSb=l:=by
    simp only [Zay,List.map_map]
    conv=>rhs;rw [<- List.map_id l]
    exact List.map_congr_left fun b _=>Zmb b
   have hp2:(m.map unSb).Perm l:=by have:=hp.map unSb;rwa [hul] at this
   have hup:(m.map unSb).Pairwise fun a b=>¬ lexB b a < 0:=by
    refine List.pairwise_iff_getElem.2 fun i j hi hj hij=>?_;simp only [List.getElem_map];simp only [Tay] at hi hj;exact hs i j m[i] m[j] hij (Taa hi) (Taa hj)
   have e:=ZvB ZhG hp2 hn hup;rw [<- e];simp only [Zay,List.map_map]
   conv=>lhs;rw [<- List.map_id m]
   exact List.map_congr_left fun a ha=>hmem a ha))
theorem Zr0 (l:List (List Bd)) (hl:l.length<=1048576) (h:∀ b∈l,b.length<=1048576∧∀ y∈b,bulkRow (Zac y.var)<=1048576∧bulkRow (Zac y.to)<=1048576):ConP e0 38 [.one (.sl (Zay l))] [] (Zct (Zay l)):=by
 have hz:Zay []=[]:=rfl;refine gIP (ts:=[.slot 2]) [] 1965 Tryz.func38 ?_;refine fG (ai @sz3 @tmz) ?_;refine pE [] [1000] Zb4 ?_;have F:=aj3 @hz @sz3 @tmz;refine gL (ι:=Nat × List (List Value) × (Nat->Prop)) [3,5,9,10] [3,1000] (fun x=>[(9,A.d (.one (.lit (.int .i64 x.1)))),(3,.buf 3)]) (fun x=>[(3,.buf none 62 1 (x.2.1.map Zah)),(1000,.set x.2.2 (fun w=>Zao w (Zay (l.take x.1)) x.2.2 x.2.1))]) (fun x=>x.1<=l.length∧x.2.1.length=x.1) (fun x=>l.length - x.1) ((0,[],fun _=>False)) (⟨Taj _,rfl⟩) (fun x hx=>?_);clear F
 obtain ⟨i,uss,E0⟩:=x;obtain ⟨hi,hn⟩:=hx;simp only at hi hn;by_cases hlt:i < l.length
 ·obtain ⟨b,hg⟩:∃ b,l[i]?=some b:=⟨_,Taa hlt⟩;obtain ⟨h1,h2⟩:=h b (Tac hg);have hc:=ZrS b h1 h2;have q1:=lT i l.length;have wi:=Zau (k:=i) om;have q2:i+1<=maxApp:=by unfold maxApp;omega
  have hsn:Zay (l.take (i+1))=Zay (l.take i)++[[.sl (Zat b)]]:=by rw [List.take_add_one,hg,Ziq];rfl
  refine fB (aj4 @q1 @hg @sz3 @tmz) ?_;have F:=@tmz;refine gCP [] [1001] (hc) ?_;clear F;rintro r pm ⟨u0,E2,rfl,hok,rfl⟩;simp only [setA,retA,zipM,Taf,Tah];have hl1:Zah [u0]=[.lit u0]:=rfl;refine fR (aj6 @hl1 @ZaH @hn @q2 @hok @tmz) ?_;refine pE [1001] [1001] (ZfO [.sl E2 (Zat b) u0]) ?_ (hp:=rfl);obtain ⟨E4,hE4⟩:∃ E,E=ZaW (segB [.sl E2 (Zat b) u0]):=⟨_,rfl⟩;rw [<- hE4];refine pE [1000,1001] [1000] (Zgm (G':=fun w=>Zao w (Zay (l.take (i+1))) (fun b=>E0 b∨E4 b) (uss++[[u0]])) (fun w h1 h2 hd=>?_) (Zao.stable _ _ _)) ?_
  ·rw [hsn];exact Zao.snoc h1 h2 (fun _ h=>.inl h) (fun _ h=>.inr h) hd
  have F:=aj4 @hl1 @wi (@Tbw.{0,0}) @tmz;refine gG ?_;exact ⟨(i+1,uss++[[u0]],fun b=>E0 b∨E4 b),⟨hlt,by simp [hn]⟩,gw,gw,om⟩
 ·obtain rfl:i=l.length:=by omega
  have q1:=lF l.length l.length;refine fG (aj3 @q1 @sz3 @tmz) ?_;rw [Tap];refine pS 2 fun a cap=>?_;refine pE [2,1000] [1000] (Zb6 (uss:=uss) (G':=fun w=>Own w (.sl (Zay l)) (fun b=>vblk (.slice a uss.length cap)=some b∨E0 b) (.slice a uss.length cap)) (fun w h=>h) (Own.stable _ _ _)) ?_;exact (have F:=ZaH;gTP (R:=Zct (Zay l)) [1000] ⟨.slice a uss.length cap,fun b=>vblk (.slice a uss.length cap)=some b∨E0 b,rfl,rfl,rfl⟩)
theorem ZaF.argC {g:Sgn} {t a:Tm} (h:ZaF g t) (ha:a∈t.args):ZaF g a:=(ZaY.1 h).2.1 a ha
def Zwr (bo bv:Nat) (f:FuncId) (x:C) (ty:Nat) (ts:List Tm) (r:List D) (pm:List Bk):Prop:=∃ a cap,r=[]∧pm=[.var (some bo) [.lit (.slice a ts.length cap)],.buf (some (a,cap)) ty 4 (Zaa ts),.var (some bv) [.fn f [.lit (ptr0 bo),.lit (ptr0 bv),x]]]
def Znx (g:Sgn) (mc:C) (bo bv:Nat) (t:Tm) (ts:List Tm) (a:Option Addr) (cap:Nat) (us:List Tm):Prop:=ConP e0 73 [.agg (Zac t),.one (.lit (ptr0 bo)),.one (.lit (ptr0 bv)),.one (.ptr [.ptr (encX g mc)])] [.var (some bo) [.lit (.slice a ts.length cap)],.buf (some (a,cap)) 46 4 (Zaa ts),.var (some bv) [.fn 73 [.lit (ptr0 bo),.lit (ptr0 bv),.ptr [.ptr (encX g mc)]]]] (Zwr bo bv 73 (.ptr [.ptr (encX g mc)]) 46 us)
def canL (W:Int->List Tm->List Tm) (ts args:List Tm) (i:Nat):List Tm:=ts++Zba W (args.take i)
theorem ZFQ (W:Int->List Tm->List Tm) (ts args:List Tm):canL W ts args 0=ts:=by simp [canL,Zba]
theorem ZAU {W:Int->List Tm->List Tm} {ts args:List Tm} {i:Nat} {b:Tm} (h:args[i]?=some b):canL W ts args (i+1)=canL W ts args i++Zby W b:=by
 unfold canL;rw [Zh1 h,Tbf]
def mskT (ts:List Tm) (F:Nat->List Tm) (m:Nat):List Tm:=ts++mskL F m
theorem ZFR {ts:List Tm} {F:Nat->List Tm} (h:F 0=[]):mskT ts F 1=ts:=by simp [mskT,mskL,h]
theorem ZCC {ts:List Tm} {F:Nat->List Tm} {m:Nat} {t:Tm} (h:F m=[t]):mskT ts F (m+1)=mskT ts F m++[t]:=by simp [mskT,mskL,h]
theorem ZE2 {ts:List Tm} {F:Nat->List Tm} {m:Nat} (h:F m=[]):mskT ts F (m+1)=mskT ts F m:=by simp [mskT,mskL,h]
theorem Zr1 {g:Sgn} {mc:C} (t:Tm) (hf:ZaF g t) (ts:List Tm) (a:Option Addr) (cap bo bv:Nat) (hne:bo≠bv) (hb:bulkRow (Zac t)<=1048576) (hl:ts.length+(Zby (ZaU g) t).length<=4000000)
  (h:∀ x∈t.args,∀ (us:List Tm) (a:Option Addr) (cap:Nat),us.length+(Zby (ZaU g) x).length<=4000000->Znx g mc bo bv x us a cap (us++Zby (ZaU g) x)) :
  Znx g mc bo bv t ts a cap (ts++Zby (ZaU g) t):=by
 unfold Znx at h ⊢;have hnode:=hf.node;have h7:=fun o=>hf.args7 (o:=o);obtain ⟨op,nm,so,args⟩:=t;have hc:Zac (.mk op nm so args)=[.lit (.int .i64 op),.lit (.string nm),.lit (.int .i64 so),.sl (Zaa args)]:=by simp only [Zac]
 have hn1:(bo=bv)=False:=eq_false hne;have hn2:(bv=bo)=False:=eq_false (fun e=>hne e.symm);simp only [Tm.args,Tm.op] at h h7;simp only [Zac,bulkRow,ZbG,Zad] at hb;simp only [ptr0] at h ⊢;have e0':Zby (ZaU g) (.mk op nm so args)=.mk op nm so args::(Zba (ZaU g) args++ZaU g op args):=by simp only [Zby]
 rw [e0'] at hl ⊢;simp only [Tag,Tae] at hl;have hm:ts.length+1<=maxApp:=by unfold maxApp;omega
 refine gIP (ts:=[]) [1001,1000,1002] 18889466498826582754271 Tryz.func73 ?_;refine fN 1 (ai @hc @tmz) ?_;refine gM (ι:=Option Addr × Nat) [] [14,1000,1001] (fun x=>[]) (fun x=>[(1001,.var (some bo) [.lit (.slice x.1 (ts.length+1) x.2)]),(14,.buf (some (x.1,x.2)) 46 4 (Zaa ts++[[.lit (.int .i64 op),.lit (.string nm),.lit (.int .i64 so),.sl (Zaa args)]]))]) (fun x=>True) ?_ (fun x hx=>Exists.intro _ (ai (Wk.refl _) ?_))
 ·have a1:(ts.length < ts.length+1)=True:=eq_true (Tan _);have a2:∀ Z:List C,(Zaa ts++[Z])[ts.length]?=some Z:=fun Z=>by rw [Tbq (by rw [Zad];exact Tai _),Zad,Nat.sub_self];rfl
  have a3:∀ Z X:List C,(Zaa ts++[Z]).set ts.length X=Zaa ts++[X]:=fun Z X=>by rw [List.set_append_right _ _ (by rw [Zad];exact Tai _),Zad,Nat.sub_self];rfl
  have F:=aj9 a1 a2 a3 hc @Zkf hm hn1 hn2 tmz;refine ZpX 4 ?_;refine gT1 4 ?_;refine gS 14 fun a2 cap2=>?_;refine ZaJ ?_;refine gT2 5 7 ?_ ?_
  ·refine ZaJ ?_;refine gT2 6 7 ?_ ?_
   ·refine ZaJ ?_;refine gT1 7 ?_;refine ZaJ ?_;refine gT0 ?_;exact ⟨(a2,cap2),trivial,gw,gw⟩
   ·refine ZaJ ?_;refine gT1 6 ?_;refine ZaJ ?_;refine gT0 ?_;exact ⟨(a2,cap2),trivial,gw,gw⟩
  ·refine ZaJ ?_;refine gT1 5 ?_;refine ZaJ ?_;refine gT1 6 ?_;refine ZaJ ?_;refine gT0 ?_;exact ⟨(a2,cap2),trivial,gw,gw⟩
 obtain ⟨a1,cap1⟩:=x;clear hx hm;refine pE [14] [1000] (ZkR _) ?_;have eb:Zaa ts++[[.lit (.int .i64 op),.lit (.string nm),.lit (.int .i64 so),.sl (Zaa args)]]=Zaa (ts++[.mk op nm so args]):=by rw [Zb8,ZdE,hc]
 have el:ts.length+1=(ts++[Tm.mk op nm so args]).length:=by simp
 rw [eb,el];have e2:ts++Tm.mk op nm so args::(Zba (ZaU g) args++ZaU g op args)=ts++[.mk op nm so args]++(Zba (ZaU g) args++ZaU g op args):=by simp
 rw [e2];clear eb e2;have hl2:(ts++[Tm.mk op nm so args]).length+(Zba (ZaU g) args).length+(ZaU g op args).length<=4000000:=by rw [<- el];omega
 clear el hl;generalize ts++[Tm.mk op nm so args]=us at hl2 ⊢;have hal:args.length<=1048576:=om;refine fG (ai @hc @tmz) ?_;have F:=@ZFQ;refine gL (ι:=Nat × Option Addr × Nat) [6,19,20] [1000,1001,1002] (fun x=>[(19,A.d (.one (.lit (.int .i64 x.1))))]) (fun x=>[(1001,.var (some bo) [.lit (.slice x.2.1 (canL (ZaU g) us args x.1).length x.2.2)]),(1000,.buf (some (x.2.1,x.2.2)) 46 4 (Zaa (canL (ZaU g) us args x.1))),(1002,.var (some bv) [.fn 73 [.lit (.pointer (some ⟨bo,0,none⟩)),.lit (.pointer (some ⟨bv,0,none⟩)),.ptr [.ptr (encX g mc)]]])]) (fun x=>x.1<=args.length) (fun x=>args.length - x.1) ((0,a1,cap1)) (Taj _) (fun x hx=>?_);clear F
 obtain ⟨i,a2,cap2⟩:=x;simp only at hx;dsimp only;by_cases hlt:i < args.length
 ·obtain ⟨b,hg⟩:∃ b,args[i]?=some b:=⟨_,Taa hlt⟩;have q2:=lT i args.length;have q4:=Zau (k:=i) om;have hle:=Zkm (ZaU g) args (i+1);rw [Zh1 hg,Tae] at hle;have hcon:=h b (Tac hg) (canL (ZaU g) us args i) a2 cap2 (by unfold canL;rw [Tae];omega);rw [<- ZAU hg] at hcon;refine fB (aj6 @q2 @hc @Zad @Zbq @hg @tmz) ?_;have F:=aj4 @ktF @hn1 @hn2 @tmz;refine gCP [1001,1000,1002] [1001,1000,1002] (hcon) ?_;clear F
  rintro r pm ⟨a3,cap3,rfl,rfl⟩;simp only [ptr0,setA,retA,zipM,Taf,Tah];refine fR @tmz ?_;have F:=@q4;refine gG ?_;exact ⟨(i+1,a3,cap3),hlt,gw,gw,om⟩
 obtain rfl:i=args.length:=by omega
 have q2:=lF args.length args.length;have ecan:canL (ZaU g) us args args.length=us++Zba (ZaU g) args:=by unfold canL;rw [Tap]
 have hl3:(canL (ZaU g) us args args.length).length+(ZaU g op args).length<=4000000:=by rw [ecan,Tae];omega
 have egoal:us++(Zba (ZaU g) args++ZaU g op args)=canL (ZaU g) us args args.length++ZaU g op args:=by rw [ecan,Tbf]
 rw [egoal];clear egoal ecan hl2 h;generalize canL (ZaU g) us args args.length=vs at hl3 ⊢;have hstop:ZaU g op args=[]->Zwr bo bv 73 (.ptr [.ptr (encX g mc)]) 46 (vs++ZaU g op args) [] [.var (some bo) [.lit (.slice a2 vs.length cap2)],.buf (some (a2,cap2)) 46 4 (Zaa vs),.var (some bv) [.fn 73 [.lit (.pointer (some ⟨bo,0,none⟩)),.lit (.pointer (some ⟨bv,0,none⟩)),.ptr [.ptr (encX g mc)]]]]:=fun e=>by
  rw [e,List.append_nil];exact ⟨a2,cap2,rfl,rfl⟩
 rcases hnode with hv | ⟨o,d,hA⟩
 ·have h1:op=-1:=hv.1;have q3:(op < 0)=True:=eq_true om;have hR:=hstop (by simp [ZaU,h1]);subst h1;have q5:=lT (-1) 0;refine fG (aj4 @q2 @hc @q5 @tmz) ?_;exact (have F:=tmz;gTP [1001,1000,1002] hR)
 have h0:0<=op:=hA.lo;have ho:g.ops[op.toNat]?=some o:=hA.at';have hneg:¬ (op < 0):=om;have e9:ZaU g op args=if o.assoc=true then mskL (ZbK op (rowP o.comm) args) (2 ^ args.length) else []:=by simp only [ZaU,if_neg hneg,ho]
 rw [e9] at hl3 hstop ⊢;clear e9
 cases ha:o.assoc with
 | false =>
  rw [ha] at hstop;have hR:=hstop rfl;refine fG (aj9 @q2 @hc @hneg @Za4 @h0 @ho @Zaj @ha @tmz) ?_;exact (have F:=tmz;gTP [1001,1000,1002] hR)
 | true =>
 rw [ha,if_pos rfl] at hl3;rw [if_pos rfl];clear hstop;obtain ⟨hn2',hn7⟩:=h7 o hneg ho ha;have hp7:2 ^ args.length<=128:=Tbt (by decide:0 < 2) hn7;have hp1:1 < 2 ^ args.length:=Nat.one_lt_two_pow om;refine fG (aj9 @q2 @hc @hneg @Za4 @h0 @ho @Zaj @ha @tmz) ?_;have F:=ai @Zap (((ZFR (ts:=vs) (ZrO op (rowP o.comm) args))));refine gL (ι:=Nat × Option Addr × Nat) [8,9,49,74] [1000,1001] (fun x=>[(8,A.d (.one (.lit (.int .i64 x.1))))]) (fun x=>[(1001,.var (some bo) [.lit (.slice x.2.1 (mskT vs (ZbK op (rowP o.comm) args) x.1).length x.2.2)]),(1000,.buf (some (x.2.1,x.2.2)) 46 4 (Zaa (mskT vs (ZbK op (rowP o.comm) args) x.1)))]) (fun x=>1<=x.1∧x.1<=2 ^ args.length) (fun x=>2 ^ args.length - x.1) ((1,a2,cap2)) (⟨Tai _,om⟩) (fun x hx=>?_);clear F
 obtain ⟨m,a3,cap3⟩:=x;simp only at hx;obtain ⟨hm1,hm2⟩:=hx;dsimp only;have hmm:=Zpe (ZbK op (rowP o.comm) args) hm2;have hlm:(mskT vs (ZbK op (rowP o.comm) args) m).length<=4000000:=by unfold mskT;rw [Tae];omega
 have hsh:=Zfq (k:=args.length) om;by_cases hlt:m < 2 ^ args.length;rotate_left
 ·obtain rfl:m=2 ^ args.length:=by omega
  have q3:=lF (((2 ^ args.length:Nat):Int)) (2 ^ args.length:Nat);have hR:Zwr bo bv 73 (.ptr [.ptr (encX g mc)]) 46 (vs++mskL (ZbK op (rowP o.comm) args) (2 ^ args.length)) [] [.var (some bo) [.lit (.slice a3 (mskT vs (ZbK op (rowP o.comm) args) (2 ^ args.length)).length cap3)],.buf (some (a3,cap3)) 46 4 (Zaa (mskT vs (ZbK op (rowP o.comm) args) (2 ^ args.length))),.var (some bv) [.fn 73 [.lit (.pointer (some ⟨bo,0,none⟩)),.lit (.pointer (some ⟨bv,0,none⟩)),.ptr [.ptr (encX g mc)]]]]:=⟨a3,cap3,rfl,rfl⟩
  refine fG (aj3 @hsh @Zap @q3) ?_;exact (have F:=tmz;gTPn [1001,1000,1002] hR)
 have q3:=lT m (2 ^ args.length:Nat);have hw:=Zau (k:=m) om;have hcp:=ZCm (m:=m) om args om;refine fB (aj5 @hsh @Zap @q3 @hc @tmz) ?_;refine fC (ai @hc @tmz) (hcp) ?_;refine fR (ai @hc @tmz) ?_;have hpl:(Zbi m args).length<=7:=Tbe (ZfM m args _) hn7;refine fN 13 @tmz ?_;refine gM (ι:=Bool) [74] [] (fun u=>[(74,A.d (.one (.lit (.bool u))))]) (fun u=>[]) (fun u=>u=decide (2<=(Zbi m args).length∧rowP o.comm m=true)) ?_ (fun u hu=>Exists.intro _ (ai (Wk.refl _) ?_))
 ·by_cases h2:2<=(Zbi m args).length;rotate_left
  ·have hd:decide (2<=(Zbi m args).length∧rowP o.comm m=true)=false:=decide_eq_false fun h=>h2 h.1;have z:((2:Int)<=((Zbi m args).length:Int))=False:=eq_false om;have F:=ai @z @tmz;refine gG ?_;exact ⟨false,hd.symm,gw,gw⟩
  have z:((2:Int)<=((Zbi m args).length:Int))=True:=eq_true om
  cases hcm:o.comm with
  | true =>
   have hd:decide (2<=(Zbi m args).length∧rowP true m=true)=true:=decide_eq_true ⟨h2,rfl⟩;have F:=aj9 @z @hcm @hc @hneg @Za4 @h0 @ho @Zaj @tmz;refine gG ?_;exact ⟨true,hd.symm,gw,gw⟩
  | false =>
   have hd:decide (2<=(Zbi m args).length∧rowP false m=true)=rowI m:=by simp [rowP,h2]
   refine gB ?_;refine fC (aj9 @z @hcm @hc @hneg @Za4 @h0 @ho @Zaj @tmz) (ZAA (m:Int)) ?_;refine fR @tmz ?_;exact ⟨rowI m,hd.symm,(have F:=hd;gw),(have F:=hd;gw)⟩
 cases u with
 | false =>
  have e:=ZE2 (ts:=vs) (Zpg (op:=op) (of_decide_eq_false hu.symm));have F:=ai @hw @e;refine gG ?_;exact ⟨(m+1,a3,cap3),⟨om,hlt⟩,gw,gw,om⟩
 | true =>
 have hu2:=of_decide_eq_true hu.symm;have e:=ZCC (ts:=vs) (Zno (op:=op) hu2.1 hu2.2);generalize mskT vs (ZbK op (rowP o.comm) args) m=us at hlm e ⊢;have hm:us.length+1<=maxApp:=by unfold maxApp;omega
 refine fN 14 @tmz ?_;refine gM (ι:=Option Addr × Nat) [] [82,1000,1001] (fun x=>[]) (fun x=>[(1001,.var (some bo) [.lit (.slice x.1 (us.length+1) x.2)]),(82,.buf (some (x.1,x.2)) 46 4 (Zaa us++[[.lit (.int .i64 op),.lit (.string ByteArray.empty),.lit (.int .i64 0),.sl (Zaa (Zbi m args))]]))]) (fun x=>True) ?_ (fun x hx=>Exists.intro _ (ai (Wk.refl _) ?_))
 ·have a1:(us.length < us.length+1)=True:=eq_true (Tan _);have a2:∀ Z:List C,(Zaa us++[Z])[us.length]?=some Z:=fun Z=>by rw [Tbq (by rw [Zad];exact Tai _),Zad,Nat.sub_self];rfl
  have a3:∀ Z X:List C,(Zaa us++[Z]).set us.length X=Zaa us++[X]:=fun Z X=>by rw [List.set_append_right _ _ (by rw [Zad];exact Tai _),Zad,Nat.sub_self];rfl
  have F:=aj9 a1 a2 a3 hc @Zkf hm hn1 hn2 tmz;refine ZpX 7 ?_;refine gT1 7 ?_;refine gS 82 fun a2 cap2=>?_;refine ZaJ ?_;refine gT2 8 10 ?_ ?_
  ·refine ZaJ ?_;refine gT2 9 10 ?_ ?_
   ·refine ZaJ ?_;refine gT1 10 ?_;refine ZaJ ?_;refine gT0 ?_;exact ⟨(a2,cap2),trivial,gw,gw⟩
   ·refine ZaJ ?_;refine gT1 9 ?_;refine ZaJ ?_;refine gT0 ?_;exact ⟨(a2,cap2),trivial,gw,gw⟩
  ·refine ZaJ ?_;refine gT1 8 ?_;refine ZaJ ?_;refine gT1 9 ?_;refine ZaJ ?_;refine gT0 ?_;exact ⟨(a2,cap2),trivial,gw,gw⟩
 obtain ⟨a4,cap4⟩:=x;clear hx;refine pE [82] [1000] (ZkR _) ?_;have eb:Zaa us++[[.lit (.int .i64 op),.lit (.string ByteArray.empty),.lit (.int .i64 0),.sl (Zaa (Zbi m args))]]=Zaa (us++[.mk op ByteArray.empty 0 (Zbi m args)]):=by rw [Zb8,ZdE];simp only [Zac]
 have el:us.length+1=(us++[Tm.mk op ByteArray.empty 0 (Zbi m args)]).length:=by simp
 rw [eb,el,<- e];clear eb el;have F:=@hw;refine gG ?_;exact ⟨(m+1,a4,cap4),⟨om,hlt⟩,gw,gw,om⟩
theorem Zs0 {g:Sgn} {mc:C} (bo bv:Nat) (hne:bo≠bv) (n:Nat):∀ (t:Tm),Za7 (Zac t) < n->ZaF g t->bulkRow (Zac t)<=1048576->∀ (ts:List Tm) (a:Option Addr) (cap:Nat),ts.length+(Zby (ZaU g) t).length<=4000000->Znx g mc bo bv t ts a cap (ts++Zby (ZaU g) t):=by
 induction n with
 | zero=>exact fun _ h=>om
 | succ n ih =>
  intro t hn hf hb ts a cap hl;refine Zr1 t hf ts a cap bo bv hne hb hl fun x hx us a cap hl2=>ih x ?_ (hf.argC hx) ?_ us a cap hl2
  ·obtain ⟨op,nm,so,args⟩:=t;simp only [Zac,Za7,Zc3] at hn;simp only [Tm.args] at hx;obtain ⟨i,hi⟩:=Tbk hx;have hi':(Zaa args)[i]?=some (Zac x):=by rw [Zbq,hi];rfl
   have h1:=Zcb hi';omega
  ·obtain ⟨op,nm,so,args⟩:=t;simp only [Zac,bulkRow,ZbG] at hb;simp only [Tm.args] at hx;obtain ⟨i,hi⟩:=Tbk hx;have hi':(Zaa args)[i]?=some (Zac x):=by rw [Zbq,hi];rfl
   have h1:=Zco hi';omega
theorem ZCD {o:Opr} (h:¬ o.unit=0):Zac (Zbd o)=[.lit (.int .i64 (o.unit - 1)),.lit (.string ByteArray.empty),.lit (.int .i64 0),.sl []]:=by
 rw [Zbd,if_neg h];simp only [Zac,Zaa]
theorem ZAV {g:Sgn} {mc:C} (hg:SgnOk g) {t:Tm} (ht:TermOk g t) (hb:bulkRow (Zac t)<=1048576):Con e0 30 [.one (.ptr (encX g mc)),.agg (Zac t)] [.one (.sl (Zaa (ZbQ g t)))]:=by
 have hln:=hg.len;have hcl:=Zpj ht.form;have hsz:=ht.size;have hul:=Zkn g.ops;refine gI (ts:=[.slot 4]) 4440511 Tryz.func30 ?_;refine fN 1 @tmz ?_;refine gB ?_;have F:=@tmz;refine gP 1 ?_;clear F;refine gO 9 46 4 ?_;refine gS 9 fun a cap=>?_;refine fR @tmz ?_
 repeat (with_reducible refine ZdK ?_)
 have F:=ai @Za4 @tmz;refine gF [2] ?_;clear F;refine fG (ai @Za4 @tmz) ?_;have F:=ai @Zva @Ze2;refine gL (ι:=Nat × Option Addr × Nat) [7,16,17,22] [5,9] (fun x=>[(16,A.d (.one (.lit (.int .i64 x.1))))]) (fun x=>[(5,.var none [.lit (.slice x.2.1 (Zbz g.ops x.1).length x.2.2)]),(9,.buf (some (x.2.1,x.2.2)) 46 4 (Zaa (Zbz g.ops x.1)))]) (fun x=>x.1<=g.ops.length) (fun x=>g.ops.length - x.1) ((0,a,cap)) (Taj _) (fun x hx=>?_);clear F
 obtain ⟨i,a2,cap2⟩:=x;simp only at hx;dsimp only;by_cases hlt:i < g.ops.length
 ·obtain ⟨o,ho⟩:∃ b,g.ops[i]?=some b:=⟨_,Taa hlt⟩;have q2:=lT i g.ops.length;have q4:=Zau (k:=i) om;by_cases hu:o.unit=0
  ·have e:=ZrP ho hu;have z:(o.unit=0)=True:=eq_true hu;have F:=aj6 @q2 @ho @Zaj @z @q4 @e;refine gG ?_;exact ⟨(i+1,a2,cap2),hlt,gw,gw,om⟩
  have z:(o.unit=0)=False:=eq_false hu;have e:=Zph ho hu;have hul:=hul i;have hax:=hg.axs o (Tac ho);have hlo:=hax.lo;have hhi:=hax.hi;have hwu:IntKind.i64.wrap (o.unit - 1)=o.unit - 1:=ZaM rfl om om;generalize Zbz g.ops i=us at hul e ⊢;have hm:us.length+1<=maxApp:=by unfold maxApp;omega
  refine fN 6 (aj5 @q2 @ho @Zaj @z @tmz) ?_;refine gM (ι:=Option Addr × Nat) [] [30,5,9] (fun x=>[]) (fun x=>[(5,.var none [.lit (.slice x.1 (us.length+1) x.2)]),(30,.buf (some (x.1,x.2)) 46 4 (Zaa us++[[.lit (.int .i64 (o.unit - 1)),.lit (.string ByteArray.empty),.lit (.int .i64 0),.sl []]]))]) (fun x=>True) ?_ (fun x hx=>Exists.intro _ (ai (Wk.refl _) ?_))
  ·have a1:(us.length < us.length+1)=True:=eq_true (Tan _);have a2:∀ Z:List C,(Zaa us++[Z])[us.length]?=some Z:=fun Z=>by rw [Tbq (by rw [Zad];exact Tai _),Zad,Nat.sub_self];rfl
   have a3:∀ Z X:List C,(Zaa us++[Z]).set us.length X=Zaa us++[X]:=fun Z X=>by rw [List.set_append_right _ _ (by rw [Zad];exact Tai _),Zad,Nat.sub_self];rfl
   have F:=aj8 a1 a2 a3 hwu @Zkf hm @Zaj tmz;refine ZpX 7 ?_;refine gT1 7 ?_;refine gS 30 fun a2 cap2=>?_;refine ZaJ ?_;refine gT2 8 10 ?_ ?_
   ·refine ZaJ ?_;refine gT2 9 10 ?_ ?_
    ·refine ZaJ ?_;refine gT1 10 ?_;refine ZaJ ?_;refine gT0 ?_;exact ⟨(a2,cap2),trivial,gw,gw⟩
    ·refine ZaJ ?_;refine gT1 9 ?_;refine ZaJ ?_;refine gT0 ?_;exact ⟨(a2,cap2),trivial,gw,gw⟩
   ·refine ZaJ ?_;refine gT1 8 ?_;refine ZaJ ?_;refine gT1 9 ?_;refine ZaJ ?_;refine gT0 ?_;exact ⟨(a2,cap2),trivial,gw,gw⟩
  obtain ⟨a4,cap4⟩:=x;clear hx;refine pE [30] [9] (ZkR _) ?_;rw [show Zaa us++[[.lit (.int .i64 (o.unit - 1)),.lit (.string ByteArray.empty),.lit (.int .i64 0),.sl []]]=Zaa (us++[Zbd o]) by rw [Zb8,ZdE,ZCD hu],show us.length+1=(us++[Zbd o]).length by simp,<- e];have F:=@q4;refine gG ?_;exact ⟨(i+1,a4,cap4),hlt,gw,gw,om⟩
 obtain rfl:i=g.ops.length:=by omega
 have q2:=lF g.ops.length g.ops.length;refine fN 9 (aj4 @q2 @otF @ztF @tmz) ?_;refine pV 5 fun b5 hb5=>?_;refine pV 8 fun b8 hb8=>?_;have hne:b5≠b8:=fun e=>hb8 5 b5 _ (by decide) rfl e.symm;clear hb5 hb8;have hn1:(b5=b8)=False:=eq_false hne;have hn2:(b8=b5)=False:=eq_false (fun e=>hne e.symm);refine fN 10 (aj7 @ktF @ztF @ZAv @okFn @hn1 @hn2 @tmz) ?_;refine gB ?_;have hul:=hul g.ops.length;have hcon:=Zs0 (mc:=mc) b5 b8 hne _ t (Tan _) ht.form hb (Zbz g.ops g.ops.length) a2 cap2 om
 have hdis:=fun (a:Option Addr) (cap:Nat)=>Zjr (Zbz g.ops g.ops.length++Zby (ZaU g) t) (by rw [Tae];omega) a cap;have ecd:Zc5 (Zbz g.ops g.ops.length++Zby (ZaU g) t)=ZbQ g t:=rfl;rw [ecd] at hdis;simp only [Znx,ptr0,encX] at hcon;have F:=aj4 @ktF @hn1 @hn2 @tmz;refine gCP [5,9,8] [5,9,8] (hcon) ?_;clear F;rintro r pm ⟨a3,cap3,rfl,rfl⟩;simp only [ptr0,setA,retA,zipM,Taf,Tah];refine fR @tmz ?_;refine fB @tmz ?_
 have F:=aj3 @hn1 @hn2 @tmz;refine gCP [9] [9] (hdis a3 cap3) ?_;clear F;rintro r pm ⟨rfl,rfl⟩;simp only [setA,retA,zipM,Taf,Tah];refine fR @tmz ?_;refine pD 9 [4] [] ?_ (hs:=by exact snv);exact fD @tmz
section
variable {g:Sgn}
end
theorem Zr2 {b:List Bd}:∀ {l:List (List Bd)},b ∉ l->(insR lexB b l).length=l.length+1
 | [],_=>rfl
 | x::l,h=>by
  simp only [insR];have h1:=Zr2 (b:=b) (l:=l) fun q=>h (Tal _ q);split
  ·simp only [Tag];omega
  ·split
   ·rename_i h0;exact absurd (ZjQ _ _ h0) fun e=>h (by rw [e];exact Tas)
   ·simp only [Tag]
theorem Zmc:∀ {l out:List (List Bd)},l.Pairwise (·≠·)->(∀ b∈l,b ∉ out)->(colR lexB l out).length=out.length+l.length
 | [],out,_,_=>rfl
 | b::l,out,hn,hd=>by
  have h1:=List.pairwise_cons.1 hn;have e:colR lexB (b::l) out=colR lexB l (insR lexB b out):=rfl;rw [e,Zmc h1.2 fun x hx hm=>?_,Zr2 (hd b Tas),Tag]
  ·omega
  ·rcases (ZiK ZhG).1 hm with q | q
   ·exact h1.1 x hx q.symm
   ·exact hd x (Tal _ hx) q
theorem Zny (a:Option Addr) (cap:Nat) {ty:Nat}:Zbe [.buf (some (a,cap)) ty 1 [],.set (fun _=>False) (fun w=>Zao w [] (fun _=>False) [])] [.set (fun b=>vblk (.slice a 0 cap)=some b∨False) (fun w=>Own w (.sl []) (fun b=>vblk (.slice a 0 cap)=some b∨False) (.slice a 0 cap))] :=
 Zb6 (uss:=[]) (rows:=[]) (E:=fun _=>False) (fun w h=>h) (Own.stable _ _ _)
theorem zRSS (a:Option Addr) (cap:Nat):Zc0 (Zay []) false [.one (.lit (.slice a 0 cap)),.one (.lit (.bool false))] [.set (fun b=>vblk (.slice a 0 cap)=some b∨False) (fun w=>Own w (.sl []) (fun b=>vblk (.slice a 0 cap)=some b∨False) (.slice a 0 cap))]:=⟨_,_,rfl,rfl,rfl⟩
section
variable {g:Sgn} {p t:Tm}
def KR (z:Int) (N:Nat) (x:Bool × List Int):Nat:=if x.1=true then (numB z x.2).toNat else N
def muR (z:Int) (N:Nat) (x:Bool × List Int):Nat:=if x.1=true then N - (numB z x.2).toNat+1 else 0
theorem ZE3 {z:Int} {xs:List Int} {N n:Nat} (hz:1<=z) (hl:xs.length=n) (h:Zcn z xs) (hN:(N:Int)=z ^ n):KR z N (nxB z xs,nxt z xs)=KR z N (true,xs)+1∧muR z N (nxB z xs,nxt z xs) < muR z N (true,xs)∧KR z N (true,xs) < N:=by
 have hr:Zcn z xs.reverse:=fun x hx=>h x (List.mem_reverse.1 hx);obtain ⟨n1,n2⟩:=Zio hz hr;rw [List.length_reverse,hl,<- hN] at n2;have e:numL z xs.reverse=numB z xs:=rfl;rw [e] at n1 n2;simp only [KR,muR,if_true]
 cases hb:nxB z xs with
 | true =>
  have:=ZE1 hz h hb;have hr2:Zcn z (nxt z xs).reverse:=fun x hx=>Zkt hz h x (List.mem_reverse.1 hx);obtain ⟨m1,m2⟩:=Zio hz hr2;rw [List.length_reverse,Zit hz h,hl,<- hN] at m2;have e2:numL z (nxt z xs).reverse=numB z (nxt z xs):=rfl;rw [e2] at m1 m2;simp only [if_true];omega
 | false =>
  have:=ZCv hz h hb;rw [hl,<- hN] at this;simp only [Tam,if_false];omega
theorem ZFS {z:Int} {xs:List Int} {n:Nat} (hz:1<=z) (hl:xs.length=n) (h:Zcn z xs):(digL z n (((numB z xs).toNat:Nat):Int)).reverse=xs:=by
 have hr:Zcn z xs.reverse:=fun x hx=>h x (List.mem_reverse.1 hx);obtain ⟨n1,_⟩:=Zio hz hr;have hd:=Zl1 hz hr;rw [List.length_reverse,hl] at hd;have e:numB z xs=numL z xs.reverse:=rfl;rw [e,Int.toNat_of_nonneg n1,hd,List.reverse_reverse]
theorem Zs1 (hok:ZdQ g) (hp:okTm p) (ht:okTm t) (hbp:bulkRow (Zac p)<=1048576) (hbt:bulkRow (Zac t)<=1048576):ConP e0 9 [.agg (ZaB g),.agg (Zac p),.agg (Zac t)] [] (Zc0 (Zay ((refM g p t).getD [])) (refM g p t).isSome):=by
 have hno:refM g p t=none->Zc0 (Zay ((refM g p t).getD [])) (refM g p t).isSome=Zc0 (Zay []) false:=fun h=>by rw [h];rfl
 by_cases hg:SgnOk g;rotate_left
 ·have cN:=ZnY hok hg;rw [hno (Zen fun h=>hg h.1)];rw [ZaB] at cN ⊢;refine gIP (ts:=[.slot 6,.slot 7]) [] 10141204802933811285430282223615 Tryz.func9 ?_;refine fN 1 @tmz ?_;refine gB ?_;refine fC @tmz (cN) ?_;refine fR @tmz ?_;refine fG @tmz ?_;refine pS 6 fun a1 c1=>?_;refine pE [] [1001] Zb4 ?_;refine pE [6,1001] [1002] (Zny a1 c1) ?_;exact (have F:=tmz;gTP (R:=Zc0 (Zay []) false) [1002] (zRSS a1 c1))
 have cN:=ZsS hok hg;rw [ZaB] at cN ⊢;refine gIP (ts:=[.slot 6,.slot 7]) [] 10141204802933811285430282223615 Tryz.func9 ?_;refine fN 1 @tmz ?_;refine gB ?_;have F:=@tmz;refine gCP [] [1000] (cN) ?_;clear F;rintro r pm ⟨bm,rfl,rfl⟩;simp only [setA,retA,zipM,Taf,Tah];refine fR @tmz ?_;refine pM g bm 1000 ?_;have cP:=(ZhT (mc:=.lit (.map (some bm))) hg hp (Zf7 hbp)).m (g:=g) (b:=bm);have cT:=(ZhT (mc:=.lit (.map (some bm))) hg ht (Zf7 hbt)).m (g:=g) (b:=bm)
 refine fN 2 @tmM ?_;refine gB ?_;refine fC @tmM (cP) ?_;by_cases hpt:TermOk g p;rotate_left
 ·rw [hno (Zen fun h=>hpt h.2.1),ZdY hpt];refine fR @tmM ?_;refine fG @tmM ?_;refine pS 6 fun a1 c1=>?_;refine pE [] [1001] Zb4 ?_;refine pE [6,1001] [1002] (Zny a1 c1) ?_;exact (have F:=tmM;gTP (R:=Zc0 (Zay []) false) [1002] (zRSS a1 c1))
 rw [Zej hpt];refine fC @tmM (cT) ?_;by_cases htt:TermOk g t;rotate_left
 ·rw [hno (Zen fun h=>htt h.2.2.1),ZdY htt];refine fR @tmM ?_;refine fG @tmM ?_;refine pS 6 fun a1 c1=>?_;refine pE [] [1001] Zb4 ?_;refine pE [6,1001] [1002] (Zny a1 c1) ?_;exact (have F:=tmM;gTP (R:=Zc0 (Zay []) false) [1002] (zRSS a1 c1))
 rw [Zej htt];have cC:=(ZAV (mc:=.lit (.map (some bm))) hg htt hbt).m (g:=g) (b:=bm);have cV:=(ZrJ p hbp).m (g:=g) (b:=bm);have hcp:=ZrU (g:=g) (t:=t);have hcl:=ZrV htt hg;have hct:=Zkq hg htt;have hcn:(ZbQ g t).Pairwise (·≠·):=(ZdB _).imp fun {a b} h e=>by rw [e,Zdc] at h;omega
 have hvv:=Zwm hpt;have hva:Asc (Zbs p):=ZdB _;have hmo:=fun h4=>Zi9 hg hpt htt h4;have hmn:¬ (ZbQ g t).length ^ (Zbs p).length<=20000->refM g p t=none:=fun h=>Zen fun q=>h q.2.2.2;have hmt:=Zk0 hg hpt htt;have hsame:=ZCc (g:=g) (p:=p) (t:=t) hva hvv hct om;have hvl:(Zbs p).length<=60:=by
  have h1:=ZAP p;have:=hpt.size;omega
 refine fR @tmM ?_;refine fN 4 @tmM ?_;refine gB ?_;refine fC @tmM (cC) ?_;refine fR @tmM ?_;refine fN 5 @tmM ?_;refine gB ?_;refine fC @tmM (cV) ?_;refine fR @tmM ?_;generalize matL g p t (ZbQ g t) (Zbs p)=ML at hmo hmt hsame;generalize hR:refM g p t=R at hmo hmn hno ⊢;generalize ZbQ g t=cs at hcp hcl hct hcn hmo hmn hsame ⊢;generalize Zbs p=vs at hvv hva hvl hmo hmn hsame ⊢;refine fG @tmM ?_;have F:=@tmM;refine gL (ι:=Nat) [6,7,12,47,48,54] [] (fun i=>[(47,A.d (.one (.lit (.int .i64 i)))),(12,A.d (.one (.lit (.int .i64 (cs.length ^ i)))))]) (fun i=>[]) (fun i=>i<=vs.length∧cs.length ^ i<=20000) (fun i=>vs.length - i) (0) (⟨Taj _,by simp⟩) (fun i hi=>?_);clear F
 obtain ⟨hi,hpw⟩:=hi;have hpi:((cs.length:Int) ^ i)=((cs.length ^ i:Nat):Int):=(Int.natCast_pow _ _).symm;by_cases hlt:i < vs.length
 ·have q1:=lT i vs.length;have wi:=Zau (k:=i) om;have hps:((cs.length:Int) ^ (i+1))=((cs.length ^ (i+1):Nat):Int):=(Int.natCast_pow _ _).symm;have hmu:cs.length ^ i * cs.length<=20000 * 1048576:=Nat.mul_le_mul hpw hcl;have hmi:((cs.length ^ (i+1):Nat):Int)=((cs.length ^ i:Nat):Int) * (cs.length:Int):=by rw [Nat.pow_succ];exact Int.natCast_mul _ _
  have hme:cs.length ^ (i+1)=cs.length ^ i * cs.length:=by rw [Nat.pow_succ]
  have wm:IntKind.i64.wrap (((cs.length:Int) ^ i) * (cs.length:Int))=(cs.length:Int) ^ (i+1):=by
   rw [hpi,hps,<- hmi];exact IntWalk.i64_in _ om
  by_cases h2:cs.length ^ (i+1)<=20000
  ·have q2:((20000:Int) < (cs.length:Int) ^ (i+1))=False:=eq_false (by rw [hps];omega);have F:=aj5 @q1 @q2 @wi @wm @tmM;refine gG ?_;exact ⟨i+1,⟨hlt,h2⟩,gw,gw,om⟩
  ·have q2:((20000:Int) < (cs.length:Int) ^ (i+1))=True:=eq_true (by rw [hps];omega);rw [hno (hmn fun h=>h2 (Tbe (ZrT hcp hlt) h))];refine fG (aj5 @q1 @q2 @wi @wm @tmM) ?_;refine pS 6 fun a1 c1=>?_;refine pE [] [1001] Zb4 ?_;refine pE [6,1001] [1002] (Zny a1 c1) ?_;exact (have F:=tmM;gTP (R:=Zc0 (Zay []) false) [1002] (zRSS a1 c1))
 obtain rfl:i=vs.length:=by omega
 have q1:=lF vs.length vs.length;rw [hmo hpw];have hm6:((vs.length:Int)<=(maxApp:Int))=True:=eq_true (by unfold maxApp;omega);refine fG (aj4 @q1 @tmM @hm6 @Tby) ?_;have hz0:List.replicate vs.length [C.lit (.int .i64 0)]=(List.replicate vs.length (0:Int)).map encInt:=by simp [encInt]
 rw [hz0];refine pS 14 fun a0 c0=>?_;simp only [Tay,Tbr];obtain ⟨N,hN⟩:∃ N,N=cs.length ^ vs.length:=⟨_,rfl⟩;have hzi:1<=(cs.length:Int):=om;have hNi:(N:Int)=(cs.length:Int) ^ vs.length:=by rw [hN];exact Int.natCast_pow ..
 rw [<- hN] at hsame hpw;have hE0:Zay (enmL g p t cs vs (KR cs.length N (true,List.replicate vs.length 0)))=[]:=by
  have h0:numB (cs.length:Int) (List.replicate vs.length 0)=0:=by
   have:=Zni (cs.length:Int) vs.length [];simpa [numB,numL] using this
  simp only [KR,if_true,h0,Int.toNat_zero,ZF7];rfl
 have F:=ai @hE0 @tmM;refine gL (ι:=Bool × List Int) [13,15,16,17,18,19,20,60,66,67,68,69,103] [13,14] (fun x=>[(15,.d (.one (.lit (.bool x.1)))),(13,.buf 13)]) (fun x=>[(13,.buf none 62 1 (Zay (enmL g p t cs vs (KR cs.length N x)))),(14,.buf (some (a0,c0)) 3 1 (x.2.map encInt))]) (fun x=>x.2.length=vs.length∧Zcn cs.length x.2) (fun x=>muR cs.length N x) ((true,List.replicate vs.length 0)) (⟨by simp,fun x hx=>by rw [(List.mem_replicate.1 hx).2];exact ⟨om,om⟩⟩) (fun x hx=>?_);clear F
 obtain ⟨more,xs⟩:=x;obtain ⟨hxl,hxi⟩:=hx;simp only at hxl hxi;dsimp only
 cases more with
 | false =>
  have hK:KR cs.length N (false,xs)=N:=rfl;rw [hK];have hen:=Zu3 (g:=g) (p:=p) (t:=t) (cs:=cs) (vs:=vs) N;have hnd:=ZAb (g:=g) (p:=p) (t:=t) hzi hcn (k:=N) (vs:=vs) (by rw [hN];exact Tai _);have cI:=(ZsZ (enmL g p t cs vs N) hnd om).m (g:=g) (b:=bm);have hrl:(Zay (colR lexB (enmL g p t cs vs N) [])).length=(Zay (enmL g p t cs vs N)).length:=by rw [ZfK,ZfK,Zmc hnd (by simp)];simp
  have hml:(colR lexB (enmL g p t cs vs N) []).length<=N:=by rw [Zmc hnd (by simp)];simpa using hen
  rw [hsame] at cI hrl hml;have cY:=(Zr0 ML om fun b hb=>by
   obtain ⟨m1,m2,m3⟩:=hmt b hb;exact ⟨om,fun y hy=>⟨Zu5 (m3 y hy).1,Zu5 (m3 y hy).2⟩⟩).m (g:=g) (b:=bm)
  refine fN 27 @tmM ?_;refine gB ?_;have F:=@tmM;refine gCI (cI) (hrl) ?_;clear F;refine fR @tmM ?_;refine Zcp (Zd2 [13] (by simp only [pz,↓reduceIte,Nat.reduceEqDiff,Nat.reduceAdd,Nat.reduceSub,Nat.reduceMul,Nat.reduceLeDiff,Nat.reduceBEq,Tam,decide_true,decide_false,Int.reduceLE,Int.reduceToNat,Int.reduceLT,Int.reduceEq,eq_self,Nat.reduceShiftRight,Nat.reduceAnd,Nat.reduceBneDiff,tmM];exact rfl)) fun σ' hσ=>?_
  subst hσ;refine fN 28 @tmM ?_;refine gB ?_;have F:=@tmM;refine gCP [] [1001] (cY) ?_;clear F;rintro r pm ⟨v,E2,rfl,hk,rfl⟩;simp only [setA,retA,zipM,Taf,Tah];refine fR (ai @tmM @hk) ?_;refine fG @tmM ?_;exact (have F:=tmM;gTP (R:=Zc0 (Zay ML) true) [1001] ⟨v,E2,rfl,hk,rfl⟩)
 | true =>
 have hb0:Zat (mkB vs [])=[]:=by cases vs <;> rfl
 have hyl:(ZbY cs xs).length=vs.length:=by simp [ZbY,hxl]
 have hym:=Zrt hxi;refine fG @tmM ?_;have F:=aj3 @hb0 @bz3 @tmM;refine gL (ι:=Nat) [16,17,18,68,69] [16] (fun i=>[(68,A.d (.one (.lit (.int .i64 i)))),(16,.buf 16)]) (fun i=>[(16,.buf none 74 8 (Zat (mkB vs ((ZbY cs xs).take i))))]) (fun i=>i<=vs.length) (fun i=>vs.length - i) (0) (Taj _) (fun i hi=>?_);clear F;by_cases hlt:i < vs.length
 ·obtain ⟨v,hv⟩:∃ v,vs[i]?=some v:=⟨_,Taa hlt⟩;obtain ⟨k,hk⟩:∃ k,xs[i]?=some k:=⟨_,Taa om⟩;obtain ⟨k0,k1⟩:=hxi k (Tac hk);obtain ⟨j,rfl⟩:∃ j:Nat,k=j:=⟨k.toNat,om⟩;obtain ⟨tx,htx⟩:∃ x,cs[j]?=some x:=⟨_,Taa om⟩;have hpk:(ZbY cs xs)[i]?=some tx:=by simp [ZbY,hk,htx,List.getD_eq_getElem?_getD]
  have hxr:(xs.map encInt)[i]?=some [.lit (.int .i64 (j:Int))]:=by simp [hk,encInt]
  have hxn:(xs.map encInt).length=vs.length:=by rw [Tay,hxl]
  have hxb:ZaC 1 (xs.map encInt)=true:=Zh9 _;have hsn:Zat (mkB vs ((ZbY cs xs).take i))++[Za8 ⟨v,tx⟩]=Zat (mkB vs ((ZbY cs xs).take (i+1))):=by
   rw [List.take_add_one,hpk,Option.toList_some,ZrE (v:=v) (by rw [Taw,hyl,Nat.min_eq_left om];exact hv)];simp [Zat]
  have hbd:Zac v++Zac tx=Za8 ⟨v,tx⟩:=rfl;have h7:∀ (c0 c1 c2 c3:C),List.take 4 (Zac v++[c0,c1,c2,c3])++(Zac tx++List.drop 8 (Zac v++[c0,c1,c2,c3]))=Za8 ⟨v,tx⟩:=fun c0 c1 c2 c3=>by
   obtain ⟨o,n,s,a⟩:=v;simp [Zac,Za8]
  have q2:=lT i vs.length;have q3n:(i < vs.length)=True:=eq_true hlt;have wi:=Zau (k:=i) om;have hml:=Zir vs ((ZbY cs xs).take i);have l1:((mkB vs ((ZbY cs xs).take i)).length+1<=maxApp)=True:=eq_true (by unfold maxApp;omega);refine fN 22 (aj4 @q2 @hv @bz3 @tmM) ?_
  /- gk l10rm -/
  refine gGx (X:=UU) [(0,.d (.agg [.sl (g.sorts.names.map Zdz),.sl (g.sorts.subs.map ZdV),.sl (g.ops.map ZbZ)])),(1,.d (.agg (Zac p))),(2,.d (.agg (Zac t))),(3,.ref 3 0),(4,.ref 4 0),(5,.ref 5 0),(8,.d (.one (.ptr [.sl ((Zb7 (up g.sorts)).map encInt),.sl ((Zb7 (down g.sorts)).map encInt),.sl ((Zb7 (kinds g.sorts)).map encInt),.sl (g.sorts.names.map Zdz),.sl (g.sorts.subs.map ZdV),.sl (g.ops.map ZbZ),.lit (.map (some bm))]))),(9,.d (.one (.lit (.bool true)))),(10,.d (.one (.sl (Zaa cs)))),(11,.d (.one (.sl (Zaa vs)))),(12,.d (.one (.lit (.int .i64 ((cs.length:Int) ^ vs.length))))),(13,.buf 13),(14,.d (.one (.lit (.slice a0 vs.length c0)))),(15,.d (.one (.lit (.bool true)))),(17,.d (.one (.lit (.int .i64 (i:Int))))),(18,.ref 18 0),(39,.d (.one (.lit (.bool false)))),(46,.d (.one (.lit (.int .i64 (vs.length:Int))))),(47,.d (.one (.lit (.int .i64 (vs.length:Int))))),(48,.d (.one (.lit (.bool false)))),(60,.d (.one (.lit (.bool true)))),(66,.d (.one (.sl (Zaa vs)))),(67,.d (.one (.lit (.int .i64 (vs.length:Int))))),(68,.d (.one (.lit (.int .i64 (i:Int)))))] [(3,.var none [.sl (g.sorts.names.map Zdz),.sl (g.sorts.subs.map ZdV),.sl (g.ops.map ZbZ)]),(4,.var none (Zac p)),(5,.var none (Zac t)),(6,.buf none 62 1 []),(13,.buf none 62 1 (Zay (enmL g p t cs vs (KR cs.length N (true,xs))))),(14,.buf (some (a0,c0)) 3 1 (xs.map encInt)),(18,.var none (Zac v))] (fun _ x=>x.ok) (fun x=>[([(73,.buf 16)],[]),([(74,.d (.agg (Zac v)))],[]),([(75,.d (.one (.sl (Zaa cs))))],[]),([(76,.buf 14)],[]),([(77,.d (.one (.lit (.int .i64 (i:Int)))))],[]),([(78,.row 14 i 1 0)],[]),([(79,.d (.one (.lit (.int .i64 (j:Int)))))],[]),([(80,.d (.one (.ptr (Zac tx))))],[]),([(81,.d (.agg (Zac tx)))],[]),([(82,.d (.agg (Za8 ⟨v,tx⟩)))],[]),([(83,.d (.clip [(Za8 ⟨v,tx⟩)]))],[]),([(84,.buf 84)],[(84,.buf none 74 8 ((Zat (mkB vs ((ZbY cs xs).take i)))++[(Za8 ⟨v,tx⟩)]))]),([(16,.buf 16)],[(16,.buf none 74 8 ((Zat (mkB vs ((ZbY cs xs).take i)))++[(Za8 ⟨v,tx⟩)]))]),([(16,.buf 16)],[]),([],[(16,.buf none 74 8 (Zat (mkB vs ((ZbY cs xs).take i))))])]) (fun j=>([(0,11),(11,12),(13,11),(14,11)]:List (Nat × Nat)).lookup j) [13,14] (⟨by simp [gs],by simp [gm]⟩) (fun j hj=>by simp only [Tbg,List.not_mem_nil,or_false] at hj;rcases hj with rfl | rfl <;> exact ⟨UU.z,UU.z_ok,by simp [gs],by simp [gm]⟩) ⟨?_,?_,?_,?_,?_,?_,?_,?_,?_,?_,?_,?_,?_,trivial⟩ ?_
  ·intro s' m' hB hD hI hJ;have F:=Za6.1 hB;simp only [lkS,lkM,List.getD_cons_zero,List.getD_cons_succ,and_true,true_and] at F;obtain ⟨x13,o13,F13⟩:=ZaE.1 (hJ 13 (by decide) 11 rfl (by decide));simp only [lkS,lkM,List.getD_cons_zero,List.getD_cons_succ,and_true,true_and] at F13;have F:=ai F F13;have F:=aj15 F q3n q2 hv htx hxr hxn hxb hsn hbd h7 l1 @Zap bz3 tmM;refine gO3 ?_;exact xS hB (ZaE.2 ⟨UU.z,UU.z_ok,by simp [lkS,lkM,gs,gm,ZaG,F13,UU.two,UU.vs,UU.sl,h7,hbd,hsn]⟩)
  ·intro s' m' hB hD hI hJ;have F:=Za6.1 hB;simp only [lkS,lkM,List.getD_cons_zero,List.getD_cons_succ,and_true,true_and] at F;have F:=aj15 F q3n q2 hv htx hxr hxn hxb hsn hbd h7 l1 @Zap bz3 tmM;refine gO3 ?_;exact xS hB (ZaE.2 ⟨UU.z,UU.z_ok,by simp [lkS,lkM,gs,gm,ZaG,UU.two,UU.vs,UU.sl,h7,hbd,hsn]⟩)
  ·intro s' m' hB hD hI hJ;have F:=Za6.1 hB;simp only [lkS,lkM,List.getD_cons_zero,List.getD_cons_succ,and_true,true_and] at F;have F:=aj15 F q3n q2 hv htx hxr hxn hxb hsn hbd h7 l1 @Zap bz3 tmM;refine gO3 ?_;exact xS hB (ZaE.2 ⟨UU.z,UU.z_ok,by simp [lkS,lkM,gs,gm,ZaG,UU.two,UU.vs,UU.sl,h7,hbd,hsn]⟩)
  ·intro s' m' hB hD hI hJ;have F:=Za6.1 hB;simp only [lkS,lkM,List.getD_cons_zero,List.getD_cons_succ,and_true,true_and] at F;have F:=aj15 F q3n q2 hv htx hxr hxn hxb hsn hbd h7 l1 @Zap bz3 tmM;refine gP 1 ?_;refine gKk 76 14 (show gm m' 14=some (.buf (some (a0,c0)) 3 1 (xs.map encInt)) by simp [F]) (by first | (simp only [gs,if_true];done) | (simp only [gs,if_true];rfl)) (hxn.symm) ?_;refine ZaJ ?_
   exact xG (f:=Znl 76) hB (fun _ _ h hl=>(hl.slot h).slot h) (ZaE.2 ⟨UU.z,UU.z_ok,by simp [lkS,lkM,gs,gm]⟩)
  ·intro s' m' hB hD hI hJ;have F:=Za6.1 hB;simp only [lkS,lkM,List.getD_cons_zero,List.getD_cons_succ,and_true,true_and] at F;have F:=aj15 F q3n q2 hv htx hxr hxn hxb hsn hbd h7 l1 @Zap bz3 tmM;refine gO3 ?_;exact xS hB (ZaE.2 ⟨UU.z,UU.z_ok,by simp [lkS,lkM,gs,gm,ZaG,UU.two,UU.vs,UU.sl,h7,hbd,hsn]⟩)
  ·intro s' m' hB hD hI hJ;have F:=Za6.1 hB;simp only [lkS,lkM,List.getD_cons_zero,List.getD_cons_succ,and_true,true_and] at F;obtain ⟨x3,o3,F3⟩:=ZaE.1 (hD 3 (by decide) (.inl rfl));obtain ⟨x4,o4,F4⟩:=ZaE.1 (hD 4 (by decide) (.inl rfl));simp only [lkS,lkM,List.getD_cons_zero,List.getD_cons_succ,and_true,true_and] at F3;have F:=ai F F3;simp only [lkS,lkM,List.getD_cons_zero,List.getD_cons_succ,and_true,true_and] at F4
   have F:=ai F F4;have F:=aj15 F q3n q2 hv htx hxr hxn hxb hsn hbd h7 l1 @Zap bz3 tmM;refine gO3 ?_;exact xS hB (ZaE.2 ⟨UU.z,UU.z_ok,by simp [lkS,lkM,gs,gm,ZaG,F3,F4,UU.two,UU.vs,UU.sl,h7,hbd,hsn]⟩)
  ·intro s' m' hB hD hI hJ;have F:=Za6.1 hB;simp only [lkS,lkM,List.getD_cons_zero,List.getD_cons_succ,and_true,true_and] at F;obtain ⟨x5,o5,F5⟩:=ZaE.1 (hD 5 (by decide) (.inl rfl));simp only [lkS,lkM,List.getD_cons_zero,List.getD_cons_succ,and_true,true_and] at F5;have F:=ai F F5;have F:=aj15 F q3n q2 hv htx hxr hxn hxb hsn hbd h7 l1 @Zap bz3 tmM;refine gO3 ?_;exact xS hB (ZaE.2 ⟨UU.z,UU.z_ok,by simp [lkS,lkM,gs,gm,ZaG,F5,UU.two,UU.vs,UU.sl,h7,hbd,hsn]⟩)
  ·intro s' m' hB hD hI hJ;have F:=Za6.1 hB;simp only [lkS,lkM,List.getD_cons_zero,List.getD_cons_succ,and_true,true_and] at F;obtain ⟨x2,o2,F2⟩:=ZaE.1 (hD 2 (by decide) (.inl rfl));obtain ⟨x6,o6,F6⟩:=ZaE.1 (hD 6 (by decide) (.inl rfl));simp only [lkS,lkM,List.getD_cons_zero,List.getD_cons_succ,and_true,true_and] at F2;have F:=ai F F2;simp only [lkS,lkM,List.getD_cons_zero,List.getD_cons_succ,and_true,true_and] at F6
   have F:=ai F F6;have F:=aj15 F q3n q2 hv htx hxr hxn hxb hsn hbd h7 l1 @Zap bz3 tmM;refine gO3 ?_;exact xS hB (ZaE.2 ⟨UU.z,UU.z_ok,by simp [lkS,lkM,gs,gm,ZaG,F2,F6,UU.two,UU.vs,UU.sl,h7,hbd,hsn]⟩)
  ·intro s' m' hB hD hI hJ;have F:=Za6.1 hB;simp only [lkS,lkM,List.getD_cons_zero,List.getD_cons_succ,and_true,true_and] at F;obtain ⟨x7,o7,F7⟩:=ZaE.1 (hD 7 (by decide) (.inl rfl));simp only [lkS,lkM,List.getD_cons_zero,List.getD_cons_succ,and_true,true_and] at F7;have F:=ai F F7;have F:=aj15 F q3n q2 hv htx hxr hxn hxb hsn hbd h7 l1 @Zap bz3 tmM;refine gO3 ?_;exact xS hB (ZaE.2 ⟨UU.z,UU.z_ok,by simp [lkS,lkM,gs,gm,ZaG,F7,UU.two,UU.vs,UU.sl,h7,hbd,hsn]⟩)
  ·intro s' m' hB hD hI hJ;have F:=Za6.1 hB;simp only [lkS,lkM,List.getD_cons_zero,List.getD_cons_succ,and_true,true_and] at F;obtain ⟨x1,o1,F1⟩:=ZaE.1 (hD 1 (by decide) (.inl rfl));obtain ⟨x8,o8,F8⟩:=ZaE.1 (hD 8 (by decide) (.inl rfl));simp only [lkS,lkM,List.getD_cons_zero,List.getD_cons_succ,and_true,true_and] at F1;have F:=ai F F1;simp only [lkS,lkM,List.getD_cons_zero,List.getD_cons_succ,and_true,true_and] at F8
   have F:=ai F F8;have F:=aj15 F q3n q2 hv htx hxr hxn hxb hsn hbd h7 l1 @Zap bz3 tmM;refine gO3 ?_;exact xS hB (ZaE.2 ⟨UU.z,UU.z_ok,by simp [lkS,lkM,gs,gm,ZaG,F1,F8,UU.two,UU.vs,UU.sl,h7,hbd,hsn]⟩)
  ·intro s' m' hB hD hI hJ;have F:=Za6.1 hB;simp only [lkS,lkM,List.getD_cons_zero,List.getD_cons_succ,and_true,true_and] at F;obtain ⟨x9,o9,F9⟩:=ZaE.1 (hD 9 (by decide) (.inl rfl));simp only [lkS,lkM,List.getD_cons_zero,List.getD_cons_succ,and_true,true_and] at F9;have F:=ai F F9;have F:=aj15 F q3n q2 hv htx hxr hxn hxb hsn hbd h7 l1 @Zap bz3 tmM;refine gO3 ?_;exact xS hB (ZaE.2 ⟨UU.z,UU.z_ok,by simp [lkS,lkM,gs,gm,ZaG,F9,UU.two,UU.vs,UU.sl,h7,hbd,hsn]⟩)
  ·intro s' m' hB hD hI hJ;have F:=Za6.1 hB;simp only [lkS,lkM,List.getD_cons_zero,List.getD_cons_succ,and_true,true_and] at F;obtain ⟨x0,o0,F0⟩:=ZaE.1 (hD 0 (by decide) (.inr rfl));obtain ⟨x10,o10,F10⟩:=ZaE.1 (hD 10 (by decide) (.inl rfl));obtain ⟨x13,o13,F13⟩:=ZaE.1 (hI 13 (by decide) (by decide));obtain ⟨x14,o14,F14⟩:=ZaE.1 (hI 14 (by decide) (by decide));simp only [lkS,lkM,List.getD_cons_zero,List.getD_cons_succ,and_true,true_and] at F0
   have F:=ai F F0;simp only [lkS,lkM,List.getD_cons_zero,List.getD_cons_succ,and_true,true_and] at F10;have F:=ai F F10;simp only [lkS,lkM,List.getD_cons_zero,List.getD_cons_succ,and_true,true_and] at F13;have F:=ai F F13;simp only [lkS,lkM,List.getD_cons_zero,List.getD_cons_succ,and_true,true_and] at F14;have F:=ai F F14;have F:=aj15 F q3n q2 hv htx hxr hxn hxb hsn hbd h7 l1 @Zap bz3 tmM;refine gO3 ?_
   exact xE hB (ZaE.2 ⟨UU.z,UU.z_ok,by simp [lkS,lkM,gs,gm,ZaG,F0,F10,F13,F14,UU.two,UU.vs,UU.sl,h7,hbd,hsn]⟩)
  ·intro s' m' hB hD hI hJ;have F:=Za6.1 hB;simp only [lkS,lkM,List.getD_cons_zero,List.getD_cons_succ,and_true,true_and] at F;obtain ⟨x11,o11,F11⟩:=ZaE.1 (hD 11 (by decide) (.inr rfl));simp only [lkS,lkM,List.getD_cons_zero,List.getD_cons_succ,and_true,true_and] at F11;have F:=ai F F11;have F:=aj15 F q3n q2 hv htx hxr hxn hxb hsn hbd h7 l1 @Zap bz3 tmM;refine gO3 ?_;exact xE hB (ZaE.2 ⟨UU.z,UU.z_ok,by simp [lkS,lkM,gs,gm,ZaG,F11,UU.two,UU.vs,UU.sl,h7,hbd,hsn]⟩)
  intro s' m' hB hP;obtain ⟨x12,o12,P12⟩:=hP 12 (.inl (by decide)) (fun k h=>by simp [List.lookup] at h);refine ⟨_,_,hB.app P12,?_⟩;simp only [Taf,Tah,List.append_nil,List.getD_cons_zero,List.getD_cons_succ]
  /- gk end l10rm -/
  refine ⟨_,Wk.refl _,?_⟩;rw [hsn];have F:=ai @wi @tmM;refine gG ?_;exact ⟨i+1,hlt,gw,gw,om⟩
 obtain rfl:i=vs.length:=by omega
 have q2:=lF vs.length vs.length;rw [show (ZbY cs xs).take vs.length=ZbY cs xs by rw [<- hyl,Tap]];have hW:SbsW g (mkB vs (ZbY cs xs)):=ZER hvv (fun x hx=>hct x (hym x hx)) hyl om;have hbo:Zdq (mkB vs (ZbY cs xs)):=fun y h=>⟨(hvv _ (Zdk h).1).term.ok hg,(hct _ (hym _ (Zdk h).2)).ok hg⟩;have hbs:∀ y∈mkB vs (ZbY cs xs),sizeTm y.to<=big:=fun y h=>by have:=(hct _ (hym _ (Zdk h).2)).size;unfold big;omega
 have aX:=(Zz7 (mc:=.lit (.map (some bm))) hg hW _ (Tan _) hpt).m (g:=g) (b:=bm);have cU:=ZAc (b:=bm) hg hbo hbs;have hkr:=ZE3 (N:=N) (n:=vs.length) hzi hxl hxi hNi;have hst:=ZCb (g:=g) (p:=p) (t:=t) (cs:=cs) vs (KR cs.length N (true,xs));rw [show digL cs.length vs.length ((KR cs.length N (true,xs):Nat):Int)=digL cs.length vs.length (((numB cs.length xs).toNat:Nat):Int) from rfl,ZFS hzi hxl hxi] at hst
 have hel:=Zu3 (g:=g) (p:=p) (t:=t) (cs:=cs) (vs:=vs) (KR cs.length N (true,xs));have hkN:=hkr.2.2;generalize mkB vs (ZbY cs xs)=b at aX cU hst ⊢;refine fN 24 (aj3 @q2 @bz3 @tmM) ?_;refine Zcp (Zd2 [16] (by simp only [pz,↓reduceIte,Nat.reduceEqDiff,Nat.reduceAdd,Nat.reduceSub,Nat.reduceMul,Nat.reduceLeDiff,Nat.reduceBEq,Tam,decide_true,decide_false,Int.reduceLE,Int.reduceToNat,Int.reduceLT,Int.reduceEq,eq_self,Nat.reduceShiftRight,Nat.reduceAnd,Nat.reduceBneDiff,tmM];exact rfl)) fun σ' hσ=>?_
 subst hσ;refine gB ?_;refine fC @tmM (aX) ?_
 cases hr:apT g b p with
 | none =>
  have z2:(none:Option Tm).isSome=false:=rfl;rw [Zn9 fun h=>by rw [hr] at h;cases h.1] at hst;simp only [Option.toList_none,List.append_nil] at hst;rw [<- hst];refine fR (ai @z2 @tmM) ?_;have cN:=(ZgI (z:=cs.length) (xs:=xs) hzi om hxi om a0 c0).m (g:=g) (b:=bm);rw [hxl] at cN;have hxn:(xs.map encInt).length=vs.length:=by rw [Tay,hxl]
  rw [<- hkr.1];refine fN 17 @tmM ?_;refine gB ?_;have F:=ai @tmM @hxn;refine gCP [14] [14] (cN) ?_;clear F;rintro r pm ⟨rfl,rfl⟩;simp only [setA,retA,zipM,Taf,Tah];refine (have F:=tmM;gR ?_);exact (have F:=tmM;⟨(nxB cs.length xs,nxt cs.length xs),⟨by rw [<- hxl];exact Zit hzi hxi,Zkt hzi hxi⟩,gw,gw,hkr.2.1⟩)
 | some u =>
  have z4:∀ u:Tm,(some u).isSome=true:=fun _=>rfl;have z3:∀ u:Tm,(some u).getD zTm=u:=fun _=>rfl;have cE:=(Zhf u t).m (g:=g) (b:=bm);refine fR (aj3 @z3 @z4 @tmM) ?_;refine fN 25 (aj3 @z3 @z4 @tmM) ?_;refine gB ?_;refine fC (aj3 @z3 @z4 @tmM) (cE) ?_;by_cases h0:Zai u t=0;rotate_left
  ·rw [decide_eq_false h0];rw [Zn9 fun h=>h0 (by rw [hr] at h;have:=Option.some.inj h.1;rw [this,Zdc])] at hst;simp only [Option.toList_none,List.append_nil] at hst;rw [<- hst];refine fR @tmM ?_;have cN:=(ZgI (z:=cs.length) (xs:=xs) hzi om hxi om a0 c0).m (g:=g) (b:=bm);rw [hxl] at cN;have hxn:(xs.map encInt).length=vs.length:=by rw [Tay,hxl]
   rw [<- hkr.1];refine fN 17 @tmM ?_;refine gB ?_;have F:=ai @tmM @hxn;refine gCP [14] [14] (cN) ?_;clear F;rintro r pm ⟨rfl,rfl⟩;simp only [setA,retA,zipM,Taf,Tah];refine (have F:=tmM;gR ?_);exact (have F:=tmM;⟨(nxB cs.length xs,nxt cs.length xs),⟨by rw [<- hxl];exact Zit hzi hxi,Zkt hzi hxi⟩,gw,gw,hkr.2.1⟩)
  rw [decide_eq_true h0];refine fC @tmM (cU) ?_
  cases hs:Zft g b with
  | false =>
   rw [Zn9 fun h=>by rw [Zm8 h.2] at hs;cases hs] at hst;simp only [Option.toList_none,List.append_nil] at hst;rw [<- hst];refine fR @tmM ?_;have cN:=(ZgI (z:=cs.length) (xs:=xs) hzi om hxi om a0 c0).m (g:=g) (b:=bm);rw [hxl] at cN;have hxn:(xs.map encInt).length=vs.length:=by rw [Tay,hxl]
   rw [<- hkr.1];refine fN 17 @tmM ?_;refine gB ?_;have F:=ai @tmM @hxn;refine gCP [14] [14] (cN) ?_;clear F;rintro r pm ⟨rfl,rfl⟩;simp only [setA,retA,zipM,Taf,Tah];refine (have F:=tmM;gR ?_);exact (have F:=tmM;⟨(nxB cs.length xs,nxt cs.length xs),⟨by rw [<- hxl];exact Zit hzi hxi,Zkt hzi hxi⟩,gw,gw,hkr.2.1⟩)
  | true =>
   rw [Zrs ⟨by rw [hr,Zdb h0],ZAd.1 hs⟩] at hst;have l1:((enmL g p t cs vs (KR cs.length N (true,xs))).length+1<=maxApp)=True:=eq_true (by unfold maxApp;omega);have l2:Zay (enmL g p t cs vs (KR cs.length N (true,xs)))++[[.sl (Zat b)]]=Zay (enmL g p t cs vs (KR cs.length N (true,xs)+1)):=by rw [hst,Ziq];rfl
   refine fR @tmM ?_;refine fN 26 @tmM ?_;refine gB ?_;refine fR (aj4 @l1 @l2 @sz3 @tmM) ?_;have cN:=(ZgI (z:=cs.length) (xs:=xs) hzi om hxi om a0 c0).m (g:=g) (b:=bm);rw [hxl] at cN;have hxn:(xs.map encInt).length=vs.length:=by rw [Tay,hxl]
   rw [<- hkr.1];refine fN 17 @tmM ?_;refine gB ?_;have F:=ai @tmM @hxn;refine gCP [14] [14] (cN) ?_;clear F;rintro r pm ⟨rfl,rfl⟩;simp only [setA,retA,zipM,Taf,Tah];refine (have F:=tmM;gR ?_);exact (have F:=tmM;⟨(nxB cs.length xs,nxt cs.length xs),⟨by rw [<- hxl];exact Zit hzi hxi,Zkt hzi hxi⟩,gw,gw,hkr.2.1⟩)
end
mutual
theorem Zr3:∀ t:Tm,ZbV (Zac t)=3 * sizeTm t
 | .mk op nm so args=>by
  have:=Zvg args;simp only [Zac,ZbV,cntC,sizeTm];omega
theorem Zvg:∀ ts:List Tm,cntRows (Zaa ts)=3 * sizeTms ts
 | []=>by simp [Zaa,cntRows,sizeTms]
 | t::ts=>by
  have h1:=Zr3 t;have h2:=Zvg ts;simp only [Zaa,cntRows,sizeTms];omega
end
theorem Zr4:∀ (a b:List C),ZbV (a++b)=ZbV a+ZbV b
 | [],b=>by simp [ZbV]
 | c::a,b=>by simp only [Taf,ZbV,Zr4 a b];omega
section
variable {g:Sgn} {p t:Tm}
theorem Zoh:∀ {l:List Bd},(∀ y∈l,TermOk g y.var∧TermOk g y.to)->cntRows (Zat l)<=360 * l.length∧bulkRows (Zat l)<=1600 * l.length
 | [],_=>by simp [Zat,cntRows,bulkRows]
 | y::l,h=>by
  obtain ⟨h1,h2⟩:=Zoh (l:=l) fun z hz=>h z (Tal _ hz);obtain ⟨hv,ht⟩:=h y Tas;have a1:=Zr3 y.var;have a2:=Zr3 y.to;have b1:=ZeB hv.form;have b2:=ZeB ht.form;have s1:=hv.size;have s2:=ht.size;have e:Zat (y::l)=Za8 y::Zat l:=rfl;have e2:=Zr4 (Zac y.var) (Zac y.to);have e3:=ZCe (Zac y.var) (Zac y.to);rw [e];simp only [cntRows,bulkRows,Tag,Za8];omega
theorem Zvh:∀ {l:List (List Bd)},(∀ b∈l,b.length<=8∧∀ y∈b,TermOk g y.var∧TermOk g y.to)->cntRows (Zay l)<=2880 * l.length
 | [],_=>by simp [Zay,cntRows]
 | b::l,h=>by
  have h1:=Zvh (l:=l) fun z hz=>h z (Tal _ hz);obtain ⟨h8,hy⟩:=h b Tas;have h2:=(Zoh hy).1;have e:Zay (b::l)=[.sl (Zat b)]::Zay l:=rfl;rw [e];simp only [cntRows,ZbV,cntC,Tag];omega
theorem ZFT:(Zay ((refM g p t).getD [])).length+0<=1048576∧(∀ r∈Zay ((refM g p t).getD []),bulkRow r<=1048576)∧cntRows (Zay ((refM g p t).getD []))<=100000000:=by
 by_cases h:SgnOk g∧TermOk g p∧TermOk g t∧(ZbQ g t).length ^ (Zbs p).length<=20000
 ·obtain ⟨h1,h2,h3,h4⟩:=h;rw [Zi9 h1 h2 h3 h4,Option.getD_some];have hm:=Zk0 h1 h2 h3;have hl:=ZrW (g:=g) (p:=p) (t:=t);have hc:=Zvh fun b hb=>(hm b hb).2;rw [ZfK];refine ⟨om,fun r hr=>?_,om⟩;obtain ⟨b,hb,rfl⟩:=Tbi.1 hr;have h5:=(Zoh (hm b hb).2.2).2;have h6:=(hm b hb).2.1;simp only [bulkRow,ZbG,Zcl];omega
 ·rw [Zen h];simp [Zay,cntRows]
theorem ZGb:Zam (Zae .bindings) (Zay ((refM g p t).getD [])):=by
 have key:∀ l:List (List Bd),(∀ b∈l,Zdq b)->Zam (Zae .bindings) (Zay l):=fun l=>by
  induction l with
  | nil=>exact fun _=>trivial
  | cons b l ih=>exact fun h=>⟨Zog (Zjj (h b Tas)),ih fun c hc=>h c (Tal _ hc)⟩
 by_cases h:SgnOk g∧TermOk g p∧TermOk g t∧(ZbQ g t).length ^ (Zbs p).length<=20000
 ·obtain ⟨h1,h2,h3,h4⟩:=h;rw [Zi9 h1 h2 h3 h4,Option.getD_some];exact key _ fun b hb=>(Zk0 h1 h2 h3 b hb).1
 ·rw [Zen h]
  trivial
end
theorem Zhw {row0:List C} (hok0:Zan (sigF) row0) {row1:List C} (hok1:Zan (Zae .term) row1) {row2:List C} (hok2:Zan (Zae .term) row2) {wr:List (List C)} (hokw:Zam (Zae .bindings) wr) {R1:Bool} (hBw0:bulkRow row0<=1048576->bulkRow row1<=1048576->bulkRow row2<=1048576->(bulkRow row0)+(bulkRow row1)+(bulkRow row2)<=1048576->wr.length+0<=1048576∧(∀ r∈wr,bulkRow r<=1048576)∧cntRows wr<=100000000) (hsp0:bulkRow row0<=1048576->bulkRow row1<=1048576->bulkRow row2<=1048576->(bulkRow row0)+(bulkRow row1)+(bulkRow row2)<=1048576->Con e0 6 [.agg row0,.agg row1,.agg row2] [.one (.sl wr),.one (.lit (.bool R1))]) (him0:bulkRow row0<=1048576->bulkRow row1<=1048576->bulkRow row2<=1048576->(bulkRow row0)+(bulkRow row1)+(bulkRow row2)<=1048576->ConP e0 9 [.agg row0,.agg row1,.agg row2] [] (Zc0 wr R1)):Con e0 3 [.agg row0,.agg row1,.agg row2] [.one (.lit (.bool true))]:=by
 have okc0:=hok0.cells;obtain ⟨len0,tk0,dr0⟩:=hok0.take (n:=3) rfl;have okc1:=hok1.cells;obtain ⟨len1,tk1,dr1⟩:=hok1.take (n:=4) rfl;have okc2:=hok2.cells;obtain ⟨len2,tk2,dr2⟩:=hok2.take (n:=4) rfl;refine gI 3146931352660315980813683006301119594889215 Tryz.func3 ?_;refine fG (aj13 @okc0 @len0 @tk0 @dr0 @okc1 @len1 @tk1 @dr1 @okc2 @len2 @tk2 @dr2 @Zaz) ?_;have hL0_0:(0:Int)<=1048576:=om;have hL0_1:(1048576:Int)<=1048576:=om
 refine gB ?_;refine fC (aj13 @okc0 @len0 @tk0 @dr0 @okc1 @len1 @tk1 @dr1 @okc2 @len2 @tk2 @dr2 @Zaz) (ZnE hok0 hL0_0 hL0_1) ?_;refine fR (aj13 @okc0 @len0 @tk0 @dr0 @okc1 @len1 @tk1 @dr1 @okc2 @len2 @tk2 @dr2 @Zaz) ?_;by_cases hb0:((bulkRow row0:Nat):Int)<=1048576;rotate_left
 ·have n1:sub 1048576 (bulkRow row0:Nat)=-1:=Zbf om;have n2:(-1:Int) < 0:=om;exact fT (ai @n1 @n2)
 have nq:sub 1048576 (bulkRow row0:Nat)=1048576 - ((bulkRow row0:Nat):Nat):=ZbR om;rw [nq];clear nq;have hB0:bulkRow row0<=1048576:=om;have hL1_0:(0:Int)<=1048576 - ((bulkRow row0:Nat):Nat):=om;have hL1_1:(1048576:Int) - ((bulkRow row0:Nat):Nat)<=1048576:=om;generalize hgl0:(1048576:Int) - ((bulkRow row0:Nat):Nat)=L1 at *;have n2:¬ (L1 < 0):=om;refine fG (aj14 @n2 @okc0 @len0 @tk0 @dr0 @okc1 @len1 @tk1 @dr1 @okc2 @len2 @tk2 @dr2 @Zaz) ?_
 clear n2 hb0;refine gB ?_;refine fC (aj13 @okc0 @len0 @tk0 @dr0 @okc1 @len1 @tk1 @dr1 @okc2 @len2 @tk2 @dr2 @Zaz) (ZnC hok1 hL1_0 hL1_1) ?_;refine fR (aj13 @okc0 @len0 @tk0 @dr0 @okc1 @len1 @tk1 @dr1 @okc2 @len2 @tk2 @dr2 @Zaz) ?_;by_cases hb1:((bulkRow row1:Nat):Int)<=L1;rotate_left
 ·have n1:sub L1 (bulkRow row1:Nat)=-1:=Zbf om;have n2:(-1:Int) < 0:=om;exact fT (ai @n1 @n2)
 have nq:sub L1 (bulkRow row1:Nat)=L1 - ((bulkRow row1:Nat):Nat):=ZbR om;rw [nq];clear nq;have hB1:bulkRow row1<=1048576:=om;have hL2_0:(0:Int)<=L1 - ((bulkRow row1:Nat):Nat):=om;have hL2_1:(L1:Int) - ((bulkRow row1:Nat):Nat)<=1048576:=om;generalize hgl1:(L1:Int) - ((bulkRow row1:Nat):Nat)=L2 at *;have n2:¬ (L2 < 0):=om;refine fG (aj14 @n2 @okc0 @len0 @tk0 @dr0 @okc1 @len1 @tk1 @dr1 @okc2 @len2 @tk2 @dr2 @Zaz) ?_
 clear n2 hb1;refine gB ?_;refine fC (aj13 @okc0 @len0 @tk0 @dr0 @okc1 @len1 @tk1 @dr1 @okc2 @len2 @tk2 @dr2 @Zaz) (ZnC hok2 hL2_0 hL2_1) ?_;refine fR (aj13 @okc0 @len0 @tk0 @dr0 @okc1 @len1 @tk1 @dr1 @okc2 @len2 @tk2 @dr2 @Zaz) ?_;by_cases hb2:((bulkRow row2:Nat):Int)<=L2;rotate_left
 ·have n1:sub L2 (bulkRow row2:Nat)=-1:=Zbf om;have n2:(-1:Int) < 0:=om;exact fT (ai @n1 @n2)
 have nq:sub L2 (bulkRow row2:Nat)=L2 - ((bulkRow row2:Nat):Nat):=ZbR om;rw [nq];clear nq;have hB2:bulkRow row2<=1048576:=om;have hL3_0:(0:Int)<=L2 - ((bulkRow row2:Nat):Nat):=om;have hL3_1:(L2:Int) - ((bulkRow row2:Nat):Nat)<=1048576:=om;generalize hgl2:(L2:Int) - ((bulkRow row2:Nat):Nat)=L3 at *;have n2:¬ (L3 < 0):=om;refine fG (aj14 @n2 @okc0 @len0 @tk0 @dr0 @okc1 @len1 @tk1 @dr1 @okc2 @len2 @tk2 @dr2 @Zaz) ?_
 clear n2 hb2;have hBt:(bulkRow row0)+(bulkRow row1)+(bulkRow row2)<=1048576:=om;have hsp:=hsp0 hB0 hB1 hB2 hBt;have him:=him0 hB0 hB1 hB2 hBt;obtain ⟨hBw,hBr,hcw⟩:=hBw0 hB0 hB1 hB2 hBt;have cE:=ZnH hokw;have cT0:=ZnG hok0 hB0;have cP0:=Zhu hok0 hB0;have cQ0:=ZnF hok0;have hc0:cntTop row0<=16 * bulkRow row0:=ZhQ _ _ hok0;have cT1:=ZnD hok1 hB1;have cP1:=Zh2 hok1 hB1;have cQ1:=ZgK hok1;have hc1:cntTop row1<=16 * bulkRow row1:=ZhQ _ _ hok1
 have cT2:=ZnD hok2 hB2;have cP2:=Zh2 hok2 hB2;have cQ2:=ZgK hok2;have hc2:cntTop row2<=16 * bulkRow row2:=ZhQ _ _ hok2;refine gLu 10 9 10 ?_;refine fC (aj13 @okc0 @len0 @tk0 @dr0 @okc1 @len1 @tk1 @dr1 @okc2 @len2 @tk2 @dr2 @Zaz) (cT0) ?_;refine fC (aj13 @okc0 @len0 @tk0 @dr0 @okc1 @len1 @tk1 @dr1 @okc2 @len2 @tk2 @dr2 @Zaz) (cT1) ?_;refine fC (aj13 @okc0 @len0 @tk0 @dr0 @okc1 @len1 @tk1 @dr1 @okc2 @len2 @tk2 @dr2 @Zaz) (cT2) ?_
 refine fC (aj13 @okc0 @len0 @tk0 @dr0 @okc1 @len1 @tk1 @dr1 @okc2 @len2 @tk2 @dr2 @Zaz) (hsp) ?_;refine fR (aj13 @okc0 @len0 @tk0 @dr0 @okc1 @len1 @tk1 @dr1 @okc2 @len2 @tk2 @dr2 @Zaz) ?_;refine fB (aj13 @okc0 @len0 @tk0 @dr0 @okc1 @len1 @tk1 @dr1 @okc2 @len2 @tk2 @dr2 @Zaz) ?_;have F:=aj13 @okc0 @len0 @tk0 @dr0 @okc1 @len1 @tk1 @dr1 @okc2 @len2 @tk2 @dr2 @Zaz;refine gCP [] [1000] (cP0) ?_;clear F
 rintro r pm ⟨us0,E0,rfl,hu0,cu0,rfl⟩;rw [len0] at hu0;obtain ⟨lu0,tu0,du0⟩:=Zmg hu0;simp only [setA,retA,zipM,Taf,Tah];refine fR (aj15 @okc0 @len0 @tk0 @dr0 @okc1 @len1 @tk1 @dr1 @okc2 @len2 @tk2 @dr2 @Zaz @lu0 (aj3 @tu0 @du0 @cu0)) ?_;refine fB (aj15 @okc0 @len0 @tk0 @dr0 @okc1 @len1 @tk1 @dr1 @okc2 @len2 @tk2 @dr2 @Zaz @lu0 (aj3 @tu0 @du0 @cu0)) ?_;have F:=aj15 @okc0 @len0 @tk0 @dr0 @okc1 @len1 @tk1 @dr1 @okc2 @len2 @tk2 @dr2 @Zaz @lu0 (aj3 @tu0 @du0 @cu0);refine gCP [] [1001] (cP1) ?_;clear F
 rintro r pm ⟨us1,E1,rfl,hu1,cu1,rfl⟩;rw [len1] at hu1;obtain ⟨lu1,tu1,du1⟩:=Zmg hu1;simp only [setA,retA,zipM,Taf,Tah];refine fR (aj16 @okc0 @len0 @tk0 @dr0 @okc1 @len1 @tk1 @dr1 @okc2 @len2 @tk2 @dr2 @Zaz @lu0 @tu0 (aj6 @du0 @cu0 @lu1 @tu1 @du1 @cu1)) ?_;refine fB (aj16 @okc0 @len0 @tk0 @dr0 @okc1 @len1 @tk1 @dr1 @okc2 @len2 @tk2 @dr2 @Zaz @lu0 @tu0 (aj6 @du0 @cu0 @lu1 @tu1 @du1 @cu1)) ?_;have F:=aj16 @okc0 @len0 @tk0 @dr0 @okc1 @len1 @tk1 @dr1 @okc2 @len2 @tk2 @dr2 @Zaz @lu0 @tu0 (aj6 @du0 @cu0 @lu1 @tu1 @du1 @cu1);refine gCP [] [1002] (cP2) ?_;clear F
 rintro r pm ⟨us2,E2,rfl,hu2,cu2,rfl⟩;rw [len2] at hu2;obtain ⟨lu2,tu2,du2⟩:=Zmg hu2;simp only [setA,retA,zipM,Taf,Tah];refine fR (aj16 @okc0 @len0 @tk0 @dr0 @okc1 @len1 @tk1 @dr1 @okc2 @len2 @tk2 @dr2 @Zaz @lu0 @tu0 (aj10 @du0 @cu0 @lu1 @tu1 @du1 @cu1 @lu2 @tu2 @du2 @cu2)) ?_;refine fB (aj16 @okc0 @len0 @tk0 @dr0 @okc1 @len1 @tk1 @dr1 @okc2 @len2 @tk2 @dr2 @Zaz @lu0 @tu0 (aj10 @du0 @cu0 @lu1 @tu1 @du1 @cu1 @lu2 @tu2 @du2 @cu2)) ?_
 have F:=aj16 @okc0 @len0 @tk0 @dr0 @okc1 @len1 @tk1 @dr1 @okc2 @len2 @tk2 @dr2 @Zaz @lu0 @tu0 (aj10 @du0 @cu0 @lu1 @tu1 @du1 @cu1 @lu2 @tu2 @du2 @cu2);refine gCP [1000,1001,1002] [1100,1000,1001,1002] (Zvf (lits:=[.agg (Zah us0),.agg (Zah us1),.agg (Zah us2)]) [.set E0 (fun w=>Zaf w row0 E0 us0),.set E1 (fun w=>Zaf w row1 E1 us1),.set E2 (fun w=>Zaf w row2 E2 us2)] him ⟨.tree Tas,.tree (Tal _ Tas),.tree (Tal _ (Tal _ Tas)),trivial⟩ rfl (fun _ _ h=>Zc0.lits h)) ?_;clear F
 rintro r pm ⟨q1,⟨vg,Eg,rfl,cug,rfl⟩,rfl⟩;simp only [setA,retA,zipM,Taf,Tah];refine fR (aj16 @okc0 @len0 @tk0 @dr0 @okc1 @len1 @tk1 @dr1 @okc2 @len2 @tk2 @dr2 @Zaz @lu0 @tu0 (aj11 @du0 @cu0 @lu1 @tu1 @du1 @cu1 @lu2 @tu2 @du2 @cu2 @cug)) ?_;refine fB (aj16 @okc0 @len0 @tk0 @dr0 @okc1 @len1 @tk1 @dr1 @okc2 @len2 @tk2 @dr2 @Zaz @lu0 @tu0 (aj11 @du0 @cu0 @lu1 @tu1 @du1 @cu1 @lu2 @tu2 @du2 @cu2 @cug)) ?_
 have F:=aj16 @okc0 @len0 @tk0 @dr0 @okc1 @len1 @tk1 @dr1 @okc2 @len2 @tk2 @dr2 @Zaz @lu0 @tu0 (aj11 @du0 @cu0 @lu1 @tu1 @du1 @cu1 @lu2 @tu2 @du2 @cu2 @cug);refine gCP [1100] [1100] (Zht (lits:=[.one (.lit vg),.one (.sl wr)]) [.set Eg (fun w=>Own w (.sl wr) Eg vg)] cE ⟨.treeS Tas,.same,trivial⟩ rfl rfl) ?_;clear F;rintro r pm ⟨rfl,rfl⟩;simp only [setA,retA,zipM,Taf,Tah];refine fR (aj16 @okc0 @len0 @tk0 @dr0 @okc1 @len1 @tk1 @dr1 @okc2 @len2 @tk2 @dr2 @Zaz @lu0 @tu0 (aj12 @du0 @cu0 @lu1 @tu1 @du1 @cu1 @lu2 @tu2 @du2 @cu2 @cug @beq_self_eq_true.{0})) ?_
 refine fB (aj16 @okc0 @len0 @tk0 @dr0 @okc1 @len1 @tk1 @dr1 @okc2 @len2 @tk2 @dr2 @Zaz @lu0 @tu0 (aj12 @du0 @cu0 @lu1 @tu1 @du1 @cu1 @lu2 @tu2 @du2 @cu2 @cug @beq_self_eq_true.{0})) ?_;refine fC (aj16 @okc0 @len0 @tk0 @dr0 @okc1 @len1 @tk1 @dr1 @okc2 @len2 @tk2 @dr2 @Zaz @lu0 @tu0 (aj11 @du0 @cu0 @lu1 @tu1 @du1 @cu1 @lu2 @tu2 @du2 @cu2 @cug)) (cT0) ?_;have F:=aj16 @okc0 @len0 @tk0 @dr0 @okc1 @len1 @tk1 @dr1 @okc2 @len2 @tk2 @dr2 @Zaz @lu0 @tu0 (aj11 @du0 @cu0 @lu1 @tu1 @du1 @cu1 @lu2 @tu2 @du2 @cu2 @cug);refine gCP [1000] [1000] (Zht (lits:=[.agg (Zah us0),.agg row0]) [.set E0 (fun w=>Zaf w row0 E0 us0)] cQ0 ⟨.tree Tas,.same,trivial⟩ rfl rfl) ?_;clear F
 rintro r pm ⟨rfl,rfl⟩;simp only [setA,retA,zipM,Taf,Tah];refine fR (aj16 @okc0 @len0 @tk0 @dr0 @okc1 @len1 @tk1 @dr1 @okc2 @len2 @tk2 @dr2 @Zaz @lu0 @tu0 (aj11 @du0 @cu0 @lu1 @tu1 @du1 @cu1 @lu2 @tu2 @du2 @cu2 @cug)) ?_;refine fB (aj16 @okc0 @len0 @tk0 @dr0 @okc1 @len1 @tk1 @dr1 @okc2 @len2 @tk2 @dr2 @Zaz @lu0 @tu0 (aj11 @du0 @cu0 @lu1 @tu1 @du1 @cu1 @lu2 @tu2 @du2 @cu2 @cug)) ?_;refine fC (aj16 @okc0 @len0 @tk0 @dr0 @okc1 @len1 @tk1 @dr1 @okc2 @len2 @tk2 @dr2 @Zaz @lu0 @tu0 (aj11 @du0 @cu0 @lu1 @tu1 @du1 @cu1 @lu2 @tu2 @du2 @cu2 @cug)) (cT1) ?_
 have F:=aj16 @okc0 @len0 @tk0 @dr0 @okc1 @len1 @tk1 @dr1 @okc2 @len2 @tk2 @dr2 @Zaz @lu0 @tu0 (aj11 @du0 @cu0 @lu1 @tu1 @du1 @cu1 @lu2 @tu2 @du2 @cu2 @cug);refine gCP [1001] [1001] (Zht (lits:=[.agg (Zah us1),.agg row1]) [.set E1 (fun w=>Zaf w row1 E1 us1)] cQ1 ⟨.tree Tas,.same,trivial⟩ rfl rfl) ?_;clear F;rintro r pm ⟨rfl,rfl⟩;simp only [setA,retA,zipM,Taf,Tah];refine fR (aj16 @okc0 @len0 @tk0 @dr0 @okc1 @len1 @tk1 @dr1 @okc2 @len2 @tk2 @dr2 @Zaz @lu0 @tu0 (aj11 @du0 @cu0 @lu1 @tu1 @du1 @cu1 @lu2 @tu2 @du2 @cu2 @cug)) ?_
 refine fB (aj16 @okc0 @len0 @tk0 @dr0 @okc1 @len1 @tk1 @dr1 @okc2 @len2 @tk2 @dr2 @Zaz @lu0 @tu0 (aj11 @du0 @cu0 @lu1 @tu1 @du1 @cu1 @lu2 @tu2 @du2 @cu2 @cug)) ?_;refine fC (aj16 @okc0 @len0 @tk0 @dr0 @okc1 @len1 @tk1 @dr1 @okc2 @len2 @tk2 @dr2 @Zaz @lu0 @tu0 (aj11 @du0 @cu0 @lu1 @tu1 @du1 @cu1 @lu2 @tu2 @du2 @cu2 @cug)) (cT2) ?_;have F:=aj16 @okc0 @len0 @tk0 @dr0 @okc1 @len1 @tk1 @dr1 @okc2 @len2 @tk2 @dr2 @Zaz @lu0 @tu0 (aj11 @du0 @cu0 @lu1 @tu1 @du1 @cu1 @lu2 @tu2 @du2 @cu2 @cug);refine gCP [1002] [1002] (Zht (lits:=[.agg (Zah us2),.agg row2]) [.set E2 (fun w=>Zaf w row2 E2 us2)] cQ2 ⟨.tree Tas,.same,trivial⟩ rfl rfl) ?_;clear F
 rintro r pm ⟨rfl,rfl⟩;simp only [setA,retA,zipM,Taf,Tah];refine fR (aj16 @okc0 @len0 @tk0 @dr0 @okc1 @len1 @tk1 @dr1 @okc2 @len2 @tk2 @dr2 @Zaz @lu0 @tu0 (aj11 @du0 @cu0 @lu1 @tu1 @du1 @cu1 @lu2 @tu2 @du2 @cu2 @cug)) ?_;refine fB (aj16 @okc0 @len0 @tk0 @dr0 @okc1 @len1 @tk1 @dr1 @okc2 @len2 @tk2 @dr2 @Zaz @lu0 @tu0 (aj11 @du0 @cu0 @lu1 @tu1 @du1 @cu1 @lu2 @tu2 @du2 @cu2 @cug)) ?_;have F:=aj16 @okc0 @len0 @tk0 @dr0 @okc1 @len1 @tk1 @dr1 @okc2 @len2 @tk2 @dr2 @Zaz @lu0 @tu0 (aj11 @du0 @cu0 @lu1 @tu1 @du1 @cu1 @lu2 @tu2 @du2 @cu2 @cug);refine gCP [1000] [1000] (Zk4 hok0 (1) E0 us0 om cu0 om om) ?_;clear F
 rintro r pm ⟨F0,rfl,rfl⟩;simp only [setA,retA,zipM,Taf,Tah];refine fR (aj16 @okc0 @len0 @tk0 @dr0 @okc1 @len1 @tk1 @dr1 @okc2 @len2 @tk2 @dr2 @Zaz @lu0 @tu0 (aj11 @du0 @cu0 @lu1 @tu1 @du1 @cu1 @lu2 @tu2 @du2 @cu2 @cug)) ?_;refine fB (aj16 @okc0 @len0 @tk0 @dr0 @okc1 @len1 @tk1 @dr1 @okc2 @len2 @tk2 @dr2 @Zaz @lu0 @tu0 (aj11 @du0 @cu0 @lu1 @tu1 @du1 @cu1 @lu2 @tu2 @du2 @cu2 @cug)) ?_;have F:=aj16 @okc0 @len0 @tk0 @dr0 @okc1 @len1 @tk1 @dr1 @okc2 @len2 @tk2 @dr2 @Zaz @lu0 @tu0 (aj11 @du0 @cu0 @lu1 @tu1 @du1 @cu1 @lu2 @tu2 @du2 @cu2 @cug);refine gCP [1001] [1001] (Zku hok1 (1+(cntTop row0:Int)) E1 us1 om cu1 om om) ?_;clear F
 rintro r pm ⟨F1,rfl,rfl⟩;simp only [setA,retA,zipM,Taf,Tah];refine fR (aj16 @okc0 @len0 @tk0 @dr0 @okc1 @len1 @tk1 @dr1 @okc2 @len2 @tk2 @dr2 @Zaz @lu0 @tu0 (aj11 @du0 @cu0 @lu1 @tu1 @du1 @cu1 @lu2 @tu2 @du2 @cu2 @cug)) ?_;refine fB (aj16 @okc0 @len0 @tk0 @dr0 @okc1 @len1 @tk1 @dr1 @okc2 @len2 @tk2 @dr2 @Zaz @lu0 @tu0 (aj11 @du0 @cu0 @lu1 @tu1 @du1 @cu1 @lu2 @tu2 @du2 @cu2 @cug)) ?_;have F:=aj16 @okc0 @len0 @tk0 @dr0 @okc1 @len1 @tk1 @dr1 @okc2 @len2 @tk2 @dr2 @Zaz @lu0 @tu0 (aj11 @du0 @cu0 @lu1 @tu1 @du1 @cu1 @lu2 @tu2 @du2 @cu2 @cug);refine gCP [1002] [1002] (Zku hok2 (1+(cntTop row0:Int)+(cntTop row1:Int)) E2 us2 om cu2 om om) ?_;clear F
 rintro r pm ⟨F2,rfl,rfl⟩;simp only [setA,retA,zipM,Taf,Tah];refine fR (aj16 @okc0 @len0 @tk0 @dr0 @okc1 @len1 @tk1 @dr1 @okc2 @len2 @tk2 @dr2 @Zaz @lu0 @tu0 (aj11 @du0 @cu0 @lu1 @tu1 @du1 @cu1 @lu2 @tu2 @du2 @cu2 @cug)) ?_;refine fG (aj16 @okc0 @len0 @tk0 @dr0 @okc1 @len1 @tk1 @dr1 @okc2 @len2 @tk2 @dr2 @Zaz @lu0 @tu0 (aj11 @du0 @cu0 @lu1 @tu1 @du1 @cu1 @lu2 @tu2 @du2 @cu2 @cug)) ?_;have nk:(1+(cntTop row0:Int)+(cntTop row1:Int)+(cntTop row2:Int) < 0)=False:=eq_false om
 refine gB ?_;have F:=aj16 @okc0 @len0 @tk0 @dr0 @okc1 @len1 @tk1 @dr1 @okc2 @len2 @tk2 @dr2 @Zaz @lu0 @tu0 (aj12 @du0 @cu0 @lu1 @tu1 @du1 @cu1 @lu2 @tu2 @du2 @cu2 @cug @nk);refine gCP [1100] [1100] (Zht (lits:=[.one (.lit vg),.one (.sl wr)]) [.set Eg (fun w=>Own w (.sl wr) Eg vg)] cE ⟨.treeS Tas,.same,trivial⟩ rfl rfl) ?_;clear F;rintro r pm ⟨rfl,rfl⟩;simp only [setA,retA,zipM,Taf,Tah];refine fR (aj16 @okc0 @len0 @tk0 @dr0 @okc1 @len1 @tk1 @dr1 @okc2 @len2 @tk2 @dr2 @Zaz @lu0 @tu0 (aj13 @du0 @cu0 @lu1 @tu1 @du1 @cu1 @lu2 @tu2 @du2 @cu2 @cug @nk @beq_self_eq_true.{0})) ?_
 refine fB (aj16 @okc0 @len0 @tk0 @dr0 @okc1 @len1 @tk1 @dr1 @okc2 @len2 @tk2 @dr2 @Zaz @lu0 @tu0 (aj13 @du0 @cu0 @lu1 @tu1 @du1 @cu1 @lu2 @tu2 @du2 @cu2 @cug @nk @beq_self_eq_true.{0})) ?_;have F:=aj16 @okc0 @len0 @tk0 @dr0 @okc1 @len1 @tk1 @dr1 @okc2 @len2 @tk2 @dr2 @Zaz @lu0 @tu0 (aj12 @du0 @cu0 @lu1 @tu1 @du1 @cu1 @lu2 @tu2 @du2 @cu2 @cug @nk);refine gCP [1100] [1100] (Zk6 hokw 1 Eg vg om om) ?_;clear F
 rintro r pm ⟨Fg,rfl,rfl⟩;simp only [setA,retA,zipM,Taf,Tah];refine fR (aj16 @okc0 @len0 @tk0 @dr0 @okc1 @len1 @tk1 @dr1 @okc2 @len2 @tk2 @dr2 @Zaz @lu0 @tu0 (aj12 @du0 @cu0 @lu1 @tu1 @du1 @cu1 @lu2 @tu2 @du2 @cu2 @cug @nk)) ?_;refine fG (aj16 @okc0 @len0 @tk0 @dr0 @okc1 @len1 @tk1 @dr1 @okc2 @len2 @tk2 @dr2 @Zaz @lu0 @tu0 (aj12 @du0 @cu0 @lu1 @tu1 @du1 @cu1 @lu2 @tu2 @du2 @cu2 @cug @nk)) ?_;have nm:(1+(cntRows wr:Int) < 0)=False:=eq_false om
 have cH:=Zk8 hokw ⟨om,hBr⟩ 1 om om;refine gB ?_;have F:=aj16 @okc0 @len0 @tk0 @dr0 @okc1 @len1 @tk1 @dr1 @okc2 @len2 @tk2 @dr2 @Zaz @lu0 @tu0 (aj13 @du0 @cu0 @lu1 @tu1 @du1 @cu1 @lu2 @tu2 @du2 @cu2 @cug @nk @nm);refine gCP [1100] [1100] (Zht (lits:=[.one (.lit vg),.one (.lit (.int .i64 1))]) [.set Fg (fun w=>Own w (.sl (Zal 1 wr)) Fg vg)] cH ⟨.treeS Tas,.same,trivial⟩ rfl rfl) ?_;clear F;rintro r pm ⟨rfl,rfl⟩
 simp only [setA,retA,zipM,Taf,Tah];refine fR (aj16 @okc0 @len0 @tk0 @dr0 @okc1 @len1 @tk1 @dr1 @okc2 @len2 @tk2 @dr2 @Zaz @lu0 @tu0 (aj13 @du0 @cu0 @lu1 @tu1 @du1 @cu1 @lu2 @tu2 @du2 @cu2 @cug @nk @nm)) ?_;refine fG (aj16 @okc0 @len0 @tk0 @dr0 @okc1 @len1 @tk1 @dr1 @okc2 @len2 @tk2 @dr2 @Zaz @lu0 @tu0 (aj14 @du0 @cu0 @lu1 @tu1 @du1 @cu1 @lu2 @tu2 @du2 @cu2 @cug @nk @nm @beq_self_eq_true.{0})) ?_;refine gLu 10 9 10 ?_
 refine fC (aj13 @okc0 @len0 @tk0 @dr0 @okc1 @len1 @tk1 @dr1 @okc2 @len2 @tk2 @dr2 @Zaz) (cT0) ?_;refine fC (aj13 @okc0 @len0 @tk0 @dr0 @okc1 @len1 @tk1 @dr1 @okc2 @len2 @tk2 @dr2 @Zaz) (cT1) ?_;refine fC (aj13 @okc0 @len0 @tk0 @dr0 @okc1 @len1 @tk1 @dr1 @okc2 @len2 @tk2 @dr2 @Zaz) (cT2) ?_;have hiD:=Zws him;refine fC (aj16 @okc0 @len0 @tk0 @dr0 @okc1 @len1 @tk1 @dr1 @okc2 @len2 @tk2 @dr2 @Zaz @lu0 @tu0 (aj13 @du0 @cu0 @lu1 @tu1 @du1 @cu1 @lu2 @tu2 @du2 @cu2 @cug @nk @nm)) (hiD) ?_
 refine fR (aj16 @okc0 @len0 @tk0 @dr0 @okc1 @len1 @tk1 @dr1 @okc2 @len2 @tk2 @dr2 @Zaz @lu0 @tu0 (aj13 @du0 @cu0 @lu1 @tu1 @du1 @cu1 @lu2 @tu2 @du2 @cu2 @cug @nk @nm)) ?_;refine fB (aj16 @okc0 @len0 @tk0 @dr0 @okc1 @len1 @tk1 @dr1 @okc2 @len2 @tk2 @dr2 @Zaz @lu0 @tu0 (aj13 @du0 @cu0 @lu1 @tu1 @du1 @cu1 @lu2 @tu2 @du2 @cu2 @cug @nk @nm)) ?_;refine fC (aj16 @okc0 @len0 @tk0 @dr0 @okc1 @len1 @tk1 @dr1 @okc2 @len2 @tk2 @dr2 @Zaz @lu0 @tu0 (aj13 @du0 @cu0 @lu1 @tu1 @du1 @cu1 @lu2 @tu2 @du2 @cu2 @cug @nk @nm)) (cE) ?_
 refine fR (aj16 @okc0 @len0 @tk0 @dr0 @okc1 @len1 @tk1 @dr1 @okc2 @len2 @tk2 @dr2 @Zaz @lu0 @tu0 (aj14 @du0 @cu0 @lu1 @tu1 @du1 @cu1 @lu2 @tu2 @du2 @cu2 @cug @nk @nm @beq_self_eq_true.{0})) ?_;refine fB (aj16 @okc0 @len0 @tk0 @dr0 @okc1 @len1 @tk1 @dr1 @okc2 @len2 @tk2 @dr2 @Zaz @lu0 @tu0 (aj14 @du0 @cu0 @lu1 @tu1 @du1 @cu1 @lu2 @tu2 @du2 @cu2 @cug @nk @nm @beq_self_eq_true.{0})) ?_;have F:=aj16 @okc0 @len0 @tk0 @dr0 @okc1 @len1 @tk1 @dr1 @okc2 @len2 @tk2 @dr2 @Zaz @lu0 @tu0 (aj13 @du0 @cu0 @lu1 @tu1 @du1 @cu1 @lu2 @tu2 @du2 @cu2 @cug @nk @nm);refine gCP [1100] [1100] (Zht (lits:=[.one (.lit vg),.one (.lit (.int .i64 1))]) [.set Fg (fun w=>Own w (.sl (Zal 1 wr)) Fg vg)] cH ⟨.treeS Tas,.same,trivial⟩ rfl rfl) ?_;clear F
 rintro r pm ⟨rfl,rfl⟩;simp only [setA,retA,zipM,Taf,Tah];refine fR (aj16 @okc0 @len0 @tk0 @dr0 @okc1 @len1 @tk1 @dr1 @okc2 @len2 @tk2 @dr2 @Zaz @lu0 @tu0 (aj13 @du0 @cu0 @lu1 @tu1 @du1 @cu1 @lu2 @tu2 @du2 @cu2 @cug @nk @nm)) ?_;exact fT (aj16 @okc0 @len0 @tk0 @dr0 @okc1 @len1 @tk1 @dr1 @okc2 @len2 @tk2 @dr2 @Zaz @lu0 @tu0 (aj14 @du0 @cu0 @lu1 @tu1 @du1 @cu1 @lu2 @tu2 @du2 @cu2 @cug @nk @nm @beq_self_eq_true.{0}))
theorem Zhv (w:World) (hT:ZcY w) (row0:List C) (S0:Nat->Prop) (us0:List Value) (hok0:Zan (sigF) row0) (hv0:Zab w S0 row0 us0) (row1:List C) (S1:Nat->Prop) (us1:List Value) (hok1:Zan (Zae .term) row1) (hv1:Zab w S1 row1 us1) (row2:List C) (S2:Nat->Prop) (us2:List Value) (hok2:Zan (Zae .term) row2) (hv2:Zab w S2 row2 us2) :
  Calls Tryz.prog 3 #[(.agg us0.toArray:Value),(.agg us1.toArray:Value),(.agg us2.toArray:Value)] w fun e w'=>e=.returned (.bool true)∧Below w.heap.size w w':=by
 obtain ⟨g,rfl,k0⟩:=ZFh hok0;obtain ⟨p,rfl,k1⟩:=ZDU hok1;obtain ⟨t,rfl,k2⟩:=ZDU hok2
 have hc:=(Zhw hok0 hok1 hok2 (ZGb) (fun b0 b1 b2 bt=>ZFT) (fun b0 b1 b2 bt=>Zwn k0 k1 k2 b1 b2) (fun b0 b1 b2 bt=>Zs1 k0 k1 k2 b1 b2)).2 w (fun b=>b < w.heap.size∧b≠2) [(.agg us0.toArray:Value),(.agg us1.toArray:Value),(.agg us2.toArray:Value)] (fun b hb=>⟨hb.1,hb.2⟩) (ZFj hT) hT
  ⟨⟨us0,rfl,Zab.off (ZqD hT) _ _ _ hok0 hv0.inside'⟩,⟨us1,rfl,Zab.off (ZqD hT) _ _ _ hok1 hv1.inside'⟩,⟨us2,rfl,Zab.off (ZqD hT) _ _ _ hok2 hv2.inside'⟩,trivial⟩
 refine hc.mono fun e w' ⟨v,h1,h2,h3,h4⟩=>⟨?_,h2.belowT hT h3⟩;have h4:v=.bool true:=by simpa [retA,ARel,DRel,Rep] using h4
 rw [h1,h4]
end Go.Proofs.YtkigoajepohkaaaGreatDoor
