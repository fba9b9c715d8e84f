/-
  Part of a proof: Lz, Bz, Bh, Bj, Bk, Sz, Nb, Iu, Rn, Dz, So, Ls, Vc, Vd, Vi, Vs, Eb, Eq, Er, Ei, Lg, Gr, Co, Mh, Dy, Dn, Dl, Ba, Ev, Iv, Un, Dm, Do, Dp, WIsSortDecreasing.
-/
import Derived.Test.YtffmjghcpgpfpaaGreatDoorBIsSortDecreasingCard0
import Derived.Test.YtffmjghcpgpfpaaGreatDoorBIsSortDecreasingCard1
import Derived.Test.YtffmjghcpgpfpaaGreatDoorBIsSortDecreasingCard2
import Derived.Test.YtffmjghcpgpfpaaGreatDoorBIsSortDecreasingCard3
import Derived.Test.YtffmjghcpgpfpaaGreatDoorBIsSortDecreasingCard4
import Derived.Shelf.Lays7
import Derived.Test.YtffmjghcpgpfpaaGreatDoorChecked
import Derived.Shelf.Spec.TrailingZeros
import Derived.Shelf.SlSortCmp.WholeK
import Derived.Shelf.SlSortCmp.NoneTotal
import Derived.Lib.QuietBelow
import Derived.Shelf.SlLaysF0
import Derived.Shelf.Lays8
import Derived.Shelf.Spec.SlicesGrow
set_option linter.unusedSimpArgs false
set_option linter.unusedVariables false
set_option maxHeartbeats 400000000
set_option maxRecDepth 100000
namespace Go.Proofs.YtffmjghcpgpfpaaGreatDoor
open Go.Shelf
def ZuZ:Ren:=⟨fun | 27=>231 | 28=>248 | 29=>249 | n=>n,fun | 25=>168 | 3=>3 | 27=>222 | 22=>224 | 4=>4 | 53=>276 | 0=>0 | 5=>5 | 54=>277 | n=>n,fun | 0=>1 | 1=>2 | n=>n⟩
theorem tzZ:Go.Proofs.Lays7.n27 Tryz.prog ZuZ:={
 mixed:=by kernel_rfl,
 f27:=Tryz.func231.trans (congrArg some (by kernel_rfl)),
 f28:=Tryz.func248.trans (congrArg some (by kernel_rfl)),
 f29:=Tryz.func249.trans (congrArg some (by kernel_rfl)),
 t0:=Tryz.underlying0,
 a0:=Tryz.isAgg0,
 z0:=Tryz.sizeOf0,
 v0:=Tryz.zeroValue0,
 i0:=by kernel_rfl,
 t3:=Tryz.underlying3,
 a3:=Tryz.isAgg3,
 z3:=Tryz.sizeOf3,
 v3:=Tryz.zeroValue3,
 i3:=by kernel_rfl,
 t4:=Tryz.underlying4,
 a4:=Tryz.isAgg4,
 z4:=Tryz.sizeOf4,
 v4:=Tryz.zeroValue4,
 i4:=by kernel_rfl,
 t5:=Tryz.underlying5,
 a5:=Tryz.isAgg5,
 z5:=Tryz.sizeOf5,
 v5:=Tryz.zeroValue5,
 i5:=by kernel_rfl,
 t22:=Tryz.underlying224,
 a22:=Tryz.isAgg224,
 z22:=Tryz.sizeOf224,
 v22:=Tryz.zeroValue224,
 i22:=by kernel_rfl,
 t25:=Tryz.underlying168,
 a25:=Tryz.isAgg168,
 z25:=Tryz.sizeOf168,
 v25:=Tryz.zeroValue168,
 i25:=by kernel_rfl,
 t27:=Tryz.underlying222,
 a27:=Tryz.isAgg222,
 z27:=Tryz.sizeOf222,
 v27:=Tryz.zeroValue222,
 i27:=by kernel_rfl,
 t53:=Tryz.underlying276,
 a53:=Tryz.isAgg276,
 z53:=Tryz.sizeOf276,
 v53:=Tryz.zeroValue276,
 i53:=by kernel_rfl,
 t54:=Tryz.underlying277,
 a54:=Tryz.isAgg277,
 z54:=Tryz.sizeOf277,
 g0:=by kernel_rfl,
 g1:=by kernel_rfl }
end Go.Proofs.YtffmjghcpgpfpaaGreatDoor
namespace Go.Proofs.YtffmjghcpgpfpaaGreatDoor
open Go.RowKit
theorem ZGB:∀ q:Fin 8,Lib.ctz 64 (2 ^ q.val)=q.val:=by decide
theorem ZHm {q:Nat} (hq:q < 8):Con e0 231 [.one (.lit (.int .u64 ((2 ^ q:Nat):Int)))] [.one (.lit (.int .i64 (q:Int)))]:=by
 refine ⟨by kernel_rfl,fun w S vs hS hE hG hv=>?_⟩
 match vs,hv with
 | [v],hv =>
  have hv:v=.int .u64 ((2 ^ q:Nat):Int):=by simpa [ZaI,DRel,Rep] using hv
  subst hv
  have hp:2 ^ q < 2 ^ 8:=Nat.pow_lt_pow_right om hq
  have hT:TabAt (ZuZ.g 1) Lib.deBruijn64tab w:=fun j hj=>ZcA.cell hG j hj
  refine (Any7.bits_TrailingZeros tzZ (2 ^ q) om w (fun _=>hT)).mono fun en w' ⟨h1,h2⟩=>?_
  subst h2
  rw [ZGB ⟨q,hq⟩] at h1
  exact ⟨_,h1,Kept.refl _ _ _ _,hG,by simp [retA,ARel,DRel,Rep]⟩
theorem ZqG {p m:Nat} (h:p &&& m=p) (hp:p≠0) (hm:p≠m):1<=m ^^^ p∧m ^^^ p < m:=by
 have h1:=Zqp hm
 have h2:=(ZuM h).2
 have h3:m ^^^ p<=m:=by
  have h4:m ^^^ p<=p ||| (m ^^^ p):=Nat.right_le_or
  rw [h2] at h4
  exact h4
 have h4:m ^^^ p≠m:=fun e=>hp (by
  have:m ^^^ (m ^^^ p)=m ^^^ m:=by rw [e]
  rw [<- Nat.xor_assoc,Nat.xor_self,Nat.zero_xor] at this
  exact this)
 omega
section
variable {g:Sgn} {mc:C}
theorem ZCj (hg:SgnOk g) {i:Nat} {o:Opr} (ho:g.ops[i]?=some o) (ha:o.assoc=true) (hc:o.comm=true) {s t N:Nat}:ofB (AnyB g o [s,t]) N=ofB (fun b=>Two (Eith (Rel2 g o)) s t b) N:=by
 refine ZaZ fun b _=>?_
 unfold AnyB
 rw [ZeI (Opr.deg2 hg ho (.inl ha)),ZCh,hc]
 simp only [List.reverse_cons,List.reverse_nil,Tag,List.singleton_append,true_and]
 rw [ZeI (Opr.deg2 hg ho (.inl ha))]
theorem ZGC {R:Nat->Nat->Nat->Prop} {N:Nat} (h:∀ a c b,R a c b->b < N):∀ a c b,Eith R a c b->b < N:=fun a c b h1=>h1.elim (h a c b) (h c a b)
theorem Zm7 (hg:SgnOk g) {op:Int} {o:Opr} (h0:0<=op) (ho:g.ops[op.toNat]?=some o) (ha:o.assoc=true) (hc:o.comm=true) (sets:List Nat) (hn1:1<=sets.length) (hn7:sets.length<=7) (hs:∀ s∈sets,s < 2 ^ g.sorts.names.length):Con e0 176 [.one (.ptr (encX g mc)),.one (.lit (.int .i64 op)),.one (.sl (nR sets))] [.one (.lit (.int .i64 ((bvN g (Rel2 g o) sets (2 ^ sets.length - 1):Nat):Int)))]:=by
 have hN:=hg.sorts.n8
 have rl:=ZaF (l:=sets)
 have rr:=Zay (l:=sets)
 have hdeg:=Opr.deg2 hg ho (.inl ha)
 rw [<- ZCi]
 have hRlt:=ZGC fun a c b (h:Rel2 g o a c b)=>Rel2.lt hg (Tab ho) h
 have hany:=fun s t=>ZCj (s:=s) (t:=t) (N:=g.sorts.names.length) hg ho ha hc
 generalize hRR:Eith (Rel2 g o)=R at hRlt hany ⊢
 have hcv:∀ m,bvN g R sets m < 2 ^ g.sorts.names.length:=fun m=>ZbW _ _
 have hsh:=Zga (k:=sets.length) om
 have hT0:=BagT.start (g:=g) (R:=R) (sets:=sets)
 have hpow:∀ q,2 ^ q < 2 ^ sets.length->q < sets.length:=fun q h=>(Nat.pow_lt_pow_iff_right om).1 h
 have hZ1:2 ^ 1<=2 ^ sets.length:=Tbt om hn1
 have hZ7:2 ^ sets.length<=2 ^ 7:=Tbt om hn7
 have hBl:=fun M T (h:BagT g R sets M T)=>h.1
 have hBn:=fun M T (h:BagT g R sets M T)=>h.next
 have hB0:=fun M T (h:BagT g R sets M T)=>h.zero
 have hBg:=fun M T (h:BagT g R sets M T)=>h.2
 generalize hZ:2 ^ sets.length=Z at hsh hT0 hpow hZ1 hZ7 hBl hBn hB0 hBg ⊢
 have hmx:((Z:Int)<=(maxApp:Int))=True:=eq_true (by unfold maxApp;omega)
 refine gI (ts:=[.slot 6]) 2199090890695 Tryz.func176 ?_
 (have F:=ai @rl (ai @hsh (ai @hmx (ai @Tbz (ai @nR_0 (ai @Zas @tmz)))));refine gG ?_;clear F)
 generalize List.replicate Z 0=T0 at hT0 ⊢
 (have F:=@tmz;refine gL (ι:=Nat × List Nat) [8,9,10,19,26,41] [8] (fun x=>[(9,A.d (.one (.lit (.int .i64 x.1)))),(8,.buf 8)]) (fun x=>[(8,.buf none 3 1 (nR x.2))]) (fun x=>1<=x.1∧x.1<=Z∧BagT g R sets x.1 x.2) (fun x=>Z - x.1) ((1,T0)) (⟨Tah _,by omega,hT0⟩) (fun x hx=>?_);clear F)
 clear hT0 T0
 obtain ⟨m,T⟩:=x
 obtain ⟨hm1,hm2,hT⟩:=hx
 simp only at hm1 hm2 hT
 dsimp only
 have nl:=ZaF (l:=T)
 rw [hBl _ _ hT] at nl
 have nr:=Zay (l:=T)
 by_cases hmZ:m < Z
 rotate_left
 ·obtain rfl:m=Z:=by omega
  have q1:((m:Int) < (m:Int))=False:=eq_false om
  have hg2:=ZaH ((hBg _ _ hT (m - 1) om om).1 om)
  have w1:IntKind.i64.wrap ((m:Int) - 1)=((m - 1:Nat):Int):=ZaQ om om om
  have i1:(m - 1 < m)=True:=eq_true om
  (have F:=ai @q1 (ai @hsh (ai @nl (ai @nr (ai @hg2 (ai @w1 (ai @i1 (ai @Zas @tmz)))))));refine gG ?_;exact gTd)
 have q1:((m:Int) < (Z:Int))=True:=eq_true om
 have hw:=Zap (k:=m) om
 have w1:IntKind.i64.wrap ((m:Int) - 1)=((m - 1:Nat):Int):=ZaQ om om om
 have ba:=Zd5 (a:=m) (b:=m - 1) om om
 have ba2:=Zd5 (a:=m - 1) (b:=m) om om
 rw [Nat.and_comm] at ba
 have i0:(m < Z)=True:=eq_true hmZ
 by_cases hA:(m - 1) &&& m=0
 ·obtain ⟨q,rfl⟩:=ZuY om hA
  have hq:=hpow q hmZ
  rw [hA] at ba
  have q2:(((0:Nat):Int)=0)=True:=eq_true rfl
  have wu:IntKind.u64.wrap ((2 ^ q:Nat):Int)=((2 ^ q:Nat):Int):=by
   unfold IntKind.wrap
   simp only [IntKind.signed,IntKind.bits]
   exact Int.emod_eq_of_lt om om
  obtain ⟨s,hsq⟩:∃ s,sets[q]?=some s:=⟨_,Taa hq⟩
  have hbv:bvN g R sets (2 ^ q)=s:=by unfold bvN;exact ZuP hsq (hs s (Tab hsq))
  have r1:=ZaH hsq
  have hT2:=hBn _ _ hT hmZ
  rw [hbv] at hT2
  have ns:=Zcf (l:=T) (2 ^ q) s
  obtain ⟨z,hz⟩:∃ z,T[2 ^ q]?=some z:=⟨_,Taa (by rw [hBl _ _ hT];exact hmZ)⟩
  have ng:=ZaH hz
  have cz:=ZHm (q:=q) om
  have i2:(q < sets.length)=True:=eq_true hq
  clear hbv hA
  generalize 2 ^ q=M at *
  (have F:=ai @q1 (ai @hsh (ai @w1 (ai @ba (ai @q2 (ai @Zas @tmz)))));have NN:Zag 7:=trivial;refine gGn ?_;clear F NN)
  refine gB ?_
  (have F:=ai @ZfM (ai @Zfg (ai @Zeg (ai @wu @tmz)));refine gC (cz) ?_;clear F)
  (have F:=ai @r1 (ai @rl (ai @rr (ai @nl (ai @nr (ai @ns (ai @ng (ai @i0 (ai @i2 (ai @Zas @tmz)))))))));refine gR ?_;clear F)
  (have F:=ai @hw @tmz;refine gG ?_;exact ⟨(M+1,T.set M s),⟨by omega,by omega,hT2⟩,gw,gw,by omega⟩)
 have q2:((((m - 1) &&& m:Nat):Int)=0)=False:=eq_false om
 have hnp:∀ i,m≠2 ^ i:=fun i e=>hA (by subst e;exact ZuX i)
 have hz:=hB0 _ _ hT hm1 hmZ
 have hzz:nR (T.set m 0)=nR T:=by rw [hz]
 have hle:(m - 1) &&& m<=m - 1:=Nat.and_le_left
 have hs0:=Zl8 (R:=R) (sets:=sets) (N:=g.sorts.names.length) (m:=m) om
 have hend:=Zqr (R:=R) (sets:=sets) (N:=g.sorts.names.length) (m:=m) hs hRlt hnp
 have hT2:=hBn _ _ hT hmZ
 clear nl nr
 (have F:=ai @hsh (ai @q1 (ai @w1 (ai @ba (ai @ba2 (ai @q2 (ai @Zas @tmz))))));refine gG ?_;clear F)
 (have F:=ai @hzz @tmz;refine gL (ι:=Nat × Nat) [8,10,41] [8] (fun z=>[(10,A.d (.one (.lit (.int .i64 z.1)))),(8,.buf 8)]) (fun z=>[(8,.buf none 3 1 (nR (T.set m z.2)))]) (fun z=>z.1 < m∧z.1 &&& m=z.1∧z.2=ofB (Ze2 R sets g.sorts.names.length m z.1) g.sorts.names.length) (fun z=>z.1) (((m - 1) &&& m,0)) (⟨by omega,by rw [Nat.and_assoc,Nat.and_self],hs0.symm⟩) (fun z hz=>?_);clear F)
 obtain ⟨p,v⟩:=z
 obtain ⟨hp1,hp2,hv⟩:=hz
 simp only at hp1 hp2 hv
 dsimp only
 by_cases hp0:p=0
 ·subst hp0
  have q3:((0:Int) < ((0:Nat):Int))=False:=eq_false om
  have e:v=bvN g R sets m:=by rw [hv,hend];rfl
  subst e
  (have F:=ai @q3 (ai @hw @tmz);refine gG ?_;exact ⟨(m+1,T.set m (bvN g R sets m)),⟨by omega,by omega,hT2⟩,gw,gw,by omega⟩)
 have q3:((0:Int) < (p:Int))=True:=eq_true om
 have wp:IntKind.i64.wrap ((p:Int) - 1)=((p - 1:Nat):Int):=ZaQ om om om
 have bap:=Zd5 (a:=p - 1) (b:=m) om om
 have bx:=ZqF (a:=m) (b:=p) om om
 have hxp:=ZqG hp2 hp0 om
 have hp3:(p - 1) &&& m<=p - 1:=Nat.and_le_left
 have hTp:=(hBg _ _ hT p om om).1 hp1
 have hTx:=(hBg _ _ hT (m ^^^ p) hxp.1 om).1 hxp.2
 have e:=fun b=>Zn0 (R:=R) (sets:=sets) (N:=g.sorts.names.length) (m:=m) (p:=p) (b:=b) hp0 om hp2
 have e:v ||| ofB (fun b=>Two R (bvN g R sets p) (bvN g R sets (m ^^^ p)) b) g.sorts.names.length=ofB (Ze2 R sets g.sorts.names.length m ((p - 1) &&& m)) g.sorts.names.length:=by
  rw [hv,ZfP]
  exact ZaZ fun b _=>(e b).symm
 have cR:=ZhA (mc:=mc) hg h0 ho [bvN g R sets p,bvN g R sets (m ^^^ p)] (fun d hd=>hdeg d hd) (by simp) (fun s hs=>by
  simp only [Tbg,List.not_mem_nil,or_false] at hs
  rcases hs with rfl | rfl <;> exact hcv _)
 rw [hany] at cR
 have cR:=ZfR cR
 have hv62:v < 4611686018427387904:=by rw [hv];exact Zbt (ZbW _ _) hN
 have hor:=Zc8 hv62 (Zbt (ZbW (fun b=>Two R (bvN g R sets p) (bvN g R sets (m ^^^ p)) b) g.sorts.names.length) hN)
 rw [e] at hor
 generalize ofB (fun b=>Two R (bvN g R sets p) (bvN g R sets (m ^^^ p)) b) g.sorts.names.length=tw at cR hor
 have nl:=ZaF (l:=T.set m v)
 rw [Tay,hBl _ _ hT] at nl
 have nr:=Zay (l:=T.set m v)
 have g1:(nR (T.set m v))[m]?=some [.lit (.int .i64 v)]:=ZaH (Tbn (by rw [hBl _ _ hT];exact hmZ))
 have g2:(nR (T.set m v))[p]?=some [.lit (.int .i64 (bvN g R sets p))]:=ZaH (by rw [Tbo om];exact hTp)
 have g3:(nR (T.set m v))[m ^^^ p]?=some [.lit (.int .i64 (bvN g R sets (m ^^^ p)))]:=ZaH (by rw [Tbo om];exact hTx)
 have ns:=fun x=>Zcf (l:=T.set m v) m x
 simp only [List.set_set] at ns
 have i2:(p < Z)=True:=eq_true om
 have i3:(m ^^^ p < Z)=True:=eq_true om
 clear e hv hend
 (have F:=ai @q3 @tmz;have NN:Zag 11:=trivial;refine gGn ?_;clear F NN)
 refine gB ?_
 (have F:=ai @nl (ai @nr (ai @g1 (ai @g2 (ai @g3 (ai @i0 (ai @i2 (ai @i3 (ai @bx (ai @Zas @tmz)))))))));refine gC (cR) ?_;clear F)
 (have F:=ai @nl (ai @nr (ai @g1 (ai @hor (ai @ns (ai @i0 (ai @Zas @tmz))))));refine gR ?_;clear F)
 (have F:=ai @wp (ai @bap @tmz);refine gG ?_;exact ⟨((p - 1) &&& m,ofB (Ze2 R sets g.sorts.names.length m ((p - 1) &&& m)) g.sorts.names.length),⟨by omega,by rw [Nat.and_assoc,Nat.and_self],rfl⟩,gw,gw,by omega⟩)
end
section
variable {g:Sgn}
theorem ZAD (hg:SgnOk g) {op:Int} {o:Opr} (h0:0<=op) (ho:g.ops[op.toNat]?=some o) (ha:o.assoc=true) (sets:List Nat) (hn1:1<=sets.length) (hn7:sets.length<=7) (hs:∀ s∈sets,s < 2 ^ g.sorts.names.length):Con e0 207 [.agg (Zav g),.one (.lit (.int .i64 op)),.one (.sl (nR sets))] [.one (.lit (.int .i64 ((bvN g (Rel2 g o) sets (2 ^ sets.length - 1):Nat):Int)))]:=by
 have hN:=hg.sorts.n8
 have rl:=ZaF (l:=sets)
 have rr:=Zay (l:=sets)
 have hdeg:=Opr.deg2 hg ho (.inl ha)
 have cU:=Zfh hg.sorts.n8 hg.sorts.m16 (SortsOk.subsIn hg.sorts.subs)
 rw [Za6] at cU
 have hRlt:=fun a c b (h:Rel2 g o a c b)=>Rel2.lt hg (Tab ho) h
 have hany:∀ s t,ofB (Zdi g o [s,t]) g.sorts.names.length=ofB (fun b=>Two (Rel2 g o) s t b) g.sorts.names.length:=fun s t=>ZaZ fun b _=>ZeI hdeg
 have cG:=fun l=>Ziq hg (Tab ho) l
 generalize hRR:Rel2 g o=R at hRlt hany ⊢
 have hcv:∀ m,bvN g R sets m < 2 ^ g.sorts.names.length:=fun m=>ZbW _ _
 have cB:=ZfN (k:=sets.length) om
 have hT0:=BagT.start (g:=g) (R:=R) (sets:=sets)
 have hpow:∀ q,2 ^ q < 2 ^ sets.length->q < sets.length:=fun q h=>(Nat.pow_lt_pow_iff_right om).1 h
 have hZ1:2 ^ 1<=2 ^ sets.length:=Tbt om hn1
 have hZ7:2 ^ sets.length<=2 ^ 7:=Tbt om hn7
 have hBl:=fun M T (h:BagT g R sets M T)=>h.1
 have hBn:=fun M T (h:BagT g R sets M T)=>h.next
 have hB0:=fun M T (h:BagT g R sets M T)=>h.zero
 have hBg:=fun M T (h:BagT g R sets M T)=>h.2
 generalize hZ:2 ^ sets.length=Z at cB hT0 hpow hZ1 hZ7 hBl hBn hB0 hBg ⊢
 have hmx:((Z:Int)<=(maxApp:Int))=True:=eq_true (by unfold maxApp;omega)
 rw [Zav]
 refine gI (ts:=[.slot 6]) 281509890105295 Tryz.func207 ?_
 (have F:=ai @rl @tmz;have NN:Zag 2:=trivial;refine gGn ?_;clear F NN)
 refine gB ?_
 (have F:=@tmz;refine gC (cU) ?_;clear F)
 (have F:=@tmz;refine gR ?_;clear F)
 refine Zd3 ?_
 refine gB ?_
 (have F:=@tmz;refine gC (cB) ?_;clear F)
 (have F:=ai @hmx (ai @Tbz (ai @nR_0 @tmz));refine gR ?_;clear F)
 (have F:=ai @Zas @tmz;refine gG ?_;clear F)
 generalize List.replicate Z 0=T0 at hT0 ⊢
 (have F:=@tmz;refine gL (ι:=Nat × List Nat) [9,10,11,12,24,29,35,48] [9] (fun x=>[(10,A.d (.one (.lit (.int .i64 x.1)))),(9,.buf 9)]) (fun x=>[(9,.buf none 3 1 (nR x.2))]) (fun x=>1<=x.1∧x.1<=Z∧BagT g R sets x.1 x.2) (fun x=>Z - x.1) ((1,T0)) (⟨Tah _,by omega,hT0⟩) (fun x hx=>?_);clear F)
 clear hT0 T0
 obtain ⟨m,T⟩:=x
 obtain ⟨hm1,hm2,hT⟩:=hx
 simp only at hm1 hm2 hT
 dsimp only
 (have F:=@tmz;have NN:Zag 5:=trivial;refine gGn ?_;clear F NN)
 refine gB ?_
 (have F:=@tmz;refine gC (cB) ?_;clear F)
 by_cases hmZ:m < Z
 rotate_left
 ·obtain rfl:m=Z:=by omega
  have nl:=ZaF (l:=T)
  rw [hBl _ _ hT] at nl
  have nr:=Zay (l:=T)
  have q1:((m:Int) < (m:Int))=False:=eq_false om
  have hg2:=ZaH ((hBg _ _ hT (m - 1) om om).1 om)
  have w1:IntKind.i64.wrap ((m:Int) - 1)=((m - 1:Nat):Int):=ZaQ om om om
  have i1:(m - 1 < m)=True:=eq_true om
  (have F:=ai @q1 @tmz;refine gR ?_;clear F)
  (have F:=@tmz;have NN:Zag 16:=trivial;refine gGn ?_;clear F NN)
  refine gB ?_
  (have F:=@tmz;refine gC (cB) ?_;clear F)
  (have F:=ai @nl (ai @nr (ai @hg2 (ai @w1 (ai @i1 (ai @Zas @tmz)))));refine gR ?_;clear F)
  (have F:=@tmz;refine gG ?_;exact gTd)
 have q1:((m:Int) < (Z:Int))=True:=eq_true om
 have hw:=Zap (k:=m) om
 have w1:IntKind.i64.wrap ((m:Int) - 1)=((m - 1:Nat):Int):=ZaQ om om om
 have ba2:=Zd5 (a:=m - 1) (b:=m) om om
 have i0:(m < Z)=True:=eq_true hmZ
 have hz:=hB0 _ _ hT hm1 hmZ
 have hzz:nR (T.set m 0)=nR T:=by rw [hz]
 have hT2:=hBn _ _ hT hmZ
 (have F:=ai @q1 @tmz;refine gR ?_;clear F)
 (have F:=@tmz;refine gG ?_;clear F)
 (have F:=ai @hzz @tmz;refine gL (ι:=Nat × Nat) [9,11,29,35] [9] (fun y=>[(11,A.d (.one (.lit (.int .i64 y.1)))),(9,.buf 9)]) (fun y=>[(9,.buf none 3 1 (nR (T.set m y.2)))]) (fun y=>y.1<=sets.length∧(∀ q,m=2 ^ q->(q < y.1->y.2=bvN g R sets m))∧((∀ q,q < y.1->m≠2 ^ q)->y.2=0)) (fun y=>sets.length - y.1) ((0,0)) (⟨by omega,fun q _ h=>by omega,fun _=>rfl⟩) (fun y hy=>?_);clear F)
 obtain ⟨i,v⟩:=y
 obtain ⟨hi,hv1,hv2⟩:=hy
 simp only at hi hv1 hv2
 dsimp only
 by_cases hil:i < sets.length
 ·have q3:((i:Int) < (sets.length:Int))=True:=eq_true om
  have hwi:=Zap (k:=i) om
  have cBi:=ZfN (k:=i) om
  (have F:=ai @q3 @tmz;have NN:Zag 10:=trivial;refine gGn ?_;clear F NN)
  refine gB ?_
  (have F:=@tmz;refine gC (cBi) ?_;clear F)
  by_cases e:m=2 ^ i
  ·have q4:((m:Int)=((2 ^ i:Nat):Int))=True:=eq_true (by rw [e])
   obtain ⟨s,hsi⟩:∃ s,sets[i]?=some s:=⟨_,Taa hil⟩
   have hbv:bvN g R sets m=s:=by rw [e];unfold bvN;exact ZuP hsi (hs s (Tab hsi))
   have r1:=ZaH hsi
   have nl:=ZaF (l:=T.set m v)
   rw [Tay,hBl _ _ hT] at nl
   have nr:=Zay (l:=T.set m v)
   have g1:(nR (T.set m v))[m]?=some [.lit (.int .i64 v)]:=ZaH (Tbn (by rw [hBl _ _ hT];exact hmZ))
   have ns:=fun x=>Zcf (l:=T.set m v) m x
   simp only [List.set_set] at ns
   have i1:(i < sets.length)=True:=eq_true hil
   have hv0:(∀ q,q < i+1->m≠2 ^ q)->s=0:=fun h=>absurd e (h i om)
   clear cBi
   generalize 2 ^ i=M at *
   (have F:=ai @q4 @tmz;refine gR ?_;clear F)
   (have F:=ai @hwi (ai @r1 (ai @rl (ai @rr (ai @nl (ai @nr (ai @g1 (ai @ns (ai @i0 (ai @i1 (ai @Zas @tmz))))))))));refine gG ?_;exact ⟨(i+1,s),⟨hil,fun q h1 h2=>hbv.symm,hv0⟩,gw,gw,by omega⟩)
  have q4:((m:Int)=((2 ^ i:Nat):Int))=False:=eq_false om
  have hv3:∀ q,m=2 ^ q->(q < i+1->v=bvN g R sets m):=fun q h1 h2=>hv1 q h1 (by
   by_cases h3:q=i
   ·subst h3;exact absurd h1 e
   ·omega)
  have hv4:(∀ q,q < i+1->m≠2 ^ q)->v=0:=fun h=>hv2 fun q h1=>h q om
  clear cBi
  (have F:=ai @q4 @tmz;refine gR ?_;clear F)
  (have F:=ai @hwi @tmz;refine gG ?_;exact ⟨(i+1,v),⟨hil,hv3,hv4⟩,gw,gw,by omega⟩)
 obtain rfl:i=sets.length:=by omega
 have q3:((sets.length:Int) < (sets.length:Int))=False:=eq_false om
 have hz:=hB0 _ _ hT hm1 hmZ
 have hle:(m - 1) &&& m<=m - 1:=Nat.and_le_left
 (have F:=ai @q3 (ai @w1 (ai @ba2 (ai @Zas @tmz)));refine gG ?_;clear F)
 by_cases hA:(m - 1) &&& m=0
 ·obtain ⟨q,rfl⟩:=ZuY om hA
  have hq:=hpow q hmZ
  have hv:=hv1 q rfl hq
  subst hv
  rw [hA]
  (have F:=@tmz;refine gL (ι:=Nat) [12,48] [] (fun z=>[(12,A.d (.one (.lit (.int .i64 z))))]) (fun z=>[]) (fun z=>z=0) (fun z=>z) (0) (rfl) (fun z hz=>?_);clear F)
  subst hz
  have q4:((0:Int) < ((0:Nat):Int))=False:=eq_false om
  generalize 2 ^ q=M at *
  (have F:=ai @q4 (ai @hw @tmz);refine gG ?_;exact ⟨(M+1,T.set M (bvN g R sets M)),⟨by omega,by omega,hT2⟩,gw,gw,by omega⟩)
 have hnp:∀ i,m≠2 ^ i:=fun i e=>hA (by subst e;exact ZuX i)
 have hv:=hv2 fun q _=>hnp q
 subst hv
 have hs0:=Zl8 (R:=R) (sets:=sets) (N:=g.sorts.names.length) (m:=m) om
 have hend:=Zqr (R:=R) (sets:=sets) (N:=g.sorts.names.length) (m:=m) hs hRlt hnp
 (have F:=@tmz;refine gL (ι:=Nat × Nat) [9,12,48] [9] (fun z=>[(12,A.d (.one (.lit (.int .i64 z.1)))),(9,.buf 9)]) (fun z=>[(9,.buf none 3 1 (nR (T.set m z.2)))]) (fun z=>z.1 < m∧z.1 &&& m=z.1∧z.2=ofB (Ze2 R sets g.sorts.names.length m z.1) g.sorts.names.length) (fun z=>z.1) (((m - 1) &&& m,0)) (⟨by omega,by rw [Nat.and_assoc,Nat.and_self],hs0.symm⟩) (fun z hz=>?_);clear F)
 obtain ⟨p,v⟩:=z
 obtain ⟨hp1,hp2,hv⟩:=hz
 simp only at hp1 hp2 hv
 dsimp only
 by_cases hp0:p=0
 ·subst hp0
  have q3:((0:Int) < ((0:Nat):Int))=False:=eq_false om
  have e:v=bvN g R sets m:=by rw [hv,hend];rfl
  subst e
  (have F:=ai @q3 (ai @hw @tmz);refine gG ?_;exact ⟨(m+1,T.set m (bvN g R sets m)),⟨by omega,by omega,hT2⟩,gw,gw,by omega⟩)
 have q3:((0:Int) < (p:Int))=True:=eq_true om
 have wp:IntKind.i64.wrap ((p:Int) - 1)=((p - 1:Nat):Int):=ZaQ om om om
 have bap:=Zd5 (a:=p - 1) (b:=m) om om
 have bx:=ZqF (a:=m) (b:=p) om om
 have hxp:=ZqG hp2 hp0 om
 have hp3:(p - 1) &&& m<=p - 1:=Nat.and_le_left
 have hTp:=(hBg _ _ hT p om om).1 hp1
 have hTx:=(hBg _ _ hT (m ^^^ p) hxp.1 om).1 hxp.2
 have e:=fun b=>Zn0 (R:=R) (sets:=sets) (N:=g.sorts.names.length) (m:=m) (p:=p) (b:=b) hp0 om hp2
 have e:v ||| ofB (fun b=>Two R (bvN g R sets p) (bvN g R sets (m ^^^ p)) b) g.sorts.names.length=ofB (Ze2 R sets g.sorts.names.length m ((p - 1) &&& m)) g.sorts.names.length:=by
  rw [hv,ZfP]
  exact ZaZ fun b _=>(e b).symm
 have cR:=cG [bvN g R sets p,bvN g R sets (m ^^^ p)] (fun d hd=>hdeg d hd) (by simp) (fun s hs=>by
  simp only [Tbg,List.not_mem_nil,or_false] at hs
  rcases hs with rfl | rfl <;> exact hcv _)
 rw [hany] at cR
 have cR:=ZfR cR
 have hv62:v < 4611686018427387904:=by rw [hv];exact Zbt (ZbW _ _) hN
 have hor:=Zc8 hv62 (Zbt (ZbW (fun b=>Two R (bvN g R sets p) (bvN g R sets (m ^^^ p)) b) g.sorts.names.length) hN)
 rw [e] at hor
 generalize ofB (fun b=>Two R (bvN g R sets p) (bvN g R sets (m ^^^ p)) b) g.sorts.names.length=tw at cR hor
 have nl:=ZaF (l:=T.set m v)
 rw [Tay,hBl _ _ hT] at nl
 have nr:=Zay (l:=T.set m v)
 have g1:(nR (T.set m v))[m]?=some [.lit (.int .i64 v)]:=ZaH (Tbn (by rw [hBl _ _ hT];exact hmZ))
 have g2:(nR (T.set m v))[p]?=some [.lit (.int .i64 (bvN g R sets p))]:=ZaH (by rw [Tbo om];exact hTp)
 have g3:(nR (T.set m v))[m ^^^ p]?=some [.lit (.int .i64 (bvN g R sets (m ^^^ p)))]:=ZaH (by rw [Tbo om];exact hTx)
 have ns:=fun x=>Zcf (l:=T.set m v) m x
 simp only [List.set_set] at ns
 have i2:(p < Z)=True:=eq_true om
 have i3:(m ^^^ p < Z)=True:=eq_true om
 clear e hv hend
 (have F:=ai @q3 @tmz;have NN:Zag 15:=trivial;refine gGn ?_;clear F NN)
 refine gB ?_
 (have F:=ai @nl (ai @nr (ai @g1 (ai @g2 (ai @g3 (ai @i0 (ai @i2 (ai @i3 (ai @bx (ai @h0 (ai @ho (ai @Zaj (ai @Zas @tmz))))))))))));refine gC (cR) ?_;clear F)
 (have F:=ai @nl (ai @nr (ai @g1 (ai @hor (ai @ns (ai @i0 (ai @Zas @tmz))))));refine gR ?_;clear F)
 (have F:=ai @wp (ai @bap @tmz);refine gG ?_;exact ⟨((p - 1) &&& m,ofB (Ze2 R sets g.sorts.names.length m ((p - 1) &&& m)) g.sorts.names.length),⟨by omega,by rw [Nat.and_assoc,Nat.and_self],rfl⟩,gw,gw,by omega⟩)
end
section
variable {g:Sgn}
theorem AppOk.len7 (hg:SgnOk g) {t:Tm} {o:Opr} {d:Dcl} (hA:AppOk g t o d):t.args.length<=7:=by
 cases ha:o.assoc with
 | true=>exact (hA.asc ha).2
 | false =>
  rw [hA.nas ha]
  have:=(hg.decls o (Tab hA.at')).ar d hA.fst
  omega
theorem AppOk.dlen (hg:SgnOk g) {t:Tm} {o:Opr} {d:Dcl} (hA:AppOk g t o d) (ha:o.assoc=false):∀ f∈o.decls,f.args.length=t.args.length:=by
 intro f hf
 rw [hA.nas ha]
 exact ((hg.decls o (Tab hA.at')).all d hA.fst f hf).len
theorem Zmj {t a:Tm} {i:Nat} (h:t.args[i]?=some a):(t.args.take i).map (sortsTm g)++[sortsTm g a]=(t.args.take (i+1)).map (sortsTm g):=by
 rw [List.take_add_one,h,Tbw];rfl
theorem ZkG (hg:SgnOk g):∀ (n:Nat) {t:Tm},sizeTm t < n->ZaO g t->Con e0 139 [.agg (Zav g),.agg (encTm t)] [.one (.lit (.int .i64 ((sortsTm g t:Nat):Int)))]:=by
 intro n
 induction n with
 | zero=>exact fun {t} h _=>absurd h om
 | succ n IH =>
 intro t hsz hf
 obtain ⟨hnode,hargs,_⟩:=Zbh.1 hf
 have cU:=Zfh hg.sorts.n8 hg.sorts.m16 (SortsOk.subsIn hg.sorts.subs)
 rw [Za6] at cU
 by_cases hop:t.op=-1
 ·have hv:ZbI g t:=hnode.resolve_right fun ⟨o,d,hA⟩=>by have:=hA.lo;omega
  have q1:(t.op=-1)=True:=eq_true hop
  obtain ⟨k,hk⟩:∃ k:Nat,t.sort=k:=⟨t.sort.toNat,by have:=hv.2.2.1;omega⟩
  have hgk:=ZhR hg.sorts hv.2.2.1 hv.2.2.2.1
  have hgk:=ZaH hgk.1
  have e:=ZdO (g:=g) hop
  rw [e]
  have ul:=ZaF (l:=up g.sorts)
  rw [(ZdT (SortsOk.subsIn hg.sorts.subs)).1] at ul
  have ur:=Zay (l:=up g.sorts)
  have i0:0<=t.sort:=hv.2.2.1
  have i1:(t.sort.toNat < g.sorts.names.length)=True:=eq_true (by have:=hv.2.2.2.1;omega)
  rw [Zav]
  refine gI (ts:=[.slot 4]) 4629704814991770879 Tryz.func139 ?_
  (have F:=ai @q1 @tmz;have NN:Zag 2:=trivial;refine gGn ?_;clear F NN)
  refine gB ?_
  (have F:=@tmz;refine gC (cU) ?_;clear F)
  (have F:=ai @i0 (ai @i1 (ai @ul (ai @ur (ai @hgk @tmz))));refine gR ?_;clear F)
  (have F:=@tmz;refine gG ?_;exact gTd)
 have q1:(t.op=-1)=False:=eq_false hop
 obtain ⟨o,d,hA⟩:∃ o d,AppOk g t o d:=hnode.resolve_left fun hv=>hop hv.1
 have h0:=hA.lo
 have ho:=hA.at'
 have h7:=hA.len7 hg
 have ih:∀ a∈t.args,Con e0 139 [.agg (Zav g),.agg (encTm a)] [.one (.lit (.int .i64 ((sortsTm g a:Nat):Int)))]:=fun a ha=>IH (by
  have h1:=ZaX t
  have h2:=Zbb ha
  omega) (hargs a ha)
 clear IH
 have e:=ZfB hop ho
 rw [e]
 have hss:∀ s∈t.args.map (sortsTm g),s < 2 ^ g.sorts.names.length:=fun s hs=>by
  obtain ⟨a,ha,rfl⟩:=Tbi.1 hs
  exact Zek hg (hargs a ha).node
 have hsl:(t.args.map (sortsTm g)).length=t.args.length:=Tax _
 have cB:=fun (ha:o.assoc=true)=>ZAD hg h0 ho ha (t.args.map (sortsTm g)) (by rw [hsl];have:=(hA.asc ha).1;omega) (by rw [hsl];exact h7) hss
 have cC:=fun (ha:o.assoc=true)=>Zsd hg h0 ho ha (t.args.map (sortsTm g)) (by rw [hsl];have:=(hA.asc ha).1;omega) (by rw [hsl];exact h7) hss
 rw [Zav] at ih cB cC ⊢
 have hn0:nR []=[]:=rfl
 have ht0:t.args.take 0=[]:=rfl
 refine gI (ts:=[.slot 4]) 4629704814991770879 Tryz.func139 ?_
 (have F:=ai @q1 @tmz;refine gG ?_;clear F)
 (have F:=ai @hn0 (ai @ht0 @tmz);refine gL (ι:=Nat) [5,6,23] [5] (fun i=>[(6,A.d (.one (.lit (.int .i64 i)))),(5,.buf 5)]) (fun i=>[(5,.buf none 3 1 (nR ((t.args.take i).map (sortsTm g))))]) (fun i=>i<=t.args.length) (fun i=>t.args.length - i) (0) (Tai _) (fun i hi=>?_);clear F)
 have nl:=ZaF (l:=(t.args.take i).map (sortsTm g))
 rw [Tax,List.length_take_of_le hi] at nl
 have nr:=Zay (l:=(t.args.take i).map (sortsTm g))
 by_cases hil:i < t.args.length
 ·have q2:((i:Int) < (t.args.length:Int))=True:=eq_true om
  obtain ⟨a,hai⟩:∃ a,t.args[i]?=some a:=⟨_,Taa hil⟩
  have cA:=ih a (Tab hai)
  have ns:=Zgl (l:=(t.args.take i).map (sortsTm g)) (sortsTm g a)
  rw [Zmj hai] at ns
  have hmx:(i+1<=maxApp)=True:=eq_true (by unfold maxApp;omega)
  have hw:=Zap (k:=i) om
  (have F:=ai @q2 @tmz;have NN:Zag 7:=trivial;refine gGn ?_;clear F NN)
  refine gB ?_
  (have F:=ai @hai (ai @Zas @tmz);refine gC (cA) ?_;clear F)
  (have F:=ai @nl (ai @nr (ai @ns (ai @hmx @tmz)));refine gR ?_;clear F)
  (have F:=ai @hw @tmz;refine gG ?_;exact ⟨i+1,hil,gw,gw,by omega⟩)
 obtain rfl:i=t.args.length:=by omega
 have q2:((t.args.length:Int) < (t.args.length:Int))=False:=eq_false om
 rw [Tao] at nl nr ⊢
 have hlt:=fun b=>Zek hg (t:=b)
 have hD:=hA.dlen hg
 rw [<- hsl] at hD
 have cF:=fun (ha:o.assoc=false)=>ZkF hg h0 ho (t.args.map (sortsTm g)) (hD ha)
 have h2:=Opr.deg2 hg ho
 rw [Zav] at cF
 clear hi hil
 cases ha:o.assoc with
 | true =>
  cases hc:o.comm with
  | true =>
   have cB:=cB ha
   have e2:bvN g (Rel2 g o) (t.args.map (sortsTm g)) (2 ^ (t.args.map (sortsTm g)).length - 1)=appS g o (t.args.map (sortsTm g)):=by
    unfold bvN appS
    exact ZaZ fun b _=>by unfold AppB;rw [if_pos ha,if_pos hc]
   rw [e2] at cB
   (have F:=ai @q2 (ai @ha (ai @hc (ai @h0 (ai @ho (ai @Zaj @tmz)))));have NN:Zag 10:=trivial;refine gGn ?_;clear F NN)
   refine gB ?_
   (have F:=@tmz;refine gC (cB) ?_;clear F)
   (have F:=@tmz;refine gR ?_;clear F)
   (have F:=@tmz;refine gG ?_;exact gTd)
  | false =>
   have cC:=cC ha
   have e2:cvN g o (t.args.map (sortsTm g)) 0 (t.args.map (sortsTm g)).length=appS g o (t.args.map (sortsTm g)):=by
    unfold cvN appS
    exact ZaZ fun b _=>by unfold AppB;rw [if_pos ha,if_neg (by simp [hc])]
   rw [e2] at cC
   (have F:=ai @q2 (ai @ha (ai @hc (ai @h0 (ai @ho (ai @Zaj @tmz)))));have NN:Zag 12:=trivial;refine gGn ?_;clear F NN)
   refine gB ?_
   (have F:=@tmz;refine gC (cC) ?_;clear F)
   (have F:=@tmz;refine gR ?_;clear F)
   (have F:=@tmz;refine gG ?_;exact gTd)
 | false =>
  have h3:t.args.length<=3:=by
   rw [hA.nas ha]
   exact (hg.decls o (Tab ho)).ar d hA.fst
  have cF:=cF ha (by rw [hsl];exact h3) hss
  cases hc:o.comm with
  | true =>
   have e2:ofB (Zdi g o (t.args.map (sortsTm g))) g.sorts.names.length ||| ofB (Zdi g o (t.args.map (sortsTm g)).reverse) g.sorts.names.length=appS g o (t.args.map (sortsTm g)):=by
    unfold appS
    rw [ZfP]
    exact ZaZ fun b _=>by unfold AppB AnyB;rw [if_neg (by simp [ha]),hc];simp
   have hor:=Zc8 (Zbt (ZbW (Zdi g o (t.args.map (sortsTm g))) g.sorts.names.length) hg.sorts.n8) (Zbt (ZbW (Zdi g o (t.args.map (sortsTm g)).reverse) g.sorts.names.length) hg.sorts.n8)
   rw [e2] at hor
   have cG:=ZkF hg h0 ho (t.args.map (sortsTm g)).reverse (by rw [List.length_reverse];exact hD ha) (by rw [List.length_reverse,hsl];exact h3) (fun s hs=>hss s (List.mem_reverse.1 hs))
   rw [Zav] at cG
   have hl2:(t.args.map (sortsTm g)).length=2:=by rw [hsl,hA.nas ha];exact h2 (.inr (.inl hc)) d (Tab hA.fst)
   clear e2 cB cC hD h2 ih hargs e
   rw [hsl] at hl2
   generalize appS g o (t.args.map (sortsTm g))=V at hor ⊢
   generalize ofB (Zdi g o (t.args.map (sortsTm g))) g.sorts.names.length=V1 at hor cF
   generalize ofB (Zdi g o (t.args.map (sortsTm g)).reverse) g.sorts.names.length=V2 at hor cG
   have hl3:=hsl
   rw [hl2] at hl3 nl
   obtain ⟨s1,s2,hs12⟩:∃ s1 s2,t.args.map (sortsTm g)=[s1,s2]:=by
    match t.args.map (sortsTm g),hl3 with
    | [x,y],_=>exact ⟨x,y,rfl⟩
   rw [hs12] at cF cG nr nl ⊢
   simp only [List.reverse_cons,List.reverse_nil,Tag,List.singleton_append] at cG
   have cG:=ZfR cG
   have g0:(nR [s1,s2])[0]?=some [.lit (.int .i64 s1)]:=rfl
   have g1:(nR [s1,s2])[1]?=some [.lit (.int .i64 s2)]:=rfl
   (have F:=ai @q2 (ai @ha (ai @hc (ai @h0 (ai @ho (ai @Zaj @tmz)))));have NN:Zag 14:=trivial;refine gGn ?_;clear F NN)
   refine ZcF (Zd1 [5] (by simp only [pz,↓reduceIte,Nat.reduceEqDiff,Nat.reduceAdd,Nat.reduceSub,Nat.reduceMul,Nat.reduceLeDiff,Nat.reduceBEq,Tal,decide_true,decide_false,Int.reduceLE,Int.reduceToNat,Int.reduceLT,Int.reduceEq,eq_self,Nat.reduceShiftRight,Nat.reduceAnd,Nat.reduceBneDiff,tmz];exact rfl)) fun σ' hσ=>?_
   subst hσ
   refine gB ?_
   (have F:=@tmz;refine gC (cF) ?_;clear F)
   (have F:=ai @nl (ai @nr (ai @g0 (ai @g1 @tmz)));refine gC (cG) ?_;clear F)
   (have F:=ai @hor @tmz;refine gR ?_;clear F)
   (have F:=@tmz;refine gG ?_;exact gTd)
  | false =>
   have e2:ofB (Zdi g o (t.args.map (sortsTm g))) g.sorts.names.length=appS g o (t.args.map (sortsTm g)):=by
    unfold appS
    exact ZaZ fun b _=>by unfold AppB AnyB;rw [if_neg (by simp [ha]),hc];simp
   rw [e2] at cF
   (have F:=ai @q2 (ai @ha (ai @hc (ai @h0 (ai @ho (ai @Zaj @tmz)))));have NN:Zag 15:=trivial;refine gGn ?_;clear F NN)
   refine gB ?_
   (have F:=@tmz;refine gC (cF) ?_;clear F)
   (have F:=@tmz;refine gR ?_;clear F)
   (have F:=@tmz;refine gG ?_;exact gTd)
end
section
variable {g:Sgn}
def ZfD (g:Sgn) (b:Nat) (t:Tm) (l:List (ByteArray × Value)) (r:List D) (pm:List Bk):Prop:=∃ l',r=[.one (.lit (.int .i64 (sortsTm g t:Nat)))]∧pm=[mapB b l']∧Memo g l'∧Grew g (sizeTm t) l l'
theorem ZHo:∀ (b:Nat) (l:List (ByteArray × Value)),pinned (mapB b l)=true:=fun _ _=>rfl
theorem ZjB (hg:SgnOk g) (b:Nat):∀ (n:Nat) {t:Tm},sizeTm t < n->sizeTm t<=60->ZaO g t->∀ l,Memo g l->ConP e0 116 [.one (.ptr (encX g (.lit (.map (some b))))),.agg (encTm t)] [mapB b l] (ZfD g b t l):=by
 intro n
 induction n with
 | zero=>exact fun {t} h _ _ _ _=>absurd h om
 | succ n IH =>
 intro t hsz h60 hf l hM
 obtain ⟨hnode,hargs,_⟩:=Zbh.1 hf
 by_cases hop:t.op=-1
 ·have hv:ZbI g t:=hnode.resolve_right fun ⟨o,d,hA⟩=>by have:=hA.lo;omega
  have q1:(t.op < 0)=True:=eq_true om
  have hgk:=ZhR hg.sorts hv.2.2.1 hv.2.2.2.1
  have hgk:=ZaH hgk.1
  have e:=ZdO (g:=g) hop
  have ul:=ZaF (l:=up g.sorts)
  rw [(ZdT (SortsOk.subsIn hg.sorts.subs)).1] at ul
  have ur:=Zay (l:=up g.sorts)
  have i0:0<=t.sort:=hv.2.2.1
  have i1:(t.sort.toNat < g.sorts.names.length)=True:=eq_true (by have:=hv.2.2.2.1;omega)
  have hR:ZfD g b t l [.one (.lit (.int .i64 (upk g t.sort:Nat)))] [mapB b l]:=⟨l,by rw [e],rfl,hM,Grew.refl⟩
  clear IH hargs
  unfold nR at ul ur hgk
  refine gIP (ts:=[.slot 4]) [1000] 604463053930783360175611 Tryz.func116 ?_
  (have F:=ai @q1 (ai @i0 (ai @i1 (ai @ul (ai @ur (ai @hgk (ai @Zbd @tmz))))));refine gG ?_;clear F)
  exact (have F:=tmz;gTP (R:=ZfD g b t l) [1000] hR (hp:=rfl))
 have q1:(t.op < 0)=False:=eq_false (by
  obtain ⟨o,d,hA⟩:∃ o d,AppOk g t o d:=hnode.resolve_left fun hv=>hop hv.1
  have:=hA.lo;omega)
 obtain ⟨o,d,hA⟩:∃ o d,AppOk g t o d:=hnode.resolve_left fun hv=>hop hv.1
 have cK:=ZAB hg hf h60
 refine gIP (ts:=[.slot 4]) [1000] 604463053930783360175611 Tryz.func116 ?_
 (have F:=ai @q1 @tmz;have NN:Zag 3:=trivial;refine gGn ?_;clear F NN)
 refine gB ?_
 (have F:=@tmz;refine gC (cK) ?_;clear F)
 (have F:=@tmz;refine gR ?_;clear F)
 (have F:=@tmz;have NN:Zag 4:=trivial;refine gGn ?_;clear F NN)
 refine gB ?_
 (have F:=ai @Zbd @tmz;refine gP 5 ?_;clear F)
 cases hfs:ZbM l (keyS t) with
 | some v =>
  have hv:=hM t hf v hfs
  subst hv
  have hR:ZfD g b t l [.one (.lit (.int .i64 (sortsTm g t:Nat)))] [mapB b l]:=⟨l,rfl,rfl,hM,Grew.refl⟩
  refine (have F:=tmz;gLo 1000 Zgo ZdK ZAC (v:=.int .i64 (sortsTm g t:Nat)) (f:=true) (by rw [hfs];rfl) (by rw [hfs];rfl) ?_)
  (have F:=@tmz;refine gR ?_;clear F)
  (have F:=@tmz;refine gG ?_;clear F)
  exact (have F:=tmz;gTP (R:=ZfD g b t l) [1000] hR (hp:=rfl))
 | none =>
 refine (have F:=tmz;gLo 1000 Zgo ZdK ZAC (v:=.int .i64 0) (f:=false) (by rw [hfs];rfl) (by rw [hfs];rfl) ?_)
 have h7:=hA.len7 hg
 have hn0:nR []=[]:=rfl
 have ht0:t.args.take 0=[]:=rfl
 (have F:=@tmz;refine gR ?_;clear F)
 (have F:=@tmz;refine gG ?_;clear F)
 (have F:=ai @hn0 (ai @ht0 @tmz);refine gL (ι:=Nat × List (ByteArray × Value)) [8,10,41,42] [8,1000] (fun x=>[(41,A.d (.one (.lit (.int .i64 x.1)))),(8,.buf 8)]) (fun x=>[(8,.buf none 3 1 (nR ((t.args.take x.1).map (sortsTm g)))),(1000,mapB b x.2)]) (fun x=>x.1<=t.args.length∧Memo g x.2∧Grew g (sizeTm t - 1) l x.2) (fun x=>t.args.length - x.1) ((0,l)) (⟨Tai _,hM,Grew.refl⟩) (fun x hx=>?_);clear F)
 obtain ⟨i,l1⟩:=x
 obtain ⟨hi,hM1,hG1⟩:=hx
 simp only at hi hM1 hG1
 dsimp only
 have nl:=ZaF (l:=(t.args.take i).map (sortsTm g))
 rw [Tax,List.length_take_of_le hi] at nl
 have nr:=Zay (l:=(t.args.take i).map (sortsTm g))
 by_cases hil:i < t.args.length
 ·have q2:((i:Int) < (t.args.length:Int))=True:=eq_true om
  obtain ⟨a,hai⟩:∃ a,t.args[i]?=some a:=⟨_,Taa hil⟩
  have ham:=Tab hai
  have hs1:=ZaX t
  have hs2:=Zbb ham
  have cA:=IH (t:=a) om om (hargs a ham) l1 hM1
  have ns:=Zgl (l:=(t.args.take i).map (sortsTm g)) (sortsTm g a)
  rw [Zmj hai] at ns
  have hmx:(i+1<=maxApp)=True:=eq_true (by unfold maxApp;omega)
  have hw:=Zap (k:=i) om
  (have F:=ai @q2 (ai @hai (ai @Zas @tmz));have NN:Zag 11:=trivial;refine gGn ?_;clear F NN)
  refine gB ?_
  (have F:=ai @ZHo (ai @Zbd (ai @hai (ai @Zas @tmz)));refine gCP [1000] [1000] (hpn:=rfl) (cA) ?_;clear F)
  rintro r pm ⟨l2,rfl,rfl,hM2,hG2⟩
  simp only [setA,retA,zipM,Tae,Tag]
  (have F:=ai @nl (ai @nr (ai @ns (ai @hmx @tmz)));refine gR ?_;clear F)
  (have F:=ai @hw @tmz;refine gG ?_;exact ⟨(i+1,l2),⟨hil,hM2,hG1.trans (hG2.mono om)⟩,gw,gw,by omega⟩)
 obtain rfl:i=t.args.length:=by omega
 have q2:((t.args.length:Int) < (t.args.length:Int))=False:=eq_false om
 rw [Tao] at nl nr ⊢
 clear IH
 have h0:=hA.lo
 have ho:=hA.at'
 have e:=ZfB hop ho
 have hnone:ZbM l1 (keyS t)=none:=hG1 t hf (by have:=ZaX t;omega) hfs
 have hR:ZfD g b t l [.one (.lit (.int .i64 (sortsTm g t:Nat)))] [mapB b (l1++[(keyS t,.int .i64 (sortsTm g t:Nat))])]:=⟨_,rfl,rfl,hM1.snoc hg hf,(hG1.mono om).trans (Grew.snoc hg hf)⟩
 have hss:∀ s∈t.args.map (sortsTm g),s < 2 ^ g.sorts.names.length:=fun s hs=>by
  obtain ⟨a,ha,rfl⟩:=Tbi.1 hs
  exact Zek hg (hargs a ha).node
 have hsl:(t.args.map (sortsTm g)).length=t.args.length:=Tax _
 have h3:o.assoc=false->t.args.length<=3:=fun ha=>by
  rw [hA.nas ha]
  exact (hg.decls o (Tab ho)).ar d hA.fst
 have hD:=hA.dlen hg
 have h2:=Opr.deg2 hg ho
 have cR:=fun h1 h2=>ZhA (mc:=.lit (.map (some b))) hg h0 ho (t.args.map (sortsTm g)) h1 h2 hss
 have cA:=fun h1 h2 h3=>Zm7 (mc:=.lit (.map (some b))) hg h0 ho h1 h2 (t.args.map (sortsTm g)) h3 (by rw [hsl];exact h7) hss
 have cW:=fun h1 h2 h3=>Zm8 (mc:=.lit (.map (some b))) hg h0 ho h1 h2 (t.args.map (sortsTm g)) h3 (by rw [hsl];exact h7) hss
 have eR:=ZGo hg ho (sets:=t.args.map (sortsTm g))
 rw [hsl] at cR cA cW eR
 have eA:o.assoc=true->o.comm=true->bvN g (Rel2 g o) (t.args.map (sortsTm g)) (2 ^ t.args.length - 1)=sortsTm g t:=fun ha hc=>by
  rw [e]
  unfold bvN appS
  exact ZaZ fun b _=>by unfold AppB;rw [if_pos ha,if_pos hc,hsl]
 have eC:o.assoc=true->o.comm=false->cvN g o (t.args.map (sortsTm g)) 0 t.args.length=sortsTm g t:=fun ha hc=>by
  rw [e]
  unfold cvN appS
  exact ZaZ fun b _=>by unfold AppB;rw [if_pos ha,if_neg (by simp [hc]),hsl]
 rw [<- e] at eR
 clear hargs e hss
 by_cases hle:t.args.length<=2
 ·have q3:((t.args.length:Int)<=2)=True:=eq_true om
  have cR:=cR (by
   cases ha:o.assoc with
   | true=>exact fun f hf=>by rw [h2 (.inl ha) f hf];have:=(hA.asc ha).1;omega
   | false=>exact hD ha) om
  rw [eR fun ha=>by have:=(hA.asc ha).1;omega] at cR
  (have F:=ai @q2 (ai @q3 (ai @nl (ai @nr @tmz)));have NN:Zag 16:=trivial;refine gGn ?_;clear F NN)
  refine gB ?_
  (have F:=ai @Zbd @tmz;refine gC (cR) ?_;clear F)
  (have F:=@tmz;refine gR ?_;clear F)
  (have F:=@tmz;have NN:Zag 19:=trivial;refine gGn ?_;clear F NN)
  refine gB ?_
  (have F:=ai @Zbd @tmz;refine gP 6 ?_;clear F)
  refine (have F:=tmz;gUp 1000 Zgo ZdK hnone ?_)
  (have F:=@tmz;refine gR ?_;clear F)
  (have F:=@tmz;refine gG ?_;clear F)
  exact (have F:=tmz;gTP (R:=ZfD g b t l) [1000] hR (hp:=rfl))
 have q3:((t.args.length:Int)<=2)=False:=eq_false om
 cases ha:o.assoc with
 | false =>
  have cR:=cR (hD ha) (h3 ha)
  rw [eR fun ha'=>by rw [ha] at ha';cases ha'] at cR
  (have F:=ai @q2 (ai @q3 (ai @nl (ai @nr (ai @ha (ai @h0 (ai @ho (ai @Zbd (ai @Zaj @tmz))))))));have NN:Zag 16:=trivial;refine gGn ?_;clear F NN)
  refine gB ?_
  (have F:=ai @Zbd @tmz;refine gC (cR) ?_;clear F)
  (have F:=@tmz;refine gR ?_;clear F)
  (have F:=@tmz;have NN:Zag 19:=trivial;refine gGn ?_;clear F NN)
  refine gB ?_
  (have F:=ai @Zbd @tmz;refine gP 6 ?_;clear F)
  refine (have F:=tmz;gUp 1000 Zgo ZdK hnone ?_)
  (have F:=@tmz;refine gR ?_;clear F)
  (have F:=@tmz;refine gG ?_;clear F)
  exact (have F:=tmz;gTP (R:=ZfD g b t l) [1000] hR (hp:=rfl))
 | true =>
  have h1:1<=t.args.length:=by omega
  cases hc:o.comm with
  | true =>
   have cA:=cA ha hc h1
   rw [eA ha hc] at cA
   (have F:=ai @q2 (ai @q3 (ai @nl (ai @nr (ai @ha (ai @hc (ai @h0 (ai @ho (ai @Zbd (ai @Zaj @tmz)))))))));have NN:Zag 18:=trivial;refine gGn ?_;clear F NN)
   refine gB ?_
   (have F:=ai @Zbd @tmz;refine gC (cA) ?_;clear F)
   (have F:=@tmz;refine gR ?_;clear F)
   (have F:=@tmz;have NN:Zag 19:=trivial;refine gGn ?_;clear F NN)
   refine gB ?_
   (have F:=ai @Zbd @tmz;refine gP 6 ?_;clear F)
   refine (have F:=tmz;gUp 1000 Zgo ZdK hnone ?_)
   (have F:=@tmz;refine gR ?_;clear F)
   (have F:=@tmz;refine gG ?_;clear F)
   exact (have F:=tmz;gTP (R:=ZfD g b t l) [1000] hR (hp:=rfl))
  | false =>
   have cW:=cW ha hc h1
   rw [eC ha hc] at cW
   (have F:=ai @q2 (ai @q3 (ai @nl (ai @nr (ai @ha (ai @hc (ai @h0 (ai @ho (ai @Zbd (ai @Zaj @tmz)))))))));have NN:Zag 14:=trivial;refine gGn ?_;clear F NN)
   refine gB ?_
   (have F:=ai @Zbd @tmz;refine gC (cW) ?_;clear F)
   (have F:=@tmz;refine gR ?_;clear F)
   (have F:=@tmz;have NN:Zag 19:=trivial;refine gGn ?_;clear F NN)
   refine gB ?_
   (have F:=ai @Zbd @tmz;refine gP 6 ?_;clear F)
   refine (have F:=tmz;gUp 1000 Zgo ZdK hnone ?_)
   (have F:=@tmz;refine gR ?_;clear F)
   (have F:=@tmz;refine gG ?_;clear F)
   exact (have F:=tmz;gTP (R:=ZfD g b t l) [1000] hR (hp:=rfl))
end
section
variable {g:Sgn}
def RAlg (g:Sgn) (r:List D) (pm:List Bk):Prop:=∃ b:Nat,r=[.one (.ptr (encX g (.lit (.map (some b))))),.one (.lit (.bool true))]∧pm=[mapB b []]
theorem Zse (hok:Zdq g) (hg:SgnOk g):ConP e0 49 [.agg (Zav g)] [] (RAlg g):=by
 have hs:Zcb g=true:=Zf9 hg
 have c:=Zkt hok
 rw [hs,Zav] at c
 have c2:=Zjj hok.1 hg.sorts
 rw [Za6,Zd7] at c2
 rw [Zav]
 refine gIP (ts:=[.slot 2,.slot 3]) [] 287 Tryz.func49 ?_
 (have F:=@tmz;have NN:Zag 1:=trivial;refine gGn ?_;clear F NN)
 refine gB ?_
 (have F:=@tmz;refine gC (c) ?_;clear F)
 (have F:=@tmz;refine gR ?_;clear F)
 (have F:=@tmz;have NN:Zag 3:=trivial;refine gGn ?_;clear F NN)
 refine gB ?_
 (have F:=@tmz;refine gC (c2) ?_;clear F)
 (have F:=@tmz;refine gR ?_;clear F)
 (have F:=@tmz;have NN:Zag 4:=trivial;refine gGn ?_;clear F NN)
 refine gB ?_
 (have F:=@tmz;refine gP 2 ?_;clear F)
 refine gMk fun b=>?_
 (have F:=@tmz;refine gR ?_;clear F)
 refine ZcF (Zd1 [19] (by simp only [pz,↓reduceIte,Nat.reduceEqDiff,Nat.reduceAdd,Nat.reduceSub,Nat.reduceMul,Nat.reduceLeDiff,Nat.reduceBEq,Tal,decide_true,decide_false,Int.reduceLE,Int.reduceToNat,Int.reduceLT,Int.reduceEq,eq_self,Nat.reduceShiftRight,Nat.reduceAnd,Nat.reduceBneDiff,tmz];exact rfl)) fun σ' hσ=>?_
 subst hσ
 exact (have F:=tmz;gTP (R:=RAlg g) [17] ⟨b,rfl,rfl⟩ (hp:=rfl))
end
section
variable {g:Sgn} {l:List Bd}
theorem ZbI.term {t:Tm} (h:ZbI g t):TermOk g t:=by
 have ha0:t.args=[]:=h.2.2.2.2
 have hf:ZaO g t:=Zbh.2 ⟨.inl h,(by rw [ha0];intro a ha;cases ha),.inl h.1⟩
 have h1:=ZaX t
 rw [ha0,ZnT] at h1
 have h2:=ZlW t
 exact ⟨by omega,by omega,hf⟩
theorem TermOk.var {t:Tm} (h:TermOk g t) (ho:t.op=-1):ZbI g t:=h.form.node.resolve_right fun ⟨o,d,hA⟩=>by have:=hA.lo;omega
theorem bd_l:∀ (b:Bd),(Zb2 b).length=8:=fun b=>by simp [Zb2,tmz]
theorem ZFK:∀ (b:Bd),(Zb2 b).take 8=Zb2 b:=fun b=>List.take_of_length_le (by rw [bd_l];omega)
theorem ZFL:∀ (b:Bd),(Zb2 b).drop 8=[]:=fun b=>List.drop_eq_nil_of_le (by rw [bd_l];omega)
theorem ZFM:∀ (b:Bd),(Zb2 b).take 4=encTm b.var:=fun ⟨v,t⟩=>by cases v;simp [Zb2,encTm]
theorem ZFN:∀ (b:Bd),(Zb2 b).drop 4=encTm b.to:=fun ⟨v,t⟩=>by cases v;simp [Zb2,encTm]
theorem ZFO:∀ (b:Bd),(Zb2 b).drop 2=.lit (.int .i64 b.var.sort)::.sl (Zab b.var.args)::encTm b.to:=fun ⟨v,t⟩=>by cases v;simp [Zb2,encTm,Tm.sort,Tm.args]
theorem bd_o:∀ (b:Bd),valT TK.one (Zb2 b)=some (A.d (D.one (C.lit (Value.int IntKind.i64 b.var.op)))):=fun ⟨v,t⟩=>by cases v;simp [Zb2,encTm,Tm.op,valT]
theorem bd_k:∀ (b:Bd),(Zb2 b).all ZaE=true:=fun b=>by simp [Zb2,List.all_append,tmz]
theorem bdz:type_of% (ai bd_l (ai ZFK (ai ZFL (ai ZFM (ai ZFN (ai ZFO (ai bd_o bd_k))))))):=ai bd_l (ai ZFK (ai ZFL (ai ZFM (ai ZFN (ai ZFO (ai bd_o bd_k))))))
end
structure RenAt (g:Sgn) (y:Bd):Prop where
 var:ZbI g y.var
 to':ZbI g y.to
 kd':kd g.sorts y.to.sort=kd g.sorts y.var.sort
def Zke (g:Sgn) (l:List Bd):Prop:=∀ y∈l,RenAt g y
theorem Zir:∀ {l:List Bd} {v u:Tm},Zbu l v=some u->∃ y∈l,y.var=v∧y.to=u
 | b::l,v,u,h=>by
  simp only [Zbu] at h
  split at h
  ·rename_i e
   injection h with h
   exact ⟨b,Tar,ZeO.1 e,h⟩
  ·obtain ⟨y,hy,h⟩:=Zir h
   exact ⟨y,Tak _ hy,h⟩
theorem Zod {o:Opr} {op:Int}:∀ {us:List Tm},(∀ b∈us,(o.assoc=true->b.op≠op)∧(o.unit≠0->b.op≠o.unit - 1))->Zar o op us=us
 | [],_=>rfl
 | b::us,h=>by
  have h1:=h b Tar
  rw [Zar,List.flatMap_cons,show us.flatMap (Zbs o op)=us from Zod fun b hb=>h b (Tak _ hb),Zbs,if_neg fun e=>h1.1 e.1 e.2,if_neg fun e=>h1.2 e.1 e.2]
  rfl
theorem ZqH {g:Sgn} {l:List Bd} (hR:Zke g l) {t:Tm} (ht:t.op=-1):((Zbu l t).getD t).op=-1∧ZaS g ((Zbu l t).getD t)=ZaS g t:=by
 cases h:Zbu l t with
 | none=>exact ⟨ht,rfl⟩
 | some u =>
  obtain ⟨y,hy,rfl,rfl⟩:=Zir h
  have:=hR y hy
  refine ⟨this.to'.1,?_⟩
  show ZaS g y.to=_
  unfold ZaS
  rw [if_pos this.to'.1,if_pos this.var.1,this.kd']
structure RenTo (g:Sgn) (l:List Bd) (t u:Tm):Prop where
 size:sizeTm u=sizeTm t
 depth:depthTm u=depthTm t
 kind:ZaS g u=ZaS g t
 op:u.op=t.op
 args:t.op≠-1->∃ o us,g.ops[t.op.toNat]?=some o∧apTs g l t.args=some us∧u.args=srtO o us∧(o.comm=true->o.assoc=false->us.length=2)
theorem ZqI {g:Sgn} {l:List Bd}:∀ {ts:List Tm},(∀ a∈ts,∃ u,apT g l a=some u∧RenTo g l a u)->∃ us,apTs g l ts=some us∧sizeTms us=sizeTms ts∧depthTms us=depthTms ts∧∀ (i:Nat) b,us[i]?=some b->∃ a,ts[i]?=some a∧apT g l a=some b∧RenTo g l a b
 | [],_=>⟨[],by simp only [apTs],rfl,rfl,fun i b h=>by simp at h⟩
 | t::ts,h=>by
  obtain ⟨u,h1,h2⟩:=h t Tar
  obtain ⟨us,h3,h4,h5,h6⟩:=ZqI (ts:=ts) fun a ha=>h a (Tak _ ha)
  refine ⟨u::us,by simp only [apTs,h1,h3,Option.bind_some,Option.map_some],by simp only [sizeTms,h2.size,h4],by simp only [depthTms,h2.depth,h5],fun i b hb=>?_⟩
  cases i with
  | zero =>
   simp only [Tas,Tap] at hb
   subst hb
   exact ⟨t,rfl,h1,h2⟩
  | succ i=>exact h6 i b (by simpa using hb)
theorem ZeJ {g:Sgn} (hg:SgnOk g) {l:List Bd} (hR:Zke g l):∀ (n:Nat) (t:Tm),sizeTm t < n->TermOk g t->∃ u,apT g l t=some u∧RenTo g l t u
 | 0,t,hn,_=>by omega
 | n+1,t,hn,ht=>by
  by_cases hv:t.op=-1
  ·have hV:ZbI g t:=by
    rcases ht.form.node with h | ⟨o,d,h⟩
    ·exact h
    ·have:=h.lo;omega
   have ha0:t.args=[]:=hV.2.2.2.2
   have h1:=ZqH hR hv
   refine ⟨_,Zgn hv,?_,?_,h1.2,by rw [h1.1,hv],fun h=>absurd hv h⟩
   ·rw [ZaX,ZaX t,ha0]
    cases h:Zbu l t with
    | none=>simp only [Option.getD_none,ha0]
    | some u =>
     obtain ⟨y,hy,_,rfl⟩:=Zir h
     simp only [Option.getD_some,(hR y hy).to'.2.2.2.2]
   ·rw [Zde,Zde t,ha0]
    cases h:Zbu l t with
    | none=>simp only [Option.getD_none,ha0]
    | some u =>
     obtain ⟨y,hy,_,rfl⟩:=Zir h
     simp only [Option.getD_some,(hR y hy).to'.2.2.2.2]
  ·obtain ⟨o,d,hA⟩:∃ o d,AppOk g t o d:=by
    rcases ht.form.node with h | h
    ·exact absurd h.1 hv
    ·exact h
   have hRt:ZhN g t.op t.args:=(Zbh.1 ht.form).2.2.resolve_left hv
   have hs:=hn
   rw [ZaX] at hs
   obtain ⟨us,h1,h2,h3,h4⟩:=ZqI (g:=g) (l:=l) (ts:=t.args) fun a ha=>by
    have:=Zbb ha
    exact ZeJ hg hR n a om (ht.arg ha)
   have hl:us.length=t.args.length:=Zim h1
   have hdeg:=fun h=>Opr.deg2 hg hA.at' h d (Tab hA.fst)
   have hfl:Zar o t.op us=us:=Zod fun b hb=>by
    obtain ⟨i,hi⟩:=Tbk hb
    obtain ⟨a,ha,_,hab⟩:=h4 i b hi
    have hArg:=hRt o d hA.at' hA.fst i a ha
    rw [hab.op]
    exact ⟨hArg.nest,hArg.unit⟩
   have hS:sizeTms (srtO o us)=sizeTms t.args:=by rw [ZgO (Zd8 o us),h2]
   have hD:depthTms (srtO o us)=depthTms t.args:=by rw [ZfV (Zd8 o us),h3]
   have hS':sizeTm (appT t.op (srtO o us))=sizeTm t:=by rw [ZaX,ZaX t];exact congrArg (1+·) hS
   have hD':depthTm (appT t.op (srtO o us))=depthTm t:=by rw [Zde,Zde t];exact congrArg (1+·) hD
   refine ⟨appT t.op (srtO o us),?_,hS',hD',?_,rfl,fun _=>⟨o,us,hA.at',h1,rfl,fun hc ha=>by rw [hl,hA.nas ha];exact hdeg (.inr (.inl hc))⟩⟩
   ·rw [Zfk hv,h1,Option.bind_some,Zqn hA.at' hA.fst,mkO,hfl,if_neg,if_pos,mkL,if_neg,if_neg]
    ·rintro (⟨ha,hb⟩ | hb | hb)
     ·rw [ZkY,hl] at hb
      have:=(hA.asc ha).2;omega
     ·rw [hS'] at hb;have:=ht.size;omega
     ·rw [hD'] at hb;have:=ht.depth;omega
    ·rintro ⟨hu,hb⟩
     rw [hl] at hb
     cases ha:o.assoc with
     | true=>have:=(hA.asc ha).1;omega
     | false =>
      have:=hA.nas ha
      have:=hdeg (.inr (.inr hu));omega
    ·intro i b hb
     obtain ⟨a,ha,_,hab⟩:=h4 i b hb
     have hArg:=hRt o d hA.at' hA.fst i a ha
     have hil:=(Tac.1 ha).1
     have hlt:argAt o i < d.args.length:=by
      unfold argAt
      cases has:o.assoc with
      | true=>rw [if_pos rfl,hdeg (.inl has)];omega
      | false=>rw [if_neg (by simp),<- hA.nas has];exact hil
     exact ⟨_,Taa hlt,by rw [hab.kind];exact hArg.kind _ (Taa hlt)⟩
    ·rintro (⟨ha,hb⟩ | ⟨ha,hb⟩)
     ·rw [hl] at hb;have:=(hA.asc ha).1;omega
     ·rw [hl] at hb;exact hb (hA.nas ha)
   ·unfold ZaS
    rw [if_neg hv,if_neg (show (appT t.op (srtO o us)).op≠-1 from hv)]
    rfl
mutual
noncomputable def sV (g:Sgn) (ρ:Tm->Nat):Tm->Nat
 | .mk op nm so args=>if op=-1 then ρ (.mk op nm so args) else match g.ops[op.toNat]? with
  | none=>0
  | some o=>appS g o (sVs g ρ args)
noncomputable def sVs (g:Sgn) (ρ:Tm->Nat):List Tm->List Nat
 | []=>[]
 | t::ts=>sV g ρ t::sVs g ρ ts
end
theorem Zu2 (g:Sgn) (ρ:Tm->Nat):∀ (l:List Tm),sVs g ρ l=l.map (sV g ρ)
 | []=>rfl
 | t::ts=>by simp only [sVs,Tbv,Zu2 g ρ ts]
theorem ZqJ {g:Sgn} {ρ:Tm->Nat} {t:Tm} (h:t.op=-1):sV g ρ t=ρ t:=by
 obtain ⟨op,nm,so,args⟩:=t
 simp only [Tm.op] at h
 simp only [sV,if_pos h]
theorem ZqK {g:Sgn} {ρ:Tm->Nat} {t:Tm} {o:Opr} (h:t.op≠-1) (ho:g.ops[t.op.toNat]?=some o):sV g ρ t=appS g o (t.args.map (sV g ρ)):=by
 obtain ⟨op,nm,so,args⟩:=t
 simp only [Tm.op] at h ho
 simp only [sV,if_neg h,ho,Tm.args,Zu2]
theorem Zis {g:Sgn}:∀ (n:Nat) (t:Tm),sizeTm t < n->sortsTm g t=sV g (fun v=>upk g v.sort) t
 | 0,t,hn=>by omega
 | n+1,t,hn=>by
  by_cases hv:t.op=-1
  ·rw [ZdO hv,ZqJ hv]
  ·cases ho:g.ops[t.op.toNat]? with
   | none =>
    obtain ⟨op,nm,so,args⟩:=t
    simp only [Tm.op] at hv ho
    simp only [sortsTm,sV,if_neg hv,ho]
   | some o =>
    rw [ZfB hv ho,ZqK hv ho]
    congr 1
    refine List.map_congr_left fun a ha=>Zis n a ?_
    have:=Zbb ha
    rw [ZaX] at hn
    omega
theorem Zo7 {g:Sgn} (hg:SgnOk g) {l:List Bd} (hR:Zke g l) (ρ:Tm->Nat):∀ (n:Nat) (t u:Tm),sizeTm t < n->TermOk g t->apT g l t=some u->sV g ρ u=sV g (fun v=>ρ ((Zbu l v).getD v)) t
 | 0,t,_,hn,_,_=>by omega
 | n+1,t,u,hn,ht,hu=>by
  obtain ⟨u',h1,h2⟩:=ZeJ hg hR _ t (Tam _) ht
  rw [h1] at hu
  injection hu with hu
  subst hu
  by_cases hv:t.op=-1
  ·rw [Zgn hv] at h1
   injection h1 with h1
   rw [<- h1,ZqJ (ZqH hR hv).1,ZqJ hv]
  ·obtain ⟨o,us,ho,h3,h4,h5⟩:=h2.args hv
   rw [ZqK (by rw [h2.op];exact hv) (by rw [h2.op];exact ho),ZqK hv ho,h4,ZB9 (sV g ρ) h5]
   congr 1
   have hs:=hn
   rw [ZaX] at hs
   have key:∀ (ts us:List Tm),apTs g l ts=some us->(∀ a∈ts,sizeTm a < n∧TermOk g a)->us.map (sV g ρ)=ts.map (sV g fun v=>ρ ((Zbu l v).getD v)):=fun ts=>by
    induction ts with
    | nil=>intro us h _;simp only [apTs,Tap] at h;subst h;rfl
    | cons x ts ih =>
     intro us h hall
     simp only [apTs] at h
     cases h6:apT g l x with
     | none=>rw [h6] at h;cases h
     | some v =>
      rw [h6] at h
      cases h7:apTs g l ts with
      | none=>rw [h7] at h;cases h
      | some vs =>
       rw [h7] at h
       simp only [Option.bind_some,Option.map_some,Tap] at h
       subst h
       have hx:=hall x Tar
       rw [Tbv,Tbv,Zo7 hg hR ρ n x v hx.1 hx.2 h6,ih vs h7 fun a ha=>hall a (Tak _ ha)]
   exact key _ _ h3 fun a ha=>⟨by have:=Zbb ha;omega,ht.arg ha⟩
def vr (v:Tm) (k:Nat):Tm:=.mk (-1) v.name k []
def SubN (a b:Nat):Prop:=∀ i,a.testBit i=true->b.testBit i=true
def Low (g:Sgn) (v:Tm) (k:Nat):Prop:=k < g.sorts.names.length∧(upk g k).testBit v.sort.toNat=true
def Fit (g:Sgn):List Tm->List Nat->Prop
 | [],[]=>True
 | v::vs,k::ks=>Low g v k∧Fit g vs ks
 | _,_=>False
open Classical in
noncomputable def asg (g:Sgn):List Tm->List Nat->Tm->Nat
 | v::vs,k::ks,w=>if w=v then upk g k else asg g vs ks w
 | _,_,w=>upk g w.sort
def zb:List Tm->List Nat->List Bd
 | v::vs,k::ks=>⟨v,vr v k⟩::zb vs ks
 | _,_=>[]
def lowP (g:Sgn):List Tm->Tm->Tm->Prop
 | [],l,r=>SubN (sortsTm g l) (sortsTm g r)
 | v::vs,l,r=>∀ k,Low g v k->∃ x y,apT g [⟨v,vr v k⟩] l=some x∧apT g [⟨v,vr v k⟩] r=some y∧lowP g vs x y
def Desc (g:Sgn) (vs:List Tm) (l r:Tm):Prop:=∀ ks,Fit g vs ks->SubN (sV g (asg g vs ks) l) (sV g (asg g vs ks) r)
theorem Low.var {g:Sgn} (hg:SgnOk g) {v:Tm} {k:Nat} (hv:ZbI g v) (h:Low g v k):RenAt g ⟨v,vr v k⟩:=by
 refine ⟨hv,⟨rfl,hv.2.1,Int.natCast_nonneg k,by exact Int.ofNat_lt.2 h.1,rfl⟩,?_⟩
 exact ZHN hg.sorts (Int.natCast_nonneg k) (Int.ofNat_lt.2 h.1) hv.2.2.1 hv.2.2.2.1 h.2
theorem Zu3 {g:Sgn}:∀ {vs:List Tm} (ks:List Nat) {w:Tm},(∀ x∈vs,x.name≠w.name)->asg g vs ks w=upk g w.sort
 | [],ks,w,h=>by cases ks <;> rfl
 | v::vs,[],w,h=>rfl
 | v::vs,k::ks,w,h=>by
  rw [asg,if_neg (fun e=>h v Tar (by rw [e])),Zu3 ks fun x hx=>h x (Tak _ hx)]
theorem Zk3 {g:Sgn} (hg:SgnOk g):∀ {vs:List Tm},(∀ v∈vs,ZbI g v)->vs.Pairwise (fun a b=>a.name≠b.name)->∀ {l r:Tm},TermOk g l->TermOk g r->(lowP g vs l r ↔ Desc g vs l r)
 | [],_,_,l,r,hl,hr=>by
  have e:∀ ks,asg g [] ks=fun v=>upk g v.sort:=fun ks=>by funext w;cases ks <;> rfl
  unfold lowP Desc
  rw [Zis _ l (Tam _),Zis _ r (Tam _)]
  constructor
  ·intro h ks _;rw [e];exact h
  ·intro h;have:=h [] trivial;rw [e] at this;exact this
 | v::vs,hv,hp,l,r,hl,hr=>by
  have hp':=List.pairwise_cons.1 hp
  have hv0:=hv v Tar
  have hb:∀ k,Low g v k->Zke g [⟨v,vr v k⟩]:=fun k h y hy=>by
   rw [Tbj.1 hy];exact h.var hg hv0
  have e:∀ k ks,(fun w=>asg g vs ks ((Zbu [⟨v,vr v k⟩] w).getD w))=asg g (v::vs) (k::ks):=fun k ks=>by
   funext w
   simp only [Zbu,asg]
   by_cases h:w=v
   ·subst h
    rw [if_pos (Zdf _),if_pos rfl]
    exact Zu3 ks fun x hx=>(hp'.1 x hx).symm
   ·rw [if_neg (fun h'=>h (ZeO.1 h').symm),if_neg h];rfl
  have key:∀ k,Low g v k->∃ x y,apT g [⟨v,vr v k⟩] l=some x∧apT g [⟨v,vr v k⟩] r=some y∧TermOk g x∧TermOk g y∧∀ ks,sV g (asg g vs ks) x=sV g (asg g (v::vs) (k::ks)) l∧sV g (asg g vs ks) y=sV g (asg g (v::vs) (k::ks)) r:=fun k hk=>by
   obtain ⟨x,hx,_⟩:=ZeJ hg (hb k hk) _ l (Tam _) hl
   obtain ⟨y,hy,_⟩:=ZeJ hg (hb k hk) _ r (Tam _) hr
   have ht:∀ z∈[(⟨v,vr v k⟩:Bd)],TermOk g z.to:=fun z hz=>(hb k hk z hz).to'.term
   refine ⟨x,y,hx,hy,ZfQ hg ht _ l (Tam _) hl hx,ZfQ hg ht _ r (Tam _) hr hy,fun ks=>?_⟩
   rw [Zo7 hg (hb k hk) _ _ l x (Tam _) hl hx,Zo7 hg (hb k hk) _ _ r y (Tam _) hr hy,e]
   exact ⟨rfl,rfl⟩
  have ih:=fun {x y} (hx:TermOk g x) (hy:TermOk g y)=>Zk3 hg (vs:=vs) (fun w hw=>hv w (Tak _ hw)) hp'.2 hx hy
  constructor
  ·intro h ks hf
   match ks,hf with
   | k::ks,hf =>
    obtain ⟨x,y,hx,hy,h1,h2,h3⟩:=key k hf.1
    obtain ⟨x',y',hx',hy',h4⟩:=h k hf.1
    rw [hx] at hx';rw [hy] at hy'
    injection hx' with hx';injection hy' with hy'
    subst hx' hy'
    have:=(ih h1 h2).1 h4 ks hf.2
    rw [(h3 ks).1,(h3 ks).2] at this
    exact this
  ·intro h k hk
   obtain ⟨x,y,hx,hy,h1,h2,h3⟩:=key k hk
   refine ⟨x,y,hx,hy,(ih h1 h2).2 fun ks hf=>?_⟩
   rw [(h3 ks).1,(h3 ks).2]
   exact h (k::ks) ⟨hk,hf⟩
theorem ZAH {g:Sgn} (hg:SgnOk g):∀ {vs:List Tm} {ks:List Nat},(∀ v∈vs,ZbI g v)->Fit g vs ks->Zke g (zb vs ks)
 | [],ks,_,_,y,hy=>by cases ks <;> cases hy
 | v::vs,[],_,_,y,hy=>by cases hy
 | v::vs,k::ks,hv,hf,y,hy=>by
  rcases Tbg.1 hy with rfl | hy
  ·exact hf.1.var hg (hv v Tar)
  ·exact ZAH hg (fun w hw=>hv w (Tak _ hw)) hf.2 y hy
theorem Zu4 {g:Sgn}:∀ (vs:List Tm) (ks:List Nat) (w:Tm),upk g ((Zbu (zb vs ks) w).getD w).sort=asg g vs ks w
 | [],ks,w=>by cases ks <;> rfl
 | v::vs,[],w=>rfl
 | v::vs,k::ks,w=>by
  simp only [zb,Zbu,asg]
  by_cases h:w=v
  ·subst h;rw [if_pos (Zdf _),if_pos rfl];rfl
  ·rw [if_neg (fun h'=>h (ZeO.1 h').symm),if_neg h];exact Zu4 vs ks w
theorem ZqL {g:Sgn} (hg:SgnOk g) {vs:List Tm} {ks:List Nat} (hv:∀ v∈vs,ZbI g v) (hf:Fit g vs ks) {t:Tm} (ht:TermOk g t):∃ u,apT g (zb vs ks) t=some u∧TermOk g u∧sortsTm g u=sV g (asg g vs ks) t:=by
 have hR:=ZAH hg hv hf
 obtain ⟨u,hu,_⟩:=ZeJ hg hR _ t (Tam _) ht
 refine ⟨u,hu,ZfQ hg (fun y hy=>(hR y hy).to'.term) _ t (Tam _) ht hu,?_⟩
 rw [Zis _ u (Tam _),Zo7 hg hR _ _ t u (Tam _) ht hu]
 congr 1
 funext w
 exact Zu4 vs ks w
theorem Zmk:∀ {vs:List Tm} {ks:List Nat},vs.length=ks.length->(zb vs ks).length=vs.length
 | [],ks,_=>by cases ks <;> rfl
 | v::vs,k::ks,h=>by rw [zb,Taf,Zmk (by simpa using h),Taf]
theorem ZqM:∀ {vs:List Tm} {ks:List Nat} {i:Nat} {v:Tm} {k:Nat},vs[i]?=some v->ks[i]?=some k->(zb vs ks)[i]?=some ⟨v,vr v k⟩
 | v::vs,k::ks,0,w,m,h1,h2=>by
  simp only [Tas,Tap] at h1 h2
  subst h1 h2;rfl
 | v::vs,k::ks,i+1,w,m,h1,h2=>ZqM (vs:=vs) (ks:=ks) (i:=i) (by simpa using h1) (by simpa using h2)
theorem ZGE {vs:List Tm} {ks:List Nat} {i:Nat} {v:Tm} {k:Nat} (h1:vs[i]?=some v) (h2:ks[i]?=some k):zb (vs.take (i+1)) (ks.take (i+1))=zb (vs.take i) (ks.take i)++[⟨v,vr v k⟩]:=by
 induction i generalizing vs ks with
 | zero =>
  match vs,ks,h1,h2 with
  | v::vs,k::ks,h1,h2 =>
   simp only [Tas,Tap] at h1 h2
   subst h1 h2;simp [zb]
 | succ i ih =>
  match vs,ks,h1,h2 with
  | x::vs,y::ks,h1,h2 =>
   have:=ih (vs:=vs) (ks:=ks) (by simpa using h1) (by simpa using h2)
   rw [Tbc,Tbc,Tbc,Tbc,zb,zb,this];rfl
theorem Zkf {g:Sgn}:∀ {vs:List Tm} {ks:List Nat},Fit g vs ks ↔ vs.length=ks.length∧∀ (i:Nat) v k,vs[i]?=some v->ks[i]?=some k->Low g v k
 | [],[]=>⟨fun _=>⟨rfl,fun i v k h=>by simp at h⟩,fun _=>trivial⟩
 | [],k::ks=>⟨fun h=>h.elim,fun h=>by simp at h⟩
 | v::vs,[]=>⟨fun h=>h.elim,fun h=>by simp at h⟩
 | v::vs,k::ks=>by
  rw [Fit,Zkf (vs:=vs) (ks:=ks)]
  constructor
  ·rintro ⟨h1,h2,h3⟩
   refine ⟨by simp [h2],fun i w m hw hm=>?_⟩
   cases i with
   | zero =>
    simp only [Tas,Tap] at hw hm
    subst hw hm;exact h1
   | succ i=>exact h3 i w m (by simpa using hw) (by simpa using hm)
  ·rintro ⟨h1,h2⟩
   exact ⟨h2 0 v k rfl rfl,by simpa using h1,fun i w m hw hm=>h2 (i+1) w m (by simpa using hw) (by simpa using hm)⟩
def val (n:Nat):List Nat->Nat
 | []=>0
 | d::c=>d * n ^ c.length+val n c
def Dig (n:Nat) (c:List Nat):Prop:=∀ d∈c,d < n
theorem ZjC {n:Nat}:∀ {c:List Nat},Dig n c->val n c < n ^ c.length
 | [],_=>by simp [val]
 | d::c,h=>by
  have h1:=ZjC (c:=c) fun x hx=>h x (Tak _ hx)
  have h2:=h d Tar
  have h3:(d+1) * n ^ c.length<=n * n ^ c.length:=Nat.mul_le_mul_right _ h2
  rw [Nat.succ_mul] at h3
  rw [val,Taf,Nat.pow_succ,Nat.mul_comm (n ^ c.length)]
  omega
theorem Zm9 {n:Nat}:∀ {c c':List Nat},c.length=c'.length->Dig n c->Dig n c'->val n c=val n c'->c=c'
 | [],[],_,_,_,_=>rfl
 | d::c,d'::c',hl,h,h',e=>by
  have hl':c.length=c'.length:=by simpa using hl
  have h1:=ZjC (c:=c) fun x hx=>h x (Tak _ hx)
  have h2:=ZjC (c:=c') fun x hx=>h' x (Tak _ hx)
  rw [val,val,hl'] at e
  rw [hl'] at h1
  have hd:d=d':=by
   rcases Nat.lt_trichotomy d d' with h | h | h
   ·have:(d+1) * n ^ c'.length<=d' * n ^ c'.length:=Nat.mul_le_mul_right _ h
    rw [Nat.succ_mul] at this;omega
   ·exact h
   ·have:(d'+1) * n ^ c'.length<=d * n ^ c'.length:=Nat.mul_le_mul_right _ h
    rw [Nat.succ_mul] at this;omega
  subst hd
  rw [Zm9 hl' (fun x hx=>h x (Tak _ hx)) (fun x hx=>h' x (Tak _ hx)) om]
def nxt (n:Nat):List Nat->List Nat × Bool
 | []=>([],false)
 | d::c=>if (nxt n c).2=true then (d::(nxt n c).1,true) else if d+1 < n then ((d+1)::(nxt n c).1,true) else (0::(nxt n c).1,false)
theorem ZAI {n:Nat} (hn:0 < n):∀ {c:List Nat},Dig n c->(nxt n c).1.length=c.length∧Dig n (nxt n c).1∧((nxt n c).2=true->val n (nxt n c).1=val n c+1)∧((nxt n c).2=false->val n c+1=n ^ c.length∧val n (nxt n c).1=0)
 | [],h=>⟨rfl,h,fun h=>by simp [nxt] at h,fun _=>⟨rfl,rfl⟩⟩
 | d::c,h=>by
  obtain ⟨h1,h2,h3,h4⟩:=ZAI hn (c:=c) fun x hx=>h x (Tak _ hx)
  have hd:=h d Tar
  rw [nxt]
  split
  ·rename_i e
   refine ⟨by simp [h1],?_,fun _=>?_,fun h=>by simp at h⟩
   ·intro x hx
    rcases Tbg.1 hx with rfl | hx
    ·exact hd
    ·exact h2 x hx
   ·simp only [val,h1,h3 e];omega
  ·rename_i e
   have h5:=h4 (by simpa using e)
   split
   ·rename_i e2
    refine ⟨by simp [h1],?_,fun _=>?_,fun h=>by simp at h⟩
    ·intro x hx
     rcases Tbg.1 hx with rfl | hx
     ·exact e2
     ·exact h2 x hx
    ·simp only [val,h1,h5.2,Nat.succ_mul];omega
   ·rename_i e2
    refine ⟨by simp [h1],?_,(fun h=>by simp at h),fun _=>⟨?_,?_⟩⟩
    ·intro x hx
     rcases Tbg.1 hx with rfl | hx
     ·exact hn
     ·exact h2 x hx
    ·have e3:n=d+1:=by omega
     rw [val,Taf,Nat.pow_succ,Nat.mul_comm (n ^ c.length)]
     have:n * n ^ c.length=d * n ^ c.length+n ^ c.length:=by
      conv=>lhs;rw [e3,Nat.succ_mul]
      rw [<- e3]
     omega
    ·simp only [val,h5.2];omega
def AllC (n m:Nat) (P:List Nat->Prop):Prop:=∀ ks,ks.length=m->Dig n ks->P ks
def BefC (n m:Nat) (P:List Nat->Prop) (c:List Nat):Prop:=∀ ks,ks.length=m->Dig n ks->val n ks < val n c->P ks
theorem ZCn {n m:Nat} {P:List Nat->Prop} {c c':List Nat} (h:BefC n m P c) (hl:c.length=m) (hc:Dig n c) (hP:P c) (he:val n c'=val n c+1):BefC n m P c':=fun ks h1 h2 h3=>by
 by_cases e:val n ks=val n c
 ·rw [Zm9 (by rw [h1,hl]) h2 hc e];exact hP
 ·exact h ks h1 h2 om
theorem ZGF {n m:Nat} {P:List Nat->Prop} {c:List Nat} (h:BefC n m P c) (hl:c.length=m) (hc:Dig n c) (hP:P c) (he:val n c+1=n ^ c.length):AllC n m P:=fun ks h1 h2=>by
 by_cases e:val n ks=val n c
 ·rw [Zm9 (by rw [h1,hl]) h2 hc e];exact hP
 ·have:=ZjC h2
  rw [h1,<- hl,<- he] at this
  exact h ks h1 h2 om
def OneC (g:Sgn) (vs:List Tm) (l r:Tm) (ks:List Nat):Prop:=Fit g vs ks->SubN (sV g (asg g vs ks) l) (sV g (asg g vs ks) r)
theorem Fit.dig {g:Sgn}:∀ {vs:List Tm} {ks:List Nat},Fit g vs ks->ks.length=vs.length∧Dig g.sorts.names.length ks
 | [],[],_=>⟨rfl,fun d h=>by cases h⟩
 | v::vs,k::ks,h=>by
  have:=Fit.dig (vs:=vs) h.2
  refine ⟨by simp [this.1],fun d hd=>?_⟩
  rcases Tbg.1 hd with rfl | hd
  ·exact h.1.1
  ·exact this.2 d hd
theorem ZCo {g:Sgn} {vs:List Tm} {l r:Tm}:Desc g vs l r ↔ AllC g.sorts.names.length vs.length (OneC g vs l r) :=
 ⟨fun h ks _ _ hf=>h ks hf,fun h ks hf=>h ks hf.dig.1 hf.dig.2 hf⟩
end Go.Proofs.YtffmjghcpgpfpaaGreatDoor
namespace Go.Proofs.YtffmjghcpgpfpaaGreatDoor
open Go.RowKit
open Go.Sort (grow HoldsK putRowK flatK SWO PermIn SortedIn Holds mapBlock onCells putRow putCells get_flatK size_flatK)
theorem ZAJ {w w':World} (h:Kept True (fun _=>False) w.heap.size w w'):∃ q os,w'=grow (w.drewN q) os:=by
 obtain ⟨p,hp⟩:=regrown_of_below (w:=w) (w':=w') ⟨h.os,h.tape,h.output,h.size,fun k hk=>h.block k hk id⟩
 have hd:=h.drawn trivial
 have e:p.d=w'.drawn:=by rw [hp];rfl
 refine ⟨w'.drawn - w.drawn,p.os,?_⟩
 have e2:redrawn w p.d=w.drewN (w'.drawn - w.drawn):=by
  unfold redrawn World.drewN
  rw [e,show w.drawn+(w'.drawn - w.drawn)=w'.drawn by omega]
 rw [<- e2]
 exact hp
abbrev SRow (w:World) (S:Nat->Prop) (Q:List C->Prop):={x:List C × List Value // Q x.1∧Zaa w S x.1 x.2}
theorem ZqN {w:World} {S:Nat->Prop} {b k:Nat} {Q:List C->Prop} (hk:∀ r,Q r->r.length=k):∀ (rows:List (List C)) (off:Nat),(∀ r∈rows,Q r)->Zan w S b off rows->∃ l:List (SRow w S Q),l.map (fun x=>x.1.1)=rows∧∀ (i:Nat) x,l[i]?=some x->∀ j u,x.1.2[j]?=some u->w.cell? ⟨b,off+i * k+j,none⟩=some u
 | [],off,_,_=>⟨[],rfl,fun i x h=>by simp at h⟩
 | r::rs,off,hQ,h=>by
  simp only [Zan] at h
  obtain ⟨vs,h1,h2⟩:=h.1.vals
  obtain ⟨l,e,hl⟩:=ZqN hk rs (off+r.length) (fun x hx=>hQ x (Tak _ hx)) h.2
  have hr:=hQ r Tar
  refine ⟨⟨(r,vs),hr,h1⟩::l,by simp [e],fun i x hi j u hj=>?_⟩
  cases i with
  | zero =>
   simp only [Tas,Tap] at hi
   subst hi
   have:=h2 j u hj
   rwa [Nat.zero_mul,Nat.add_zero]
  | succ i =>
   have:=hl i x (by simpa using hi) j u hj
   rw [hk r hr] at this
   rwa [show off+(i+1) * k+j=off+k+i * k+j by rw [Nat.succ_mul];omega]
theorem Zml {w W:World} {S S2:Nat->Prop} {b k:Nat} {Q:List C->Prop} (hk:∀ r,Q r->r.length=k) (hv:∀ x:SRow w S Q,Zaa W S2 x.1.1 x.1.2):∀ (l:List (SRow w S Q)) (off:Nat),(∀ (i:Nat) x,l[i]?=some x->∀ j u,x.1.2[j]?=some u->W.cell? ⟨b,off+i * k+j,none⟩=some u)->Zan W S2 b off (l.map (fun x=>x.1.1))
 | [],off,_=>by simp [Zan]
 | x::l,off,h=>by
  simp only [Tbv,Zan]
  refine ⟨Zah.of_vals _ _ off (hv x) fun j u hj=>?_,?_⟩
  ·have:=h 0 x rfl j u hj
   rwa [Nat.zero_mul,Nat.add_zero] at this
  ·rw [hk _ x.2.1]
   refine Zml hk hv l (off+k) fun i y hi j u hj=>?_
   have:=h (i+1) y (by simpa using hi) j u hj
   rwa [show off+(i+1) * k+j=off+k+i * k+j by rw [Nat.succ_mul];omega] at this
theorem ZqO {α:Type} [Inhabited α] {enc:α->List Value} {k:Nat} {W:World} {b:Nat} {d:Array α} (hk:∀ x,(enc x).length=k) (h:HoldsK enc k W b 0 d) {i:Nat} {x:α} (hi:d.toList[i]?=some x) {j:Nat} {u:Value} (hj:(enc x)[j]?=some u):W.cell? ⟨b,0+i * k+j,none⟩=some u:=by
 have hil:i < d.size:=by have:=(Tac.1 hi).1;simpa using this
 have hjl:j < k:=by have:=(Tac.1 hj).1;rwa [hk] at this
 have ht:i * k+j < d.size * k:=by
  have:=Nat.mul_le_mul_right k (show i+1<=d.size from hil)
  rw [Nat.succ_mul] at this
  omega
 have h1:=(h (i * k+j) (by rw [size_flatK];exact ht)).1
 rw [get_flatK _ _ _ _ ht,show (i * k+j) / k=i by rw [Nat.add_comm,Nat.add_mul_div_right _ _ om,Nat.div_eq_of_lt hjl,Nat.zero_add],show (i * k+j) % k=j by rw [Nat.add_comm,Nat.add_mul_mod_self_right,Nat.mod_eq_of_lt hjl]] at h1
 have e1:d[i]! = x:=by
  rw [getElem!_pos d i hil]
  have:=(Tac.1 hi).2
  simpa using this
 have e2:(enc x)[j]! = u:=by
  rw [getElem!_pos (enc x) j (by rw [hk];exact hjl)]
  exact (Tac.1 hj).2
 rw [e1,e2,<- Tby] at h1
 exact h1
theorem ZAK {α:Type} [Inhabited α] {enc:α->List Value} {k:Nat} {w:World} {b:Nat} {l:List α} (hk:∀ x,(enc x).length=k) (hf:∀ o,w.frozen? ⟨b,o,none⟩=false) (h:∀ (i:Nat) x,l[i]?=some x->∀ j u,(enc x)[j]?=some u->w.cell? ⟨b,0+i * k+j,none⟩=some u):HoldsK enc k w b 0 l.toArray:=by
 intro t ht
 refine ⟨?_,hf _⟩
 rw [size_flatK] at ht
 have ht':t < l.length * k:=by simpa using ht
 have k0 : 0 < k := by rcases Nat.eq_zero_or_pos k with e | e; · subst e; simp at ht'
                       ·exact e
 have hi:t / k < l.length:=Nat.div_lt_of_lt_mul (by rw [Nat.mul_comm];exact ht')
 have hj:t % k < k:=Nat.mod_lt _ k0
 rw [get_flatK _ _ _ _ ht]
 have e1:l.toArray[t / k]! = l[t / k]:=by rw [getElem!_pos _ _ (by simpa using hi)];rfl
 rw [e1,getElem!_pos _ _ (by rw [hk];exact hj)]
 have:=h (t / k) l[t / k] (Taa hi) (t % k) _ (Taa (by rw [hk];exact hj))
 rwa [show 0+t / k * k+t % k=0+t by have:=Nat.div_add_mod' t k;omega] at this
theorem Zaa.one {w:World} {S:Nat->Prop}:∀ {cs:List C} {us:List Value},cs.all ZaE=true->Zaa w S cs us->∀ v∈us,v.oneCell'=true
 | [],[],_,_,v,h=>by simp at h
 | c::cs,u::us,hc,h,v,hv=>by
  simp only [List.all_cons,Taq] at hc
  simp only [Zaa] at h
  rcases Tbg.1 hv with rfl | hv
  ·exact ZfY hc.1 h.1
  ·exact Zaa.one hc.2 h.2 v hv
 | [],_::_,_,h,_,_=>by simp [Zaa] at h
 | _::_,[],_,h,_,_=>by simp [Zaa] at h
theorem ZCp {α:Type} [Inhabited α] {enc:α->List Value} {k:Nat} {w:World} {b n:Nat} {d:Array α} {os:Array Obj} {cur:Array Value} {ty:Nat} (hh:w.heap[b]?=some (.cells cur ty (0,0))):(sortWorldK enc k w b 0 n d os).heap[b]?=some (.cells (putCells id 0 (flatK enc k d) cur) ty (0,0)):=by
 have hb:b < w.heap.size:=(Tbl.1 hh).1
 show ((w.heap.modify b (onCells (putCells id 0 (flatK enc k d))))++os)[b]?=_
 rw [Array.getElem?_append_left (by simpa using hb),Array.getElem?_modify,if_pos rfl,hh]
 rfl
theorem Zk4 {α:Type} [Inhabited α] {enc:α->List Value} {k:Nat} {w:World} {b n j:Nat} {d:Array α} {os:Array Obj} (hj:j < w.heap.size) (hne:j≠b):(sortWorldK enc k w b 0 n d os).heap[j]?=w.heap[j]?:=by
 show ((w.heap.modify b (onCells (putCells id 0 (flatK enc k d))))++os)[j]?=_
 rw [Array.getElem?_append_left (by simpa using hj),Array.getElem?_modify,if_neg (fun e=>hne e.symm)]
theorem Zgp {α:Type} [Inhabited α] {enc:α->List Value} {k:Nat} {w:World} {b n:Nat} {d:Array α} {os:Array Obj}:w.heap.size<=(sortWorldK enc k w b 0 n d os).heap.size:=by
 show _<=((w.heap.modify b (onCells (putCells id 0 (flatK enc k d))))++os).size
 simp
theorem ZAL {P:Program} (hP:e1.P=P) {ρ:Go.Shelf.Ren} (L:SlLaysF0.n6 P ρ) {k ty:Nat} (aE:∀ w,(isAgg (ρ.t 24)).run P w=.ok true w) (zE:∀ w,(Go.sizeOf (ρ.t 24)).run P w=.ok k w) (hbody:Zb3 P (ρ.f 6)=true) {g:FuncId} (eg:∀ args w,(callFunc g args).run P w=.ok (.enter g args) w)
  {rows rows':List (List C)} {cf:List C->List C->Int} (hlen:rows.length < 4611686018427387904) (hg:∀ a∈rows,∀ b∈rows,Con e1 g [.agg a,.agg b] [.one (.lit (.int .i64 (cf a b)))])
  (h1:∀ a∈rows,¬ cf a a < 0) (h2:∀ a∈rows,∀ b∈rows,∀ c∈rows,cf a b < 0->cf b c < 0->cf a c < 0) (h3:∀ a∈rows,∀ b∈rows,∀ c∈rows,¬ cf a b < 0->¬ cf b c < 0->¬ cf a c < 0)
  (hu:∀ l:List (List C),l.Perm rows->(∀ (i j:Nat) a b,i < j->l[i]?=some a->l[j]?=some b->¬ cf b a < 0)->l=rows'):ConI e1 (ρ.f 6) ty k rows [.one (.fn g [])] rows' []:=by
 refine ⟨by rw [hP];exact hbody,fun w S v0 vs hS hE hvE hG hbuf hargs=>?_⟩
 rw [hP]
 match vs,hargs with
 | [u],hargs =>
  obtain ⟨⟨us,rfl,hus⟩,_⟩:(∃ us:List Value,u=.func (.func g) #[] us.toArray∧Zaa w S [] us)∧True:=by simpa [ZaI,DRel,Rep] using hargs
  have hus0:us=[]:=by cases us with
   | nil=>rfl
   | cons _ _=>simp [Zaa] at hus
  subst hus0
  obtain ⟨h0,hrl,hcase⟩:=hbuf
  by_cases hne:rows=[]
  ·subst hne
   have hr':rows'=[]:=(hu [] (List.Perm.refl _) (fun i j a b _ h=>by simp at h)).symm
   subst hr'
   have hform:∃ p cap,v0=.slice p 0 cap:=by
    rcases hcase with ⟨_,a,rfl⟩ | ⟨b,cap,cur,rfl,_⟩
    ·exact ⟨a,0,rfl⟩
    ·exact ⟨_,cap,rfl⟩
   obtain ⟨p,cap,hv0⟩:=hform
   rw [hv0]
   refine (AnyF.slices_SortFunc_none (P:=P) L p cap _ w).mono ?_
   rintro e w' ⟨rfl,rfl⟩
   rw [<- hv0]
   have hs:(fun b=>S b∨(w'.heap.size<=b∧b < w'.heap.size))=S:=by
    funext b
    exact propext ⟨fun h=>h.elim id (fun h=>absurd h.2 om),.inl⟩
   refine ⟨_,rfl,Kept.refl ..,hG,?_,[],rfl,trivial⟩
   rw [hs]
   exact ⟨h0,hrl,hcase⟩
  ·rcases hcase with ⟨e,_⟩ | ⟨b,cap,cur,rfl,hc,hbz,hSb,hh,hle,hmx,hcs,hrows⟩
   ·exact absurd e hne
   have hkr:∀ r,r∈rows->r.length=k:=fun r hr=>(hrl r hr).1
   obtain ⟨l,hl,hcell⟩:=ZqN (k:=k) (Q:=fun r=>r∈rows) hkr rows 0 (fun r h=>h) hrows
   have hll:l.length=rows.length:=by have:=congrArg List.length hl;rwa [Tax] at this
   obtain ⟨x0,hx0⟩:∃ x,x∈l:=List.exists_mem_of_ne_nil _ (fun e=>hne (Tan (by rw [<- hll,e];rfl)))
   letI:Inhabited (SRow w S (fun r=>r∈rows)):=⟨x0⟩
   have hk:∀ x:SRow w S (fun r=>r∈rows),x.1.2.length=k:=fun x=>by rw [x.2.2.len];exact hkr _ x.2.1
   have h1c:∀ x:SRow w S (fun r=>r∈rows),∀ v∈x.1.2,v.oneCell'=true:=fun x=>Zaa.one (hrl _ x.2.1).2 x.2.2
   have hH:HoldsK (fun x:SRow w S (fun r=>r∈rows)=>x.1.2) k w b 0 l.toArray:=ZAK hk (fun o=>frozen_of_row w b o cur ty hh) hcell
   have keepV:∀ (m:Nat) (os:Array Obj) (dk:Array (SRow w S (fun r=>r∈rows))) (S2:Nat->Prop),(∀ b,S b->S2 b)->∀ x:SRow w S (fun r=>r∈rows),Zaa (sortWorldK (fun x:SRow w S (fun r=>r∈rows)=>x.1.2) k w b 0 m dk os) S2 x.1.1 x.1.2:=fun m os dk S2 hS2 x =>
    Zaa.keep2 Zgp (fun b' o hb'=>Zbv (Zk4 (hS b' hb').1 (fun e:b'=b=>hSb (by rw [<- e];exact hb'))) o) hS2 x.2.2
   have hvb:vblk (.slice (some ⟨b,0,none⟩) rows.length cap)=some b:=by simp only [vblk];rw [if_neg om]
   have keepG:∀ (m:Nat) (os:Array Obj) (dk:Array (SRow w S (fun r=>r∈rows))),e1.G (sortWorldK (fun x:SRow w S (fun r=>r∈rows)=>x.1.2) k w b 0 m dk os):=fun m os dk =>
    ZvP.keep w _ Zgp (fun b' hb'=>Zk4 (hE b' hb') (fun e=>hvE b hvb (e ▸ hb'))) hG
   have hcmp:CmpLays P g #[] (fun x:SRow w S (fun r=>r∈rows)=>x.1.2) k (fun x y=>cf x.1.1 y.1.1) b 0 l.toArray.size w:=by
    intro m os dk hdk x y
    have hc:=(hg _ x.2.1 _ y.2.1).2 (sortWorldK (fun x:SRow w S (fun r=>r∈rows)=>x.1.2) k w b 0 m dk os) S [.agg x.1.2.toArray,.agg y.1.2.toArray] (fun b' hb'=>⟨Tbd (hS b' hb').1 Zgp,(hS b' hb').2⟩) (fun b' h=>Tbd (hE b' h) Zgp) (keepG m os dk)
     ⟨⟨_,rfl,keepV m os dk S (fun _ h=>h) x⟩,⟨_,rfl,keepV m os dk S (fun _ h=>h) y⟩,trivial⟩
    rw [hP] at hc
    refine hc.mono ?_
    rintro e w' ⟨v,rfl,hK,hG',hv⟩
    have hv:v=.int .i64 (cf x.1.1 y.1.1):=by simpa [retA,ARel,DRel,Rep] using hv
    exact ⟨by rw [hv],ZAJ (hK.all1 (keepG m os dk) hG')⟩
   have hO:SWO (ltOf (fun x y:SRow w S (fun r=>r∈rows)=>cf x.1.1 y.1.1)):=by
    refine ⟨fun x=>?_,fun x y z=>?_,fun x y z=>?_⟩ <;> simp only [ltOf,decide_eq_false_iff_not,decide_eq_true_eq]
    ·exact h1 _ x.2.1
    ·exact h2 _ x.2.1 _ y.2.1 _ z.2.1
    ·exact h3 _ x.2.1 _ y.2.1 _ z.2.1
   have hsort:=AnyQ.slices_SortFunc L k aE zE (fun x:SRow w S (fun r=>r∈rows)=>x.1.2) hk h1c (fun x y=>cf x.1.1 y.1.1) hO g #[] b 0 cap l.toArray w eg hcmp hH hbz (by simp only [List.size_toArray];omega)
   have hlz:l.toArray.size=rows.length:=by simpa using hll
   rw [hlz] at hsort
   refine hsort.mono ?_
   rintro e w' ⟨rfl,d',n,os,hp,hs,rfl⟩
   obtain ⟨hp1,_,hp3⟩:=hp
   rw [hlz] at hp1
   have hex:∀ a:Array (SRow w S (fun r=>r∈rows)),a.size=rows.length->a.extract 0 rows.length=a:=fun a ha=>by rw [<- ha];simp
   rw [hex d' hp1,hex _ hlz] at hp3
   have hperm:(d'.toList.map (fun x=>x.1.1)).Perm rows:=by
    have:=hp3.map (fun x:SRow w S (fun r=>r∈rows)=>x.1.1)
    rwa [show l.toArray.toList=l from rfl,hl] at this
   have hrows':d'.toList.map (fun x=>x.1.1)=rows':=hu _ hperm fun i j a c hij ha hc=>by
    simp only [Taz,Tau] at ha hc
    obtain ⟨x,hx,rfl⟩:=ha
    obtain ⟨y,hy,rfl⟩:=hc
    have hjl:j < rows.length:=by have:=(Tac.1 hy).1;simpa [hp1] using this
    have:=hs i j (Tai _) hij hjl
    have ex:d'[i]! = x:=by
     rw [getElem!_pos d' i om]
     have:=(Tac.1 hx).2
     simpa using this
    have ey:d'[j]! = y:=by
     rw [getElem!_pos d' j om]
     have:=(Tac.1 hy).2
     simpa using this
    rw [ex,ey] at this
    simpa [ltOf] using this
   have hlr:rows'.length=rows.length:=by rw [<- hrows',Tax,Array.length_toList,hp1]
   have hW:HoldsK (fun x:SRow w S (fun r=>r∈rows)=>x.1.2) k (sortWorldK (fun x:SRow w S (fun r=>r∈rows)=>x.1.2) k w b 0 n d' os) b 0 d':=SWK.holds (d0:=l.toArray) ⟨n,os,rfl⟩ hbz hH (by rw [hp1,hlz])
   refine ⟨_,rfl,⟨rfl,rfl,rfl,fun _=>Nat.le_add_right _ _,Zgp,fun j hj hn=>Zk4 hj (fun e=>hn (.inr (by rw [hvb,e])))⟩,keepG n os d',⟨h0,fun r hr=>?_,.inr ⟨b,cap,_,by rw [hlr],hc,Tbd hbz Zgp,fun hn=>?_,ZCp hh,by omega,hmx,by simp [putCells,hcs],?_⟩⟩,[],rfl,trivial⟩
   ·rw [<- hrows'] at hr
    exact hrl r (hperm.mem_iff.1 hr)
   ·rcases hn with hn | hn
    ·exact hSb hn
    ·omega
   ·rw [<- hrows']
    exact Zml (Q:=fun r=>r∈rows) hkr (keepV n os d' _ (fun b hb=>.inl hb)) d'.toList 0 fun i x hi j u hj=>ZqO hk hW hi hj
end Go.Proofs.YtffmjghcpgpfpaaGreatDoor
namespace Go.Proofs.YtffmjghcpgpfpaaGreatDoor
open Go.Shelf
def ZAM:Ren:=⟨fun | 6=>188 | 15=>131 | 14=>234 | 28=>198 | 29=>199 | 20=>250 | 21=>252 | 22=>253 | 23=>254 | 24=>255 | 25=>256 | 26=>257 | 27=>258 | 46=>266 | 47=>236 | 48=>237 | 49=>267 | 50=>268 | 57=>273 | n=>n,fun | 22=>44 | 24=>46 | 25=>119 | 3=>3 | 39=>168 | 0=>0 | 53=>222 | 55=>224 | 4=>4 | 46=>216 | 45=>215 | 50=>205 | 5=>5 | 9=>9 | 66=>251 | 70=>255 | 76=>269 | 77=>270 | n=>n,fun | n=>n⟩
theorem ZHT:Go.Proofs.SlLaysF0.n6 Tryz.prog ZAM:={
 mixed:=by kernel_rfl,
 f6:=⟨Tryz.f188.name,by decide,Tryz.func188.trans (congrArg some (by kernel_rfl))⟩,
 f14:=⟨Tryz.f234.name,by decide,Tryz.func234.trans (congrArg some (by kernel_rfl))⟩,
 f15:=Tryz.func131.trans (congrArg some (by kernel_rfl)),
 f20:=⟨Tryz.f250.name,by decide,Tryz.func250.trans (congrArg some (by kernel_rfl))⟩,
 f21:=⟨Tryz.f252.name,by decide,Tryz.func252.trans (congrArg some (by kernel_rfl))⟩,
 f22:=⟨Tryz.f253.name,by decide,Tryz.func253.trans (congrArg some (by kernel_rfl))⟩,
 f23:=⟨Tryz.f254.name,by decide,Tryz.func254.trans (congrArg some (by kernel_rfl))⟩,
 f24:=⟨Tryz.f255.name,by decide,Tryz.func255.trans (congrArg some (by kernel_rfl))⟩,
 f25:=⟨Tryz.f256.name,by decide,Tryz.func256.trans (congrArg some (by kernel_rfl))⟩,
 f26:=⟨Tryz.f257.name,by decide,Tryz.func257.trans (congrArg some (by kernel_rfl))⟩,
 f27:=⟨Tryz.f258.name,by decide,Tryz.func258.trans (congrArg some (by kernel_rfl))⟩,
 f28:=Tryz.func198.trans (congrArg some (by kernel_rfl)),
 f29:=Tryz.func199.trans (congrArg some (by kernel_rfl)),
 f46:=⟨Tryz.f266.name,by decide,Tryz.func266.trans (congrArg some (by kernel_rfl))⟩,
 f47:=Tryz.func236.trans (congrArg some (by kernel_rfl)),
 f48:=Tryz.func237.trans (congrArg some (by kernel_rfl)),
 f49:=⟨Tryz.f267.name,by decide,Tryz.func267.trans (congrArg some (by kernel_rfl))⟩,
 f50:=⟨Tryz.f268.name,by decide,Tryz.func268.trans (congrArg some (by kernel_rfl))⟩,
 f57:=⟨Tryz.f273.name,by decide,Tryz.func273.trans (congrArg some (by kernel_rfl))⟩,
 t0:=Tryz.underlying0,
 a0:=Tryz.isAgg0,
 z0:=Tryz.sizeOf0,
 v0:=Tryz.zeroValue0,
 t3:=Tryz.underlying3,
 a3:=Tryz.isAgg3,
 z3:=Tryz.sizeOf3,
 v3:=Tryz.zeroValue3,
 t4:=Tryz.underlying4,
 a4:=Tryz.isAgg4,
 z4:=Tryz.sizeOf4,
 v4:=Tryz.zeroValue4,
 t5:=Tryz.underlying5,
 a5:=Tryz.isAgg5,
 z5:=Tryz.sizeOf5,
 v5:=Tryz.zeroValue5,
 t9:=Tryz.underlying9,
 a9:=Tryz.isAgg9,
 z9:=Tryz.sizeOf9,
 v9:=Tryz.zeroValue9,
 t22:=Tryz.underlying44,
 a22:=Tryz.isAgg44,
 z22:=Tryz.sizeOf44,
 v22:=Tryz.zeroValue44,
 t25:=Tryz.underlying119,
 a25:=Tryz.isAgg119,
 z25:=Tryz.sizeOf119,
 v25:=Tryz.zeroValue119,
 t39:=Tryz.underlying168,
 a39:=Tryz.isAgg168,
 z39:=Tryz.sizeOf168,
 v39:=Tryz.zeroValue168,
 t45:=Tryz.underlying215,
 a45:=Tryz.isAgg215,
 z45:=Tryz.sizeOf215,
 v45:=Tryz.zeroValue215,
 t46:=Tryz.underlying216,
 a46:=Tryz.isAgg216,
 z46:=Tryz.sizeOf216,
 v46:=Tryz.zeroValue216,
 t50:=Tryz.underlying205,
 a50:=Tryz.isAgg205,
 z50:=Tryz.sizeOf205,
 v50:=Tryz.zeroValue205,
 t53:=Tryz.underlying222,
 a53:=Tryz.isAgg222,
 z53:=Tryz.sizeOf222,
 v53:=Tryz.zeroValue222,
 t55:=Tryz.underlying224,
 a55:=Tryz.isAgg224,
 z55:=Tryz.sizeOf224,
 v55:=Tryz.zeroValue224,
 t66:=Tryz.underlying251,
 a66:=Tryz.isAgg251,
 z66:=Tryz.sizeOf251,
 v66:=Tryz.zeroValue251,
 t70:=Tryz.underlying255,
 a70:=Tryz.isAgg255,
 z70:=Tryz.sizeOf255,
 v70:=Tryz.zeroValue255,
 t76:=Tryz.underlying269,
 a76:=Tryz.isAgg269,
 z76:=Tryz.sizeOf269,
 v76:=Tryz.zeroValue269,
 t77:=Tryz.underlying270,
 a77:=Tryz.isAgg270,
 z77:=Tryz.sizeOf270,
 v77:=Tryz.zeroValue270 }
end Go.Proofs.YtffmjghcpgpfpaaGreatDoor
namespace Go.Proofs.YtffmjghcpgpfpaaGreatDoor
open Go.RowKit
theorem ZGG {f:FuncId} {ty sz:Nat} {rows rows':List (List C)} {args r:List D} (h:ConI e1 f ty sz rows args rows' r):ConI e0 f ty sz rows args rows' r :=
 ⟨h.1,fun w S v0 vs h1 h2 h3 h4 h5 h6=>(h.2 w S v0 vs h1 h2 h3 h4 h5 h6).mono fun en w' ⟨v,k1,k2,k3⟩=>⟨v,k1,⟨k2.os,k2.tape,k2.output,fun d=>d.elim,k2.size,k2.block⟩,k3⟩⟩
theorem Zwi (ts:List Tm) (hl:ts.length<=4000000):ConI e0 188 46 4 (Zab ts) [.one (.fn 82 [])] (Zab (Zat ts)) []:=by
 have hrow:∀ a∈Zab ts,a=encTm (unT a):=fun a ha=>by
  rw [Zbi] at ha
  obtain ⟨t,_,rfl⟩:=Tbi.1 ha
  rw [ZuI]
 exact ZGG (ZAL (P:=Tryz.prog) rfl ZHT (k:=4) (ty:=46) Tryz.isAgg46 Tryz.sizeOf46 (by kernel_rfl) (g:=82) (enters_of Tryz.func82 (by kernel_rfl) rfl) (rows:=Zab ts) (rows':=Zab (Zat ts)) (cf:=fun a b=>Zak (unT a) (unT b)) (by rw [Zac];omega)
  (fun a ha b hb=>by
   have h:=Zff (unT a) (unT b)
   rwa [<- hrow a ha,<- hrow b hb] at h)
  (fun a _=>by rw [Zdf];omega) (fun a _ b _ c _ h1 h2=>Zfj h1 h2) (fun a _ b _ c _ h1 h2=>by
   rw [Zck (unT b) (unT a)] at h1
   rw [Zck (unT c) (unT b)] at h2
   rw [Zck (unT c) (unT a)]
   have:=Zb0 (a:=unT c) (b:=unT b) (c:=unT a) om om
   omega)
  (fun l hp hs=>by
   have hmem:∀ a∈l,a=encTm (unT a):=fun a ha=>hrow a (hp.mem_iff.1 ha)
   have hp2:(l.map unT).Perm ts:=by have:=hp.map unT;rwa [ZGh] at this
   have hup:Up (l.map unT):=by
    refine List.pairwise_iff_getElem.2 fun i j hi hj hij=>?_
    simp only [List.getElem_map]
    simp only [Tax] at hi hj
    have:=hs i j l[i] l[j] hij (Taa hi) (Taa hj)
    rw [Zck (unT l[j]) (unT l[i])]
    omega
   have e:=Zj4 (Zb9 ts) hup ((Za5 ts).trans hp2.symm)
   rw [e,Zbi,List.map_map]
   conv=>lhs;rw [<- List.map_id l]
   exact List.map_congr_left fun a ha=>hmem a ha))
def RCut (a:Option Addr) (cap ty sz:Nat) (rows:List (List C)) (r:List D) (pm:List Bk):Prop:=r=[.one (.lit (.slice a rows.length cap))]∧pm=[.buf (some (a,cap)) ty sz rows]
theorem ZAN {m:List (Nat × Bk)} {a:Option Addr} {n cap:Nat}:lenA m (some true) [nrm m (.d (.one (.lit (.slice a n cap))))]=some (.d (.one (.lit (.int .i64 (n:Int))))):=by
 show lenA m (some true) [ZjQ m a n cap (bufK a n cap m)]=_
 cases bufK a n cap m with
 | none=>rfl
 | some k =>
  show lenA m (some true) [nrmB a n cap k (gm m k)]=_
  cases hg:gm m k with
  | none=>rfl
  | some bk =>
   cases bk with
   | var o cs=>rfl
   | set E G=>rfl
   | buf o ty sz rows =>
    cases o with
    | none=>rfl
    | some q =>
     obtain ⟨a',cap'⟩:=q
     simp only [nrmB]
     split
     ·rename_i h
      show lenS (bufA (gm m k))=_
      rw [hg,h.2.1]
      rfl
     ·rfl
theorem ZAO {m:List (Nat × Bk)} {a:Option Addr} {l h cap sz:Nat}:lenA m (some true) [nrm m (.d (.one (.lit (sliced a l h cap sz))))]=some (.d (.one (.lit (.int .i64 ((h - l:Nat):Int))))):=ZAN
theorem Zwj (l:List Tm) (k:Nat) (t:Tm):(Zab l).set k (encTm t)=Zab (l.set k t):=by rw [Zbi,Zbi,List.map_set]
theorem ZAP {α:Type} {l:List α} {i:Nat} {x:α} (h:i < l.length):(l.set i x).take (i+1)=l.take i++[x]:=by
 rw [List.take_add_one,List.take_set_of_le (Tah _)]
 simp [h]
theorem Zu5 {l l':List Tm} {m:Nat} (h:l.drop m=l'.drop m) (i:Nat):l[m+i]?=l'[m+i]?:=by
 rw [<- Tbb,<- Tbb,h]
theorem ZCq {ts:List Tm} (h:ts.length < 2):ddT none ts=ts:=by
 match ts,h with
 | [],_=>rfl
 | [x],_=>rfl
theorem ZqP (ts:List Tm) (hl:ts.length<=4000000) (a:Option Addr) (cap:Nat):ConP e0 189 [.one (.lit (.slice a ts.length cap)),.one (.fn 62 [])] [.buf (some (a,cap)) 46 4 (Zab ts)] (RCut a cap 46 4 (Zab (ddT none ts))):=by
 refine gIP (ts:=[.slot 4]) [1000] 562984581629171 Tryz.func189 ?_
 by_cases h2:ts.length < 2
 ·have q1:((ts.length:Int) < 2)=True:=eq_true om
  (have F:=ai @q1 @tmz;refine gG ?_;clear F)
  rw [ZCq h2]
  exact (have F:=Zac;gTP (R:=RCut a cap 46 4 (Zab ts)) [1000] ⟨by rw [Zac],rfl⟩)
 have q1:((ts.length:Int) < 2)=False:=eq_false om
 (have F:=ai @q1 @tmz;refine gG ?_;clear F)
 clear q1
 obtain ⟨t0,ht0⟩:∃ t,ts[0]?=some t:=⟨_,Taa om⟩
 (have F:=@tmz;refine gL (ι:=Nat) [4,5,6,7,15,28,35,49] [] (fun x=>[(5,.d (.one (.lit (.int .i64 (x:Int)))))]) (fun x=>[]) (fun x=>1<=x∧x<=ts.length∧ddT none (ts.take x)=ts.take x) (fun x=>ts.length - x) (1) (⟨Tah _,by omega,by rw [ZGg ht0];cases ts with | nil=>simp at ht0 | cons y ys=>simp at ht0;simp [ht0]⟩) (fun x hx=>?_);clear F)
 obtain ⟨hx1,hxn,hxd⟩:=hx
 by_cases hlt:x < ts.length
 rotate_left
 ·obtain rfl:x=ts.length:=by omega
  have q1:((ts.length:Int) < (ts.length:Int))=False:=eq_false om
  rw [Tao] at hxd
  (have F:=ai @q1 @tmz;refine gG ?_;clear F)
  rw [hxd]
  exact (have F:=Zac;gTP (R:=RCut a cap 46 4 (Zab ts)) [1000] ⟨by rw [Zac],rfl⟩)
 obtain ⟨u,hu⟩:∃ t,ts[x]?=some t:=⟨_,Taa hlt⟩
 obtain ⟨z,rfl⟩:∃ z,x=z+1:=⟨x - 1,by omega⟩
 obtain ⟨v,hv⟩:∃ t,ts[z]?=some t:=⟨_,Taa om⟩
 have q1:(((z+1:Nat):Int) < (ts.length:Int))=True:=eq_true om
 have w1:IntKind.i64.wrap (((z+1:Nat):Int) - 1)=(z:Int):=ZaQ om om om
 have w2:IntKind.i64.wrap (((z+1:Nat):Int)+1)=((z+1+1:Nat):Int):=ZaQ om om om
 have hz1:z+1 < ts.length:=hlt
 have hz0:z < ts.length:=by omega
 have hst:=Zqh hu hv
 generalize hxx:z+1=x at *
 rw [show z+2=x+1 by omega] at hst
 (have F:=ai @q1 @tmz;refine gG ?_;clear F)
 refine gB ?_
 (have F:=ai @q1 (ai @tmz (ai @hu (ai @hv (ai @w1 (ai @hz1 (ai @hz0 @Zac))))));refine gC (ZgK u v) ?_;clear F)
 (have F:=ai @q1 @tmz;refine gR ?_;clear F)
 by_cases h0:Zak u v=0
 rotate_left
 ·have q3:decide (Zak u v=0)=false:=decide_eq_false h0
  rw [if_neg h0,hxd] at hst
  (have F:=ai @q3 @w2;refine gG ?_;exact ⟨x+1,⟨by omega,hlt,by rw [hst];simp [List.take_add_one,hu]⟩,gw,gw,by omega⟩)
 have q3:decide (Zak u v=0)=true:=decide_eq_true h0
 rw [if_pos h0,hxd] at hst
 (have F:=ai @q3 @tmz;have NN:Zag 7:=trivial;refine gGn ?_;clear F NN)
 refine gB ?_
 (have F:=ai @q3 @tmz;refine gP 2 ?_;clear F)
 have F:=Zac
 refine gSub 1000 x ts.length ⟨by omega,by rw [Zac];exact Tah _⟩ ?_
 clear F
 (have F:=@tmz;refine gR ?_;clear F)
 (have F:=@tmz;refine gG ?_;clear F)
 (have F:=@tmz;refine gL (ι:=Nat × Nat × List Tm) [5,7,35,49] [1000] (fun y=>[(7,.d (.one (.lit (.int .i64 (y.1:Int))))),(5,.d (.one (.lit (.int .i64 (y.2.1:Int)))))]) (fun y=>[(1000,.buf (some (a,cap)) 46 4 (Zab y.2.2))]) (fun y=>1<=y.1∧x+y.1<=ts.length∧y.2.1+1<=x+y.1∧y.2.2.length=ts.length∧y.2.2.take y.2.1=ddT none (ts.take (x+y.1))∧y.2.2.drop (x+y.1 - 1)=ts.drop (x+y.1 - 1)) (fun y=>ts.length - y.1) ((1,x,ts)) (⟨Tah _,hlt,Tah _,rfl,hst.symm,rfl⟩) (fun y hy=>?_);clear F)
 obtain ⟨j,k,us⟩:=y
 obtain ⟨h1,h2',h3,h4,h5,h6⟩:=hy
 simp only at h1 h2' h3 h4 h5 h6
 dsimp only
 have hn4:ts.length=us.length:=h4.symm
 by_cases hj:j < ts.length - x
 ·obtain ⟨i,rfl⟩:∃ i,j=i+1:=⟨j - 1,by omega⟩
  obtain ⟨u1,hu1⟩:∃ t,ts[x+i+1]?=some t:=⟨_,Taa om⟩
  obtain ⟨v1,hv1⟩:∃ t,ts[x+i]?=some t:=⟨_,Taa om⟩
  have e1:us[x+(i+1)]?=some u1:=by
   rw [<- hu1,show x+(i+1) - 1=x+i by omega] at *
   exact Zu5 h6 1
  have e2:us[x+i]?=some v1:=by
   rw [<- hv1,show x+(i+1) - 1=x+i by omega] at *
   exact Zu5 h6 0
  have q4:(((i+1:Nat):Int) < ((ts.length - x:Nat):Int))=True:=eq_true om
  have w3:IntKind.i64.wrap (((i+1:Nat):Int) - 1)=(i:Int):=ZaQ om om om
  have w4:IntKind.i64.wrap (((i+1:Nat):Int)+1)=((i+1+1:Nat):Int):=ZaQ om om om
  have hst2:=Zqh hu1 hv1
  rw [show x+i+2=x+(i+1+1) by omega,show x+i+1=x+(i+1) by omega,<- h5] at hst2
  (have F:=ai @q4 (ai @ZAO @tmz);have NN:Zag 11:=trivial;refine gGn ?_;clear F NN)
  refine gB ?_
  (have F:=ai @q4 @tmz;refine gP 3 ?_;clear F)
  have F:=Zac
  refine ZAy (l:=x) (h:=ts.length) (rows:=Zab us) 1000 (i+1) ⟨by omega,by rw [Zac];omega⟩ ?_
  clear F
  (have F:=ai @tmz (ai @e1 @w3);refine gP 4 ?_;clear F)
  have F:=Zac
  refine ZAy (l:=x) (h:=ts.length) (rows:=Zab us) 1000 i ⟨by omega,by rw [Zac];omega⟩ ?_
  clear F
  (have F:=ai @tmz @e2;refine gC (ZgK u1 v1) ?_;clear F)
  (have F:=@tmz;refine gR ?_;clear F)
  by_cases h7:Zak u1 v1=0
  ·have q5:decide (Zak u1 v1=0)=true:=decide_eq_true h7
   rw [if_pos h7] at hst2
   (have F:=ai @q5 @w4;refine gG ?_;exact ⟨(i+1+1,k,us),⟨by dsimp only;omega,by dsimp only;omega,by dsimp only;omega,h4,hst2.symm,by rw [show x+(i+1+1) - 1=x+(i+1) - 1+1 by omega,<- List.drop_drop,<- List.drop_drop,h6]⟩,gw,gw,by omega⟩)
  ·have q5:decide (Zak u1 v1=0)=false:=decide_eq_false h7
   rw [if_neg h7] at hst2
   obtain ⟨ok,hok⟩:∃ t,us[k]?=some t:=⟨_,Taa om⟩
   have w5:IntKind.i64.wrap ((k:Int)+1)=((k+1:Nat):Int):=ZaQ om om om
   have hkl:k < us.length:=by omega
   (have F:=ai @q5 @tmz;have NN:Zag 12:=trivial;refine gGn ?_;clear F NN)
   refine gB ?_
   (have F:=ai @q5 @tmz;refine gP 4 ?_;clear F)
   have F:=Zac
   refine ZHO (l:=x) (h:=ts.length) (rows:=Zab us) 1000 (i+1) ⟨by omega,by rw [Zac];omega⟩ ?_
   clear F
   (have F:=ai @tmz (ai @e1 (ai @hok (ai @hn4 (ai @hkl @Zwj))));refine gR ?_;clear F)
   (have F:=ai @w4 (ai @w5 @hn4);refine gG ?_;exact ⟨(i+1+1,k+1,us.set k u1),⟨by dsimp only;omega,by dsimp only;omega,by dsimp only;omega,by rw [Tay];exact h4,by rw [hst2,ZAP hkl],by rw [List.drop_set_of_lt om,show x+(i+1+1) - 1=x+(i+1) - 1+1 by omega,<- List.drop_drop,<- List.drop_drop,h6]⟩,gw,gw,by omega⟩)
 ·have q4:((j:Int) < ((ts.length - x:Nat):Int))=False:=eq_false om
  have hjn:x+j=ts.length:=by omega
  rw [hjn,Tao] at h5
  have hkl:k < us.length:=by omega
  (have F:=ai @q4 (ai @ZAO @tmz);have NN:Zag 14:=trivial;refine gGn ?_;clear F NN)
  refine gB ?_
  (have F:=ai @q4 @tmz;refine gP 2 ?_;clear F)
  have F:=ai Zac hn4
  refine gSub 1000 k us.length ⟨by omega,by rw [Zac];exact Tah _⟩ ?_
  rw [show us.length=(Zab us).length by rw [Zac]]
  refine ZHe 1000 (by rw [Zac];exact hkl) ?_
  clear F
  have hRl:((Zab us).take k++List.replicate ((Zab us).length - k) [C.lit (Value.int IntKind.i64 0),C.lit (Value.string ByteArray.empty),C.lit (Value.int IntKind.i64 0),C.sl []]).length=us.length:=by simp [Zac];omega
  have hRt:((Zab us).take k++List.replicate ((Zab us).length - k) [C.lit (Value.int IntKind.i64 0),C.lit (Value.string ByteArray.empty),C.lit (Value.int IntKind.i64 0),C.sl []]).take k=Zab (ddT none ts):=by
   rw [List.take_append_of_le_length (by simp [Zac];omega),List.take_take,Nat.min_self,ZdN,h5]
  generalize (Zab us).take k++List.replicate ((Zab us).length - k) [C.lit (Value.int IntKind.i64 0),C.lit (Value.string ByteArray.empty),C.lit (Value.int IntKind.i64 0),C.sl []]=R at hRl hRt ⊢
  (have F:=@tmz;refine gR ?_;clear F)
  (have F:=ai @q4 @tmz;have NN:Zag 15:=trivial;refine gGn ?_;clear F NN)
  refine gB ?_
  (have F:=ai @q4 @tmz;refine gP 2 ?_;clear F)
  have F:=ai hRl hn4
  refine gSub 1000 0 k ⟨by omega,by rw [hRl];omega⟩ ?_
  clear F
  rw [ZkD]
  (have F:=@tmz;refine gR ?_;clear F)
  (have F:=@tmz;refine gG ?_;clear F)
  refine pE [1000] [1000] (ZAx k (by rw [hRl];omega)) ?_
  rw [hRt]
  have hk2:k=(Zab (ddT none ts)).length:=by rw [Zac,<- h5,Tav];omega
  exact (have F:=Zac;gTP (R:=RCut a cap 46 4 (Zab (ddT none ts))) [1000] ⟨by rw [<- hk2],rfl⟩)
theorem ZhB (ts:List Tm):(Zat ts).length=ts.length:=(Za5 ts).length_eq
theorem ZGH (ts:List Tm):ddT none (Zat ts)=Zdg ts:=by rw [ZB3 (Zb9 ts),Zr5 (Za5 ts)]
theorem ZoH (ts:List Tm) (hl:ts.length<=4000000) (a:Option Addr) (cap:Nat):ConP e0 128 [.one (.lit (.slice a ts.length cap))] [.buf (some (a,cap)) 46 4 (Zab ts)] (RCut a cap 46 4 (Zab (Zdg ts))):=by
 have hc:=ZqP (Zat ts) (by rw [ZhB];exact hl) a cap
 rw [ZhB,ZGH] at hc
 refine gIP (ts:=[.slot 2]) [1000] 5 Tryz.func128 ?_
 (have F:=@tmz;refine gG ?_;clear F)
 refine gB ?_
 (have F:=@tmz;refine gCI (Zwi ts hl) (by rw [Zac,Zac,ZhB]) ?_;clear F)
 (have F:=@tmz;refine gR ?_;clear F)
 (have F:=@tmz;refine gG ?_;clear F)
 refine gB ?_
 (have F:=@tmz;refine gCP [1000] [1000] (hc) ?_;clear F)
 rintro r pm ⟨rfl,rfl⟩
 simp only [setA,retA,zipM,Tae,Tag]
 (have F:=@tmz;refine gR ?_;clear F)
 (have F:=@tmz;refine gG ?_;clear F)
 exact (have F:=Zac;gTP (R:=RCut a cap 46 4 (Zab (Zdg ts))) [1000] ⟨rfl,rfl⟩)
mutual
theorem Zk5:∀ t:Tm,(Za9 t).length<=1+Zae (encTm t)
 | .mk op nm so args=>by
  have:=ZjD args
  simp only [Za9,encTm,Zae,Zbr,Zac]
  split
  ·simp
  ·omega
theorem ZjD:∀ ts:List Tm,(Za3 ts).length<=ts.length+Zaf (Zab ts)
 | []=>by simp [Za3]
 | t::ts=>by
  have h1:=Zk5 t
  have h2:=ZjD ts
  simp only [Za3,Zab,Zaf,Tad,Taf]
  omega
end
theorem ZAQ {t:Tm} (h:Zae (encTm t)<=1048576):(Za9 t).length<=1048576:=by
 obtain ⟨op,nm,so,args⟩:=t
 have:=ZjD args
 simp only [Za9,encTm,Zae,Zbr,Zac] at h ⊢
 split
 ·simp
 ·omega
theorem ZjE:∀ (l:List Tm) (t:Tm),Za3 (l++[t])=Za3 l++Za9 t
 | [],t=>by simp [Za3]
 | x::xs,t=>by simp [Za3,ZjE xs t]
theorem ZgS {l:List Tm} {i:Nat} {t:Tm} (h:l[i]?=some t):Za3 (l.take (i+1))=Za3 (l.take i)++Za9 t:=by
 rw [show l.take (i+1)=l.take i++[t] by simp [List.take_add_one,h],ZjE]
theorem Zit:∀ (l:List Tm) (i:Nat),(Za3 (l.take i)).length<=(Za3 l).length
 | [],i=>by simp [Za3]
 | x::xs,0=>by simp [Za3]
 | x::xs,i+1=>by have:=Zit xs i;simp only [Tbc,Za3,Tad];omega
def visL (ts args:List Tm) (i:Nat):List Tm:=ts++Za3 (args.take i)
theorem ZHp (ts args:List Tm):visL ts args 0=ts:=by simp [visL,Za3]
theorem ZAR {ts args:List Tm} {i:Nat} {b:Tm} (h:args[i]?=some b):visL ts args (i+1)=visL ts args i++Za9 b:=by
 unfold visL
 rw [ZgS h,Tbf]
theorem ZCr (ts args:List Tm):visL ts args args.length=ts++Za3 args:=by unfold visL;rw [Tao]
theorem ktF:ZaJ Tryz.prog 164=some .one:=by kernel_rfl
theorem ztF:ZaK Tryz.prog 164=some 1:=by kernel_rfl
theorem otF:ZaC Tryz.prog 164=some [.lit .nilFunc]:=by kernel_rfl
theorem ZHq:ZaE (.lit .nilFunc)=true:=rfl
theorem okFn {f:FuncId} {cs:List C}:ZaE (.fn f cs)=true:=rfl
theorem ZkH:Zab []=[]:=by simp [Zab]
theorem gTPn {X:Prop} {P:Program} {ts:List RS} {R:List D->List Bk->Prop} {σ:St} {r:List D} {pm:List Bk} (ks:List Nat) (hR:R r pm) (hx:ZjV P ts R .normal σ->X:=by first | exact fun h=>h | exact fun h=>⟨_,Wk.refl _,h⟩) (hr:resD P σ ts=some r:=by exact sfy) (hg:getM σ.m ks=some pm:=by exact sny) (hn:ks.Nodup:=by decide) (hp:pm.all pinned=true:=by simp only [pz,↓reduceIte,Nat.reduceEqDiff,Nat.reduceAdd,Nat.reduceSub,Nat.reduceMul,Nat.reduceLeDiff,Nat.reduceBEq,Tal,decide_true,decide_false,Int.reduceLE,Int.reduceToNat,Int.reduceLT,Int.reduceEq,eq_self,Nat.reduceShiftRight,Nat.reduceAnd,Nat.reduceBneDiff]):X :=
 hx ⟨r,ks,pm,hg,hn,hp,hR,Zfe hr⟩
def ptr0 (b:Nat):Value:=.pointer (some ⟨b,0,none⟩)
def RVis (bo bv:Nat) (f:FuncId) (ty:Nat) (ts:List Tm) (r:List D) (pm:List Bk):Prop:=∃ a cap,r=[]∧pm=[.var (some bo) [.lit (.slice a ts.length cap)],.buf (some (a,cap)) ty 4 (Zab ts),.var (some bv) [.fn f [.lit (ptr0 bo),.lit (ptr0 bv)]]]
theorem ZoI (t:Tm) (ts:List Tm) (a:Option Addr) (cap bo bv:Nat) (hne:bo≠bv) (hb:Zae (encTm t)<=1048576) (hl:ts.length+(Za9 t).length<=4000000)
  (h:∀ x∈t.args,∀ (us:List Tm) (a:Option Addr) (cap:Nat),us.length+(Za9 x).length<=4000000->ConP e0 127 [.agg (encTm x),.one (.lit (ptr0 bo)),.one (.lit (ptr0 bv))] [.var (some bo) [.lit (.slice a us.length cap)],.buf (some (a,cap)) 46 4 (Zab us),.var (some bv) [.fn 127 [.lit (ptr0 bo),.lit (ptr0 bv)]]] (RVis bo bv 127 46 (us++Za9 x))) :
  ConP e0 127 [.agg (encTm t),.one (.lit (ptr0 bo)),.one (.lit (ptr0 bv))] [.var (some bo) [.lit (.slice a ts.length cap)],.buf (some (a,cap)) 46 4 (Zab ts),.var (some bv) [.fn 127 [.lit (ptr0 bo),.lit (ptr0 bv)]]] (RVis bo bv 127 46 (ts++Za9 t)):=by
 obtain ⟨op,nm,so,args⟩:=t
 have hc:encTm (.mk op nm so args)=[.lit (.int .i64 op),.lit (.string nm),.lit (.int .i64 so),.sl (Zab args)]:=by simp only [encTm]
 have hn1:(bo=bv)=False:=eq_false hne
 have hn2:(bv=bo)=False:=eq_false (fun e=>hne e.symm)
 simp only [Tm.args] at h
 simp only [encTm,Zae,Zbr,Zac] at hb
 simp only [ptr0] at h ⊢
 refine gIP (ts:=[]) [1001,1000,1002] 15728943 Tryz.func127 ?_
 by_cases ho:op=-1
 ·have q1:(op=-1)=True:=eq_true ho
  have e1:Za9 (.mk op nm so args)=[.mk (-1) nm so []]:=by simp only [Za9,if_pos ho]
  rw [e1] at hl ⊢
  simp only [Taf,Taj,Nat.zero_add] at hl
  have hm:ts.length+1<=maxApp:=by unfold maxApp;omega
  have c1:encTm (.mk (-1) nm so [])=[.lit (.int .i64 (-1)),.lit (.string nm),.lit (.int .i64 so),.sl []]:=by simp only [encTm,Zab]
  (have F:=ai @hc (ai @q1 @tmz);have NN:Zag 2:=trivial;refine gGn ?_;clear F NN)
  have hR:∀ (a2:Option Addr) (cap2:Nat),RVis bo bv 127 46 (ts++[.mk (-1) nm so []]) [] [.var (some bo) [.lit (.slice a2 (ts.length+1) cap2)],.buf (some (a2,cap2)) 46 4 (Zab ts++[[.lit (.int .i64 (-1)),.lit (.string nm),.lit (.int .i64 so),.sl []]]),.var (some bv) [.fn 127 [.lit (.pointer (some ⟨bo,0,none⟩)),.lit (.pointer (some ⟨bv,0,none⟩))]]]:=fun a2 cap2=>⟨a2,cap2,rfl,by
   rw [show Zab (ts++[.mk (-1) nm so []])=Zab ts++[[.lit (.int .i64 (-1)),.lit (.string nm),.lit (.int .i64 so),.sl []]] by rw [Zbi,Tbw,<- Zbi,Tbv,List.map_nil,c1],Tad]
   rfl⟩
  have a1:(ts.length < ts.length+1)=True:=eq_true (Tam _)
  have a2:∀ Z:List C,(Zab ts++[Z])[ts.length]?=some Z:=fun Z=>by rw [Tbq (by rw [Zac];exact Tah _),Zac,Nat.sub_self];rfl
  have a3:∀ Z X:List C,(Zab ts++[Z]).set ts.length X=Zab ts++[X]:=fun Z X=>by rw [List.set_append_right _ _ (by rw [Zac];exact Tah _),Zac,Nat.sub_self];rfl
  have F:=ai a1 (ai a2 (ai a3 (ai hc (ai q1 (ai @ZAN (ai hm (ai hn1 (ai hn2 tmz))))))))
  refine ZHJ 8 ?_
  refine gT1 8 ?_
  refine gS 17 fun a2 cap2=>?_
  refine Zb1 ?_
  refine gT2 9 11 ?_ ?_
  ·refine Zb1 ?_
   refine gT2 10 11 ?_ ?_
   ·refine Zb1 ?_
    refine gT1 11 ?_
    refine Zb1 ?_
    refine gT0 ?_
    (refine wkI ?_;(have F:=@tmz;refine gG ?_;clear F);exact (have F:=tmz;gTP [1001,17,1002] (hR a2 cap2)))
   ·refine Zb1 ?_
    refine gT1 10 ?_
    refine Zb1 ?_
    refine gT0 ?_
    (refine wkI ?_;(have F:=@tmz;refine gG ?_;clear F);exact (have F:=tmz;gTP [1001,17,1002] (hR a2 cap2)))
  ·refine Zb1 ?_
   refine gT1 9 ?_
   refine Zb1 ?_
   refine gT1 10 ?_
   refine Zb1 ?_
   refine gT0 ?_
   (refine wkI ?_;(have F:=@tmz;refine gG ?_;clear F);exact (have F:=tmz;gTP [1001,17,1002] (hR a2 cap2)))
 ·have q1:(op=-1)=False:=eq_false ho
  have e1:Za9 (.mk op nm so args)=Za3 args:=by simp only [Za9,if_neg ho]
  rw [e1] at hl ⊢
  have hal:args.length<=1048576:=by omega
  (have F:=ai @hc (ai @q1 @tmz);refine gG ?_;clear F)
  (have F:=@ZHp;refine gL (ι:=Nat × Option Addr × Nat) [5,22,23] [1000,1001,1002] (fun x=>[(22,.d (.one (.lit (.int .i64 (x.1:Int)))))]) (fun x=>[(1001,.var (some bo) [.lit (.slice x.2.1 (visL ts args x.1).length x.2.2)]),(1000,.buf (some (x.2.1,x.2.2)) 46 4 (Zab (visL ts args x.1))),(1002,.var (some bv) [.fn 127 [.lit (.pointer (some ⟨bo,0,none⟩)),.lit (.pointer (some ⟨bv,0,none⟩))]])]) (fun x=>x.1<=args.length) (fun x=>args.length - x.1) ((0,a,cap)) (Tai _) (fun x hx=>?_);clear F)
  obtain ⟨i,a2,cap2⟩:=x
  simp only at hx
  dsimp only
  by_cases hlt:i < args.length
  ·obtain ⟨b,hg⟩:∃ b,args[i]?=some b:=⟨_,Taa hlt⟩
   have q2:((i:Int) < (args.length:Int))=True:=eq_true om
   have q4:IntKind.i64.wrap ((i:Int)+1)=(i:Int)+1:=IntWalk.i64_in _ om
   have hvt:=ZgS hg
   have hle:=Zit args (i+1)
   rw [hvt,Tad] at hle
   have hcon:=h b (Tab hg) (visL ts args i) a2 cap2 (by unfold visL;rw [Tad];omega)
   rw [<- ZAR hg] at hcon
   (have F:=ai @q2 (ai @hc (ai @Zac (ai @ZbH (ai @hg @tmz))));refine gG ?_;clear F)
   refine gB ?_
   (have F:=ai @ktF (ai @hn1 (ai @hn2 @tmz));refine gCP [1001,1000,1002] [1001,1000,1002] (hcon) ?_;clear F)
   rintro r pm ⟨a3,cap3,rfl,rfl⟩
   simp only [ptr0,setA,retA,zipM,Tae,Tag]
   (have F:=@tmz;refine gR ?_;clear F)
   (have F:=@q4;refine gG ?_;exact ⟨(i+1,a3,cap3),hlt,gw,gw,by omega⟩)
  ·obtain rfl:i=args.length:=by omega
   have q2:((args.length:Int) < (args.length:Int))=False:=eq_false om
   (have F:=@q2;refine gG ?_;clear F)
   have hR:RVis bo bv 127 46 (ts++Za3 args) [] [.var (some bo) [.lit (.slice a2 (visL ts args args.length).length cap2)],.buf (some (a2,cap2)) 46 4 (Zab (visL ts args args.length)),.var (some bv) [.fn 127 [.lit (.pointer (some ⟨bo,0,none⟩)),.lit (.pointer (some ⟨bv,0,none⟩))]]]:=by
    rw [<- ZCr]
    exact ⟨a2,cap2,rfl,rfl⟩
   exact (have F:=tmz;gTPn [1001,1000,1002] hR)
theorem ZqQ (bo bv:Nat) (hne:bo≠bv) (n:Nat):∀ (t:Tm),ZbJ (encTm t) < n->Zae (encTm t)<=1048576->∀ (ts:List Tm) (a:Option Addr) (cap:Nat),ts.length+(Za9 t).length<=4000000->ConP e0 127 [.agg (encTm t),.one (.lit (ptr0 bo)),.one (.lit (ptr0 bv))] [.var (some bo) [.lit (.slice a ts.length cap)],.buf (some (a,cap)) 46 4 (Zab ts),.var (some bv) [.fn 127 [.lit (ptr0 bo),.lit (ptr0 bv)]]] (RVis bo bv 127 46 (ts++Za9 t)):=by
 induction n with
 | zero=>exact fun _ h=>by omega
 | succ n ih =>
  intro t hn hb ts a cap hl
  refine ZoI t ts a cap bo bv hne hb hl fun x hx us a cap hl2=>ih x ?_ ?_ us a cap hl2
  ·obtain ⟨op,nm,so,args⟩:=t
   simp only [encTm,ZbJ,ZeQ] at hn
   simp only [Tm.args] at hx
   obtain ⟨i,hi⟩:=Tbk hx
   have hi':(Zab args)[i]?=some (encTm x):=by rw [ZbH,hi];rfl
   have h1:=Zdw hi'
   omega
  ·obtain ⟨op,nm,so,args⟩:=t
   simp only [encTm,Zae,Zbr] at hb
   simp only [Tm.args] at hx
   obtain ⟨i,hi⟩:=Tbk hx
   have hi':(Zab args)[i]?=some (encTm x):=by rw [ZbH,hi];rfl
   have h1:=Zco hi'
   omega
theorem ZgT (t:Tm) (hb:Zae (encTm t)<=1048576):Con e0 74 [.agg (encTm t)] [.one (.sl (Zab (ZaD t)))]:=by
 have hv:=ZAQ hb
 refine gI (ts:=[.slot 2]) 31 Tryz.func74 ?_
 (have F:=@tmz;have NN:Zag 1:=trivial;refine gGn ?_;clear F NN)
 refine gB ?_
 (have F:=@tmz;refine gP 1 ?_;clear F)
 refine gO 5 46 4 ?_
 refine gS 5 fun a cap=>?_
 (have F:=@tmz;refine gR ?_;clear F)
 (have F:=ai @otF (ai @ztF @tmz);have NN:Zag 3:=trivial;refine gGn ?_;clear F NN)
 refine pV 3 fun b3 hb3=>?_
 refine pV 4 fun b4 hb4=>?_
 have hne:b3≠b4:=fun e=>hb4 3 b3 _ (by decide) rfl e.symm
 clear hb3 hb4
 have hn1:(b3=b4)=False:=eq_false hne
 have hn2:(b4=b3)=False:=eq_false (fun e=>hne e.symm)
 (have F:=ai @ktF (ai @ztF (ai @ZHq (ai @okFn (ai @hn1 (ai @hn2 @tmz)))));have NN:Zag 4:=trivial;refine gGn ?_;clear F NN)
 refine gB ?_
 have hcon:=ZqQ b3 b4 hne _ t (Tam _) om [] a cap (by simp;omega)
 have hdis:=fun (a:Option Addr) (cap:Nat)=>ZoH (Za9 t) om a cap
 simp only [ptr0,Taj,Tag,ZkH] at hcon
 (have F:=ai @ktF (ai @hn1 (ai @hn2 @tmz));refine gCP [3,5,4] [3,5,4] (hcon) ?_;clear F)
 rintro r pm ⟨a2,cap2,rfl,rfl⟩
 simp only [ptr0,setA,retA,zipM,Tae,Tag]
 (have F:=@tmz;refine gR ?_;clear F)
 (have F:=@tmz;refine gG ?_;clear F)
 refine gB ?_
 (have F:=ai @hn1 (ai @hn2 @tmz);refine gCP [5] [5] (hdis a2 cap2) ?_;clear F)
 rintro r pm ⟨rfl,rfl⟩
 simp only [setA,retA,zipM,Tae,Tag]
 (have F:=@tmz;refine gR ?_;clear F)
 refine pD 5 [2] [] ?_ (hs:=by exact snv)
 (have F:=@tmz;refine gG ?_;exact gTd)
theorem ZjF (nm:ByteArray) (so:Int):Con e0 142 [.one (.lit (.string nm)),.one (.lit (.int .i64 so))] [.agg (encTm (.mk (-1) nm so []))]:=by
 have c1:encTm (.mk (-1) nm so [])=[.lit (.int .i64 (-1)),.lit (.string nm),.lit (.int .i64 so),.sl []]:=by simp only [encTm,Zab]
 rw [c1]
 refine gI (ts:=[.cell 4 46]) 19 Tryz.func142 ?_
 (have F:=@e0P;refine gG ?_;exact gTd)
theorem Zwk {t x:Tm} {ts:List Tm} {i:Nat} (hx:ts[i]?=some x) (h:Zbo t ts=ts.take i++Zbo t (ts.drop i)) (hc:Zak x t < 0):Zbo t ts=ts.take (i+1)++Zbo t (ts.drop (i+1)):=by
 obtain ⟨hl,e⟩:=Tac.1 hx
 rw [h,List.drop_eq_getElem_cons hl,e,Zbo,if_pos hc]
 simp [List.take_add_one,hx]
theorem Zwl {t x:Tm} {ts:List Tm} {i:Nat} (hx:ts[i]?=some x) (h:Zbo t ts=ts.take i++Zbo t (ts.drop i)) (hc:Zak x t=0):Zbo t ts=ts:=by
 obtain ⟨hl,e⟩:=Tac.1 hx
 rw [h,List.drop_eq_getElem_cons hl,e,Zbo,if_neg om,if_pos hc,<- e,<- List.drop_eq_getElem_cons hl,Tbm]
theorem Zwm {t x:Tm} {ts:List Tm} {i:Nat} (hx:ts[i]?=some x) (h:Zbo t ts=ts.take i++Zbo t (ts.drop i)) (h1:¬ Zak x t < 0) (h2:¬ Zak x t=0):Zbo t ts=ts.take i++[t]++ts.drop i:=by
 obtain ⟨hl,e⟩:=Tac.1 hx
 rw [h,List.drop_eq_getElem_cons hl,e,Zbo,if_neg h1,if_neg h2]
 simp
theorem ZAS {t:Tm} {ts:List Tm} {i:Nat} (hi:ts.length<=i) (h:Zbo t ts=ts.take i++Zbo t (ts.drop i)):Zbo t ts=ts.take i++[t]++ts.drop i:=by
 rw [h,List.drop_eq_nil_of_le hi,Zbo]
 simp
theorem ZqR (ts:List Tm) (t:Tm) (hts:Zaz ts) (ht:okTm t) (hl:ts.length<=8000000):Con e0 187 [.one (.sl (Zab ts)),.agg (encTm t)] [.one (.sl (Zab (Zbo t ts)))]:=by
 refine gI (ts:=[.slot 4]) 8590459003 Tryz.func187 ?_
 (have F:=@tmz;refine gG ?_;clear F)
 (have F:=@tmz;refine gL (ι:=Nat) [5,19] [] (fun x=>[(5,.d (.one (.lit (.int .i64 (x:Int)))))]) (fun x=>[]) (fun x=>x<=ts.length∧Zbo t ts=ts.take x++Zbo t (ts.drop x)) (fun x=>ts.length - x) (0) (⟨Tai _,rfl⟩) (fun x hx=>?_);clear F)
 obtain ⟨hi,hf⟩:=hx
 by_cases hlt:x < ts.length
 ·obtain ⟨a,ha⟩:∃ n,ts[x]?=some n:=⟨_,Taa hlt⟩
  have q1:((x:Int) < (ts.length:Int))=True:=eq_true om
  have q4:IntKind.i64.wrap ((x:Int)+1)=(x:Int)+1:=IntWalk.i64_in _ om
  have hcmp:=Zfx (hts.mem (Tab ha)) ht
  (have F:=ai @q1 @tmz;refine gG ?_;clear F)
  refine gB ?_
  (have F:=ai @q1 (ai @tmz @ha);refine gC (hcmp) ?_;clear F)
  by_cases hc:Zak a t < 0
  ·have q2:(Zak a t < 0)=True:=eq_true hc
   (have F:=ai @q1 (ai @q2 @tmz);refine gR ?_;clear F)
   have hs:=Zwk ha hf hc
   (have F:=ai @q4 @q2;refine gG ?_;exact ⟨x+1,⟨hlt,hs⟩,gw,gw,by omega⟩)
  ·have q2:(Zak a t < 0)=False:=eq_false hc
   (have F:=ai @q1 (ai @q2 @tmz);refine gR ?_;clear F)
   (have F:=ai @q1 (ai @q2 @tmz);refine gG ?_;clear F)
   refine gB ?_
   (have F:=ai @q1 (ai @tmz @ha);refine gC (Ze0 (hts.mem (Tab ha)) ht) ?_;clear F)
   by_cases h0:Zak a t=0
   ·have q3:decide (Zak a t=0)=true:=decide_eq_true h0
    (have F:=ai @q1 (ai @q3 @tmz);refine gR ?_;clear F)
    rw [Zwl ha hf h0]
    (have F:=ai @q3 @tmz;refine gG ?_;exact gTd)
   ·have q3:decide (Zak a t=0)=false:=decide_eq_false h0
    (have F:=ai @q1 (ai @q3 @tmz);refine gR ?_;clear F)
    have hins:=Zwm ha hf hc h0
    (have F:=ai @q3 @tmz;have NN:Zag 6:=trivial;refine gGn ?_;clear F NN)
    rw [hins,Zcg,Zcg,Zgf,<- ZdN,<- Zev]
    have hxl:((x:Int)<=(ts.length:Int))=True:=eq_true om
    have r1:ZaT 4 ((Zab ts).take x)=true:=by rw [ZdN];exact Zdd _
    have r2:ZaT 4 ((Zab ts).drop x)=true:=by rw [Zev];exact Zdd _
    have n1:((Zab ts).take x).length<=8000000:=by rw [Tav,Zac];omega
    have n2:((Zab ts).drop x).length<=8000000:=by rw [Taw,Zac];omega
    have n3:((Zab ts).take x).length+1<=maxApp:=by unfold maxApp;omega
    have n4:((Zab ts).take x).length+1+((Zab ts).drop x).length<=maxApp:=by unfold maxApp;omega
    have F:=ai r1 (ai r2 (ai hxl (ai n3 (ai n4 tmz))))
    refine gA 7 4 ?_ (.inl rfl) ?_
    ·show 0+_<=maxApp
     unfold maxApp;omega
    clear F
    (have F:=ai @r1 (ai @r2 (ai @hxl (ai @n3 (ai @n4 @tmz))));refine gR ?_;clear F)
    have tkA:(Zab ts).take ts.length=Zab ts:=by rw [<- Zac ts,Tao]
    have n5:((Zab ts).take x++[encTm t]).length+((Zab ts).drop x).length<=maxApp:=by simp only [Tad,Taf,Taj];omega
    have hll:((ts.length:Int)<=(ts.length:Int))=True:=eq_true (Int.le_refl _)
    (have F:=ai @r1 (ai @r2 (ai @hxl (ai @n3 (ai @n4 (ai @n5 (ai @hll (ai @tkA @tmz)))))));refine gG ?_;exact gTz [4])
 ·have q1:((x:Int) < (ts.length:Int))=False:=eq_false om
  have hins:=ZAS om hf
  (have F:=ai @q1 @tmz;have NN:Zag 6:=trivial;refine gGn ?_;clear F NN)
  rw [hins,Zcg,Zcg,Zgf,<- ZdN,<- Zev]
  have hxl:((x:Int)<=(ts.length:Int))=True:=eq_true om
  have r1:ZaT 4 ((Zab ts).take x)=true:=by rw [ZdN];exact Zdd _
  have r2:ZaT 4 ((Zab ts).drop x)=true:=by rw [Zev];exact Zdd _
  have n1:((Zab ts).take x).length<=8000000:=by rw [Tav,Zac];omega
  have n2:((Zab ts).drop x).length<=8000000:=by rw [Taw,Zac];omega
  have n3:((Zab ts).take x).length+1<=maxApp:=by unfold maxApp;omega
  have n4:((Zab ts).take x).length+1+((Zab ts).drop x).length<=maxApp:=by unfold maxApp;omega
  have F:=ai r1 (ai r2 (ai hxl (ai n3 (ai n4 tmz))))
  refine gA 7 4 ?_ (.inl rfl) ?_
  ·show 0+_<=maxApp
   unfold maxApp;omega
  clear F
  (have F:=ai @r1 (ai @r2 (ai @hxl (ai @n3 (ai @n4 @tmz))));refine gR ?_;clear F)
  have tkA:(Zab ts).take ts.length=Zab ts:=by rw [<- Zac ts,Tao]
  have n5:((Zab ts).take x++[encTm t]).length+((Zab ts).drop x).length<=maxApp:=by simp only [Tad,Taf,Taj];omega
  have hll:((ts.length:Int)<=(ts.length:Int))=True:=eq_true (Int.le_refl _)
  (have F:=ai @r1 (ai @r2 (ai @hxl (ai @n3 (ai @n4 (ai @n5 (ai @hll (ai @tkA @tmz)))))));refine gG ?_;exact gTz [4])
theorem ZAT {e:Env} {f:FuncId} {a:D} {rows:List (List C)} {r:List D} (h:Con e f [a,.one (.sl rows)] r):Con e f [a,.clip rows] r :=
 ⟨h.1,fun w S vs h1 h2 h3 h4=>h.2 w S vs h1 h2 h3 (by
  match vs,h4 with
  | [x,y],h4=>exact ⟨h4.1,h4.2.1.1,trivial⟩)⟩
theorem ZqS {op so:Int} {nm:ByteArray} {args:List Tm} (h:okTm (.mk op nm so args)):okTm (.mk (-1) nm so []):=by
 simp only [okTm,Zaz,and_true] at h ⊢
 exact ⟨by unfold I64;omega,h.2.1,h.2.2.1⟩
def colT (l:List Tm) (r:List Tm):List Tm:=l.foldl (fun r t=>Zbo t r) r
theorem colT_nil0 {ts:List Tm}:colT (Za3 []) ts=ts:=by simp [colT,Za3]
theorem ZCs (a b r:List Tm):colT (a++b) r=colT b (colT a r):=by unfold colT;rw [List.foldl_append]
theorem Zoe (t:Tm):∀ l:List Tm,(Zbo t l).length<=l.length+1
 | []=>by simp [Zbo]
 | x::xs=>by
  have:=Zoe t xs
  simp only [Zbo]
  split
  ·simp only [Taf];omega
  ·split <;> simp only [Taf] <;> omega
theorem Zk6:∀ (l r:List Tm),(colT l r).length<=r.length+l.length
 | [],r=>by simp [colT]
 | x::xs,r=>by
  have h1:=Zk6 xs (Zbo x r)
  have h2:=Zoe x r
  simp only [colT,List.foldl_cons,Taf] at h1 ⊢
  omega
theorem ZqT {t:Tm} (ht:okTm t):∀ {l:List Tm},Zaz l->Zaz (Zbo t l)
 | [],_=>by simp only [Zbo,Zaz];exact ⟨ht,trivial⟩
 | x::xs,h=>by
  simp only [Zaz] at h
  simp only [Zbo]
  split
  ·simp only [Zaz];exact ⟨h.1,ZqT ht h.2⟩
  ·split
   ·simp only [Zaz];exact h
   ·simp only [Zaz];exact ⟨ht,h⟩
theorem Zna:∀ {l r:List Tm},Zaz l->Zaz r->Zaz (colT l r)
 | [],r,_,h=>h
 | x::xs,r,h1,h2=>by
  simp only [Zaz] at h1
  exact Zna (l:=xs) (r:=Zbo x r) h1.2 (ZqT h1.1 h2)
theorem Zof:∀ {a b:List Tm},Zaz a->Zaz b->Zaz (a++b)
 | [],_,_,h=>h
 | x::xs,b,h1,h2=>by
  simp only [Zaz] at h1
  simp only [Tae,Zaz]
  exact ⟨h1.1,Zof h1.2 h2⟩
mutual
theorem Zog:∀ {t:Tm},okTm t->Zaz (Za9 t)
 | .mk op nm so args,h=>by
  simp only [Za9]
  split
  ·simp only [Zaz];exact ⟨ZqS h,trivial⟩
  ·simp only [okTm] at h;exact Ziu h.2.2.2
theorem Ziu:∀ {l:List Tm},Zaz l->Zaz (Za3 l)
 | [],_=>by simp [Za3,Zaz]
 | x::xs,h=>by
  simp only [Zaz] at h
  simp only [Za3]
  exact Zof (Zog h.1) (Ziu h.2)
end
theorem Zmm:∀ {l:List Tm} (i:Nat),Zaz l->Zaz (l.take i)
 | [],_,_=>by simp [Zaz]
 | x::xs,0,_=>by simp [Zaz]
 | x::xs,i+1,h=>by
  simp only [Zaz] at h
  simp only [Tbc,Zaz]
  exact ⟨h.1,Zmm i h.2⟩
theorem Zk7 (t:Tm) (ts:List Tm) (ht:okTm t) (hts:Zaz ts) (hb:Zae (encTm t)<=1048576) (hl:ts.length+(Za9 t).length<=7000000) (h:∀ x∈t.args,∀ us:List Tm,Zaz us->us.length+(Za9 x).length<=7000000->Con e0 126 [.agg (encTm x),.one (.sl (Zab us))] [.one (.sl (Zab (colT (Za9 x) us)))]) :
  Con e0 126 [.agg (encTm t),.one (.sl (Zab ts))] [.one (.sl (Zab (colT (Za9 t) ts)))]:=by
 obtain ⟨op,nm,so,args⟩:=t
 have hc:encTm (.mk op nm so args)=[.lit (.int .i64 op),.lit (.string nm),.lit (.int .i64 so),.sl (Zab args)]:=by simp only [encTm]
 simp only [Tm.args] at h
 simp only [encTm,Zae,Zbr,Zac] at hb
 refine gI (ts:=[.slot 4]) 1048887 Tryz.func126 ?_
 by_cases ho:op=-1
 ·have q1:(op=-1)=True:=eq_true ho
  have e1:Za9 (.mk op nm so args)=[.mk (-1) nm so []]:=by simp only [Za9,if_pos ho]
  rw [e1] at hl ⊢
  simp only [Taf,Taj,Nat.zero_add] at hl
  have hI:=ZqR ts (.mk (-1) nm so []) hts (ZqS ht) om
  (have F:=ai @hc (ai @q1 @tmz);refine gG ?_;clear F)
  refine gB ?_
  (have F:=@hc;refine gC (ZjF nm so) ?_;clear F)
  (have F:=@hc;refine gC (hI) ?_;clear F)
  (have F:=@hc;refine gR ?_;clear F)
  simp only [colT,List.foldl_cons,List.foldl_nil]
  (have F:=@tmz;refine gG ?_;exact gTd)
 ·have q1:(op=-1)=False:=eq_false ho
  have e1:Za9 (.mk op nm so args)=Za3 args:=by simp only [Za9,if_neg ho]
  rw [e1] at hl ⊢
  have hk:Zaz args:=by simp only [okTm] at ht;exact ht.2.2.2
  (have F:=ai @hc (ai @q1 @tmz);refine gG ?_;clear F)
  (have F:=ai ((fun (r:List Tm)=>(colT_nil0:colT (Za3 []) r=r))) @tmz;refine gL (ι:=Nat) [1,5,20] [] (fun x=>[(5,.d (.one (.lit (.int .i64 (x:Int))))),(1,.d (.one (.sl (Zab (colT (Za3 (args.take x)) ts)))))]) (fun x=>[]) (fun x=>x<=args.length) (fun x=>args.length - x) (0) (Tai _) (fun x hx=>?_);clear F)
  by_cases hlt:x < args.length
  ·obtain ⟨b,hg⟩:∃ b,args[x]?=some b:=⟨_,Taa hlt⟩
   have q2:((x:Int) < (args.length:Int))=True:=eq_true om
   have q4:IntKind.i64.wrap ((x:Int)+1)=(x:Int)+1:=IntWalk.i64_in _ om
   have hvt:=ZgS hg
   have hle:=Zit args (x+1)
   rw [hvt,Tad] at hle
   have hcl:=Zk6 (Za3 (args.take x)) ts
   have hcon:=h b (Tab hg) (colT (Za3 (args.take x)) ts) (Zna (Ziu (Zmm x hk)) hts) om
   rw [<- ZCs,<- hvt] at hcon
   (have F:=ai @q2 (ai @hc @tmz);refine gG ?_;clear F)
   refine gB ?_
   (have F:=ai @q2 (ai @hc (ai @hg @tmz));refine gC (hcon) ?_;clear F)
   (have F:=@tmz;refine gR ?_;clear F)
   (have F:=@q4;refine gG ?_;exact ⟨x+1,hlt,gw,gw,by omega⟩)
  ·obtain rfl:x=args.length:=by omega
   have q2:((args.length:Int) < (args.length:Int))=False:=eq_false om
   rw [Tao]
   (have F:=ai @q2 (ai @hc @tmz);refine gG ?_;exact gTd)
theorem Zmn (n:Nat):∀ t:Tm,ZbJ (encTm t) < n->okTm t->Zae (encTm t)<=1048576->∀ ts:List Tm,Zaz ts->ts.length+(Za9 t).length<=7000000->Con e0 126 [.agg (encTm t),.one (.sl (Zab ts))] [.one (.sl (Zab (colT (Za9 t) ts)))]:=by
 induction n with
 | zero=>exact fun _ h=>by omega
 | succ n ih =>
  intro t hn ht hb ts hts hl
  refine Zk7 t ts ht hts hb hl fun x hx us hus hl2=>?_
  obtain ⟨op,nm,so,args⟩:=t
  simp only [encTm,ZbJ,ZeQ] at hn
  simp only [encTm,Zae,Zbr] at hb
  simp only [okTm] at ht
  simp only [Tm.args] at hx
  obtain ⟨i,hi⟩:=Tbk hx
  have hi':(Zab args)[i]?=some (encTm x):=by rw [ZbH,hi];rfl
  have h1:=Zdw hi'
  have h2:=Zco hi'
  exact ih x om (ht.2.2.2.mem hx) om us hus hl2
theorem ZgU {t:Tm} (ht:okTm t) (hb:Zae (encTm t)<=1048576):Con e0 73 [.agg (encTm t)] [.one (.sl (Zab (ZaD t)))]:=by
 have hv:=Zk5 t
 have hcon:=Zmn _ t (Tam _) ht hb [] trivial (by simp;omega)
 have hcon:=ZAT (by rw [ZkH] at hcon;exact hcon)
 rw [show colT (Za9 t) []=ZaD t from rfl] at hcon
 refine gI (ts:=[.slot 2]) 7 Tryz.func73 ?_
 (have F:=@tmz;refine gG ?_;clear F)
 refine gB ?_
 (have F:=@tmz;refine gC (hcon) ?_;clear F)
 (have F:=@tmz;refine gR ?_;clear F)
 (have F:=@tmz;refine gG ?_;exact gTd)
theorem Zwn {l:List Tm} (h:Zaz l):Zaz (Zdg l):=Zna (r:=[]) h trivial
theorem Zmp {t:Tm} (h:okTm t):Zaz (ZaD t):=Zwn (Zog h)
theorem ZCt (l:List Tm):(Zdg l).length<=l.length:=by have:=Zk6 l [];simpa [colT,Zdg] using this
theorem Zgh (t:Tm):(ZaD t).length<=1+Zae (encTm t):=Tbe (ZCt _) (Zk5 t)
theorem ZoK {vs:List Tm} {p:Tm->Bool} {i:Nat} {a:Tm} (h:vs[i]?=some a):(vs.take (i+1)).any p=((vs.take i).any p || p a):=by
 rw [List.take_add_one,h];simp
theorem ZoL {vs:List Tm} {p:Tm->Bool} {i:Nat} {a:Tm} (h:vs[i]?=some a):(vs.take (i+1)).all p=((vs.take i).all p && p a):=by
 rw [List.take_add_one,h];simp
theorem ZcS {α:Type} {vs:List α} {p:α->Bool} {i:Nat} {a:α} (h:vs[i]?=some a):(vs.take (i+1)).all p=((vs.take i).all p && p a):=by
 rw [List.take_add_one,h];simp
theorem Zca {α:Type} {vs:List α} {p:α->Bool} {a:α} (h:a∈vs) (hp:p a=false):vs.all p=false:=by
 rw [List.all_eq_false]
 exact ⟨a,h,by simp [hp]⟩
structure Eqn where
 l:Tm
 r:Tm
 cs:List (Tm × Tm)
def Zb5 (c:Tm × Tm):List C:=encTm c.1++encTm c.2
def ZaV (e:Eqn):List C:=encTm e.l++(encTm e.r++[.sl (e.cs.map Zb5)])
def Zo8 (c:Tm × Tm):Prop:=okTm c.1∧okTm c.2
def ZfE (e:Eqn):Prop:=okTm e.l∧okTm e.r∧∀ c∈e.cs,Zo8 c
theorem ZHr {row:List C} (h:Zal (Zad .cond) row):∃ c,row=Zb5 c∧Zo8 c:=by
 obtain ⟨i0,t1,i2,r3,i4,t5,i6,r7,rfl,g0,g1,g2,g3,g4,g5,g6,g7⟩:=ZdW h
 obtain ⟨a,rfl,ha⟩:=ZlM g3
 obtain ⟨a',rfl,ha'⟩:=ZlM g7
 refine ⟨(.mk i0 t1 i2 a,.mk i4 t5 i6 a'),by simp [Zb5,encTm],?_⟩
 simp only [Zo8,okTm]
 exact ⟨⟨g0,g1,g2,ha⟩,g4,g5,g6,ha'⟩
theorem Zu6:∀ {rows:List (List C)},Zao (Zad .cond) rows->∃ cs:List (Tm × Tm),rows=cs.map Zb5∧∀ c∈cs,Zo8 c
 | [],_=>⟨[],rfl,by simp⟩
 | r::rs,h=>by
  simp only [Zao] at h
  obtain ⟨c,rfl,hc⟩:=ZHr h.1
  obtain ⟨cs,rfl,hcs⟩:=Zu6 h.2
  exact ⟨c::cs,rfl,by intro x hx;rcases Tbg.1 hx with rfl | hx;exact hc;exact hcs x hx⟩
theorem ZHs {row:List C} (h:Zal (Zad .eqn) row):∃ e,row=ZaV e∧ZfE e:=by
 obtain ⟨i0,t1,i2,r3,i4,t5,i6,r7,r8,rfl,g0,g1,g2,g3,g4,g5,g6,g7,g8⟩:=Zem h
 obtain ⟨a,rfl,ha⟩:=ZlM g3
 obtain ⟨a',rfl,ha'⟩:=ZlM g7
 obtain ⟨cs,rfl,hcs⟩:=Zu6 g8
 refine ⟨⟨.mk i0 t1 i2 a,.mk i4 t5 i6 a',cs⟩,by simp [ZaV,encTm],?_,?_,hcs⟩
 ·simp only [okTm];exact ⟨g0,g1,g2,ha⟩
 ·simp only [okTm];exact ⟨g4,g5,g6,ha'⟩
theorem tm4 (t:Tm):∃ a b c d,encTm t=[a,b,c,d]:=by
 obtain ⟨op,nm,so,args⟩:=t
 simp only [encTm]
 exact ⟨_,_,_,_,rfl⟩
theorem Zgq (t:Tm) (l:List C):(encTm t++l).take 4=encTm t:=by obtain ⟨a,b,c,d,h⟩:=tm4 t;rw [h];rfl
theorem Zfm (t:Tm) (l:List C):(encTm t++l).drop 4=l:=by obtain ⟨a,b,c,d,h⟩:=tm4 t;rw [h];rfl
theorem ZqU (e:Eqn):(ZaV e).take 4=encTm e.l:=Zgq _ _
theorem Zld (e:Eqn):(ZaV e).drop 4=encTm e.r++[.sl (e.cs.map Zb5)]:=Zfm _ _
theorem ZqV (e:Eqn):(ZaV e).drop 8=[.sl (e.cs.map Zb5)]:=by
 rw [show (8:Nat)=4+4 from rfl,<- List.drop_drop,Zld,Zfm]
theorem ZjJ (e:Eqn):(ZaV e).length=9:=by simp [ZaV,(tmz.2.2.2.2.1:∀ t,(encTm t).length=4)]
theorem ZqW (e:Eqn):(ZaV e).take 9=ZaV e:=List.take_of_length_le (by rw [ZjJ];exact Tah _)
theorem ZqX (e:Eqn):(ZaV e).drop 9=[]:=List.drop_of_length_le (by rw [ZjJ];exact Tah _)
theorem Zwo (e:Eqn):(ZaV e).all ZaE=true:=by
 simp only [ZaV,List.all_append,(tmz.2.2.2.2.2.2.2.1:∀ t,(encTm t).all ZaE=true),Bool.true_and]
 rfl
theorem ZFP (e:Eqn):valT TK.one (ZaV e)=some (A.d (.one (.lit (.int .i64 e.l.op)))):=by
 obtain ⟨⟨op,nm,so,args⟩,r,cs⟩:=e
 simp [ZaV,encTm,valT,Tm.op]
theorem ZjK (c:Tm × Tm):(Zb5 c).length=8:=by simp [Zb5,(tmz.2.2.2.2.1:∀ t,(encTm t).length=4)]
theorem ZqY (c:Tm × Tm):(Zb5 c).take 4=encTm c.1:=Zgq _ _
theorem ZqZ (c:Tm × Tm):(Zb5 c).drop 4=encTm c.2:=Zfm _ _
theorem Zq0 (c:Tm × Tm):(Zb5 c).take 8=Zb5 c:=List.take_of_length_le (by rw [ZjK];exact Tah _)
theorem Zq1 (c:Tm × Tm):(Zb5 c).drop 8=[]:=List.drop_of_length_le (by rw [ZjK];exact Tah _)
theorem Zwp (c:Tm × Tm):(Zb5 c).all ZaE=true:=by
 simp only [Zb5,List.all_append,(tmz.2.2.2.2.2.2.2.1:∀ t,(encTm t).all ZaE=true),Bool.true_and]
theorem Zu7 (cs:List (Tm × Tm)):ZaT 8 (cs.map Zb5)=true:=by
 induction cs with
 | nil=>rfl
 | cons c cs ih=>simp only [Tbv,Zed,ZjK,ih];simp [Zwp]
theorem eqz:type_of% (ai ZqU (ai Zld (ai ZqV (ai ZjJ (ai ZqW (ai ZqX (ai Zwo (ai ZFP (ai ZjK (ai ZqY (ai ZqZ (ai Zq0 (ai Zq1 (ai Zwp (ai Zu7 (ai Zgq Zfm)))))))))))))))):=ai ZqU (ai Zld (ai ZqV (ai ZjJ (ai ZqW (ai ZqX (ai Zwo (ai ZFP (ai ZjK (ai ZqY (ai ZqZ (ai Zq0 (ai Zq1 (ai Zwp (ai Zu7 (ai Zgq Zfm)))))))))))))))
noncomputable def ZbF (g:Sgn) (l r:Tm):Bool:=Zb4 g l && (Zb4 g r && decide (ZaS g l=ZaS g r))
def hasB (vs:List Tm) (v:Tm):Bool:=vs.any fun a=>decide (Zak v a=0)
def ZdG (vs:List Tm) (t:Tm):Bool:=(ZaD t).all (hasB vs)
noncomputable def cndB (g:Sgn) (vs:List Tm) (c:Tm × Tm):Bool:=ZbF g c.1 c.2 && (ZdG vs c.1 && ZdG vs c.2)
noncomputable def eqnB (g:Sgn) (e:Eqn):Bool:=ZbF g e.l e.r && (!decide (e.l.op=-1) && (decide (e.cs.length<=2) && (decide ((ZaD e.l).length<=5) && (ZdG (ZaD e.l) e.r && e.cs.all (cndB g (ZaD e.l))))))
noncomputable def Ziv (g:Sgn) (e:Eqn):Bool:=Zcb g && eqnB g e
theorem Zsf {s:ByteArray} (h:Zbm s=true):s.size<=12:=by
 simp only [Zbm,Taq,decide_eq_true_eq] at h
 exact h.1.1.1.2
mutual
theorem Zoi {g:Sgn}:∀ {t:Tm},ZaO g t->Zae (encTm t)+1<=14 * sizeTm t
 | .mk op nm so args,h=>by
  simp only [ZaO] at h
  obtain ⟨hn,ha,_⟩:=h
  have h1:=Zmw ha
  have h2:nm.size<=12:=by
   rcases hn with hn | ⟨o,d,hn⟩
   ·exact Zsf hn.2.1
   ·have:=hn.nm
    simp only [Tm.name] at this
    rw [this]
    exact Tai _
  simp only [encTm,Zae,Zbr,sizeTm]
  omega
theorem Zmw {g:Sgn}:∀ {ts:List Tm},ZcD g ts->(Zab ts).length+Zaf (Zab ts)<=14 * sizeTms ts
 | [],_=>by simp [Zab,Zaf]
 | t::ts,h=>by
  simp only [ZcD] at h
  have h1:=Zoi h.1
  have h2:=Zmw h.2
  simp only [Zab,Zaf,Taf,sizeTms]
  omega
end
theorem ZjL {g:Sgn} {t:Tm} (h:Zb4 g t=true):Zae (encTm t)<=1048576:=by
 have:=Zoi (Zei.1 h).form
 have:=(Zei.1 h).size
 omega
theorem ZkI {g:Sgn} (hokg:Zdq g) (hg:SgnOk g) {l r:Tm} (hl:okTm l) (hr:okTm r) (hbl:Zae (encTm l)<=1048576) (hbr:Zae (encTm r)<=1048576):Con e0 203 [.agg (Zav g),.agg (encTm l),.agg (encTm r)] [.one (.lit (.bool (ZbF g l r)))]:=by
 have b1:=ZhC hbl
 have b2:=ZhC hbr
 have cF1:=Zl6 hokg hg hl b1
 have cF2:=Zl6 hokg hg hr b2
 have cK1:=fun h=>Zgd hokg hg (t:=l) h
 have cK2:=fun h=>Zgd hokg hg (t:=r) h
 rw [Zav] at cF1 cF2 cK1 cK2
 refine gI 127 Tryz.func203 ?_
 (have F:=ai @tmz @ZaG;refine gG ?_;clear F)
 refine gB ?_
 (have F:=@tmz;refine gC (Zhz b1) ?_;clear F)
 by_cases h1:sizeTm l<=60∧depthTm l<=20
 rotate_left
 ·have hf:ZbF g l r=false:=by rw [ZbF,ZgJ fun h=>h1 ⟨h.size,h.depth⟩];rfl
  have h1':decide (sizeTm l<=60∧depthTm l<=20)=false:=by simp only [decide_eq_false_iff_not];exact h1
  (have F:=ai @tmz @h1';refine gR ?_;clear F)
  (have F:=@hf;refine gG ?_;exact gT)
 have h1':decide (sizeTm l<=60∧depthTm l<=20)=true:=by simp only [decide_eq_true_eq];exact h1
 (have F:=ai @tmz @h1';refine gC (cF1) ?_;clear F)
 have e1:=Zhw (g:=g) h1.1 h1.2
 cases hF1:ZbT g l with
 | false =>
  have hf:ZbF g l r=false:=by rw [ZbF,<- e1,hF1];rfl
  (have F:=ai @tmz @h1';refine gR ?_;clear F)
  (have F:=@hf;refine gG ?_;exact gT)
 | true =>
  (have F:=ai @tmz @h1';refine gC (Zhz b2) ?_;clear F)
  by_cases h2:sizeTm r<=60∧depthTm r<=20
  rotate_left
  ·have hf:ZbF g l r=false:=by rw [ZbF,ZgJ (t:=r) fun h=>h2 ⟨h.size,h.depth⟩];simp
   have h2':decide (sizeTm r<=60∧depthTm r<=20)=false:=by simp only [decide_eq_false_iff_not];exact h2
   (have F:=ai @tmz (ai @h1' @h2');refine gR ?_;clear F)
   (have F:=@hf;refine gG ?_;exact gT)
  have h2':decide (sizeTm r<=60∧depthTm r<=20)=true:=by simp only [decide_eq_true_eq];exact h2
  (have F:=ai @tmz (ai @h1' @h2');refine gC (cF2) ?_;clear F)
  have e2:=Zhw (g:=g) h2.1 h2.2
  cases hF2:ZbT g r with
  | false =>
   have hf:ZbF g l r=false:=by rw [ZbF,<- e2,hF2];simp
   (have F:=ai @tmz (ai @h1' @h2');refine gR ?_;clear F)
   (have F:=@hf;refine gG ?_;exact gT)
  | true =>
   have ef:ZbF g l r=decide (ZaS g l=ZaS g r):=by rw [ZbF,<- e1,<- e2,hF1,hF2];rfl
   (have F:=ai @tmz (ai @h1' @h2');refine gC (cK1 (Zgc.1 hF1).node) ?_;clear F)
   (have F:=ai @tmz (ai @h1' @h2');refine gC (cK2 (Zgc.1 hF2).node) ?_;clear F)
   (have F:=ai @tmz (ai @h1' @h2');refine gR ?_;clear F)
   (have F:=@ef;refine gG ?_;exact gT)
theorem any_nil0 {p:Tm->Bool}:([]:List Tm).any p=false:=rfl
theorem ZfW {t:Tm} {vs:List Tm} (ht:okTm t) (hvs:Zaz vs) (hb:Zae (encTm t)<=1048576) (hl:vs.length<=8000000):Con e0 204 [.agg (encTm t),.one (.sl (Zab vs))] [.one (.lit (.bool (ZdG vs t)))]:=by
 have hok:=Zmp ht
 have hle:=Zgh t
 have cV:=ZgU ht hb
 have eW:ZdG vs t=(ZaD t).all (hasB vs):=rfl
 rw [eW]
 clear eW
 generalize ZaD t=us at hok hle cV ⊢
 refine gI 68720542199 Tryz.func204 ?_
 (have F:=@tmz;refine gG ?_;clear F)
 refine gB ?_
 (have F:=@tmz;refine gC (cV) ?_;clear F)
 (have F:=@tmz;refine gR ?_;clear F)
 (have F:=@tmz;refine gG ?_;clear F)
 (have F:=@e0P;refine gL (ι:=Nat) [4,6,7,8,14,20,36] [] (fun x=>[(6,A.d (.one (.lit (.int .i64 x))))]) (fun x=>[]) (fun x=>x<=us.length∧(us.take x).all (hasB vs)=true) (fun x=>us.length - x) (0) (⟨Tai _,rfl⟩) (fun x hx=>?_);clear F)
 obtain ⟨hxl,hall⟩:=hx
 by_cases hlt:x < us.length
 rotate_left
 ·have q1:¬ ((x:Int) < (us.length:Int)):=by omega
  obtain rfl:x=us.length:=by omega
  rw [Tao] at hall
  (have F:=ai @tmz (ai @q1 @hall);refine gG ?_;exact gT)
 have q1:(x:Int) < (us.length:Int):=by omega
 obtain ⟨v,hv⟩:∃ a,us[x]?=some a:=⟨_,Taa hlt⟩
 have hvo:=hok.mem (Tab hv)
 have hw1:=Zap (k:=x) om
 (have F:=ai @tmz @q1;refine gG ?_;clear F)
 (have F:=((fun (p:Tm->Bool)=>(any_nil0:([]:List Tm).any p=false)));refine gL (ι:=Nat) [7,8,20] [] (fun y=>[(7,.d (.one (.lit (.bool ((vs.take y).any fun a=>decide (Zak v a=0)))))),(8,A.d (.one (.lit (.int .i64 y))))]) (fun y=>[]) (fun y=>y<=vs.length) (fun y=>vs.length - y) (0) (Tai _) (fun y hy=>?_);clear F)
 by_cases hlt2:y < vs.length
 rotate_left
 ·have q2:¬ ((y:Int) < (vs.length:Int)):=by omega
  obtain rfl:y=vs.length:=by omega
  rw [Tao]
  cases hh:hasB vs v with
  | true =>
   have e:(vs.any fun a=>decide (Zak v a=0))=true:=hh
   have hq:x+1<=us.length∧(us.take (x+1)).all (hasB vs)=true:=⟨hlt,by rw [ZoL hv,hall,hh];rfl⟩
   (have F:=ai @tmz (ai @q1 (ai @q2 (ai @e @hw1)));refine gG ?_;exact ⟨x+1,hq,gw,gw,by omega⟩)
  | false =>
   have e:(vs.any fun a=>decide (Zak v a=0))=false:=hh
   have hf:us.all (hasB vs)=false:=Zca (Tab hv) hh
   (have F:=ai @tmz (ai @q1 (ai @q2 (ai @e @hf)));refine gG ?_;exact gT)
 have q2:(y:Int) < (vs.length:Int):=by omega
 obtain ⟨a,ha⟩:∃ a,vs[y]?=some a:=⟨_,Taa hlt2⟩
 have hao:=hvs.mem (Tab ha)
 have hw2:=Zap (k:=y) om
 have hst:=ZoK (p:=fun a=>decide (Zak v a=0)) ha
 cases hc:(vs.take y).any fun a=>decide (Zak v a=0) with
 | true =>
  rw [hc,Bool.true_or] at hst
  (have F:=ai @tmz (ai @q1 @q2);refine gG ?_;clear F)
  (have F:=ai @tmz (ai @q2 (ai @hst @hw2));refine gG ?_;exact ⟨y+1,hlt2,gw,gw,by omega⟩)
 | false =>
  rw [hc,Bool.false_or] at hst
  (have F:=ai @tmz (ai @q1 @q2);refine gG ?_;clear F)
  refine gB ?_
  (have F:=ai @tmz (ai @q1 (ai @q2 (ai @hv @ha)));refine gC (Ze0 hvo hao) ?_;clear F)
  (have F:=ai @tmz (ai @q1 @q2);refine gR ?_;clear F)
  (have F:=ai @tmz (ai @q2 (ai @hst @hw2));refine gG ?_;exact ⟨y+1,hlt2,gw,gw,by omega⟩)
theorem Zq2 (e:Eqn):Zae (ZaV e)=Zae (encTm e.l)+(Zae (encTm e.r)+(e.cs.length+Zaf (e.cs.map Zb5))):=by
 rw [ZaV,Zk8,Zk8]
 simp [Zae,Zbr]
theorem Zq3 {cs:List (Tm × Tm)} {c:Tm × Tm} (h:c∈cs):Zae (encTm c.1)+Zae (encTm c.2)<=Zaf (cs.map Zb5):=by
 obtain ⟨i,hi⟩:=Tbk h
 have:(cs.map Zb5)[i]?=some (Zb5 c):=by rw [Taz,hi];rfl
 have:=Zco this
 rw [Zb5,Zk8] at this
 exact this
theorem Zsg {g:Sgn} {e:Eqn} (hokg:Zdq g) (he:ZfE e) (hb:Zae (ZaV e)<=1048576):Con e0 137 [.agg (Zav g),.agg (ZaV e)] [.one (.lit (.bool (Ziv g e)))]:=by
 rw [Zq2] at hb
 obtain ⟨hol,hor,hoc⟩:=he
 have cS:=Zku hokg
 rw [Zav] at cS
 refine gI 151115728032372933787903 Tryz.func137 ?_
 (have F:=ai @tmz (ai @eqz @ZaG);refine gG ?_;clear F)
 refine gB ?_
 (have F:=ai @tmz (ai @eqz @ZaG);refine gC (cS) ?_;clear F)
 by_cases hs:Zcb g=true
 rotate_left
 ·have hs':Zcb g=false:=by simpa using hs
  have hf:Ziv g e=false:=by simp [Ziv,hs']
  (have F:=ai @tmz (ai @eqz (ai @ZaG @hs'));refine gR ?_;clear F)
  (have F:=@hf;refine gG ?_;exact gT)
 have hg:=Zjf.1 hs
 have ei:Ziv g e=eqnB g e:=by simp [Ziv,hs]
 rw [ei]
 have cP:=ZkI hokg hg hol hor om om
 rw [Zav] at cP
 (have F:=ai @tmz (ai @eqz (ai @ZaG @hs));refine gC (cP) ?_;clear F)
 cases hP:ZbF g e.l e.r with
 | false =>
  have hf:eqnB g e=false:=by simp [eqnB,hP]
  (have F:=ai @tmz (ai @eqz (ai @ZaG @hs));refine gR ?_;clear F)
  (have F:=@hf;refine gG ?_;exact gT)
 | true =>
  by_cases h1:e.l.op=-1
  ·have hf:eqnB g e=false:=by simp [eqnB,h1]
   (have F:=ai @tmz (ai @eqz (ai @ZaG (ai @hs @h1)));refine gR ?_;clear F)
   (have F:=@hf;refine gG ?_;exact gT)
  have h1':(e.l.op=-1)=False:=eq_false h1
  by_cases h2:e.cs.length<=2
  rotate_left
  ·have hf:eqnB g e=false:=by simp [eqnB,h2]
   have h2':(2:Int) < (e.cs.length:Int):=by omega
   (have F:=ai @tmz (ai @eqz (ai @ZaG (ai @hs (ai @h1' @h2'))));refine gR ?_;clear F)
   (have F:=@hf;refine gG ?_;exact gT)
  have h2':¬ ((2:Int) < (e.cs.length:Int)):=by omega
  have cV:=ZgU hol om
  have hvo:=Zmp hol
  have hvl:=Zgh e.l
  have cWr:=ZfW hor hvo om om
  (have F:=ai @tmz (ai @eqz (ai @ZaG (ai @hs (ai @h1' @h2'))));refine gR ?_;clear F)
  (have F:=ai @tmz (ai @eqz @ZaG);refine gG ?_;clear F)
  refine gB ?_
  (have F:=ai @tmz (ai @eqz @ZaG);refine gC (cV) ?_;clear F)
  (have F:=ai @tmz (ai @eqz @ZaG);refine gR ?_;clear F)
  by_cases h3:(ZaD e.l).length<=5
  rotate_left
  ·have hf:eqnB g e=false:=by simp [eqnB,h3]
   have h3':(5:Int) < ((ZaD e.l).length:Int):=by omega
   (have F:=ai @tmz (ai @eqz (ai @ZaG (ai @h3' @hf)));refine gG ?_;exact gT)
  have h3':¬ ((5:Int) < ((ZaD e.l).length:Int)):=by omega
  (have F:=ai @tmz (ai @eqz (ai @ZaG @h3'));refine gG ?_;clear F)
  refine gB ?_
  (have F:=ai @tmz (ai @eqz (ai @ZaG @h3'));refine gC (cWr) ?_;clear F)
  cases hW:ZdG (ZaD e.l) e.r with
  | false =>
   have hf:eqnB g e=false:=by simp [eqnB,hW]
   (have F:=ai @tmz (ai @eqz (ai @ZaG @h3'));refine gR ?_;clear F)
   (have F:=@hf;refine gG ?_;exact gT)
  | true =>
   have ea:eqnB g e=e.cs.all (cndB g (ZaD e.l)):=by simp [eqnB,hP,h1,h2,h3,hW]
   rw [ea]
   (have F:=ai @tmz (ai @eqz (ai @ZaG @h3'));refine gR ?_;clear F)
   (have F:=ai @tmz (ai @eqz @ZaG);refine gG ?_;clear F)
   generalize ZaD e.l=vs at *
   (have F:=@e0P;refine gL (ι:=Nat) [4,6,7,49,77] [] (fun x=>[(6,A.d (.one (.lit (.int .i64 x))))]) (fun x=>[]) (fun x=>x<=e.cs.length∧(e.cs.take x).all (cndB g vs)=true) (fun x=>e.cs.length - x) (0) (⟨Tai _,rfl⟩) (fun x hx=>?_);clear F)
   obtain ⟨hxl,hall⟩:=hx
   by_cases hlt:x < e.cs.length
   rotate_left
   ·have q1:¬ ((x:Int) < (e.cs.length:Int)):=by omega
    obtain rfl:x=e.cs.length:=by omega
    rw [Tao] at hall
    (have F:=ai @tmz (ai @eqz (ai @ZaG (ai @q1 @hall)));refine gG ?_;exact gT)
   have q1:(x:Int) < (e.cs.length:Int):=by omega
   obtain ⟨c,hc⟩:∃ a,e.cs[x]?=some a:=⟨_,Taa hlt⟩
   have hm:=Tab hc
   have hco:=hoc c hm
   have hcb:=Zq3 hm
   have hw1:=Zap (k:=x) om
   have cPc:=ZkI hokg hg hco.1 hco.2 om om
   rw [Zav] at cPc
   have cW1:=ZfW hco.1 hvo om om
   have cW2:=ZfW hco.2 hvo om om
   (have F:=ai @tmz (ai @eqz (ai @ZaG (ai @q1 @hc)));refine gG ?_;clear F)
   refine gB ?_
   (have F:=ai @tmz (ai @eqz (ai @ZaG @hc));refine gC (cPc) ?_;clear F)
   cases hPc:ZbF g c.1 c.2 with
   | false =>
    have hf:e.cs.all (cndB g vs)=false:=Zca hm (by simp [cndB,hPc])
    (have F:=ai @tmz (ai @eqz @ZaG);refine gR ?_;clear F)
    (have F:=@hf;refine gG ?_;exact gT)
   | true =>
    (have F:=ai @tmz (ai @eqz (ai @ZaG @hc));refine gC (cW1) ?_;clear F)
    cases hW1:ZdG vs c.1 with
    | false =>
     have hf:e.cs.all (cndB g vs)=false:=Zca hm (by simp [cndB,hW1])
     (have F:=ai @tmz (ai @eqz @ZaG);refine gR ?_;clear F)
     (have F:=@hf;refine gG ?_;exact gT)
    | true =>
     (have F:=ai @tmz (ai @eqz (ai @ZaG @hc));refine gC (cW2) ?_;clear F)
     cases hW2:ZdG vs c.2 with
     | false =>
      have hf:e.cs.all (cndB g vs)=false:=Zca hm (by simp [cndB,hW2])
      (have F:=ai @tmz (ai @eqz @ZaG);refine gR ?_;clear F)
      (have F:=@hf;refine gG ?_;exact gT)
     | true =>
      have hq:x+1<=e.cs.length∧(e.cs.take (x+1)).all (cndB g vs)=true:=⟨hlt,by rw [ZcS hc,hall];simp [cndB,hPc,hW1,hW2]⟩
      (have F:=ai @tmz (ai @eqz @ZaG);refine gR ?_;clear F)
      (have F:=ai @tmz (ai @eqz (ai @ZaG @hw1));refine gG ?_;exact ⟨x+1,hq,gw,gw,by omega⟩)
theorem Zq4 (t a:Tm):Con e0 244 [.agg (encTm a),.one (.ptr (encTm t))] [.one (.lit (.bool (decide (Zak t a=0))))]:=by
 refine gI 15 Tryz.func244 ?_
 (have F:=@tmz;refine gG ?_;clear F)
 refine gB ?_
 (have F:=@tmz;refine gC (ZgK t a) ?_;clear F)
 (have F:=@tmz;refine gR ?_;clear F)
 (have F:=@tmz;refine gG ?_;exact gT)
theorem Zsh (ts:List Tm) (t:Tm) (hl:ts.length<=big):Con e0 214 [.one (.sl (Zab ts)),.agg (encTm t)] [.one (.lit (.bool (hasB ts t)))]:=by
 have c:=Zk9 (ts:=ts) (f:=244) (caps:=[.ptr (encTm t)]) (P:=fun a=>decide (Zak t a=0)) hl fun a _=>Zq4 t a
 have eh:hasB ts t=ts.any fun a=>decide (Zak t a=0):=rfl
 rw [eh]
 refine gI 27 Tryz.func214 ?_
 (have F:=@tmz;refine gG ?_;clear F)
 refine gB ?_
 (have F:=@tmz;refine gC (c) ?_;clear F)
 (have F:=@tmz;refine gR ?_;clear F)
 (have F:=@tmz;refine gG ?_;exact gT)
def Zdk (cs:List (Tm × Tm)):List Tm:=cs.flatMap fun c=>[c.1,c.2]
def AL (e:Eqn) (x:Nat):List (List C):=Zab (e.r::Zdk (e.cs.take x))
def s6 (e:Eqn):Nat->A
 | 0=>.d (.clip (AL e 0))
 | _+1=>.buf 6
def m6 (e:Eqn):Nat->List (Nat × Bk)
 | 0=>[]
 | x+1=>[(6,.buf none 46 4 (AL e (x+1)))]
theorem s6_0 (e:Eqn):s6 e 0=.d (.clip [encTm e.r]):=by simp [s6,AL,Zdk,Zab]
theorem m6_0 (e:Eqn):m6 e 0=[]:=rfl
theorem s6_s (e:Eqn) (x:Nat):s6 e (x+1)=.buf 6:=rfl
theorem m6_s (e:Eqn) (x:Nat):m6 e (x+1)=[(6,.buf none 46 4 (AL e (x+1)))]:=rfl
theorem ZHV (e:Eqn) (x:Nat):(s6 e x=.d (.clip (AL e x))∧m6 e x=[])∨(s6 e x=.buf 6∧m6 e x=[(6,.buf none 46 4 (AL e x))]):=by
 cases x with
 | zero=>exact .inl ⟨rfl,rfl⟩
 | succ x=>exact .inr ⟨rfl,rfl⟩
theorem ZGI (e:Eqn) (x:Nat):ZaT 4 (AL e x)=true:=Zdd _
theorem Zoj (cs:List (Tm × Tm)):(Zdk cs).length=2 * cs.length:=by
 induction cs with
 | nil=>rfl
 | cons c cs ih=>simp only [Zdk,List.flatMap_cons,Tad,Taf,Taj] at ih ⊢;omega
theorem ZHt (e:Eqn) (x:Nat):(AL e x).length<=1+2 * e.cs.length:=by
 rw [AL,Zac,Taf,Zoj,Tav];omega
theorem ZGJ {e:Eqn} {x:Nat} {c:Tm × Tm} (h:e.cs[x]?=some c):AL e x++[encTm c.1,encTm c.2]=AL e (x+1):=by
 have h1:Zdk (e.cs.take (x+1))=Zdk (e.cs.take x)++[c.1,c.2]:=by
  rw [List.take_add_one,h];simp [Zdk]
 rw [AL,AL,h1,<- Tae,Zcg]
 simp [Zab]
theorem Zu8 {g:Sgn} {vs:List Tm}:∀ {cs:List (Tm × Tm)},(cs.all fun c=>ZbF g c.1 c.2)=true->cs.all (cndB g vs)=(Zdk cs).all (ZdG vs)
 | [],_=>rfl
 | c::cs,h=>by
  simp only [List.all_cons,Taq] at h
  have ih:=Zu8 (vs:=vs) h.2
  rw [List.all_cons,ih,cndB,h.1,Bool.true_and]
  simp [Zdk,List.all_cons,Bool.and_assoc]
theorem ZHu {g:Sgn} {l r:Tm} (h:ZbF g l r=true):Zb4 g l=true:=by simp only [ZbF,Taq] at h;exact h.1
theorem ZHv {g:Sgn} {l r:Tm} (h:ZbF g l r=true):Zb4 g r=true:=by simp only [ZbF,Taq] at h;exact h.2.1
theorem Zok {g:Sgn}:∀ {cs:List (Tm × Tm)},(cs.all fun c=>ZbF g c.1 c.2)=true->∀ t∈Zdk cs,Zb4 g t=true
 | [],_,t,ht=>by simp [Zdk] at ht
 | c::cs,h,t,ht=>by
  simp only [List.all_cons,Taq] at h
  simp only [Zdk,List.flatMap_cons,Tbh,Tbg,List.not_mem_nil,or_false] at ht
  rcases ht with (rfl | rfl) | ht
  ·exact ZHu h.1
  ·exact ZHv h.1
  ·exact Zok h.2 t ht
theorem ZHw {g:Sgn} {t:Tm} (h:Zb4 g t=true):t.op < 0 ↔ t.op=-1:=by
 rcases (Zei.1 h).form.node with hn | ⟨o,d,hn⟩
 ·have:=hn.1;omega
 ·have:=hn.lo;omega
noncomputable def eqnR (g:Sgn) (e:Eqn) (vs:List Tm):Bool:=decide (vs.length<=5) && (ZdG vs e.r && e.cs.all (cndB g vs))
section
variable {g:Sgn} {mc:C}
theorem Zwq (hg:SgnOk g) {e:Eqn} (he:ZfE e) (hb:Zae (ZaV e)<=1048576):Con e0 145 [.one (.ptr (encX g mc)),.agg (ZaV e)] [.one (.lit (.bool (eqnB g e)))]:=by
 rw [Zq2] at hb
 obtain ⟨hol,hor,hoc⟩:=he
 have cT:=fun (t:Tm) (h:okTm t) (hb:Zae (encTm t)<=1048576)=>Zr4 (mc:=mc) hg h (ZhC hb)
 have cK:=fun (t:Tm) (h:Zb4 g t=true)=>Zig (mc:=mc) hg (Zei.1 h).form.node
 refine gI 334100219233902667600601412539771 Tryz.func145 ?_
 (have F:=ai @tmz @eqz;refine gG ?_;clear F)
 refine gB ?_
 (have F:=ai @tmz @eqz;refine gC (cT e.l hol om) ?_;clear F)
 cases hL:Zb4 g e.l with
 | false =>
  have hf:eqnB g e=false:=by simp [eqnB,ZbF,hL]
  (have F:=ai @tmz @eqz;refine gR ?_;clear F)
  (have F:=@hf;refine gG ?_;exact gT)
 | true =>
 (have F:=ai @tmz @eqz;refine gC (cT e.r hor om) ?_;clear F)
 cases hR:Zb4 g e.r with
 | false =>
  have hf:eqnB g e=false:=by simp [eqnB,ZbF,hR]
  (have F:=ai @tmz @eqz;refine gR ?_;clear F)
  (have F:=@hf;refine gG ?_;exact gT)
 | true =>
 (have F:=ai @tmz @eqz;refine gC (cK e.l hL) ?_;clear F)
 (have F:=ai @tmz @eqz;refine gC (cK e.r hR) ?_;clear F)
 by_cases hk:ZaS g e.l=ZaS g e.r
 rotate_left
 ·have hf:eqnB g e=false:=by simp [eqnB,ZbF,hk]
  have hk':(ZaS g e.l=ZaS g e.r)=False:=eq_false hk
  (have F:=ai @tmz (ai @eqz @hk');refine gR ?_;clear F)
  (have F:=@hf;refine gG ?_;exact gT)
 have hk':(ZaS g e.l=ZaS g e.r)=True:=eq_true hk
 have hP:ZbF g e.l e.r=true:=by simp [ZbF,hL,hR,hk]
 by_cases h1:e.l.op=-1
 ·have hf:eqnB g e=false:=by simp [eqnB,h1]
  have h1':(e.l.op < 0)=True:=eq_true om
  (have F:=ai @tmz (ai @eqz (ai @hk' @h1'));refine gR ?_;clear F)
  (have F:=@hf;refine gG ?_;exact gT)
 have h1':(e.l.op < 0)=False:=eq_false fun h=>h1 ((ZHw hL).1 h)
 by_cases h2:e.cs.length<=2
 rotate_left
 ·have hf:eqnB g e=false:=by simp [eqnB,h2]
  have h2':((2:Int) < (e.cs.length:Int))=True:=eq_true om
  (have F:=ai @tmz (ai @eqz (ai @hk' (ai @h1' @h2')));refine gR ?_;clear F)
  (have F:=@hf;refine gG ?_;exact gT)
 have h2':((2:Int) < (e.cs.length:Int))=False:=eq_false om
 have ea:eqnB g e=eqnR g e (ZaD e.l):=by simp [eqnB,eqnR,hP,h1,h2]
 rw [ea]
 clear ea
 have cV:=ZgT e.l (ZjL hL)
 have hvl:=Zgh e.l
 (have F:=ai @tmz (ai @eqz (ai @hk' (ai @h1' @h2')));refine gR ?_;clear F)
 (have F:=ai @tmz @eqz;refine gG ?_;clear F)
 refine gB ?_
 (have F:=ai @tmz @eqz;refine gC (cV) ?_;clear F)
 (have F:=ai @tmz @eqz;refine gR ?_;clear F)
 generalize ZaD e.l=vs at *
 have hvb:vs.length<=big:=by unfold big;omega
 (have F:=ai @tmz @eqz;refine gG ?_;clear F)
 have F:=ai (s6_0 e) (m6_0 e)
 refine gL (ι:=Nat) [4,6,8,57,58,83] [6] (fun x=>[(57,A.d (.one (.lit (.int .i64 x)))),(6,s6 e x)]) (fun x=>m6 e x) (fun x=>x<=e.cs.length∧((e.cs.take x).all fun c=>ZbF g c.1 c.2)=true) (fun x=>e.cs.length - x) 0 ⟨Tai _,rfl⟩ (fun x hx=>?_) (hmm:=fun x=>rfl)
 clear F
 obtain ⟨hxl,hall⟩:=hx
 rcases ZHV e x with ⟨es,em⟩ | ⟨es,em⟩
 all_goals (
  simp only [es,em,Tag,Tae]
  clear es em
  by_cases hlt:x < e.cs.length
  ·have q1:(x:Int) < (e.cs.length:Int):=by omega
   obtain ⟨c,hc⟩:∃ a,e.cs[x]?=some a:=⟨_,Taa hlt⟩
   have hm:=Tab hc
   have hco:=hoc c hm
   have hcb:=Zq3 hm
   have hw1:=Zap (k:=x) om
   have hst:=ZGJ hc
   have hrb:=ZGI e x
   have hal:=ZHt e x
   have hmx:(AL e x).length+2<=maxApp:=by unfold maxApp;omega
   have es1:=s6_s e x
   have em1:=m6_s e x
   have hcf:ZbF g c.1 c.2=false->eqnR g e vs=false:=fun h=>by
    have:e.cs.all (cndB g vs)=false:=Zca hm (by simp [cndB,h])
    simp [eqnR,this]
   (have F:=ai @tmz (ai @eqz (ai @q1 @hc));refine gG ?_;clear F)
   refine gB ?_
   (have F:=ai @tmz @eqz;refine gC (cT c.1 hco.1 om) ?_;clear F)
   cases hL1:Zb4 g c.1 with
   | false =>
    have hf:=hcf (by simp [ZbF,hL1])
    (have F:=ai @tmz @eqz;refine gR ?_;clear F)
    (have F:=@hf;refine gG ?_;exact gT)
   | true =>
   (have F:=ai @tmz @eqz;refine gC (cT c.2 hco.2 om) ?_;clear F)
   cases hR1:Zb4 g c.2 with
   | false =>
    have hf:=hcf (by simp [ZbF,hR1])
    (have F:=ai @tmz @eqz;refine gR ?_;clear F)
    (have F:=@hf;refine gG ?_;exact gT)
   | true =>
   (have F:=ai @tmz @eqz;refine gC (cK c.1 hL1) ?_;clear F)
   (have F:=ai @tmz @eqz;refine gC (cK c.2 hR1) ?_;clear F)
   by_cases hk1:ZaS g c.1=ZaS g c.2
   rotate_left
   ·have hf:=hcf (by simp [ZbF,hk1])
    have hk1':(ZaS g c.1=ZaS g c.2)=False:=eq_false hk1
    (have F:=ai @tmz (ai @eqz @hk1');refine gR ?_;clear F)
    (have F:=@hf;refine gG ?_;exact gT)
   have hk1':(ZaS g c.1=ZaS g c.2)=True:=eq_true hk1
   have hPc:ZbF g c.1 c.2=true:=by simp [ZbF,hL1,hR1,hk1]
   have hq:x+1<=e.cs.length∧((e.cs.take (x+1)).all fun c=>ZbF g c.1 c.2)=true:=⟨hlt,by rw [ZcS hc,hall,hPc];rfl⟩
   (have F:=ai @tmz (ai @eqz @hk1');refine gR ?_;clear F)
   (have F:=ai @tmz (ai @eqz (ai @hw1 (ai @hst (ai @hrb (ai @hmx (ai @es1 @em1))))));refine gG ?_;exact ⟨x+1,hq,gw,gw,by omega⟩)
  obtain rfl:x=e.cs.length:=by omega
  have q1:¬ ((e.cs.length:Int) < (e.cs.length:Int)):=by omega
  rw [Tao] at hall
  have eA:AL e e.cs.length=Zab (e.r::Zdk e.cs):=by rw [AL,Tao]
  rw [eA]
  have er:eqnR g e vs=(decide (vs.length<=5) && (e.r::Zdk e.cs).all (ZdG vs)):=by rw [eqnR,Zu8 hall,List.all_cons]
  rw [er]
  have hall2:∀ t∈e.r::Zdk e.cs,Zb4 g t=true:=fun t ht=>by
   rcases Tbg.1 ht with rfl | ht
   ·exact hR
   ·exact Zok hall t ht
  have hsl:(e.r::Zdk e.cs).length<=5:=by rw [Taf,Zoj];omega
  generalize e.r::Zdk e.cs=all at *
  (have F:=ai @tmz (ai @eqz @q1);refine gG ?_;clear F)
  (have F:=@e0P;refine gL (ι:=Nat) [4,10,12,94,95,99,100,101,102,108] [] (fun y=>[(94,A.d (.one (.lit (.int .i64 y))))]) (fun y=>[]) (fun y=>y<=all.length∧(all.take y).all (ZdG vs)=true) (fun y=>all.length - y) (0) (⟨Tai _,rfl⟩) (fun y hy=>?_);clear F)
  obtain ⟨hyl,hally⟩:=hy
  by_cases hlt2:y < all.length
  rotate_left
  ·have q2:¬ ((y:Int) < (all.length:Int)):=by omega
   obtain rfl:y=all.length:=by omega
   rw [Tao] at hally
   have e5:decide ((vs.length:Int)<=5)=decide (vs.length<=5):=by rw [decide_eq_decide];omega
   (have F:=ai @tmz (ai @q2 (ai @hally @e5));refine gG ?_;exact gT)
  have q2:(y:Int) < (all.length:Int):=by omega
  obtain ⟨t,ht⟩:∃ a,all[y]?=some a:=⟨_,Taa hlt2⟩
  have hw2:=Zap (k:=y) om
  have hmt:=Tab ht
  have cVt:=ZgT t (ZjL (hall2 t hmt))
  have hus:=Zgh t
  have hub:=ZjL (hall2 t hmt)
  have eW:ZdG vs t=(ZaD t).all (hasB vs):=rfl
  (have F:=ai @tmz (ai @q2 (ai @hlt2 @ht));refine gG ?_;clear F)
  refine gB ?_
  (have F:=ai @tmz (ai @hlt2 @ht);refine gC (cVt) ?_;clear F)
  (have F:=@tmz;refine gR ?_;clear F)
  (have F:=@tmz;refine gG ?_;clear F)
  generalize ZaD t=us at *
  (have F:=@e0P;refine gL (ι:=Nat) [4,12,101,102,108] [] (fun z=>[(101,A.d (.one (.lit (.int .i64 z))))]) (fun z=>[]) (fun z=>z<=us.length∧(us.take z).all (hasB vs)=true) (fun z=>us.length - z) (0) (⟨Tai _,rfl⟩) (fun z hz=>?_);clear F)
  obtain ⟨hzl,hallz⟩:=hz
  by_cases hlt3:z < us.length
  rotate_left
  ·have q3:¬ ((z:Int) < (us.length:Int)):=by omega
   obtain rfl:z=us.length:=by omega
   rw [Tao] at hallz
   have hq:y+1<=all.length∧(all.take (y+1)).all (ZdG vs)=true:=⟨hlt2,by rw [ZcS ht,hally,eW,hallz];rfl⟩
   (have F:=ai @tmz (ai @q3 @hw2);refine gG ?_;exact ⟨y+1,hq,gw,gw,by omega⟩)
  have q3:(z:Int) < (us.length:Int):=by omega
  obtain ⟨v,hv⟩:∃ a,us[z]?=some a:=⟨_,Taa hlt3⟩
  have hw3:=Zap (k:=z) om
  (have F:=ai @tmz (ai @q3 @hv);refine gG ?_;clear F)
  refine gB ?_
  (have F:=@tmz;refine gC (Zsh vs v hvb) ?_;clear F)
  cases hh:hasB vs v with
  | false =>
   have hf:all.all (ZdG vs)=false:=Zca hmt (by rw [eW];exact Zca (Tab hv) hh)
   (have F:=@tmz;refine gR ?_;clear F)
   (have F:=@hf;refine gG ?_;exact gT)
  | true =>
   have hq:z+1<=us.length∧(us.take (z+1)).all (hasB vs)=true:=⟨hlt3,by rw [ZcS hv,hallz,hh];rfl⟩
   (have F:=@tmz;refine gR ?_;clear F)
   (have F:=ai @tmz @hw3;refine gG ?_;exact ⟨z+1,hq,gw,gw,by omega⟩))
end
end Go.Proofs.YtffmjghcpgpfpaaGreatDoor
namespace Go.Proofs.YtffmjghcpgpfpaaGreatDoor
open Go.Shelf
def ZAU:Ren:=⟨fun | 4=>213 | n=>n,fun | 22=>73 | 25=>124 | 3=>3 | 4=>4 | 9=>9 | 20=>20 | 0=>0 | n=>n,fun | n=>n⟩
theorem ZFQ:Go.Proofs.Lays8.n4 Tryz.prog ZAU:={
 mixed:=by kernel_rfl,
 f4:=⟨Tryz.f213.name,by decide,Tryz.func213.trans (congrArg some (by kernel_rfl))⟩,
 t0:=Tryz.underlying0,
 a0:=Tryz.isAgg0,
 z0:=Tryz.sizeOf0,
 v0:=Tryz.zeroValue0,
 t3:=Tryz.underlying3,
 a3:=Tryz.isAgg3,
 z3:=Tryz.sizeOf3,
 v3:=Tryz.zeroValue3,
 t4:=Tryz.underlying4,
 a4:=Tryz.isAgg4,
 z4:=Tryz.sizeOf4,
 v4:=Tryz.zeroValue4,
 t9:=Tryz.underlying9,
 a9:=Tryz.isAgg9,
 z9:=Tryz.sizeOf9,
 v9:=Tryz.zeroValue9,
 t20:=Tryz.underlying20,
 a20:=Tryz.isAgg20,
 z20:=Tryz.sizeOf20,
 v20:=Tryz.zeroValue20,
 t22:=Tryz.underlying73,
 a22:=Tryz.isAgg73,
 z22:=Tryz.sizeOf73,
 v22:=Tryz.zeroValue73 }
end Go.Proofs.YtffmjghcpgpfpaaGreatDoor
namespace Go.Proofs.YtffmjghcpgpfpaaGreatDoor
open Go.RowKit
theorem Zsi {ρ:Go.Shelf.Ren} (L:Go.Proofs.Lays8.n4 Tryz.prog ρ) {ts ety sz by':Nat} (he:ρ.t 25=ety) (hb:Za1 Tryz.prog ts=some (ety,sz,by')) (hby:by'<=4096) (hf:Zb3 Tryz.prog (ρ.f 4)=true) {n:Nat} (h0:0 < n) (h1:n<=1000000):ConR e0 (ρ.f 4) [.clip [],.one (.lit (.int .i64 n))] ety sz []:=by
 subst he
 refine ⟨hf,fun w S vs hS hE hG hv=>?_⟩
 obtain ⟨i,z,hu,hi,hz,hsz,hby',hzs,hs0,hb4⟩:=ZcT hb
 match vs,hv with
 | [v,u],hv =>
  obtain ⟨⟨⟨A,n',cap,hvA,hn',_⟩,b,k,hbk⟩,h2,_⟩:=hv
  have h2:u=.int .i64 n:=by simpa [DRel,Rep] using h2
  subst h2
  have hk:k=0:=by
   rw [hbk] at hvA
   obtain ⟨_,e1,e2⟩:=by simpa only [Value.slice.injEq] using hvA
   simp at hn'
   omega
  subst hk hbk
  have h:=Any8.slices_Grow_grow L i z hi hz om b 0 0 n [] w (Tah _) om (by
   have:(0+n) * i.bytes<=1000000 * 4096:=Nat.mul_le_mul om om
   omega) om (by simp) (fun _=>rfl) (fun a _ j v hj=>by simp at hj)
  refine h.mono fun en w' ⟨h3,h4⟩=>?_
  have hge:=grownCap_ge w (0+n) 0 (ρ.t 25)
  have hle:=grownCap_le_maxLen w (0+n) 0 (ρ.t 25) (by unfold maxLen;omega)
  generalize grownCap w (0+n) 0 (ρ.t 25)=G at h3 h4 hge hle
  have hne:G≠0:=by omega
  have hvb:vblk (.slice (some ⟨w.heap.size,0,none⟩) 0 G)=some w.heap.size:=by simp [vblk,hne]
  subst h4
  have hk:Kept e0.D (fun b=>(none:Option Nat)=some b) w.heap.size w (w.drew.alloc (.cells (([]:List Value).toArray++Builtin.zeroCells z.cells (0+n - 0)++Builtin.zeroCells z.cells (G - (0+n))) (ρ.t 25))) :=
   ⟨rfl,rfl,rfl,fun _=>Nat.le_succ _,by simp,fun k hk _=>heap_alloc_old w.drew _ hk⟩
  have hheap:=heap_alloc_new w.drew (.cells (([]:List Value).toArray++Builtin.zeroCells z.cells (0+n - 0)++Builtin.zeroCells z.cells (G - (0+n))) (ρ.t 25))
  refine ⟨_,h3,⟨hk.os,hk.tape,hk.output,hk.drawn,hk.size,fun b hb _=>hk.block b hb (by simp)⟩,Zhb.keep w _ hk.size (fun b' hb'=>hk.block b' (hE b' hb') (by simp)) hG,fun g hg=>?_,?_⟩
  ·rw [hvb] at hg
   injection hg with hg
   omega
  ·refine ⟨by omega,fun r hr=>by simp at hr,.inr ⟨w.heap.size,G,_,rfl,by omega,by simp,fun h=>h.2 hvb,hheap,by simp,hle,?_,by simp [Zan]⟩⟩
   simp only [Array.size_append,size_zeroCells,hzs,List.size_toArray,Taj,Nat.zero_add,Nat.sub_zero,<- Nat.add_mul]
   rw [show n+(G - n)=G by omega]
theorem Zq5 {ρ:Go.Shelf.Ren} (L:Go.Proofs.Lays8.n4 Tryz.prog ρ) (hf:Zb3 Tryz.prog (ρ.f 4)=true) {n:Nat} (h0:n=0):Con e0 (ρ.f 4) [.clip [],.one (.lit (.int .i64 n))] [.clip []]:=by
 subst h0
 refine ⟨hf,fun w S vs hS hE hG hv=>?_⟩
 match vs,hv with
 | [v,u],hv =>
  obtain ⟨⟨⟨A,n',cap,hvA,hn',hr⟩,b,k,hbk⟩,h2,_⟩:=hv
  have h2:u=.int .i64 ((0:Nat):Int):=by simpa [DRel,Rep] using h2
  subst h2
  have hk:k=0:=by
   rw [hbk] at hvA
   obtain ⟨_,e1,e2⟩:=by simpa only [Value.slice.injEq] using hvA
   simp at hn'
   omega
  subst hk hbk
  have h:=Any8.slices_Grow_room L b 0 0 0 w (Tah _) om om om
  refine h.mono fun en w' ⟨h3,h4⟩=>?_
  subst h4
  refine ⟨_,h3,⟨rfl,rfl,rfl,fun _=>Tah _,Tah _,fun k hk _=>rfl⟩,hG,?_⟩
  simp only [retA,ARel,DRel,Rep]
  exact ⟨⟨b,0,0,rfl,by simp,by simp,by simp,fun h=>absurd h (by simp)⟩,b,0,rfl⟩
theorem Zwr {n:Nat} (h0:n=0):Con e0 213 [.clip [],.one (.lit (.int .i64 n))] [.clip []]:=Zq5 ZFQ (by kernel_rfl) h0
theorem Zws {n:Nat} (h0:0 < n) (h1:n<=1000000):ConR e0 213 [.clip [],.one (.lit (.int .i64 n))] 124 9 [] :=
 Zsi ZFQ (ts:=73) (by':=136) rfl (by kernel_rfl) (by decide) (by kernel_rfl) h0 h1
def totR (rs:List (List (List C))) (x:Nat):Nat:=(rs.take x).flatten.length
def flR (rs:List (List (List C))) (x:Nat):List (List C):=(rs.take x).flatten
theorem ZHx (rs:List (List (List C))):totR rs 0=0:=by simp [totR]
theorem ZHW (rs:List (List (List C))):flR rs 0=[]:=by simp [flR]
theorem Zq6 {rs:List (List (List C))} {x:Nat} {r:List (List C)} (h:rs[x]?=some r):flR rs x++r=flR rs (x+1):=by
 simp [flR,List.take_add_one,h]
theorem ZAV {rs:List (List (List C))} {x:Nat} {r:List (List C)} (h:rs[x]?=some r):totR rs (x+1)=totR rs x+r.length:=by
 have:=Zq6 h
 simp only [totR,flR] at this ⊢
 rw [<- this,Tad]
theorem Zu9 (rs:List (List (List C))) (x:Nat):totR rs x<=rs.flatten.length:=by
 have:rs.flatten=(rs.take x).flatten++(rs.drop x).flatten:=by rw [<- List.flatten_append,Tbm]
 rw [totR,this,Tad];omega
theorem ZHy (rs:List (List (List C))):ZaT 1 (rs.map fun r=>[C.sl r])=true:=by
 induction rs with
 | nil=>rfl
 | cons r rs ih=>simp [Zed,ih,ZaE]
theorem Zsj (rs:List (List (List C))) (hr:∀ r∈rs,ZaT 9 r=true) (hn:rs.length<=1000) (hl:rs.flatten.length<=1000000):Con e0 144 [.one (.sl (rs.map fun r=>[.sl r]))] [.one (.sl rs.flatten)]:=by
 have rb:=ZHy rs
 refine gI 504373101 Tryz.func144 ?_
 (have F:=@tmz;refine gG ?_;clear F)
 (have F:=((ZHx rs));refine gL (ι:=Nat) [3,5,11,12,20] [] (fun x=>[(3,A.d (.one (.lit (.int .i64 (totR rs x))))),(11,A.d (.one (.lit (.int .i64 x))))]) (fun x=>[]) (fun x=>x<=rs.length) (fun x=>rs.length - x) (0) (Tai _) (fun x hx=>?_);clear F)
 by_cases hlt:x < rs.length
 ·have q1:(x:Int) < (rs.length:Int):=by omega
  obtain ⟨r,hx1⟩:∃ a,rs[x]?=some a:=⟨_,Taa hlt⟩
  have hw1:=Zap (k:=x) om
  have hts:=ZAV hx1
  have htl:=Zu9 rs (x+1)
  have hw2:IntKind.i64.wrap ((totR rs x:Int)+(r.length:Int))=(totR rs (x+1):Int):=by rw [IntWalk.i64_in _ om];omega
  have hn2:¬ ((totR rs (x+1):Int) < 0):=by omega
  (have F:=ai @tmz (ai @rb (ai @q1 (ai @hx1 (ai @hw1 (ai @hw2 @hn2)))));refine gG ?_;exact ⟨x+1,hlt,gw,gw,by omega⟩)
 obtain rfl:x=rs.length:=by omega
 have q1:¬ ((rs.length:Int) < (rs.length:Int)):=by omega
 have htt:totR rs rs.length=rs.flatten.length:=by simp [totR]
 (have F:=ai @tmz @q1;refine gG ?_;clear F)
 refine gB ?_
 have hfin:flR rs rs.length=rs.flatten:=by simp [flR]
 rcases Nat.eq_zero_or_pos (totR rs rs.length) with h0 | h0
 (have F:=@tmz;refine gC (Zwr h0) ?_;clear F)
 rotate_left
 (have F:=@tmz;refine gCR (Zws h0 om) ?_;clear F)
 all_goals (
  (have F:=@tmz;refine gR ?_;clear F)
  (have F:=@tmz;refine gG ?_;clear F)
  (have F:=((ZHW rs));refine gL (ι:=Nat) [6,8,27,28] [6] (fun y=>[(6,.buf 6),(27,A.d (.one (.lit (.int .i64 y))))]) (fun y=>[(6,.buf none 124 9 (flR rs y))]) (fun y=>y<=rs.length) (fun y=>rs.length - y) (0) (Tai _) (fun y hy=>?_);clear F)
  by_cases hlt:y < rs.length
  ·have q2:(y:Int) < (rs.length:Int):=by omega
   obtain ⟨r,hy1⟩:∃ a,rs[y]?=some a:=⟨_,Taa hlt⟩
   have hw1:=Zap (k:=y) om
   have hrr:=hr r (Tab hy1)
   have hst:=Zq6 hy1
   have htl:=Zu9 rs (y+1)
   have hlen:(flR rs y).length+r.length<=maxApp:=by
    rw [<- Tad,hst]
    unfold maxApp
    have:(flR rs (y+1)).length=totR rs (y+1):=rfl
    omega
   (have F:=ai @tmz (ai @rb (ai @q2 (ai @hy1 (ai @hw1 (ai @hrr (ai @hst @hlen))))));refine gG ?_;exact ⟨y+1,hlt,gw,gw,by omega⟩)
  obtain rfl:y=rs.length:=by omega
  have q2:¬ ((rs.length:Int) < (rs.length:Int)):=by omega
  rw [hfin]
  (have F:=ai @tmz @q2;refine gG ?_;exact gTz [2]))
structure Mdl where
 sig:Sgn
 eqs:List Eqn
 rules:List Eqn
def ZcK (m:Mdl):List C:=[.sl (m.sig.sorts.names.map ZcH),.sl (m.sig.sorts.subs.map Zc1),.sl (m.sig.ops.map ZbK),.sl (m.eqs.map ZaV),.sl (m.rules.map ZaV)]
def Zmx (m:Mdl):Prop:=Zdq m.sig∧(∀ e∈m.eqs,ZfE e)∧∀ e∈m.rules,ZfE e
theorem Znl:∀ {rows:List (List C)},Zao (Zad .eqn) rows->∃ l:List Eqn,rows=l.map ZaV∧∀ e∈l,ZfE e
 | [],_=>⟨[],rfl,by simp⟩
 | r::rs,h=>by
  simp only [Zao] at h
  obtain ⟨c,rfl,hc⟩:=ZHs h.1
  obtain ⟨cs,rfl,hcs⟩:=Znl h.2
  exact ⟨c::cs,rfl,by intro x hx;rcases Tbg.1 hx with rfl | hx;exact hc;exact hcs x hx⟩
theorem ZHz {row:List C} (h:Zal ZaW row):∃ m,row=ZcK m∧Zmx m:=by
 obtain ⟨r0,r1,r2,r3,r4,rfl,g0,g1,g2,g3,g4⟩:=Ze5 h
 obtain ⟨s,hs,hok⟩:=ZG2 (Zdb g0 g1 g2)
 obtain ⟨es,rfl,hes⟩:=Znl g3
 obtain ⟨us,rfl,hus⟩:=Znl g4
 rw [Zav] at hs
 injection hs with e0 hs
 injection hs with e1 hs
 injection hs with e2 hs
 exact ⟨⟨s,es,us⟩,by rw [ZcK,e0,e1,e2],hok,hes,hus⟩
theorem Ziw (l:List Eqn):ZaT 9 (l.map ZaV)=true:=by
 induction l with
 | nil=>rfl
 | cons e l ih=>simp only [Tbv,Zed,ZjJ,ih,Zwo];rfl
noncomputable def Zeo (m:Mdl):Bool:=decide (m.eqs.length<=16) && (decide (m.rules.length<=16) && (m.eqs.all (eqnB m.sig) && m.rules.all (eqnB m.sig)))
noncomputable def Zdl (m:Mdl):Bool:=Zcb m.sig && Zeo m
theorem Zix (m:Mdl):Zae (ZcK m)=Zae (Zav m.sig)+(m.eqs.length+Zaf (m.eqs.map ZaV)+(m.rules.length+Zaf (m.rules.map ZaV))):=by
 simp only [ZcK,Zav,Zae,Zbr,Tax]
 omega
theorem Zez {l:List Eqn} {e:Eqn} (h:e∈l):Zae (ZaV e)<=Zaf (l.map ZaV):=by
 obtain ⟨i,hi⟩:=Tbk h
 have:(l.map ZaV)[i]?=some (ZaV e):=by rw [Taz,hi];rfl
 exact Zco this
theorem Zsn {m:Mdl} (hm:Zmx m) (hb:Zae (ZcK m)<=1048576):Con e0 85 [.agg (ZcK m)] [.one (.lit (.bool (Zdl m)))]:=by
 rw [Zix] at hb
 obtain ⟨hokg,hoe,hou⟩:=hm
 have cS:=Zku hokg
 rw [Zav] at cS
 have cE:=fun (e:Eqn) (he:ZfE e) (hb:Zae (ZaV e)<=1048576)=>Zsg hokg he hb
 rw [Zav] at cE
 have er:=Ziw
 have ed:ZcK m=[.sl (m.sig.sorts.names.map ZcH),.sl (m.sig.sorts.subs.map Zc1),.sl (m.sig.ops.map ZbK),.sl (m.eqs.map ZaV),.sl (m.rules.map ZaV)]:=rfl
 rw [ed]
 refine gI 4505867404705823 Tryz.func85 ?_
 (have F:=ai @tmz (ai @eqz @er);refine gG ?_;clear F)
 refine gB ?_
 (have F:=@tmz;refine gC (cS) ?_;clear F)
 by_cases hs:Zcb m.sig=true
 rotate_left
 ·have hs':Zcb m.sig=false:=by simpa using hs
  have hf:Zdl m=false:=by simp [Zdl,hs']
  (have F:=ai @tmz @hs';refine gR ?_;clear F)
  (have F:=@hf;refine gG ?_;exact gT)
 by_cases h1:m.eqs.length<=16
 rotate_left
 ·have hf:Zdl m=false:=by simp [Zdl,Zeo,h1]
  have h1':(16:Int) < (m.eqs.length:Int):=by omega
  (have F:=ai @tmz (ai @hs @h1');refine gR ?_;clear F)
  (have F:=@hf;refine gG ?_;exact gT)
 have h1':¬ ((16:Int) < (m.eqs.length:Int)):=by omega
 by_cases h2:m.rules.length<=16
 rotate_left
 ·have hf:Zdl m=false:=by simp [Zdl,Zeo,h2]
  have h2':(16:Int) < (m.rules.length:Int):=by omega
  (have F:=ai @tmz (ai @hs (ai @h1' @h2'));refine gR ?_;clear F)
  (have F:=@hf;refine gG ?_;exact gT)
 have h2':¬ ((16:Int) < (m.rules.length:Int)):=by omega
 have ei:Zdl m=(m.eqs.all (eqnB m.sig) && m.rules.all (eqnB m.sig)):=by simp [Zdl,Zeo,hs,h1,h2]
 rw [ei]
 have eq':∀ e,Ziv m.sig e=eqnB m.sig e:=fun e=>by simp [Ziv,hs]
 (have F:=ai @tmz (ai @hs (ai @h1' @h2'));refine gR ?_;clear F)
 (have F:=ai @tmz (ai @eqz @er);refine gG ?_;clear F)
 (have F:=@e0P;refine gL (ι:=Nat) [2,3,25,36] [] (fun x=>[(3,A.d (.one (.lit (.int .i64 x))))]) (fun x=>[]) (fun x=>x<=m.eqs.length∧(m.eqs.take x).all (eqnB m.sig)=true) (fun x=>m.eqs.length - x) (0) (⟨Tai _,rfl⟩) (fun x hx=>?_);clear F)
 obtain ⟨hxl,hall⟩:=hx
 by_cases hlt:x < m.eqs.length
 ·have q1:(x:Int) < (m.eqs.length:Int):=by omega
  obtain ⟨c,hc⟩:∃ a,m.eqs[x]?=some a:=⟨_,Taa hlt⟩
  have hmm:=Tab hc
  have hw1:=Zap (k:=x) om
  have hbb:=Zez hmm
  (have F:=ai @tmz (ai @eqz (ai @er (ai @q1 @hc)));refine gG ?_;clear F)
  refine gB ?_
  (have F:=ai @tmz (ai @eqz (ai @er @hc));refine gC (cE c (hoe c hmm) om) ?_;clear F)
  rw [eq' c]
  cases hh:eqnB m.sig c with
  | false =>
   have hf:m.eqs.all (eqnB m.sig)=false:=Zca hmm hh
   (have F:=@tmz;refine gR ?_;clear F)
   (have F:=@hf;refine gG ?_;exact gT)
  | true =>
   have hq:x+1<=m.eqs.length∧(m.eqs.take (x+1)).all (eqnB m.sig)=true:=⟨hlt,by rw [ZcS hc,hall,hh];rfl⟩
   (have F:=@tmz;refine gR ?_;clear F)
   (have F:=ai @tmz @hw1;refine gG ?_;exact ⟨x+1,hq,gw,gw,by omega⟩)
 obtain rfl:x=m.eqs.length:=by omega
 have q1:¬ ((m.eqs.length:Int) < (m.eqs.length:Int)):=by omega
 rw [Tao] at hall
 rw [hall,Bool.true_and]
 (have F:=ai @tmz (ai @eqz (ai @er @q1));refine gG ?_;clear F)
 (have F:=@e0P;refine gL (ι:=Nat) [2,4,41,52] [] (fun y=>[(4,A.d (.one (.lit (.int .i64 y))))]) (fun y=>[]) (fun y=>y<=m.rules.length∧(m.rules.take y).all (eqnB m.sig)=true) (fun y=>m.rules.length - y) (0) (⟨Tai _,rfl⟩) (fun y hy=>?_);clear F)
 obtain ⟨hyl,hally⟩:=hy
 by_cases hlt2:y < m.rules.length
 ·have q2:(y:Int) < (m.rules.length:Int):=by omega
  obtain ⟨c,hc⟩:∃ a,m.rules[y]?=some a:=⟨_,Taa hlt2⟩
  have hmm:=Tab hc
  have hw1:=Zap (k:=y) om
  have hbb:=Zez hmm
  (have F:=ai @tmz (ai @eqz (ai @er (ai @q2 @hc)));refine gG ?_;clear F)
  refine gB ?_
  (have F:=ai @tmz (ai @eqz (ai @er @hc));refine gC (cE c (hou c hmm) om) ?_;clear F)
  rw [eq' c]
  cases hh:eqnB m.sig c with
  | false =>
   have hf:m.rules.all (eqnB m.sig)=false:=Zca hmm hh
   (have F:=@tmz;refine gR ?_;clear F)
   (have F:=@hf;refine gG ?_;exact gT)
  | true =>
   have hq:y+1<=m.rules.length∧(m.rules.take (y+1)).all (eqnB m.sig)=true:=⟨hlt2,by rw [ZcS hc,hally,hh];rfl⟩
   (have F:=@tmz;refine gR ?_;clear F)
   (have F:=ai @tmz @hw1;refine gG ?_;exact ⟨y+1,hq,gw,gw,by omega⟩)
 obtain rfl:y=m.rules.length:=by omega
 have q2:¬ ((m.rules.length:Int) < (m.rules.length:Int)):=by omega
 rw [Tao] at hally
 (have F:=ai @tmz (ai @er (ai @q2 @hally));refine gG ?_;exact gT)
theorem ZAW {e:Env} {f:FuncId} {rows:List (List C)} {r:List D} (h:Con e f [.one (.sl rows)] r):Con e f [.clip rows] r :=
 h.weaken fun w S vs hv=>by
  match vs,hv with
  | [x],hv=>exact ⟨hv.1.1,trivial⟩
theorem ZAX {m:Mdl} {mc:C} (hg:SgnOk m.sig) (hm:Zmx m) (hb:Zae (ZcK m)<=1048576):Con e0 88 [.one (.ptr (encX m.sig mc)),.agg (ZcK m)] [.one (.lit (.bool (Zeo m)))]:=by
 rw [Zix] at hb
 obtain ⟨hokg,hoe,hou⟩:=hm
 have cE:=fun (e:Eqn) (he:ZfE e) (hb:Zae (ZaV e)<=1048576)=>Zwq (mc:=mc) hg he hb
 have er:=Ziw
 have ed:ZcK m=[.sl (m.sig.sorts.names.map ZcH),.sl (m.sig.sorts.subs.map Zc1),.sl (m.sig.ops.map ZbK),.sl (m.eqs.map ZaV),.sl (m.rules.map ZaV)]:=rfl
 rw [ed]
 refine gI 2210463835 Tryz.func88 ?_
 by_cases h1:m.eqs.length<=16
 rotate_left
 ·have hf:Zeo m=false:=by simp [Zeo,h1]
  have h1':(16:Int) < (m.eqs.length:Int):=by omega
  (have F:=ai @tmz (ai @er (ai @h1' @hf));refine gG ?_;exact gT)
 have h1':¬ ((16:Int) < (m.eqs.length:Int)):=by omega
 by_cases h2:m.rules.length<=16
 rotate_left
 ·have hf:Zeo m=false:=by simp [Zeo,h2]
  have h2':(16:Int) < (m.rules.length:Int):=by omega
  (have F:=ai @tmz (ai @er (ai @h1' (ai @h2' @hf)));refine gG ?_;exact gT)
 have h2':¬ ((16:Int) < (m.rules.length:Int)):=by omega
 have cC:=ZAW (Zsj [m.eqs.map ZaV,m.rules.map ZaV] (by intro r hr;simp at hr;rcases hr with rfl | rfl <;> exact er _) (by simp) (by simp;omega))
 have ef:[m.eqs.map ZaV,m.rules.map ZaV].flatten=(m.eqs++m.rules).map ZaV:=by simp
 rw [ef] at cC
 simp only [Tbv,List.map_nil] at cC
 have ei:Zeo m=(m.eqs++m.rules).all (eqnB m.sig):=by simp [Zeo,h1,h2,List.all_append]
 rw [ei]
 have hal:∀ e∈m.eqs++m.rules,ZfE e∧Zae (ZaV e)<=1048576:=fun e he=>by
  rcases Tbh.1 he with h | h
  ·have:=Zez h
   exact ⟨hoe e h,by omega⟩
  ·have:=Zez h
   exact ⟨hou e h,by omega⟩
 have hln:(m.eqs++m.rules).length<=32:=by rw [Tad];omega
 (have F:=ai @tmz (ai @er (ai @h1' @h2'));refine gG ?_;clear F)
 refine gB ?_
 (have F:=ai @tmz @er;refine gC (cC) ?_;clear F)
 generalize m.eqs++m.rules=l at *
 (have F:=ai @tmz @er;refine gR ?_;clear F)
 (have F:=ai @tmz @er;refine gG ?_;clear F)
 (have F:=@e0P;refine gL (ι:=Nat) [4,6,24,25,31] [] (fun x=>[(24,A.d (.one (.lit (.int .i64 x))))]) (fun x=>[]) (fun x=>x<=l.length∧(l.take x).all (eqnB m.sig)=true) (fun x=>l.length - x) (0) (⟨Tai _,rfl⟩) (fun x hx=>?_);clear F)
 obtain ⟨hxl,hall⟩:=hx
 by_cases hlt:x < l.length
 ·have q1:(x:Int) < (l.length:Int):=by omega
  obtain ⟨c,hc⟩:∃ a,l[x]?=some a:=⟨_,Taa hlt⟩
  have hmm:=Tab hc
  have hw1:=Zap (k:=x) om
  (have F:=ai @tmz (ai @eqz (ai @er (ai @q1 @hc)));refine gG ?_;clear F)
  refine gB ?_
  (have F:=ai @tmz (ai @eqz (ai @er @hc));refine gC (cE c (hal c hmm).1 (hal c hmm).2) ?_;clear F)
  cases hh:eqnB m.sig c with
  | false =>
   have hf:l.all (eqnB m.sig)=false:=Zca hmm hh
   (have F:=@tmz;refine gR ?_;clear F)
   (have F:=@hf;refine gG ?_;exact gT)
  | true =>
   have hq:x+1<=l.length∧(l.take (x+1)).all (eqnB m.sig)=true:=⟨hlt,by rw [ZcS hc,hall,hh];rfl⟩
   (have F:=@tmz;refine gR ?_;clear F)
   (have F:=ai @tmz @hw1;refine gG ?_;exact ⟨x+1,hq,gw,gw,by omega⟩)
 obtain rfl:x=l.length:=by omega
 have q1:¬ ((l.length:Int) < (l.length:Int)):=by omega
 rw [Tao] at hall
 (have F:=ai @tmz (ai @er (ai @q1 @hall));refine gG ?_;exact gT)
def anN (a b:Nat):Nat:=a ^^^ (a &&& b)
theorem Zso {a b:Nat} (ha:a < 4611686018427387904) (hb:b < 4611686018427387904):bits .andNot .i64 (a:Int) (b:Int)=((anN a b:Nat):Int):=by
 have h:anN a b < 2 ^ 62:=Nat.xor_lt_two_pow om (Nat.and_lt_two_pow _ om)
 have e:(BitVec.ofInt IntKind.i64.bits (a:Int) &&& ~~~BitVec.ofInt IntKind.i64.bits (b:Int)).toNat=anN a b:=by
  have h1:(BitVec.ofInt IntKind.i64.bits (a:Int)).toNat=a:=ZfL om
  have h2:(BitVec.ofInt IntKind.i64.bits (b:Int)).toNat=b:=ZfL om
  refine Nat.eq_of_testBit_eq fun i=>?_
  rw [BitVec.testBit_toNat,BitVec.getLsbD_and,BitVec.getLsbD_not,<- BitVec.testBit_toNat,<- BitVec.testBit_toNat,h1,h2,anN,Nat.testBit_xor,Nat.testBit_and]
  by_cases hi:i < IntKind.i64.bits
  ·simp only [hi,decide_true,Bool.true_and]
   cases a.testBit i <;> cases b.testBit i <;> rfl
  ·have:a.testBit i=false:=Tbu (Tbd (show a < 2 ^ 62 by omega) (Tbt om (by have:IntKind.i64.bits=64:=rfl;omega)))
   simp [this]
 unfold bits
 show IntKind.i64.wrap _=_
 rw [e]
 exact ZgB om om
theorem Zra {a b:Nat}:anN a b=0 ↔ SubN a b:=by
 constructor
 ·intro h i hi
  have:=congrArg (Nat.testBit · i) h
  simp only [anN,Nat.testBit_xor,Nat.testBit_and,Nat.zero_testBit,hi] at this
  simpa using this
 ·intro h
  refine Nat.eq_of_testBit_eq fun i=>?_
  rw [anN,Nat.testBit_xor,Nat.testBit_and,Nat.zero_testBit]
  cases ha:a.testBit i with
  | false=>rfl
  | true=>rw [h i ha];rfl
theorem Zrb {a b:Nat}:a &&& b=a ↔ SubN a b:=by
 constructor
 ·intro h i hi
  have:=congrArg (Nat.testBit · i) h
  simp only [Nat.testBit_and,hi] at this
  simpa using this
 ·intro h
  refine Nat.eq_of_testBit_eq fun i=>?_
  rw [Nat.testBit_and]
  cases ha:a.testBit i with
  | false=>rfl
  | true=>rw [h i ha];rfl
theorem Zrc {g:Sgn}:∀ (n:Nat) (t:Tm),sizeTm t < n->ZaO g t->∀ v∈Za9 t,ZbI g v
 | 0,t,hn,_,_,_=>by omega
 | n+1,t,hn,ht,v,hv=>by
  have hs:=hn
  rw [ZaX] at hs
  have key:∀ {ts:List Tm},v∈Za3 ts->∃ a∈ts,v∈Za9 a:=fun {ts}=>by
   induction ts with
   | nil=>intro h;simp [Za3] at h
   | cons x xs ih =>
    intro h
    simp only [Za3,Tbh] at h
    rcases h with h | h
    ·exact ⟨x,Tar,h⟩
    ·obtain ⟨a,ha,h⟩:=ih h
     exact ⟨a,Tak _ ha,h⟩
  by_cases hop:t.op=-1
  ·have hV:ZbI g t:=by
    rcases ht.node with h | ⟨o,d,h⟩
    ·exact h
    ·have:=h.lo;omega
   obtain ⟨op,nm,so,args⟩:=t
   simp only [Tm.op] at hop
   have ha0:args=[]:=hV.2.2.2.2
   subst hop ha0
   simp only [Za9,if_pos,Tbj] at hv
   rw [hv];exact hV
  ·have e:Za9 t=Za3 t.args:=by
    obtain ⟨op,nm,so,args⟩:=t
    simp only [Tm.op] at hop
    simp only [Za9,if_neg hop,Tm.args]
   rw [e] at hv
   obtain ⟨a,ha,hv⟩:=key hv
   have:=Zbb ha
   exact Zrc n a om ((Zbh.1 ht).2.1 a ha) v hv
theorem Ziy {g:Sgn} {t:Tm} (ht:TermOk g t):∀ v∈ZaD t,ZbI g v:=fun v hv=>Zrc _ t (Tam _) ht.form v (Zge.1 hv)
def NmOk (vs:List Tm):Prop:=∀ (i j:Nat) v w,j < i->vs[i]?=some v->vs[j]?=some w->v.name≠w.name
def Zwt (vs:List Tm):Prop:=∀ (j:Nat) v w,vs[j+1]?=some v->vs[j]?=some w->v.name≠w.name
theorem Zva {g:Sgn} {a b:Tm} (ha:ZbI g a) (hb:ZbI g b) (h:Zak a b<=0):ZbE a.name b.name<=0:=by
 obtain ⟨h1,_,_,_,h2⟩:=ha
 obtain ⟨h3,_,_,_,h4⟩:=hb
 obtain ⟨o,n,s,l⟩:=a
 obtain ⟨o',n',s',l'⟩:=b
 simp only [Tm.op,Tm.args] at h1 h2 h3 h4
 subst h1 h2 h3 h4
 simp only [Zak,ZaA] at h
 rw [if_pos (by decide)] at h
 simp only [Tm.name]
 split at h
 ·rename_i e;omega
 ·exact h
theorem ZCu {a b:ByteArray} (h1:ZbE a b<=0) (h2:ZbE b a<=0):a=b:=by
 unfold ZbE at h1 h2
 rw [Zjl] at h2
 have:=Zeq (l:=a.data.toList) (m:=b.data.toList) om
 exact ByteArray.ext (Array.toList_inj.1 this)
theorem Znm {l:List Tm} (h:Asc l) {i j:Nat} {a b:Tm} (hij:i < j) (ha:l[i]?=some a) (hb:l[j]?=some b):Zak a b < 0:=by
 obtain ⟨h1,rfl⟩:=Tac.1 ha
 obtain ⟨h2,rfl⟩:=Tac.1 hb
 exact List.pairwise_iff_getElem.1 h i j h1 h2 hij
theorem ZHA {g:Sgn} {vs:List Tm} (hv:∀ v∈vs,ZbI g v) (ha:Asc vs):NmOk vs ↔ Zwt vs:=by
 refine ⟨fun h j v w h1 h2=>h (j+1) j v w (Tam _) h1 h2,fun h i j v w hj h1 h2 e=>?_⟩
 obtain ⟨u,hu⟩:∃ u,vs[j+1]?=some u:=⟨_,Taa (by have:=(Tac.1 h1).1;omega)⟩
 refine h j u w hu h2 (ZCu ?_ ?_)
 ·rw [<- e]
  by_cases e2:j+1=i
  ·subst e2;rw [hu] at h1;injection h1 with h1;subst h1;exact Int.le_of_eq (Zep _)
  ·exact Zva (hv u (Tab hu)) (hv v (Tab h1)) (Int.le_of_lt (Znm ha om hu h1))
 ·exact Zva (hv w (Tab h2)) (hv u (Tab hu)) (Int.le_of_lt (Znm ha (Tam _) h2 hu))
theorem Zvb {vs:List Tm} (h:NmOk vs):vs.Pairwise (fun a b=>a.name≠b.name):=by
 rw [List.pairwise_iff_getElem]
 intro i j hi hj hij e
 exact h j i _ _ hij (Taa hj) (Taa hi) e.symm
open Classical in
noncomputable def deB (g:Sgn) (e:Eqn):Bool:=decide (NmOk (ZaD e.l)∧Desc g (ZaD e.l) e.l e.r)
noncomputable def deM (m:Mdl):Bool:=Zdl m && m.eqs.all (deB m.sig)
theorem Zrd {g:Sgn} {e:Eqn} (h:NmOk (ZaD e.l)) (h2:Desc g (ZaD e.l) e.l e.r):deB g e=true:=by simp [deB,h,h2]
theorem ZjM {g:Sgn} {e:Eqn} (h:¬ (NmOk (ZaD e.l)∧Desc g (ZaD e.l) e.l e.r)):deB g e=false:=by simpa [deB] using h
open Classical in
noncomputable def lowB (g:Sgn) (vs:List Tm) (l r:Tm):Bool:=decide (lowP g vs l r)
theorem Zoo {g:Sgn} {vs:List Tm} {l r:Tm} (h:lowP g vs l r):lowB g vs l r=true:=by simp [lowB,h]
theorem Zmy {g:Sgn} {vs:List Tm} {l r:Tm} (h:¬ lowP g vs l r):lowB g vs l r=false:=by simp [lowB,h]
theorem Zre {g:Sgn} {vs:List Tm} {l r:Tm}:lowB g vs l r=true ↔ lowP g vs l r:=by simp [lowB]
theorem Znn {g:Sgn} {e:Eqn} (h:eqnB g e=true):TermOk g e.l∧TermOk g e.r∧(ZaD e.l).length<=5:=by
 simp only [eqnB,ZbF,Taq,decide_eq_true_eq] at h
 exact ⟨Zei.1 h.1.1,Zei.1 h.1.2.1,h.2.2.2.1⟩
theorem Zkg {n:Nat}:∀ {X:List Nat},(∀ d∈X,d+1=n)->nxt n X=(List.replicate X.length 0,false)
 | [],_=>rfl
 | d::X,h=>by
  have ih:=Zkg (X:=X) fun x hx=>h x (Tak _ hx)
  rw [nxt,ih,if_neg (by simp),if_neg (by rw [h d Tar];omega)]
  rfl
theorem Zvc {n d:Nat} {X:List Nat} (hX:∀ x∈X,x+1=n) (hd:d+1 < n):∀ (P:List Nat),nxt n (P++d::X)=(P++(d+1)::List.replicate X.length 0,true)
 | []=>by rw [Tag,nxt,Zkg hX,if_neg (by simp),if_pos hd];rfl
 | p::P=>by rw [Tae,nxt,Zvc hX hd P,if_pos rfl];rfl
theorem ZCv {c:List Nat} {e d:Nat} (h:c[e]?=some d):c=c.take e++d::c.drop (e+1):=by
 obtain ⟨hl,rfl⟩:=Tac.1 h
 conv=>lhs;rw [<- Tbm e c,List.drop_eq_getElem_cons hl]
theorem Zvd {P Q:List Nat} {x y:Nat} {e:Nat} (h:P.length=e):(P++x::Q).set e y=P++y::Q:=by
 subst h
 simp
def chZ (c:List Nat) (i:Nat):List Nat:=c.take i++List.replicate (c.length - i) 0
theorem ZHB {c:List Nat} {e d:Nat} (h:c[e]?=some d):chZ c (e+1)=c.take e++d::List.replicate (c.length - (e+1)) 0:=by
 rw [chZ,List.take_add_one,h];simp
def RNx (a:Option Addr) (cap n:Nat) (c:List Nat) (r:List D) (pm:List Bk):Prop:=r=[.one (.lit (.bool (nxt n c).2))]∧pm=[.buf (some (a,cap)) 3 1 (nR (nxt n c).1)]
theorem ZAY (c:List Nat) {n:Nat} (hn:n<=1000) (hl:c.length<=1000) (hd:Dig n c) (a:Option Addr) (cap:Nat):ConP e0 146 [.one (.lit (.slice a c.length cap)),.one (.lit (.int .i64 n))] [.buf (some (a,cap)) 3 1 (nR c)] (RNx a cap n c):=by
 have w0:IntKind.i64.wrap ((c.length:Int) - 1)=(c.length:Int) - 1:=IntWalk.i64_in _ om
 have z0:chZ c c.length=c:=by rw [chZ,Tao,Nat.sub_self];simp
 refine gIP (ts:=[.slot 4]) [1000] 16778291 Tryz.func146 ?_
 have nl:=ZaF (l:=c)
 have nr:=Zay (l:=c)
 (have F:=ai @w0 (ai @nl (ai @nr @tmz));refine gG ?_;clear F)
 (have F:=ai @w0 (ai @z0 @tmz);refine gL (ι:=Nat) [4,5,10,24] [1000] (fun i=>[(5,.d (.one (.lit (.int .i64 ((i:Int) - 1)))))]) (fun i=>[(1000,.buf (some (a,cap)) 3 1 (nR (chZ c i)))]) (fun i=>i<=c.length∧∀ (j:Nat) d,i<=j->c[j]?=some d->d+1=n) (fun i=>i) (c.length) (⟨Tah _,fun j d hj h=>absurd (Tac.1 h).1 om⟩) (fun i hi=>?_);clear F)
 obtain ⟨hi,hall⟩:=hi
 have hX:∀ x∈c.drop i,x+1=n:=fun x hx=>by
  obtain ⟨j,hj⟩:=Tbk hx
  rw [Tbb] at hj
  exact hall _ x om hj
 by_cases h0:i=0
 ·subst h0
  have q1:(0<=(((0:Nat):Int) - 1))=False:=eq_false om
  rw [List.drop_zero] at hX
  have hz:chZ c 0=List.replicate c.length 0:=by rw [chZ];simp
  have hR:RNx a cap n c [.one (.lit (.bool false))] [.buf (some (a,cap)) 3 1 (nR (chZ c 0))]:=⟨by rw [Zkg hX],by rw [Zkg hX,hz]⟩
  (have F:=ai @q1 @tmz;refine gG ?_;clear F)
  exact (have F:=@tmz;gTP (R:=RNx a cap n c) [1000] hR)
 obtain ⟨e,rfl⟩:∃ e,i=e+1:=⟨i - 1,by omega⟩
 obtain ⟨d,hde⟩:∃ d,c[e]?=some d:=⟨_,Taa om⟩
 have hdn:=hd d (Tab hde)
 have he:(((e+1:Nat):Int) - 1)=(e:Int):=by omega
 have q1:(0<=(e:Int))=True:=eq_true om
 have hel:(c.take e).length=e:=by rw [Tav];omega
 have hlt:e < c.length:=by omega
 have hZ:=ZHB hde
 have hZl:(chZ c (e+1)).length=c.length:=by rw [chZ];simp;omega
 have n1:=ZaF (l:=chZ c (e+1))
 rw [hZl] at n1
 have r1:=Zay (l:=chZ c (e+1))
 have g1:(nR (chZ c (e+1)))[e]?=some [.lit (.int .i64 d)]:=ZaH (by rw [hZ,Tbq om,hel,Nat.sub_self];rfl)
 have s1:=Zcf (l:=chZ c (e+1)) e (d+1)
 have hw:=Zap (k:=d) om
 have hY:(chZ c (e+1)).set e (d+1)=c.take e++(d+1)::List.replicate (c.length - (e+1)) 0:=by rw [hZ,Zvd hel]
 have hYl:((chZ c (e+1)).set e (d+1)).length=c.length:=by rw [Tay,hZl]
 have n2:=ZaF (l:=(chZ c (e+1)).set e (d+1))
 rw [hYl] at n2
 have r2:=Zay (l:=(chZ c (e+1)).set e (d+1))
 have g2:(nR ((chZ c (e+1)).set e (d+1)))[e]?=some [.lit (.int .i64 ((d+1:Nat):Int))]:=ZaH (by rw [Tbn (by rw [hZl];exact hlt)])
 by_cases hq:d+1 < n
 ·have q2:(((d+1:Nat):Int) < (n:Int))=True:=eq_true om
  have hN:nxt n c=((chZ c (e+1)).set e (d+1),true):=by
   rw [hY]
   conv=>lhs;rw [ZCv hde]
   rw [Zvc hX hq,Taw]
  have hR:RNx a cap n c [.one (.lit (.bool true))] [.buf (some (a,cap)) 3 1 (nR ((chZ c (e+1)).set e (d+1)))]:=⟨by rw [hN],by rw [hN]⟩
  (have F:=ai @he (ai @q1 (ai @q2 (ai @n1 (ai @r1 (ai @g1 (ai @s1 (ai @n2 (ai @r2 (ai @g2 (ai @hw (ai @hlt (ai @Zas @tmz))))))))))));refine gG ?_;clear F)
  exact (have F:=@tmz;gTP (R:=RNx a cap n c) [1000] hR)
 ·have q2:(((d+1:Nat):Int) < (n:Int))=False:=eq_false om
  have hc0:((chZ c (e+1)).set e (d+1)).set e 0=chZ c e:=by
   rw [hY,Zvd hel,chZ,show c.length - e=(c.length - (e+1))+1 by omega,List.replicate_succ]
  have s2:(nR ((chZ c (e+1)).set e (d+1))).set e [.lit (.int .i64 0)]=nR (chZ c e):=by rw [<- hc0];exact Zcf e 0
  have w2:IntKind.i64.wrap ((e:Int) - 1)=(e:Int) - 1:=IntWalk.i64_in _ om
  have hnx:e<=c.length∧∀ (j:Nat) d,e<=j->c[j]?=some d->d+1=n:=⟨by omega,fun j d' hj h=>by
   by_cases e1:j=e
   ·subst e1;rw [hde] at h;injection h with h;subst h;omega
   ·exact hall j d' om h⟩
  (have F:=ai @he (ai @q1 (ai @q2 (ai @n1 (ai @r1 (ai @g1 (ai @s1 (ai @n2 (ai @r2 (ai @g2 (ai @hw (ai @s2 (ai @w2 (ai @hlt (ai @Zas @tmz))))))))))))));refine gG ?_;exact ⟨e,hnx,gw,gw,by omega⟩)
theorem Zle (x:Int):Con e0 205 [.one (.lit (.int .i64 x))] [.one (.lit (.bool (decide (0<=x∧x < 65536))))]:=by
 refine gI 5 Tryz.func205 ?_
 by_cases h1:0<=x
 ·by_cases h2:x < 65536
  ·(have F:=ai @h1 @h2;refine gG ?_;exact gT)
  ·(have F:=ai @h1 @h2;refine gG ?_;exact gT)
 ·(have F:=@h1;refine gG ?_;exact gT)
theorem Zrf {a:Nat} (h:a < 65536):decide (0<=(a:Int)∧(a:Int) < 65536)=true:=decide_eq_true om
theorem Zwu {a b:Nat} (ha:a < 65536) (hb:b < 65536):Con e0 138 [.one (.lit (.int .i64 a)),.one (.lit (.int .i64 b))] [.one (.lit (.bool (decide (a &&& b=a))))]:=by
 have cA:=Zle (a:Int)
 have cB:=Zle (b:Int)
 rw [Zrf ha] at cA
 rw [Zrf hb] at cB
 have h1:=Zd5 (a:=a) (b:=b) om om
 have h2:decide (((a &&& b:Nat):Int)=(a:Int))=decide (a &&& b=a):=by
  rw [Bool.eq_iff_iff,decide_eq_true_eq,decide_eq_true_eq];omega
 refine gI (ts:=[.slot 4]) 19 Tryz.func138 ?_
 (have F:=@tmz;have NN:Zag 1:=trivial;refine gGn ?_;clear F NN)
 refine gB ?_
 (have F:=@tmz;refine gC (cA) ?_;clear F)
 (have F:=@tmz;refine gC (cB) ?_;clear F)
 (have F:=ai @h1 (ai @h2 @tmz);refine gR ?_;clear F)
 (have F:=@tmz;refine gG ?_;exact gTd)
theorem ZAZ {a:Nat} (ha:a < 65536):Con e0 140 [.one (.lit (.int .i64 a))] [.one (.sl (nR (Zbq a)))]:=by
 have cS:=Zle (a:Int)
 rw [Zrf ha] at cS
 refine gI 67613 Tryz.func140 ?_
 (have F:=@e0P;refine gG ?_;clear F)
 (have F:=@ZuG;refine gL (ι:=Nat) [3,4,11,16] [3] (fun k=>[(4,A.d (.one (.lit (.int .i64 k)))),(3,.buf 3)]) (fun k=>[(3,.buf none 3 1 (nR (ZbS a k)))]) (fun k=>k<=16) (fun k=>16 - k) (0) om (fun k hk=>?_);clear F)
 by_cases hlt:k < 16
 rotate_left
 ·obtain rfl:k=16:=by omega
  have q1:¬ (((16:Nat):Int) < 16):=by omega
  rw [show Zbq a=ZbS a 16 from rfl]
  (have F:=@q1;refine gG ?_;clear F)
  (have F:=@e0P;refine gG ?_;exact gTz [2])
 have q1:((k:Int) < 16)=True:=eq_true om
 have hw:=Zap (k:=k) om
 (have F:=@e0P;have NN:Zag 3:=trivial;refine gGn ?_;clear F NN)
 refine gB ?_
 (have F:=@q1;refine gC (cS) ?_;clear F)
 (have F:=@q1;refine gR ?_;clear F)
 have l2:=ZaF (l:=ZbS a k)
 have l3:=Zay (l:=ZbS a k)
 have l4:=Zgl (l:=ZbS a k) k
 have hmx:((ZbS a k).length+1<=maxApp)=True:=eq_true (by have:=Zf8 a k;unfold maxApp;omega)
 (have F:=@e0P;have NN:Zag 5:=trivial;refine gGn ?_;clear F NN)
 refine gB ?_
 (have F:=@e0P;refine gC (ZeN (a:=a) (k:=k) om hlt) ?_;clear F)
 (have F:=@e0P;refine gR ?_;clear F)
 cases hb:tbit a k with
 | false =>
  rw [<- ZnJ hb]
  (have F:=ai @q1 (ai @Zas @hw);refine gG ?_;exact ⟨k+1,hlt,gw,gw,by omega⟩)
 | true =>
  rw [<- ZlQ hb] at l4
  (have F:=ai @q1 (ai @Zas (ai @l2 (ai @l3 (ai @l4 (ai @hmx @hw)))));refine gG ?_;exact ⟨k+1,hlt,gw,gw,by omega⟩)
section
variable {g:Sgn}
theorem ZGK (hs:SortsOk g.sorts) {k:Int} (h0:0<=k) (h1:k < g.sorts.names.length):dnk g k=ofB (fun j=>tbit ((up g.sorts).getD j 0) k.toNat=true) g.sorts.names.length :=
 Zjr (Zj6 hs h0 h1).2 fun i hi=>by
  rw [ZhS hs k i]
  simp only [hi,true_and]
  rfl
theorem Zwv (hok:Zdq g) (hs:SortsOk g.sorts) {k:Int} (h0:0<=k) (h1:k < g.sorts.names.length):Con e0 141 [.agg (Za6 g.sorts),.one (.lit (.int .i64 k))] [.one (.lit (.int .i64 (dnk g k:Nat)))]:=by
 have hN:=hs.n8
 have cS:=ZiF (s:=g.sorts) hok.1
 rw [Zd6 hs] at cS
 have cI:=ZdE k 0 ((g.sorts.names.length:Int) - 1)
 rw [decide_eq_true om] at cI
 have cU:=Zfh hs.n8 hs.m16 (SortsOk.subsIn hs.subs)
 obtain ⟨kn,rfl⟩:∃ kn:Nat,k=kn:=⟨k.toNat,by omega⟩
 rw [ZGK hs h0 h1]
 simp only [Tbz]
 rw [Za6] at cS cU ⊢
 have hn1:IntKind.i64.wrap ((g.sorts.names.length:Int) - 1)=(g.sorts.names.length:Int) - 1:=ZgB (by have:=hs.n1;omega) om
 have hUl:(nR (up g.sorts)).length=g.sorts.names.length:=by rw [ZaF,(ZdT (SortsOk.subsIn hs.subs)).1]
 have rr:=Zay (l:=up g.sorts)
 generalize hP:(fun j=>tbit ((up g.sorts).getD j 0) kn=true)=P
 have hs1:∀ i,ofB P (i+1)=ofB P i ||| (if tbit ((up g.sorts).getD i 0) kn=true then 2 ^ i else 0):=fun i=>by
  subst hP
  rw [ofB]
  congr 1
  split <;> rename_i h <;> simp [h]
 have z0:((ofB P 0:Nat):Int)=0:=rfl
 refine gI (ts:=[.slot 4]) 17247502583 Tryz.func141 ?_
 (have F:=@tmz;have NN:Zag 2:=trivial;refine gGn ?_;clear F NN)
 refine gB ?_
 (have F:=@tmz;refine gC (cS) ?_;clear F)
 (have F:=ai @hn1 @tmz;refine gC (cI) ?_;clear F)
 (have F:=ai @hn1 @tmz;refine gR ?_;clear F)
 (have F:=@tmz;have NN:Zag 4:=trivial;refine gGn ?_;clear F NN)
 refine gB ?_
 (have F:=@tmz;refine gC (cU) ?_;clear F)
 (have F:=@tmz;refine gR ?_;clear F)
 (have F:=@tmz;refine gG ?_;clear F)
 (have F:=ai @z0 @tmz;refine gL (ι:=Nat) [5,7,26,34] [] (fun i=>[(7,A.d (.one (.lit (.int .i64 i)))),(5,A.d (.one (.lit (.int .i64 (ofB P i)))))]) (fun i=>[]) (fun i=>i<=g.sorts.names.length) (fun i=>g.sorts.names.length - i) (0) (Tai _) (fun i hi=>?_);clear F)
 by_cases hlt:i < g.sorts.names.length
 rotate_left
 ·obtain rfl:i=g.sorts.names.length:=by omega
  have q1:((g.sorts.names.length:Int) < (g.sorts.names.length:Int))=False:=eq_false om
  (have F:=ai @q1 (ai @hUl @tmz);refine gG ?_;exact gTd)
 have q1:((i:Int) < (g.sorts.names.length:Int))=True:=eq_true om
 have hw1:=Zap (k:=i) om
 have hu:=(ZdT (SortsOk.subsIn hs.subs)).get hlt
 have ru:=ZaH hu.1
 have h2p:2 ^ i < 2 ^ g.sorts.names.length:=Nat.pow_lt_pow_right om hlt
 have ho2:=Zc8 (Zbt (Tbd (ZbW P i) (Tbt om hi)) hN) (Zbt h2p hN)
 (have F:=ai @q1 (ai @hUl @tmz);have NN:Zag 8:=trivial;refine gGn ?_;clear F NN)
 refine gB ?_
 (have F:=ai @ru (ai @rr (ai @hUl (ai @hlt (ai @Zas @tmz))));refine gC (ZeN (a:=(up g.sorts).getD i 0) (k:=kn) (Zbt hu.2 hN) om) ?_;clear F)
 (have F:=@tmz;refine gR ?_;clear F)
 cases ht:tbit ((up g.sorts).getD i 0) kn with
 | false =>
  have e:=hs1 i
  rw [ht,if_neg (by simp),Nat.or_zero] at e
  rw [<- e]
  (have F:=ai @hw1 @tmz;refine gG ?_;exact ⟨i+1,hlt,gw,gw,by omega⟩)
 | true =>
  have e:=hs1 i
  rw [ht,if_pos rfl] at e
  rw [<- e] at ho2
  (have F:=@tmz;have NN:Zag 9:=trivial;refine gGn ?_;clear F NN)
  refine gB ?_
  (have F:=@tmz;refine gC (ZfN (k:=i) om) ?_;clear F)
  (have F:=ai @ho2 @tmz;refine gR ?_;clear F)
  (have F:=ai @hw1 @tmz;refine gG ?_;exact ⟨i+1,hlt,gw,gw,by omega⟩)
end
theorem ZbI.eq_iff {g:Sgn} {a b:Tm} (ha:ZbI g a) (hb:ZbI g b):Zak a b=0 ↔ a.name=b.name∧a.sort=b.sort:=by
 rw [ZeO]
 obtain ⟨h1,_,_,_,h2⟩:=ha
 obtain ⟨h3,_,_,_,h4⟩:=hb
 obtain ⟨o,n,s,l⟩:=a
 obtain ⟨o',n',s',l'⟩:=b
 simp only [Tm.op,Tm.args] at h1 h2 h3 h4
 subst h1 h2 h3 h4
 simp [Tm.name,Tm.sort]
section
variable {g:Sgn} {l:List Bd}
theorem ZwH:∀ (b:Bd),(Zb2 b).drop 1=.lit (.string b.var.name)::.lit (.int .i64 b.var.sort)::.sl (Zab b.var.args)::encTm b.to:=fun ⟨v,t⟩=>by cases v;simp [Zb2,encTm,Tm.sort,Tm.args,Tm.name]
theorem bds8 (l:List Bd):ZaT 8 (ZcJ l)=true:=by
 refine List.all_eq_true.2 fun r hr=>?_
 obtain ⟨y,hy,rfl⟩:=Tbi.1 hr
 simp [Zb2,List.all_append,tmz]
theorem Zor {l:List Bd} {i:Nat} {y:Bd} (h:l[i]?=some y) (v:Tm):Zbu (l.drop i) v=if Zak y.var v=0 then some y.to else Zbu (l.drop (i+1)) v:=by
 obtain ⟨hi,rfl⟩:=Tac.1 h
 rw [List.drop_eq_getElem_cons hi];rfl
theorem Zsv (hl:∀ y∈l,ZbI g y.var) (h8:l.length<=8) {v:Tm} (hv:ZbI g v):Con e0 117 [.one (.sl (ZcJ l)),.agg (encTm v)] [.agg (encTm ((Zbu l v).getD v)),.one (.lit (.bool (Zbu l v).isSome))]:=by
 have bl:=Zil l
 have bg:=Zmf l
 have bb:=bds8 l
 refine gI (ts:=[.cell 4 46,.slot 5]) 134221755 Tryz.func117 ?_
 (have F:=ai @bl @tmz;refine gG ?_;clear F)
 (have F:=@tmz;refine gL (ι:=Nat) [5,7,10,11,27] [] (fun i=>[(10,A.d (.one (.lit (.int .i64 i))))]) (fun i=>[]) (fun i=>i<=l.length∧Zbu (l.drop i) v=Zbu l v) (fun i=>l.length - i) (0) (⟨Tai _,rfl⟩) (fun i hi=>?_);clear F)
 obtain ⟨hi,hlo⟩:=hi
 by_cases hil:i < l.length
 rotate_left
 ·obtain rfl:i=l.length:=by omega
  have q2:((l.length:Int) < (l.length:Int))=False:=eq_false om
  rw [List.drop_length] at hlo
  have e:Zbu l v=none:=hlo.symm
  rw [e]
  have z1:(none:Option Tm).getD v=v:=rfl
  (have F:=ai @q2 (ai @z1 @tmz);refine gG ?_;exact gTd)
 have q2:((i:Int) < (l.length:Int))=True:=eq_true om
 obtain ⟨y,hy⟩:∃ y,l[i]?=some y:=⟨_,Taa hil⟩
 rw [Zor hy] at hlo
 have hyv:=hl y (Tab hy)
 have hwi:=Zap (k:=i) om
 have he:=ZbI.eq_iff hyv hv
 by_cases h1:y.var.name=v.name
 rotate_left
 ·have q3:(y.var.name.toList==v.name.toList)=false:=beq_eq_false_iff_ne.2 fun h=>h1 (toList_inj h)
  rw [if_neg (fun h=>h1 (he.1 h).1)] at hlo
  (have F:=ai @q2 (ai @q3 (ai @hwi (ai @bl (ai @bb (ai @bg (ai @hy (ai @bdz (ai @ZwH (ai @Zas @tmz)))))))));refine gG ?_;exact ⟨i+1,⟨hil,hlo⟩,gw,gw,by omega⟩)
 have q3:(y.var.name.toList==v.name.toList)=true:=by rw [h1];exact beq_self_eq_true _
 by_cases h2:y.var.sort=v.sort
 rotate_left
 ·have q4:(y.var.sort=v.sort)=False:=eq_false h2
  rw [if_neg (fun h=>h2 (he.1 h).2)] at hlo
  (have F:=ai @q2 (ai @q3 (ai @q4 (ai @hwi (ai @bl (ai @bb (ai @bg (ai @hy (ai @bdz (ai @ZwH (ai @Zas @tmz))))))))));refine gG ?_;exact ⟨i+1,⟨hil,hlo⟩,gw,gw,by omega⟩)
 have q4:(y.var.sort=v.sort)=True:=eq_true h2
 rw [if_pos (he.2 ⟨h1,h2⟩)] at hlo
 rw [<- hlo]
 have z1:(some y.to).getD v=y.to:=rfl
 (have F:=ai @q2 (ai @q3 (ai @q4 (ai @z1 (ai @bl (ai @bb (ai @bg (ai @hy (ai @bdz (ai @ZwH (ai @Zas @tmz))))))))));refine gG ?_;exact gTd)
theorem ZA5 (hl:Zwb l) {v:Tm} (hv:okTm v) (h8:l.length<=1000):Con e0 76 [.one (.sl (ZcJ l)),.agg (encTm v)] [.agg (encTm ((Zbu l v).getD zTm)),.one (.lit (.bool (Zbu l v).isSome))]:=by
 have bl:=Zil l
 have bg:=Zmf l
 have bb:=bds8 l
 have hz:=Zmz
 refine gI (ts:=[.cell 4 46,.slot 5]) 525435 Tryz.func76 ?_
 (have F:=ai @bl @tmz;refine gG ?_;clear F)
 (have F:=@tmz;refine gL (ι:=Nat) [5,6,10,19] [] (fun i=>[(6,A.d (.one (.lit (.int .i64 i))))]) (fun i=>[]) (fun i=>i<=l.length∧Zbu (l.drop i) v=Zbu l v) (fun i=>l.length - i) (0) (⟨Tai _,rfl⟩) (fun i hi=>?_);clear F)
 obtain ⟨hi,hlo⟩:=hi
 by_cases hil:i < l.length
 rotate_left
 ·obtain rfl:i=l.length:=by omega
  have q2:((l.length:Int) < (l.length:Int))=False:=eq_false om
  rw [List.drop_length] at hlo
  have e:Zbu l v=none:=hlo.symm
  rw [e]
  have z1:(none:Option Tm).getD zTm=zTm:=rfl
  (have F:=ai @q2 (ai @z1 (ai @hz (ai @bl @tmz)));refine gG ?_;exact gTd)
 have q2:((i:Int) < (l.length:Int))=True:=eq_true om
 obtain ⟨y,hy⟩:∃ y,l[i]?=some y:=⟨_,Taa hil⟩
 rw [Zor hy] at hlo
 have hwi:=Zap (k:=i) om
 have cS:=Ze0 (hl y (Tab hy)).1 hv
 (have F:=ai @q2 (ai @bl @tmz);have NN:Zag 4:=trivial;refine gGn ?_;clear F NN)
 refine gB ?_
 (have F:=ai @bl (ai @bb (ai @bg (ai @hy (ai @bdz (ai @Zas @tmz)))));refine gC (cS) ?_;clear F)
 by_cases h1:Zak y.var v=0
 rotate_left
 ·have q3:decide (Zak y.var v=0)=false:=decide_eq_false h1
  rw [if_neg h1] at hlo
  rw [q3]
  (have F:=@tmz;refine gR ?_;clear F)
  (have F:=ai @hwi (ai @bdz @tmz);refine gG ?_;exact ⟨i+1,⟨hil,hlo⟩,gw,gw,by omega⟩)
 have q3:decide (Zak y.var v=0)=true:=decide_eq_true h1
 rw [if_pos h1] at hlo
 rw [q3,<- hlo]
 have z1:(some y.to).getD zTm=y.to:=rfl
 (have F:=@tmz;refine gR ?_;clear F)
 (have F:=ai @z1 (ai @bl (ai @bb (ai @bg (ai @hy (ai @bdz (ai @Zas @tmz))))));refine gG ?_;exact gTd)
theorem SbsOk.okB (hg:SgnOk g) (h:SbsOk g l):Zwb l:=fun y hy=>⟨ZaO.ok hg _ _ (Tam _) (h.var y hy).term.form,ZaO.ok hg _ _ (Tam _) (h.to' y hy).form⟩
noncomputable def ap6 (g:Sgn) (l:List Bd) (t:Tm):Tm:=if t.op=-1 then (Zbu l t).getD t else match apTs g l t.args with
 | none=>zTm
 | some us=>match g.ops[t.op.toNat]? with
  | none=>zTm
  | some o=>match o.decls[0]? with
   | none=>zTm
   | some d=>mk6 g o d t.op us
theorem Zve {t:Tm} (h:t.op=-1):ap6 g l t=(Zbu l t).getD t:=by unfold ap6;rw [if_pos h]
theorem ZCy {t:Tm} (h:t.op≠-1) (hn:apTs g l t.args=none):ap6 g l t=zTm:=by unfold ap6;rw [if_neg h,hn]
theorem ZGO {t:Tm} {us:List Tm} {o:Opr} {d:Dcl} (h:t.op≠-1) (hu:apTs g l t.args=some us) (ho:g.ops[t.op.toNat]?=some o) (hd:o.decls[0]?=some d):ap6 g l t=mk6 g o d t.op us:=by
 unfold ap6
 rw [if_neg h,hu]
 simp only [ho,hd]
theorem Zli {t u:Tm} (h:apT g l t=some u):ap6 g l t=u:=by
 by_cases ho:t.op=-1
 ·rw [Zgn ho,Tap] at h
  rw [Zve ho,h]
 ·rw [Zfk ho] at h
  unfold ap6
  rw [if_neg ho]
  cases h1:apTs g l t.args with
  | none=>rw [h1] at h;cases h
  | some us =>
   rw [h1,Option.bind_some] at h
   unfold mkT at h
   cases h2:g.ops[t.op.toNat]? with
   | none=>rw [h2] at h;cases h
   | some o =>
    rw [h2] at h
    simp only at h ⊢
    cases h3:o.decls[0]? with
    | none=>rw [h3] at h;cases h
    | some d =>
     rw [h3] at h
     simp only at h ⊢
     unfold mk6
     rw [h];rfl
theorem Zos {mc:C} (hg:SgnOk g) (hS:SbsOk g l):∀ (n:Nat) {t:Tm},sizeTm t < n->TermOk g t->Con e0 61 [.one (.ptr (encX g mc)),.one (.sl (ZcJ l)),.agg (encTm t)] [.agg (encTm ((apT g l t).getD zTm)),.one (.lit (.bool (apT g l t).isSome))]:=by
 intro n
 induction n with
 | zero=>exact fun {t} h _=>absurd h om
 | succ n IH =>
 intro t hsz ht
 have hz:=Zmz
 have h60:=Zqy ht
 by_cases hop:t.op=-1
 ·have hv:=ht.var hop
  have q1:(t.op < 0)=True:=eq_true om
  have cB:=Zsv hS.var hS.len hv
  have z1:(some ((Zbu l t).getD t)).getD zTm=(Zbu l t).getD t:=rfl
  have z2:(some ((Zbu l t).getD t)).isSome=true:=rfl
  rw [Zgn hop]
  refine gI (ts:=[.cell 6 46,.slot 7]) 2201036682727 Tryz.func61 ?_
  (have F:=ai @q1 @tmz;have NN:Zag 2:=trivial;refine gGn ?_;clear F NN)
  refine gB ?_
  (have F:=@tmz;refine gC (cB) ?_;clear F)
  (have F:=@tmz;refine gR ?_;clear F)
  (have F:=ai @z1 (ai @z2 @tmz);refine gG ?_;exact gTd)
 obtain ⟨o,d,hA⟩:=ht.form.node.resolve_left (fun hv=>hop hv.1)
 have q1:(t.op < 0)=False:=eq_false (by have:=hA.lo;omega)
 have cB:=fun us h1 h2=>ZA0 (mc:=mc) hg hA.lo hA.at' hA.fst us h1 h2
 refine gI (ts:=[.cell 6 46,.slot 7]) 2201036682727 Tryz.func61 ?_
 (have F:=ai @q1 @tmz;refine gG ?_;clear F)
 (have F:=ai @ZdH @tmz;refine gL (ι:=Nat × List Tm) [7,10,12,13,14,29,30,41] [10] (fun x=>[(29,A.d (.one (.lit (.int .i64 x.1)))),(10,.buf 10)]) (fun x=>[(10,.buf none 46 4 (Zab x.2))]) (fun x=>x.1<=t.args.length∧apTs g l (t.args.take x.1)=some x.2) (fun x=>t.args.length - x.1) ((0,[])) (⟨Tai _,rfl⟩) (fun x hx=>?_);clear F)
 obtain ⟨i,us⟩:=x
 obtain ⟨hi,hus⟩:=hx
 simp only at hi hus
 dsimp only
 have hul:=Zim hus
 rw [List.length_take_of_le hi] at hul
 have nl:=Zac us
 have nr:ZaT 4 (Zab us)=true:=Zdd _
 by_cases hil:i < t.args.length
 rotate_left
 ·obtain rfl:i=t.args.length:=by omega
  have q2:((t.args.length:Int) < (t.args.length:Int))=False:=eq_false om
  rw [Tao] at hus
  have e:apT g l t=mkO g o d t.op us:=by rw [Zfk hop,hus];exact Zqn hA.at' hA.fst us
  have cB:=cB us (fun u hu=>by
   obtain ⟨a,ha,hau⟩:=Zin hus u hu
   exact ZfQ hg hS.to' _ a (Tam _) (ht.arg ha) hau) om
  rw [e]
  (have F:=ai @q2 @tmz;have NN:Zag 13:=trivial;refine gGn ?_;clear F NN)
  refine gB ?_
  (have F:=@tmz;refine gC (cB) ?_;clear F)
  (have F:=@tmz;refine gR ?_;clear F)
  (have F:=@tmz;refine gG ?_;exact gTd)
 have q2:((i:Int) < (t.args.length:Int))=True:=eq_true om
 obtain ⟨a,ha⟩:∃ a,t.args[i]?=some a:=⟨_,Taa hil⟩
 have ham:=Tab ha
 have hs1:=ZaX t
 have hs2:=Zbb ham
 have cA:=IH (t:=a) om (ht.arg ham)
 have hwi:=Zap (k:=i) om
 have hmx:(us.length+1<=maxApp)=True:=eq_true (by unfold maxApp;omega)
 have hsn:apTs g l (t.args.take (i+1))=(apT g l a).map fun u=>us++[u]:=by rw [Zch ha,Zju,hus];rfl
 (have F:=ai @q2 (ai @ha (ai @Zas @tmz));have NN:Zag 8:=trivial;refine gGn ?_;clear F NN)
 refine gB ?_
 (have F:=ai @ha (ai @Zas @tmz);refine gC (cA) ?_;clear F)
 (have F:=@tmz;refine gR ?_;clear F)
 cases hu:apT g l a with
 | none =>
  have z3:(none:Option Tm).isSome=false:=rfl
  have z5:(none:Option Tm).getD zTm=zTm:=rfl
  have e:apTs g l t.args=none:=Zjv ham hu
  have e2:apT g l t=none:=by rw [Zfk hop,e];rfl
  rw [e2]
  (have F:=ai @z3 (ai @z5 (ai @hz @tmz));refine gG ?_;exact gTd)
 | some u =>
  have z3:(some u).isSome=true:=rfl
  have z5:(some u).getD zTm=u:=rfl
  rw [hu] at hsn
  have ns:Zab us++[encTm u]=Zab (us++[u]):=by simp [Zbi]

  (have F:=ai @z3 (ai @z5 (ai @nl (ai @nr (ai @ns (ai @hmx (ai @hwi @tmz))))));refine gG ?_;exact ⟨(i+1,us++[u]),⟨hil,hsn⟩,gw,gw,by omega⟩)
theorem ZkK (hokg:Zdq g) (hg:SgnOk g) (hS:SbsOk g l):∀ (n:Nat) {t:Tm},sizeTm t < n->TermOk g t->Con e0 65 [.agg (Zav g),.one (.sl (ZcJ l)),.agg (encTm t)] [.agg (encTm (ap6 g l t)),.one (.lit (.bool (apT g l t).isSome))]:=by
 intro n
 induction n with
 | zero=>exact fun {t} h _=>absurd h om
 | succ n IH =>
 intro t hsz ht
 have hz:=Zmz
 have h60:=Zqy ht
 have hok2:=ZaO.ok hg _ t (Tam _) ht.form
 have hokB:Zwb l:=SbsOk.okB hg hS
 by_cases hop:t.op=-1
 ·have q1:(t.op=-1)=True:=eq_true hop
  have cB:=ZA5 hokB hok2 (by have:=hS.len;omega)
  have z2:(some ((Zbu l t).getD t)).isSome=true:=rfl
  rw [Zve hop,Zgn hop]
  rw [Zav] at *
  refine gI (ts:=[.cell 6 46,.slot 7]) 70370900131823 Tryz.func65 ?_
  (have F:=ai @q1 @tmz;have NN:Zag 2:=trivial;refine gGn ?_;clear F NN)
  refine gB ?_
  (have F:=@tmz;refine gC (cB) ?_;clear F)
  (have F:=@tmz;refine gR ?_;clear F)
  cases hk:Zbu l t with
  | none =>
   have z1:(none:Option Tm).getD t=t:=rfl
   have z3:(none:Option Tm).isSome=false:=rfl
   rw [hk] at z2
   (have F:=ai @z1 (ai @z2 (ai @z3 @tmz));refine gG ?_;exact gTd)
  | some u =>
   have z1:(some u).getD t=u:=rfl
   have z3:(some u).isSome=true:=rfl
   have z4:(some u).getD zTm=u:=rfl
   rw [hk] at z2
   (have F:=ai @z1 (ai @z2 (ai @z3 (ai @z4 @tmz)));refine gG ?_;exact gTd)
 obtain ⟨o,d,hA⟩:=ht.form.node.resolve_left (fun hv=>hop hv.1)
 have q1:(t.op=-1)=False:=eq_false hop
 have cB:=fun us h1 h2=>ZwG hokg hg hA.lo hA.at' hA.fst us h1 h2
 rw [Zav] at *
 refine gI (ts:=[.cell 6 46,.slot 7]) 70370900131823 Tryz.func65 ?_
 (have F:=ai @q1 @tmz;refine gG ?_;clear F)
 (have F:=ai @ZdH @tmz;refine gL (ι:=Nat × List Tm) [7,10,11,12,13,31,46] [10] (fun x=>[(11,A.d (.one (.lit (.int .i64 x.1)))),(10,.buf 10)]) (fun x=>[(10,.buf none 46 4 (Zab x.2))]) (fun x=>x.1<=t.args.length∧apTs g l (t.args.take x.1)=some x.2) (fun x=>t.args.length - x.1) ((0,[])) (⟨Tai _,rfl⟩) (fun x hx=>?_);clear F)
 obtain ⟨i,us⟩:=x
 obtain ⟨hi,hus⟩:=hx
 simp only at hi hus
 dsimp only
 have hul:=Zim hus
 rw [List.length_take_of_le hi] at hul
 have nl:=Zac us
 have nr:ZaT 4 (Zab us)=true:=Zdd _
 by_cases hil:i < t.args.length
 rotate_left
 ·obtain rfl:i=t.args.length:=by omega
  have q2:((t.args.length:Int) < (t.args.length:Int))=False:=eq_false om
  rw [Tao] at hus
  have e:apT g l t=mkO g o d t.op us:=by rw [Zfk hop,hus];exact Zqn hA.at' hA.fst us
  have cB:=cB us (fun u hu=>by
   obtain ⟨a,ha,hau⟩:=Zin hus u hu
   exact ZfQ hg hS.to' _ a (Tam _) (ht.arg ha) hau) om
  rw [e,ZGO hop hus hA.at' hA.fst]
  (have F:=ai @q2 @tmz;have NN:Zag 14:=trivial;refine gGn ?_;clear F NN)
  refine gB ?_
  (have F:=@tmz;refine gC (cB) ?_;clear F)
  (have F:=@tmz;refine gR ?_;clear F)
  (have F:=@tmz;refine gG ?_;exact gTd)
 have q2:((i:Int) < (t.args.length:Int))=True:=eq_true om
 obtain ⟨a,ha⟩:∃ a,t.args[i]?=some a:=⟨_,Taa hil⟩
 have ham:=Tab ha
 have hs1:=ZaX t
 have hs2:=Zbb ham
 have cA:=IH (t:=a) om (ht.arg ham)
 have hwi:=Zap (k:=i) om
 have hmx:(us.length+1<=maxApp)=True:=eq_true (by unfold maxApp;omega)
 have hsn:apTs g l (t.args.take (i+1))=(apT g l a).map fun u=>us++[u]:=by rw [Zch ha,Zju,hus];rfl
 (have F:=ai @q2 (ai @ha (ai @Zas @tmz));have NN:Zag 10:=trivial;refine gGn ?_;clear F NN)
 refine gLt 11 10 12 ?_
 (have F:=ai @ha (ai @Zas @tmz);refine gC (cA) ?_;clear F)
 (have F:=@tmz;refine gR ?_;clear F)
 cases hu:apT g l a with
 | none =>
  have z3:(none:Option Tm).isSome=false:=rfl
  have z5:(none:Option Tm).getD zTm=zTm:=rfl
  have e:apTs g l t.args=none:=Zjv ham hu
  have e2:apT g l t=none:=by rw [Zfk hop,e];rfl
  rw [e2,ZCy hop e]
  (have F:=ai @z3 (ai @z5 (ai @hz @tmz));refine gG ?_;exact gTd)
 | some u =>
  have z3:(some u).isSome=true:=rfl
  have z5:ap6 g l a=u:=Zli hu
  rw [hu] at hsn
  have ns:Zab us++[encTm u]=Zab (us++[u]):=by simp [Zbi]
  rw [z5]
  (have F:=ai @z3 (ai @z5 (ai @nl (ai @nr (ai @ns (ai @hmx (ai @hwi @tmz))))));refine gG ?_;exact ⟨(i+1,us++[u]),⟨hil,hsn⟩,gw,gw,by omega⟩)
end
section
variable {g:Sgn} {b:Nat}
def ZFS (g:Sgn) (b:Nat) (w:World):Prop:=(∀ c,c=b->¬ e0.E c)∧∃ M,Memo g M∧MapL w b M
noncomputable def eM (g:Sgn) (b:Nat):Env:=e0.plus (fun c=>c=b) (ZFS g b)
theorem eMP:∀ (g:Sgn) (b:Nat),(eM g b).P=Tryz.prog:=fun _ _=>rfl
theorem ZcV:Fits e0 (fun c=>c=b) (ZFS g b):=⟨fun w w' hz hE ⟨h1,M,h2,h3⟩=>⟨h1,M,h2,MapL.stable b M w w' hz hE h3⟩,fun w h=>h.1⟩
theorem ZFT:(eM g b).Ok:=ZcV.ok Zhb
theorem Con.m {f:FuncId} {args r:List D} (h:Con e0 f args r):Con (eM g b) f args r:=Con.up ZcV h
theorem ConE.m {f:FuncId} {args:List D} {R:List D->Prop} (h:ConE e0 f args R):ConE (eM g b) f args R:=ConE.up ZcV h
theorem ConR.m {f:FuncId} {args:List D} {ty sz:Nat} {rows:List (List C)} (h:ConR e0 f args ty sz rows):ConR (eM g b) f args ty sz rows:=ConR.up ZcV h
theorem ConI.m {f:FuncId} {ty sz:Nat} {rows rows':List (List C)} {args r:List D} (h:ConI e0 f ty sz rows args rows' r):ConI (eM g b) f ty sz rows args rows' r:=ConI.up ZcV h
theorem ConT.m {f:FuncId} {ty sz:Nat} {rows rows':List (List C)} {args:List D} (h:ConT e0 f ty sz rows args rows'):ConT (eM g b) f ty sz rows args rows':=ConT.up ZcV h
theorem ConP.m {f:FuncId} {args:List D} {pm:List Bk} {R:List D->List Bk->Prop} (h:ConP e0 f args pm R):ConP (eM g b) f args pm R:=ConP.up ZcV h
theorem ConP.imp {e:Env} {f:FuncId} {args:List D} {pm:List Bk} {R R':List D->List Bk->Prop} (h:ConP e f args pm R) (hR:∀ r pm,R r pm->R' r pm):ConP e f args pm R' :=
 ⟨h.1,fun w S vs hS hE hG hpm hap hvs=>(h.2 w S vs hS hE hG hpm hap hvs).mono fun en w' ⟨v,r,pm',h1,hr,hk⟩=>⟨v,r,pm',h1,hR r pm' hr,hk⟩⟩
theorem ZmC (hg:SgnOk g) {t:Tm} (hs:sizeTm t<=60) (hf:ZaO g t):Con (eM g b) 116 [.one (.ptr (encX g (.lit (.map (some b))))),.agg (encTm t)] [.one (.lit (.int .i64 (sortsTm g t:Nat)))] :=
 ZCz (ι:=List (ByteArray × Value)) (G:=fun M w=>MapL w b M) (ok:=Memo g) ZcV (MapL.stable b) (fun w h=>h.2) (fun w M h1 h2 h3=>⟨h1,M,h2,h3⟩) (ZjB hg b _ (Tam _) hs hf [] Memo.nil).1
  fun M hM=>(ZjB hg b _ (Tam _) hs hf M hM).imp fun r pm ⟨M',h1,h2,h3,_⟩=>⟨h1,M',h3,h2⟩
theorem pM {mask:Nat} {c:Code} {s:List (Nat × A)} {m m2:List (Nat × Bk)} {Q:PX->St->Prop} (g:Sgn) (b k:Nat) (hK:pwp (eM g b) mask c ⟨s,m2⟩ Q) (hm:gm m k=some (mapB b []):=by exact snx) (hr:remM k m=m2:=by exact snv):pwp e0 mask c ⟨s,m⟩ Q:=by
 subst hr
 exact ZGP k ZcV.st hm (fun hd=>⟨ZcV,fun w h=>⟨hd,[],Memo.nil,h⟩⟩) fun _=>hK
theorem tmM:type_of% (ai @tmz (ai @eMP @Zbd)):=ai @tmz (ai @eMP @Zbd)
end
section
variable {g:Sgn} {l:List Bd} {b:Nat}
end
section
variable {g:Sgn} {l:List Bd}
theorem Zvf {t:Tm} (h:TermOk g t):Zae (encTm t)<=1048576:=by
 have h1:=Zop h.form
 have h2:=h.size
 omega
end
section
variable {g:Sgn}
theorem Zot {e:Env} {f:FuncId} {a c:D} {rows:List (List C)} {r:List D} (h:Con e f [a,.one (.sl rows),c] r):Con e f [a,.clip rows,c] r :=
 ⟨h.1,fun w S vs hS hE hG hv=>h.2 w S vs hS hE hG (by
  match vs,hv with
  | [x,y,z],hv=>exact ⟨hv.1,hv.2.1.1,hv.2.2⟩)⟩
theorem Zvg (hs:SortsOk g.sorts) {v:Tm} {k:Nat}:Low g v k ↔ k∈Zbq (dnk g v.sort):=by
 have h8:=hs.n8
 by_cases h:0<=v.sort∧v.sort < g.sorts.names.length
 ·rw [Zme (Zj6 hs h.1 h.2).2 om,ZhS hs];rfl
 ·have hd:∀ j,(dnk g v.sort).testBit j=true->j < 16:=fun j hj=>by have:=((ZhS hs v.sort j).1 hj).1;omega
  simp only [Zbq,ZbS,List.mem_filter,List.mem_range]
  rw [ZhS hs]
  constructor
  ·intro h;exact ⟨by have:=h.1;omega,h⟩
  ·intro h;exact h.2
theorem Low.sbs (hg:SgnOk g) {v:Tm} {k:Nat} (hv:ZbI g v) (h:Low g v k):SbsOk g [⟨v,vr v k⟩]:=by
 have hR:=h.var hg hv
 refine ⟨by simp,fun i y hy=>?_⟩
 match i,hy with
 | 0,hy =>
  simp only [Tas,Tap] at hy
  subst hy
  refine ⟨hv,(fun j p e=>by omega),hR.to'.term,?_⟩
  rw [ZdO hR.to'.1]
  exact h.2
 | i+1,hy=>simp at hy
theorem Zrn (hok:Zdq g) (hg:SgnOk g):∀ (vs:List Tm),vs.length<=8->(∀ v∈vs,ZbI g v)->∀ {l r:Tm},TermOk g l->TermOk g r->Con e0 86 [.agg (Zav g),.agg (encTm l),.agg (encTm r),.one (.sl (Zab vs))] [.one (.lit (.bool (lowB g vs l r)))]:=by
 intro vs
 induction vs with
 | nil =>
  intro _ _ l r hl hr
  have h8:=hg.sorts.n8
  have hlt:∀ {t:Tm},TermOk g t->sortsTm g t < 65536:=fun ht=>Tbd (Zek hg ht.form.node) (Tbe (Tbt om (show g.sorts.names.length<=16 by omega)) (by decide))
  have cL:=ZkG hg _ (Tam _) hl.form
  have cR:=ZkG hg _ (Tam _) hr.form
  have cS:=Zwu (hlt hl) (hlt hr)
  have e:decide (sortsTm g l &&& sortsTm g r=sortsTm g l)=lowB g [] l r:=by
   rw [Bool.eq_iff_iff,decide_eq_true_eq,Zre]
   exact Zrb
  rw [e] at cS
  rw [Zav] at *
  have z0:(((0:Nat):Int)=0)=True:=eq_true rfl
  refine gI (ts:=[.slot 8]) 4835703278458654138105727 Tryz.func86 ?_
  (have F:=ai @z0 @tmz;have NN:Zag 2:=trivial;refine gGn ?_;clear F NN)
  refine gB ?_
  (have F:=@tmz;refine gC (cL) ?_;clear F)
  (have F:=@tmz;refine gC (cR) ?_;clear F)
  (have F:=@tmz;refine gC (cS) ?_;clear F)
  (have F:=@tmz;refine gR ?_;clear F)
  (have F:=@tmz;refine gG ?_;exact gTd)
 | cons v vs IH =>
 intro h8 hv l r hl hr
 have hv0:=hv v Tar
 have IH':=fun {x y} (hx:TermOk g x) (hy:TermOk g y)=>IH (by simp at h8;omega) (fun w hw=>hv w (Tak _ hw)) hx hy
 have hs8:=hg.sorts.n8
 have hd:=Zj6 hg.sorts hv0.2.2.1 hv0.2.2.2.1
 have hd16:dnk g v.sort < 65536:=Tbd hd.2 (Tbe (Tbt om (show g.sorts.names.length<=16 by omega)) (by decide))
 have cB:=Zwv hok hg.sorts hv0.2.2.1 hv0.2.2.2.1
 have cL:=ZAZ hd16
 have cV:=ZjF v.name
 have nl:=ZaF (l:=Zbq (dnk g v.sort))
 have nr:=Zay (l:=Zbq (dnk g v.sort))
 have nlt:(Zbq (dnk g v.sort)).length<=16:=Zf8 _ 16
 have vt:Zab (v::vs)=encTm v::Zab vs:=by simp [Zbi]
 have vl:(encTm v::Zab vs).length=vs.length+1:=by rw [Taf,Zac]
 have q0:(((vs.length+1:Nat):Int)=0)=False:=eq_false om
 have vr0:=Zdd (v::vs)
 rw [vt] at vr0 ⊢
 have vg:(encTm v::Zab vs)[0]?=some (encTm v):=rfl
 have vd:(Zab vs).take vs.length=Zab vs:=List.take_of_length_le (by rw [Zac];exact Tah _)
 have d1:((1:Int)<=((vs.length+1:Nat):Int))=True:=eq_true om
 have d2:(((vs.length+1:Nat):Int)<=((vs.length+1:Nat):Int))=True:=eq_true (Int.le_refl _)
 have b2:∀ t,(encTm v++[C.lit (Value.int IntKind.i64 0),C.lit (Value.string ByteArray.empty),C.lit (Value.int IntKind.i64 0),C.sl []]).take 4++encTm t++(encTm v++[C.lit (Value.int IntKind.i64 0),C.lit (Value.string ByteArray.empty),C.lit (Value.int IntKind.i64 0),C.sl []]).drop 8=Zb2 ⟨v,t⟩:=fun t=>by
  rw [Zgq,show (8:Nat)=4+4 from rfl,<- List.drop_drop,Zfm]
  simp [Zb2]
 have b3:∀ y,[Zb2 y]=ZcJ [y]:=fun _=>rfl
 let Pass:Nat->Prop:=fun k=>∃ x y,apT g [⟨v,vr v k⟩] l=some x∧apT g [⟨v,vr v k⟩] r=some y∧lowP g vs x y
 have hall:(∀ (j:Nat) k,j < (Zbq (dnk g v.sort)).length->(Zbq (dnk g v.sort))[j]?=some k->Pass k)->lowB g (v::vs) l r=true:=fun h=>Zoo fun k hk=>by
  obtain ⟨j,hj⟩:=Tbk ((Zvg hg.sorts).1 hk)
  exact h j k (Tac.1 hj).1 hj
 have hnot:∀ {k},Low g v k->¬ Pass k->lowB g (v::vs) l r=false:=fun hk h=>Zmy fun h2=>h (h2 _ hk)
 rw [Zav] at *
 rw [Za6] at cB
 refine gI (ts:=[.slot 8]) 4835703278458654138105727 Tryz.func86 ?_
 (have F:=ai @vl (ai @q0 @tmz);have NN:Zag 3:=trivial;refine gGn ?_;clear F NN)
 refine gB ?_
 (have F:=ai @vg (ai @vl (ai @vr0 (ai @q0 @tmz)));refine gC (cB) ?_;clear F)
 (have F:=ai @vg (ai @vl (ai @vr0 @tmz));refine gC (cL) ?_;clear F)
 (have F:=@tmz;refine gR ?_;clear F)
 (have F:=ai @nl @tmz;refine gG ?_;clear F)
 (have F:=@tmz;refine gL (ι:=Nat) [8,10,11,12,13,14,15,37,82] [] (fun i=>[(10,A.d (.one (.lit (.int .i64 i))))]) (fun i=>[]) (fun i=>i<=(Zbq (dnk g v.sort)).length∧∀ (j:Nat) k,j < i->(Zbq (dnk g v.sort))[j]?=some k->Pass k) (fun i=>(Zbq (dnk g v.sort)).length - i) (0) (⟨Tai _,fun j k h=>absurd h om⟩) (fun i hi=>?_);clear F)
 obtain ⟨hi,hP⟩:=hi
 by_cases hlt:i < (Zbq (dnk g v.sort)).length
 rotate_left
 ·obtain rfl:i=(Zbq (dnk g v.sort)).length:=by omega
  have q1:(((Zbq (dnk g v.sort)).length:Int) < ((Zbq (dnk g v.sort)).length:Int))=False:=eq_false om
  rw [hall hP]
  (have F:=ai @q1 (ai @nl @tmz);refine gG ?_;exact gTd)
 have q1:((i:Int) < ((Zbq (dnk g v.sort)).length:Int))=True:=eq_true om
 have hw1:=Zap (k:=i) om
 obtain ⟨k,hk⟩:∃ k,(Zbq (dnk g v.sort))[i]?=some k:=⟨_,Taa hlt⟩
 have hkg:=ZaH hk
 have hLow:Low g v k:=(Zvg hg.sorts).2 (Tab hk)
 have hS:=hLow.sbs hg hv0
 have hR:Zke g [⟨v,vr v k⟩]:=fun y hy=>by rw [Tbj.1 hy];exact hLow.var hg hv0
 obtain ⟨x,hx,_⟩:=ZeJ hg hR _ l (Tam _) hl
 obtain ⟨y,hy,_⟩:=ZeJ hg hR _ r (Tam _) hr
 have hto:∀ z∈[(⟨v,vr v k⟩:Bd)],TermOk g z.to:=fun z hz=>(hR z hz).to'.term
 have hxt:=ZfQ hg hto _ l (Tam _) hl hx
 have hyt:=ZfQ hg hto _ r (Tam _) hr hy
 have cX:=ZkK hok hg hS _ (Tam _) hl
 have cY:=ZkK hok hg hS _ (Tam _) hr
 have z1:∀ u:Tm,(some u).isSome=true:=fun _=>rfl
 rw [Zli hx,hx,z1,Zav] at cX
 rw [Zli hy,hy,z1,Zav] at cY
 replace cX:=Zot cX
 replace cY:=Zot cY
 have cV:=ZjF v.name (k:Int)
 rw [show Tm.mk (-1) v.name (k:Int) []=vr v k from rfl] at cV
 have cI:=IH' hxt hyt
 (have F:=ai @q1 (ai @nl @tmz);have NN:Zag 7:=trivial;refine gGn ?_;clear F NN)
 refine gB ?_
 (have F:=ai @vg (ai @vl (ai @vr0 (ai @hkg (ai @hlt (ai @nl (ai @nr (ai @Zas @tmz)))))));refine gC (cV) ?_;clear F)
 (have F:=ai @b2 (ai @b3 (ai @bdz @tmz));refine gR ?_;clear F)
 (have F:=@tmz;have NN:Zag 8:=trivial;refine gGn ?_;clear F NN)
 refine gB ?_
 (have F:=ai @b3 @tmz;refine gC (cX) ?_;clear F)
 (have F:=@tmz;refine gR ?_;clear F)
 (have F:=@tmz;have NN:Zag 9:=trivial;refine gGn ?_;clear F NN)
 refine gB ?_
 (have F:=ai @b3 @tmz;refine gC (cY) ?_;clear F)
 (have F:=@tmz;refine gR ?_;clear F)
 (have F:=@tmz;have NN:Zag 10:=trivial;refine gGn ?_;clear F NN)
 refine gB ?_
 (have F:=ai @vd (ai @vl (ai @vr0 (ai @d1 (ai @d2 @tmz))));refine gC (cI) ?_;clear F)
 by_cases hp:lowP g vs x y
 ·rw [Zoo hp]
  have hnx:i+1<=(Zbq (dnk g v.sort)).length∧∀ (j:Nat) k,j < i+1->(Zbq (dnk g v.sort))[j]?=some k->Pass k:=⟨hlt,fun j k' hj hk'=>by
   by_cases e:j=i
   ·subst e;rw [hk] at hk';injection hk' with hk';subst hk';exact ⟨x,y,hx,hy,hp⟩
   ·exact hP j k' om hk'⟩
  (have F:=@tmz;refine gR ?_;clear F)
  (have F:=ai @hw1 @tmz;refine gG ?_;exact ⟨i+1,hnx,gw,gw,by omega⟩)
 ·rw [Zmy hp,hnot hLow fun ⟨x',y',h1,h2,h3⟩=>hp (by rw [hx] at h1;rw [hy] at h2;injection h1 with h1;injection h2 with h2;subst h1 h2;exact h3)]
  (have F:=@tmz;refine gR ?_;clear F)
  (have F:=@tmz;refine gG ?_;exact gTd)
end
theorem Zvh {m:Mdl} (h:Zdl m=true):SgnOk m.sig∧m.eqs.length<=16∧∀ e∈m.eqs,eqnB m.sig e=true:=by
 simp only [Zdl,Zeo,Taq,decide_eq_true_eq] at h
 exact ⟨Zjf.1 h.1,h.2.1,List.all_eq_true.1 h.2.2.2.1⟩
theorem ZCA {g:Sgn} {e:Eqn} (hg:SgnOk g) (h:eqnB g e=true):deB g e=true ↔ Zwt (ZaD e.l)∧lowB g (ZaD e.l) e.l e.r=true:=by
 obtain ⟨hl,hr,_⟩:=Znn h
 have hv:=Ziy hl
 have ha:Asc (ZaD e.l):=Ze1 _
 rw [Zre,<- ZHA hv ha]
 constructor
 ·intro h
  by_cases h1:NmOk (ZaD e.l)∧Desc g (ZaD e.l) e.l e.r
  ·exact ⟨h1.1,(Zk3 hg hv (Zvb h1.1) hl hr).2 h1.2⟩
  ·rw [ZjM h1] at h;cases h
 ·rintro ⟨h1,h2⟩
  exact Zrd h1 ((Zk3 hg hv (Zvb h1) hl hr).1 h2)
theorem ZmD {a b:ByteArray}:(a.toList==b.toList)=true ↔ a=b:=by
 rw [beq_iff_eq]
 exact ⟨fun h=>toList_inj h,fun h=>by rw [h]⟩
theorem Zsw {m:Mdl} (hm:Zmx m) (hb:Zae (ZcK m)<=1048576):Con e0 36 [.agg (ZcK m)] [.one (.lit (.bool (deM m)))]:=by
 have cM:=Zsn hm hb
 have hb0:=hb
 rw [Zix] at hb
 obtain ⟨hokg,hoe,hou⟩:=hm
 have cL:=@Zrn m.sig hokg
 have er:=Ziw
 have ed:ZcK m=[.sl (m.sig.sorts.names.map ZcH),.sl (m.sig.sorts.subs.map Zc1),.sl (m.sig.ops.map ZbK),.sl (m.eqs.map ZaV),.sl (m.rules.map ZaV)]:=rfl
 rw [ed] at cM ⊢
 rw [Zav] at cL
 refine gI (ts:=[.slot 2]) 144116287654601023 Tryz.func36 ?_
 (have F:=@tmz;have NN:Zag 1:=trivial;refine gGn ?_;clear F NN)
 refine gB ?_
 (have F:=@tmz;refine gC (cM) ?_;clear F)
 cases hs:Zdl m with
 | false =>
  have hf:deM m=false:=by simp [deM,hs]
  rw [hf]
  (have F:=@tmz;refine gR ?_;clear F)
  (have F:=@tmz;refine gG ?_;exact gTd)
 | true =>
 obtain ⟨hg,h16,hE⟩:=Zvh hs
 have ei:deM m=m.eqs.all (deB m.sig):=by simp [deM,hs]
 rw [ei]
 (have F:=@tmz;refine gR ?_;clear F)
 (have F:=ai @tmz (ai @eqz @er);refine gG ?_;clear F)
 (have F:=@tmz;refine gL (ι:=Nat) [2,3,4,5,13,26,40,57] [] (fun i=>[(3,A.d (.one (.lit (.int .i64 i))))]) (fun i=>[]) (fun i=>i<=m.eqs.length∧(m.eqs.take i).all (deB m.sig)=true) (fun i=>m.eqs.length - i) (0) (⟨Tai _,rfl⟩) (fun i hi=>?_);clear F)
 obtain ⟨hi,hall⟩:=hi
 by_cases hlt:i < m.eqs.length
 rotate_left
 ·obtain rfl:i=m.eqs.length:=by omega
  have q1:((m.eqs.length:Int) < (m.eqs.length:Int))=False:=eq_false om
  rw [Tao] at hall
  rw [hall]
  (have F:=ai @q1 @tmz;refine gG ?_;exact gTd)
 have q1:((i:Int) < (m.eqs.length:Int))=True:=eq_true om
 obtain ⟨c,hc⟩:∃ a,m.eqs[i]?=some a:=⟨_,Taa hlt⟩
 have hmm:=Tab hc
 have hw1:=Zap (k:=i) om
 have hbb:=Zez hmm
 obtain ⟨hl,hr,h5⟩:=Znn (hE c hmm)
 have cV:=ZgU (hoe c hmm).1 (Zvf hl)
 have dsp:=ZCA hg (hE c hmm)
 have cW:=cL hg (ZaD c.l) om (Ziy hl) hl hr
 have vl:=Zac (ZaD c.l)
 have vr0:=Zdd (ZaD c.l)
 (have F:=ai @q1 (ai @tmz (ai @eqz @er));have NN:Zag 6:=trivial;refine gGn ?_;clear F NN)
 refine gB ?_
 (have F:=ai @tmz (ai @eqz (ai @er @hc));refine gC (cV) ?_;clear F)
 (have F:=@tmz;refine gR ?_;clear F)
 (have F:=ai @vl @tmz;refine gG ?_;clear F)
 (have F:=@tmz;refine gL (ι:=Nat) [2,5,26,40] [] (fun k=>[(5,A.d (.one (.lit (.int .i64 k))))]) (fun k=>[]) (fun k=>1<=k∧k<=max 1 (ZaD c.l).length∧∀ (j:Nat) v w,j+1 < k->(ZaD c.l)[j+1]?=some v->(ZaD c.l)[j]?=some w->v.name≠w.name) (fun k=>max 1 (ZaD c.l).length - k) (1) (⟨Tah _,by omega,fun j v w h=>absurd h om⟩) (fun k hk=>?_);clear F)
 obtain ⟨k1,kl,hk⟩:=hk
 obtain ⟨j,rfl⟩:∃ j,k=j+1:=⟨k - 1,by omega⟩
 by_cases hlk:j+1 < (ZaD c.l).length
 rotate_left
 ·have q2:(((j+1:Nat):Int) < ((ZaD c.l).length:Int))=False:=eq_false om
  have hN:Zwt (ZaD c.l):=fun j' v w h1 h2=>hk j' v w (by have:=(Tac.1 h1).1;omega) h1 h2
  (have F:=ai @q2 (ai @vl @tmz);have NN:Zag 12:=trivial;refine gGn ?_;clear F NN)
  refine gB ?_
  (have F:=ai @tmz (ai @eqz (ai @er @hc));refine gC (cW) ?_;clear F)
  cases hh:lowB m.sig (ZaD c.l) c.l c.r with
  | false =>
   have hf:m.eqs.all (deB m.sig)=false:=Zca hmm (by
    cases hd:deB m.sig c with
    | false=>rfl
    | true=>rw [(dsp.1 hd).2] at hh;cases hh)
   rw [hf]
   (have F:=@tmz;refine gR ?_;clear F)
   (have F:=@tmz;refine gG ?_;exact gTd)
  | true =>
   have hq:i+1<=m.eqs.length∧(m.eqs.take (i+1)).all (deB m.sig)=true:=⟨hlt,by rw [ZcS hc,hall,dsp.2 ⟨hN,hh⟩];rfl⟩
   (have F:=@tmz;refine gR ?_;clear F)
   (have F:=ai @tmz @hw1;refine gG ?_;exact ⟨i+1,hq,gw,gw,by omega⟩)
 have q2:(((j+1:Nat):Int) < ((ZaD c.l).length:Int))=True:=eq_true om
 have hw2:=Zap (k:=j+1) om
 have hw3:IntKind.i64.wrap (((j+1:Nat):Int) - 1)=(j:Int):=by rw [IntWalk.i64_in _ om];omega
 obtain ⟨v,hv⟩:∃ v,(ZaD c.l)[j+1]?=some v:=⟨_,Taa hlk⟩
 obtain ⟨w,hw⟩:∃ w,(ZaD c.l)[j]?=some w:=⟨_,Taa om⟩
 have hlj:j < (ZaD c.l).length:=by omega
 cases hh:(v.name.toList==w.name.toList) with
 | true =>
  have hf:m.eqs.all (deB m.sig)=false:=Zca hmm (by
   cases hd:deB m.sig c with
   | false=>rfl
   | true=>exact absurd (ZmD.1 hh) ((dsp.1 hd).1 j v w hv hw))
  rw [hf]
  (have F:=ai @q2 (ai @vl (ai @vr0 (ai @hv (ai @hw (ai @hlk (ai @hlj (ai @hw3 (ai @hh (ai @Zas @tmz)))))))));refine gG ?_;exact gTd)
 | false =>
  have hq:1<=j+1+1∧j+1+1<=max 1 (ZaD c.l).length∧∀ (j':Nat) v w,j'+1 < j+1+1->(ZaD c.l)[j'+1]?=some v->(ZaD c.l)[j']?=some w->v.name≠w.name:=⟨by omega,by omega,fun j' v' w' hj h1 h2=>by
   by_cases e:j'=j
   ·subst e
    rw [hv] at h1;rw [hw] at h2
    injection h1 with h1;injection h2 with h2
    subst h1 h2
    exact fun e=>by rw [ZmD.2 e] at hh;cases hh
   ·exact hk j' v' w' om h1 h2⟩
  (have F:=ai @q2 (ai @vl (ai @vr0 (ai @hv (ai @hw (ai @hlk (ai @hlj (ai @hw3 (ai @hh (ai @Zas (ai @hw2 @tmz))))))))));refine gG ?_;exact ⟨j+1+1,hq,gw,gw,by omega⟩)
section
variable {g:Sgn} {b:Nat}
open Classical in
noncomputable def fitB (g:Sgn) (vs:List Tm) (c:List Nat) (i:Nat):Bool:=decide (Fit g (vs.take i) (c.take i))
open Classical in
theorem Zlj {vs:List Tm} {c:List Nat} {i:Nat}:fitB g vs c i=true ↔ Fit g (vs.take i) (c.take i):=by simp [fitB]
theorem ZHC (vs:List Tm) (c:List Nat):fitB g vs c 0=true:=by simp [fitB,Fit]
theorem ZA6 (hs:SortsOk g.sorts) {vs:List Tm} {c:List Nat} {i:Nat} {v:Tm} {k:Nat} (hv:vs[i]?=some v) (hk:c[i]?=some k):fitB g vs c (i+1)=(fitB g vs c i && tbit (dnk g v.sort) k):=by
 have hi:=(Tac.1 hv).1
 have hi2:=(Tac.1 hk).1
 have e:Fit g (vs.take (i+1)) (c.take (i+1)) ↔ Fit g (vs.take i) (c.take i)∧Low g v k:=by
  rw [Zkf,Zkf]
  constructor
  ·rintro ⟨h1,h2⟩
   refine ⟨⟨by simp only [Tav];omega,fun j w m hw hm=>?_⟩,h2 i v k (by rw [Tba om];exact hv) (by rw [Tba om];exact hk)⟩
   have hj:j < i:=by have:=(Tac.1 hw).1;rw [Tav] at this;omega
   rw [Tba hj] at hw hm
   exact h2 j w m (by rw [Tba om];exact hw) (by rw [Tba om];exact hm)
  ·rintro ⟨⟨h1,h2⟩,h3⟩
   refine ⟨by simp only [Tav];omega,fun j w m hw hm=>?_⟩
   have hj:j < i+1:=by have:=(Tac.1 hw).1;rw [Tav] at this;omega
   rw [Tba hj] at hw hm
   by_cases e:j=i
   ·subst e;rw [hv] at hw;rw [hk] at hm;injection hw with hw;injection hm with hm;subst hw hm;exact h3
   ·exact h2 j w m (by rw [Tba om];exact hw) (by rw [Tba om];exact hm)
 have e2:tbit (dnk g v.sort) k=true ↔ Low g v k:=ZhS hs v.sort k
 rw [Bool.eq_iff_iff,Taq,e2,Zlj,Zlj]
 exact e
theorem Zvi (n:Nat):∀ k,val n (List.replicate k 0)=0
 | 0=>rfl
 | k+1=>by simp [List.replicate_succ,val,Zvi n k]
theorem Zro {vs:List Tm} {c:List Nat} (h:c.length=vs.length):fitB g vs c vs.length=true ↔ Fit g vs c:=by
 rw [Zlj,Tao,<- h,Tao]
theorem ZHD (hg:SgnOk g) {vs:List Tm} {c:List Nat} (hv:∀ v∈vs,ZbI g v) (ha:Asc vs) (h5:vs.length<=5) (hf:Fit g vs c):SbsOk g (zb vs c):=by
 obtain ⟨hl,hL⟩:=Zkf.1 hf
 refine ⟨by rw [Zmk hl];omega,fun i y hy=>?_⟩
 have hi:=(Tac.1 hy).1
 rw [Zmk hl] at hi
 have hvi:=Taa hi
 have hki:=Taa (show i < c.length by omega)
 rw [ZqM hvi hki] at hy
 injection hy with hy
 have hLow:=hL i _ _ hvi hki
 have hR:=hLow.var hg (hv _ (List.getElem_mem hi))
 subst hy
 refine ⟨hR.var,fun j p e hp=>?_,hR.to'.term,?_⟩
 ·subst e
  have hvj:=Taa (show j < vs.length by omega)
  have hkj:=Taa (show j < c.length by omega)
  rw [ZqM hvj hkj] at hp
  injection hp with hp
  subst hp
  exact Znm ha (Tam _) hvj hvi
 ·rw [ZdO hR.to'.1]
  exact hLow.2
theorem ZCB (hg:SgnOk g) {e:Eqn} (he:ZfE e) (hE:eqnB g e=true):Con (eM g b) 89 [.one (.ptr (encX g (.lit (.map (some b))))),.agg (ZaV e)] [.one (.lit (.bool (deB g e)))]:=by
 obtain ⟨hl,hr,h5⟩:=Znn hE
 have hv:=Ziy hl
 have ha:Asc (ZaD e.l):=Ze1 _
 have cV:=(ZgT e.l (Zvf hl)).m (g:=g) (b:=b)
 have vl:=Zac (ZaD e.l)
 have vr0:=Zdd (ZaD e.l)
 have hOk:=ZFT (g:=g) (b:=b)
 refine gI (ts:=[.slot 4]) 340282367000166625978719880404636270587 Tryz.func89 ?_
 (have F:=ai @tmM @eqz;have NN:Zag 1:=trivial;refine gGn ?_;clear F NN)
 refine gB ?_
 (have F:=ai @tmM @eqz;refine gC (cV) ?_;clear F)
 (have F:=ai @tmM @eqz;refine gR ?_;clear F)
 (have F:=ai @vl @tmM;refine gG ?_;clear F)
 generalize hvs:ZaD e.l=vs at *
 (have F:=@tmM;refine gL (ι:=Nat) [4,6,7,23,24,26,27,28,40] [] (fun i=>[(23,A.d (.one (.lit (.int .i64 i))))]) (fun i=>[]) (fun i=>i<=vs.length∧∀ (i' j:Nat) v w,j < i'->i' < i->vs[i']?=some v->vs[j]?=some w->v.name≠w.name) (fun i=>vs.length - i) (0) (⟨Tai _,fun _ _ _ _ _ h=>absurd h om⟩) (fun i hi=>?_);clear F)
 obtain ⟨hi,hN⟩:=hi
 by_cases hlt:i < vs.length
 ·have q1:((i:Int) < (vs.length:Int))=True:=eq_true om
  have hw1:=Zap (k:=i) om
  (have F:=ai @q1 (ai @vl @tmM);refine gG ?_;clear F)
  (have F:=@tmM;refine gL (ι:=Nat) [4,7,27,28,40] [] (fun k=>[(27,A.d (.one (.lit (.int .i64 k))))]) (fun k=>[]) (fun k=>k<=i∧∀ (j:Nat) v w,j < k->vs[i]?=some v->vs[j]?=some w->v.name≠w.name) (fun k=>i - k) (0) (⟨Tai _,fun _ _ _ h=>absurd h om⟩) (fun k hk=>?_);clear F)
  obtain ⟨hk,hM⟩:=hk
  by_cases hlk:k < i
  rotate_left
  ·obtain rfl:k=i:=by omega
   have q2:((k:Int) < (k:Int))=False:=eq_false om
   have hq:k+1<=vs.length∧∀ (i' j:Nat) v w,j < i'->i' < k+1->vs[i']?=some v->vs[j]?=some w->v.name≠w.name:=⟨hlt,fun i' j v w h1 h2 h3 h4=>by
    by_cases e:i'=k
    ·subst e;exact hM j v w h1 h3 h4
    ·exact hN i' j v w h1 om h3 h4⟩
   (have F:=ai @q2 (ai @hw1 @tmM);refine gG ?_;exact ⟨k+1,hq,gw,gw,by omega⟩)
  have q2:((k:Int) < (i:Int))=True:=eq_true om
  have hw2:=Zap (k:=k) om
  obtain ⟨v,hvi⟩:∃ v,vs[i]?=some v:=⟨_,Taa hlt⟩
  obtain ⟨w,hwk⟩:∃ w,vs[k]?=some w:=⟨_,Taa om⟩
  have hlk2:k < vs.length:=by omega
  cases hh:(v.name.toList==w.name.toList) with
  | true =>
   rw [ZjM fun h=>by rw [hvs] at h;exact h.1 i k v w hlk hvi hwk (ZmD.1 hh)]
   (have F:=ai @q2 (ai @vl (ai @vr0 (ai @hvi (ai @hwk (ai @hlt (ai @hlk2 (ai @hh (ai @Zas @tmM))))))));refine gG ?_;exact gTd)
  | false =>
   have hq:k+1<=i∧∀ (j:Nat) v w,j < k+1->vs[i]?=some v->vs[j]?=some w->v.name≠w.name:=⟨hlk,fun j v' w' hj h1 h2=>by
    by_cases e:j=k
    ·subst e
     rw [hvi] at h1;rw [hwk] at h2
     injection h1 with h1;injection h2 with h2
     subst h1 h2
     exact fun e=>by rw [ZmD.2 e] at hh;cases hh
    ·exact hM j v' w' om h1 h2⟩
   (have F:=ai @q2 (ai @vl (ai @vr0 (ai @hvi (ai @hwk (ai @hlt (ai @hlk2 (ai @hh (ai @Zas (ai @hw2 @tmM)))))))));refine gG ?_;exact ⟨k+1,hq,gw,gw,by omega⟩)
 obtain rfl:i=vs.length:=by omega
 have hNm:NmOk vs:=fun i' j v w h1 h2 h3=>hN i' j v w h1 (Tac.1 h2).1 h2 h3
 have q1:((vs.length:Int) < (vs.length:Int))=False:=eq_false om
 have hdB:deB g e=true ↔ Desc g vs e.l e.r:=by
  constructor
  ·intro h
   by_cases h1:NmOk (ZaD e.l)∧Desc g (ZaD e.l) e.l e.r
   ·rw [hvs] at h1;exact h1.2
   ·rw [ZjM h1] at h;cases h
  ·intro h;exact Zrd (by rw [hvs];exact hNm) (by rw [hvs];exact h)
 have hn8:=hg.sorts.n8
 have hn1:=hg.sorts.n1
 have hmx:((vs.length:Int)<=(maxApp:Int))=True:=eq_true (by unfold maxApp;omega)
 have rl0:(nR (List.replicate vs.length 0)).length=vs.length:=by rw [ZaF,Tbr]
 have ul:((ZbU (up g.sorts)).map ZbQ).length=g.sorts.names.length:=by rw [Tax,Zhe,(ZdT (SortsOk.subsIn hg.sorts.subs)).1]
 have dl:((ZbU (down g.sorts)).map ZbQ).length=g.sorts.names.length:=by rw [Tax,Zhe,(ZmV (SortsOk.subsIn hg.sorts.subs)).1]
 have dr:ZaT 1 ((ZbU (down g.sorts)).map ZbQ)=true:=Zay
 (have F:=ai @q1 (ai @vl (ai @hmx (ai @Tbz (ai @nR_0 (ai @Zas @tmM)))));have NN:Zag 13:=trivial;refine gGn ?_;clear F NN)
 refine pS 8 fun a cap=>?_
 (have F:=ai @rl0 @tmM;refine gG ?_;clear F)
 (have F:=ai @rl0 @tmM;refine gL (ι:=List Nat × Bool) [4,9,10,11,12,13,14,15,16,17,46,56,57,58,59,96,128] [8] (fun x=>[(9,.d (.one (.lit (.bool x.2))))]) (fun x=>[(8,.buf (some (a,cap)) 3 1 (nR x.1))]) (fun x=>x.1.length=vs.length∧Dig g.sorts.names.length x.1∧(x.2=true->BefC g.sorts.names.length vs.length (OneC g vs e.l e.r) x.1)∧(x.2=false->AllC g.sorts.names.length vs.length (OneC g vs e.l e.r))) (fun x=>(if x.2=true then g.sorts.names.length ^ vs.length - val g.sorts.names.length x.1+1 else 0)) ((List.replicate vs.length 0,true)) (⟨Tbr,fun d hd=>by rw [(List.mem_replicate.1 hd).2];omega,fun _ ks _ _ h=>absurd h (by show ¬ val _ ks < val _ (List.replicate vs.length 0);rw [Zvi];omega),fun h=>by cases h⟩) (fun x hx=>?_);clear F)
 obtain ⟨c,more⟩:=x
 obtain ⟨hcl,hcd,hBef,hAll⟩:=hx
 simp only at hcl hcd hBef hAll
 dsimp only
 cases more with
 | false =>
  rw [hdB.2 (ZCo.2 (hAll rfl))]
  (have F:=@tmM;refine gG ?_;exact gTd)
 | true =>
 have hBef:=hBef rfl
 clear hAll
 have cN:=fun (a:Option Addr) (cap:Nat)=>(ZAY c (n:=g.sorts.names.length) om om hcd a cap).m (g:=g) (b:=b)
 rw [hcl] at cN
 have nl:=ZaF (l:=c)
 rw [hcl] at nl
 have nr:=Zay (l:=c)
 have f0:fitB g vs c 0=true:=ZHC vs c
 have z00:ZcJ (zb [] [])=[]:=rfl
 (have F:=ai @vl (ai @f0 (ai @z00 @tmM));refine gG ?_;clear F)
 (have F:=ai @f0 (ai @z00 @tmM);refine gL (ι:=Nat) [10,11,12,13,58,59] [10] (fun i=>[(58,A.d (.one (.lit (.int .i64 i)))),(11,.d (.one (.lit (.bool (fitB g vs c i))))),(10,.buf 10)]) (fun i=>[(10,.buf none 102 8 (ZcJ (zb (vs.take i) (c.take i))))]) (fun i=>i<=vs.length) (fun i=>vs.length - i) (0) (Tai _) (fun i hi=>?_);clear F)
 by_cases hlt:i < vs.length
 ·have q2:((i:Int) < (vs.length:Int))=True:=eq_true om
  have hw1:=Zap (k:=i) om
  obtain ⟨v,hvi⟩:∃ v,vs[i]?=some v:=⟨_,Taa hlt⟩
  obtain ⟨k,hki⟩:∃ k,c[i]?=some k:=⟨_,Taa om⟩
  have hvv:=hv v (Tab hvi)
  have hkn:=hcd k (Tab hki)
  have hkg:=ZaH hki
  have hdg:=Zj6 hg.sorts hvv.2.2.1 hvv.2.2.2.1
  have hdg2:((ZbU (down g.sorts)).map ZbQ)[v.sort.toNat]?=some [.lit (.int .i64 (dnk g v.sort:Nat))]:=ZaH hdg.1
  have i0:(0<=v.sort)=True:=eq_true hvv.2.2.1
  have i1:(v.sort.toNat < g.sorts.names.length)=True:=eq_true (by have:=hvv.2.2.2.1;omega)
  have i2:((0:Int)<=(k:Int))=True:=eq_true om
  have hsh:=ZG7 (k:=k) om
  have hak:=ZjY (x:=dnk g v.sort) (k:=k) (Zbt hdg.2 hn8) om
  have hst:=ZA6 hg.sorts hvi hki
  have hvr:[C.lit (.int .i64 (-1)),.lit (.string v.name),.lit (.int .i64 (k:Int)),.sl []]=encTm (vr v k):=by rw [vr,Zj1,ZdH]
  have b2:∀ t,(encTm v++[C.lit (Value.int IntKind.i64 0),C.lit (Value.string ByteArray.empty),C.lit (Value.int IntKind.i64 0),C.sl []]).take 4++encTm t++(encTm v++[C.lit (Value.int IntKind.i64 0),C.lit (Value.string ByteArray.empty),C.lit (Value.int IntKind.i64 0),C.sl []]).drop 8=Zb2 ⟨v,t⟩:=fun t=>by
   rw [Zgq,show (8:Nat)=4+4 from rfl,<- List.drop_drop,Zfm]
   simp [Zb2]
  have hzt:ZcJ (zb (vs.take i) (c.take i))++[Zb2 ⟨v,vr v k⟩]=ZcJ (zb (vs.take (i+1)) (c.take (i+1))):=by rw [ZGE hvi hki];simp [ZcJ]
  have hzl:(ZcJ (zb (vs.take i) (c.take i))).length=i:=by rw [Zil,Zmk (by simp only [Tav];omega),Tav];omega
  have hzr:=bds8 (zb (vs.take i) (c.take i))
  have hmx2:(i+1<=maxApp)=True:=eq_true (by unfold maxApp;omega)
  cases hf:fitB g vs c i with
  | true =>
   rw [hf,Bool.true_and] at hst
   (have F:=ai @q2 (ai @vl (ai @vr0 (ai @hvi (ai @hlt (ai @hkg (ai @nl (ai @nr (ai @dl (ai @dr (ai @hdg2 (ai @i0 (ai @i1 (ai @i2 (ai @hsh (ai @hak (ai @Bool.not_not (ai @Zas @tmM)))))))))))))))));have NN:Zag 22:=trivial;refine gGn ?_;clear F NN)
   rw [<- hst]
   (have F:=ai @hlt (ai @hkg (ai @nl (ai @nr (ai @hvr (ai @b2 (ai @hzt (ai @hzl (ai @hzr (ai @hmx2 (ai @hw1 (ai @Zas (ai @bdz @tmM))))))))))));refine gG ?_;exact ⟨i+1,hlt,gw,gw,by omega⟩)
  | false =>
   rw [hf,Bool.false_and] at hst
   (have F:=ai @q2 (ai @vl (ai @vr0 (ai @hvi (ai @hlt (ai @Zas @tmM)))));have NN:Zag 22:=trivial;refine gGn ?_;clear F NN)
   (have F:=ai @hst (ai @hlt (ai @hkg (ai @nl (ai @nr (ai @hvr (ai @b2 (ai @hzt (ai @hzl (ai @hzr (ai @hmx2 (ai @hw1 (ai @Zas (ai @bdz @tmM)))))))))))));refine gG ?_;exact ⟨i+1,hlt,gw,gw,by omega⟩)
 obtain rfl:i=vs.length:=by omega
 have q2:((vs.length:Int) < (vs.length:Int))=False:=eq_false om
 have hzf:zb (vs.take vs.length) (c.take vs.length)=zb vs c:=by rw [Tao,<- hcl,Tao]
 rw [hzf]
 have nko:=ZAI (n:=g.sorts.names.length) om hcd
 have hnext:OneC g vs e.l e.r c->((nxt g.sorts.names.length c).1.length=vs.length∧Dig g.sorts.names.length (nxt g.sorts.names.length c).1∧((nxt g.sorts.names.length c).2=true->BefC g.sorts.names.length vs.length (OneC g vs e.l e.r) (nxt g.sorts.names.length c).1)∧((nxt g.sorts.names.length c).2=false->AllC g.sorts.names.length vs.length (OneC g vs e.l e.r))):=fun h=>⟨by rw [nko.1,hcl],nko.2.1,fun h2=>ZCn hBef hcl hcd h (nko.2.2.1 h2),fun h2=>ZGF hBef hcl hcd h (nko.2.2.2 h2).1⟩
 have hms:(if (nxt g.sorts.names.length c).2=true then g.sorts.names.length ^ vs.length - val g.sorts.names.length (nxt g.sorts.names.length c).1+1 else 0) < (if (true:Bool)=true then g.sorts.names.length ^ vs.length - val g.sorts.names.length c+1 else 0):=by
  have:=ZjC hcd
  rw [hcl] at this
  rw [if_pos (c:=(true:Bool)=true) rfl]
  split
  ·rename_i h;rw [nko.2.2.1 h];omega
  ·omega
 cases hf:fitB g vs c vs.length with
 | false =>
  have hOne:OneC g vs e.l e.r c:=fun h=>by rw [(Zro hcl).2 h] at hf;cases hf
  (have F:=ai @q2 @tmM;have NN:Zag 15:=trivial;refine gGn ?_;clear F NN)
  refine gB ?_
  (have F:=ai @ul @tmM;refine gCP [8] [8] (cN a cap) ?_;clear F)
  rintro r pm ⟨rfl,rfl⟩
  simp only [setA,retA,zipM,Tae,Tag]
  (have F:=@tmM;refine gR ?_;clear F)
  (have F:=@tmM;refine gG ?_;exact ⟨((nxt g.sorts.names.length c).1,(nxt g.sorts.names.length c).2),hnext hOne,gw,gw,hms⟩)
 | true =>
 have hFit:=(Zro hcl).1 hf
 have hS:=ZHD hg hv ha h5 hFit
 obtain ⟨u,hu,hut,hus⟩:=ZqL hg hv hFit hl
 obtain ⟨w,hw,hwt,hws⟩:=ZqL hg hv hFit hr
 have cL:=(Zos (mc:=.lit (.map (some b))) hg hS _ (Tam _) hl).m (g:=g) (b:=b)
 have cR:=(Zos (mc:=.lit (.map (some b))) hg hS _ (Tam _) hr).m (g:=g) (b:=b)
 have z1:∀ u:Tm,(some u).isSome=true:=fun _=>rfl
 have z2:∀ u:Tm,(some u).getD zTm=u:=fun _=>rfl
 rw [hu,z1,z2] at cL
 rw [hw,z1,z2] at cR
 have cS:=ZmC (b:=b) hg hut.size hut.form
 have cT:=ZmC (b:=b) hg hwt.size hwt.form
 have han:=Zso (Zbt (Zek hg hut.form.node) hn8) (Zbt (Zek hg hwt.form.node) hn8)
 (have F:=ai @q2 @tmM;have NN:Zag 25:=trivial;refine gGn ?_;clear F NN)
 refine ZcF (Zd1 [10] (by simp only [pz,↓reduceIte,Nat.reduceEqDiff,Nat.reduceAdd,Nat.reduceSub,Nat.reduceMul,Nat.reduceLeDiff,Nat.reduceBEq,Tal,decide_true,decide_false,Int.reduceLE,Int.reduceToNat,Int.reduceLT,Int.reduceEq,eq_self,Nat.reduceShiftRight,Nat.reduceAnd,Nat.reduceBneDiff,tmM];exact rfl)) fun σ' hσ=>?_
 subst hσ
 refine gB ?_
 (have F:=ai @eqz @tmM;refine gC (cL) ?_;clear F)
 (have F:=@tmM;refine gR ?_;clear F)
 (have F:=@tmM;have NN:Zag 26:=trivial;refine gGn ?_;clear F NN)
 refine gB ?_
 (have F:=ai @eqz @tmM;refine gC (cR) ?_;clear F)
 (have F:=@tmM;refine gR ?_;clear F)
 (have F:=@tmM;have NN:Zag 27:=trivial;refine gGn ?_;clear F NN)
 refine gB ?_
 (have F:=@tmM;refine gC (cS) ?_;clear F)
 (have F:=@tmM;refine gC (cT) ?_;clear F)
 by_cases hz:anN (sortsTm g u) (sortsTm g w)=0
 ·have hOne:OneC g vs e.l e.r c:=fun _=>by rw [<- hus,<- hws];exact Zra.1 hz
  rw [hz] at han
  have hq0:(((0:Nat):Int)=0)=True:=eq_true rfl
  (have F:=ai @han (ai @hq0 @tmM);refine gR ?_;clear F)
  (have F:=@tmM;have NN:Zag 15:=trivial;refine gGn ?_;clear F NN)
  refine gB ?_
  (have F:=ai @ul @tmM;refine gCP [8] [8] (cN a cap) ?_;clear F)
  rintro r pm ⟨rfl,rfl⟩
  simp only [setA,retA,zipM,Tae,Tag]
  (have F:=@tmM;refine gR ?_;clear F)
  (have F:=@tmM;refine gG ?_;exact ⟨((nxt g.sorts.names.length c).1,(nxt g.sorts.names.length c).2),hnext hOne,gw,gw,hms⟩)
 ·have hz':(((anN (sortsTm g u) (sortsTm g w):Nat):Int)=0)=False:=eq_false om
  have hf:deB g e=false:=by
   cases hd:deB g e with
   | false=>rfl
   | true=>exact absurd (Zra.2 (by rw [hus,hws];exact hdB.1 hd c hFit)) hz
  rw [hf]
  (have F:=ai @han (ai @hz' @tmM);refine gR ?_;clear F)
  (have F:=@tmM;refine gG ?_;exact gTd)
end
theorem Zsx {m:Mdl} (hm:Zmx m) (hb:Zae (ZcK m)<=1048576):Con e0 38 [.agg (ZcK m)] [.one (.lit (.bool (deM m)))]:=by
 have hm0:=hm
 have hb0:=hb
 rw [Zix] at hb
 obtain ⟨hokg,hoe,hou⟩:=hm
 have er:=Ziw
 have ed:ZcK m=[.sl (m.sig.sorts.names.map ZcH),.sl (m.sig.sorts.subs.map Zc1),.sl (m.sig.ops.map ZbK),.sl (m.eqs.map ZaV),.sl (m.rules.map ZaV)]:=rfl
 by_cases hs:Zcb m.sig=true
 rotate_left
 ·have cN:=ZmZ hokg (fun h=>hs (Zf9 h))
  have hs':Zcb m.sig=false:=by simpa using hs
  have hf:deM m=false:=by simp [deM,Zdl,hs']
  rw [hf]
  rw [Zav] at cN
  rw [ed]
  refine gI (ts:=[.slot 2]) 2211446879 Tryz.func38 ?_
  (have F:=@tmz;have NN:Zag 1:=trivial;refine gGn ?_;clear F NN)
  refine gB ?_
  (have F:=@tmz;refine gC (cN) ?_;clear F)
  (have F:=@tmz;refine gR ?_;clear F)
  (have F:=@tmz;refine gG ?_;exact gTd)
 have hg:=Zjf.1 hs
 have cN:=Zse hokg hg
 rw [Zav] at cN
 have cH:=fun b=>(ZAX (mc:=.lit (.map (some b))) hg hm0 hb0).m (g:=m.sig) (b:=b)
 rw [ed] at cH ⊢
 refine gI (ts:=[.slot 2]) 2211446879 Tryz.func38 ?_
 (have F:=@tmz;have NN:Zag 1:=trivial;refine gGn ?_;clear F NN)
 refine gB ?_
 (have F:=@tmz;refine gCP [] [1000] (cN) ?_;clear F)
 rintro r pm ⟨b,rfl,rfl⟩
 simp only [setA,retA,zipM,Tae,Tag]
 (have F:=@tmz;refine gR ?_;clear F)
 refine pM m.sig b 1000 ?_
 have hOk:=ZFT (g:=m.sig) (b:=b)
 (have F:=@tmM;have NN:Zag 2:=trivial;refine gGn ?_;clear F NN)
 refine gB ?_
 (have F:=@tmM;refine gC (cH b) ?_;clear F)
 cases hh:Zeo m with
 | false =>
  have hf:deM m=false:=by simp [deM,Zdl,hh]
  rw [hf]
  (have F:=@tmM;refine gR ?_;clear F)
  (have F:=@tmM;refine gG ?_;exact gTd)
 | true =>
 have hM:Zdl m=true:=by simp [Zdl,hs,hh]
 obtain ⟨_,h16,hE⟩:=Zvh hM
 have ei:deM m=m.eqs.all (deB m.sig):=by simp [deM,hM]
 rw [ei]
 have cD:=fun (e:Eqn)=>ZCB (g:=m.sig) (b:=b) hg (e:=e)
 (have F:=@tmM;refine gR ?_;clear F)
 (have F:=ai @eqz (ai @er @tmM);refine gG ?_;clear F)
 (have F:=@tmM;refine gL (ι:=Nat) [2,6,24,25,31] [] (fun i=>[(24,A.d (.one (.lit (.int .i64 i))))]) (fun i=>[]) (fun i=>i<=m.eqs.length∧(m.eqs.take i).all (deB m.sig)=true) (fun i=>m.eqs.length - i) (0) (⟨Tai _,rfl⟩) (fun i hi=>?_);clear F)
 obtain ⟨hi,hall⟩:=hi
 by_cases hlt:i < m.eqs.length
 rotate_left
 ·obtain rfl:i=m.eqs.length:=by omega
  have q1:((m.eqs.length:Int) < (m.eqs.length:Int))=False:=eq_false om
  rw [Tao] at hall
  rw [hall]
  (have F:=ai @q1 @tmM;refine gG ?_;exact gTd)
 have q1:((i:Int) < (m.eqs.length:Int))=True:=eq_true om
 obtain ⟨c,hc⟩:∃ a,m.eqs[i]?=some a:=⟨_,Taa hlt⟩
 have hmm:=Tab hc
 have hw1:=Zap (k:=i) om
 (have F:=ai @q1 (ai @hc (ai @hlt (ai @eqz (ai @er @tmM))));have NN:Zag 7:=trivial;refine gGn ?_;clear F NN)
 refine gB ?_
 (have F:=ai @eqz (ai @er (ai @hc @tmM));refine gC (cD c (hoe c hmm) (hE c hmm)) ?_;clear F)
 cases hd:deB m.sig c with
 | false =>
  have hf:m.eqs.all (deB m.sig)=false:=Zca hmm hd
  rw [hf]
  (have F:=@tmM;refine gR ?_;clear F)
  (have F:=@tmM;refine gG ?_;exact gTd)
 | true =>
  have hq:i+1<=m.eqs.length∧(m.eqs.take (i+1)).all (deB m.sig)=true:=⟨hlt,by rw [ZcS hc,hall,hd];rfl⟩
  (have F:=@tmM;refine gR ?_;clear F)
  (have F:=ai @hw1 @tmM;refine gG ?_;exact ⟨i+1,hq,gw,gw,by omega⟩)
theorem Zg0 {row0:List C} (hok0:Zal (ZaW) row0) {R0:Bool} (hsp0:Zae row0<=1048576->Con e0 36 [.agg row0] [.one (.lit (.bool R0))]) (him0:Zae row0<=1048576->Con e0 38 [.agg row0] [.one (.lit (.bool R0))]):Con e0 8 [.agg row0] [.one (.lit (.bool true))]:=by
 have okc0:=hok0.cells
 obtain ⟨len0,tk0,dr0⟩:=hok0.take (n:=5) rfl
 refine gI 69208191 Tryz.func8 ?_
 (have F:=ai @okc0 (ai @len0 (ai @tk0 (ai @dr0 @ZcB)));refine gG ?_;clear F)
 have hL0_0:(0:Int)<=1048576:=by omega
 have hL0_1:(1048576:Int)<=1048576:=by omega
 refine gB ?_
 (have F:=ai @okc0 (ai @len0 (ai @tk0 (ai @dr0 @ZcB)));refine gC (Zrp hok0 hL0_0 hL0_1) ?_;clear F)
 (have F:=ai @okc0 (ai @len0 (ai @tk0 (ai @dr0 @ZcB)));refine gR ?_;clear F)
 by_cases hb0:((Zae row0):Int)<=1048576
 rotate_left
 ·have n1:sub 1048576 (Zae row0)=-1:=Zax om
  have n2:(-1:Int) < 0:=by omega
  (have F:=ai @n1 @n2;refine gG ?_;exact gT)
 have nq0:sub 1048576 (Zae row0)=1048576 - ((Zae row0):Nat):=Za0 om
 rw [nq0]
 clear nq0
 have hB0:Zae row0<=1048576:=by omega
 have hL1_0:(0:Int)<=1048576 - ((Zae row0):Nat):=by omega
 have hL1_1:(1048576:Int) - ((Zae row0):Nat)<=1048576:=by omega
 generalize hgl0:(1048576:Int) - ((Zae row0):Nat)=L1 at *
 clear hgl0
 have n2:¬ (L1 < 0):=by omega
 (have F:=ai @n2 (ai @okc0 (ai @len0 (ai @tk0 (ai @dr0 @ZcB))));refine gG ?_;clear F)
 clear n2 hb0
 have hsp:=hsp0 hB0
 have him:=him0 hB0
 have cT0:=Zrq hok0 hB0
 refine gB ?_
 (have F:=ai @okc0 (ai @len0 (ai @tk0 (ai @dr0 @ZcB)));refine gC (cT0) ?_;clear F)
 (have F:=ai @okc0 (ai @len0 (ai @tk0 (ai @dr0 @ZcB)));refine gC (hsp) ?_;clear F)
 (have F:=ai @okc0 (ai @len0 (ai @tk0 (ai @dr0 @ZcB)));refine gR ?_;clear F)
 (have F:=ai @okc0 (ai @len0 (ai @tk0 (ai @dr0 @ZcB)));refine gG ?_;clear F)
 refine gB ?_
 (have F:=ai @okc0 (ai @len0 (ai @tk0 (ai @dr0 @ZcB)));refine gC (cT0) ?_;clear F)
 (have F:=ai @okc0 (ai @len0 (ai @tk0 (ai @dr0 @ZcB)));refine gR ?_;clear F)
 (have F:=ai @okc0 (ai @len0 (ai @tk0 (ai @dr0 @ZcB)));refine gG ?_;clear F)
 refine gB ?_
 (have F:=ai @okc0 (ai @len0 (ai @tk0 (ai @dr0 @ZcB)));refine gC (him) ?_;clear F)
 (have F:=ai @okc0 (ai @len0 (ai @tk0 (ai @dr0 @ZcB)));refine gR ?_;clear F)
 (have F:=ai @okc0 (ai @len0 (ai @tk0 (ai @dr0 (ai @ZcB @beq_self_eq_true.{0}))));refine gG ?_;clear F)
 refine gB ?_
 (have F:=ai @okc0 (ai @len0 (ai @tk0 (ai @dr0 @ZcB)));refine gC (cT0) ?_;clear F)
 (have F:=ai @okc0 (ai @len0 (ai @tk0 (ai @dr0 @ZcB)));refine gC (Zrr hok0) ?_;clear F)
 (have F:=ai @okc0 (ai @len0 (ai @tk0 (ai @dr0 @ZcB)));refine gR ?_;clear F)
 (have F:=ai @okc0 (ai @len0 (ai @tk0 (ai @dr0 @ZcB)));refine gG ?_;exact gT)
theorem ZgZ (w:World) (hT:ZcA w) (row0:List C) (S0:Nat->Prop) (us0:List Value) (hok0:Zal (ZaW) row0) (hv0:Zaa w S0 row0 us0) :
  Calls Tryz.prog 8 #[(.agg us0.toArray:Value)] w fun e w'=>e=.returned (.bool true)∧Below w.heap.size w w':=by
 obtain ⟨m,rfl,k0⟩:=ZHz hok0
 have hc:=(Zg0 hok0 (fun b0=>Zsw k0 b0) (fun b0=>Zsx k0 b0)).2 w (fun b=>b < w.heap.size∧b≠2) [(.agg us0.toArray:Value)] (fun b hb=>⟨hb.1,hb.2⟩) (ZG5 hT) hT
  ⟨⟨us0,rfl,Zaa.off (ZG4 hT) _ _ _ hok0 hv0.inside'⟩,trivial⟩
 refine hc.mono fun e w' ⟨v,h1,h2,h3,h4⟩=>⟨?_,h2.belowT hT h3⟩
 have h4:v=.bool true:=by simpa [retA,ARel,DRel,Rep] using h4
 rw [h1,h4]
end Go.Proofs.YtffmjghcpgpfpaaGreatDoor
