/-
  Part of a proof: Lz, Bz, Bh, Bj, Bk, Sz, Nb, Iu, Ba, Ev, Iv, Un.
-/
import Derived.Test.YtffmjghcpgpfpaaGreatDoorBBase0
import Derived.Test.YtffmjghcpgpfpaaGreatDoorBBase1
import Derived.Test.YtffmjghcpgpfpaaGreatDoorBBase2
import Derived.Test.YtffmjghcpgpfpaaGreatDoorBBase3
import Derived.Test.YtffmjghcpgpfpaaGreatDoorBBase4
import Derived.Shelf.Lays7
import Derived.Test.YtffmjghcpgpfpaaGreatDoorChecked
import Derived.Shelf.Spec.TrailingZeros
set_option linter.unusedSimpArgs false
set_option linter.unusedVariables false
set_option maxHeartbeats 400000000
namespace Go.Proofs.YtffmjghcpgpfpaaGreatDoor
open Go.Shelf
def ZrQ:Ren:=⟨fun | 27=>231 | 28=>248 | 29=>249 | n=>n,fun | 25=>168 | 3=>3 | 27=>222 | 22=>224 | 4=>4 | 53=>276 | 0=>0 | 5=>5 | 54=>277 | n=>n,fun | 0=>1 | 1=>2 | n=>n⟩
theorem tzZ:Go.Proofs.Lays7.n27 Tryz.prog ZrQ:={
 mixed:=by kernel_rfl,
 f27:=Tryz.func231.trans (congrArg some (by kernel_rfl)),
 f28:=Tryz.func248.trans (congrArg some (by kernel_rfl)),
 f29:=Tryz.func249.trans (congrArg some (by kernel_rfl)),
 t0:=Tryz.underlying0,
 a0:=Tryz.isAgg0,
 z0:=Tryz.sizeOf0,
 v0:=Tryz.zeroValue0,
 i0:=by kernel_rfl,
 t3:=Tryz.underlying3,
 a3:=Tryz.isAgg3,
 z3:=Tryz.sizeOf3,
 v3:=Tryz.zeroValue3,
 i3:=by kernel_rfl,
 t4:=Tryz.underlying4,
 a4:=Tryz.isAgg4,
 z4:=Tryz.sizeOf4,
 v4:=Tryz.zeroValue4,
 i4:=by kernel_rfl,
 t5:=Tryz.underlying5,
 a5:=Tryz.isAgg5,
 z5:=Tryz.sizeOf5,
 v5:=Tryz.zeroValue5,
 i5:=by kernel_rfl,
 t22:=Tryz.underlying224,
 a22:=Tryz.isAgg224,
 z22:=Tryz.sizeOf224,
 v22:=Tryz.zeroValue224,
 i22:=by kernel_rfl,
 t25:=Tryz.underlying168,
 a25:=Tryz.isAgg168,
 z25:=Tryz.sizeOf168,
 v25:=Tryz.zeroValue168,
 i25:=by kernel_rfl,
 t27:=Tryz.underlying222,
 a27:=Tryz.isAgg222,
 z27:=Tryz.sizeOf222,
 v27:=Tryz.zeroValue222,
 i27:=by kernel_rfl,
 t53:=Tryz.underlying276,
 a53:=Tryz.isAgg276,
 z53:=Tryz.sizeOf276,
 v53:=Tryz.zeroValue276,
 i53:=by kernel_rfl,
 t54:=Tryz.underlying277,
 a54:=Tryz.isAgg277,
 z54:=Tryz.sizeOf277,
 g0:=by kernel_rfl,
 g1:=by kernel_rfl }
end Go.Proofs.YtffmjghcpgpfpaaGreatDoor
namespace Go.Proofs.YtffmjghcpgpfpaaGreatDoor
open Go.RowKit
theorem ZCr:∀ q:Fin 8,Lib.ctz 64 (2 ^ q.val)=q.val:=by decide
theorem ZDa {q:Nat} (hq:q < 8):Con e0 231 [.one (.lit (.int .u64 ((2 ^ q:Nat):Int)))] [.one (.lit (.int .i64 (q:Int)))]:=by
 refine ⟨by kernel_rfl,fun w S vs hS hE hG hv=>?_⟩
 match vs,hv with
 | [v],hv =>
  have hv:v=.int .u64 ((2 ^ q:Nat):Int):=by simpa [ZaG,DRel,Rep] using hv
  subst hv
  have hp:2 ^ q < 2 ^ 8:=Nat.pow_lt_pow_right om hq
  have hT:TabAt (ZrQ.g 1) Lib.deBruijn64tab w:=fun j hj=>ZcX.cell hG j hj
  refine (Any7.bits_TrailingZeros tzZ (2 ^ q) om w (fun _=>hT)).mono fun en w' ⟨h1,h2⟩=>?_
  subst h2
  rw [ZCr ⟨q,hq⟩] at h1
  exact ⟨_,h1,Kept.refl _ _ _ _,hG,by simp [retA,ARel,DRel,Rep]⟩
theorem Zou {p m:Nat} (h:p &&& m=p) (hp:p≠0) (hm:p≠m):1<=m ^^^ p∧m ^^^ p < m:=by
 have h1:=Zoc hm
 have h2:=(ZrF h).2
 have h3:m ^^^ p<=m:=by
  have h4:m ^^^ p<=p ||| (m ^^^ p):=Nat.right_le_or
  rw [h2] at h4
  exact h4
 have h4:m ^^^ p≠m:=fun e=>hp (by
  have:m ^^^ (m ^^^ p)=m ^^^ m:=by rw [e]
  rw [<- Nat.xor_assoc,Nat.xor_self,Nat.zero_xor] at this
  exact this)
 omega
section
variable {g:Sgn} {mc:C}
theorem Zyh (hg:SgnOk g) {i:Nat} {o:Opr} (ho:g.ops[i]?=some o) (ha:o.assoc=true) (hc:o.comm=true) {s t N:Nat}:ofB (AnyB g o [s,t]) N=ofB (fun b=>Two (Eith (Rel2 g o)) s t b) N:=by
 refine ZaR fun b _=>?_
 unfold AnyB
 rw [Zd8 (Opr.deg2 hg ho (.inl ha)),Zyf,hc]
 simp only [List.reverse_cons,List.reverse_nil,List.nil_append,List.singleton_append,true_and]
 rw [Zd8 (Opr.deg2 hg ho (.inl ha))]
theorem ZCs {R:Nat->Nat->Nat->Prop} {N:Nat} (h:∀ a c b,R a c b->b < N):∀ a c b,Eith R a c b->b < N:=fun a c b h1=>h1.elim (h a c b) (h c a b)
set_option maxRecDepth 100000 in
theorem Zlp (hg:SgnOk g) {op:Int} {o:Opr} (h0:0<=op) (ho:g.ops[op.toNat]?=some o) (ha:o.assoc=true) (hc:o.comm=true) (sets:List Nat) (hn1:1<=sets.length) (hn7:sets.length<=7) (hs:∀ s∈sets,s < 2 ^ g.sorts.names.length):Con e0 176 [.one (.ptr (encX g mc)),.one (.lit (.int .i64 op)),.one (.sl (nR sets))] [.one (.lit (.int .i64 ((bvN g (Rel2 g o) sets (2 ^ sets.length - 1):Nat):Int)))]:=by
 have hN:=hg.sorts.n8
 have rl:=ZaL (l:=sets)
 have rr:=ZaI (l:=sets)
 have hdeg:=Opr.deg2 hg ho (.inl ha)
 rw [<- Zyg]
 have hRlt:=ZCs fun a c b (h:Rel2 g o a c b)=>Rel2.lt hg (List.mem_of_getElem? ho) h
 have hany:=fun s t=>Zyh (s:=s) (t:=t) (N:=g.sorts.names.length) hg ho ha hc
 generalize hRR:Eith (Rel2 g o)=R at hRlt hany ⊢
 have hcv:∀ m,bvN g R sets m < 2 ^ g.sorts.names.length:=fun m=>ZbJ _ _
 have hsh:=Zfn (k:=sets.length) om
 have hT0:=BagT.start (g:=g) (R:=R) (sets:=sets)
 have hpow:∀ q,2 ^ q < 2 ^ sets.length->q < sets.length:=fun q h=>(Nat.pow_lt_pow_iff_right om).1 h
 have hZ1:2 ^ 1<=2 ^ sets.length:=Nat.pow_le_pow_right om hn1
 have hZ7:2 ^ sets.length<=2 ^ 7:=Nat.pow_le_pow_right om hn7
 have hBl:=fun M T (h:BagT g R sets M T)=>h.1
 have hBn:=fun M T (h:BagT g R sets M T)=>h.next
 have hB0:=fun M T (h:BagT g R sets M T)=>h.zero
 have hBg:=fun M T (h:BagT g R sets M T)=>h.2
 generalize hZ:2 ^ sets.length=Z at hsh hT0 hpow hZ1 hZ7 hBl hBn hB0 hBg ⊢
 have hmx:((Z:Int)<=(maxApp:Int))=True:=eq_true (by unfold maxApp;omega)
 refine gI (ts:=[.slot 6]) 2199090890695 Tryz.func176 ?_
 (have F:=ai @rl (ai @hsh (ai @hmx (ai @Int.toNat_natCast (ai @nR_0 (ai @Zau @tmz)))));refine gG ?_;clear F)
 generalize List.replicate Z 0=T0 at hT0 ⊢
 (have F:=@tmz;refine gL (ι:=Nat × List Nat) [8,9,10,19,26,41] [8] (fun x=>[(9,A.d (.one (.lit (.int .i64 x.1)))),(8,.buf 8)]) (fun x=>[(8,.buf none 3 1 (nR x.2))]) (fun x=>1<=x.1∧x.1<=Z∧BagT g R sets x.1 x.2) (fun x=>Z - x.1) ((1,T0)) (⟨Nat.le_refl _,by omega,hT0⟩) (fun x hx=>?_);clear F)
 clear hT0 T0
 obtain ⟨m,T⟩:=x
 obtain ⟨hm1,hm2,hT⟩:=hx
 simp only at hm1 hm2 hT
 dsimp only
 have nl:=ZaL (l:=T)
 rw [hBl _ _ hT] at nl
 have nr:=ZaI (l:=T)
 by_cases hmZ:m < Z
 rotate_left
 ·obtain rfl:m=Z:=by omega
  have q1:((m:Int) < (m:Int))=False:=eq_false om
  have hg2:=ZaK ((hBg _ _ hT (m - 1) om om).1 om)
  have w1:IntKind.i64.wrap ((m:Int) - 1)=((m - 1:Nat):Int):=ZaP om om om
  have i1:(m - 1 < m)=True:=eq_true om
  (have F:=ai @q1 (ai @hsh (ai @nl (ai @nr (ai @hg2 (ai @w1 (ai @i1 (ai @Zau @tmz)))))));refine gG ?_;exact gTd)
 have q1:((m:Int) < (Z:Int))=True:=eq_true om
 have hw:=Zav (k:=m) om
 have w1:IntKind.i64.wrap ((m:Int) - 1)=((m - 1:Nat):Int):=ZaP om om om
 have ba:=Zdd (a:=m) (b:=m - 1) om om
 have ba2:=Zdd (a:=m - 1) (b:=m) om om
 rw [Nat.and_comm] at ba
 have i0:(m < Z)=True:=eq_true hmZ
 by_cases hA:(m - 1) &&& m=0
 ·obtain ⟨q,rfl⟩:=ZrP om hA
  have hq:=hpow q hmZ
  rw [hA] at ba
  have q2:(((0:Nat):Int)=0)=True:=eq_true rfl
  have wu:IntKind.u64.wrap ((2 ^ q:Nat):Int)=((2 ^ q:Nat):Int):=by
   unfold IntKind.wrap
   simp only [IntKind.signed,IntKind.bits]
   exact Int.emod_eq_of_lt om om
  obtain ⟨s,hsq⟩:∃ s,sets[q]?=some s:=⟨_,List.getElem?_eq_getElem hq⟩
  have hbv:bvN g R sets (2 ^ q)=s:=by unfold bvN;exact ZrI hsq (hs s (List.mem_of_getElem? hsq))
  have r1:=ZaK hsq
  have hT2:=hBn _ _ hT hmZ
  rw [hbv] at hT2
  have ns:=Zcf (l:=T) (2 ^ q) s
  obtain ⟨z,hz⟩:∃ z,T[2 ^ q]?=some z:=⟨_,List.getElem?_eq_getElem (by rw [hBl _ _ hT];exact hmZ)⟩
  have ng:=ZaK hz
  have cz:=ZDa (q:=q) om
  have i2:(q < sets.length)=True:=eq_true hq
  clear hbv hA
  generalize 2 ^ q=M at *
  (have F:=ai @q1 (ai @hsh (ai @w1 (ai @ba (ai @q2 (ai @Zau @tmz)))));have NN:Zai 7:=trivial;refine gGn ?_;clear F NN)
  refine gB ?_
  (have F:=ai @Ze3 (ai @Zey (ai @ZdM (ai @wu @tmz)));refine gC (cz) ?_;clear F)
  (have F:=ai @r1 (ai @rl (ai @rr (ai @nl (ai @nr (ai @ns (ai @ng (ai @i0 (ai @i2 (ai @Zau @tmz)))))))));refine gR ?_;clear F)
  (have F:=ai @hw @tmz;refine gG ?_;exact ⟨(M+1,T.set M s),⟨by omega,by omega,hT2⟩,gw,gw,by omega⟩)
 have q2:((((m - 1) &&& m:Nat):Int)=0)=False:=eq_false om
 have hnp:∀ i,m≠2 ^ i:=fun i e=>hA (by subst e;exact ZrO i)
 have hz:=hB0 _ _ hT hm1 hmZ
 have hzz:nR (T.set m 0)=nR T:=by rw [hz]
 have hle:(m - 1) &&& m<=m - 1:=Nat.and_le_left
 have hs0:=ZkI (R:=R) (sets:=sets) (N:=g.sorts.names.length) (m:=m) om
 have hend:=Zoe (R:=R) (sets:=sets) (N:=g.sorts.names.length) (m:=m) hs hRlt hnp
 have hT2:=hBn _ _ hT hmZ
 clear nl nr
 (have F:=ai @hsh (ai @q1 (ai @w1 (ai @ba (ai @ba2 (ai @q2 (ai @Zau @tmz))))));refine gG ?_;clear F)
 (have F:=ai @hzz @tmz;refine gL (ι:=Nat × Nat) [8,10,41] [8] (fun z=>[(10,A.d (.one (.lit (.int .i64 z.1)))),(8,.buf 8)]) (fun z=>[(8,.buf none 3 1 (nR (T.set m z.2)))]) (fun z=>z.1 < m∧z.1 &&& m=z.1∧z.2=ofB (Zeq R sets g.sorts.names.length m z.1) g.sorts.names.length) (fun z=>z.1) (((m - 1) &&& m,0)) (⟨by omega,by rw [Nat.and_assoc,Nat.and_self],hs0.symm⟩) (fun z hz=>?_);clear F)
 obtain ⟨p,v⟩:=z
 obtain ⟨hp1,hp2,hv⟩:=hz
 simp only at hp1 hp2 hv
 dsimp only
 by_cases hp0:p=0
 ·subst hp0
  have q3:((0:Int) < ((0:Nat):Int))=False:=eq_false om
  have e:v=bvN g R sets m:=by rw [hv,hend];rfl
  subst e
  (have F:=ai @q3 (ai @hw @tmz);refine gG ?_;exact ⟨(m+1,T.set m (bvN g R sets m)),⟨by omega,by omega,hT2⟩,gw,gw,by omega⟩)
 have q3:((0:Int) < (p:Int))=True:=eq_true om
 have wp:IntKind.i64.wrap ((p:Int) - 1)=((p - 1:Nat):Int):=ZaP om om om
 have bap:=Zdd (a:=p - 1) (b:=m) om om
 have bx:=Zot (a:=m) (b:=p) om om
 have hxp:=Zou hp2 hp0 om
 have hp3:(p - 1) &&& m<=p - 1:=Nat.and_le_left
 have hTp:=(hBg _ _ hT p om om).1 hp1
 have hTx:=(hBg _ _ hT (m ^^^ p) hxp.1 om).1 hxp.2
 have e:=fun b=>Zl3 (R:=R) (sets:=sets) (N:=g.sorts.names.length) (m:=m) (p:=p) (b:=b) hp0 om hp2
 have e:v ||| ofB (fun b=>Two R (bvN g R sets p) (bvN g R sets (m ^^^ p)) b) g.sorts.names.length=ofB (Zeq R sets g.sorts.names.length m ((p - 1) &&& m)) g.sorts.names.length:=by
  rw [hv,Ze8]
  exact ZaR fun b _=>(e b).symm
 have cR:=Zgu (mc:=mc) hg h0 ho [bvN g R sets p,bvN g R sets (m ^^^ p)] (fun d hd=>hdeg d hd) (by simp) (fun s hs=>by
  simp only [List.mem_cons,List.not_mem_nil,or_false] at hs
  rcases hs with rfl | rfl <;> exact hcv _)
 rw [hany] at cR
 have cR:=Ze9 cR
 have hv62:v < 4611686018427387904:=by rw [hv];exact Zbq (ZbJ _ _) hN
 have hor:=Zc3 hv62 (Zbq (ZbJ (fun b=>Two R (bvN g R sets p) (bvN g R sets (m ^^^ p)) b) g.sorts.names.length) hN)
 rw [e] at hor
 generalize ofB (fun b=>Two R (bvN g R sets p) (bvN g R sets (m ^^^ p)) b) g.sorts.names.length=tw at cR hor
 have nl:=ZaL (l:=T.set m v)
 rw [List.length_set,hBl _ _ hT] at nl
 have nr:=ZaI (l:=T.set m v)
 have g1:(nR (T.set m v))[m]?=some [.lit (.int .i64 v)]:=ZaK (List.getElem?_set_self (by rw [hBl _ _ hT];exact hmZ))
 have g2:(nR (T.set m v))[p]?=some [.lit (.int .i64 (bvN g R sets p))]:=ZaK (by rw [List.getElem?_set_ne om];exact hTp)
 have g3:(nR (T.set m v))[m ^^^ p]?=some [.lit (.int .i64 (bvN g R sets (m ^^^ p)))]:=ZaK (by rw [List.getElem?_set_ne om];exact hTx)
 have ns:=fun x=>Zcf (l:=T.set m v) m x
 simp only [List.set_set] at ns
 have i2:(p < Z)=True:=eq_true om
 have i3:(m ^^^ p < Z)=True:=eq_true om
 clear e hv hend
 (have F:=ai @q3 @tmz;have NN:Zai 11:=trivial;refine gGn ?_;clear F NN)
 refine gB ?_
 (have F:=ai @nl (ai @nr (ai @g1 (ai @g2 (ai @g3 (ai @i0 (ai @i2 (ai @i3 (ai @bx (ai @Zau @tmz)))))))));refine gC (cR) ?_;clear F)
 (have F:=ai @nl (ai @nr (ai @g1 (ai @hor (ai @ns (ai @i0 (ai @Zau @tmz))))));refine gR ?_;clear F)
 (have F:=ai @wp (ai @bap @tmz);refine gG ?_;exact ⟨((p - 1) &&& m,ofB (Zeq R sets g.sorts.names.length m ((p - 1) &&& m)) g.sorts.names.length),⟨by omega,by rw [Nat.and_assoc,Nat.and_self],rfl⟩,gw,gw,by omega⟩)
end
section
variable {g:Sgn}
set_option maxRecDepth 100000 in
theorem Zw3 (hg:SgnOk g) {op:Int} {o:Opr} (h0:0<=op) (ho:g.ops[op.toNat]?=some o) (ha:o.assoc=true) (sets:List Nat) (hn1:1<=sets.length) (hn7:sets.length<=7) (hs:∀ s∈sets,s < 2 ^ g.sorts.names.length):Con e0 207 [.agg (Zaw g),.one (.lit (.int .i64 op)),.one (.sl (nR sets))] [.one (.lit (.int .i64 ((bvN g (Rel2 g o) sets (2 ^ sets.length - 1):Nat):Int)))]:=by
 have hN:=hg.sorts.n8
 have rl:=ZaL (l:=sets)
 have rr:=ZaI (l:=sets)
 have hdeg:=Opr.deg2 hg ho (.inl ha)
 have cU:=ZfP hg.sorts.n8 hg.sorts.m16 (SortsOk.subsIn hg.sorts.subs)
 rw [Za2] at cU
 have hRlt:=fun a c b (h:Rel2 g o a c b)=>Rel2.lt hg (List.mem_of_getElem? ho) h
 have hany:∀ s t,ofB (ZcR g o [s,t]) g.sorts.names.length=ofB (fun b=>Two (Rel2 g o) s t b) g.sorts.names.length:=fun s t=>ZaR fun b _=>Zd8 hdeg
 have cG:=fun l=>Zhs hg (List.mem_of_getElem? ho) l
 generalize hRR:Rel2 g o=R at hRlt hany ⊢
 have hcv:∀ m,bvN g R sets m < 2 ^ g.sorts.names.length:=fun m=>ZbJ _ _
 have cB:=Zga (k:=sets.length) om
 have hT0:=BagT.start (g:=g) (R:=R) (sets:=sets)
 have hpow:∀ q,2 ^ q < 2 ^ sets.length->q < sets.length:=fun q h=>(Nat.pow_lt_pow_iff_right om).1 h
 have hZ1:2 ^ 1<=2 ^ sets.length:=Nat.pow_le_pow_right om hn1
 have hZ7:2 ^ sets.length<=2 ^ 7:=Nat.pow_le_pow_right om hn7
 have hBl:=fun M T (h:BagT g R sets M T)=>h.1
 have hBn:=fun M T (h:BagT g R sets M T)=>h.next
 have hB0:=fun M T (h:BagT g R sets M T)=>h.zero
 have hBg:=fun M T (h:BagT g R sets M T)=>h.2
 generalize hZ:2 ^ sets.length=Z at cB hT0 hpow hZ1 hZ7 hBl hBn hB0 hBg ⊢
 have hmx:((Z:Int)<=(maxApp:Int))=True:=eq_true (by unfold maxApp;omega)
 rw [Zaw]
 refine gI (ts:=[.slot 6]) 281509890105295 Tryz.func207 ?_
 (have F:=ai @rl @tmz;have NN:Zai 2:=trivial;refine gGn ?_;clear F NN)
 refine gB ?_
 (have F:=@tmz;refine gC (cU) ?_;clear F)
 (have F:=@tmz;refine gR ?_;clear F)
 refine Zdz ?_
 refine gB ?_
 (have F:=@tmz;refine gC (cB) ?_;clear F)
 (have F:=ai @hmx (ai @Int.toNat_natCast (ai @nR_0 @tmz));refine gR ?_;clear F)
 (have F:=ai @Zau @tmz;refine gG ?_;clear F)
 generalize List.replicate Z 0=T0 at hT0 ⊢
 (have F:=@tmz;refine gL (ι:=Nat × List Nat) [9,10,11,12,24,29,35,48] [9] (fun x=>[(10,A.d (.one (.lit (.int .i64 x.1)))),(9,.buf 9)]) (fun x=>[(9,.buf none 3 1 (nR x.2))]) (fun x=>1<=x.1∧x.1<=Z∧BagT g R sets x.1 x.2) (fun x=>Z - x.1) ((1,T0)) (⟨Nat.le_refl _,by omega,hT0⟩) (fun x hx=>?_);clear F)
 clear hT0 T0
 obtain ⟨m,T⟩:=x
 obtain ⟨hm1,hm2,hT⟩:=hx
 simp only at hm1 hm2 hT
 dsimp only
 (have F:=@tmz;have NN:Zai 5:=trivial;refine gGn ?_;clear F NN)
 refine gB ?_
 (have F:=@tmz;refine gC (cB) ?_;clear F)
 by_cases hmZ:m < Z
 rotate_left
 ·obtain rfl:m=Z:=by omega
  have nl:=ZaL (l:=T)
  rw [hBl _ _ hT] at nl
  have nr:=ZaI (l:=T)
  have q1:((m:Int) < (m:Int))=False:=eq_false om
  have hg2:=ZaK ((hBg _ _ hT (m - 1) om om).1 om)
  have w1:IntKind.i64.wrap ((m:Int) - 1)=((m - 1:Nat):Int):=ZaP om om om
  have i1:(m - 1 < m)=True:=eq_true om
  (have F:=ai @q1 @tmz;refine gR ?_;clear F)
  (have F:=@tmz;have NN:Zai 16:=trivial;refine gGn ?_;clear F NN)
  refine gB ?_
  (have F:=@tmz;refine gC (cB) ?_;clear F)
  (have F:=ai @nl (ai @nr (ai @hg2 (ai @w1 (ai @i1 (ai @Zau @tmz)))));refine gR ?_;clear F)
  (have F:=@tmz;refine gG ?_;exact gTd)
 have q1:((m:Int) < (Z:Int))=True:=eq_true om
 have hw:=Zav (k:=m) om
 have w1:IntKind.i64.wrap ((m:Int) - 1)=((m - 1:Nat):Int):=ZaP om om om
 have ba2:=Zdd (a:=m - 1) (b:=m) om om
 have i0:(m < Z)=True:=eq_true hmZ
 have hz:=hB0 _ _ hT hm1 hmZ
 have hzz:nR (T.set m 0)=nR T:=by rw [hz]
 have hT2:=hBn _ _ hT hmZ
 (have F:=ai @q1 @tmz;refine gR ?_;clear F)
 (have F:=@tmz;refine gG ?_;clear F)
 (have F:=ai @hzz @tmz;refine gL (ι:=Nat × Nat) [9,11,29,35] [9] (fun y=>[(11,A.d (.one (.lit (.int .i64 y.1)))),(9,.buf 9)]) (fun y=>[(9,.buf none 3 1 (nR (T.set m y.2)))]) (fun y=>y.1<=sets.length∧(∀ q,m=2 ^ q->(q < y.1->y.2=bvN g R sets m))∧((∀ q,q < y.1->m≠2 ^ q)->y.2=0)) (fun y=>sets.length - y.1) ((0,0)) (⟨by omega,fun q _ h=>by omega,fun _=>rfl⟩) (fun y hy=>?_);clear F)
 obtain ⟨i,v⟩:=y
 obtain ⟨hi,hv1,hv2⟩:=hy
 simp only at hi hv1 hv2
 dsimp only
 by_cases hil:i < sets.length
 ·have q3:((i:Int) < (sets.length:Int))=True:=eq_true om
  have hwi:=Zav (k:=i) om
  have cBi:=Zga (k:=i) om
  (have F:=ai @q3 @tmz;have NN:Zai 10:=trivial;refine gGn ?_;clear F NN)
  refine gB ?_
  (have F:=@tmz;refine gC (cBi) ?_;clear F)
  by_cases e:m=2 ^ i
  ·have q4:((m:Int)=((2 ^ i:Nat):Int))=True:=eq_true (by rw [e])
   obtain ⟨s,hsi⟩:∃ s,sets[i]?=some s:=⟨_,List.getElem?_eq_getElem hil⟩
   have hbv:bvN g R sets m=s:=by rw [e];unfold bvN;exact ZrI hsi (hs s (List.mem_of_getElem? hsi))
   have r1:=ZaK hsi
   have nl:=ZaL (l:=T.set m v)
   rw [List.length_set,hBl _ _ hT] at nl
   have nr:=ZaI (l:=T.set m v)
   have g1:(nR (T.set m v))[m]?=some [.lit (.int .i64 v)]:=ZaK (List.getElem?_set_self (by rw [hBl _ _ hT];exact hmZ))
   have ns:=fun x=>Zcf (l:=T.set m v) m x
   simp only [List.set_set] at ns
   have i1:(i < sets.length)=True:=eq_true hil
   have hv0:(∀ q,q < i+1->m≠2 ^ q)->s=0:=fun h=>absurd e (h i om)
   clear cBi
   generalize 2 ^ i=M at *
   (have F:=ai @q4 @tmz;refine gR ?_;clear F)
   (have F:=ai @hwi (ai @r1 (ai @rl (ai @rr (ai @nl (ai @nr (ai @g1 (ai @ns (ai @i0 (ai @i1 (ai @Zau @tmz))))))))));refine gG ?_;exact ⟨(i+1,s),⟨hil,fun q h1 h2=>hbv.symm,hv0⟩,gw,gw,by omega⟩)
  have q4:((m:Int)=((2 ^ i:Nat):Int))=False:=eq_false om
  have hv3:∀ q,m=2 ^ q->(q < i+1->v=bvN g R sets m):=fun q h1 h2=>hv1 q h1 (by
   by_cases h3:q=i
   ·subst h3;exact absurd h1 e
   ·omega)
  have hv4:(∀ q,q < i+1->m≠2 ^ q)->v=0:=fun h=>hv2 fun q h1=>h q om
  clear cBi
  (have F:=ai @q4 @tmz;refine gR ?_;clear F)
  (have F:=ai @hwi @tmz;refine gG ?_;exact ⟨(i+1,v),⟨hil,hv3,hv4⟩,gw,gw,by omega⟩)
 obtain rfl:i=sets.length:=by omega
 have q3:((sets.length:Int) < (sets.length:Int))=False:=eq_false om
 have hz:=hB0 _ _ hT hm1 hmZ
 have hle:(m - 1) &&& m<=m - 1:=Nat.and_le_left
 (have F:=ai @q3 (ai @w1 (ai @ba2 (ai @Zau @tmz)));refine gG ?_;clear F)
 by_cases hA:(m - 1) &&& m=0
 ·obtain ⟨q,rfl⟩:=ZrP om hA
  have hq:=hpow q hmZ
  have hv:=hv1 q rfl hq
  subst hv
  rw [hA]
  (have F:=@tmz;refine gL (ι:=Nat) [12,48] [] (fun z=>[(12,A.d (.one (.lit (.int .i64 z))))]) (fun z=>[]) (fun z=>z=0) (fun z=>z) (0) (rfl) (fun z hz=>?_);clear F)
  subst hz
  have q4:((0:Int) < ((0:Nat):Int))=False:=eq_false om
  generalize 2 ^ q=M at *
  (have F:=ai @q4 (ai @hw @tmz);refine gG ?_;exact ⟨(M+1,T.set M (bvN g R sets M)),⟨by omega,by omega,hT2⟩,gw,gw,by omega⟩)
 have hnp:∀ i,m≠2 ^ i:=fun i e=>hA (by subst e;exact ZrO i)
 have hv:=hv2 fun q _=>hnp q
 subst hv
 have hs0:=ZkI (R:=R) (sets:=sets) (N:=g.sorts.names.length) (m:=m) om
 have hend:=Zoe (R:=R) (sets:=sets) (N:=g.sorts.names.length) (m:=m) hs hRlt hnp
 (have F:=@tmz;refine gL (ι:=Nat × Nat) [9,12,48] [9] (fun z=>[(12,A.d (.one (.lit (.int .i64 z.1)))),(9,.buf 9)]) (fun z=>[(9,.buf none 3 1 (nR (T.set m z.2)))]) (fun z=>z.1 < m∧z.1 &&& m=z.1∧z.2=ofB (Zeq R sets g.sorts.names.length m z.1) g.sorts.names.length) (fun z=>z.1) (((m - 1) &&& m,0)) (⟨by omega,by rw [Nat.and_assoc,Nat.and_self],hs0.symm⟩) (fun z hz=>?_);clear F)
 obtain ⟨p,v⟩:=z
 obtain ⟨hp1,hp2,hv⟩:=hz
 simp only at hp1 hp2 hv
 dsimp only
 by_cases hp0:p=0
 ·subst hp0
  have q3:((0:Int) < ((0:Nat):Int))=False:=eq_false om
  have e:v=bvN g R sets m:=by rw [hv,hend];rfl
  subst e
  (have F:=ai @q3 (ai @hw @tmz);refine gG ?_;exact ⟨(m+1,T.set m (bvN g R sets m)),⟨by omega,by omega,hT2⟩,gw,gw,by omega⟩)
 have q3:((0:Int) < (p:Int))=True:=eq_true om
 have wp:IntKind.i64.wrap ((p:Int) - 1)=((p - 1:Nat):Int):=ZaP om om om
 have bap:=Zdd (a:=p - 1) (b:=m) om om
 have bx:=Zot (a:=m) (b:=p) om om
 have hxp:=Zou hp2 hp0 om
 have hp3:(p - 1) &&& m<=p - 1:=Nat.and_le_left
 have hTp:=(hBg _ _ hT p om om).1 hp1
 have hTx:=(hBg _ _ hT (m ^^^ p) hxp.1 om).1 hxp.2
 have e:=fun b=>Zl3 (R:=R) (sets:=sets) (N:=g.sorts.names.length) (m:=m) (p:=p) (b:=b) hp0 om hp2
 have e:v ||| ofB (fun b=>Two R (bvN g R sets p) (bvN g R sets (m ^^^ p)) b) g.sorts.names.length=ofB (Zeq R sets g.sorts.names.length m ((p - 1) &&& m)) g.sorts.names.length:=by
  rw [hv,Ze8]
  exact ZaR fun b _=>(e b).symm
 have cR:=cG [bvN g R sets p,bvN g R sets (m ^^^ p)] (fun d hd=>hdeg d hd) (by simp) (fun s hs=>by
  simp only [List.mem_cons,List.not_mem_nil,or_false] at hs
  rcases hs with rfl | rfl <;> exact hcv _)
 rw [hany] at cR
 have cR:=Ze9 cR
 have hv62:v < 4611686018427387904:=by rw [hv];exact Zbq (ZbJ _ _) hN
 have hor:=Zc3 hv62 (Zbq (ZbJ (fun b=>Two R (bvN g R sets p) (bvN g R sets (m ^^^ p)) b) g.sorts.names.length) hN)
 rw [e] at hor
 generalize ofB (fun b=>Two R (bvN g R sets p) (bvN g R sets (m ^^^ p)) b) g.sorts.names.length=tw at cR hor
 have nl:=ZaL (l:=T.set m v)
 rw [List.length_set,hBl _ _ hT] at nl
 have nr:=ZaI (l:=T.set m v)
 have g1:(nR (T.set m v))[m]?=some [.lit (.int .i64 v)]:=ZaK (List.getElem?_set_self (by rw [hBl _ _ hT];exact hmZ))
 have g2:(nR (T.set m v))[p]?=some [.lit (.int .i64 (bvN g R sets p))]:=ZaK (by rw [List.getElem?_set_ne om];exact hTp)
 have g3:(nR (T.set m v))[m ^^^ p]?=some [.lit (.int .i64 (bvN g R sets (m ^^^ p)))]:=ZaK (by rw [List.getElem?_set_ne om];exact hTx)
 have ns:=fun x=>Zcf (l:=T.set m v) m x
 simp only [List.set_set] at ns
 have i2:(p < Z)=True:=eq_true om
 have i3:(m ^^^ p < Z)=True:=eq_true om
 clear e hv hend
 (have F:=ai @q3 @tmz;have NN:Zai 15:=trivial;refine gGn ?_;clear F NN)
 refine gB ?_
 (have F:=ai @nl (ai @nr (ai @g1 (ai @g2 (ai @g3 (ai @i0 (ai @i2 (ai @i3 (ai @bx (ai @h0 (ai @ho (ai @Zaj (ai @Zau @tmz))))))))))));refine gC (cR) ?_;clear F)
 (have F:=ai @nl (ai @nr (ai @g1 (ai @hor (ai @ns (ai @i0 (ai @Zau @tmz))))));refine gR ?_;clear F)
 (have F:=ai @wp (ai @bap @tmz);refine gG ?_;exact ⟨((p - 1) &&& m,ofB (Zeq R sets g.sorts.names.length m ((p - 1) &&& m)) g.sorts.names.length),⟨by omega,by rw [Nat.and_assoc,Nat.and_self],rfl⟩,gw,gw,by omega⟩)
end
section
variable {g:Sgn}
theorem AppOk.len7 (hg:SgnOk g) {t:Tm} {o:Opr} {d:Dcl} (hA:AppOk g t o d):t.args.length<=7:=by
 cases ha:o.assoc with
 | true=>exact (hA.asc ha).2
 | false =>
  rw [hA.nas ha]
  have:=(hg.decls o (List.mem_of_getElem? hA.at')).ar d hA.fst
  omega
theorem AppOk.dlen (hg:SgnOk g) {t:Tm} {o:Opr} {d:Dcl} (hA:AppOk g t o d) (ha:o.assoc=false):∀ f∈o.decls,f.args.length=t.args.length:=by
 intro f hf
 rw [hA.nas ha]
 exact ((hg.decls o (List.mem_of_getElem? hA.at')).all d hA.fst f hf).len
theorem ZkP {t a:Tm} {i:Nat} (h:t.args[i]?=some a):(t.args.take i).map (sortsTm g)++[sortsTm g a]=(t.args.take (i+1)).map (sortsTm g):=by
 rw [List.take_add_one,h,List.map_append];rfl
set_option maxRecDepth 100000 in
theorem Zpp (hg:SgnOk g):∀ (n:Nat) {t:Tm},sizeTm t < n->ZaO g t->Con e0 139 [.agg (Zaw g),.agg (Zae t)] [.one (.lit (.int .i64 ((sortsTm g t:Nat):Int)))]:=by
 intro n
 induction n with
 | zero=>exact fun {t} h _=>absurd h om
 | succ n IH =>
 intro t hsz hf
 obtain ⟨hnode,hargs,_⟩:=Zbb.1 hf
 have cU:=ZfP hg.sorts.n8 hg.sorts.m16 (SortsOk.subsIn hg.sorts.subs)
 rw [Za2] at cU
 by_cases hop:t.op=-1
 ·have hv:ZcF g t:=hnode.resolve_right fun ⟨o,d,hA⟩=>by have:=hA.lo;omega
  have q1:(t.op=-1)=True:=eq_true hop
  obtain ⟨k,hk⟩:∃ k:Nat,t.sort=k:=⟨t.sort.toNat,by have:=hv.2.2.1;omega⟩
  have hgk:=ZgK hg.sorts hv.2.2.1 hv.2.2.2.1
  have hgk:=ZaK hgk.1
  have e:=Zgr (g:=g) hop
  rw [e]
  have ul:=ZaL (l:=up g.sorts)
  rw [(ZeJ (SortsOk.subsIn hg.sorts.subs)).1] at ul
  have ur:=ZaI (l:=up g.sorts)
  have i0:0<=t.sort:=hv.2.2.1
  have i1:(t.sort.toNat < g.sorts.names.length)=True:=eq_true (by have:=hv.2.2.2.1;omega)
  rw [Zaw]
  refine gI (ts:=[.slot 4]) 4629704814991770879 Tryz.func139 ?_
  (have F:=ai @q1 @tmz;have NN:Zai 2:=trivial;refine gGn ?_;clear F NN)
  refine gB ?_
  (have F:=@tmz;refine gC (cU) ?_;clear F)
  (have F:=ai @i0 (ai @i1 (ai @ul (ai @ur (ai @hgk @tmz))));refine gR ?_;clear F)
  (have F:=@tmz;refine gG ?_;exact gTd)
 have q1:(t.op=-1)=False:=eq_false hop
 obtain ⟨o,d,hA⟩:∃ o d,AppOk g t o d:=hnode.resolve_left fun hv=>hop hv.1
 have h0:=hA.lo
 have ho:=hA.at'
 have h7:=hA.len7 hg
 have ih:∀ a∈t.args,Con e0 139 [.agg (Zaw g),.agg (Zae a)] [.one (.lit (.int .i64 ((sortsTm g a:Nat):Int)))]:=fun a ha=>IH (by
  have h1:=Za7 t
  have h2:=Zbi ha
  omega) (hargs a ha)
 clear IH
 have e:=Zgs hop ho
 rw [e]
 have hss:∀ s∈t.args.map (sortsTm g),s < 2 ^ g.sorts.names.length:=fun s hs=>by
  obtain ⟨a,ha,rfl⟩:=List.mem_map.1 hs
  exact ZdQ hg (hargs a ha).node
 have hsl:(t.args.map (sortsTm g)).length=t.args.length:=List.length_map _
 have cB:=fun (ha:o.assoc=true)=>Zw3 hg h0 ho ha (t.args.map (sortsTm g)) (by rw [hsl];have:=(hA.asc ha).1;omega) (by rw [hsl];exact h7) hss
 have cC:=fun (ha:o.assoc=true)=>Zpo hg h0 ho ha (t.args.map (sortsTm g)) (by rw [hsl];have:=(hA.asc ha).1;omega) (by rw [hsl];exact h7) hss
 rw [Zaw] at ih cB cC ⊢
 have hn0:nR []=[]:=rfl
 have ht0:t.args.take 0=[]:=rfl
 refine gI (ts:=[.slot 4]) 4629704814991770879 Tryz.func139 ?_
 (have F:=ai @q1 @tmz;refine gG ?_;clear F)
 (have F:=ai @hn0 (ai @ht0 @tmz);refine gL (ι:=Nat) [5,6,23] [5] (fun i=>[(6,A.d (.one (.lit (.int .i64 i)))),(5,.buf 5)]) (fun i=>[(5,.buf none 3 1 (nR ((t.args.take i).map (sortsTm g))))]) (fun i=>i<=t.args.length) (fun i=>t.args.length - i) (0) (Nat.zero_le _) (fun i hi=>?_);clear F)
 have nl:=ZaL (l:=(t.args.take i).map (sortsTm g))
 rw [List.length_map,List.length_take_of_le hi] at nl
 have nr:=ZaI (l:=(t.args.take i).map (sortsTm g))
 by_cases hil:i < t.args.length
 ·have q2:((i:Int) < (t.args.length:Int))=True:=eq_true om
  obtain ⟨a,hai⟩:∃ a,t.args[i]?=some a:=⟨_,List.getElem?_eq_getElem hil⟩
  have cA:=ih a (List.mem_of_getElem? hai)
  have ns:=ZgD (l:=(t.args.take i).map (sortsTm g)) (sortsTm g a)
  rw [ZkP hai] at ns
  have hmx:(i+1<=maxApp)=True:=eq_true (by unfold maxApp;omega)
  have hw:=Zav (k:=i) om
  (have F:=ai @q2 @tmz;have NN:Zai 7:=trivial;refine gGn ?_;clear F NN)
  refine gB ?_
  (have F:=ai @hai (ai @Zau @tmz);refine gC (cA) ?_;clear F)
  (have F:=ai @nl (ai @nr (ai @ns (ai @hmx @tmz)));refine gR ?_;clear F)
  (have F:=ai @hw @tmz;refine gG ?_;exact ⟨i+1,hil,gw,gw,by omega⟩)
 obtain rfl:i=t.args.length:=by omega
 have q2:((t.args.length:Int) < (t.args.length:Int))=False:=eq_false om
 rw [List.take_length] at nl nr ⊢
 have hlt:=fun b=>ZdQ hg (t:=b)
 have hD:=hA.dlen hg
 rw [<- hsl] at hD
 have cF:=fun (ha:o.assoc=false)=>Zjo hg h0 ho (t.args.map (sortsTm g)) (hD ha)
 have h2:=Opr.deg2 hg ho
 rw [Zaw] at cF
 clear hi hil
 cases ha:o.assoc with
 | true =>
  cases hc:o.comm with
  | true =>
   have cB:=cB ha
   have e2:bvN g (Rel2 g o) (t.args.map (sortsTm g)) (2 ^ (t.args.map (sortsTm g)).length - 1)=appS g o (t.args.map (sortsTm g)):=by
    unfold bvN appS
    exact ZaR fun b _=>by unfold AppB;rw [if_pos ha,if_pos hc]
   rw [e2] at cB
   (have F:=ai @q2 (ai @ha (ai @hc (ai @h0 (ai @ho (ai @Zaj @tmz)))));have NN:Zai 10:=trivial;refine gGn ?_;clear F NN)
   refine gB ?_
   (have F:=@tmz;refine gC (cB) ?_;clear F)
   (have F:=@tmz;refine gR ?_;clear F)
   (have F:=@tmz;refine gG ?_;exact gTd)
  | false =>
   have cC:=cC ha
   have e2:cvN g o (t.args.map (sortsTm g)) 0 (t.args.map (sortsTm g)).length=appS g o (t.args.map (sortsTm g)):=by
    unfold cvN appS
    exact ZaR fun b _=>by unfold AppB;rw [if_pos ha,if_neg (by simp [hc])]
   rw [e2] at cC
   (have F:=ai @q2 (ai @ha (ai @hc (ai @h0 (ai @ho (ai @Zaj @tmz)))));have NN:Zai 12:=trivial;refine gGn ?_;clear F NN)
   refine gB ?_
   (have F:=@tmz;refine gC (cC) ?_;clear F)
   (have F:=@tmz;refine gR ?_;clear F)
   (have F:=@tmz;refine gG ?_;exact gTd)
 | false =>
  have h3:t.args.length<=3:=by
   rw [hA.nas ha]
   exact (hg.decls o (List.mem_of_getElem? ho)).ar d hA.fst
  have cF:=cF ha (by rw [hsl];exact h3) hss
  cases hc:o.comm with
  | true =>
   have e2:ofB (ZcR g o (t.args.map (sortsTm g))) g.sorts.names.length ||| ofB (ZcR g o (t.args.map (sortsTm g)).reverse) g.sorts.names.length=appS g o (t.args.map (sortsTm g)):=by
    unfold appS
    rw [Ze8]
    exact ZaR fun b _=>by unfold AppB AnyB;rw [if_neg (by simp [ha]),hc];simp
   have hor:=Zc3 (Zbq (ZbJ (ZcR g o (t.args.map (sortsTm g))) g.sorts.names.length) hg.sorts.n8) (Zbq (ZbJ (ZcR g o (t.args.map (sortsTm g)).reverse) g.sorts.names.length) hg.sorts.n8)
   rw [e2] at hor
   have cG:=Zjo hg h0 ho (t.args.map (sortsTm g)).reverse (by rw [List.length_reverse];exact hD ha) (by rw [List.length_reverse,hsl];exact h3) (fun s hs=>hss s (List.mem_reverse.1 hs))
   rw [Zaw] at cG
   have hl2:(t.args.map (sortsTm g)).length=2:=by rw [hsl,hA.nas ha];exact h2 (.inr (.inl hc)) d (List.mem_of_getElem? hA.fst)
   clear e2 cB cC hD h2 ih hargs e
   rw [hsl] at hl2
   generalize appS g o (t.args.map (sortsTm g))=V at hor ⊢
   generalize ofB (ZcR g o (t.args.map (sortsTm g))) g.sorts.names.length=V1 at hor cF
   generalize ofB (ZcR g o (t.args.map (sortsTm g)).reverse) g.sorts.names.length=V2 at hor cG
   have hl3:=hsl
   rw [hl2] at hl3 nl
   obtain ⟨s1,s2,hs12⟩:∃ s1 s2,t.args.map (sortsTm g)=[s1,s2]:=by
    match t.args.map (sortsTm g),hl3 with
    | [x,y],_=>exact ⟨x,y,rfl⟩
   rw [hs12] at cF cG nr nl ⊢
   simp only [List.reverse_cons,List.reverse_nil,List.nil_append,List.singleton_append] at cG
   have cG:=Ze9 cG
   have g0:(nR [s1,s2])[0]?=some [.lit (.int .i64 s1)]:=rfl
   have g1:(nR [s1,s2])[1]?=some [.lit (.int .i64 s2)]:=rfl
   (have F:=ai @q2 (ai @ha (ai @hc (ai @h0 (ai @ho (ai @Zaj @tmz)))));have NN:Zai 14:=trivial;refine gGn ?_;clear F NN)
   refine Zcm (ZeY [5] (by simp only [pz,↓reduceIte,Nat.reduceEqDiff,Nat.reduceAdd,Nat.reduceSub,Nat.reduceMul,Nat.reduceLeDiff,Nat.reduceBEq,Bool.false_eq_true,decide_true,decide_false,Int.reduceLE,Int.reduceToNat,Int.reduceLT,Int.reduceEq,eq_self,Nat.reduceShiftRight,Nat.reduceAnd,Nat.reduceBneDiff,tmz];exact rfl)) fun σ' hσ=>?_
   subst hσ
   refine gB ?_
   (have F:=@tmz;refine gC (cF) ?_;clear F)
   (have F:=ai @nl (ai @nr (ai @g0 (ai @g1 @tmz)));refine gC (cG) ?_;clear F)
   (have F:=ai @hor @tmz;refine gR ?_;clear F)
   (have F:=@tmz;refine gG ?_;exact gTd)
  | false =>
   have e2:ofB (ZcR g o (t.args.map (sortsTm g))) g.sorts.names.length=appS g o (t.args.map (sortsTm g)):=by
    unfold appS
    exact ZaR fun b _=>by unfold AppB AnyB;rw [if_neg (by simp [ha]),hc];simp
   rw [e2] at cF
   (have F:=ai @q2 (ai @ha (ai @hc (ai @h0 (ai @ho (ai @Zaj @tmz)))));have NN:Zai 15:=trivial;refine gGn ?_;clear F NN)
   refine gB ?_
   (have F:=@tmz;refine gC (cF) ?_;clear F)
   (have F:=@tmz;refine gR ?_;clear F)
   (have F:=@tmz;refine gG ?_;exact gTd)
end
section
variable {g:Sgn}
def ZeU (g:Sgn) (b:Nat) (t:Tm) (l:List (ByteArray × Value)) (r:List D) (pm:List Bk):Prop:=∃ l',r=[.one (.lit (.int .i64 (sortsTm g t:Nat)))]∧pm=[mapB b l']∧Memo g l'∧Grew g (sizeTm t) l l'
theorem ZDc:∀ (b:Nat) (l:List (ByteArray × Value)),pinned (mapB b l)=true:=fun _ _=>rfl
set_option maxRecDepth 100000 in
theorem Ziu (hg:SgnOk g) (b:Nat):∀ (n:Nat) {t:Tm},sizeTm t < n->sizeTm t<=60->ZaO g t->∀ l,Memo g l->ConP e0 116 [.one (.ptr (encX g (.lit (.map (some b))))),.agg (Zae t)] [mapB b l] (ZeU g b t l):=by
 intro n
 induction n with
 | zero=>exact fun {t} h _ _ _ _=>absurd h om
 | succ n IH =>
 intro t hsz h60 hf l hM
 obtain ⟨hnode,hargs,_⟩:=Zbb.1 hf
 by_cases hop:t.op=-1
 ·have hv:ZcF g t:=hnode.resolve_right fun ⟨o,d,hA⟩=>by have:=hA.lo;omega
  have q1:(t.op < 0)=True:=eq_true om
  have hgk:=ZgK hg.sorts hv.2.2.1 hv.2.2.2.1
  have hgk:=ZaK hgk.1
  have e:=Zgr (g:=g) hop
  have ul:=ZaL (l:=up g.sorts)
  rw [(ZeJ (SortsOk.subsIn hg.sorts.subs)).1] at ul
  have ur:=ZaI (l:=up g.sorts)
  have i0:0<=t.sort:=hv.2.2.1
  have i1:(t.sort.toNat < g.sorts.names.length)=True:=eq_true (by have:=hv.2.2.2.1;omega)
  have hR:ZeU g b t l [.one (.lit (.int .i64 (upk g t.sort:Nat)))] [mapB b l]:=⟨l,by rw [e],rfl,hM,Grew.refl⟩
  clear IH hargs
  unfold nR at ul ur hgk
  refine gIP (ts:=[.slot 4]) [1000] 604463053930783360175611 Tryz.func116 ?_
  (have F:=ai @q1 (ai @i0 (ai @i1 (ai @ul (ai @ur (ai @hgk (ai @ZaY @tmz))))));refine gG ?_;clear F)
  exact (have F:=tmz;gTP (R:=ZeU g b t l) [1000] hR (hp:=rfl))
 have q1:(t.op < 0)=False:=eq_false (by
  obtain ⟨o,d,hA⟩:∃ o d,AppOk g t o d:=hnode.resolve_left fun hv=>hop hv.1
  have:=hA.lo;omega)
 obtain ⟨o,d,hA⟩:∃ o d,AppOk g t o d:=hnode.resolve_left fun hv=>hop hv.1
 have cK:=Zw1 hg hf h60
 refine gIP (ts:=[.slot 4]) [1000] 604463053930783360175611 Tryz.func116 ?_
 (have F:=ai @q1 @tmz;have NN:Zai 3:=trivial;refine gGn ?_;clear F NN)
 refine gB ?_
 (have F:=@tmz;refine gC (cK) ?_;clear F)
 (have F:=@tmz;refine gR ?_;clear F)
 (have F:=@tmz;have NN:Zai 4:=trivial;refine gGn ?_;clear F NN)
 refine gB ?_
 (have F:=ai @ZaY @tmz;refine gP 5 ?_;clear F)
 cases hfs:Zbw l (keyS t) with
 | some v =>
  have hv:=hM t hf v hfs
  subst hv
  have hR:ZeU g b t l [.one (.lit (.int .i64 (sortsTm g t:Nat)))] [mapB b l]:=⟨l,rfl,rfl,hM,Grew.refl⟩
  refine (have F:=tmz;gLo 1000 Zfy Zdi Zw2 (v:=.int .i64 (sortsTm g t:Nat)) (f:=true) (by rw [hfs];rfl) (by rw [hfs];rfl) ?_)
  (have F:=@tmz;refine gR ?_;clear F)
  (have F:=@tmz;refine gG ?_;clear F)
  exact (have F:=tmz;gTP (R:=ZeU g b t l) [1000] hR (hp:=rfl))
 | none =>
 refine (have F:=tmz;gLo 1000 Zfy Zdi Zw2 (v:=.int .i64 0) (f:=false) (by rw [hfs];rfl) (by rw [hfs];rfl) ?_)
 have h7:=hA.len7 hg
 have hn0:nR []=[]:=rfl
 have ht0:t.args.take 0=[]:=rfl
 (have F:=@tmz;refine gR ?_;clear F)
 (have F:=@tmz;refine gG ?_;clear F)
 (have F:=ai @hn0 (ai @ht0 @tmz);refine gL (ι:=Nat × List (ByteArray × Value)) [8,10,41,42] [8,1000] (fun x=>[(41,A.d (.one (.lit (.int .i64 x.1)))),(8,.buf 8)]) (fun x=>[(8,.buf none 3 1 (nR ((t.args.take x.1).map (sortsTm g)))),(1000,mapB b x.2)]) (fun x=>x.1<=t.args.length∧Memo g x.2∧Grew g (sizeTm t - 1) l x.2) (fun x=>t.args.length - x.1) ((0,l)) (⟨Nat.zero_le _,hM,Grew.refl⟩) (fun x hx=>?_);clear F)
 obtain ⟨i,l1⟩:=x
 obtain ⟨hi,hM1,hG1⟩:=hx
 simp only at hi hM1 hG1
 dsimp only
 have nl:=ZaL (l:=(t.args.take i).map (sortsTm g))
 rw [List.length_map,List.length_take_of_le hi] at nl
 have nr:=ZaI (l:=(t.args.take i).map (sortsTm g))
 by_cases hil:i < t.args.length
 ·have q2:((i:Int) < (t.args.length:Int))=True:=eq_true om
  obtain ⟨a,hai⟩:∃ a,t.args[i]?=some a:=⟨_,List.getElem?_eq_getElem hil⟩
  have ham:=List.mem_of_getElem? hai
  have hs1:=Za7 t
  have hs2:=Zbi ham
  have cA:=IH (t:=a) om om (hargs a ham) l1 hM1
  have ns:=ZgD (l:=(t.args.take i).map (sortsTm g)) (sortsTm g a)
  rw [ZkP hai] at ns
  have hmx:(i+1<=maxApp)=True:=eq_true (by unfold maxApp;omega)
  have hw:=Zav (k:=i) om
  (have F:=ai @q2 (ai @hai (ai @Zau @tmz));have NN:Zai 11:=trivial;refine gGn ?_;clear F NN)
  refine gB ?_
  (have F:=ai @ZDc (ai @ZaY (ai @hai (ai @Zau @tmz)));refine gCP [1000] [1000] (hpn:=rfl) (cA) ?_;clear F)
  rintro r pm ⟨l2,rfl,rfl,hM2,hG2⟩
  simp only [setA,retA,zipM,List.cons_append,List.nil_append]
  (have F:=ai @nl (ai @nr (ai @ns (ai @hmx @tmz)));refine gR ?_;clear F)
  (have F:=ai @hw @tmz;refine gG ?_;exact ⟨(i+1,l2),⟨hil,hM2,hG1.trans (hG2.mono om)⟩,gw,gw,by omega⟩)
 obtain rfl:i=t.args.length:=by omega
 have q2:((t.args.length:Int) < (t.args.length:Int))=False:=eq_false om
 rw [List.take_length] at nl nr ⊢
 clear IH
 have h0:=hA.lo
 have ho:=hA.at'
 have e:=Zgs hop ho
 have hnone:Zbw l1 (keyS t)=none:=hG1 t hf (by have:=Za7 t;omega) hfs
 have hR:ZeU g b t l [.one (.lit (.int .i64 (sortsTm g t:Nat)))] [mapB b (l1++[(keyS t,.int .i64 (sortsTm g t:Nat))])]:=⟨_,rfl,rfl,hM1.snoc hg hf,(hG1.mono om).trans (Grew.snoc hg hf)⟩
 have hss:∀ s∈t.args.map (sortsTm g),s < 2 ^ g.sorts.names.length:=fun s hs=>by
  obtain ⟨a,ha,rfl⟩:=List.mem_map.1 hs
  exact ZdQ hg (hargs a ha).node
 have hsl:(t.args.map (sortsTm g)).length=t.args.length:=List.length_map _
 have h3:o.assoc=false->t.args.length<=3:=fun ha=>by
  rw [hA.nas ha]
  exact (hg.decls o (List.mem_of_getElem? ho)).ar d hA.fst
 have hD:=hA.dlen hg
 have h2:=Opr.deg2 hg ho
 have cR:=fun h1 h2=>Zgu (mc:=.lit (.map (some b))) hg h0 ho (t.args.map (sortsTm g)) h1 h2 hss
 have cA:=fun h1 h2 h3=>Zlp (mc:=.lit (.map (some b))) hg h0 ho h1 h2 (t.args.map (sortsTm g)) h3 (by rw [hsl];exact h7) hss
 have cW:=fun h1 h2 h3=>Zlq (mc:=.lit (.map (some b))) hg h0 ho h1 h2 (t.args.map (sortsTm g)) h3 (by rw [hsl];exact h7) hss
 have eR:=ZCd hg ho (sets:=t.args.map (sortsTm g))
 rw [hsl] at cR cA cW eR
 have eA:o.assoc=true->o.comm=true->bvN g (Rel2 g o) (t.args.map (sortsTm g)) (2 ^ t.args.length - 1)=sortsTm g t:=fun ha hc=>by
  rw [e]
  unfold bvN appS
  exact ZaR fun b _=>by unfold AppB;rw [if_pos ha,if_pos hc,hsl]
 have eC:o.assoc=true->o.comm=false->cvN g o (t.args.map (sortsTm g)) 0 t.args.length=sortsTm g t:=fun ha hc=>by
  rw [e]
  unfold cvN appS
  exact ZaR fun b _=>by unfold AppB;rw [if_pos ha,if_neg (by simp [hc]),hsl]
 rw [<- e] at eR
 clear hargs e hss
 by_cases hle:t.args.length<=2
 ·have q3:((t.args.length:Int)<=2)=True:=eq_true om
  have cR:=cR (by
   cases ha:o.assoc with
   | true=>exact fun f hf=>by rw [h2 (.inl ha) f hf];have:=(hA.asc ha).1;omega
   | false=>exact hD ha) om
  rw [eR fun ha=>by have:=(hA.asc ha).1;omega] at cR
  (have F:=ai @q2 (ai @q3 (ai @nl (ai @nr @tmz)));have NN:Zai 16:=trivial;refine gGn ?_;clear F NN)
  refine gB ?_
  (have F:=ai @ZaY @tmz;refine gC (cR) ?_;clear F)
  (have F:=@tmz;refine gR ?_;clear F)
  (have F:=@tmz;have NN:Zai 19:=trivial;refine gGn ?_;clear F NN)
  refine gB ?_
  (have F:=ai @ZaY @tmz;refine gP 6 ?_;clear F)
  refine (have F:=tmz;gUp 1000 Zfy Zdi hnone ?_)
  (have F:=@tmz;refine gR ?_;clear F)
  (have F:=@tmz;refine gG ?_;clear F)
  exact (have F:=tmz;gTP (R:=ZeU g b t l) [1000] hR (hp:=rfl))
 have q3:((t.args.length:Int)<=2)=False:=eq_false om
 cases ha:o.assoc with
 | false =>
  have cR:=cR (hD ha) (h3 ha)
  rw [eR fun ha'=>by rw [ha] at ha';cases ha'] at cR
  (have F:=ai @q2 (ai @q3 (ai @nl (ai @nr (ai @ha (ai @h0 (ai @ho (ai @ZaY (ai @Zaj @tmz))))))));have NN:Zai 16:=trivial;refine gGn ?_;clear F NN)
  refine gB ?_
  (have F:=ai @ZaY @tmz;refine gC (cR) ?_;clear F)
  (have F:=@tmz;refine gR ?_;clear F)
  (have F:=@tmz;have NN:Zai 19:=trivial;refine gGn ?_;clear F NN)
  refine gB ?_
  (have F:=ai @ZaY @tmz;refine gP 6 ?_;clear F)
  refine (have F:=tmz;gUp 1000 Zfy Zdi hnone ?_)
  (have F:=@tmz;refine gR ?_;clear F)
  (have F:=@tmz;refine gG ?_;clear F)
  exact (have F:=tmz;gTP (R:=ZeU g b t l) [1000] hR (hp:=rfl))
 | true =>
  have h1:1<=t.args.length:=by omega
  cases hc:o.comm with
  | true =>
   have cA:=cA ha hc h1
   rw [eA ha hc] at cA
   (have F:=ai @q2 (ai @q3 (ai @nl (ai @nr (ai @ha (ai @hc (ai @h0 (ai @ho (ai @ZaY (ai @Zaj @tmz)))))))));have NN:Zai 18:=trivial;refine gGn ?_;clear F NN)
   refine gB ?_
   (have F:=ai @ZaY @tmz;refine gC (cA) ?_;clear F)
   (have F:=@tmz;refine gR ?_;clear F)
   (have F:=@tmz;have NN:Zai 19:=trivial;refine gGn ?_;clear F NN)
   refine gB ?_
   (have F:=ai @ZaY @tmz;refine gP 6 ?_;clear F)
   refine (have F:=tmz;gUp 1000 Zfy Zdi hnone ?_)
   (have F:=@tmz;refine gR ?_;clear F)
   (have F:=@tmz;refine gG ?_;clear F)
   exact (have F:=tmz;gTP (R:=ZeU g b t l) [1000] hR (hp:=rfl))
  | false =>
   have cW:=cW ha hc h1
   rw [eC ha hc] at cW
   (have F:=ai @q2 (ai @q3 (ai @nl (ai @nr (ai @ha (ai @hc (ai @h0 (ai @ho (ai @ZaY (ai @Zaj @tmz)))))))));have NN:Zai 14:=trivial;refine gGn ?_;clear F NN)
   refine gB ?_
   (have F:=ai @ZaY @tmz;refine gC (cW) ?_;clear F)
   (have F:=@tmz;refine gR ?_;clear F)
   (have F:=@tmz;have NN:Zai 19:=trivial;refine gGn ?_;clear F NN)
   refine gB ?_
   (have F:=ai @ZaY @tmz;refine gP 6 ?_;clear F)
   refine (have F:=tmz;gUp 1000 Zfy Zdi hnone ?_)
   (have F:=@tmz;refine gR ?_;clear F)
   (have F:=@tmz;refine gG ?_;clear F)
   exact (have F:=tmz;gTP (R:=ZeU g b t l) [1000] hR (hp:=rfl))
end
section
variable {g:Sgn}
noncomputable def sortsOf (g:Sgn) (t:Tm):Nat:=if ZbB g=true∧Zby g t=true then sortsTm g t else 0
theorem ZkQ (hok:Zdc g) {t:Tm} (ht:okTm t) (hb:sizeTm t<=big):Con e0 120 [.agg (Zaw g),.agg (Zae t)] [.one (.lit (.int .i64 ((sortsOf g t:Nat):Int)))]:=by
 have cT:=ZeA hok ht hb
 unfold sortsOf
 by_cases h:ZbB g=true∧Zby g t=true
 ·have e:(ZbB g && Zby g t)=true:=by rw [h.1,h.2];rfl
  have cS:=Zpp (Zed.1 h.1) _ (Nat.lt_succ_self _) (ZcP.1 h.2).form
  rw [if_pos h]
  rw [e] at cT
  rw [Zaw] at cT cS ⊢
  refine gI (ts:=[.slot 4]) 287 Tryz.func120 ?_
  (have F:=@tmz;have NN:Zai 1:=trivial;refine gGn ?_;clear F NN)
  refine gB ?_
  (have F:=@tmz;refine gC (cT) ?_;clear F)
  (have F:=@tmz;refine gR ?_;clear F)
  (have F:=@tmz;have NN:Zai 3:=trivial;refine gGn ?_;clear F NN)
  refine gB ?_
  (have F:=@tmz;refine gC (cS) ?_;clear F)
  (have F:=@tmz;refine gR ?_;clear F)
  (have F:=@tmz;refine gG ?_;exact gTd)
 ·have e:(ZbB g && Zby g t)=false:=by
   cases h1:ZbB g with
   | false=>rfl
   | true =>
    cases h2:Zby g t with
    | false=>rfl
    | true=>exact absurd ⟨h1,h2⟩ h
  have z0:(((0:Nat):Int))=0:=rfl
  rw [if_neg h]
  rw [e] at cT
  rw [Zaw] at cT ⊢
  refine gI (ts:=[.slot 4]) 287 Tryz.func120 ?_
  (have F:=@tmz;have NN:Zai 1:=trivial;refine gGn ?_;clear F NN)
  refine gB ?_
  (have F:=@tmz;refine gC (cT) ?_;clear F)
  (have F:=@tmz;refine gR ?_;clear F)
  (have F:=ai @z0 @tmz;refine gG ?_;exact gTd)
def RAlg (g:Sgn) (r:List D) (pm:List Bk):Prop:=∃ b:Nat,r=[.one (.ptr (encX g (.lit (.map (some b))))),.one (.lit (.bool true))]∧pm=[mapB b []]
set_option maxRecDepth 100000 in
theorem ZDe (hok:Zdc g) (hg:SgnOk g):ConP e0 49 [.agg (Zaw g)] [] (RAlg g):=by
 have hs:ZbB g=true:=Zg9 hg
 have c:=Zi7 hok
 rw [hs,Zaw] at c
 have c2:=Zh8 hok.1 hg.sorts
 rw [Za2,ZdD] at c2
 rw [Zaw]
 refine gIP (ts:=[.slot 2,.slot 3]) [] 287 Tryz.func49 ?_
 (have F:=@tmz;have NN:Zai 1:=trivial;refine gGn ?_;clear F NN)
 refine gB ?_
 (have F:=@tmz;refine gC (c) ?_;clear F)
 (have F:=@tmz;refine gR ?_;clear F)
 (have F:=@tmz;have NN:Zai 3:=trivial;refine gGn ?_;clear F NN)
 refine gB ?_
 (have F:=@tmz;refine gC (c2) ?_;clear F)
 (have F:=@tmz;refine gR ?_;clear F)
 (have F:=@tmz;have NN:Zai 4:=trivial;refine gGn ?_;clear F NN)
 refine gB ?_
 (have F:=@tmz;refine gP 2 ?_;clear F)
 refine gMk fun b=>?_
 (have F:=@tmz;refine gR ?_;clear F)
 refine Zcm (ZeY [19] (by simp only [pz,↓reduceIte,Nat.reduceEqDiff,Nat.reduceAdd,Nat.reduceSub,Nat.reduceMul,Nat.reduceLeDiff,Nat.reduceBEq,Bool.false_eq_true,decide_true,decide_false,Int.reduceLE,Int.reduceToNat,Int.reduceLT,Int.reduceEq,eq_self,Nat.reduceShiftRight,Nat.reduceAnd,Nat.reduceBneDiff,tmz];exact rfl)) fun σ' hσ=>?_
 subst hσ
 exact (have F:=tmz;gTP (R:=RAlg g) [17] ⟨b,rfl,rfl⟩ (hp:=rfl))
end
section
variable {g:Sgn} {l:List Bd}
theorem ZcF.term {t:Tm} (h:ZcF g t):TermOk g t:=by
 have ha0:t.args=[]:=h.2.2.2.2
 have hf:ZaO g t:=Zbb.2 ⟨.inl h,(by rw [ha0];intro a ha;cases ha),.inl h.1⟩
 have h1:=Za7 t
 rw [ha0,ZlV] at h1
 have h2:=Zkr t
 exact ⟨by omega,by omega,hf⟩
theorem TermOk.var {t:Tm} (h:TermOk g t) (ho:t.op=-1):ZcF g t:=h.form.node.resolve_right fun ⟨o,d,hA⟩=>by have:=hA.lo;omega
theorem bd_l:∀ (b:Bd),(ZbN b).length=8:=fun b=>by simp [ZbN,tmz]
theorem ZBy:∀ (b:Bd),(ZbN b).take 8=ZbN b:=fun b=>List.take_of_length_le (by rw [bd_l];omega)
theorem ZBz:∀ (b:Bd),(ZbN b).drop 8=[]:=fun b=>List.drop_eq_nil_of_le (by rw [bd_l];omega)
theorem ZBA:∀ (b:Bd),(ZbN b).take 4=Zae b.var:=fun ⟨v,t⟩=>by cases v;simp [ZbN,Zae]
theorem ZBB:∀ (b:Bd),(ZbN b).drop 4=Zae b.to:=fun ⟨v,t⟩=>by cases v;simp [ZbN,Zae]
theorem ZBC:∀ (b:Bd),(ZbN b).drop 2=.lit (.int .i64 b.var.sort)::.sl (Zac b.var.args)::Zae b.to:=fun ⟨v,t⟩=>by cases v;simp [ZbN,Zae,Tm.sort,Tm.args]
theorem bd_o:∀ (b:Bd),valT TK.one (ZbN b)=some (A.d (D.one (C.lit (Value.int IntKind.i64 b.var.op)))):=fun ⟨v,t⟩=>by cases v;simp [ZbN,Zae,Tm.op,valT]
theorem bd_k:∀ (b:Bd),(ZbN b).all ZaC=true:=fun b=>by simp [ZbN,List.all_append,tmz]
theorem bdz:type_of% (ai bd_l (ai ZBy (ai ZBz (ai ZBA (ai ZBB (ai ZBC (ai bd_o bd_k))))))):=ai bd_l (ai ZBy (ai ZBz (ai ZBA (ai ZBB (ai ZBC (ai bd_o bd_k))))))
set_option maxRecDepth 100000 in
theorem Zpq (hok:Zdc g) (hl:Zge l) (hv:∀ y∈l,sizeTm y.var<=big) (ht:∀ y∈l,sizeTm y.to<=big):Con e0 64 [.agg (Zaw g),.one (.sl (ZbW l))] [.one (.lit (.bool (ZbB g && ZcS g l)))]:=by
 have cS:=Zi8 hok
 have bl:=Zfq l
 have bg:=Zfr l
 have hT:=fun y (hy:y∈l)=>ZeA hok (hl y hy).1 (hv y hy)
 have hO:=fun y (hy:y∈l)=>ZkQ hok (hl y hy).2 (ht y hy)
 have hC:=fun y z (hy:y∈l) (hz:z∈l)=>ZeN (hl y hy).1 (hl z hz).1
 rw [Zaw] at cS hT hO ⊢
 have bb:ZaV 8 (ZbW l)=true:=by
  refine List.all_eq_true.2 fun r hr=>?_
  obtain ⟨y,hy,rfl⟩:=List.mem_map.1 hr
  simp [ZbN,List.all_append,tmz]
 refine gI (ts:=[.slot 4]) 1152991873351303287 Tryz.func64 ?_
 (have F:=@tmz;have NN:Zai 1:=trivial;refine gGn ?_;clear F NN)
 refine gB ?_
 (have F:=@tmz;refine gC (cS) ?_;clear F)
 cases hs:ZbB g with
 | false =>
  (have F:=@tmz;refine gR ?_;clear F)
  (have F:=@tmz;refine gG ?_;exact gTd)
 | true =>
 rw [Bool.true_and]
 by_cases h8:l.length<=8
 rotate_left
 ·have q1:((8:Int) < (l.length:Int))=True:=eq_true om
  have hf:ZcS g l=false:=ZeS fun h=>h8 h.len
  rw [hf]
  (have F:=ai @bl (ai @q1 @tmz);refine gR ?_;clear F)
  (have F:=@tmz;refine gG ?_;exact gTd)
 have q1:((8:Int) < (l.length:Int))=False:=eq_false om
 (have F:=ai @bl (ai @q1 @tmz);refine gR ?_;clear F)
 (have F:=@tmz;refine gG ?_;clear F)
 (have F:=@tmz;refine gL (ι:=Nat) [4,5,6,18,46,60] [] (fun i=>[(5,A.d (.one (.lit (.int .i64 i))))]) (fun i=>[]) (fun i=>i<=l.length∧∀ (j:Nat) y,j < i->l[j]?=some y->SbsAt g l j y) (fun i=>l.length - i) (0) (⟨Nat.zero_le _,fun j y h=>absurd h om⟩) (fun i hi=>?_);clear F)
 obtain ⟨hi,hall⟩:=hi
 by_cases hil:i < l.length
 rotate_left
 ·obtain rfl:i=l.length:=by omega
  have q2:((l.length:Int) < (l.length:Int))=False:=eq_false om
  have hf:ZcS g l=true:=ZkJ ⟨h8,fun j y hj=>hall j y (List.getElem?_eq_some_iff.1 hj).1 hj⟩
  rw [hf]
  (have F:=ai @q2 (ai @bl @tmz);refine gG ?_;exact gTd)
 have q2:((i:Int) < (l.length:Int))=True:=eq_true om
 obtain ⟨y,hy⟩:∃ y,l[i]?=some y:=⟨_,List.getElem?_eq_getElem hil⟩
 have hym:=List.mem_of_getElem? hy
 have hbad:¬ SbsAt g l i y->ZcS g l=false:=fun h=>ZeS fun h'=>h (h'.at' i y hy)
 have cT:=hT y hym
 have cO:=hO y hym
 rw [hs,Bool.true_and] at cT
 (have F:=ai @q2 (ai @bl (ai @bb (ai @bg (ai @hy (ai @bdz (ai @Zau @tmz))))));have NN:Zai 7:=trivial;refine gGn ?_;clear F NN)
 by_cases hop:y.var.op=-1
 rotate_left
 ·have q3:(y.var.op=-1)=False:=eq_false hop
  have hf:=hbad fun h=>hop h.var.1
  rw [hf]
  (have F:=ai @q3 (ai @bdz @tmz);refine gG ?_;exact gTd)
 have q3:(y.var.op=-1)=True:=eq_true hop
 refine gB ?_
 (have F:=ai @q3 (ai @bdz @tmz);refine gC (cT) ?_;clear F)
 by_cases hTv:Zby g y.var=true
 rotate_left
 ·have hf:=hbad fun h=>hTv (ZeQ h.var.term)
  have hTv:Zby g y.var=false:=by simpa using hTv
  rw [hf,hTv]
  (have F:=ai @bdz @tmz;refine gR ?_;clear F)
  (have F:=@tmz;refine gG ?_;exact gTd)
 have hvo:=(ZcP.1 hTv).var hop
 have hg:=Zed.1 hs
 rw [hTv]
 (have F:=ai @bdz @tmz;refine gC (cO) ?_;clear F)
 obtain ⟨k,hk⟩:∃ k:Nat,y.var.sort=k:=⟨y.var.sort.toNat,by have:=hvo.2.2.1;omega⟩
 have hk8:k < 8:=by have:=hvo.2.2.2.1;have:=hg.sorts.n8;omega
 have hso:sortsOf g y.to < 4611686018427387904:=by
  unfold sortsOf
  split
  ·next h=>exact Zbq (ZdQ hg (ZcP.1 h.2).form.node) hg.sorts.n8
  ·omega
 have cH:=Ze4 (k:=k) hso om
 have hte:tbit (sortsOf g y.to) k=true ↔ TermOk g y.to∧(sortsTm g y.to).testBit y.var.sort.toNat=true:=by
  have e:y.var.sort.toNat=k:=by omega
  rw [tbit,e]
  unfold sortsOf
  by_cases h:Zby g y.to=true
  ·rw [if_pos ⟨hs,h⟩]
   exact ⟨fun h1=>⟨ZcP.1 h,h1⟩,fun h1=>h1.2⟩
  ·rw [if_neg fun h1=>h h1.2,Nat.zero_testBit]
   exact ⟨fun h1=>(by cases h1),fun h1=>absurd (ZeQ h1.1) h⟩
 rw [<- hk] at cH
 (have F:=ai @bdz @tmz;refine gC (cH) ?_;clear F)
 cases hb:tbit (sortsOf g y.to) k with
 | false =>
  have hf:=hbad fun h=>by rw [hte.2 ⟨h.to',h.srt⟩] at hb;cases hb
  rw [hf]
  (have F:=ai @bdz @tmz;refine gR ?_;clear F)
  (have F:=@tmz;refine gG ?_;exact gTd)
 | true =>
 obtain ⟨b1,b2⟩:=hte.1 hb
 (have F:=ai @bdz @tmz;refine gR ?_;clear F)
 have hwi:=Zav (k:=i) om
 have hnext:(∀ (j:Nat) p,i=j+1->l[j]?=some p->Zal p.var y.var < 0)->i+1<=l.length∧∀ (j:Nat) z,j < i+1->l[j]?=some z->SbsAt g l j z:=fun ho=>⟨hil,fun j z h1 h2=>by
  by_cases e:j=i
  ·subst e
   rw [hy] at h2
   injection h2 with h2
   subst h2
   exact ⟨hvo,ho,b1,b2⟩
  ·exact hall j z om h2⟩
 by_cases hi0:i=0
 ·subst hi0
  have q4:((0:Int) < ((0:Nat):Int))=False:=eq_false om
  (have F:=ai @q4 (ai @hwi (ai @bdz @tmz));refine gG ?_;exact ⟨0+1,hnext fun j p h=>absurd h om,gw,gw,by omega⟩)
 obtain ⟨j,rfl⟩:∃ j,i=j+1:=⟨i - 1,by omega⟩
 have q4:((0:Int) < ((j+1:Nat):Int))=True:=eq_true om
 obtain ⟨p,hp⟩:∃ p,l[j]?=some p:=⟨_,List.getElem?_eq_getElem om⟩
 have cC:=hC p y (List.mem_of_getElem? hp) hym
 have wj:IntKind.i64.wrap (((j+1:Nat):Int) - 1)=(j:Int):=ZaP om om om
 have i1:(j < l.length)=True:=eq_true om
 (have F:=@tmz;have NN:Zai 9:=trivial;refine gGn ?_;clear F NN)
 refine gB ?_
 (have F:=ai @q4 (ai @wj (ai @i1 (ai @bl (ai @bb (ai @bg (ai @hp (ai @bdz (ai @Zau @tmz))))))));refine gC (cC) ?_;clear F)
 by_cases hcm:Zal p.var y.var < 0
 ·have q5:((0:Int)<=Zal p.var y.var)=False:=eq_false om
  have hn2:=hnext fun j' p' h h1=>by
   obtain rfl:j=j':=by omega
   rw [hp] at h1
   injection h1 with h1
   subst h1
   exact hcm
  (have F:=ai @q5 (ai @bdz @tmz);refine gR ?_;clear F)
  (have F:=ai @hwi (ai @bdz @tmz);refine gG ?_;exact ⟨j+1+1,hn2,gw,gw,by omega⟩)
 ·have q5:((0:Int)<=Zal p.var y.var)=True:=eq_true om
  have hf:=hbad fun h=>hcm (h.ord j p rfl hp)
  rw [hf]
  (have F:=ai @q5 (ai @bdz @tmz);refine gR ?_;clear F)
  (have F:=@tmz;refine gG ?_;exact gTd)
end
theorem ZcF.eq_iff {g:Sgn} {a b:Tm} (ha:ZcF g a) (hb:ZcF g b):Zal a b=0 ↔ a.name=b.name∧a.sort=b.sort:=by
 rw [Zib]
 obtain ⟨h1,_,_,_,h2⟩:=ha
 obtain ⟨h3,_,_,_,h4⟩:=hb
 obtain ⟨o,n,s,l⟩:=a
 obtain ⟨o',n',s',l'⟩:=b
 simp only [Tm.op,Tm.args] at h1 h2 h3 h4
 subst h1 h2 h3 h4
 simp [Tm.name,Tm.sort]
section
variable {g:Sgn} {l:List Bd}
theorem Zs3:∀ (b:Bd),(ZbN b).drop 1=.lit (.string b.var.name)::.lit (.int .i64 b.var.sort)::.sl (Zac b.var.args)::Zae b.to:=fun ⟨v,t⟩=>by cases v;simp [ZbN,Zae,Tm.sort,Tm.args,Tm.name]
theorem bds8 (l:List Bd):ZaV 8 (ZbW l)=true:=by
 refine List.all_eq_true.2 fun r hr=>?_
 obtain ⟨y,hy,rfl⟩:=List.mem_map.1 hr
 simp [ZbN,List.all_append,tmz]
theorem Zmg {l:List Bd} {i:Nat} {y:Bd} (h:l[i]?=some y) (v:Tm):ZbQ (l.drop i) v=if Zal y.var v=0 then some y.to else ZbQ (l.drop (i+1)) v:=by
 obtain ⟨hi,rfl⟩:=List.getElem?_eq_some_iff.1 h
 rw [List.drop_eq_getElem_cons hi];rfl
set_option maxRecDepth 100000 in
theorem Zpr (hl:∀ y∈l,ZcF g y.var) (h8:l.length<=8) {v:Tm} (hv:ZcF g v):Con e0 117 [.one (.sl (ZbW l)),.agg (Zae v)] [.agg (Zae ((ZbQ l v).getD v)),.one (.lit (.bool (ZbQ l v).isSome))]:=by
 have bl:=Zfq l
 have bg:=Zfr l
 have bb:=bds8 l
 refine gI (ts:=[.cell 4 46,.slot 5]) 134221755 Tryz.func117 ?_
 (have F:=ai @bl @tmz;refine gG ?_;clear F)
 (have F:=@tmz;refine gL (ι:=Nat) [5,7,10,11,27] [] (fun i=>[(10,A.d (.one (.lit (.int .i64 i))))]) (fun i=>[]) (fun i=>i<=l.length∧ZbQ (l.drop i) v=ZbQ l v) (fun i=>l.length - i) (0) (⟨Nat.zero_le _,rfl⟩) (fun i hi=>?_);clear F)
 obtain ⟨hi,hlo⟩:=hi
 by_cases hil:i < l.length
 rotate_left
 ·obtain rfl:i=l.length:=by omega
  have q2:((l.length:Int) < (l.length:Int))=False:=eq_false om
  rw [List.drop_length] at hlo
  have e:ZbQ l v=none:=hlo.symm
  rw [e]
  have z1:(none:Option Tm).getD v=v:=rfl
  (have F:=ai @q2 (ai @z1 @tmz);refine gG ?_;exact gTd)
 have q2:((i:Int) < (l.length:Int))=True:=eq_true om
 obtain ⟨y,hy⟩:∃ y,l[i]?=some y:=⟨_,List.getElem?_eq_getElem hil⟩
 rw [Zmg hy] at hlo
 have hyv:=hl y (List.mem_of_getElem? hy)
 have hwi:=Zav (k:=i) om
 have he:=ZcF.eq_iff hyv hv
 by_cases h1:y.var.name=v.name
 rotate_left
 ·have q3:(y.var.name.toList==v.name.toList)=false:=beq_eq_false_iff_ne.2 fun h=>h1 (toList_inj h)
  rw [if_neg (fun h=>h1 (he.1 h).1)] at hlo
  (have F:=ai @q2 (ai @q3 (ai @hwi (ai @bl (ai @bb (ai @bg (ai @hy (ai @bdz (ai @Zs3 (ai @Zau @tmz)))))))));refine gG ?_;exact ⟨i+1,⟨hil,hlo⟩,gw,gw,by omega⟩)
 have q3:(y.var.name.toList==v.name.toList)=true:=by rw [h1];exact beq_self_eq_true _
 by_cases h2:y.var.sort=v.sort
 rotate_left
 ·have q4:(y.var.sort=v.sort)=False:=eq_false h2
  rw [if_neg (fun h=>h2 (he.1 h).2)] at hlo
  (have F:=ai @q2 (ai @q3 (ai @q4 (ai @hwi (ai @bl (ai @bb (ai @bg (ai @hy (ai @bdz (ai @Zs3 (ai @Zau @tmz))))))))));refine gG ?_;exact ⟨i+1,⟨hil,hlo⟩,gw,gw,by omega⟩)
 have q4:(y.var.sort=v.sort)=True:=eq_true h2
 rw [if_pos (he.2 ⟨h1,h2⟩)] at hlo
 rw [<- hlo]
 have z1:(some y.to).getD v=y.to:=rfl
 (have F:=ai @q2 (ai @q3 (ai @q4 (ai @z1 (ai @bl (ai @bb (ai @bg (ai @hy (ai @bdz (ai @Zs3 (ai @Zau @tmz))))))))));refine gG ?_;exact gTd)
set_option maxRecDepth 100000 in
theorem Zw7 (hl:Zge l) {v:Tm} (hv:okTm v) (h8:l.length<=1000):Con e0 76 [.one (.sl (ZbW l)),.agg (Zae v)] [.agg (Zae ((ZbQ l v).getD zTm)),.one (.lit (.bool (ZbQ l v).isSome))]:=by
 have bl:=Zfq l
 have bg:=Zfr l
 have bb:=bds8 l
 have hz:=ZiN
 refine gI (ts:=[.cell 4 46,.slot 5]) 525435 Tryz.func76 ?_
 (have F:=ai @bl @tmz;refine gG ?_;clear F)
 (have F:=@tmz;refine gL (ι:=Nat) [5,6,10,19] [] (fun i=>[(6,A.d (.one (.lit (.int .i64 i))))]) (fun i=>[]) (fun i=>i<=l.length∧ZbQ (l.drop i) v=ZbQ l v) (fun i=>l.length - i) (0) (⟨Nat.zero_le _,rfl⟩) (fun i hi=>?_);clear F)
 obtain ⟨hi,hlo⟩:=hi
 by_cases hil:i < l.length
 rotate_left
 ·obtain rfl:i=l.length:=by omega
  have q2:((l.length:Int) < (l.length:Int))=False:=eq_false om
  rw [List.drop_length] at hlo
  have e:ZbQ l v=none:=hlo.symm
  rw [e]
  have z1:(none:Option Tm).getD zTm=zTm:=rfl
  (have F:=ai @q2 (ai @z1 (ai @hz (ai @bl @tmz)));refine gG ?_;exact gTd)
 have q2:((i:Int) < (l.length:Int))=True:=eq_true om
 obtain ⟨y,hy⟩:∃ y,l[i]?=some y:=⟨_,List.getElem?_eq_getElem hil⟩
 rw [Zmg hy] at hlo
 have hwi:=Zav (k:=i) om
 have cS:=Zhd (hl y (List.mem_of_getElem? hy)).1 hv
 (have F:=ai @q2 (ai @bl @tmz);have NN:Zai 4:=trivial;refine gGn ?_;clear F NN)
 refine gB ?_
 (have F:=ai @bl (ai @bb (ai @bg (ai @hy (ai @bdz (ai @Zau @tmz)))));refine gC (cS) ?_;clear F)
 by_cases h1:Zal y.var v=0
 rotate_left
 ·have q3:decide (Zal y.var v=0)=false:=decide_eq_false h1
  rw [if_neg h1] at hlo
  rw [q3]
  (have F:=@tmz;refine gR ?_;clear F)
  (have F:=ai @hwi (ai @bdz @tmz);refine gG ?_;exact ⟨i+1,⟨hil,hlo⟩,gw,gw,by omega⟩)
 have q3:decide (Zal y.var v=0)=true:=decide_eq_true h1
 rw [if_pos h1] at hlo
 rw [q3,<- hlo]
 have z1:(some y.to).getD zTm=y.to:=rfl
 (have F:=@tmz;refine gR ?_;clear F)
 (have F:=ai @z1 (ai @bl (ai @bb (ai @bg (ai @hy (ai @bdz (ai @Zau @tmz))))));refine gG ?_;exact gTd)
theorem SbsOk.okB (hg:SgnOk g) (h:SbsOk g l):Zge l:=fun y hy=>⟨ZaO.ok hg _ _ (Nat.lt_succ_self _) (h.var y hy).term.form,ZaO.ok hg _ _ (Nat.lt_succ_self _) (h.to' y hy).form⟩
noncomputable def ap6 (g:Sgn) (l:List Bd) (t:Tm):Tm:=if t.op=-1 then (ZbQ l t).getD t else match apTs g l t.args with
 | none=>zTm
 | some us=>match g.ops[t.op.toNat]? with
  | none=>zTm
  | some o=>match o.decls[0]? with
   | none=>zTm
   | some d=>mk6 g o d t.op us
theorem ZrT {t:Tm} (h:t.op=-1):ap6 g l t=(ZbQ l t).getD t:=by unfold ap6;rw [if_pos h]
theorem Zyl {t:Tm} (h:t.op≠-1) (hn:apTs g l t.args=none):ap6 g l t=zTm:=by unfold ap6;rw [if_neg h,hn]
theorem ZCu {t:Tm} {us:List Tm} {o:Opr} {d:Dcl} (h:t.op≠-1) (hu:apTs g l t.args=some us) (ho:g.ops[t.op.toNat]?=some o) (hd:o.decls[0]?=some d):ap6 g l t=mk6 g o d t.op us:=by
 unfold ap6
 rw [if_neg h,hu]
 simp only [ho,hd]
theorem Zov {t u:Tm} (h:apT g l t=some u):ap6 g l t=u:=by
 by_cases ho:t.op=-1
 ·rw [ZiJ ho,Option.some.injEq] at h
  rw [ZrT ho,h]
 ·rw [Zfx ho] at h
  unfold ap6
  rw [if_neg ho]
  cases h1:apTs g l t.args with
  | none=>rw [h1] at h;cases h
  | some us =>
   rw [h1,Option.bind_some] at h
   unfold mkT at h
   cases h2:g.ops[t.op.toNat]? with
   | none=>rw [h2] at h;cases h
   | some o =>
    rw [h2] at h
    simp only at h ⊢
    cases h3:o.decls[0]? with
    | none=>rw [h3] at h;cases h
    | some d =>
     rw [h3] at h
     simp only at h ⊢
     unfold mk6
     rw [h];rfl
set_option maxRecDepth 100000 in
theorem ZDx {mc:C} (hg:SgnOk g) (hS:SbsOk g l):∀ (n:Nat) {t:Tm},sizeTm t < n->TermOk g t->Con e0 61 [.one (.ptr (encX g mc)),.one (.sl (ZbW l)),.agg (Zae t)] [.agg (Zae ((apT g l t).getD zTm)),.one (.lit (.bool (apT g l t).isSome))]:=by
 intro n
 induction n with
 | zero=>exact fun {t} h _=>absurd h om
 | succ n IH =>
 intro t hsz ht
 have hz:=ZiN
 have h60:=Zn6 ht
 by_cases hop:t.op=-1
 ·have hv:=ht.var hop
  have q1:(t.op < 0)=True:=eq_true om
  have cB:=Zpr hS.var hS.len hv
  have z1:(some ((ZbQ l t).getD t)).getD zTm=(ZbQ l t).getD t:=rfl
  have z2:(some ((ZbQ l t).getD t)).isSome=true:=rfl
  rw [ZiJ hop]
  refine gI (ts:=[.cell 6 46,.slot 7]) 2201036682727 Tryz.func61 ?_
  (have F:=ai @q1 @tmz;have NN:Zai 2:=trivial;refine gGn ?_;clear F NN)
  refine gB ?_
  (have F:=@tmz;refine gC (cB) ?_;clear F)
  (have F:=@tmz;refine gR ?_;clear F)
  (have F:=ai @z1 (ai @z2 @tmz);refine gG ?_;exact gTd)
 obtain ⟨o,d,hA⟩:=ht.form.node.resolve_left (fun hv=>hop hv.1)
 have q1:(t.op < 0)=False:=eq_false (by have:=hA.lo;omega)
 have cB:=fun us h1 h2=>ZwP (mc:=mc) hg hA.lo hA.at' hA.fst us h1 h2
 refine gI (ts:=[.cell 6 46,.slot 7]) 2201036682727 Tryz.func61 ?_
 (have F:=ai @q1 @tmz;refine gG ?_;clear F)
 (have F:=ai @Zdf @tmz;refine gL (ι:=Nat × List Tm) [7,10,12,13,14,29,30,41] [10] (fun x=>[(29,A.d (.one (.lit (.int .i64 x.1)))),(10,.buf 10)]) (fun x=>[(10,.buf none 46 4 (Zac x.2))]) (fun x=>x.1<=t.args.length∧apTs g l (t.args.take x.1)=some x.2) (fun x=>t.args.length - x.1) ((0,[])) (⟨Nat.zero_le _,rfl⟩) (fun x hx=>?_);clear F)
 obtain ⟨i,us⟩:=x
 obtain ⟨hi,hus⟩:=hx
 simp only at hi hus
 dsimp only
 have hul:=ZjG hus
 rw [List.length_take_of_le hi] at hul
 have nl:=Zad us
 have nr:ZaV 4 (Zac us)=true:=Zfm _
 by_cases hil:i < t.args.length
 rotate_left
 ·obtain rfl:i=t.args.length:=by omega
  have q2:((t.args.length:Int) < (t.args.length:Int))=False:=eq_false om
  rw [List.take_length] at hus
  have e:apT g l t=mkO g o d t.op us:=by rw [Zfx hop,hus];exact ZwJ hA.at' hA.fst us
  have cB:=cB us (fun u hu=>by
   obtain ⟨a,ha,hau⟩:=Zhm hus u hu
   exact Zil hg hS.to' _ a (Nat.lt_succ_self _) (ht.arg ha) hau) om
  rw [e]
  (have F:=ai @q2 @tmz;have NN:Zai 13:=trivial;refine gGn ?_;clear F NN)
  refine gB ?_
  (have F:=@tmz;refine gC (cB) ?_;clear F)
  (have F:=@tmz;refine gR ?_;clear F)
  (have F:=@tmz;refine gG ?_;exact gTd)
 have q2:((i:Int) < (t.args.length:Int))=True:=eq_true om
 obtain ⟨a,ha⟩:∃ a,t.args[i]?=some a:=⟨_,List.getElem?_eq_getElem hil⟩
 have ham:=List.mem_of_getElem? ha
 have hs1:=Za7 t
 have hs2:=Zbi ham
 have cA:=IH (t:=a) om (ht.arg ham)
 have hwi:=Zav (k:=i) om
 have hmx:(us.length+1<=maxApp)=True:=eq_true (by unfold maxApp;omega)
 have hsn:apTs g l (t.args.take (i+1))=(apT g l a).map fun u=>us++[u]:=by rw [Zb0 ha,Zij,hus];rfl
 (have F:=ai @q2 (ai @ha (ai @Zau @tmz));have NN:Zai 8:=trivial;refine gGn ?_;clear F NN)
 refine gB ?_
 (have F:=ai @ha (ai @Zau @tmz);refine gC (cA) ?_;clear F)
 (have F:=@tmz;refine gR ?_;clear F)
 cases hu:apT g l a with
 | none =>
  have z3:(none:Option Tm).isSome=false:=rfl
  have z5:(none:Option Tm).getD zTm=zTm:=rfl
  have e:apTs g l t.args=none:=Zik ham hu
  have e2:apT g l t=none:=by rw [Zfx hop,e];rfl
  rw [e2]
  (have F:=ai @z3 (ai @z5 (ai @hz @tmz));refine gG ?_;exact gTd)
 | some u =>
  have z3:(some u).isSome=true:=rfl
  have z5:(some u).getD zTm=u:=rfl
  rw [hu] at hsn
  have ns:Zac us++[Zae u]=Zac (us++[u]):=by simp [ZbC]

  (have F:=ai @z3 (ai @z5 (ai @nl (ai @nr (ai @ns (ai @hmx (ai @hwi @tmz))))));refine gG ?_;exact ⟨(i+1,us++[u]),⟨hil,hsn⟩,gw,gw,by omega⟩)
set_option maxRecDepth 100000 in
theorem Zps (hokg:Zdc g) (hg:SgnOk g) (hS:SbsOk g l):∀ (n:Nat) {t:Tm},sizeTm t < n->TermOk g t->Con e0 65 [.agg (Zaw g),.one (.sl (ZbW l)),.agg (Zae t)] [.agg (Zae (ap6 g l t)),.one (.lit (.bool (apT g l t).isSome))]:=by
 intro n
 induction n with
 | zero=>exact fun {t} h _=>absurd h om
 | succ n IH =>
 intro t hsz ht
 have hz:=ZiN
 have h60:=Zn6 ht
 have hok2:=ZaO.ok hg _ t (Nat.lt_succ_self _) ht.form
 have hokB:Zge l:=SbsOk.okB hg hS
 by_cases hop:t.op=-1
 ·have q1:(t.op=-1)=True:=eq_true hop
  have cB:=Zw7 hokB hok2 (by have:=hS.len;omega)
  have z2:(some ((ZbQ l t).getD t)).isSome=true:=rfl
  rw [ZrT hop,ZiJ hop]
  rw [Zaw] at *
  refine gI (ts:=[.cell 6 46,.slot 7]) 70370900131823 Tryz.func65 ?_
  (have F:=ai @q1 @tmz;have NN:Zai 2:=trivial;refine gGn ?_;clear F NN)
  refine gB ?_
  (have F:=@tmz;refine gC (cB) ?_;clear F)
  (have F:=@tmz;refine gR ?_;clear F)
  cases hk:ZbQ l t with
  | none =>
   have z1:(none:Option Tm).getD t=t:=rfl
   have z3:(none:Option Tm).isSome=false:=rfl
   rw [hk] at z2
   (have F:=ai @z1 (ai @z2 (ai @z3 @tmz));refine gG ?_;exact gTd)
  | some u =>
   have z1:(some u).getD t=u:=rfl
   have z3:(some u).isSome=true:=rfl
   have z4:(some u).getD zTm=u:=rfl
   rw [hk] at z2
   (have F:=ai @z1 (ai @z2 (ai @z3 (ai @z4 @tmz)));refine gG ?_;exact gTd)
 obtain ⟨o,d,hA⟩:=ht.form.node.resolve_left (fun hv=>hop hv.1)
 have q1:(t.op=-1)=False:=eq_false hop
 have cB:=fun us h1 h2=>ZsY hokg hg hA.lo hA.at' hA.fst us h1 h2
 rw [Zaw] at *
 refine gI (ts:=[.cell 6 46,.slot 7]) 70370900131823 Tryz.func65 ?_
 (have F:=ai @q1 @tmz;refine gG ?_;clear F)
 (have F:=ai @Zdf @tmz;refine gL (ι:=Nat × List Tm) [7,10,11,12,13,31,46] [10] (fun x=>[(11,A.d (.one (.lit (.int .i64 x.1)))),(10,.buf 10)]) (fun x=>[(10,.buf none 46 4 (Zac x.2))]) (fun x=>x.1<=t.args.length∧apTs g l (t.args.take x.1)=some x.2) (fun x=>t.args.length - x.1) ((0,[])) (⟨Nat.zero_le _,rfl⟩) (fun x hx=>?_);clear F)
 obtain ⟨i,us⟩:=x
 obtain ⟨hi,hus⟩:=hx
 simp only at hi hus
 dsimp only
 have hul:=ZjG hus
 rw [List.length_take_of_le hi] at hul
 have nl:=Zad us
 have nr:ZaV 4 (Zac us)=true:=Zfm _
 by_cases hil:i < t.args.length
 rotate_left
 ·obtain rfl:i=t.args.length:=by omega
  have q2:((t.args.length:Int) < (t.args.length:Int))=False:=eq_false om
  rw [List.take_length] at hus
  have e:apT g l t=mkO g o d t.op us:=by rw [Zfx hop,hus];exact ZwJ hA.at' hA.fst us
  have cB:=cB us (fun u hu=>by
   obtain ⟨a,ha,hau⟩:=Zhm hus u hu
   exact Zil hg hS.to' _ a (Nat.lt_succ_self _) (ht.arg ha) hau) om
  rw [e,ZCu hop hus hA.at' hA.fst]
  (have F:=ai @q2 @tmz;have NN:Zai 14:=trivial;refine gGn ?_;clear F NN)
  refine gB ?_
  (have F:=@tmz;refine gC (cB) ?_;clear F)
  (have F:=@tmz;refine gR ?_;clear F)
  (have F:=@tmz;refine gG ?_;exact gTd)
 have q2:((i:Int) < (t.args.length:Int))=True:=eq_true om
 obtain ⟨a,ha⟩:∃ a,t.args[i]?=some a:=⟨_,List.getElem?_eq_getElem hil⟩
 have ham:=List.mem_of_getElem? ha
 have hs1:=Za7 t
 have hs2:=Zbi ham
 have cA:=IH (t:=a) om (ht.arg ham)
 have hwi:=Zav (k:=i) om
 have hmx:(us.length+1<=maxApp)=True:=eq_true (by unfold maxApp;omega)
 have hsn:apTs g l (t.args.take (i+1))=(apT g l a).map fun u=>us++[u]:=by rw [Zb0 ha,Zij,hus];rfl
 (have F:=ai @q2 (ai @ha (ai @Zau @tmz));have NN:Zai 10:=trivial;refine gGn ?_;clear F NN)
 refine gLt 11 10 12 ?_
 (have F:=ai @ha (ai @Zau @tmz);refine gC (cA) ?_;clear F)
 (have F:=@tmz;refine gR ?_;clear F)
 cases hu:apT g l a with
 | none =>
  have z3:(none:Option Tm).isSome=false:=rfl
  have z5:(none:Option Tm).getD zTm=zTm:=rfl
  have e:apTs g l t.args=none:=Zik ham hu
  have e2:apT g l t=none:=by rw [Zfx hop,e];rfl
  rw [e2,Zyl hop e]
  (have F:=ai @z3 (ai @z5 (ai @hz @tmz));refine gG ?_;exact gTd)
 | some u =>
  have z3:(some u).isSome=true:=rfl
  have z5:ap6 g l a=u:=Zov hu
  rw [hu] at hsn
  have ns:Zac us++[Zae u]=Zac (us++[u]):=by simp [ZbC]
  rw [z5]
  (have F:=ai @z3 (ai @z5 (ai @nl (ai @nr (ai @ns (ai @hmx (ai @hwi @tmz))))));refine gG ?_;exact ⟨(i+1,us++[u]),⟨hil,hsn⟩,gw,gw,by omega⟩)
end
section
variable {g:Sgn} {b:Nat}
def ZBD (g:Sgn) (b:Nat) (w:World):Prop:=(∀ c,c=b->¬ e0.E c)∧∃ M,Memo g M∧MapL w b M
noncomputable def eM (g:Sgn) (b:Nat):Env:=e0.plus (fun c=>c=b) (ZBD g b)
theorem eMP:∀ (g:Sgn) (b:Nat),(eM g b).P=Tryz.prog:=fun _ _=>rfl
theorem Zcz:Fits e0 (fun c=>c=b) (ZBD g b):=⟨fun w w' hz hE ⟨h1,M,h2,h3⟩=>⟨h1,M,h2,MapL.stable b M w w' hz hE h3⟩,fun w h=>h.1⟩
theorem ZDt:(eM g b).Ok:=Zcz.ok ZdJ
theorem Con.m {f:FuncId} {args r:List D} (h:Con e0 f args r):Con (eM g b) f args r:=Con.up Zcz h
theorem ConE.m {f:FuncId} {args:List D} {R:List D->Prop} (h:ConE e0 f args R):ConE (eM g b) f args R:=ConE.up Zcz h
theorem ConR.m {f:FuncId} {args:List D} {ty sz:Nat} {rows:List (List C)} (h:ConR e0 f args ty sz rows):ConR (eM g b) f args ty sz rows:=ConR.up Zcz h
theorem ConI.m {f:FuncId} {ty sz:Nat} {rows rows':List (List C)} {args r:List D} (h:ConI e0 f ty sz rows args rows' r):ConI (eM g b) f ty sz rows args rows' r:=ConI.up Zcz h
theorem ConT.m {f:FuncId} {ty sz:Nat} {rows rows':List (List C)} {args:List D} (h:ConT e0 f ty sz rows args rows'):ConT (eM g b) f ty sz rows args rows':=ConT.up Zcz h
theorem ConP.m {f:FuncId} {args:List D} {pm:List Bk} {R:List D->List Bk->Prop} (h:ConP e0 f args pm R):ConP (eM g b) f args pm R:=ConP.up Zcz h
theorem ConP.imp {e:Env} {f:FuncId} {args:List D} {pm:List Bk} {R R':List D->List Bk->Prop} (h:ConP e f args pm R) (hR:∀ r pm,R r pm->R' r pm):ConP e f args pm R' :=
 ⟨h.1,fun w S vs hS hE hG hpm hap hvs=>(h.2 w S vs hS hE hG hpm hap hvs).mono fun en w' ⟨v,r,pm',h1,hr,hk⟩=>⟨v,r,pm',h1,hR r pm' hr,hk⟩⟩
theorem ZkR (hg:SgnOk g) {t:Tm} (hs:sizeTm t<=60) (hf:ZaO g t):Con (eM g b) 116 [.one (.ptr (encX g (.lit (.map (some b))))),.agg (Zae t)] [.one (.lit (.int .i64 (sortsTm g t:Nat)))] :=
 Zym (ι:=List (ByteArray × Value)) (G:=fun M w=>MapL w b M) (ok:=Memo g) Zcz (MapL.stable b) (fun w h=>h.2) (fun w M h1 h2 h3=>⟨h1,M,h2,h3⟩) (Ziu hg b _ (Nat.lt_succ_self _) hs hf [] Memo.nil).1
  fun M hM=>(Ziu hg b _ (Nat.lt_succ_self _) hs hf M hM).imp fun r pm ⟨M',h1,h2,h3,_⟩=>⟨h1,M',h3,h2⟩
theorem pM {mask:Nat} {c:Code} {s:List (Nat × A)} {m m2:List (Nat × Bk)} {Q:PX->St->Prop} (g:Sgn) (b k:Nat) (hK:pwp (eM g b) mask c ⟨s,m2⟩ Q) (hm:gm m k=some (mapB b []):=by exact snx) (hr:remM k m=m2:=by exact snv):pwp e0 mask c ⟨s,m⟩ Q:=by
 subst hr
 exact ZCv k Zcz.st hm (fun hd=>⟨Zcz,fun w h=>⟨hd,[],Memo.nil,h⟩⟩) fun _=>hK
theorem gXm {K:St->Prop} {ds:List (Option Nat)} {os:List Oper} {d t ty:Nat} {p:String} {ed:Array Edge} {parts:List (Nat × Operand)} {s:List (Nat × A)} {m:List (Nat × Bk)} {cs cs':List C} (hK:Runs (eM g b) ds 0 os ⟨(d,.d (.agg cs'))::s,m⟩ K)
  (hz:ZcM e0.P t=some cs:=by exact sny) (hst:ZaM e0.P t=true:=by simp only [pz,↓reduceIte,Nat.reduceEqDiff,Nat.reduceAdd,Nat.reduceSub,Nat.reduceMul,Nat.reduceLeDiff,Nat.reduceBEq,Bool.false_eq_true,decide_true,decide_false,Int.reduceLE,Int.reduceToNat,Int.reduceLT,Int.reduceEq,eq_self,Nat.reduceShiftRight,Nat.reduceAnd,Nat.reduceBneDiff]) (hok:cs.all ZaC=true:=by first | rfl | simp only [pz,↓reduceIte,Nat.reduceEqDiff,Nat.reduceAdd,Nat.reduceSub,Nat.reduceMul,Nat.reduceLeDiff,Nat.reduceBEq,Bool.false_eq_true,decide_true,decide_false,Int.reduceLE,Int.reduceToNat,Int.reduceLT,Int.reduceEq,eq_self,Nat.reduceShiftRight,Nat.reduceAnd,Nat.reduceBneDiff]) (hf:ZcK e0.P t cs (parts.map fun p=>(p.1,evA s p.2))=some cs':=by exact sfv):Runs (eM g b) ds 0 (⟨some d,.build t parts.toArray,ty,p,ed,none⟩::os) ⟨s,m⟩ K:=gX hK hz hst hok hf
theorem ZrU (a k:Nat):(a &&& 2 ^ k=0) ↔ a.testBit k=false:=by
 constructor
 ·intro h
  have:=congrArg (fun x=>x.testBit k) h
  simpa [Nat.testBit_and,Nat.testBit_two_pow] using this
 ·intro h
  refine Nat.eq_of_testBit_eq fun i=>?_
  rw [Nat.testBit_and,Nat.testBit_two_pow,Nat.zero_testBit]
  by_cases e:k=i
  ·subst e;rw [h];rfl
  ·simp [e]
theorem tmM:type_of% (ai @tmz (ai @eMP @ZaY)):=ai @tmz (ai @eMP @ZaY)
end
section
variable {g:Sgn} {l:List Bd} {b:Nat}
set_option maxRecDepth 100000 in
theorem ZDy (hg:SgnOk g) (hl:Zge l) (ht:∀ y∈l,sizeTm y.to<=big):Con (eM g b) 60 [.one (.ptr (encX g (.lit (.map (some b))))),.one (.sl (ZbW l))] [.one (.lit (.bool (ZcS g l)))]:=by
 have heM:=ZDt (g:=g) (b:=b)
 have bl:=Zfq l
 have bg:=Zfr l
 have hV:=fun y (hy:y∈l)=>(ZgF (mc:=.lit (.map (some b))) hg (t:=y.var) (by have:=(hl y hy).1;revert this;cases y.var;simp only [okTm,Tm.name];exact fun h=>h.2.1)).m (g:=g) (b:=b)
 have hT:=fun y (hy:y∈l)=>(Zo7 (mc:=.lit (.map (some b))) hg (hl y hy).2 (ht y hy)).m (g:=g) (b:=b)
 have hC:=fun y z (hy:y∈l) (hz:z∈l)=>(Zi5 (hl y hy).1 (hl z hz).1).m (g:=g) (b:=b)
 have bb:ZaV 8 (ZbW l)=true:=by
  refine List.all_eq_true.2 fun r hr=>?_
  obtain ⟨y,hy,rfl⟩:=List.mem_map.1 hr
  simp [ZbN,List.all_append,tmz]
 by_cases h8:l.length<=8
 rotate_left
 ·have q1:((8:Int) < (l.length:Int))=True:=eq_true om
  have hf:ZcS g l=false:=ZeS fun h=>h8 h.len
  rw [hf]
  refine gI (ts:=[.slot 4]) 72057594037943923 Tryz.func60 ?_
  (have F:=ai @q1 (ai @bl @tmM);refine gG ?_;exact gTd)
 have q1:((8:Int) < (l.length:Int))=False:=eq_false om
 refine gI (ts:=[.slot 4]) 72057594037943923 Tryz.func60 ?_
 (have F:=ai @q1 (ai @bl @tmM);refine gG ?_;clear F)
 (have F:=@tmM;refine gL (ι:=Nat) [4,5,6,12,13,56] [] (fun i=>[(12,A.d (.one (.lit (.int .i64 i))))]) (fun i=>[]) (fun i=>i<=l.length∧∀ (j:Nat) y,j < i->l[j]?=some y->SbsAt g l j y) (fun i=>l.length - i) (0) (⟨Nat.zero_le _,fun j y h=>absurd h om⟩) (fun i hi=>?_);clear F)
 obtain ⟨hi,hall⟩:=hi
 by_cases hil:i < l.length
 rotate_left
 ·obtain rfl:i=l.length:=by omega
  have q2:((l.length:Int) < (l.length:Int))=False:=eq_false om
  have hf:ZcS g l=true:=ZkJ ⟨h8,fun j y hj=>hall j y (List.getElem?_eq_some_iff.1 hj).1 hj⟩
  rw [hf]
  (have F:=ai @q2 (ai @bl @tmM);refine gG ?_;exact gTd)
 have q2:((i:Int) < (l.length:Int))=True:=eq_true om
 obtain ⟨y,hy⟩:∃ y,l[i]?=some y:=⟨_,List.getElem?_eq_getElem hil⟩
 have hym:=List.mem_of_getElem? hy
 have hbad:¬ SbsAt g l i y->ZcS g l=false:=fun h=>ZeS fun h'=>h (h'.at' i y hy)
 have cV:=hV y hym
 (have F:=ai @q2 (ai @bl (ai @bb (ai @bg (ai @hy (ai @bdz (ai @Zau @tmM))))));have NN:Zai 6:=trivial;refine gGn ?_;clear F NN)
 refine gB ?_
 (have F:=ai @bdz @tmM;refine gC (cV) ?_;clear F)
 by_cases hvo:ZcF g y.var
 rotate_left
 ·have hVf:Zem g y.var=false:=by simp [Zem,hvo]
  have hf:=hbad fun h=>hvo h.var
  rw [hVf,hf]
  (have F:=ai @bdz @tmM;refine gR ?_;clear F)
  (have F:=@tmM;refine gG ?_;exact gTd)
 have hVt:Zem g y.var=true:=by simp [Zem,hvo]
 rw [hVt]
 obtain ⟨k,hk⟩:∃ k:Nat,y.var.sort=k:=⟨y.var.sort.toNat,by have:=hvo.2.2.1;omega⟩
 have hk8:k < 8:=by have:=hvo.2.2.2.1;have:=hg.sorts.n8;omega
 have hkt:y.var.sort.toNat=k:=by omega
 have hsh:=Zfn (k:=k) om
 have hwi:=Zav (k:=i) om
 have cT:=hT y hym
 have hnext:TermOk g y.to->(sortsTm g y.to).testBit k=true->(∀ (j:Nat) p,i=j+1->l[j]?=some p->Zal p.var y.var < 0)->i+1<=l.length∧∀ (j:Nat) z,j < i+1->l[j]?=some z->SbsAt g l j z:=fun b1 b2 ho=>⟨hil,fun j z h1 h2=>by
  by_cases e:j=i
  ·subst e
   rw [hy] at h2
   injection h2 with h2
   subst h2
   exact ⟨hvo,ho,b1,by rw [hkt];exact b2⟩
  ·exact hall j z om h2⟩
 by_cases hi0:i=0
 ·subst hi0
  have q4:((0:Int) < ((0:Nat):Int))=False:=eq_false om
  have hord:∀ (j:Nat) p,0=j+1->l[j]?=some p->Zal p.var y.var < 0:=fun j p h=>absurd h om
  (have F:=ai @q4 (ai @bdz (ai @Zau @tmM));refine gC (cT) ?_;clear F)
  cases hb:Zby g y.to with
  | false =>
   have hf:=hbad fun h=>by rw [ZeQ h.to'] at hb;cases hb
   rw [hf]
   (have F:=ai @bdz @tmM;refine gR ?_;clear F)
   (have F:=@tmM;refine gG ?_;exact gTd)
  | true =>
  have hto:=ZcP.1 hb
  have hso:=Zbq (ZdQ hg hto.form.node) hg.sorts.n8
  have hba:=Zdd hso (show 2 ^ k < 4611686018427387904 from Nat.lt_of_lt_of_le (Nat.pow_lt_pow_right om hk8) (by decide))
  have hbp:=ZrU (sortsTm g y.to) k
  have cO:=ZkR (b:=b) hg hto.size hto.form
  (have F:=ai @bdz @tmM;refine gC (cO) ?_;clear F)
  cases hbt:(sortsTm g y.to).testBit k with
  | false =>
   have q6:(((sortsTm g y.to &&& 2 ^ k:Nat):Int)=0)=True:=eq_true (by rw [hbp.2 hbt];rfl)
   have hf:=hbad fun h=>by rw [<- hkt,h.srt] at hbt;cases hbt
   rw [hf]
   generalize 2 ^ k=K at *
   (have F:=ai @hk (ai @hsh (ai @hba (ai @q6 (ai @bdz @tmM))));refine gR ?_;clear F)
   (have F:=@tmM;refine gG ?_;exact gTd)
  | true =>
   have q6:(((sortsTm g y.to &&& 2 ^ k:Nat):Int)=0)=False:=eq_false (fun h=>by rw [hbp.1 om] at hbt;cases hbt)
   have hn2:=hnext hto hbt hord
   generalize 2 ^ k=K at *
   (have F:=ai @hk (ai @hsh (ai @hba (ai @q6 (ai @bdz @tmM))));refine gR ?_;clear F)
   (have F:=ai @hwi (ai @bdz @tmM);refine gG ?_;exact ⟨0+1,hn2,gw,gw,by omega⟩)
 obtain ⟨j,rfl⟩:∃ j,i=j+1:=⟨i - 1,by omega⟩
 have q4:((0:Int) < ((j+1:Nat):Int))=True:=eq_true om
 obtain ⟨p,hp⟩:∃ p,l[j]?=some p:=⟨_,List.getElem?_eq_getElem om⟩
 have cC:=hC p y (List.mem_of_getElem? hp) hym
 have wj:IntKind.i64.wrap (((j+1:Nat):Int) - 1)=(j:Int):=ZaP om om om
 have i1:(j < l.length)=True:=eq_true om
 (have F:=ai @q4 (ai @wj (ai @i1 (ai @bl (ai @bb (ai @bg (ai @hp (ai @bdz (ai @Zau @tmM))))))));refine gC (cC) ?_;clear F)
 by_cases hcm:Zal p.var y.var < 0
 rotate_left
 ·have q5:((0:Int)<=Zal p.var y.var)=True:=eq_true om
  have hf:=hbad fun h=>hcm (h.ord j p rfl hp)
  rw [hf]
  (have F:=ai @q5 (ai @bdz @tmM);refine gR ?_;clear F)
  (have F:=@tmM;refine gG ?_;exact gTd)
 have q5:((0:Int)<=Zal p.var y.var)=False:=eq_false om
 have hord:∀ (j':Nat) p',j+1=j'+1->l[j']?=some p'->Zal p'.var y.var < 0:=fun j' p' h h1=>by
  obtain rfl:j=j':=by omega
  rw [hp] at h1
  injection h1 with h1
  subst h1
  exact hcm
 (have F:=ai @q5 (ai @bdz (ai @Zau @tmM));refine gC (cT) ?_;clear F)
 cases hb:Zby g y.to with
 | false =>
  have hf:=hbad fun h=>by rw [ZeQ h.to'] at hb;cases hb
  rw [hf]
  (have F:=ai @bdz @tmM;refine gR ?_;clear F)
  (have F:=@tmM;refine gG ?_;exact gTd)
 | true =>
 have hto:=ZcP.1 hb
 have hso:=Zbq (ZdQ hg hto.form.node) hg.sorts.n8
 have hba:=Zdd hso (show 2 ^ k < 4611686018427387904 from Nat.lt_of_lt_of_le (Nat.pow_lt_pow_right om hk8) (by decide))
 have hbp:=ZrU (sortsTm g y.to) k
 have cO:=ZkR (b:=b) hg hto.size hto.form
 (have F:=ai @bdz @tmM;refine gC (cO) ?_;clear F)
 cases hbt:(sortsTm g y.to).testBit k with
 | false =>
  have q6:(((sortsTm g y.to &&& 2 ^ k:Nat):Int)=0)=True:=eq_true (by rw [hbp.2 hbt];rfl)
  have hf:=hbad fun h=>by rw [<- hkt,h.srt] at hbt;cases hbt
  rw [hf]
  generalize 2 ^ k=K at *
  (have F:=ai @hk (ai @hsh (ai @hba (ai @q6 (ai @bdz @tmM))));refine gR ?_;clear F)
  (have F:=@tmM;refine gG ?_;exact gTd)
 | true =>
  have q6:(((sortsTm g y.to &&& 2 ^ k:Nat):Int)=0)=False:=eq_false (fun h=>by rw [hbp.1 om] at hbt;cases hbt)
  have hn2:=hnext hto hbt hord
  generalize 2 ^ k=K at *
  (have F:=ai @hk (ai @hsh (ai @hba (ai @q6 (ai @bdz @tmM))));refine gR ?_;clear F)
  (have F:=ai @hwi (ai @bdz @tmM);refine gG ?_;exact ⟨j+1+1,hn2,gw,gw,by omega⟩)
end
section
variable {g:Sgn} {l:List Bd}
theorem Zw8 (hb:l.length+Zag (ZbW l)<=1048576):∀ y∈l,Zak (Zae y.var)<=1048576∧Zak (Zae y.to)<=1048576:=fun y hy=>by
 have h1:=Ziv (List.mem_map_of_mem (f:=ZbN) hy)
 have h2:Zak (ZbN y)=Zak (Zae y.var)+Zak (Zae y.to):=Zyn _ _
 have h3:Zag (l.map ZbN)=Zag (ZbW l):=rfl
 omega
theorem ZCw {t:Tm} (h:TermOk g t):Zak (Zae t)<=1048576:=by
 have h1:=Zl7 h.form
 have h2:=h.size
 omega
open Classical in
noncomputable def aS (g:Sgn) (l:List Bd) (t:Tm):Option Tm:=if ZbB g=true∧ZcS g l=true∧Zby g t=true then apT g l t else none
theorem Zmi:ZcS g l=true ↔ SbsOk g l:=by simp [ZcS]
set_option maxRecDepth 100000 in
theorem ZCA (hok:Zdc g) (hl:Zge l) (hb:l.length+Zag (ZbW l)<=1048576) {t:Tm} (ht:okTm t) (htb:Zak (Zae t)<=1048576):Con e0 24 [.agg (Zaw g),.one (.sl (ZbW l)),.agg (Zae t)] [.agg (Zae ((aS g l t).getD zTm)),.one (.lit (.bool (aS g l t).isSome))]:=by
 have cS:=Zpq hok hl (fun y hy=>Zgv (Zw8 hb y hy).1) (fun y hy=>Zgv (Zw8 hb y hy).2)
 have cT:=ZeA hok ht (Zgv htb)
 have hz:=ZiN
 have z1:(none:Option Tm).getD zTm=zTm:=rfl
 have z2:(none:Option Tm).isSome=false:=rfl
 by_cases h:ZbB g=true∧ZcS g l=true∧Zby g t=true
 rotate_left
 ·have e:aS g l t=none:=by unfold aS;rw [if_neg h]
  rw [e]
  rw [Zaw] at cS cT ⊢
  refine gI (ts:=[.cell 6 46,.slot 7]) 537396207 Tryz.func24 ?_
  (have F:=@tmz;have NN:Zai 1:=trivial;refine gGn ?_;clear F NN)
  refine gB ?_
  (have F:=@tmz;refine gC (cS) ?_;clear F)
  cases h1:(ZbB g && ZcS g l) with
  | false =>
   (have F:=@tmz;refine gR ?_;clear F)
   (have F:=ai @z1 (ai @z2 (ai @hz @tmz));refine gG ?_;exact gTd)
  | true =>
  have h2:(ZbB g && Zby g t)=false:=by
   rw [Bool.and_eq_true] at h1
   cases h3:Zby g t with
   | false=>rw [Bool.and_false]
   | true=>exact absurd ⟨h1.1,h1.2,h3⟩ h
  rw [h2] at cT
  (have F:=@tmz;refine gC (cT) ?_;clear F)
  (have F:=@tmz;refine gR ?_;clear F)
  (have F:=ai @z1 (ai @z2 (ai @hz @tmz));refine gG ?_;exact gTd)
 obtain ⟨h1,h2,h3⟩:=h
 have e:aS g l t=apT g l t:=by unfold aS;rw [if_pos ⟨h1,h2,h3⟩]
 have hg:=Zed.1 h1
 have hS:=Zmi.1 h2
 have hT:=ZcP.1 h3
 have cA:=Zps hok hg hS _ (Nat.lt_succ_self _) hT
 rw [e]
 rw [h1,h2] at cS
 rw [h1,h3] at cT
 rw [Zaw] at cS cT cA ⊢
 refine gI (ts:=[.cell 6 46,.slot 7]) 537396207 Tryz.func24 ?_
 (have F:=@tmz;have NN:Zai 1:=trivial;refine gGn ?_;clear F NN)
 refine gB ?_
 (have F:=@tmz;refine gC (cS) ?_;clear F)
 (have F:=@tmz;refine gC (cT) ?_;clear F)
 (have F:=@tmz;refine gR ?_;clear F)
 (have F:=@tmz;have NN:Zai 3:=trivial;refine gGn ?_;clear F NN)
 refine gB ?_
 (have F:=@tmz;refine gC (cA) ?_;clear F)
 (have F:=@tmz;refine gR ?_;clear F)
 cases hu:apT g l t with
 | none=>(have F:=ai @z1 (ai @z2 (ai @hz @tmz));refine gG ?_;exact gTd)
 | some u =>
  have z3:(some u).getD zTm=u:=rfl
  have z4:(some u).isSome=true:=rfl
  have hk:=Zil hg hS.to' _ t (Nat.lt_succ_self _) hT hu
  have cC:=Zhq u (ZCw hk)
  rw [Zov hu]
  (have F:=ai @z3 (ai @z4 @tmz);have NN:Zai 6:=trivial;refine gGn ?_;clear F NN)
  refine gB ?_
  (have F:=@tmz;refine gC (cC) ?_;clear F)
  (have F:=@tmz;refine gR ?_;clear F)
  (have F:=ai @z3 (ai @z4 @tmz);refine gG ?_;exact gTd)
theorem ZDU {t u:Tm} (h:aS g l t=some u):TermOk g u:=by
 unfold aS at h
 split at h
 ·next hc=>exact Zil (Zed.1 hc.1) (Zmi.1 hc.2.1).to' _ t (Nat.lt_succ_self _) (ZcP.1 hc.2.2) h
 ·cases h
theorem ZDQ {t u:Tm} (h:aS g l t=some u):SgnOk g:=by
 unfold aS at h
 split at h
 ·next hc=>exact Zed.1 hc.1
 ·cases h
end
end Go.Proofs.YtffmjghcpgpfpaaGreatDoor
