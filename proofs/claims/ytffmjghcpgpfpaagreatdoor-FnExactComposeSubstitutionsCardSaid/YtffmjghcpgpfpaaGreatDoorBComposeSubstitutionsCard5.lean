/-
  Part of a proof: Lz, Bz, Bh, Bj, Bk, Sz, Nb, Iu, Ba, Ev, Iv, Un, Cy, Cw, So, Ls, Vc, Cx, WComposeSubstitutions.
-/
import Derived.Test.YtffmjghcpgpfpaaGreatDoorBComposeSubstitutionsCard0
import Derived.Test.YtffmjghcpgpfpaaGreatDoorBComposeSubstitutionsCard1
import Derived.Test.YtffmjghcpgpfpaaGreatDoorBComposeSubstitutionsCard2
import Derived.Test.YtffmjghcpgpfpaaGreatDoorBComposeSubstitutionsCard3
import Derived.Test.YtffmjghcpgpfpaaGreatDoorBComposeSubstitutionsCard4
import Derived.Shelf.Lays7
import Derived.Test.YtffmjghcpgpfpaaGreatDoorChecked
import Derived.Shelf.Spec.TrailingZeros
import Derived.Shelf.SlSortCmp.WholeK
import Derived.Shelf.SlSortCmp.NoneTotal
import Derived.Lib.QuietBelow
import Derived.Shelf.SlLaysF0
set_option linter.unusedSimpArgs false
set_option linter.unusedVariables false
set_option maxHeartbeats 400000000
namespace Go.Proofs.YtffmjghcpgpfpaaGreatDoor
open Go.Shelf
def Zt2:Ren:=⟨fun | 27=>231 | 28=>248 | 29=>249 | n=>n,fun | 25=>168 | 3=>3 | 27=>222 | 22=>224 | 4=>4 | 53=>276 | 0=>0 | 5=>5 | 54=>277 | n=>n,fun | 0=>1 | 1=>2 | n=>n⟩
theorem tzZ:Go.Proofs.Lays7.n27 Tryz.prog Zt2:={
 mixed:=by kernel_rfl,
 f27:=Tryz.func231.trans (congrArg some (by kernel_rfl)),
 f28:=Tryz.func248.trans (congrArg some (by kernel_rfl)),
 f29:=Tryz.func249.trans (congrArg some (by kernel_rfl)),
 t0:=Tryz.underlying0,
 a0:=Tryz.isAgg0,
 z0:=Tryz.sizeOf0,
 v0:=Tryz.zeroValue0,
 i0:=by kernel_rfl,
 t3:=Tryz.underlying3,
 a3:=Tryz.isAgg3,
 z3:=Tryz.sizeOf3,
 v3:=Tryz.zeroValue3,
 i3:=by kernel_rfl,
 t4:=Tryz.underlying4,
 a4:=Tryz.isAgg4,
 z4:=Tryz.sizeOf4,
 v4:=Tryz.zeroValue4,
 i4:=by kernel_rfl,
 t5:=Tryz.underlying5,
 a5:=Tryz.isAgg5,
 z5:=Tryz.sizeOf5,
 v5:=Tryz.zeroValue5,
 i5:=by kernel_rfl,
 t22:=Tryz.underlying224,
 a22:=Tryz.isAgg224,
 z22:=Tryz.sizeOf224,
 v22:=Tryz.zeroValue224,
 i22:=by kernel_rfl,
 t25:=Tryz.underlying168,
 a25:=Tryz.isAgg168,
 z25:=Tryz.sizeOf168,
 v25:=Tryz.zeroValue168,
 i25:=by kernel_rfl,
 t27:=Tryz.underlying222,
 a27:=Tryz.isAgg222,
 z27:=Tryz.sizeOf222,
 v27:=Tryz.zeroValue222,
 i27:=by kernel_rfl,
 t53:=Tryz.underlying276,
 a53:=Tryz.isAgg276,
 z53:=Tryz.sizeOf276,
 v53:=Tryz.zeroValue276,
 i53:=by kernel_rfl,
 t54:=Tryz.underlying277,
 a54:=Tryz.isAgg277,
 z54:=Tryz.sizeOf277,
 g0:=by kernel_rfl,
 g1:=by kernel_rfl }
end Go.Proofs.YtffmjghcpgpfpaaGreatDoor
namespace Go.Proofs.YtffmjghcpgpfpaaGreatDoor
open Go.RowKit
theorem ZEU:∀ q:Fin 8,Lib.ctz 64 (2 ^ q.val)=q.val:=by decide
theorem ZFz {q:Nat} (hq:q < 8):Con e0 231 [.one (.lit (.int .u64 ((2 ^ q:Nat):Int)))] [.one (.lit (.int .i64 (q:Int)))]:=by
 refine ⟨by kernel_rfl,fun w S vs hS hE hG hv=>?_⟩
 match vs,hv with
 | [v],hv =>
  have hv:v=.int .u64 ((2 ^ q:Nat):Int):=by simpa [ZaC,DRel,Rep] using hv
  subst hv
  have hp:2 ^ q < 2 ^ 8:=Nat.pow_lt_pow_right om hq
  have hT:TabAt (Zt2.g 1) Lib.deBruijn64tab w:=fun j hj=>ZcH.cell hG j hj
  refine (Any7.bits_TrailingZeros tzZ (2 ^ q) om w (fun _=>hT)).mono fun en w' ⟨h1,h2⟩=>?_
  subst h2
  rw [ZEU ⟨q,hq⟩] at h1
  exact ⟨_,h1,Kept.refl _ _ _ _,hG,by simp [retA,ARel,DRel,Rep]⟩
theorem Zqn {p m:Nat} (h:p &&& m=p) (hp:p≠0) (hm:p≠m):1<=m ^^^ p∧m ^^^ p < m:=by
 have h1:=Zp5 hm
 have h2:=(ZtR h).2
 have h3:m ^^^ p<=m:=by
  have h4:m ^^^ p<=p ||| (m ^^^ p):=Nat.right_le_or
  rw [h2] at h4
  exact h4
 have h4:m ^^^ p≠m:=fun e=>hp (by
  have:m ^^^ (m ^^^ p)=m ^^^ m:=by rw [e]
  rw [<- Nat.xor_assoc,Nat.xor_self,Nat.zero_xor] at this
  exact this)
 omega
section
variable {g:Sgn} {mc:C}
theorem ZAN (hg:SgnOk g) {i:Nat} {o:Opr} (ho:g.ops[i]?=some o) (ha:o.assoc=true) (hc:o.comm=true) {s t N:Nat}:ofB (AnyB g o [s,t]) N=ofB (fun b=>Two (Eith (Rel2 g o)) s t b) N:=by
 refine Za0 fun b _=>?_
 unfold AnyB
 rw [ZeO (Opr.deg2 hg ho (.inl ha)),ZAL,hc]
 simp only [List.reverse_cons,List.reverse_nil,List.nil_append,List.singleton_append,true_and]
 rw [ZeO (Opr.deg2 hg ho (.inl ha))]
theorem ZEV {R:Nat->Nat->Nat->Prop} {N:Nat} (h:∀ a c b,R a c b->b < N):∀ a c b,Eith R a c b->b < N:=fun a c b h1=>h1.elim (h a c b) (h c a b)
set_option maxRecDepth 100000 in
theorem Zm7 (hg:SgnOk g) {op:Int} {o:Opr} (h0:0<=op) (ho:g.ops[op.toNat]?=some o) (ha:o.assoc=true) (hc:o.comm=true) (sets:List Nat) (hn1:1<=sets.length) (hn7:sets.length<=7) (hs:∀ s∈sets,s < 2 ^ g.sorts.names.length):Con e0 176 [.one (.ptr (encX g mc)),.one (.lit (.int .i64 op)),.one (.sl (nR sets))] [.one (.lit (.int .i64 ((bvN g (Rel2 g o) sets (2 ^ sets.length - 1):Nat):Int)))]:=by
 have hN:=hg.sorts.n8
 have rl:=ZaQ (l:=sets)
 have rr:=ZaN (l:=sets)
 have hdeg:=Opr.deg2 hg ho (.inl ha)
 rw [<- ZAM]
 have hRlt:=ZEV fun a c b (h:Rel2 g o a c b)=>Rel2.lt hg (List.mem_of_getElem? ho) h
 have hany:=fun s t=>ZAN (s:=s) (t:=t) (N:=g.sorts.names.length) hg ho ha hc
 generalize hRR:Eith (Rel2 g o)=R at hRlt hany ⊢
 have hcv:∀ m,bvN g R sets m < 2 ^ g.sorts.names.length:=fun m=>ZbY _ _
 have hsh:=Zgj (k:=sets.length) om
 have hT0:=BagT.start (g:=g) (R:=R) (sets:=sets)
 have hpow:∀ q,2 ^ q < 2 ^ sets.length->q < sets.length:=fun q h=>(Nat.pow_lt_pow_iff_right om).1 h
 have hZ1:2 ^ 1<=2 ^ sets.length:=Nat.pow_le_pow_right om hn1
 have hZ7:2 ^ sets.length<=2 ^ 7:=Nat.pow_le_pow_right om hn7
 have hBl:=fun M T (h:BagT g R sets M T)=>h.1
 have hBn:=fun M T (h:BagT g R sets M T)=>h.next
 have hB0:=fun M T (h:BagT g R sets M T)=>h.zero
 have hBg:=fun M T (h:BagT g R sets M T)=>h.2
 generalize hZ:2 ^ sets.length=Z at hsh hT0 hpow hZ1 hZ7 hBl hBn hB0 hBg ⊢
 have hmx:((Z:Int)<=(maxApp:Int))=True:=eq_true (by unfold maxApp;omega)
 refine gI (ts:=[.slot 6]) 2199090890695 Tryz.func176 ?_
 (have F:=ai @rl (ai @hsh (ai @hmx (ai @Int.toNat_natCast (ai @nR_0 (ai @Zas @tmz)))));refine gG ?_;clear F)
 generalize List.replicate Z 0=T0 at hT0 ⊢
 (have F:=@tmz;refine gL (ι:=Nat × List Nat) [8,9,10,19,26,41] [8] (fun x=>[(9,A.d (.one (.lit (.int .i64 x.1)))),(8,.buf 8)]) (fun x=>[(8,.buf none 3 1 (nR x.2))]) (fun x=>1<=x.1∧x.1<=Z∧BagT g R sets x.1 x.2) (fun x=>Z - x.1) ((1,T0)) (⟨Nat.le_refl _,by omega,hT0⟩) (fun x hx=>?_);clear F)
 clear hT0 T0
 obtain ⟨m,T⟩:=x
 obtain ⟨hm1,hm2,hT⟩:=hx
 simp only at hm1 hm2 hT
 dsimp only
 have nl:=ZaQ (l:=T)
 rw [hBl _ _ hT] at nl
 have nr:=ZaN (l:=T)
 by_cases hmZ:m < Z
 rotate_left
 ·obtain rfl:m=Z:=by omega
  have q1:((m:Int) < (m:Int))=False:=eq_false om
  have hg2:=ZaP ((hBg _ _ hT (m - 1) om om).1 om)
  have w1:IntKind.i64.wrap ((m:Int) - 1)=((m - 1:Nat):Int):=ZaV om om om
  have i1:(m - 1 < m)=True:=eq_true om
  (have F:=ai @q1 (ai @hsh (ai @nl (ai @nr (ai @hg2 (ai @w1 (ai @i1 (ai @Zas @tmz)))))));refine gG ?_;exact gTd)
 have q1:((m:Int) < (Z:Int))=True:=eq_true om
 have hw:=Zay (k:=m) om
 have w1:IntKind.i64.wrap ((m:Int) - 1)=((m - 1:Nat):Int):=ZaV om om om
 have ba:=ZdJ (a:=m) (b:=m - 1) om om
 have ba2:=ZdJ (a:=m - 1) (b:=m) om om
 rw [Nat.and_comm] at ba
 have i0:(m < Z)=True:=eq_true hmZ
 by_cases hA:(m - 1) &&& m=0
 ·obtain ⟨q,rfl⟩:=Zt1 om hA
  have hq:=hpow q hmZ
  rw [hA] at ba
  have q2:(((0:Nat):Int)=0)=True:=eq_true rfl
  have wu:IntKind.u64.wrap ((2 ^ q:Nat):Int)=((2 ^ q:Nat):Int):=by
   unfold IntKind.wrap
   simp only [IntKind.signed,IntKind.bits]
   exact Int.emod_eq_of_lt om om
  obtain ⟨s,hsq⟩:∃ s,sets[q]?=some s:=⟨_,List.getElem?_eq_getElem hq⟩
  have hbv:bvN g R sets (2 ^ q)=s:=by unfold bvN;exact ZtU hsq (hs s (List.mem_of_getElem? hsq))
  have r1:=ZaP hsq
  have hT2:=hBn _ _ hT hmZ
  rw [hbv] at hT2
  have ns:=Zcy (l:=T) (2 ^ q) s
  obtain ⟨z,hz⟩:∃ z,T[2 ^ q]?=some z:=⟨_,List.getElem?_eq_getElem (by rw [hBl _ _ hT];exact hmZ)⟩
  have ng:=ZaP hz
  have cz:=ZFz (q:=q) om
  have i2:(q < sets.length)=True:=eq_true hq
  clear hbv hA
  generalize 2 ^ q=M at *
  (have F:=ai @q1 (ai @hsh (ai @w1 (ai @ba (ai @q2 (ai @Zas @tmz)))));have NN:Zah 7:=trivial;refine gGn ?_;clear F NN)
  refine gB ?_
  (have F:=ai @ZfX (ai @Zfp (ai @Zee (ai @wu @tmz)));refine gC (cz) ?_;clear F)
  (have F:=ai @r1 (ai @rl (ai @rr (ai @nl (ai @nr (ai @ns (ai @ng (ai @i0 (ai @i2 (ai @Zas @tmz)))))))));refine gR ?_;clear F)
  (have F:=ai @hw @tmz;refine gG ?_;exact ⟨(M+1,T.set M s),⟨by omega,by omega,hT2⟩,gw,gw,by omega⟩)
 have q2:((((m - 1) &&& m:Nat):Int)=0)=False:=eq_false om
 have hnp:∀ i,m≠2 ^ i:=fun i e=>hA (by subst e;exact Zt0 i)
 have hz:=hB0 _ _ hT hm1 hmZ
 have hzz:nR (T.set m 0)=nR T:=by rw [hz]
 have hle:(m - 1) &&& m<=m - 1:=Nat.and_le_left
 have hs0:=Zme (R:=R) (sets:=sets) (N:=g.sorts.names.length) (m:=m) om
 have hend:=Zp7 (R:=R) (sets:=sets) (N:=g.sorts.names.length) (m:=m) hs hRlt hnp
 have hT2:=hBn _ _ hT hmZ
 clear nl nr
 (have F:=ai @hsh (ai @q1 (ai @w1 (ai @ba (ai @ba2 (ai @q2 (ai @Zas @tmz))))));refine gG ?_;clear F)
 (have F:=ai @hzz @tmz;refine gL (ι:=Nat × Nat) [8,10,41] [8] (fun z=>[(10,A.d (.one (.lit (.int .i64 z.1)))),(8,.buf 8)]) (fun z=>[(8,.buf none 3 1 (nR (T.set m z.2)))]) (fun z=>z.1 < m∧z.1 &&& m=z.1∧z.2=ofB (Zff R sets g.sorts.names.length m z.1) g.sorts.names.length) (fun z=>z.1) (((m - 1) &&& m,0)) (⟨by omega,by rw [Nat.and_assoc,Nat.and_self],hs0.symm⟩) (fun z hz=>?_);clear F)
 obtain ⟨p,v⟩:=z
 obtain ⟨hp1,hp2,hv⟩:=hz
 simp only at hp1 hp2 hv
 dsimp only
 by_cases hp0:p=0
 ·subst hp0
  have q3:((0:Int) < ((0:Nat):Int))=False:=eq_false om
  have e:v=bvN g R sets m:=by rw [hv,hend];rfl
  subst e
  (have F:=ai @q3 (ai @hw @tmz);refine gG ?_;exact ⟨(m+1,T.set m (bvN g R sets m)),⟨by omega,by omega,hT2⟩,gw,gw,by omega⟩)
 have q3:((0:Int) < (p:Int))=True:=eq_true om
 have wp:IntKind.i64.wrap ((p:Int) - 1)=((p - 1:Nat):Int):=ZaV om om om
 have bap:=ZdJ (a:=p - 1) (b:=m) om om
 have bx:=Zqm (a:=m) (b:=p) om om
 have hxp:=Zqn hp2 hp0 om
 have hp3:(p - 1) &&& m<=p - 1:=Nat.and_le_left
 have hTp:=(hBg _ _ hT p om om).1 hp1
 have hTx:=(hBg _ _ hT (m ^^^ p) hxp.1 om).1 hxp.2
 have e:=fun b=>ZnK (R:=R) (sets:=sets) (N:=g.sorts.names.length) (m:=m) (p:=p) (b:=b) hp0 om hp2
 have e:v ||| ofB (fun b=>Two R (bvN g R sets p) (bvN g R sets (m ^^^ p)) b) g.sorts.names.length=ofB (Zff R sets g.sorts.names.length m ((p - 1) &&& m)) g.sorts.names.length:=by
  rw [hv,Zf1]
  exact Za0 fun b _=>(e b).symm
 have cR:=ZhB (mc:=mc) hg h0 ho [bvN g R sets p,bvN g R sets (m ^^^ p)] (fun d hd=>hdeg d hd) (by simp) (fun s hs=>by
  simp only [List.mem_cons,List.not_mem_nil,or_false] at hs
  rcases hs with rfl | rfl <;> exact hcv _)
 rw [hany] at cR
 have cR:=Zf2 cR
 have hv62:v < 4611686018427387904:=by rw [hv];exact ZbB (ZbY _ _) hN
 have hor:=Zdx hv62 (ZbB (ZbY (fun b=>Two R (bvN g R sets p) (bvN g R sets (m ^^^ p)) b) g.sorts.names.length) hN)
 rw [e] at hor
 generalize ofB (fun b=>Two R (bvN g R sets p) (bvN g R sets (m ^^^ p)) b) g.sorts.names.length=tw at cR hor
 have nl:=ZaQ (l:=T.set m v)
 rw [List.length_set,hBl _ _ hT] at nl
 have nr:=ZaN (l:=T.set m v)
 have g1:(nR (T.set m v))[m]?=some [.lit (.int .i64 v)]:=ZaP (List.getElem?_set_self (by rw [hBl _ _ hT];exact hmZ))
 have g2:(nR (T.set m v))[p]?=some [.lit (.int .i64 (bvN g R sets p))]:=ZaP (by rw [List.getElem?_set_ne om];exact hTp)
 have g3:(nR (T.set m v))[m ^^^ p]?=some [.lit (.int .i64 (bvN g R sets (m ^^^ p)))]:=ZaP (by rw [List.getElem?_set_ne om];exact hTx)
 have ns:=fun x=>Zcy (l:=T.set m v) m x
 simp only [List.set_set] at ns
 have i2:(p < Z)=True:=eq_true om
 have i3:(m ^^^ p < Z)=True:=eq_true om
 clear e hv hend
 (have F:=ai @q3 @tmz;have NN:Zah 11:=trivial;refine gGn ?_;clear F NN)
 refine gB ?_
 (have F:=ai @nl (ai @nr (ai @g1 (ai @g2 (ai @g3 (ai @i0 (ai @i2 (ai @i3 (ai @bx (ai @Zas @tmz)))))))));refine gC (cR) ?_;clear F)
 (have F:=ai @nl (ai @nr (ai @g1 (ai @hor (ai @ns (ai @i0 (ai @Zas @tmz))))));refine gR ?_;clear F)
 (have F:=ai @wp (ai @bap @tmz);refine gG ?_;exact ⟨((p - 1) &&& m,ofB (Zff R sets g.sorts.names.length m ((p - 1) &&& m)) g.sorts.names.length),⟨by omega,by rw [Nat.and_assoc,Nat.and_self],rfl⟩,gw,gw,by omega⟩)
end
section
variable {g:Sgn}
set_option maxRecDepth 100000 in
theorem Zzo (hg:SgnOk g) {op:Int} {o:Opr} (h0:0<=op) (ho:g.ops[op.toNat]?=some o) (ha:o.assoc=true) (sets:List Nat) (hn1:1<=sets.length) (hn7:sets.length<=7) (hs:∀ s∈sets,s < 2 ^ g.sorts.names.length):Con e0 207 [.agg (ZaA g),.one (.lit (.int .i64 op)),.one (.sl (nR sets))] [.one (.lit (.int .i64 ((bvN g (Rel2 g o) sets (2 ^ sets.length - 1):Nat):Int)))]:=by
 have hN:=hg.sorts.n8
 have rl:=ZaQ (l:=sets)
 have rr:=ZaN (l:=sets)
 have hdeg:=Opr.deg2 hg ho (.inl ha)
 have cU:=ZgP hg.sorts.n8 hg.sorts.m16 (SortsOk.subsIn hg.sorts.subs)
 rw [Zbc] at cU
 have hRlt:=fun a c b (h:Rel2 g o a c b)=>Rel2.lt hg (List.mem_of_getElem? ho) h
 have hany:∀ s t,ofB (Zdj g o [s,t]) g.sorts.names.length=ofB (fun b=>Two (Rel2 g o) s t b) g.sorts.names.length:=fun s t=>Za0 fun b _=>ZeO hdeg
 have cG:=fun l=>Ziw hg (List.mem_of_getElem? ho) l
 generalize hRR:Rel2 g o=R at hRlt hany ⊢
 have hcv:∀ m,bvN g R sets m < 2 ^ g.sorts.names.length:=fun m=>ZbY _ _
 have cB:=Zhd (k:=sets.length) om
 have hT0:=BagT.start (g:=g) (R:=R) (sets:=sets)
 have hpow:∀ q,2 ^ q < 2 ^ sets.length->q < sets.length:=fun q h=>(Nat.pow_lt_pow_iff_right om).1 h
 have hZ1:2 ^ 1<=2 ^ sets.length:=Nat.pow_le_pow_right om hn1
 have hZ7:2 ^ sets.length<=2 ^ 7:=Nat.pow_le_pow_right om hn7
 have hBl:=fun M T (h:BagT g R sets M T)=>h.1
 have hBn:=fun M T (h:BagT g R sets M T)=>h.next
 have hB0:=fun M T (h:BagT g R sets M T)=>h.zero
 have hBg:=fun M T (h:BagT g R sets M T)=>h.2
 generalize hZ:2 ^ sets.length=Z at cB hT0 hpow hZ1 hZ7 hBl hBn hB0 hBg ⊢
 have hmx:((Z:Int)<=(maxApp:Int))=True:=eq_true (by unfold maxApp;omega)
 rw [ZaA]
 refine gI (ts:=[.slot 6]) 281509890105295 Tryz.func207 ?_
 (have F:=ai @rl @tmz;have NN:Zah 2:=trivial;refine gGn ?_;clear F NN)
 refine gB ?_
 (have F:=@tmz;refine gC (cU) ?_;clear F)
 (have F:=@tmz;refine gR ?_;clear F)
 refine ZdH ?_
 refine gB ?_
 (have F:=@tmz;refine gC (cB) ?_;clear F)
 (have F:=ai @hmx (ai @Int.toNat_natCast (ai @nR_0 @tmz));refine gR ?_;clear F)
 (have F:=ai @Zas @tmz;refine gG ?_;clear F)
 generalize List.replicate Z 0=T0 at hT0 ⊢
 (have F:=@tmz;refine gL (ι:=Nat × List Nat) [9,10,11,12,24,29,35,48] [9] (fun x=>[(10,A.d (.one (.lit (.int .i64 x.1)))),(9,.buf 9)]) (fun x=>[(9,.buf none 3 1 (nR x.2))]) (fun x=>1<=x.1∧x.1<=Z∧BagT g R sets x.1 x.2) (fun x=>Z - x.1) ((1,T0)) (⟨Nat.le_refl _,by omega,hT0⟩) (fun x hx=>?_);clear F)
 clear hT0 T0
 obtain ⟨m,T⟩:=x
 obtain ⟨hm1,hm2,hT⟩:=hx
 simp only at hm1 hm2 hT
 dsimp only
 (have F:=@tmz;have NN:Zah 5:=trivial;refine gGn ?_;clear F NN)
 refine gB ?_
 (have F:=@tmz;refine gC (cB) ?_;clear F)
 by_cases hmZ:m < Z
 rotate_left
 ·obtain rfl:m=Z:=by omega
  have nl:=ZaQ (l:=T)
  rw [hBl _ _ hT] at nl
  have nr:=ZaN (l:=T)
  have q1:((m:Int) < (m:Int))=False:=eq_false om
  have hg2:=ZaP ((hBg _ _ hT (m - 1) om om).1 om)
  have w1:IntKind.i64.wrap ((m:Int) - 1)=((m - 1:Nat):Int):=ZaV om om om
  have i1:(m - 1 < m)=True:=eq_true om
  (have F:=ai @q1 @tmz;refine gR ?_;clear F)
  (have F:=@tmz;have NN:Zah 16:=trivial;refine gGn ?_;clear F NN)
  refine gB ?_
  (have F:=@tmz;refine gC (cB) ?_;clear F)
  (have F:=ai @nl (ai @nr (ai @hg2 (ai @w1 (ai @i1 (ai @Zas @tmz)))));refine gR ?_;clear F)
  (have F:=@tmz;refine gG ?_;exact gTd)
 have q1:((m:Int) < (Z:Int))=True:=eq_true om
 have hw:=Zay (k:=m) om
 have w1:IntKind.i64.wrap ((m:Int) - 1)=((m - 1:Nat):Int):=ZaV om om om
 have ba2:=ZdJ (a:=m - 1) (b:=m) om om
 have i0:(m < Z)=True:=eq_true hmZ
 have hz:=hB0 _ _ hT hm1 hmZ
 have hzz:nR (T.set m 0)=nR T:=by rw [hz]
 have hT2:=hBn _ _ hT hmZ
 (have F:=ai @q1 @tmz;refine gR ?_;clear F)
 (have F:=@tmz;refine gG ?_;clear F)
 (have F:=ai @hzz @tmz;refine gL (ι:=Nat × Nat) [9,11,29,35] [9] (fun y=>[(11,A.d (.one (.lit (.int .i64 y.1)))),(9,.buf 9)]) (fun y=>[(9,.buf none 3 1 (nR (T.set m y.2)))]) (fun y=>y.1<=sets.length∧(∀ q,m=2 ^ q->(q < y.1->y.2=bvN g R sets m))∧((∀ q,q < y.1->m≠2 ^ q)->y.2=0)) (fun y=>sets.length - y.1) ((0,0)) (⟨by omega,fun q _ h=>by omega,fun _=>rfl⟩) (fun y hy=>?_);clear F)
 obtain ⟨i,v⟩:=y
 obtain ⟨hi,hv1,hv2⟩:=hy
 simp only at hi hv1 hv2
 dsimp only
 by_cases hil:i < sets.length
 ·have q3:((i:Int) < (sets.length:Int))=True:=eq_true om
  have hwi:=Zay (k:=i) om
  have cBi:=Zhd (k:=i) om
  (have F:=ai @q3 @tmz;have NN:Zah 10:=trivial;refine gGn ?_;clear F NN)
  refine gB ?_
  (have F:=@tmz;refine gC (cBi) ?_;clear F)
  by_cases e:m=2 ^ i
  ·have q4:((m:Int)=((2 ^ i:Nat):Int))=True:=eq_true (by rw [e])
   obtain ⟨s,hsi⟩:∃ s,sets[i]?=some s:=⟨_,List.getElem?_eq_getElem hil⟩
   have hbv:bvN g R sets m=s:=by rw [e];unfold bvN;exact ZtU hsi (hs s (List.mem_of_getElem? hsi))
   have r1:=ZaP hsi
   have nl:=ZaQ (l:=T.set m v)
   rw [List.length_set,hBl _ _ hT] at nl
   have nr:=ZaN (l:=T.set m v)
   have g1:(nR (T.set m v))[m]?=some [.lit (.int .i64 v)]:=ZaP (List.getElem?_set_self (by rw [hBl _ _ hT];exact hmZ))
   have ns:=fun x=>Zcy (l:=T.set m v) m x
   simp only [List.set_set] at ns
   have i1:(i < sets.length)=True:=eq_true hil
   have hv0:(∀ q,q < i+1->m≠2 ^ q)->s=0:=fun h=>absurd e (h i om)
   clear cBi
   generalize 2 ^ i=M at *
   (have F:=ai @q4 @tmz;refine gR ?_;clear F)
   (have F:=ai @hwi (ai @r1 (ai @rl (ai @rr (ai @nl (ai @nr (ai @g1 (ai @ns (ai @i0 (ai @i1 (ai @Zas @tmz))))))))));refine gG ?_;exact ⟨(i+1,s),⟨hil,fun q h1 h2=>hbv.symm,hv0⟩,gw,gw,by omega⟩)
  have q4:((m:Int)=((2 ^ i:Nat):Int))=False:=eq_false om
  have hv3:∀ q,m=2 ^ q->(q < i+1->v=bvN g R sets m):=fun q h1 h2=>hv1 q h1 (by
   by_cases h3:q=i
   ·subst h3;exact absurd h1 e
   ·omega)
  have hv4:(∀ q,q < i+1->m≠2 ^ q)->v=0:=fun h=>hv2 fun q h1=>h q om
  clear cBi
  (have F:=ai @q4 @tmz;refine gR ?_;clear F)
  (have F:=ai @hwi @tmz;refine gG ?_;exact ⟨(i+1,v),⟨hil,hv3,hv4⟩,gw,gw,by omega⟩)
 obtain rfl:i=sets.length:=by omega
 have q3:((sets.length:Int) < (sets.length:Int))=False:=eq_false om
 have hz:=hB0 _ _ hT hm1 hmZ
 have hle:(m - 1) &&& m<=m - 1:=Nat.and_le_left
 (have F:=ai @q3 (ai @w1 (ai @ba2 (ai @Zas @tmz)));refine gG ?_;clear F)
 by_cases hA:(m - 1) &&& m=0
 ·obtain ⟨q,rfl⟩:=Zt1 om hA
  have hq:=hpow q hmZ
  have hv:=hv1 q rfl hq
  subst hv
  rw [hA]
  (have F:=@tmz;refine gL (ι:=Nat) [12,48] [] (fun z=>[(12,A.d (.one (.lit (.int .i64 z))))]) (fun z=>[]) (fun z=>z=0) (fun z=>z) (0) (rfl) (fun z hz=>?_);clear F)
  subst hz
  have q4:((0:Int) < ((0:Nat):Int))=False:=eq_false om
  generalize 2 ^ q=M at *
  (have F:=ai @q4 (ai @hw @tmz);refine gG ?_;exact ⟨(M+1,T.set M (bvN g R sets M)),⟨by omega,by omega,hT2⟩,gw,gw,by omega⟩)
 have hnp:∀ i,m≠2 ^ i:=fun i e=>hA (by subst e;exact Zt0 i)
 have hv:=hv2 fun q _=>hnp q
 subst hv
 have hs0:=Zme (R:=R) (sets:=sets) (N:=g.sorts.names.length) (m:=m) om
 have hend:=Zp7 (R:=R) (sets:=sets) (N:=g.sorts.names.length) (m:=m) hs hRlt hnp
 (have F:=@tmz;refine gL (ι:=Nat × Nat) [9,12,48] [9] (fun z=>[(12,A.d (.one (.lit (.int .i64 z.1)))),(9,.buf 9)]) (fun z=>[(9,.buf none 3 1 (nR (T.set m z.2)))]) (fun z=>z.1 < m∧z.1 &&& m=z.1∧z.2=ofB (Zff R sets g.sorts.names.length m z.1) g.sorts.names.length) (fun z=>z.1) (((m - 1) &&& m,0)) (⟨by omega,by rw [Nat.and_assoc,Nat.and_self],hs0.symm⟩) (fun z hz=>?_);clear F)
 obtain ⟨p,v⟩:=z
 obtain ⟨hp1,hp2,hv⟩:=hz
 simp only at hp1 hp2 hv
 dsimp only
 by_cases hp0:p=0
 ·subst hp0
  have q3:((0:Int) < ((0:Nat):Int))=False:=eq_false om
  have e:v=bvN g R sets m:=by rw [hv,hend];rfl
  subst e
  (have F:=ai @q3 (ai @hw @tmz);refine gG ?_;exact ⟨(m+1,T.set m (bvN g R sets m)),⟨by omega,by omega,hT2⟩,gw,gw,by omega⟩)
 have q3:((0:Int) < (p:Int))=True:=eq_true om
 have wp:IntKind.i64.wrap ((p:Int) - 1)=((p - 1:Nat):Int):=ZaV om om om
 have bap:=ZdJ (a:=p - 1) (b:=m) om om
 have bx:=Zqm (a:=m) (b:=p) om om
 have hxp:=Zqn hp2 hp0 om
 have hp3:(p - 1) &&& m<=p - 1:=Nat.and_le_left
 have hTp:=(hBg _ _ hT p om om).1 hp1
 have hTx:=(hBg _ _ hT (m ^^^ p) hxp.1 om).1 hxp.2
 have e:=fun b=>ZnK (R:=R) (sets:=sets) (N:=g.sorts.names.length) (m:=m) (p:=p) (b:=b) hp0 om hp2
 have e:v ||| ofB (fun b=>Two R (bvN g R sets p) (bvN g R sets (m ^^^ p)) b) g.sorts.names.length=ofB (Zff R sets g.sorts.names.length m ((p - 1) &&& m)) g.sorts.names.length:=by
  rw [hv,Zf1]
  exact Za0 fun b _=>(e b).symm
 have cR:=cG [bvN g R sets p,bvN g R sets (m ^^^ p)] (fun d hd=>hdeg d hd) (by simp) (fun s hs=>by
  simp only [List.mem_cons,List.not_mem_nil,or_false] at hs
  rcases hs with rfl | rfl <;> exact hcv _)
 rw [hany] at cR
 have cR:=Zf2 cR
 have hv62:v < 4611686018427387904:=by rw [hv];exact ZbB (ZbY _ _) hN
 have hor:=Zdx hv62 (ZbB (ZbY (fun b=>Two R (bvN g R sets p) (bvN g R sets (m ^^^ p)) b) g.sorts.names.length) hN)
 rw [e] at hor
 generalize ofB (fun b=>Two R (bvN g R sets p) (bvN g R sets (m ^^^ p)) b) g.sorts.names.length=tw at cR hor
 have nl:=ZaQ (l:=T.set m v)
 rw [List.length_set,hBl _ _ hT] at nl
 have nr:=ZaN (l:=T.set m v)
 have g1:(nR (T.set m v))[m]?=some [.lit (.int .i64 v)]:=ZaP (List.getElem?_set_self (by rw [hBl _ _ hT];exact hmZ))
 have g2:(nR (T.set m v))[p]?=some [.lit (.int .i64 (bvN g R sets p))]:=ZaP (by rw [List.getElem?_set_ne om];exact hTp)
 have g3:(nR (T.set m v))[m ^^^ p]?=some [.lit (.int .i64 (bvN g R sets (m ^^^ p)))]:=ZaP (by rw [List.getElem?_set_ne om];exact hTx)
 have ns:=fun x=>Zcy (l:=T.set m v) m x
 simp only [List.set_set] at ns
 have i2:(p < Z)=True:=eq_true om
 have i3:(m ^^^ p < Z)=True:=eq_true om
 clear e hv hend
 (have F:=ai @q3 @tmz;have NN:Zah 15:=trivial;refine gGn ?_;clear F NN)
 refine gB ?_
 (have F:=ai @nl (ai @nr (ai @g1 (ai @g2 (ai @g3 (ai @i0 (ai @i2 (ai @i3 (ai @bx (ai @h0 (ai @ho (ai @Zaj (ai @Zas @tmz))))))))))));refine gC (cR) ?_;clear F)
 (have F:=ai @nl (ai @nr (ai @g1 (ai @hor (ai @ns (ai @i0 (ai @Zas @tmz))))));refine gR ?_;clear F)
 (have F:=ai @wp (ai @bap @tmz);refine gG ?_;exact ⟨((p - 1) &&& m,ofB (Zff R sets g.sorts.names.length m ((p - 1) &&& m)) g.sorts.names.length),⟨by omega,by rw [Nat.and_assoc,Nat.and_self],rfl⟩,gw,gw,by omega⟩)
end
section
variable {g:Sgn}
theorem AppOk.len7 (hg:SgnOk g) {t:Tm} {o:Opr} {d:Dcl} (hA:AppOk g t o d):t.args.length<=7:=by
 cases ha:o.assoc with
 | true=>exact (hA.asc ha).2
 | false =>
  rw [hA.nas ha]
  have:=(hg.decls o (List.mem_of_getElem? hA.at')).ar d hA.fst
  omega
theorem AppOk.dlen (hg:SgnOk g) {t:Tm} {o:Opr} {d:Dcl} (hA:AppOk g t o d) (ha:o.assoc=false):∀ f∈o.decls,f.args.length=t.args.length:=by
 intro f hf
 rw [hA.nas ha]
 exact ((hg.decls o (List.mem_of_getElem? hA.at')).all d hA.fst f hf).len
theorem Zmm {t a:Tm} {i:Nat} (h:t.args[i]?=some a):(t.args.take i).map (sortsTm g)++[sortsTm g a]=(t.args.take (i+1)).map (sortsTm g):=by
 rw [List.take_add_one,h,List.map_append];rfl
set_option maxRecDepth 100000 in
theorem Zrv (hg:SgnOk g):∀ (n:Nat) {t:Tm},sizeTm t < n->ZaM g t->Con e0 139 [.agg (ZaA g),.agg (Zae t)] [.one (.lit (.int .i64 ((sortsTm g t:Nat):Int)))]:=by
 intro n
 induction n with
 | zero=>exact fun {t} h _=>absurd h om
 | succ n IH =>
 intro t hsz hf
 obtain ⟨hnode,hargs,_⟩:=Zbj.1 hf
 have cU:=ZgP hg.sorts.n8 hg.sorts.m16 (SortsOk.subsIn hg.sorts.subs)
 rw [Zbc] at cU
 by_cases hop:t.op=-1
 ·have hv:Zc5 g t:=hnode.resolve_right fun ⟨o,d,hA⟩=>by have:=hA.lo;omega
  have q1:(t.op=-1)=True:=eq_true hop
  obtain ⟨k,hk⟩:∃ k:Nat,t.sort=k:=⟨t.sort.toNat,by have:=hv.2.2.1;omega⟩
  have hgk:=ZhS hg.sorts hv.2.2.1 hv.2.2.2.1
  have hgk:=ZaP hgk.1
  have e:=Zhx (g:=g) hop
  rw [e]
  have ul:=ZaQ (l:=up g.sorts)
  rw [(ZfE (SortsOk.subsIn hg.sorts.subs)).1] at ul
  have ur:=ZaN (l:=up g.sorts)
  have i0:0<=t.sort:=hv.2.2.1
  have i1:(t.sort.toNat < g.sorts.names.length)=True:=eq_true (by have:=hv.2.2.2.1;omega)
  rw [ZaA]
  refine gI (ts:=[.slot 4]) 4629704814991770879 Tryz.func139 ?_
  (have F:=ai @q1 @tmz;have NN:Zah 2:=trivial;refine gGn ?_;clear F NN)
  refine gB ?_
  (have F:=@tmz;refine gC (cU) ?_;clear F)
  (have F:=ai @i0 (ai @i1 (ai @ul (ai @ur (ai @hgk @tmz))));refine gR ?_;clear F)
  (have F:=@tmz;refine gG ?_;exact gTd)
 have q1:(t.op=-1)=False:=eq_false hop
 obtain ⟨o,d,hA⟩:∃ o d,AppOk g t o d:=hnode.resolve_left fun hv=>hop hv.1
 have h0:=hA.lo
 have ho:=hA.at'
 have h7:=hA.len7 hg
 have ih:∀ a∈t.args,Con e0 139 [.agg (ZaA g),.agg (Zae a)] [.one (.lit (.int .i64 ((sortsTm g a:Nat):Int)))]:=fun a ha=>IH (by
  have h1:=Zbg t
  have h2:=Zbt ha
  omega) (hargs a ha)
 clear IH
 have e:=Zhy hop ho
 rw [e]
 have hss:∀ s∈t.args.map (sortsTm g),s < 2 ^ g.sorts.names.length:=fun s hs=>by
  obtain ⟨a,ha,rfl⟩:=List.mem_map.1 hs
  exact Zek hg (hargs a ha).node
 have hsl:(t.args.map (sortsTm g)).length=t.args.length:=List.length_map _
 have cB:=fun (ha:o.assoc=true)=>Zzo hg h0 ho ha (t.args.map (sortsTm g)) (by rw [hsl];have:=(hA.asc ha).1;omega) (by rw [hsl];exact h7) hss
 have cC:=fun (ha:o.assoc=true)=>Zru hg h0 ho ha (t.args.map (sortsTm g)) (by rw [hsl];have:=(hA.asc ha).1;omega) (by rw [hsl];exact h7) hss
 rw [ZaA] at ih cB cC ⊢
 have hn0:nR []=[]:=rfl
 have ht0:t.args.take 0=[]:=rfl
 refine gI (ts:=[.slot 4]) 4629704814991770879 Tryz.func139 ?_
 (have F:=ai @q1 @tmz;refine gG ?_;clear F)
 (have F:=ai @hn0 (ai @ht0 @tmz);refine gL (ι:=Nat) [5,6,23] [5] (fun i=>[(6,A.d (.one (.lit (.int .i64 i)))),(5,.buf 5)]) (fun i=>[(5,.buf none 3 1 (nR ((t.args.take i).map (sortsTm g))))]) (fun i=>i<=t.args.length) (fun i=>t.args.length - i) (0) (Nat.zero_le _) (fun i hi=>?_);clear F)
 have nl:=ZaQ (l:=(t.args.take i).map (sortsTm g))
 rw [List.length_map,List.length_take_of_le hi] at nl
 have nr:=ZaN (l:=(t.args.take i).map (sortsTm g))
 by_cases hil:i < t.args.length
 ·have q2:((i:Int) < (t.args.length:Int))=True:=eq_true om
  obtain ⟨a,hai⟩:∃ a,t.args[i]?=some a:=⟨_,List.getElem?_eq_getElem hil⟩
  have cA:=ih a (List.mem_of_getElem? hai)
  have ns:=ZhL (l:=(t.args.take i).map (sortsTm g)) (sortsTm g a)
  rw [Zmm hai] at ns
  have hmx:(i+1<=maxApp)=True:=eq_true (by unfold maxApp;omega)
  have hw:=Zay (k:=i) om
  (have F:=ai @q2 @tmz;have NN:Zah 7:=trivial;refine gGn ?_;clear F NN)
  refine gB ?_
  (have F:=ai @hai (ai @Zas @tmz);refine gC (cA) ?_;clear F)
  (have F:=ai @nl (ai @nr (ai @ns (ai @hmx @tmz)));refine gR ?_;clear F)
  (have F:=ai @hw @tmz;refine gG ?_;exact ⟨i+1,hil,gw,gw,by omega⟩)
 obtain rfl:i=t.args.length:=by omega
 have q2:((t.args.length:Int) < (t.args.length:Int))=False:=eq_false om
 rw [List.take_length] at nl nr ⊢
 have hlt:=fun b=>Zek hg (t:=b)
 have hD:=hA.dlen hg
 rw [<- hsl] at hD
 have cF:=fun (ha:o.assoc=false)=>ZkB hg h0 ho (t.args.map (sortsTm g)) (hD ha)
 have h2:=Opr.deg2 hg ho
 rw [ZaA] at cF
 clear hi hil
 cases ha:o.assoc with
 | true =>
  cases hc:o.comm with
  | true =>
   have cB:=cB ha
   have e2:bvN g (Rel2 g o) (t.args.map (sortsTm g)) (2 ^ (t.args.map (sortsTm g)).length - 1)=appS g o (t.args.map (sortsTm g)):=by
    unfold bvN appS
    exact Za0 fun b _=>by unfold AppB;rw [if_pos ha,if_pos hc]
   rw [e2] at cB
   (have F:=ai @q2 (ai @ha (ai @hc (ai @h0 (ai @ho (ai @Zaj @tmz)))));have NN:Zah 10:=trivial;refine gGn ?_;clear F NN)
   refine gB ?_
   (have F:=@tmz;refine gC (cB) ?_;clear F)
   (have F:=@tmz;refine gR ?_;clear F)
   (have F:=@tmz;refine gG ?_;exact gTd)
  | false =>
   have cC:=cC ha
   have e2:cvN g o (t.args.map (sortsTm g)) 0 (t.args.map (sortsTm g)).length=appS g o (t.args.map (sortsTm g)):=by
    unfold cvN appS
    exact Za0 fun b _=>by unfold AppB;rw [if_pos ha,if_neg (by simp [hc])]
   rw [e2] at cC
   (have F:=ai @q2 (ai @ha (ai @hc (ai @h0 (ai @ho (ai @Zaj @tmz)))));have NN:Zah 12:=trivial;refine gGn ?_;clear F NN)
   refine gB ?_
   (have F:=@tmz;refine gC (cC) ?_;clear F)
   (have F:=@tmz;refine gR ?_;clear F)
   (have F:=@tmz;refine gG ?_;exact gTd)
 | false =>
  have h3:t.args.length<=3:=by
   rw [hA.nas ha]
   exact (hg.decls o (List.mem_of_getElem? ho)).ar d hA.fst
  have cF:=cF ha (by rw [hsl];exact h3) hss
  cases hc:o.comm with
  | true =>
   have e2:ofB (Zdj g o (t.args.map (sortsTm g))) g.sorts.names.length ||| ofB (Zdj g o (t.args.map (sortsTm g)).reverse) g.sorts.names.length=appS g o (t.args.map (sortsTm g)):=by
    unfold appS
    rw [Zf1]
    exact Za0 fun b _=>by unfold AppB AnyB;rw [if_neg (by simp [ha]),hc];simp
   have hor:=Zdx (ZbB (ZbY (Zdj g o (t.args.map (sortsTm g))) g.sorts.names.length) hg.sorts.n8) (ZbB (ZbY (Zdj g o (t.args.map (sortsTm g)).reverse) g.sorts.names.length) hg.sorts.n8)
   rw [e2] at hor
   have cG:=ZkB hg h0 ho (t.args.map (sortsTm g)).reverse (by rw [List.length_reverse];exact hD ha) (by rw [List.length_reverse,hsl];exact h3) (fun s hs=>hss s (List.mem_reverse.1 hs))
   rw [ZaA] at cG
   have hl2:(t.args.map (sortsTm g)).length=2:=by rw [hsl,hA.nas ha];exact h2 (.inr (.inl hc)) d (List.mem_of_getElem? hA.fst)
   clear e2 cB cC hD h2 ih hargs e
   rw [hsl] at hl2
   generalize appS g o (t.args.map (sortsTm g))=V at hor ⊢
   generalize ofB (Zdj g o (t.args.map (sortsTm g))) g.sorts.names.length=V1 at hor cF
   generalize ofB (Zdj g o (t.args.map (sortsTm g)).reverse) g.sorts.names.length=V2 at hor cG
   have hl3:=hsl
   rw [hl2] at hl3 nl
   obtain ⟨s1,s2,hs12⟩:∃ s1 s2,t.args.map (sortsTm g)=[s1,s2]:=by
    match t.args.map (sortsTm g),hl3 with
    | [x,y],_=>exact ⟨x,y,rfl⟩
   rw [hs12] at cF cG nr nl ⊢
   simp only [List.reverse_cons,List.reverse_nil,List.nil_append,List.singleton_append] at cG
   have cG:=Zf2 cG
   have g0:(nR [s1,s2])[0]?=some [.lit (.int .i64 s1)]:=rfl
   have g1:(nR [s1,s2])[1]?=some [.lit (.int .i64 s2)]:=rfl
   (have F:=ai @q2 (ai @ha (ai @hc (ai @h0 (ai @ho (ai @Zaj @tmz)))));have NN:Zah 14:=trivial;refine gGn ?_;clear F NN)
   refine Zcq (ZeV [5] (by simp only [pz,↓reduceIte,Nat.reduceEqDiff,Nat.reduceAdd,Nat.reduceSub,Nat.reduceMul,Nat.reduceLeDiff,Nat.reduceBEq,Bool.false_eq_true,decide_true,decide_false,Int.reduceLE,Int.reduceToNat,Int.reduceLT,Int.reduceEq,eq_self,Nat.reduceShiftRight,Nat.reduceAnd,Nat.reduceBneDiff,tmz];exact rfl)) fun σ' hσ=>?_
   subst hσ
   refine gB ?_
   (have F:=@tmz;refine gC (cF) ?_;clear F)
   (have F:=ai @nl (ai @nr (ai @g0 (ai @g1 @tmz)));refine gC (cG) ?_;clear F)
   (have F:=ai @hor @tmz;refine gR ?_;clear F)
   (have F:=@tmz;refine gG ?_;exact gTd)
  | false =>
   have e2:ofB (Zdj g o (t.args.map (sortsTm g))) g.sorts.names.length=appS g o (t.args.map (sortsTm g)):=by
    unfold appS
    exact Za0 fun b _=>by unfold AppB AnyB;rw [if_neg (by simp [ha]),hc];simp
   rw [e2] at cF
   (have F:=ai @q2 (ai @ha (ai @hc (ai @h0 (ai @ho (ai @Zaj @tmz)))));have NN:Zah 15:=trivial;refine gGn ?_;clear F NN)
   refine gB ?_
   (have F:=@tmz;refine gC (cF) ?_;clear F)
   (have F:=@tmz;refine gR ?_;clear F)
   (have F:=@tmz;refine gG ?_;exact gTd)
end
section
variable {g:Sgn}
def ZfO (g:Sgn) (b:Nat) (t:Tm) (l:List (ByteArray × Value)) (r:List D) (pm:List Bk):Prop:=∃ l',r=[.one (.lit (.int .i64 (sortsTm g t:Nat)))]∧pm=[mapB b l']∧Memo g l'∧Grew g (sizeTm t) l l'
theorem ZFB:∀ (b:Nat) (l:List (ByteArray × Value)),pinned (mapB b l)=true:=fun _ _=>rfl
set_option maxRecDepth 100000 in
theorem ZjD (hg:SgnOk g) (b:Nat):∀ (n:Nat) {t:Tm},sizeTm t < n->sizeTm t<=60->ZaM g t->∀ l,Memo g l->ConP e0 116 [.one (.ptr (encX g (.lit (.map (some b))))),.agg (Zae t)] [mapB b l] (ZfO g b t l):=by
 intro n
 induction n with
 | zero=>exact fun {t} h _ _ _ _=>absurd h om
 | succ n IH =>
 intro t hsz h60 hf l hM
 obtain ⟨hnode,hargs,_⟩:=Zbj.1 hf
 by_cases hop:t.op=-1
 ·have hv:Zc5 g t:=hnode.resolve_right fun ⟨o,d,hA⟩=>by have:=hA.lo;omega
  have q1:(t.op < 0)=True:=eq_true om
  have hgk:=ZhS hg.sorts hv.2.2.1 hv.2.2.2.1
  have hgk:=ZaP hgk.1
  have e:=Zhx (g:=g) hop
  have ul:=ZaQ (l:=up g.sorts)
  rw [(ZfE (SortsOk.subsIn hg.sorts.subs)).1] at ul
  have ur:=ZaN (l:=up g.sorts)
  have i0:0<=t.sort:=hv.2.2.1
  have i1:(t.sort.toNat < g.sorts.names.length)=True:=eq_true (by have:=hv.2.2.2.1;omega)
  have hR:ZfO g b t l [.one (.lit (.int .i64 (upk g t.sort:Nat)))] [mapB b l]:=⟨l,by rw [e],rfl,hM,Grew.refl⟩
  clear IH hargs
  unfold nR at ul ur hgk
  refine gIP (ts:=[.slot 4]) [1000] 604463053930783360175611 Tryz.func116 ?_
  (have F:=ai @q1 (ai @i0 (ai @i1 (ai @ul (ai @ur (ai @hgk (ai @Za8 @tmz))))));refine gG ?_;clear F)
  exact (have F:=tmz;gTP (R:=ZfO g b t l) [1000] hR (hp:=rfl))
 have q1:(t.op < 0)=False:=eq_false (by
  obtain ⟨o,d,hA⟩:∃ o d,AppOk g t o d:=hnode.resolve_left fun hv=>hop hv.1
  have:=hA.lo;omega)
 obtain ⟨o,d,hA⟩:∃ o d,AppOk g t o d:=hnode.resolve_left fun hv=>hop hv.1
 have cK:=Zzm hg hf h60
 refine gIP (ts:=[.slot 4]) [1000] 604463053930783360175611 Tryz.func116 ?_
 (have F:=ai @q1 @tmz;have NN:Zah 3:=trivial;refine gGn ?_;clear F NN)
 refine gB ?_
 (have F:=@tmz;refine gC (cK) ?_;clear F)
 (have F:=@tmz;refine gR ?_;clear F)
 (have F:=@tmz;have NN:Zah 4:=trivial;refine gGn ?_;clear F NN)
 refine gB ?_
 (have F:=ai @Za8 @tmz;refine gP 5 ?_;clear F)
 cases hfs:ZbK l (keyS t) with
 | some v =>
  have hv:=hM t hf v hfs
  subst hv
  have hR:ZfO g b t l [.one (.lit (.int .i64 (sortsTm g t:Nat)))] [mapB b l]:=⟨l,rfl,rfl,hM,Grew.refl⟩
  refine (have F:=tmz;gLo 1000 Zgv ZdP Zzn (v:=.int .i64 (sortsTm g t:Nat)) (f:=true) (by rw [hfs];rfl) (by rw [hfs];rfl) ?_)
  (have F:=@tmz;refine gR ?_;clear F)
  (have F:=@tmz;refine gG ?_;clear F)
  exact (have F:=tmz;gTP (R:=ZfO g b t l) [1000] hR (hp:=rfl))
 | none =>
 refine (have F:=tmz;gLo 1000 Zgv ZdP Zzn (v:=.int .i64 0) (f:=false) (by rw [hfs];rfl) (by rw [hfs];rfl) ?_)
 have h7:=hA.len7 hg
 have hn0:nR []=[]:=rfl
 have ht0:t.args.take 0=[]:=rfl
 (have F:=@tmz;refine gR ?_;clear F)
 (have F:=@tmz;refine gG ?_;clear F)
 (have F:=ai @hn0 (ai @ht0 @tmz);refine gL (ι:=Nat × List (ByteArray × Value)) [8,10,41,42] [8,1000] (fun x=>[(41,A.d (.one (.lit (.int .i64 x.1)))),(8,.buf 8)]) (fun x=>[(8,.buf none 3 1 (nR ((t.args.take x.1).map (sortsTm g)))),(1000,mapB b x.2)]) (fun x=>x.1<=t.args.length∧Memo g x.2∧Grew g (sizeTm t - 1) l x.2) (fun x=>t.args.length - x.1) ((0,l)) (⟨Nat.zero_le _,hM,Grew.refl⟩) (fun x hx=>?_);clear F)
 obtain ⟨i,l1⟩:=x
 obtain ⟨hi,hM1,hG1⟩:=hx
 simp only at hi hM1 hG1
 dsimp only
 have nl:=ZaQ (l:=(t.args.take i).map (sortsTm g))
 rw [List.length_map,List.length_take_of_le hi] at nl
 have nr:=ZaN (l:=(t.args.take i).map (sortsTm g))
 by_cases hil:i < t.args.length
 ·have q2:((i:Int) < (t.args.length:Int))=True:=eq_true om
  obtain ⟨a,hai⟩:∃ a,t.args[i]?=some a:=⟨_,List.getElem?_eq_getElem hil⟩
  have ham:=List.mem_of_getElem? hai
  have hs1:=Zbg t
  have hs2:=Zbt ham
  have cA:=IH (t:=a) om om (hargs a ham) l1 hM1
  have ns:=ZhL (l:=(t.args.take i).map (sortsTm g)) (sortsTm g a)
  rw [Zmm hai] at ns
  have hmx:(i+1<=maxApp)=True:=eq_true (by unfold maxApp;omega)
  have hw:=Zay (k:=i) om
  (have F:=ai @q2 (ai @hai (ai @Zas @tmz));have NN:Zah 11:=trivial;refine gGn ?_;clear F NN)
  refine gB ?_
  (have F:=ai @ZFB (ai @Za8 (ai @hai (ai @Zas @tmz)));refine gCP [1000] [1000] (hpn:=rfl) (cA) ?_;clear F)
  rintro r pm ⟨l2,rfl,rfl,hM2,hG2⟩
  simp only [setA,retA,zipM,List.cons_append,List.nil_append]
  (have F:=ai @nl (ai @nr (ai @ns (ai @hmx @tmz)));refine gR ?_;clear F)
  (have F:=ai @hw @tmz;refine gG ?_;exact ⟨(i+1,l2),⟨hil,hM2,hG1.trans (hG2.mono om)⟩,gw,gw,by omega⟩)
 obtain rfl:i=t.args.length:=by omega
 have q2:((t.args.length:Int) < (t.args.length:Int))=False:=eq_false om
 rw [List.take_length] at nl nr ⊢
 clear IH
 have h0:=hA.lo
 have ho:=hA.at'
 have e:=Zhy hop ho
 have hnone:ZbK l1 (keyS t)=none:=hG1 t hf (by have:=Zbg t;omega) hfs
 have hR:ZfO g b t l [.one (.lit (.int .i64 (sortsTm g t:Nat)))] [mapB b (l1++[(keyS t,.int .i64 (sortsTm g t:Nat))])]:=⟨_,rfl,rfl,hM1.snoc hg hf,(hG1.mono om).trans (Grew.snoc hg hf)⟩
 have hss:∀ s∈t.args.map (sortsTm g),s < 2 ^ g.sorts.names.length:=fun s hs=>by
  obtain ⟨a,ha,rfl⟩:=List.mem_map.1 hs
  exact Zek hg (hargs a ha).node
 have hsl:(t.args.map (sortsTm g)).length=t.args.length:=List.length_map _
 have h3:o.assoc=false->t.args.length<=3:=fun ha=>by
  rw [hA.nas ha]
  exact (hg.decls o (List.mem_of_getElem? ho)).ar d hA.fst
 have hD:=hA.dlen hg
 have h2:=Opr.deg2 hg ho
 have cR:=fun h1 h2=>ZhB (mc:=.lit (.map (some b))) hg h0 ho (t.args.map (sortsTm g)) h1 h2 hss
 have cA:=fun h1 h2 h3=>Zm7 (mc:=.lit (.map (some b))) hg h0 ho h1 h2 (t.args.map (sortsTm g)) h3 (by rw [hsl];exact h7) hss
 have cW:=fun h1 h2 h3=>Zm8 (mc:=.lit (.map (some b))) hg h0 ho h1 h2 (t.args.map (sortsTm g)) h3 (by rw [hsl];exact h7) hss
 have eR:=ZEH hg ho (sets:=t.args.map (sortsTm g))
 rw [hsl] at cR cA cW eR
 have eA:o.assoc=true->o.comm=true->bvN g (Rel2 g o) (t.args.map (sortsTm g)) (2 ^ t.args.length - 1)=sortsTm g t:=fun ha hc=>by
  rw [e]
  unfold bvN appS
  exact Za0 fun b _=>by unfold AppB;rw [if_pos ha,if_pos hc,hsl]
 have eC:o.assoc=true->o.comm=false->cvN g o (t.args.map (sortsTm g)) 0 t.args.length=sortsTm g t:=fun ha hc=>by
  rw [e]
  unfold cvN appS
  exact Za0 fun b _=>by unfold AppB;rw [if_pos ha,if_neg (by simp [hc]),hsl]
 rw [<- e] at eR
 clear hargs e hss
 by_cases hle:t.args.length<=2
 ·have q3:((t.args.length:Int)<=2)=True:=eq_true om
  have cR:=cR (by
   cases ha:o.assoc with
   | true=>exact fun f hf=>by rw [h2 (.inl ha) f hf];have:=(hA.asc ha).1;omega
   | false=>exact hD ha) om
  rw [eR fun ha=>by have:=(hA.asc ha).1;omega] at cR
  (have F:=ai @q2 (ai @q3 (ai @nl (ai @nr @tmz)));have NN:Zah 16:=trivial;refine gGn ?_;clear F NN)
  refine gB ?_
  (have F:=ai @Za8 @tmz;refine gC (cR) ?_;clear F)
  (have F:=@tmz;refine gR ?_;clear F)
  (have F:=@tmz;have NN:Zah 19:=trivial;refine gGn ?_;clear F NN)
  refine gB ?_
  (have F:=ai @Za8 @tmz;refine gP 6 ?_;clear F)
  refine (have F:=tmz;gUp 1000 Zgv ZdP hnone ?_)
  (have F:=@tmz;refine gR ?_;clear F)
  (have F:=@tmz;refine gG ?_;clear F)
  exact (have F:=tmz;gTP (R:=ZfO g b t l) [1000] hR (hp:=rfl))
 have q3:((t.args.length:Int)<=2)=False:=eq_false om
 cases ha:o.assoc with
 | false =>
  have cR:=cR (hD ha) (h3 ha)
  rw [eR fun ha'=>by rw [ha] at ha';cases ha'] at cR
  (have F:=ai @q2 (ai @q3 (ai @nl (ai @nr (ai @ha (ai @h0 (ai @ho (ai @Za8 (ai @Zaj @tmz))))))));have NN:Zah 16:=trivial;refine gGn ?_;clear F NN)
  refine gB ?_
  (have F:=ai @Za8 @tmz;refine gC (cR) ?_;clear F)
  (have F:=@tmz;refine gR ?_;clear F)
  (have F:=@tmz;have NN:Zah 19:=trivial;refine gGn ?_;clear F NN)
  refine gB ?_
  (have F:=ai @Za8 @tmz;refine gP 6 ?_;clear F)
  refine (have F:=tmz;gUp 1000 Zgv ZdP hnone ?_)
  (have F:=@tmz;refine gR ?_;clear F)
  (have F:=@tmz;refine gG ?_;clear F)
  exact (have F:=tmz;gTP (R:=ZfO g b t l) [1000] hR (hp:=rfl))
 | true =>
  have h1:1<=t.args.length:=by omega
  cases hc:o.comm with
  | true =>
   have cA:=cA ha hc h1
   rw [eA ha hc] at cA
   (have F:=ai @q2 (ai @q3 (ai @nl (ai @nr (ai @ha (ai @hc (ai @h0 (ai @ho (ai @Za8 (ai @Zaj @tmz)))))))));have NN:Zah 18:=trivial;refine gGn ?_;clear F NN)
   refine gB ?_
   (have F:=ai @Za8 @tmz;refine gC (cA) ?_;clear F)
   (have F:=@tmz;refine gR ?_;clear F)
   (have F:=@tmz;have NN:Zah 19:=trivial;refine gGn ?_;clear F NN)
   refine gB ?_
   (have F:=ai @Za8 @tmz;refine gP 6 ?_;clear F)
   refine (have F:=tmz;gUp 1000 Zgv ZdP hnone ?_)
   (have F:=@tmz;refine gR ?_;clear F)
   (have F:=@tmz;refine gG ?_;clear F)
   exact (have F:=tmz;gTP (R:=ZfO g b t l) [1000] hR (hp:=rfl))
  | false =>
   have cW:=cW ha hc h1
   rw [eC ha hc] at cW
   (have F:=ai @q2 (ai @q3 (ai @nl (ai @nr (ai @ha (ai @hc (ai @h0 (ai @ho (ai @Za8 (ai @Zaj @tmz)))))))));have NN:Zah 14:=trivial;refine gGn ?_;clear F NN)
   refine gB ?_
   (have F:=ai @Za8 @tmz;refine gC (cW) ?_;clear F)
   (have F:=@tmz;refine gR ?_;clear F)
   (have F:=@tmz;have NN:Zah 19:=trivial;refine gGn ?_;clear F NN)
   refine gB ?_
   (have F:=ai @Za8 @tmz;refine gP 6 ?_;clear F)
   refine (have F:=tmz;gUp 1000 Zgv ZdP hnone ?_)
   (have F:=@tmz;refine gR ?_;clear F)
   (have F:=@tmz;refine gG ?_;clear F)
   exact (have F:=tmz;gTP (R:=ZfO g b t l) [1000] hR (hp:=rfl))
end
section
variable {g:Sgn}
noncomputable def sortsOf (g:Sgn) (t:Tm):Nat:=if ZbJ g=true∧Zb3 g t=true then sortsTm g t else 0
theorem Zmn (hok:Zdq g) {t:Tm} (ht:okTm t) (hb:sizeTm t<=big):Con e0 120 [.agg (ZaA g),.agg (Zae t)] [.one (.lit (.int .i64 ((sortsOf g t:Nat):Int)))]:=by
 have cT:=ZhP hok ht hb
 unfold sortsOf
 by_cases h:ZbJ g=true∧Zb3 g t=true
 ·have e:(ZbJ g && Zb3 g t)=true:=by rw [h.1,h.2];rfl
  have cS:=Zrv (ZeX.1 h.1) _ (Nat.lt_succ_self _) (Zeg.1 h.2).form
  rw [if_pos h]
  rw [e] at cT
  rw [ZaA] at cT cS ⊢
  refine gI (ts:=[.slot 4]) 287 Tryz.func120 ?_
  (have F:=@tmz;have NN:Zah 1:=trivial;refine gGn ?_;clear F NN)
  refine gB ?_
  (have F:=@tmz;refine gC (cT) ?_;clear F)
  (have F:=@tmz;refine gR ?_;clear F)
  (have F:=@tmz;have NN:Zah 3:=trivial;refine gGn ?_;clear F NN)
  refine gB ?_
  (have F:=@tmz;refine gC (cS) ?_;clear F)
  (have F:=@tmz;refine gR ?_;clear F)
  (have F:=@tmz;refine gG ?_;exact gTd)
 ·have e:(ZbJ g && Zb3 g t)=false:=by
   cases h1:ZbJ g with
   | false=>rfl
   | true =>
    cases h2:Zb3 g t with
    | false=>rfl
    | true=>exact absurd ⟨h1,h2⟩ h
  have z0:(((0:Nat):Int))=0:=rfl
  rw [if_neg h]
  rw [e] at cT
  rw [ZaA] at cT ⊢
  refine gI (ts:=[.slot 4]) 287 Tryz.func120 ?_
  (have F:=@tmz;have NN:Zah 1:=trivial;refine gGn ?_;clear F NN)
  refine gB ?_
  (have F:=@tmz;refine gC (cT) ?_;clear F)
  (have F:=@tmz;refine gR ?_;clear F)
  (have F:=ai @z0 @tmz;refine gG ?_;exact gTd)
def RAlg (g:Sgn) (r:List D) (pm:List Bk):Prop:=∃ b:Nat,r=[.one (.ptr (encX g (.lit (.map (some b))))),.one (.lit (.bool true))]∧pm=[mapB b []]
set_option maxRecDepth 100000 in
theorem Zrw (hok:Zdq g) (hg:SgnOk g):ConP e0 49 [.agg (ZaA g)] [] (RAlg g):=by
 have hs:ZbJ g=true:=Zgi hg
 have c:=Zkl hok
 rw [hs,ZaA] at c
 have c2:=Zji hok.1 hg.sorts
 rw [Zbc,Zea] at c2
 rw [ZaA]
 refine gIP (ts:=[.slot 2,.slot 3]) [] 287 Tryz.func49 ?_
 (have F:=@tmz;have NN:Zah 1:=trivial;refine gGn ?_;clear F NN)
 refine gB ?_
 (have F:=@tmz;refine gC (c) ?_;clear F)
 (have F:=@tmz;refine gR ?_;clear F)
 (have F:=@tmz;have NN:Zah 3:=trivial;refine gGn ?_;clear F NN)
 refine gB ?_
 (have F:=@tmz;refine gC (c2) ?_;clear F)
 (have F:=@tmz;refine gR ?_;clear F)
 (have F:=@tmz;have NN:Zah 4:=trivial;refine gGn ?_;clear F NN)
 refine gB ?_
 (have F:=@tmz;refine gP 2 ?_;clear F)
 refine gMk fun b=>?_
 (have F:=@tmz;refine gR ?_;clear F)
 refine Zcq (ZeV [19] (by simp only [pz,↓reduceIte,Nat.reduceEqDiff,Nat.reduceAdd,Nat.reduceSub,Nat.reduceMul,Nat.reduceLeDiff,Nat.reduceBEq,Bool.false_eq_true,decide_true,decide_false,Int.reduceLE,Int.reduceToNat,Int.reduceLT,Int.reduceEq,eq_self,Nat.reduceShiftRight,Nat.reduceAnd,Nat.reduceBneDiff,tmz];exact rfl)) fun σ' hσ=>?_
 subst hσ
 exact (have F:=tmz;gTP (R:=RAlg g) [17] ⟨b,rfl,rfl⟩ (hp:=rfl))
end
section
variable {g:Sgn} {l:List Bd}
theorem Zc5.term {t:Tm} (h:Zc5 g t):TermOk g t:=by
 have ha0:t.args=[]:=h.2.2.2.2
 have hf:ZaM g t:=Zbj.2 ⟨.inl h,(by rw [ha0];intro a ha;cases ha),.inl h.1⟩
 have h1:=Zbg t
 rw [ha0,ZnD] at h1
 have h2:=ZlV t
 exact ⟨by omega,by omega,hf⟩
theorem TermOk.var {t:Tm} (h:TermOk g t) (ho:t.op=-1):Zc5 g t:=h.form.node.resolve_right fun ⟨o,d,hA⟩=>by have:=hA.lo;omega
theorem bd_l:∀ (b:Bd),(ZaR b).length=8:=fun b=>by simp [ZaR,tmz]
theorem ZD4:∀ (b:Bd),(ZaR b).take 8=ZaR b:=fun b=>List.take_of_length_le (by rw [bd_l];omega)
theorem ZD5:∀ (b:Bd),(ZaR b).drop 8=[]:=fun b=>List.drop_eq_nil_of_le (by rw [bd_l];omega)
theorem Zvl:∀ (b:Bd),(ZaR b).take 4=Zae b.var:=fun ⟨v,t⟩=>by cases v;simp [ZaR,Zae]
theorem Zvm:∀ (b:Bd),(ZaR b).drop 4=Zae b.to:=fun ⟨v,t⟩=>by cases v;simp [ZaR,Zae]
theorem ZD6:∀ (b:Bd),(ZaR b).drop 2=.lit (.int .i64 b.var.sort)::.sl (Zaf b.var.args)::Zae b.to:=fun ⟨v,t⟩=>by cases v;simp [ZaR,Zae,Tm.sort,Tm.args]
theorem bd_o:∀ (b:Bd),valT TK.one (ZaR b)=some (A.d (D.one (C.lit (Value.int IntKind.i64 b.var.op)))):=fun ⟨v,t⟩=>by cases v;simp [ZaR,Zae,Tm.op,valT]
theorem bd_k:∀ (b:Bd),(ZaR b).all Zaw=true:=fun b=>by simp [ZaR,List.all_append,tmz]
theorem bdz:type_of% (ai bd_l (ai ZD4 (ai ZD5 (ai Zvl (ai Zvm (ai ZD6 (ai bd_o bd_k))))))):=ai bd_l (ai ZD4 (ai ZD5 (ai Zvl (ai Zvm (ai ZD6 (ai bd_o bd_k))))))
set_option maxRecDepth 100000 in
theorem ZhC (hok:Zdq g) (hl:ZcS l) (hv:∀ y∈l,sizeTm y.var<=big) (ht:∀ y∈l,sizeTm y.to<=big):Con e0 64 [.agg (ZaA g),.one (.sl (Zal l))] [.one (.lit (.bool (ZbJ g && ZbQ g l)))]:=by
 have cS:=Zkm hok
 have bl:=Zbd l
 have bg:=Zca l
 have hT:=fun y (hy:y∈l)=>ZhP hok (hl y hy).1 (hv y hy)
 have hO:=fun y (hy:y∈l)=>Zmn hok (hl y hy).2 (ht y hy)
 have hC:=fun y z (hy:y∈l) (hz:z∈l)=>Zew (hl y hy).1 (hl z hz).1
 rw [ZaA] at cS hT hO ⊢
 have bb:ZaX 8 (Zal l)=true:=by
  refine List.all_eq_true.2 fun r hr=>?_
  obtain ⟨y,hy,rfl⟩:=List.mem_map.1 hr
  simp [ZaR,List.all_append,tmz]
 refine gI (ts:=[.slot 4]) 1152991873351303287 Tryz.func64 ?_
 (have F:=@tmz;have NN:Zah 1:=trivial;refine gGn ?_;clear F NN)
 refine gB ?_
 (have F:=@tmz;refine gC (cS) ?_;clear F)
 cases hs:ZbJ g with
 | false =>
  (have F:=@tmz;refine gR ?_;clear F)
  (have F:=@tmz;refine gG ?_;exact gTd)
 | true =>
 rw [Bool.true_and]
 by_cases h8:l.length<=8
 rotate_left
 ·have q1:((8:Int) < (l.length:Int))=True:=eq_true om
  have hf:ZbQ g l=false:=ZfM fun h=>h8 h.len
  rw [hf]
  (have F:=ai @bl (ai @q1 @tmz);refine gR ?_;clear F)
  (have F:=@tmz;refine gG ?_;exact gTd)
 have q1:((8:Int) < (l.length:Int))=False:=eq_false om
 (have F:=ai @bl (ai @q1 @tmz);refine gR ?_;clear F)
 (have F:=@tmz;refine gG ?_;clear F)
 (have F:=@tmz;refine gL (ι:=Nat) [4,5,6,18,46,60] [] (fun i=>[(5,A.d (.one (.lit (.int .i64 i))))]) (fun i=>[]) (fun i=>i<=l.length∧∀ (j:Nat) y,j < i->l[j]?=some y->SbsAt g l j y) (fun i=>l.length - i) (0) (⟨Nat.zero_le _,fun j y h=>absurd h om⟩) (fun i hi=>?_);clear F)
 obtain ⟨hi,hall⟩:=hi
 by_cases hil:i < l.length
 rotate_left
 ·obtain rfl:i=l.length:=by omega
  have q2:((l.length:Int) < (l.length:Int))=False:=eq_false om
  have hf:ZbQ g l=true:=Zmf ⟨h8,fun j y hj=>hall j y (List.getElem?_eq_some_iff.1 hj).1 hj⟩
  rw [hf]
  (have F:=ai @q2 (ai @bl @tmz);refine gG ?_;exact gTd)
 have q2:((i:Int) < (l.length:Int))=True:=eq_true om
 obtain ⟨y,hy⟩:∃ y,l[i]?=some y:=⟨_,List.getElem?_eq_getElem hil⟩
 have hym:=List.mem_of_getElem? hy
 have hbad:¬ SbsAt g l i y->ZbQ g l=false:=fun h=>ZfM fun h'=>h (h'.at' i y hy)
 have cT:=hT y hym
 have cO:=hO y hym
 rw [hs,Bool.true_and] at cT
 (have F:=ai @q2 (ai @bl (ai @bb (ai @bg (ai @hy (ai @bdz (ai @Zas @tmz))))));have NN:Zah 7:=trivial;refine gGn ?_;clear F NN)
 by_cases hop:y.var.op=-1
 rotate_left
 ·have q3:(y.var.op=-1)=False:=eq_false hop
  have hf:=hbad fun h=>hop h.var.1
  rw [hf]
  (have F:=ai @q3 (ai @bdz @tmz);refine gG ?_;exact gTd)
 have q3:(y.var.op=-1)=True:=eq_true hop
 refine gB ?_
 (have F:=ai @q3 (ai @bdz @tmz);refine gC (cT) ?_;clear F)
 by_cases hTv:Zb3 g y.var=true
 rotate_left
 ·have hf:=hbad fun h=>hTv (ZfK h.var.term)
  have hTv:Zb3 g y.var=false:=by simpa using hTv
  rw [hf,hTv]
  (have F:=ai @bdz @tmz;refine gR ?_;clear F)
  (have F:=@tmz;refine gG ?_;exact gTd)
 have hvo:=(Zeg.1 hTv).var hop
 have hg:=ZeX.1 hs
 rw [hTv]
 (have F:=ai @bdz @tmz;refine gC (cO) ?_;clear F)
 obtain ⟨k,hk⟩:∃ k:Nat,y.var.sort=k:=⟨y.var.sort.toNat,by have:=hvo.2.2.1;omega⟩
 have hk8:k < 8:=by have:=hvo.2.2.2.1;have:=hg.sorts.n8;omega
 have hso:sortsOf g y.to < 4611686018427387904:=by
  unfold sortsOf
  split
  ·next h=>exact ZbB (Zek hg (Zeg.1 h.2).form.node) hg.sorts.n8
  ·omega
 have cH:=ZfY (k:=k) hso om
 have hte:tbit (sortsOf g y.to) k=true ↔ TermOk g y.to∧(sortsTm g y.to).testBit y.var.sort.toNat=true:=by
  have e:y.var.sort.toNat=k:=by omega
  rw [tbit,e]
  unfold sortsOf
  by_cases h:Zb3 g y.to=true
  ·rw [if_pos ⟨hs,h⟩]
   exact ⟨fun h1=>⟨Zeg.1 h,h1⟩,fun h1=>h1.2⟩
  ·rw [if_neg fun h1=>h h1.2,Nat.zero_testBit]
   exact ⟨fun h1=>(by cases h1),fun h1=>absurd (ZfK h1.1) h⟩
 rw [<- hk] at cH
 (have F:=ai @bdz @tmz;refine gC (cH) ?_;clear F)
 cases hb:tbit (sortsOf g y.to) k with
 | false =>
  have hf:=hbad fun h=>by rw [hte.2 ⟨h.to',h.srt⟩] at hb;cases hb
  rw [hf]
  (have F:=ai @bdz @tmz;refine gR ?_;clear F)
  (have F:=@tmz;refine gG ?_;exact gTd)
 | true =>
 obtain ⟨b1,b2⟩:=hte.1 hb
 (have F:=ai @bdz @tmz;refine gR ?_;clear F)
 have hwi:=Zay (k:=i) om
 have hnext:(∀ (j:Nat) p,i=j+1->l[j]?=some p->Zak p.var y.var < 0)->i+1<=l.length∧∀ (j:Nat) z,j < i+1->l[j]?=some z->SbsAt g l j z:=fun ho=>⟨hil,fun j z h1 h2=>by
  by_cases e:j=i
  ·subst e
   rw [hy] at h2
   injection h2 with h2
   subst h2
   exact ⟨hvo,ho,b1,b2⟩
  ·exact hall j z om h2⟩
 by_cases hi0:i=0
 ·subst hi0
  have q4:((0:Int) < ((0:Nat):Int))=False:=eq_false om
  (have F:=ai @q4 (ai @hwi (ai @bdz @tmz));refine gG ?_;exact ⟨0+1,hnext fun j p h=>absurd h om,gw,gw,by omega⟩)
 obtain ⟨j,rfl⟩:∃ j,i=j+1:=⟨i - 1,by omega⟩
 have q4:((0:Int) < ((j+1:Nat):Int))=True:=eq_true om
 obtain ⟨p,hp⟩:∃ p,l[j]?=some p:=⟨_,List.getElem?_eq_getElem om⟩
 have cC:=hC p y (List.mem_of_getElem? hp) hym
 have wj:IntKind.i64.wrap (((j+1:Nat):Int) - 1)=(j:Int):=ZaV om om om
 have i1:(j < l.length)=True:=eq_true om
 (have F:=@tmz;have NN:Zah 9:=trivial;refine gGn ?_;clear F NN)
 refine gB ?_
 (have F:=ai @q4 (ai @wj (ai @i1 (ai @bl (ai @bb (ai @bg (ai @hp (ai @bdz (ai @Zas @tmz))))))));refine gC (cC) ?_;clear F)
 by_cases hcm:Zak p.var y.var < 0
 ·have q5:((0:Int)<=Zak p.var y.var)=False:=eq_false om
  have hn2:=hnext fun j' p' h h1=>by
   obtain rfl:j=j':=by omega
   rw [hp] at h1
   injection h1 with h1
   subst h1
   exact hcm
  (have F:=ai @q5 (ai @bdz @tmz);refine gR ?_;clear F)
  (have F:=ai @hwi (ai @bdz @tmz);refine gG ?_;exact ⟨j+1+1,hn2,gw,gw,by omega⟩)
 ·have q5:((0:Int)<=Zak p.var y.var)=True:=eq_true om
  have hf:=hbad fun h=>hcm (h.ord j p rfl hp)
  rw [hf]
  (have F:=ai @q5 (ai @bdz @tmz);refine gR ?_;clear F)
  (have F:=@tmz;refine gG ?_;exact gTd)
end
theorem Zc5.eq_iff {g:Sgn} {a b:Tm} (ha:Zc5 g a) (hb:Zc5 g b):Zak a b=0 ↔ a.name=b.name∧a.sort=b.sort:=by
 rw [Zjl]
 obtain ⟨h1,_,_,_,h2⟩:=ha
 obtain ⟨h3,_,_,_,h4⟩:=hb
 obtain ⟨o,n,s,l⟩:=a
 obtain ⟨o',n',s',l'⟩:=b
 simp only [Tm.op,Tm.args] at h1 h2 h3 h4
 subst h1 h2 h3 h4
 simp [Tm.name,Tm.sort]
section
variable {g:Sgn} {l:List Bd}
theorem Zvn:∀ (b:Bd),(ZaR b).drop 1=.lit (.string b.var.name)::.lit (.int .i64 b.var.sort)::.sl (Zaf b.var.args)::Zae b.to:=fun ⟨v,t⟩=>by cases v;simp [ZaR,Zae,Tm.sort,Tm.args,Tm.name]
theorem bds8 (l:List Bd):ZaX 8 (Zal l)=true:=by
 refine List.all_eq_true.2 fun r hr=>?_
 obtain ⟨y,hy,rfl⟩:=List.mem_map.1 hr
 simp [ZaR,List.all_append,tmz]
theorem ZnU {l:List Bd} {i:Nat} {y:Bd} (h:l[i]?=some y) (v:Tm):Zb1 (l.drop i) v=if Zak y.var v=0 then some y.to else Zb1 (l.drop (i+1)) v:=by
 obtain ⟨hi,rfl⟩:=List.getElem?_eq_some_iff.1 h
 rw [List.drop_eq_getElem_cons hi];rfl
set_option maxRecDepth 100000 in
theorem Zrx (hl:∀ y∈l,Zc5 g y.var) (h8:l.length<=8) {v:Tm} (hv:Zc5 g v):Con e0 117 [.one (.sl (Zal l)),.agg (Zae v)] [.agg (Zae ((Zb1 l v).getD v)),.one (.lit (.bool (Zb1 l v).isSome))]:=by
 have bl:=Zbd l
 have bg:=Zca l
 have bb:=bds8 l
 refine gI (ts:=[.cell 4 46,.slot 5]) 134221755 Tryz.func117 ?_
 (have F:=ai @bl @tmz;refine gG ?_;clear F)
 (have F:=@tmz;refine gL (ι:=Nat) [5,7,10,11,27] [] (fun i=>[(10,A.d (.one (.lit (.int .i64 i))))]) (fun i=>[]) (fun i=>i<=l.length∧Zb1 (l.drop i) v=Zb1 l v) (fun i=>l.length - i) (0) (⟨Nat.zero_le _,rfl⟩) (fun i hi=>?_);clear F)
 obtain ⟨hi,hlo⟩:=hi
 by_cases hil:i < l.length
 rotate_left
 ·obtain rfl:i=l.length:=by omega
  have q2:((l.length:Int) < (l.length:Int))=False:=eq_false om
  rw [List.drop_length] at hlo
  have e:Zb1 l v=none:=hlo.symm
  rw [e]
  have z1:(none:Option Tm).getD v=v:=rfl
  (have F:=ai @q2 (ai @z1 @tmz);refine gG ?_;exact gTd)
 have q2:((i:Int) < (l.length:Int))=True:=eq_true om
 obtain ⟨y,hy⟩:∃ y,l[i]?=some y:=⟨_,List.getElem?_eq_getElem hil⟩
 rw [ZnU hy] at hlo
 have hyv:=hl y (List.mem_of_getElem? hy)
 have hwi:=Zay (k:=i) om
 have he:=Zc5.eq_iff hyv hv
 by_cases h1:y.var.name=v.name
 rotate_left
 ·have q3:(y.var.name.toList==v.name.toList)=false:=beq_eq_false_iff_ne.2 fun h=>h1 (toList_inj h)
  rw [if_neg (fun h=>h1 (he.1 h).1)] at hlo
  (have F:=ai @q2 (ai @q3 (ai @hwi (ai @bl (ai @bb (ai @bg (ai @hy (ai @bdz (ai @Zvn (ai @Zas @tmz)))))))));refine gG ?_;exact ⟨i+1,⟨hil,hlo⟩,gw,gw,by omega⟩)
 have q3:(y.var.name.toList==v.name.toList)=true:=by rw [h1];exact beq_self_eq_true _
 by_cases h2:y.var.sort=v.sort
 rotate_left
 ·have q4:(y.var.sort=v.sort)=False:=eq_false h2
  rw [if_neg (fun h=>h2 (he.1 h).2)] at hlo
  (have F:=ai @q2 (ai @q3 (ai @q4 (ai @hwi (ai @bl (ai @bb (ai @bg (ai @hy (ai @bdz (ai @Zvn (ai @Zas @tmz))))))))));refine gG ?_;exact ⟨i+1,⟨hil,hlo⟩,gw,gw,by omega⟩)
 have q4:(y.var.sort=v.sort)=True:=eq_true h2
 rw [if_pos (he.2 ⟨h1,h2⟩)] at hlo
 rw [<- hlo]
 have z1:(some y.to).getD v=y.to:=rfl
 (have F:=ai @q2 (ai @q3 (ai @q4 (ai @z1 (ai @bl (ai @bb (ai @bg (ai @hy (ai @bdz (ai @Zvn (ai @Zas @tmz))))))))));refine gG ?_;exact gTd)
set_option maxRecDepth 100000 in
theorem ZnV (hl:ZcS l) {v:Tm} (hv:okTm v) (h8:l.length<=1000):Con e0 76 [.one (.sl (Zal l)),.agg (Zae v)] [.agg (Zae ((Zb1 l v).getD zTm)),.one (.lit (.bool (Zb1 l v).isSome))]:=by
 have bl:=Zbd l
 have bg:=Zca l
 have bb:=bds8 l
 have hz:=Zmg
 refine gI (ts:=[.cell 4 46,.slot 5]) 525435 Tryz.func76 ?_
 (have F:=ai @bl @tmz;refine gG ?_;clear F)
 (have F:=@tmz;refine gL (ι:=Nat) [5,6,10,19] [] (fun i=>[(6,A.d (.one (.lit (.int .i64 i))))]) (fun i=>[]) (fun i=>i<=l.length∧Zb1 (l.drop i) v=Zb1 l v) (fun i=>l.length - i) (0) (⟨Nat.zero_le _,rfl⟩) (fun i hi=>?_);clear F)
 obtain ⟨hi,hlo⟩:=hi
 by_cases hil:i < l.length
 rotate_left
 ·obtain rfl:i=l.length:=by omega
  have q2:((l.length:Int) < (l.length:Int))=False:=eq_false om
  rw [List.drop_length] at hlo
  have e:Zb1 l v=none:=hlo.symm
  rw [e]
  have z1:(none:Option Tm).getD zTm=zTm:=rfl
  (have F:=ai @q2 (ai @z1 (ai @hz (ai @bl @tmz)));refine gG ?_;exact gTd)
 have q2:((i:Int) < (l.length:Int))=True:=eq_true om
 obtain ⟨y,hy⟩:∃ y,l[i]?=some y:=⟨_,List.getElem?_eq_getElem hil⟩
 rw [ZnU hy] at hlo
 have hwi:=Zay (k:=i) om
 have cS:=Zil (hl y (List.mem_of_getElem? hy)).1 hv
 (have F:=ai @q2 (ai @bl @tmz);have NN:Zah 4:=trivial;refine gGn ?_;clear F NN)
 refine gB ?_
 (have F:=ai @bl (ai @bb (ai @bg (ai @hy (ai @bdz (ai @Zas @tmz)))));refine gC (cS) ?_;clear F)
 by_cases h1:Zak y.var v=0
 rotate_left
 ·have q3:decide (Zak y.var v=0)=false:=decide_eq_false h1
  rw [if_neg h1] at hlo
  rw [q3]
  (have F:=@tmz;refine gR ?_;clear F)
  (have F:=ai @hwi (ai @bdz @tmz);refine gG ?_;exact ⟨i+1,⟨hil,hlo⟩,gw,gw,by omega⟩)
 have q3:decide (Zak y.var v=0)=true:=decide_eq_true h1
 rw [if_pos h1] at hlo
 rw [q3,<- hlo]
 have z1:(some y.to).getD zTm=y.to:=rfl
 (have F:=@tmz;refine gR ?_;clear F)
 (have F:=ai @z1 (ai @bl (ai @bb (ai @bg (ai @hy (ai @bdz (ai @Zas @tmz))))));refine gG ?_;exact gTd)
theorem SbsOk.okB (hg:SgnOk g) (h:SbsOk g l):ZcS l:=fun y hy=>⟨ZaM.ok hg _ _ (Nat.lt_succ_self _) (h.var y hy).term.form,ZaM.ok hg _ _ (Nat.lt_succ_self _) (h.to' y hy).form⟩
noncomputable def ap6 (g:Sgn) (l:List Bd) (t:Tm):Tm:=if t.op=-1 then (Zb1 l t).getD t else match apTs g l t.args with
 | none=>zTm
 | some us=>match g.ops[t.op.toNat]? with
  | none=>zTm
  | some o=>match o.decls[0]? with
   | none=>zTm
   | some d=>mk6 g o d t.op us
theorem Zt5 {t:Tm} (h:t.op=-1):ap6 g l t=(Zb1 l t).getD t:=by unfold ap6;rw [if_pos h]
theorem ZAR {t:Tm} (h:t.op≠-1) (hn:apTs g l t.args=none):ap6 g l t=zTm:=by unfold ap6;rw [if_neg h,hn]
theorem ZEX {t:Tm} {us:List Tm} {o:Opr} {d:Dcl} (h:t.op≠-1) (hu:apTs g l t.args=some us) (ho:g.ops[t.op.toNat]?=some o) (hd:o.decls[0]?=some d):ap6 g l t=mk6 g o d t.op us:=by
 unfold ap6
 rw [if_neg h,hu]
 simp only [ho,hd]
theorem Zqo {t u:Tm} (h:apT g l t=some u):ap6 g l t=u:=by
 by_cases ho:t.op=-1
 ·rw [ZjW ho,Option.some.injEq] at h
  rw [Zt5 ho,h]
 ·rw [Zgu ho] at h
  unfold ap6
  rw [if_neg ho]
  cases h1:apTs g l t.args with
  | none=>rw [h1] at h;cases h
  | some us =>
   rw [h1,Option.bind_some] at h
   unfold mkT at h
   cases h2:g.ops[t.op.toNat]? with
   | none=>rw [h2] at h;cases h
   | some o =>
    rw [h2] at h
    simp only at h ⊢
    cases h3:o.decls[0]? with
    | none=>rw [h3] at h;cases h
    | some d =>
     rw [h3] at h
     simp only at h ⊢
     unfold mk6
     rw [h];rfl
set_option maxRecDepth 100000 in
theorem Zzs {mc:C} (hg:SgnOk g) (hS:SbsOk g l):∀ (n:Nat) {t:Tm},sizeTm t < n->TermOk g t->Con e0 61 [.one (.ptr (encX g mc)),.one (.sl (Zal l)),.agg (Zae t)] [.agg (Zae ((apT g l t).getD zTm)),.one (.lit (.bool (apT g l t).isSome))]:=by
 intro n
 induction n with
 | zero=>exact fun {t} h _=>absurd h om
 | succ n IH =>
 intro t hsz ht
 have hz:=Zmg
 have h60:=ZpY ht
 by_cases hop:t.op=-1
 ·have hv:=ht.var hop
  have q1:(t.op < 0)=True:=eq_true om
  have cB:=Zrx hS.var hS.len hv
  have z1:(some ((Zb1 l t).getD t)).getD zTm=(Zb1 l t).getD t:=rfl
  have z2:(some ((Zb1 l t).getD t)).isSome=true:=rfl
  rw [ZjW hop]
  refine gI (ts:=[.cell 6 46,.slot 7]) 2201036682727 Tryz.func61 ?_
  (have F:=ai @q1 @tmz;have NN:Zah 2:=trivial;refine gGn ?_;clear F NN)
  refine gB ?_
  (have F:=@tmz;refine gC (cB) ?_;clear F)
  (have F:=@tmz;refine gR ?_;clear F)
  (have F:=ai @z1 (ai @z2 @tmz);refine gG ?_;exact gTd)
 obtain ⟨o,d,hA⟩:=ht.form.node.resolve_left (fun hv=>hop hv.1)
 have q1:(t.op < 0)=False:=eq_false (by have:=hA.lo;omega)
 have cB:=fun us h1 h2=>Zza (mc:=mc) hg hA.lo hA.at' hA.fst us h1 h2
 refine gI (ts:=[.cell 6 46,.slot 7]) 2201036682727 Tryz.func61 ?_
 (have F:=ai @q1 @tmz;refine gG ?_;clear F)
 (have F:=ai @ZdL @tmz;refine gL (ι:=Nat × List Tm) [7,10,12,13,14,29,30,41] [10] (fun x=>[(29,A.d (.one (.lit (.int .i64 x.1)))),(10,.buf 10)]) (fun x=>[(10,.buf none 46 4 (Zaf x.2))]) (fun x=>x.1<=t.args.length∧apTs g l (t.args.take x.1)=some x.2) (fun x=>t.args.length - x.1) ((0,[])) (⟨Nat.zero_le _,rfl⟩) (fun x hx=>?_);clear F)
 obtain ⟨i,us⟩:=x
 obtain ⟨hi,hus⟩:=hx
 simp only at hi hus
 dsimp only
 have hul:=Zk0 hus
 rw [List.length_take_of_le hi] at hul
 have nl:=Zag us
 have nr:ZaX 4 (Zaf us)=true:=Zgh _
 by_cases hil:i < t.args.length
 rotate_left
 ·obtain rfl:i=t.args.length:=by omega
  have q2:((t.args.length:Int) < (t.args.length:Int))=False:=eq_false om
  rw [List.take_length] at hus
  have e:apT g l t=mkO g o d t.op us:=by rw [Zgu hop,hus];exact Zy4 hA.at' hA.fst us
  have cB:=cB us (fun u hu=>by
   obtain ⟨a,ha,hau⟩:=Zis hus u hu
   exact ZhT hg hS.to' _ a (Nat.lt_succ_self _) (ht.arg ha) hau) om
  rw [e]
  (have F:=ai @q2 @tmz;have NN:Zah 13:=trivial;refine gGn ?_;clear F NN)
  refine gB ?_
  (have F:=@tmz;refine gC (cB) ?_;clear F)
  (have F:=@tmz;refine gR ?_;clear F)
  (have F:=@tmz;refine gG ?_;exact gTd)
 have q2:((i:Int) < (t.args.length:Int))=True:=eq_true om
 obtain ⟨a,ha⟩:∃ a,t.args[i]?=some a:=⟨_,List.getElem?_eq_getElem hil⟩
 have ham:=List.mem_of_getElem? ha
 have hs1:=Zbg t
 have hs2:=Zbt ham
 have cA:=IH (t:=a) om (ht.arg ham)
 have hwi:=Zay (k:=i) om
 have hmx:(us.length+1<=maxApp)=True:=eq_true (by unfold maxApp;omega)
 have hsn:apTs g l (t.args.take (i+1))=(apT g l a).map fun u=>us++[u]:=by rw [Zci ha,Zjs,hus];rfl
 (have F:=ai @q2 (ai @ha (ai @Zas @tmz));have NN:Zah 8:=trivial;refine gGn ?_;clear F NN)
 refine gB ?_
 (have F:=ai @ha (ai @Zas @tmz);refine gC (cA) ?_;clear F)
 (have F:=@tmz;refine gR ?_;clear F)
 cases hu:apT g l a with
 | none =>
  have z3:(none:Option Tm).isSome=false:=rfl
  have z5:(none:Option Tm).getD zTm=zTm:=rfl
  have e:apTs g l t.args=none:=Zjt ham hu
  have e2:apT g l t=none:=by rw [Zgu hop,e];rfl
  rw [e2]
  (have F:=ai @z3 (ai @z5 (ai @hz @tmz));refine gG ?_;exact gTd)
 | some u =>
  have z3:(some u).isSome=true:=rfl
  have z5:(some u).getD zTm=u:=rfl
  rw [hu] at hsn
  have ns:Zaf us++[Zae u]=Zaf (us++[u]):=by simp [ZbW]

  (have F:=ai @z3 (ai @z5 (ai @nl (ai @nr (ai @ns (ai @hmx (ai @hwi @tmz))))));refine gG ?_;exact ⟨(i+1,us++[u]),⟨hil,hsn⟩,gw,gw,by omega⟩)
set_option maxRecDepth 100000 in
theorem Zry (hokg:Zdq g) (hg:SgnOk g) (hS:SbsOk g l):∀ (n:Nat) {t:Tm},sizeTm t < n->TermOk g t->Con e0 65 [.agg (ZaA g),.one (.sl (Zal l)),.agg (Zae t)] [.agg (Zae (ap6 g l t)),.one (.lit (.bool (apT g l t).isSome))]:=by
 intro n
 induction n with
 | zero=>exact fun {t} h _=>absurd h om
 | succ n IH =>
 intro t hsz ht
 have hz:=Zmg
 have h60:=ZpY ht
 have hok2:=ZaM.ok hg _ t (Nat.lt_succ_self _) ht.form
 have hokB:ZcS l:=SbsOk.okB hg hS
 by_cases hop:t.op=-1
 ·have q1:(t.op=-1)=True:=eq_true hop
  have cB:=ZnV hokB hok2 (by have:=hS.len;omega)
  have z2:(some ((Zb1 l t).getD t)).isSome=true:=rfl
  rw [Zt5 hop,ZjW hop]
  rw [ZaA] at *
  refine gI (ts:=[.cell 6 46,.slot 7]) 70370900131823 Tryz.func65 ?_
  (have F:=ai @q1 @tmz;have NN:Zah 2:=trivial;refine gGn ?_;clear F NN)
  refine gB ?_
  (have F:=@tmz;refine gC (cB) ?_;clear F)
  (have F:=@tmz;refine gR ?_;clear F)
  cases hk:Zb1 l t with
  | none =>
   have z1:(none:Option Tm).getD t=t:=rfl
   have z3:(none:Option Tm).isSome=false:=rfl
   rw [hk] at z2
   (have F:=ai @z1 (ai @z2 (ai @z3 @tmz));refine gG ?_;exact gTd)
  | some u =>
   have z1:(some u).getD t=u:=rfl
   have z3:(some u).isSome=true:=rfl
   have z4:(some u).getD zTm=u:=rfl
   rw [hk] at z2
   (have F:=ai @z1 (ai @z2 (ai @z3 (ai @z4 @tmz)));refine gG ?_;exact gTd)
 obtain ⟨o,d,hA⟩:=ht.form.node.resolve_left (fun hv=>hop hv.1)
 have q1:(t.op=-1)=False:=eq_false hop
 have cB:=fun us h1 h2=>Zvg hokg hg hA.lo hA.at' hA.fst us h1 h2
 rw [ZaA] at *
 refine gI (ts:=[.cell 6 46,.slot 7]) 70370900131823 Tryz.func65 ?_
 (have F:=ai @q1 @tmz;refine gG ?_;clear F)
 (have F:=ai @ZdL @tmz;refine gL (ι:=Nat × List Tm) [7,10,11,12,13,31,46] [10] (fun x=>[(11,A.d (.one (.lit (.int .i64 x.1)))),(10,.buf 10)]) (fun x=>[(10,.buf none 46 4 (Zaf x.2))]) (fun x=>x.1<=t.args.length∧apTs g l (t.args.take x.1)=some x.2) (fun x=>t.args.length - x.1) ((0,[])) (⟨Nat.zero_le _,rfl⟩) (fun x hx=>?_);clear F)
 obtain ⟨i,us⟩:=x
 obtain ⟨hi,hus⟩:=hx
 simp only at hi hus
 dsimp only
 have hul:=Zk0 hus
 rw [List.length_take_of_le hi] at hul
 have nl:=Zag us
 have nr:ZaX 4 (Zaf us)=true:=Zgh _
 by_cases hil:i < t.args.length
 rotate_left
 ·obtain rfl:i=t.args.length:=by omega
  have q2:((t.args.length:Int) < (t.args.length:Int))=False:=eq_false om
  rw [List.take_length] at hus
  have e:apT g l t=mkO g o d t.op us:=by rw [Zgu hop,hus];exact Zy4 hA.at' hA.fst us
  have cB:=cB us (fun u hu=>by
   obtain ⟨a,ha,hau⟩:=Zis hus u hu
   exact ZhT hg hS.to' _ a (Nat.lt_succ_self _) (ht.arg ha) hau) om
  rw [e,ZEX hop hus hA.at' hA.fst]
  (have F:=ai @q2 @tmz;have NN:Zah 14:=trivial;refine gGn ?_;clear F NN)
  refine gB ?_
  (have F:=@tmz;refine gC (cB) ?_;clear F)
  (have F:=@tmz;refine gR ?_;clear F)
  (have F:=@tmz;refine gG ?_;exact gTd)
 have q2:((i:Int) < (t.args.length:Int))=True:=eq_true om
 obtain ⟨a,ha⟩:∃ a,t.args[i]?=some a:=⟨_,List.getElem?_eq_getElem hil⟩
 have ham:=List.mem_of_getElem? ha
 have hs1:=Zbg t
 have hs2:=Zbt ham
 have cA:=IH (t:=a) om (ht.arg ham)
 have hwi:=Zay (k:=i) om
 have hmx:(us.length+1<=maxApp)=True:=eq_true (by unfold maxApp;omega)
 have hsn:apTs g l (t.args.take (i+1))=(apT g l a).map fun u=>us++[u]:=by rw [Zci ha,Zjs,hus];rfl
 (have F:=ai @q2 (ai @ha (ai @Zas @tmz));have NN:Zah 10:=trivial;refine gGn ?_;clear F NN)
 refine gLt 11 10 12 ?_
 (have F:=ai @ha (ai @Zas @tmz);refine gC (cA) ?_;clear F)
 (have F:=@tmz;refine gR ?_;clear F)
 cases hu:apT g l a with
 | none =>
  have z3:(none:Option Tm).isSome=false:=rfl
  have z5:(none:Option Tm).getD zTm=zTm:=rfl
  have e:apTs g l t.args=none:=Zjt ham hu
  have e2:apT g l t=none:=by rw [Zgu hop,e];rfl
  rw [e2,ZAR hop e]
  (have F:=ai @z3 (ai @z5 (ai @hz @tmz));refine gG ?_;exact gTd)
 | some u =>
  have z3:(some u).isSome=true:=rfl
  have z5:ap6 g l a=u:=Zqo hu
  rw [hu] at hsn
  have ns:Zaf us++[Zae u]=Zaf (us++[u]):=by simp [ZbW]
  rw [z5]
  (have F:=ai @z3 (ai @z5 (ai @nl (ai @nr (ai @ns (ai @hmx (ai @hwi @tmz))))));refine gG ?_;exact ⟨(i+1,us++[u]),⟨hil,hsn⟩,gw,gw,by omega⟩)
end
section
variable {g:Sgn} {b:Nat}
def ZD7 (g:Sgn) (b:Nat) (w:World):Prop:=(∀ c,c=b->¬ e0.E c)∧∃ M,Memo g M∧MapL w b M
noncomputable def eM (g:Sgn) (b:Nat):Env:=e0.plus (fun c=>c=b) (ZD7 g b)
theorem eMP:∀ (g:Sgn) (b:Nat),(eM g b).P=Tryz.prog:=fun _ _=>rfl
theorem ZcX:Fits e0 (fun c=>c=b) (ZD7 g b):=⟨fun w w' hz hE ⟨h1,M,h2,h3⟩=>⟨h1,M,h2,MapL.stable b M w w' hz hE h3⟩,fun w h=>h.1⟩
theorem ZFT:(eM g b).Ok:=ZcX.ok ZeI
theorem Con.m {f:FuncId} {args r:List D} (h:Con e0 f args r):Con (eM g b) f args r:=Con.up ZcX h
theorem ConE.m {f:FuncId} {args:List D} {R:List D->Prop} (h:ConE e0 f args R):ConE (eM g b) f args R:=ConE.up ZcX h
theorem ConR.m {f:FuncId} {args:List D} {ty sz:Nat} {rows:List (List C)} (h:ConR e0 f args ty sz rows):ConR (eM g b) f args ty sz rows:=ConR.up ZcX h
theorem ConI.m {f:FuncId} {ty sz:Nat} {rows rows':List (List C)} {args r:List D} (h:ConI e0 f ty sz rows args rows' r):ConI (eM g b) f ty sz rows args rows' r:=ConI.up ZcX h
theorem ConT.m {f:FuncId} {ty sz:Nat} {rows rows':List (List C)} {args:List D} (h:ConT e0 f ty sz rows args rows'):ConT (eM g b) f ty sz rows args rows':=ConT.up ZcX h
theorem ConP.m {f:FuncId} {args:List D} {pm:List Bk} {R:List D->List Bk->Prop} (h:ConP e0 f args pm R):ConP (eM g b) f args pm R:=ConP.up ZcX h
theorem ConP.imp {e:Env} {f:FuncId} {args:List D} {pm:List Bk} {R R':List D->List Bk->Prop} (h:ConP e f args pm R) (hR:∀ r pm,R r pm->R' r pm):ConP e f args pm R' :=
 ⟨h.1,fun w S vs hS hE hG hpm hap hvs=>(h.2 w S vs hS hE hG hpm hap hvs).mono fun en w' ⟨v,r,pm',h1,hr,hk⟩=>⟨v,r,pm',h1,hR r pm' hr,hk⟩⟩
theorem Zmo (hg:SgnOk g) {t:Tm} (hs:sizeTm t<=60) (hf:ZaM g t):Con (eM g b) 116 [.one (.ptr (encX g (.lit (.map (some b))))),.agg (Zae t)] [.one (.lit (.int .i64 (sortsTm g t:Nat)))] :=
 ZAS (ι:=List (ByteArray × Value)) (G:=fun M w=>MapL w b M) (ok:=Memo g) ZcX (MapL.stable b) (fun w h=>h.2) (fun w M h1 h2 h3=>⟨h1,M,h2,h3⟩) (ZjD hg b _ (Nat.lt_succ_self _) hs hf [] Memo.nil).1
  fun M hM=>(ZjD hg b _ (Nat.lt_succ_self _) hs hf M hM).imp fun r pm ⟨M',h1,h2,h3,_⟩=>⟨h1,M',h3,h2⟩
theorem pM {mask:Nat} {c:Code} {s:List (Nat × A)} {m m2:List (Nat × Bk)} {Q:PX->St->Prop} (g:Sgn) (b k:Nat) (hK:pwp (eM g b) mask c ⟨s,m2⟩ Q) (hm:gm m k=some (mapB b []):=by exact snx) (hr:remM k m=m2:=by exact snv):pwp e0 mask c ⟨s,m⟩ Q:=by
 subst hr
 exact ZEY k ZcX.st hm (fun hd=>⟨ZcX,fun w h=>⟨hd,[],Memo.nil,h⟩⟩) fun _=>hK
theorem Zt6 (a k:Nat):(a &&& 2 ^ k=0) ↔ a.testBit k=false:=by
 constructor
 ·intro h
  have:=congrArg (fun x=>x.testBit k) h
  simpa [Nat.testBit_and,Nat.testBit_two_pow] using this
 ·intro h
  refine Nat.eq_of_testBit_eq fun i=>?_
  rw [Nat.testBit_and,Nat.testBit_two_pow,Nat.zero_testBit]
  by_cases e:k=i
  ·subst e;rw [h];rfl
  ·simp [e]
theorem tmM:type_of% (ai @tmz (ai @eMP @Za8)):=ai @tmz (ai @eMP @Za8)
end
section
variable {g:Sgn} {l:List Bd} {b:Nat}
set_option maxRecDepth 100000 in
theorem ZjE (hg:SgnOk g) (hl:ZcS l) (ht:∀ y∈l,sizeTm y.to<=big):Con (eM g b) 60 [.one (.ptr (encX g (.lit (.map (some b))))),.one (.sl (Zal l))] [.one (.lit (.bool (ZbQ g l)))]:=by
 have heM:=ZFT (g:=g) (b:=b)
 have bl:=Zbd l
 have bg:=Zca l
 have hV:=fun y (hy:y∈l)=>(ZhM (mc:=.lit (.map (some b))) hg (t:=y.var) (by have:=(hl y hy).1;revert this;cases y.var;simp only [okTm,Tm.name];exact fun h=>h.2.1)).m (g:=g) (b:=b)
 have hT:=fun y (hy:y∈l)=>(Zrc (mc:=.lit (.map (some b))) hg (hl y hy).2 (ht y hy)).m (g:=g) (b:=b)
 have hC:=fun y z (hy:y∈l) (hz:z∈l)=>(Zkj (hl y hy).1 (hl z hz).1).m (g:=g) (b:=b)
 have bb:ZaX 8 (Zal l)=true:=by
  refine List.all_eq_true.2 fun r hr=>?_
  obtain ⟨y,hy,rfl⟩:=List.mem_map.1 hr
  simp [ZaR,List.all_append,tmz]
 by_cases h8:l.length<=8
 rotate_left
 ·have q1:((8:Int) < (l.length:Int))=True:=eq_true om
  have hf:ZbQ g l=false:=ZfM fun h=>h8 h.len
  rw [hf]
  refine gI (ts:=[.slot 4]) 72057594037943923 Tryz.func60 ?_
  (have F:=ai @q1 (ai @bl @tmM);refine gG ?_;exact gTd)
 have q1:((8:Int) < (l.length:Int))=False:=eq_false om
 refine gI (ts:=[.slot 4]) 72057594037943923 Tryz.func60 ?_
 (have F:=ai @q1 (ai @bl @tmM);refine gG ?_;clear F)
 (have F:=@tmM;refine gL (ι:=Nat) [4,5,6,12,13,56] [] (fun i=>[(12,A.d (.one (.lit (.int .i64 i))))]) (fun i=>[]) (fun i=>i<=l.length∧∀ (j:Nat) y,j < i->l[j]?=some y->SbsAt g l j y) (fun i=>l.length - i) (0) (⟨Nat.zero_le _,fun j y h=>absurd h om⟩) (fun i hi=>?_);clear F)
 obtain ⟨hi,hall⟩:=hi
 by_cases hil:i < l.length
 rotate_left
 ·obtain rfl:i=l.length:=by omega
  have q2:((l.length:Int) < (l.length:Int))=False:=eq_false om
  have hf:ZbQ g l=true:=Zmf ⟨h8,fun j y hj=>hall j y (List.getElem?_eq_some_iff.1 hj).1 hj⟩
  rw [hf]
  (have F:=ai @q2 (ai @bl @tmM);refine gG ?_;exact gTd)
 have q2:((i:Int) < (l.length:Int))=True:=eq_true om
 obtain ⟨y,hy⟩:∃ y,l[i]?=some y:=⟨_,List.getElem?_eq_getElem hil⟩
 have hym:=List.mem_of_getElem? hy
 have hbad:¬ SbsAt g l i y->ZbQ g l=false:=fun h=>ZfM fun h'=>h (h'.at' i y hy)
 have cV:=hV y hym
 (have F:=ai @q2 (ai @bl (ai @bb (ai @bg (ai @hy (ai @bdz (ai @Zas @tmM))))));have NN:Zah 6:=trivial;refine gGn ?_;clear F NN)
 refine gB ?_
 (have F:=ai @bdz @tmM;refine gC (cV) ?_;clear F)
 by_cases hvo:Zc5 g y.var
 rotate_left
 ·have hVf:Zfe g y.var=false:=by simp [Zfe,hvo]
  have hf:=hbad fun h=>hvo h.var
  rw [hVf,hf]
  (have F:=ai @bdz @tmM;refine gR ?_;clear F)
  (have F:=@tmM;refine gG ?_;exact gTd)
 have hVt:Zfe g y.var=true:=by simp [Zfe,hvo]
 rw [hVt]
 obtain ⟨k,hk⟩:∃ k:Nat,y.var.sort=k:=⟨y.var.sort.toNat,by have:=hvo.2.2.1;omega⟩
 have hk8:k < 8:=by have:=hvo.2.2.2.1;have:=hg.sorts.n8;omega
 have hkt:y.var.sort.toNat=k:=by omega
 have hsh:=Zgj (k:=k) om
 have hwi:=Zay (k:=i) om
 have cT:=hT y hym
 have hnext:TermOk g y.to->(sortsTm g y.to).testBit k=true->(∀ (j:Nat) p,i=j+1->l[j]?=some p->Zak p.var y.var < 0)->i+1<=l.length∧∀ (j:Nat) z,j < i+1->l[j]?=some z->SbsAt g l j z:=fun b1 b2 ho=>⟨hil,fun j z h1 h2=>by
  by_cases e:j=i
  ·subst e
   rw [hy] at h2
   injection h2 with h2
   subst h2
   exact ⟨hvo,ho,b1,by rw [hkt];exact b2⟩
  ·exact hall j z om h2⟩
 by_cases hi0:i=0
 ·subst hi0
  have q4:((0:Int) < ((0:Nat):Int))=False:=eq_false om
  have hord:∀ (j:Nat) p,0=j+1->l[j]?=some p->Zak p.var y.var < 0:=fun j p h=>absurd h om
  (have F:=ai @q4 (ai @bdz (ai @Zas @tmM));refine gC (cT) ?_;clear F)
  cases hb:Zb3 g y.to with
  | false =>
   have hf:=hbad fun h=>by rw [ZfK h.to'] at hb;cases hb
   rw [hf]
   (have F:=ai @bdz @tmM;refine gR ?_;clear F)
   (have F:=@tmM;refine gG ?_;exact gTd)
  | true =>
  have hto:=Zeg.1 hb
  have hso:=ZbB (Zek hg hto.form.node) hg.sorts.n8
  have hba:=ZdJ hso (show 2 ^ k < 4611686018427387904 from Nat.lt_of_lt_of_le (Nat.pow_lt_pow_right om hk8) (by decide))
  have hbp:=Zt6 (sortsTm g y.to) k
  have cO:=Zmo (b:=b) hg hto.size hto.form
  (have F:=ai @bdz @tmM;refine gC (cO) ?_;clear F)
  cases hbt:(sortsTm g y.to).testBit k with
  | false =>
   have q6:(((sortsTm g y.to &&& 2 ^ k:Nat):Int)=0)=True:=eq_true (by rw [hbp.2 hbt];rfl)
   have hf:=hbad fun h=>by rw [<- hkt,h.srt] at hbt;cases hbt
   rw [hf]
   generalize 2 ^ k=K at *
   (have F:=ai @hk (ai @hsh (ai @hba (ai @q6 (ai @bdz @tmM))));refine gR ?_;clear F)
   (have F:=@tmM;refine gG ?_;exact gTd)
  | true =>
   have q6:(((sortsTm g y.to &&& 2 ^ k:Nat):Int)=0)=False:=eq_false (fun h=>by rw [hbp.1 om] at hbt;cases hbt)
   have hn2:=hnext hto hbt hord
   generalize 2 ^ k=K at *
   (have F:=ai @hk (ai @hsh (ai @hba (ai @q6 (ai @bdz @tmM))));refine gR ?_;clear F)
   (have F:=ai @hwi (ai @bdz @tmM);refine gG ?_;exact ⟨0+1,hn2,gw,gw,by omega⟩)
 obtain ⟨j,rfl⟩:∃ j,i=j+1:=⟨i - 1,by omega⟩
 have q4:((0:Int) < ((j+1:Nat):Int))=True:=eq_true om
 obtain ⟨p,hp⟩:∃ p,l[j]?=some p:=⟨_,List.getElem?_eq_getElem om⟩
 have cC:=hC p y (List.mem_of_getElem? hp) hym
 have wj:IntKind.i64.wrap (((j+1:Nat):Int) - 1)=(j:Int):=ZaV om om om
 have i1:(j < l.length)=True:=eq_true om
 (have F:=ai @q4 (ai @wj (ai @i1 (ai @bl (ai @bb (ai @bg (ai @hp (ai @bdz (ai @Zas @tmM))))))));refine gC (cC) ?_;clear F)
 by_cases hcm:Zak p.var y.var < 0
 rotate_left
 ·have q5:((0:Int)<=Zak p.var y.var)=True:=eq_true om
  have hf:=hbad fun h=>hcm (h.ord j p rfl hp)
  rw [hf]
  (have F:=ai @q5 (ai @bdz @tmM);refine gR ?_;clear F)
  (have F:=@tmM;refine gG ?_;exact gTd)
 have q5:((0:Int)<=Zak p.var y.var)=False:=eq_false om
 have hord:∀ (j':Nat) p',j+1=j'+1->l[j']?=some p'->Zak p'.var y.var < 0:=fun j' p' h h1=>by
  obtain rfl:j=j':=by omega
  rw [hp] at h1
  injection h1 with h1
  subst h1
  exact hcm
 (have F:=ai @q5 (ai @bdz (ai @Zas @tmM));refine gC (cT) ?_;clear F)
 cases hb:Zb3 g y.to with
 | false =>
  have hf:=hbad fun h=>by rw [ZfK h.to'] at hb;cases hb
  rw [hf]
  (have F:=ai @bdz @tmM;refine gR ?_;clear F)
  (have F:=@tmM;refine gG ?_;exact gTd)
 | true =>
 have hto:=Zeg.1 hb
 have hso:=ZbB (Zek hg hto.form.node) hg.sorts.n8
 have hba:=ZdJ hso (show 2 ^ k < 4611686018427387904 from Nat.lt_of_lt_of_le (Nat.pow_lt_pow_right om hk8) (by decide))
 have hbp:=Zt6 (sortsTm g y.to) k
 have cO:=Zmo (b:=b) hg hto.size hto.form
 (have F:=ai @bdz @tmM;refine gC (cO) ?_;clear F)
 cases hbt:(sortsTm g y.to).testBit k with
 | false =>
  have q6:(((sortsTm g y.to &&& 2 ^ k:Nat):Int)=0)=True:=eq_true (by rw [hbp.2 hbt];rfl)
  have hf:=hbad fun h=>by rw [<- hkt,h.srt] at hbt;cases hbt
  rw [hf]
  generalize 2 ^ k=K at *
  (have F:=ai @hk (ai @hsh (ai @hba (ai @q6 (ai @bdz @tmM))));refine gR ?_;clear F)
  (have F:=@tmM;refine gG ?_;exact gTd)
 | true =>
  have q6:(((sortsTm g y.to &&& 2 ^ k:Nat):Int)=0)=False:=eq_false (fun h=>by rw [hbp.1 om] at hbt;cases hbt)
  have hn2:=hnext hto hbt hord
  generalize 2 ^ k=K at *
  (have F:=ai @hk (ai @hsh (ai @hba (ai @q6 (ai @bdz @tmM))));refine gR ?_;clear F)
  (have F:=ai @hwi (ai @bdz @tmM);refine gG ?_;exact ⟨j+1+1,hn2,gw,gw,by omega⟩)
end
section
variable {g:Sgn} {l:List Bd}
theorem ZhX (hb:l.length+Zac (Zal l)<=1048576):∀ y∈l,bulkRow (Zae y.var)<=1048576∧bulkRow (Zae y.to)<=1048576:=fun y hy=>by
 have h1:=ZjF (List.mem_map_of_mem (f:=ZaR) hy)
 have h2:bulkRow (ZaR y)=bulkRow (Zae y.var)+bulkRow (Zae y.to):=Zqp _ _
 have h3:Zac (l.map ZaR)=Zac (Zal l):=rfl
 omega
theorem Zj3 {t:Tm} (h:TermOk g t):bulkRow (Zae t)<=1048576:=by
 have h1:=Zhg h.form
 have h2:=h.size
 omega
theorem ZeZ:ZbQ g l=true ↔ SbsOk g l:=by simp [ZbQ]
end
structure TwoU where
 a0:Value
 a1:Value
 a2:Value
 a3:Value
 b0:Value
 b1:Value
 b2:Value
 b3:Value
 E:Nat->Prop
 F:Nat->Prop
def TwoU.z:TwoU:=⟨.bool true,.bool true,.bool true,.bool true,.bool true,.bool true,.bool true,.bool true,fun _=>False,fun _=>False⟩
abbrev TwoU.okA (x:TwoU):Prop:=Zaw (.lit x.a0)=true∧Zaw (.lit x.a1)=true∧Zaw (.lit x.a2)=true∧Zaw (.lit x.a3)=true
abbrev TwoU.okB (x:TwoU):Prop:=Zaw (.lit x.b0)=true∧Zaw (.lit x.b1)=true∧Zaw (.lit x.b2)=true∧Zaw (.lit x.b3)=true
def TwoU.ok (i:Nat) (x:TwoU):Prop:=(i=3∨7<=i∧i<=10->x.okA)∧(6<=i∧i<=10->x.okB)
theorem ZkE (l:List Bd) {i:Nat} {y:Bd} (h:l[i]?=some y):Zal (l.take (i+1))=Zal (l.take i)++[ZaR y]:=by
 simp only [Zal,List.take_add_one,h,Option.toList,List.map_append,List.map_cons,List.map_nil]
theorem Zgn:Zal []=[]:=rfl
theorem ZFE {w:World} {y:Bd} {E F:Nat->Prop} {us vs:List Value} (h:Zad w (Zae y.var) E us) (h2:Zad w (Zae y.to) F vs) (hd:∀ b,E b->F b->False):Zad w (ZaR y) (fun b=>E b∨F b) (us++vs):=Zad.append E F h h2 (fun _ h=>.inl h) (fun _ h=>.inr h) hd
set_option maxRecDepth 100000 in
theorem Zqu (l:List Bd) (hl:l.length<=1000) (hb:∀ y∈l,bulkRow (Zae y.var)<=1048576∧bulkRow (Zae y.to)<=1048576):ConP e0 83 [.one (.sl (Zal l))] [] (ZhY (Zal l)):=by
 have bl:=Zbd l
 have bg:=Zca l
 have bb:=bds8 l
 refine gIP (ts:=[.slot 2]) [] 1965 Tryz.func83 ?_
 (have F:=ai @bl @tmz;refine gG ?_;clear F)
 refine pE [] [1000] ZcI ?_
 (have F:=ai @bl (ai @Zgn @tmz);refine gL (ι:=Nat × List (List Value) × (Nat->Prop)) [3,5,9,10] [3,1000] (fun x=>[(9,A.d (.one (.lit (.int .i64 x.1)))),(3,.buf 3)]) (fun x=>[(3,.buf none 102 8 (x.2.1.map Zap)),(1000,.set x.2.2 (fun w=>Zat w (Zal (l.take x.1)) x.2.2 x.2.1))]) (fun x=>x.1<=l.length∧x.2.1.length=x.1) (fun x=>l.length - x.1) ((0,[],fun _=>False)) (⟨Nat.zero_le _,rfl⟩) (fun x hx=>?_);clear F)
 obtain ⟨i,uss,E0⟩:=x
 obtain ⟨hi,hn⟩:=hx
 simp only at hi hn
 by_cases hlt:i < l.length
 rotate_left
 ·obtain rfl:i=l.length:=by omega
  have q1:((l.length:Int) < (l.length:Int))=False:=eq_false om
  (have F:=ai @q1 (ai @bl @tmz);refine gG ?_;clear F)
  rw [List.take_length]
  refine pS 2 fun a cap=>?_
  refine pE [2,1000] [1000] (Zdk (uss:=uss) (G':=fun w=>Own w (.sl (Zal l)) (fun b=>vblk (.slice a uss.length cap)=some b∨E0 b) (.slice a uss.length cap)) (fun w h=>h) (Own.stable _ _ _)) ?_
  exact (have F:=ZaG;gTP (R:=ZhY (Zal l)) [1000] ⟨.slice a uss.length cap,fun b=>vblk (.slice a uss.length cap)=some b∨E0 b,rfl,rfl,rfl⟩)
 obtain ⟨y,hy⟩:∃ y,l[i]?=some y:=⟨_,List.getElem?_eq_getElem hlt⟩
 have hym:=List.mem_of_getElem? hy
 have cV:=Zjz y.var (hb y hym).1
 have cT:=Zjz y.to (hb y hym).2
 have q1:((i:Int) < (l.length:Int))=True:=eq_true om
 have q2:(i+1<=maxApp)=True:=eq_true (by unfold maxApp;omega)
 have hwi:=Zay (k:=i) om
 (have F:=ai @q1 (ai @bl (ai @bb (ai @bg (ai @hy (ai @bdz (ai @Zas @tmz))))));have NN:Zah 5:=trivial;refine gGn ?_;clear F NN)
 /- gk copybd -/
 refine gGx (X:=TwoU) [(0,.d (.one (.sl (Zal l)))),(2,.buf 2),(5,.ref 5 0),(7,.d (.one (.sl (Zal l)))),(8,.d (.one (.lit (.int .i64 (l.length:Int))))),(9,.d (.one (.lit (.int .i64 (i:Int)))))] [(2,.buf none 102 8 []),(5,.var none (ZaR y)),(1000,.set E0 (fun w=>Zat w (Zal (l.take i)) E0 uss))] (TwoU.ok) (fun x=>[([(13,.buf 3)],[]),([(14,.ref 5 0)],[]),([(15,.d (.agg (Zae y.var)))],[]),([(16,.d (.agg [.lit x.a0,.lit x.a1,.lit x.a2,.lit x.a3]))],[(1003,.set x.E (fun w=>Zad w (Zae y.var) x.E [x.a0,x.a1,x.a2,x.a3]))]),([(17,.ref 5 4)],[]),([(18,.d (.agg (Zae y.to)))],[]),([(19,.d (.agg [.lit x.b0,.lit x.b1,.lit x.b2,.lit x.b3]))],[(1006,.set x.F (fun w=>Zad w (Zae y.to) x.F [x.b0,x.b1,x.b2,x.b3]))]),([(20,.d (.agg [.lit x.a0,.lit x.a1,.lit x.a2,.lit x.a3,.lit x.b0,.lit x.b1,.lit x.b2,.lit x.b3]))],[(1003,.set x.E (fun w=>Zad w (Zae y.var) x.E [x.a0,x.a1,x.a2,x.a3])),(1006,.set x.F (fun w=>Zad w (Zae y.to) x.F [x.b0,x.b1,x.b2,x.b3]))]),([(21,.d (.clip [[.lit x.a0,.lit x.a1,.lit x.a2,.lit x.a3,.lit x.b0,.lit x.b1,.lit x.b2,.lit x.b3]]))],[(1003,.set x.E (fun w=>Zad w (Zae y.var) x.E [x.a0,x.a1,x.a2,x.a3])),(1006,.set x.F (fun w=>Zad w (Zae y.to) x.F [x.b0,x.b1,x.b2,x.b3]))]),([(22,.buf 22)],[(22,.buf none 102 8 (uss.map Zap++[[.lit x.a0,.lit x.a1,.lit x.a2,.lit x.a3,.lit x.b0,.lit x.b1,.lit x.b2,.lit x.b3]])),(1003,.set x.E (fun w=>Zad w (Zae y.var) x.E [x.a0,x.a1,x.a2,x.a3])),(1006,.set x.F (fun w=>Zad w (Zae y.to) x.F [x.b0,x.b1,x.b2,x.b3]))]),([(3,.buf 3)],[(3,.buf none 102 8 (uss.map Zap++[[.lit x.a0,.lit x.a1,.lit x.a2,.lit x.a3,.lit x.b0,.lit x.b1,.lit x.b2,.lit x.b3]])),(1003,.set x.E (fun w=>Zad w (Zae y.var) x.E [x.a0,x.a1,x.a2,x.a3])),(1006,.set x.F (fun w=>Zad w (Zae y.to) x.F [x.b0,x.b1,x.b2,x.b3]))]),([(3,.buf 3)],[]),([],[(3,.buf none 102 8 (uss.map Zap))])]) (fun j=>([(0,9),(3,7),(6,7),(7,8),(8,9),(9,10),(11,9),(12,9)]:List (Nat × Nat)).lookup j) [11,12] (⟨by simp [gs],by simp [gm]⟩) (fun j hj=>by simp only [List.mem_cons,List.not_mem_nil,or_false] at hj;rcases hj with rfl | rfl <;> exact ⟨TwoU.z,⟨fun h=>absurd h (by decide),fun h=>absurd h (by decide)⟩,by simp [gs],by simp [gm]⟩) ⟨?_,?_,?_,?_,?_,?_,?_,?_,?_,?_,?_,trivial⟩ ?_
 ·intro s' m' hB hD hI hJ
  have F:=ZbI.1 hB
  simp only [lkS,lkM,List.getD_cons_zero,List.getD_cons_succ,and_true,true_and] at F
  obtain ⟨x11,o11,F11⟩:=Zbk.1 (hJ 11 (by decide) 9 rfl (by decide))
  simp only [lkS,lkM,List.getD_cons_zero,List.getD_cons_succ,and_true,true_and] at F11
  have F:=ai F F11
  have F:=ai F (tmz)
  refine gO3 ?_
  exact xS hB (Zbk.2 ⟨TwoU.z,⟨fun h=>absurd h (by decide),fun h=>absurd h (by decide)⟩,by simp [lkS,lkM,gs,gm,ZaT]⟩)
 ·intro s' m' hB hD hI hJ
  have F:=ZbI.1 hB
  simp only [lkS,lkM,List.getD_cons_zero,List.getD_cons_succ,and_true,true_and] at F
  have F:=ai F (ai bdz tmz)
  refine gO3 ?_
  exact xS hB (Zbk.2 ⟨TwoU.z,⟨fun h=>absurd h (by decide),fun h=>absurd h (by decide)⟩,by simp [lkS,lkM,gs,gm,ZaT]⟩)
 ·intro s' m' hB hD hI hJ
  have F:=ZbI.1 hB
  simp only [lkS,lkM,List.getD_cons_zero,List.getD_cons_succ,and_true,true_and] at F
  obtain ⟨x1,o1,F1⟩:=Zbk.1 (hD 1 (by decide) (.inl rfl))
  simp only [lkS,lkM,List.getD_cons_zero,List.getD_cons_succ,and_true,true_and] at F1
  have F:=ai F F1
  have F:=ai F (ai bdz tmz)
  refine gO3 ?_
  exact xS hB (Zbk.2 ⟨TwoU.z,⟨fun h=>absurd h (by decide),fun h=>absurd h (by decide)⟩,by simp [lkS,lkM,gs,gm,ZaT,F1]⟩)
 ·intro s' m' hB hD hI hJ
  have F:=ZbI.1 hB
  simp only [lkS,lkM,List.getD_cons_zero,List.getD_cons_succ,and_true,true_and] at F
  obtain ⟨x2,o2,F2⟩:=Zbk.1 (hD 2 (by decide) (.inl rfl))
  simp only [lkS,lkM,List.getD_cons_zero,List.getD_cons_succ,and_true,true_and] at F2
  have F:=ai F F2
  have F:=ai F (tmz)
  refine gCP [] [1003] (cV) ?_
  rintro r pm ⟨us,E2,rfl,hu,hok,rfl⟩
  rw [ZhJ] at hu
  obtain ⟨u0,u1,u2,u3,rfl⟩:=len4 hu
  obtain ⟨k0,k1,k2,k3⟩:=okc4 hok
  simp only [ZdA]
  simp only [setA,retA,zipM,List.cons_append,List.nil_append]
  refine Zd4 ?_
  exact xP hB (Zbk.2 ⟨⟨u0,u1,u2,u3,u0,u0,u0,u0,E2,E2⟩,⟨fun _=>⟨k0,k1,k2,k3⟩,fun h=>absurd h (by decide)⟩,by simp [lkS,lkM,gs,gm]⟩)
 ·intro s' m' hB hD hI hJ
  have F:=ZbI.1 hB
  simp only [lkS,lkM,List.getD_cons_zero,List.getD_cons_succ,and_true,true_and] at F
  have F:=ai F (ai bdz tmz)
  refine gO3 ?_
  exact xS hB (Zbk.2 ⟨TwoU.z,⟨fun h=>absurd h (by decide),fun h=>absurd h (by decide)⟩,by simp [lkS,lkM,gs,gm,ZaT]⟩)
 ·intro s' m' hB hD hI hJ
  have F:=ZbI.1 hB
  simp only [lkS,lkM,List.getD_cons_zero,List.getD_cons_succ,and_true,true_and] at F
  obtain ⟨x4,o4,F4⟩:=Zbk.1 (hD 4 (by decide) (.inl rfl))
  simp only [lkS,lkM,List.getD_cons_zero,List.getD_cons_succ,and_true,true_and] at F4
  have F:=ai F F4
  have F:=ai F (ai bdz tmz)
  refine gO3 ?_
  exact xS hB (Zbk.2 ⟨TwoU.z,⟨fun h=>absurd h (by decide),fun h=>absurd h (by decide)⟩,by simp [lkS,lkM,gs,gm,ZaT,F4]⟩)
 ·intro s' m' hB hD hI hJ
  have F:=ZbI.1 hB
  simp only [lkS,lkM,List.getD_cons_zero,List.getD_cons_succ,and_true,true_and] at F
  obtain ⟨x5,o5,F5⟩:=Zbk.1 (hD 5 (by decide) (.inl rfl))
  simp only [lkS,lkM,List.getD_cons_zero,List.getD_cons_succ,and_true,true_and] at F5
  have F:=ai F F5
  have F:=ai F (tmz)
  refine gCP [] [1006] (cT) ?_
  rintro r pm ⟨us,E2,rfl,hu,hok,rfl⟩
  rw [ZhJ] at hu
  obtain ⟨u0,u1,u2,u3,rfl⟩:=len4 hu
  obtain ⟨k0,k1,k2,k3⟩:=okc4 hok
  simp only [ZdA]
  simp only [setA,retA,zipM,List.cons_append,List.nil_append]
  refine Zd4 ?_
  exact xP hB (Zbk.2 ⟨⟨u0,u0,u0,u0,u0,u1,u2,u3,E2,E2⟩,⟨fun h=>absurd h (by decide),fun _=>⟨k0,k1,k2,k3⟩⟩,by simp [lkS,lkM,gs,gm]⟩)
 ·intro s' m' hB hD hI hJ
  have F:=ZbI.1 hB
  simp only [lkS,lkM,List.getD_cons_zero,List.getD_cons_succ,and_true,true_and] at F
  obtain ⟨x3,o3,F3⟩:=Zbk.1 (hD 3 (by decide) (.inr rfl))
  obtain ⟨x6,o6,F6⟩:=Zbk.1 (hD 6 (by decide) (.inr rfl))
  simp only [lkS,lkM,List.getD_cons_zero,List.getD_cons_succ,and_true,true_and] at F3
  have F:=ai F F3
  simp only [lkS,lkM,List.getD_cons_zero,List.getD_cons_succ,and_true,true_and] at F6
  have F:=ai F F6
  have F:=ai F (ai (o3.1 (by decide)) (o6.2 (by decide)))
  have F:=ai F (tmz)
  refine gO3 ?_
  exact xS hB (Zbk.2 ⟨⟨x3.a0,x3.a1,x3.a2,x3.a3,x6.b0,x6.b1,x6.b2,x6.b3,x3.E,x6.F⟩,⟨fun _=>o3.1 (by decide),fun _=>o6.2 (by decide)⟩,by simp [lkS,lkM,gs,gm,ZaT,F3,F6]⟩)
 ·intro s' m' hB hD hI hJ
  have F:=ZbI.1 hB
  simp only [lkS,lkM,List.getD_cons_zero,List.getD_cons_succ,and_true,true_and] at F
  obtain ⟨x7,o7,F7⟩:=Zbk.1 (hD 7 (by decide) (.inr rfl))
  simp only [lkS,lkM,List.getD_cons_zero,List.getD_cons_succ,and_true,true_and] at F7
  have F:=ai F F7
  have F:=ai F (ai (o7.1 (by decide)) (o7.2 (by decide)))
  have F:=ai F (tmz)
  refine gO3 ?_
  exact xS hB (Zbk.2 ⟨x7,⟨fun _=>o7.1 (by decide),fun _=>o7.2 (by decide)⟩,by simp [lkS,lkM,gs,gm,ZaT,F7]⟩)
 ·intro s' m' hB hD hI hJ
  have F:=ZbI.1 hB
  simp only [lkS,lkM,List.getD_cons_zero,List.getD_cons_succ,and_true,true_and] at F
  obtain ⟨x0,o0,F0⟩:=Zbk.1 (hD 0 (by decide) (.inr rfl))
  obtain ⟨x8,o8,F8⟩:=Zbk.1 (hD 8 (by decide) (.inr rfl))
  obtain ⟨x11,o11,F11⟩:=Zbk.1 (hI 11 (by decide) (by decide))
  obtain ⟨x12,o12,F12⟩:=Zbk.1 (hI 12 (by decide) (by decide))
  simp only [lkS,lkM,List.getD_cons_zero,List.getD_cons_succ,and_true,true_and] at F0
  have F:=ai F F0
  simp only [lkS,lkM,List.getD_cons_zero,List.getD_cons_succ,and_true,true_and] at F8
  have F:=ai F F8
  simp only [lkS,lkM,List.getD_cons_zero,List.getD_cons_succ,and_true,true_and] at F11
  have F:=ai F F11
  simp only [lkS,lkM,List.getD_cons_zero,List.getD_cons_succ,and_true,true_and] at F12
  have F:=ai F F12
  have F:=ai F (ai (o8.1 (by decide)) (o8.2 (by decide)))
  have F:=ai F (ai @ZaG (ai hn (ai q2 tmz)))
  refine gO3 ?_
  exact xE hB (Zbk.2 ⟨x8,⟨fun _=>o8.1 (by decide),fun _=>o8.2 (by decide)⟩,by simp [lkS,lkM,gs,gm,ZaT,F0,F8]⟩)
 ·intro s' m' hB hD hI hJ
  have F:=ZbI.1 hB
  simp only [lkS,lkM,List.getD_cons_zero,List.getD_cons_succ,and_true,true_and] at F
  obtain ⟨x9,o9,F9⟩:=Zbk.1 (hD 9 (by decide) (.inr rfl))
  simp only [lkS,lkM,List.getD_cons_zero,List.getD_cons_succ,and_true,true_and] at F9
  have F:=ai F F9
  have F:=ai F (tmz)
  refine gO3 ?_
  exact xE hB (Zbk.2 ⟨x9,⟨fun _=>o9.1 (by decide),fun _=>o9.2 (by decide)⟩,by simp [lkS,lkM,gs,gm,ZaT,F9]⟩)
 intro s' m' hB hP
 obtain ⟨x10,o10,P10⟩:=hP 10 (.inl (by decide)) (fun k h=>by simp [List.lookup] at h)
 refine ⟨_,_,hB.app P10,?_⟩
 simp only [List.cons_append,List.nil_append,List.append_nil,List.getD_cons_zero,List.getD_cons_succ]
 /- gk end copybd -/
 refine ⟨_,Wk.refl _,?_⟩
 obtain ⟨a0,a1,a2,a3,b0,b1,b2,b3,E,F'⟩:=x10
 dsimp only
 refine pE [1003,1006] [1006] (Zp9 (G':=fun w=>Zad w (ZaR y) (fun b=>E b∨F' b) [a0,a1,a2,a3,b0,b1,b2,b3]) (fun w h1 h2 hd=>ZFE h1 h2 hd) (Zad.stable _ _ _)) ?_
 refine pE [1000,1006] [1000] (Zp9 (G':=fun w=>Zat w (Zal (l.take (i+1))) (fun b=>E0 b∨(E b∨F' b)) (uss++[[a0,a1,a2,a3,b0,b1,b2,b3]])) (fun w h1 h2 hd=>?_) (Zat.stable _ _ _)) ?_
 ·rw [ZkE l hy];exact Zat.snoc h1 h2 (fun _ h=>.inl h) (fun _ h=>.inr h) hd
 have hl8:Zap [a0,a1,a2,a3,b0,b1,b2,b3]=[.lit a0,.lit a1,.lit a2,.lit a3,.lit b0,.lit b1,.lit b2,.lit b3]:=rfl
 (have F:=ai @hl8 (ai @hwi (ai (@List.map_append.{0,0}) @tmz));refine gG ?_;exact ⟨(i+1,uss++[[a0,a1,a2,a3,b0,b1,b2,b3]],fun b=>E0 b∨(E b∨F' b)),⟨hlt,by simp [hn]⟩,gw,gw,by omega⟩)
section
variable {g:Sgn}
set_option maxRecDepth 100000 in
theorem Zn1 {l:List Bd} (hl:ZcS l) (hn:l.length<=1000) {y:Bd} (hy:okBd y):Con e0 75 [.one (.sl (Zal l)),.agg (Zae y.var),.agg (Zae y.to)] [.one (.sl (Zal (putB l y)))]:=by
 have bl:=Zbd l
 have bg:=Zca l
 have bb:=bds8 l
 have hbd:Zae y.var++Zae y.to=ZaR y:=rfl
 have h7:∀ (c0 c1 c2 c3:C),List.take 4 (Zae y.var++[c0,c1,c2,c3])++(Zae y.to++List.drop 8 (Zae y.var++[c0,c1,c2,c3]))=ZaR y:=fun c0 c1 c2 c3=>by
  obtain ⟨⟨o,n,s,a⟩,t⟩:=y
  simp [Zae,ZaR]
 refine gI (ts:=[.slot 6]) 4194807 Tryz.func75 ?_
 (have F:=ai @bl @tmz;have NN:Zah 1:=trivial;refine gGn ?_;clear F NN)
 refine gB ?_
 (have F:=@tmz;refine gR ?_;clear F)
 with_reducible refine ZdH ?_
 refine gM (ι:=Nat) [7,22] [] (fun i=>[(7,A.d (.one (.lit (.int .i64 i))))]) (fun i=>[]) (fun i=>i<=l.length∧putB l y=l.take i++y::l.drop i) ?_ (fun i hi=>Exists.intro _ (ai (Wk.refl _) ?_))
 ·(have F:=@tmz;refine gG ?_;clear F)
  (have F:=@tmz;refine gL (ι:=Nat) [7,22] [] (fun i=>[(7,A.d (.one (.lit (.int .i64 i))))]) (fun i=>[]) (fun i=>i<=l.length∧∀ (j:Nat) x,j < i->l[j]?=some x->Zak x.var y.var < 0) (fun i=>l.length - i) (0) (⟨Nat.zero_le _,fun j x h=>absurd h om⟩) (fun i hi=>?_);clear F)
  obtain ⟨hi,hall⟩:=hi
  have stop:(∀ x,l[i]?=some x->¬ Zak x.var y.var < 0)->i<=l.length∧putB l y=l.take i++y::l.drop i:=fun h=>⟨hi,Zt7 hi hall h⟩
  (have F:=@tmz;have NN:Zah 2:=trivial;refine gGn ?_;clear F NN)
  by_cases hil:i < l.length
  rotate_left
  ·have q2:((i:Int) < (l.length:Int))=False:=eq_false om
   have hst:=stop fun x hx=>by rw [List.getElem?_eq_none om] at hx;cases hx
   (have F:=ai @q2 (ai @bl @tmz);refine gG ?_;exact ⟨i,hst,gw,gw⟩)
  have q2:((i:Int) < (l.length:Int))=True:=eq_true om
  obtain ⟨x,hx⟩:∃ x,l[i]?=some x:=⟨_,List.getElem?_eq_getElem hil⟩
  have cC:=Zew (hl x (List.mem_of_getElem? hx)).1 hy.1
  have hwi:=Zay (k:=i) om
  refine gB ?_
  (have F:=ai @q2 (ai @bl (ai @bb (ai @bg (ai @hx (ai @bdz (ai @Zas @tmz))))));refine gC (cC) ?_;clear F)
  by_cases hc:Zak x.var y.var < 0
  ·have q3:(Zak x.var y.var < 0)=True:=eq_true hc
   have hnx:i+1<=l.length∧∀ (j:Nat) z,j < i+1->l[j]?=some z->Zak z.var y.var < 0:=⟨hil,fun j z hj hz=>by
    by_cases e:j=i
    ·subst e;rw [hx] at hz;injection hz with hz;subst hz;exact hc
    ·exact hall j z om hz⟩
   (have F:=ai @q3 @tmz;refine gR ?_;clear F)
   (have F:=ai @hwi @tmz;refine gG ?_;exact ⟨i+1,hnx,gw,gw,by omega⟩)
  ·have q3:(Zak x.var y.var < 0)=False:=eq_false hc
   have hst:=stop fun z hz=>by rw [hx] at hz;injection hz with hz;subst hz;exact hc
   (have F:=ai @q3 @tmz;refine gR ?_;clear F)
   (have F:=@tmz;refine gG ?_;exact ⟨i,hst,gw,gw⟩)
 obtain ⟨hi,hput⟩:=hi
 have s1:((i:Int)<=(l.length:Int))=True:=eq_true om
 have s2:List.take i (Zal l)=Zal (l.take i):=by simp [Zal]
 have s3:List.drop i (Zal l)=Zal (l.drop i):=by simp [Zal]
 have s4:List.take l.length (Zal l)=Zal l:=by rw [<- bl,List.take_length]
 have l6:((l.take i).length+1+(l.drop i).length<=maxApp)=True:=eq_true (by simp only [List.length_take,List.length_drop];unfold maxApp;omega)
 have l7:Zal (l.take i++[y])++Zal (l.drop i)=Zal (putB l y):=by rw [hput];simp [Zal]
 have l1:∀ l:List Bd,ZaX 8 (Zal l)=true:=fun l=>bds8 l
 have l2:((l.take i).length<=maxApp)=True:=eq_true (by rw [List.length_take];unfold maxApp;omega)
 have l3:=Zbd
 have l4:((l.take i).length+1<=maxApp)=True:=eq_true (by rw [List.length_take];unfold maxApp;omega)
 have l5:Zal (l.take i)++[ZaR y]=Zal (l.take i++[y]):=by simp [Zal]
 (have F:=@tmz;have NN:Zah 4:=trivial;refine gGn ?_;clear F NN)
 /- gk l9put -/
 refine gGk [(0,.d (.one (.sl (Zal l)))),(4,.ref 4 0),(5,.ref 5 0),(6,.buf 6),(7,.d (.one (.lit (.int .i64 (i:Int)))))] [(4,.var none (Zae y.var)),(5,.var none (Zae y.to)),(6,.buf none 102 8 [])] [([(25,.d (.clip []))],[]),([(26,.d (.one (.sl (Zal l))))],[]),([(27,.d (.one (.lit (.int .i64 (i:Int)))))],[]),([(28,.d (.one (.sl (Zal (l.take i)))))],[]),([(29,.buf 29)],[(29,.buf none 102 8 (Zal (l.take i)))]),([(30,.d (.agg (Zae y.var)))],[]),([(31,.d (.agg (Zae y.to)))],[]),([(32,.d (.agg (ZaR y)))],[]),([(33,.d (.clip [ZaR y]))],[]),([(34,.buf 34)],[(34,.buf none 102 8 (Zal (l.take i++[y])))]),([(8,.buf 8)],[(8,.buf none 102 8 (Zal (l.take i++[y])))])] (fun j=>([(4,9),(9,10)]:List (Nat × Nat)).lookup j) [] (⟨by simp [gs],by simp [gm]⟩) (fun j hj=>by simp at hj) ⟨?_,?_,?_,?_,?_,?_,?_,?_,?_,?_,?_,trivial⟩ ?_
 ·intro s' m' hB hD hI hJ
  have F:=(ZbI.1 hB)
  simp only [lkS,lkM,List.getD_cons_zero,List.getD_cons_succ,and_true,true_and] at F
  have F:=ai F (tmz)
  refine gO3 ?_
  exact kS hB (Zbv.2 (by simp [lkS,lkM,gs,gm]))
 ·intro s' m' hB hD hI hJ
  have F:=(ZbI.1 hB)
  simp only [lkS,lkM,List.getD_cons_zero,List.getD_cons_succ,and_true,true_and] at F
  have F:=ai F (tmz)
  refine gO3 ?_
  exact kS hB (Zbv.2 (by simp [lkS,lkM,gs,gm]))
 ·intro s' m' hB hD hI hJ
  have F:=(ZbI.1 hB)
  simp only [lkS,lkM,List.getD_cons_zero,List.getD_cons_succ,and_true,true_and] at F
  have F:=ai F (tmz)
  refine gO3 ?_
  exact kS hB (Zbv.2 (by simp [lkS,lkM,gs,gm]))
 ·intro s' m' hB hD hI hJ
  have F:=ai (ZbI.1 hB) (ai (Zbv.1 (hD 1 (by decide) (.inl rfl))) (Zbv.1 (hD 2 (by decide) (.inl rfl))))
  simp only [lkS,lkM,List.getD_cons_zero,List.getD_cons_succ,and_true,true_and] at F
  have F:=ai F (ai bl (ai bb (ai s1 (ai s2 tmz))))
  refine gO3 ?_
  exact kS hB (Zbv.2 (by simp [lkS,lkM,gs,gm]))
 ·intro s' m' hB hD hI hJ
  have F:=ai (ZbI.1 hB) (ai (Zbv.1 (hD 0 (by decide) (.inl rfl))) (Zbv.1 (hD 3 (by decide) (.inl rfl))))
  simp only [lkS,lkM,List.getD_cons_zero,List.getD_cons_succ,and_true,true_and] at F
  have F:=ai F (ai l1 (ai l2 (ai l3 tmz)))
  refine gO3 ?_
  exact kB hB (Zbv.2 (by simp [lkS,lkM,gs,gm]))
 ·intro s' m' hB hD hI hJ
  have F:=(ZbI.1 hB)
  simp only [lkS,lkM,List.getD_cons_zero,List.getD_cons_succ,and_true,true_and] at F
  have F:=ai F (tmz)
  refine gO3 ?_
  exact kS hB (Zbv.2 (by simp [lkS,lkM,gs,gm]))
 ·intro s' m' hB hD hI hJ
  have F:=(ZbI.1 hB)
  simp only [lkS,lkM,List.getD_cons_zero,List.getD_cons_succ,and_true,true_and] at F
  have F:=ai F (tmz)
  refine gO3 ?_
  exact kS hB (Zbv.2 (by simp [lkS,lkM,gs,gm]))
 ·intro s' m' hB hD hI hJ
  have F:=ai (ZbI.1 hB) (ai (Zbv.1 (hD 5 (by decide) (.inl rfl))) (Zbv.1 (hD 6 (by decide) (.inl rfl))))
  simp only [lkS,lkM,List.getD_cons_zero,List.getD_cons_succ,and_true,true_and] at F
  have F:=ai F (ai hbd tmz)
  refine gO3 ?_
  exact kS hB (Zbv.2 (by simp [lkS,lkM,gs,gm,h7]))
 ·intro s' m' hB hD hI hJ
  have F:=ai (ZbI.1 hB) (Zbv.1 (hD 7 (by decide) (.inl rfl)))
  simp only [lkS,lkM,List.getD_cons_zero,List.getD_cons_succ,and_true,true_and] at F
  have F:=ai F (ai bdz tmz)
  refine gO3 ?_
  exact kS hB (Zbv.2 (by simp [lkS,lkM,gs,gm]))
 ·intro s' m' hB hD hI hJ
  have F:=ai (ZbI.1 hB) (ai (Zbv.1 (hD 4 (by decide) (.inr rfl))) (Zbv.1 (hD 8 (by decide) (.inl rfl))))
  simp only [lkS,lkM,List.getD_cons_zero,List.getD_cons_succ,and_true,true_and] at F
  have F:=ai F (ai l1 (ai l3 (ai l4 (ai l5 (ai bdz tmz)))))
  refine gO3 ?_
  exact kE hB (Zbv.2 (by simp [lkS,lkM,gs,gm]))
 ·intro s' m' hB hD hI hJ
  have F:=ai (ZbI.1 hB) (Zbv.1 (hD 9 (by decide) (.inr rfl)))
  simp only [lkS,lkM,List.getD_cons_zero,List.getD_cons_succ,and_true,true_and] at F
  have F:=ai F (tmz)
  refine gO3 ?_
  exact kE hB (Zbv.2 (by simp [lkS,lkM,gs,gm]))
 intro s' m' hB hP
 refine ⟨_,_,hB.app (hP 10 (.inl (by decide)) (fun k h=>by simp [List.lookup] at h)),?_⟩
 simp only [List.cons_append,List.nil_append,List.append_nil,List.getD_cons_zero,List.getD_cons_succ]
 /- gk end l9put -/
 refine ⟨_,Wk.refl _,?_⟩
 have s5:((l.length:Int)<=(l.length:Int))=True:=eq_true om
 (have F:=ai @s1 (ai @s3 (ai @s4 (ai @s5 (ai @l1 (ai @l3 (ai @l6 (ai @l7 (ai @Zas @tmz))))))));refine gG ?_;exact gTz [6])
set_option maxRecDepth 100000 in
theorem Zvp (l:List Bd) (hn:l.length<=1000) (hb:∀ y∈l,bulkRow (Zae y.var)<=1048576∧bulkRow (Zae y.to)<=1048576):Con e0 77 [.one (.sl (Zal l))] [.one (.sl (Zal l))]:=by
 have bl:=Zbd l
 have bg:=Zca l
 have bb:=bds8 l
 have l1:∀ l:List Bd,ZaX 8 (Zal l)=true:=fun l=>bds8 l
 have l3:=Zbd
 refine gI (ts:=[.slot 2]) 541 Tryz.func77 ?_
 (have F:=ai @bl @tmz;refine gG ?_;clear F)
 (have F:=ai @Zgn @tmz;refine gL (ι:=Nat) [3,4,9] [3] (fun i=>[(4,A.d (.one (.lit (.int .i64 i)))),(3,.buf 3)]) (fun i=>[(3,.buf none 102 8 (Zal (l.take i)))]) (fun i=>i<=l.length) (fun i=>l.length - i) (0) (Nat.zero_le _) (fun i hi=>?_);clear F)
 by_cases hlt:i < l.length
 rotate_left
 ·obtain rfl:i=l.length:=by omega
  have q1:((l.length:Int) < (l.length:Int))=False:=eq_false om
  rw [List.take_length]
  (have F:=ai @q1 (ai @bl @tmz);refine gG ?_;exact gTz [2])
 obtain ⟨y,hy⟩:∃ y,l[i]?=some y:=⟨_,List.getElem?_eq_getElem hlt⟩
 have hym:=List.mem_of_getElem? hy
 have cV:=Zgm y.var (hb y hym).1
 have cT:=Zgm y.to (hb y hym).2
 have q1:((i:Int) < (l.length:Int))=True:=eq_true om
 have q2:((l.take i).length+1<=maxApp)=True:=eq_true (by rw [List.length_take];unfold maxApp;omega)
 have hwi:=Zay (k:=i) om
 have hbd:Zae y.var++Zae y.to=ZaR y:=rfl
 have h7:∀ (c0 c1 c2 c3:C),List.take 4 (Zae y.var++[c0,c1,c2,c3])++Zae y.to++List.drop 8 (Zae y.var++[c0,c1,c2,c3])=ZaR y:=fun c0 c1 c2 c3=>by
  obtain ⟨⟨o,n,s,a⟩,t⟩:=y
  simp [Zae,ZaR]
 have l5:Zal (l.take i)++[ZaR y]=Zal (l.take (i+1)):=(ZkE l hy).symm
 (have F:=ai @q1 (ai @bl @tmz);have NN:Zah 5:=trivial;refine gGn ?_;clear F NN)
 refine gB ?_
 (have F:=ai @bl (ai @bb (ai @bg (ai @hy (ai @bdz (ai @Zas @tmz)))));refine gC (cV) ?_;clear F)
 (have F:=ai @bl (ai @bb (ai @bg (ai @hy (ai @bdz (ai @Zas @tmz)))));refine gC (cT) ?_;clear F)
 (have F:=ai @h7 (ai @l1 (ai @l3 (ai @l5 (ai @q2 (ai @bdz @tmz)))));refine gR ?_;clear F)
 (have F:=ai @hwi @tmz;refine gG ?_;exact ⟨i+1,hlt,gw,gw,by omega⟩)
theorem Zfw {b l m:List Bd} (h:mapA g b l=some m):m.length=l.length:=by
 have:=congrArg List.length (Zf3 h).1
 simpa using this
theorem ZeP (l:List Bd):(srtB l).length=l.length:=(ZcA l).length_eq
theorem Zf4 {a b:List Bd}:(Za5 a b).length<=b.length:=List.length_filter_le _ _
theorem ZAU {a b m:List Bd} (hm:mapA g b a=some m) {y:Bd} (h:y∈srtB (m++Za5 a b)):(∃ x∈a,y.var=x.var∧apT g b x.to=some y.to)∨y∈b:=by
 rcases List.mem_append.1 ((ZcA _).mem_iff.1 h) with h | h
 ·obtain ⟨x,hx,e,hxe⟩:=(Zf3 hm).2 y h
  exact .inl ⟨x,hx,e,hxe⟩
 ·exact .inr (List.mem_filter.1 h).1
theorem Zj6 {a b m:List Bd} (hg:SgnOk g) (ha:SbsOk g a) (hb:SbsOk g b) (hm:mapA g b a=some m):∀ y∈m++Za5 a b,TermOk g y.var∧TermOk g y.to:=fun y hy=>by
 rcases ZAU hm ((ZcA _).mem_iff.2 hy) with ⟨x,hx,e,hxe⟩ | h
 ·exact ⟨by rw [e];exact (ha.var x hx).term,ZhT hg hb.to' _ _ (Nat.lt_succ_self _) (ha.to' x hx) hxe⟩
 ·exact ⟨(hb.var y h).term,hb.to' y h⟩
theorem Zk6 {a b m:List Bd} (hg:SgnOk g) (ha:SbsOk g a) (hb:SbsOk g b) (hm:mapA g b a=some m):ZcS (m++Za5 a b):=fun y hy=>by
 obtain ⟨h1,h2⟩:=Zj6 hg ha hb hm y hy
 exact ⟨ZaM.ok hg _ _ (Nat.lt_succ_self _) h1.form,ZaM.ok hg _ _ (Nat.lt_succ_self _) h2.form⟩
theorem Zmr {l m:List Bd} (h:ZcS l) (hs:∀ y∈m,y∈l):ZcS m:=fun y hy=>h y (hs y hy)
theorem Zn2 {b l m:List Bd} {i:Nat} {y:Bd} (h:mapA g b (l.take i)=some m) (hy:l[i]?=some y):mapA g b (l.take (i+1))=(apT g b y.to).map fun t=>m++[⟨y.var,t⟩]:=by
 rw [List.take_add_one,hy,Option.toList,ZnY,h];rfl
set_option maxRecDepth 100000 in
theorem Zqv {a b:List Bd} (hok:Zdq g) (hla:ZcS a) (hba:(Zal a).length+Zac (Zal a)<=1048576) (hlb:ZcS b) (hbb:(Zal b).length+Zac (Zal b)<=1048576):Con e0 32 [.agg (ZaA g),.one (.sl (Zal a)),.one (.sl (Zal b))] [.one (.sl (Zal ((cmS g a b).getD []))),.one (.lit (.bool (cmS g a b).isSome))]:=by
 rw [Zbd] at hba hbb
 have al:=Zbd a
 have ag:=Zca a
 have ab:=bds8 a
 have bl:=Zbd b
 have bg:=Zca b
 have bb:=bds8 b
 have cA:=ZhC hok hla (fun y hy=>Zct (ZhX hba y hy).1) (fun y hy=>Zct (ZhX hba y hy).2)
 have cB:=ZhC hok hlb (fun y hy=>Zct (ZhX hbb y hy).1) (fun y hy=>Zct (ZhX hbb y hy).2)
 have z1:(none:Option (List Bd)).getD []=[]:=rfl
 have z2:(none:Option (List Bd)).isSome=false:=rfl
 have z3:=Zgn
 by_cases h:ZbJ g=true∧ZbQ g a=true∧ZbQ g b=true
 rotate_left
 ·have e:cmS g a b=none:=by unfold cmS;rw [if_neg h]
  rw [e]
  rw [ZaA] at cA cB ⊢
  refine gI (ts:=[.slot 6,.slot 7]) 77372433119032171370143695 Tryz.func32 ?_
  (have F:=@tmz;have NN:Zah 1:=trivial;refine gGn ?_;clear F NN)
  refine gB ?_
  (have F:=@tmz;refine gC (cA) ?_;clear F)
  cases h1:(ZbJ g && ZbQ g a) with
  | false =>
   (have F:=@tmz;refine gR ?_;clear F)
   (have F:=ai @z1 (ai @z2 (ai @z3 @tmz));refine gG ?_;exact gTz [6])
  | true =>
  have h2:(ZbJ g && ZbQ g b)=false:=by
   rw [Bool.and_eq_true] at h1
   cases h3:ZbQ g b with
   | false=>rw [Bool.and_false]
   | true=>exact absurd ⟨h1.1,h1.2,h3⟩ h
  rw [h2] at cB
  (have F:=@tmz;refine gC (cB) ?_;clear F)
  (have F:=@tmz;refine gR ?_;clear F)
  (have F:=ai @z1 (ai @z2 (ai @z3 @tmz));refine gG ?_;exact gTz [6])
 obtain ⟨h1,h2,h3⟩:=h
 have hg:=ZeX.1 h1
 have hA:=ZeZ.1 h2
 have hB:=ZeZ.1 h3
 have a8:=hA.len
 have b8:=hB.len
 have e:cmS g a b=(mapA g b a).bind fun m=>if ZbQ g (srtB (m++Za5 a b))=true then some (srtB (m++Za5 a b)) else none:=by unfold cmS;rw [if_pos ⟨h1,h2,h3⟩]
 rw [h1,h2] at cA
 rw [h1,h3] at cB
 have cS:=fun l h=>ZhC (l:=l) hok h
 have cP:=fun y (hy:y∈a)=>Zry hok hg hB _ (Nat.lt_succ_self _) (hA.to' y hy)
 rw [ZaA] at cA cB cS cP ⊢
 refine gI (ts:=[.slot 6,.slot 7]) 77372433119032171370143695 Tryz.func32 ?_
 (have F:=@tmz;have NN:Zah 1:=trivial;refine gGn ?_;clear F NN)
 refine gB ?_
 (have F:=@tmz;refine gC (cA) ?_;clear F)
 (have F:=@tmz;refine gC (cB) ?_;clear F)
 (have F:=@tmz;refine gR ?_;clear F)
 (have F:=@tmz;refine gG ?_;clear F)
 refine Zcq (ZeV [8] (by simp only [pz,↓reduceIte,Nat.reduceEqDiff,Nat.reduceAdd,Nat.reduceSub,Nat.reduceMul,Nat.reduceLeDiff,Nat.reduceBEq,Bool.false_eq_true,decide_true,decide_false,Int.reduceLE,Int.reduceToNat,Int.reduceLT,Int.reduceEq,eq_self,Nat.reduceShiftRight,Nat.reduceAnd,Nat.reduceBneDiff,tmz];exact rfl)) fun σ' hσ=>?_
 subst hσ
 (have F:=ai ((show Zal (srtB [])=[] from rfl)) @tmz;refine gL (ι:=Nat × List Bd) [6,7,8,9,10,11,29,44] [] (fun x=>[(9,A.d (.one (.lit (.int .i64 x.1)))),(8,.d (.one (.sl (Zal (srtB x.2)))))]) (fun x=>[]) (fun x=>x.1<=a.length∧mapA g b (a.take x.1)=some x.2) (fun x=>a.length - x.1) ((0,[])) (⟨Nat.zero_le _,rfl⟩) (fun x hx=>?_);clear F)
 obtain ⟨i,m⟩:=x
 obtain ⟨hi,hm⟩:=hx
 simp only at hi hm
 dsimp only
 have hml:=Zfw hm
 rw [List.length_take_of_le hi] at hml
 have hmo:ZcS (srtB m):=fun y hy=>by
  obtain ⟨x,hx,e1,e2⟩:=(Zf3 hm).2 y ((ZcA m).mem_iff.1 hy)
  have hx':=List.mem_of_mem_take hx
  exact ⟨by rw [e1];exact (hla x hx').1,ZaM.ok hg _ _ (Nat.lt_succ_self _) (ZhT hg hB.to' _ _ (Nat.lt_succ_self _) (hA.to' x hx') e2).form⟩
 by_cases hil:i < a.length
 ·have q2:((i:Int) < (a.length:Int))=True:=eq_true om
  obtain ⟨y,hy⟩:∃ y,a[i]?=some y:=⟨_,List.getElem?_eq_getElem hil⟩
  have hym:=List.mem_of_getElem? hy
  have cP:=cP y hym
  have hwi:=Zay (k:=i) om
  have hmt:=Zn2 hm hy
  (have F:=ai @q2 (ai @al @tmz);have NN:Zah 7:=trivial;refine gGn ?_;clear F NN)
  refine gLt 11 10 12 ?_
  (have F:=ai @al (ai @ab (ai @ag (ai @hy (ai @bdz (ai @Zas @tmz)))));refine gC (cP) ?_;clear F)
  (have F:=@tmz;refine gR ?_;clear F)
  cases hu:apT g b y.to with
  | none =>
   have e2:cmS g a b=none:=by rw [e,ZjG hym hu];rfl
   have z4:(none:Option Tm).isSome=false:=rfl
   rw [e2]
   (have F:=ai @z1 (ai @z2 (ai @z3 (ai @z4 @tmz)));refine gG ?_;exact gTz [6])
  | some t =>
   have z4:(some t).isSome=true:=rfl
   rw [hu,Option.map_some] at hmt
   have ht:=ZhT hg hB.to' _ _ (Nat.lt_succ_self _) (hA.to' y hym) hu
   have cQ:=Zn1 hmo (by rw [ZeP];omega) (y:=⟨y.var,t⟩) ⟨(hla y hym).1,ZaM.ok hg _ _ (Nat.lt_succ_self _) ht.form⟩
   rw [<- ZnX] at cQ
   rw [Zqo hu]
   (have F:=ai @z4 @tmz;have NN:Zah 10:=trivial;refine gGn ?_;clear F NN)
   refine gB ?_
   (have F:=ai @al (ai @ab (ai @ag (ai @hy (ai @bdz (ai @Zas @tmz)))));refine gC (cQ) ?_;clear F)
   (have F:=@tmz;refine gR ?_;clear F)
   (have F:=ai @hwi @tmz;refine gG ?_;exact ⟨(i+1,m++[⟨y.var,t⟩]),⟨hil,hmt⟩,gw,gw,by omega⟩)
 obtain rfl:i=a.length:=by omega
 have q2:((a.length:Int) < (a.length:Int))=False:=eq_false om
 rw [List.take_length] at hm
 clear hml hmo
 have hall:=Zk6 hg hA hB hm
 have hr0:Za5 a []=[]:=rfl
 have hln:(m++Za5 a b).length<=16:=by
  have h1:=Zfw hm
  have h2:=Zf4 (a:=a) (b:=b)
  rw [List.length_append];omega
 have hsub:∀ i,∀ y∈Za5 a (b.take i),y∈Za5 a b:=fun i y hy=>by
  unfold Za5 at hy ⊢
  obtain ⟨h1,h2⟩:=List.mem_filter.1 hy
  exact List.mem_filter.2 ⟨List.mem_of_mem_take h1,h2⟩
 (have F:=ai @q2 (ai @al @tmz);refine gG ?_;clear F)
 (have F:=ai @hr0 @tmz;refine gL (ι:=Nat) [8,12,14,56,70] [] (fun i=>[(12,A.d (.one (.lit (.int .i64 i)))),(8,.d (.one (.sl (Zal (srtB (m++Za5 a (b.take i)))))))]) (fun i=>[]) (fun i=>i<=b.length) (fun i=>b.length - i) (0) (Nat.zero_le _) (fun i hi=>?_);clear F)
 have hmo:ZcS (srtB (m++Za5 a (b.take i))):=fun y hy=>hall y (by
  rcases List.mem_append.1 ((ZcA _).mem_iff.1 hy) with h | h
  ·exact List.mem_append.2 (.inl h)
  ·exact List.mem_append.2 (.inr (hsub i y h)))
 by_cases hil:i < b.length
 ·have q2:((i:Int) < (b.length:Int))=True:=eq_true om
  obtain ⟨y,hy⟩:∃ y,b[i]?=some y:=⟨_,List.getElem?_eq_getElem hil⟩
  have hym:=List.mem_of_getElem? hy
  have cG:=ZnV hla (hlb y hym).1 om
  have hwi:=Zay (k:=i) om
  have hrs:=Zmq (a:=a) hy
  have hli:(m++Za5 a (b.take i)).length<=16:=by
   have h1:=Zfw hm
   have h2:=Zf4 (a:=a) (b:=b.take i)
   rw [List.length_take] at h2
   rw [List.length_append];omega
  have cQ:=Zn1 hmo (by rw [ZeP];omega) (hlb y hym)
  rw [ZE0] at cG
  (have F:=ai @q2 (ai @bl @tmz);have NN:Zah 14:=trivial;refine gGn ?_;clear F NN)
  refine gB ?_
  (have F:=ai @bl (ai @bb (ai @bg (ai @hy (ai @bdz (ai @Zas @tmz)))));refine gC (cG) ?_;clear F)
  cases hin:inA a y.var with
  | true =>
   rw [hin,if_pos rfl] at hrs
   rw [<- hrs] at hmo
   (have F:=@tmz;refine gR ?_;clear F)
   (have F:=ai @hrs @tmz;have NN:Zah 13:=trivial;refine gGn ?_;clear F NN)
   rw [<- hrs]
   (have F:=ai @hwi @tmz;refine gG ?_;exact ⟨i+1,hil,gw,gw,by omega⟩)
  | false =>
   rw [hin,if_neg (by simp)] at hrs
   rw [<- ZnX,List.append_assoc,<- hrs] at cQ
   (have F:=@tmz;refine gR ?_;clear F)
   (have F:=@tmz;have NN:Zah 16:=trivial;refine gGn ?_;clear F NN)
   refine gB ?_
   (have F:=ai @bl (ai @bb (ai @bg (ai @hy (ai @bdz (ai @Zas @tmz)))));refine gC (cQ) ?_;clear F)
   (have F:=@tmz;refine gR ?_;clear F)
   (have F:=ai @hwi @tmz;refine gG ?_;exact ⟨i+1,hil,gw,gw,by omega⟩)
 obtain rfl:i=b.length:=by omega
 have q2:((b.length:Int) < (b.length:Int))=False:=eq_false om
 rw [List.take_length] at hmo ⊢
 have hto:∀ y∈srtB (m++Za5 a b),TermOk g y.var∧TermOk g y.to:=fun y hy=>Zj6 hg hA hB hm y ((ZcA _).mem_iff.1 hy)
 have hbl:∀ y∈srtB (m++Za5 a b),bulkRow (Zae y.var)<=1048576∧bulkRow (Zae y.to)<=1048576:=fun y hy=>⟨Zj3 (hto y hy).1,Zj3 (hto y hy).2⟩
 have cF:=cS _ hmo (fun y hy=>Zct (hbl y hy).1) (fun y hy=>Zct (hbl y hy).2)
 have cY:=Zvp (srtB (m++Za5 a b)) (by rw [ZeP];omega) hbl
 rw [hm] at e
 rw [e,Option.bind_some]
 rw [h1,Bool.true_and] at cF
 generalize srtB (m++Za5 a b)=out at *
 (have F:=ai @q2 (ai @bl @tmz);have NN:Zah 17:=trivial;refine gGn ?_;clear F NN)
 refine gB ?_
 (have F:=@tmz;refine gC (cF) ?_;clear F)
 cases hf:ZbQ g out with
 | false =>
  (have F:=@tmz;refine gR ?_;clear F)
  rw [if_neg (by simp)]
  (have F:=ai @z1 (ai @z2 (ai @z3 @tmz));refine gG ?_;exact gTz [6])
 | true =>
  have z4:(some out).getD []=out:=rfl
  have z5:(some out).isSome=true:=rfl
  rw [if_pos rfl]
  (have F:=@tmz;refine gR ?_;clear F)
  (have F:=@tmz;have NN:Zah 19:=trivial;refine gGn ?_;clear F NN)
  refine gB ?_
  (have F:=@tmz;refine gC (cY) ?_;clear F)
  (have F:=@tmz;refine gR ?_;clear F)
  (have F:=ai @z4 (ai @z5 @tmz);refine gG ?_;exact gTd)
end
end Go.Proofs.YtffmjghcpgpfpaaGreatDoor
namespace Go.Proofs.YtffmjghcpgpfpaaGreatDoor
open Go.RowKit
open Go.Sort (grow HoldsK putRowK flatK SWO PermIn SortedIn Holds mapBlock onCells putRow putCells get_flatK size_flatK)
theorem Zzz {w w':World} (h:Kept True (fun _=>False) w.heap.size w w'):∃ q os,w'=grow (w.drewN q) os:=by
 obtain ⟨p,hp⟩:=regrown_of_below (w:=w) (w':=w') ⟨h.os,h.tape,h.output,h.size,fun k hk=>h.block k hk id⟩
 have hd:=h.drawn trivial
 have e:p.d=w'.drawn:=by rw [hp];rfl
 refine ⟨w'.drawn - w.drawn,p.os,?_⟩
 have e2:redrawn w p.d=w.drewN (w'.drawn - w.drawn):=by
  unfold redrawn World.drewN
  rw [e,show w.drawn+(w'.drawn - w.drawn)=w'.drawn by omega]
 rw [<- e2]
 exact hp
abbrev SRow (w:World) (S:Nat->Prop) (Q:List C->Prop):={x:List C × List Value // Q x.1∧Zaa w S x.1 x.2}
theorem Zqw {w:World} {S:Nat->Prop} {b k:Nat} {Q:List C->Prop} (hk:∀ r,Q r->r.length=k):∀ (rows:List (List C)) (off:Nat),(∀ r∈rows,Q r)->Zar w S b off rows->∃ l:List (SRow w S Q),l.map (fun x=>x.1.1)=rows∧∀ (i:Nat) x,l[i]?=some x->∀ j u,x.1.2[j]?=some u->w.cell? ⟨b,off+i * k+j,none⟩=some u
 | [],off,_,_=>⟨[],rfl,fun i x h=>by simp at h⟩
 | r::rs,off,hQ,h=>by
  simp only [Zar] at h
  obtain ⟨vs,h1,h2⟩:=h.1.vals
  obtain ⟨l,e,hl⟩:=Zqw hk rs (off+r.length) (fun x hx=>hQ x (List.mem_cons_of_mem _ hx)) h.2
  have hr:=hQ r List.mem_cons_self
  refine ⟨⟨(r,vs),hr,h1⟩::l,by simp [e],fun i x hi j u hj=>?_⟩
  cases i with
  | zero =>
   simp only [List.getElem?_cons_zero,Option.some.injEq] at hi
   subst hi
   have:=h2 j u hj
   rwa [Nat.zero_mul,Nat.add_zero]
  | succ i =>
   have:=hl i x (by simpa using hi) j u hj
   rw [hk r hr] at this
   rwa [show off+(i+1) * k+j=off+k+i * k+j by rw [Nat.succ_mul];omega]
theorem Zms {w W:World} {S S2:Nat->Prop} {b k:Nat} {Q:List C->Prop} (hk:∀ r,Q r->r.length=k) (hv:∀ x:SRow w S Q,Zaa W S2 x.1.1 x.1.2):∀ (l:List (SRow w S Q)) (off:Nat),(∀ (i:Nat) x,l[i]?=some x->∀ j u,x.1.2[j]?=some u->W.cell? ⟨b,off+i * k+j,none⟩=some u)->Zar W S2 b off (l.map (fun x=>x.1.1))
 | [],off,_=>by simp [Zar]
 | x::l,off,h=>by
  simp only [List.map_cons,Zar]
  refine ⟨Zai.of_vals _ _ off (hv x) fun j u hj=>?_,?_⟩
  ·have:=h 0 x rfl j u hj
   rwa [Nat.zero_mul,Nat.add_zero] at this
  ·rw [hk _ x.2.1]
   refine Zms hk hv l (off+k) fun i y hi j u hj=>?_
   have:=h (i+1) y (by simpa using hi) j u hj
   rwa [show off+(i+1) * k+j=off+k+i * k+j by rw [Nat.succ_mul];omega] at this
theorem Zqx {α:Type} [Inhabited α] {enc:α->List Value} {k:Nat} {W:World} {b:Nat} {d:Array α} (hk:∀ x,(enc x).length=k) (h:HoldsK enc k W b 0 d) {i:Nat} {x:α} (hi:d.toList[i]?=some x) {j:Nat} {u:Value} (hj:(enc x)[j]?=some u):W.cell? ⟨b,0+i * k+j,none⟩=some u:=by
 have hil:i < d.size:=by have:=(List.getElem?_eq_some_iff.1 hi).1;simpa using this
 have hjl:j < k:=by have:=(List.getElem?_eq_some_iff.1 hj).1;rwa [hk] at this
 have ht:i * k+j < d.size * k:=by
  have:=Nat.mul_le_mul_right k (show i+1<=d.size from hil)
  rw [Nat.succ_mul] at this
  omega
 have h1:=(h (i * k+j) (by rw [size_flatK];exact ht)).1
 rw [get_flatK _ _ _ _ ht,show (i * k+j) / k=i by rw [Nat.add_comm,Nat.add_mul_div_right _ _ om,Nat.div_eq_of_lt hjl,Nat.zero_add],show (i * k+j) % k=j by rw [Nat.add_comm,Nat.add_mul_mod_self_right,Nat.mod_eq_of_lt hjl]] at h1
 have e1:d[i]! = x:=by
  rw [getElem!_pos d i hil]
  have:=(List.getElem?_eq_some_iff.1 hi).2
  simpa using this
 have e2:(enc x)[j]! = u:=by
  rw [getElem!_pos (enc x) j (by rw [hk];exact hjl)]
  exact (List.getElem?_eq_some_iff.1 hj).2
 rw [e1,e2,<- Nat.add_assoc] at h1
 exact h1
theorem ZzA {α:Type} [Inhabited α] {enc:α->List Value} {k:Nat} {w:World} {b:Nat} {l:List α} (hk:∀ x,(enc x).length=k) (hf:∀ o,w.frozen? ⟨b,o,none⟩=false) (h:∀ (i:Nat) x,l[i]?=some x->∀ j u,(enc x)[j]?=some u->w.cell? ⟨b,0+i * k+j,none⟩=some u):HoldsK enc k w b 0 l.toArray:=by
 intro t ht
 refine ⟨?_,hf _⟩
 rw [size_flatK] at ht
 have ht':t < l.length * k:=by simpa using ht
 have k0 : 0 < k := by rcases Nat.eq_zero_or_pos k with e | e; · subst e; simp at ht'
                       ·exact e
 have hi:t / k < l.length:=Nat.div_lt_of_lt_mul (by rw [Nat.mul_comm];exact ht')
 have hj:t % k < k:=Nat.mod_lt _ k0
 rw [get_flatK _ _ _ _ ht]
 have e1:l.toArray[t / k]! = l[t / k]:=by rw [getElem!_pos _ _ (by simpa using hi)];rfl
 rw [e1,getElem!_pos _ _ (by rw [hk];exact hj)]
 have:=h (t / k) l[t / k] (List.getElem?_eq_getElem hi) (t % k) _ (List.getElem?_eq_getElem (by rw [hk];exact hj))
 rwa [show 0+t / k * k+t % k=0+t by have:=Nat.div_add_mod' t k;omega] at this
theorem Zaa.one {w:World} {S:Nat->Prop}:∀ {cs:List C} {us:List Value},cs.all Zaw=true->Zaa w S cs us->∀ v∈us,v.oneCell'=true
 | [],[],_,_,v,h=>by simp at h
 | c::cs,u::us,hc,h,v,hv=>by
  simp only [List.all_cons,Bool.and_eq_true] at hc
  simp only [Zaa] at h
  rcases List.mem_cons.1 hv with rfl | hv
  ·exact Ze4 hc.1 h.1
  ·exact Zaa.one hc.2 h.2 v hv
 | [],_::_,_,h,_,_=>by simp [Zaa] at h
 | _::_,[],_,h,_,_=>by simp [Zaa] at h
theorem ZAV {α:Type} [Inhabited α] {enc:α->List Value} {k:Nat} {w:World} {b n:Nat} {d:Array α} {os:Array Obj} {cur:Array Value} {ty:Nat} (hh:w.heap[b]?=some (.cells cur ty (0,0))):(sortWorldK enc k w b 0 n d os).heap[b]?=some (.cells (putCells id 0 (flatK enc k d) cur) ty (0,0)):=by
 have hb:b < w.heap.size:=(Array.getElem?_eq_some_iff.1 hh).1
 show ((w.heap.modify b (onCells (putCells id 0 (flatK enc k d))))++os)[b]?=_
 rw [Array.getElem?_append_left (by simpa using hb),Array.getElem?_modify,if_pos rfl,hh]
 rfl
theorem Zk7 {α:Type} [Inhabited α] {enc:α->List Value} {k:Nat} {w:World} {b n j:Nat} {d:Array α} {os:Array Obj} (hj:j < w.heap.size) (hne:j≠b):(sortWorldK enc k w b 0 n d os).heap[j]?=w.heap[j]?:=by
 show ((w.heap.modify b (onCells (putCells id 0 (flatK enc k d))))++os)[j]?=_
 rw [Array.getElem?_append_left (by simpa using hj),Array.getElem?_modify,if_neg (fun e=>hne e.symm)]
theorem Zgw {α:Type} [Inhabited α] {enc:α->List Value} {k:Nat} {w:World} {b n:Nat} {d:Array α} {os:Array Obj}:w.heap.size<=(sortWorldK enc k w b 0 n d os).heap.size:=by
 show _<=((w.heap.modify b (onCells (putCells id 0 (flatK enc k d))))++os).size
 simp
theorem ZzB {P:Program} (hP:e1.P=P) {ρ:Go.Shelf.Ren} (L:SlLaysF0.n6 P ρ) {k ty:Nat} (aE:∀ w,(isAgg (ρ.t 24)).run P w=.ok true w) (zE:∀ w,(Go.sizeOf (ρ.t 24)).run P w=.ok k w) (hbody:Zb5 P (ρ.f 6)=true) {g:FuncId} (eg:∀ args w,(callFunc g args).run P w=.ok (.enter g args) w)
  {rows rows':List (List C)} {cf:List C->List C->Int} (hlen:rows.length < 4611686018427387904) (hg:∀ a∈rows,∀ b∈rows,Con e1 g [.agg a,.agg b] [.one (.lit (.int .i64 (cf a b)))])
  (h1:∀ a∈rows,¬ cf a a < 0) (h2:∀ a∈rows,∀ b∈rows,∀ c∈rows,cf a b < 0->cf b c < 0->cf a c < 0) (h3:∀ a∈rows,∀ b∈rows,∀ c∈rows,¬ cf a b < 0->¬ cf b c < 0->¬ cf a c < 0)
  (hu:∀ l:List (List C),l.Perm rows->(∀ (i j:Nat) a b,i < j->l[i]?=some a->l[j]?=some b->¬ cf b a < 0)->l=rows'):ConI e1 (ρ.f 6) ty k rows [.one (.fn g [])] rows' []:=by
 refine ⟨by rw [hP];exact hbody,fun w S v0 vs hS hE hvE hG hbuf hargs=>?_⟩
 rw [hP]
 match vs,hargs with
 | [u],hargs =>
  obtain ⟨⟨us,rfl,hus⟩,_⟩:(∃ us:List Value,u=.func (.func g) #[] us.toArray∧Zaa w S [] us)∧True:=by simpa [ZaC,DRel,Rep] using hargs
  have hus0:us=[]:=by cases us with
   | nil=>rfl
   | cons _ _=>simp [Zaa] at hus
  subst hus0
  obtain ⟨h0,hrl,hcase⟩:=hbuf
  by_cases hne:rows=[]
  ·subst hne
   have hr':rows'=[]:=(hu [] (List.Perm.refl _) (fun i j a b _ h=>by simp at h)).symm
   subst hr'
   have hform:∃ p cap,v0=.slice p 0 cap:=by
    rcases hcase with ⟨_,a,rfl⟩ | ⟨b,cap,cur,rfl,_⟩
    ·exact ⟨a,0,rfl⟩
    ·exact ⟨_,cap,rfl⟩
   obtain ⟨p,cap,hv0⟩:=hform
   rw [hv0]
   refine (AnyF.slices_SortFunc_none (P:=P) L p cap _ w).mono ?_
   rintro e w' ⟨rfl,rfl⟩
   rw [<- hv0]
   have hs:(fun b=>S b∨(w'.heap.size<=b∧b < w'.heap.size))=S:=by
    funext b
    exact propext ⟨fun h=>h.elim id (fun h=>absurd h.2 om),.inl⟩
   refine ⟨_,rfl,Kept.refl ..,hG,?_,[],rfl,trivial⟩
   rw [hs]
   exact ⟨h0,hrl,hcase⟩
  ·rcases hcase with ⟨e,_⟩ | ⟨b,cap,cur,rfl,hc,hbz,hSb,hh,hle,hmx,hcs,hrows⟩
   ·exact absurd e hne
   have hkr:∀ r,r∈rows->r.length=k:=fun r hr=>(hrl r hr).1
   obtain ⟨l,hl,hcell⟩:=Zqw (k:=k) (Q:=fun r=>r∈rows) hkr rows 0 (fun r h=>h) hrows
   have hll:l.length=rows.length:=by have:=congrArg List.length hl;rwa [List.length_map] at this
   obtain ⟨x0,hx0⟩:∃ x,x∈l:=List.exists_mem_of_ne_nil _ (fun e=>hne (List.eq_nil_of_length_eq_zero (by rw [<- hll,e];rfl)))
   letI:Inhabited (SRow w S (fun r=>r∈rows)):=⟨x0⟩
   have hk:∀ x:SRow w S (fun r=>r∈rows),x.1.2.length=k:=fun x=>by rw [x.2.2.len];exact hkr _ x.2.1
   have h1c:∀ x:SRow w S (fun r=>r∈rows),∀ v∈x.1.2,v.oneCell'=true:=fun x=>Zaa.one (hrl _ x.2.1).2 x.2.2
   have hH:HoldsK (fun x:SRow w S (fun r=>r∈rows)=>x.1.2) k w b 0 l.toArray:=ZzA hk (fun o=>frozen_of_row w b o cur ty hh) hcell
   have keepV:∀ (m:Nat) (os:Array Obj) (dk:Array (SRow w S (fun r=>r∈rows))) (S2:Nat->Prop),(∀ b,S b->S2 b)->∀ x:SRow w S (fun r=>r∈rows),Zaa (sortWorldK (fun x:SRow w S (fun r=>r∈rows)=>x.1.2) k w b 0 m dk os) S2 x.1.1 x.1.2:=fun m os dk S2 hS2 x =>
    Zaa.keep2 Zgw (fun b' o hb'=>Zbx (Zk7 (hS b' hb').1 (fun e:b'=b=>hSb (by rw [<- e];exact hb'))) o) hS2 x.2.2
   have hvb:vblk (.slice (some ⟨b,0,none⟩) rows.length cap)=some b:=by simp only [vblk];rw [if_neg om]
   have keepG:∀ (m:Nat) (os:Array Obj) (dk:Array (SRow w S (fun r=>r∈rows))),e1.G (sortWorldK (fun x:SRow w S (fun r=>r∈rows)=>x.1.2) k w b 0 m dk os):=fun m os dk =>
    ZuL.keep w _ Zgw (fun b' hb'=>Zk7 (hE b' hb') (fun e=>hvE b hvb (e ▸ hb'))) hG
   have hcmp:CmpLays P g #[] (fun x:SRow w S (fun r=>r∈rows)=>x.1.2) k (fun x y=>cf x.1.1 y.1.1) b 0 l.toArray.size w:=by
    intro m os dk hdk x y
    have hc:=(hg _ x.2.1 _ y.2.1).2 (sortWorldK (fun x:SRow w S (fun r=>r∈rows)=>x.1.2) k w b 0 m dk os) S [.agg x.1.2.toArray,.agg y.1.2.toArray] (fun b' hb'=>⟨Nat.lt_of_lt_of_le (hS b' hb').1 Zgw,(hS b' hb').2⟩) (fun b' h=>Nat.lt_of_lt_of_le (hE b' h) Zgw) (keepG m os dk)
     ⟨⟨_,rfl,keepV m os dk S (fun _ h=>h) x⟩,⟨_,rfl,keepV m os dk S (fun _ h=>h) y⟩,trivial⟩
    rw [hP] at hc
    refine hc.mono ?_
    rintro e w' ⟨v,rfl,hK,hG',hv⟩
    have hv:v=.int .i64 (cf x.1.1 y.1.1):=by simpa [retA,ARel,DRel,Rep] using hv
    exact ⟨by rw [hv],Zzz (hK.all1 (keepG m os dk) hG')⟩
   have hO:SWO (ltOf (fun x y:SRow w S (fun r=>r∈rows)=>cf x.1.1 y.1.1)):=by
    refine ⟨fun x=>?_,fun x y z=>?_,fun x y z=>?_⟩ <;> simp only [ltOf,decide_eq_false_iff_not,decide_eq_true_eq]
    ·exact h1 _ x.2.1
    ·exact h2 _ x.2.1 _ y.2.1 _ z.2.1
    ·exact h3 _ x.2.1 _ y.2.1 _ z.2.1
   have hsort:=AnyQ.slices_SortFunc L k aE zE (fun x:SRow w S (fun r=>r∈rows)=>x.1.2) hk h1c (fun x y=>cf x.1.1 y.1.1) hO g #[] b 0 cap l.toArray w eg hcmp hH hbz (by simp only [List.size_toArray];omega)
   have hlz:l.toArray.size=rows.length:=by simpa using hll
   rw [hlz] at hsort
   refine hsort.mono ?_
   rintro e w' ⟨rfl,d',n,os,hp,hs,rfl⟩
   obtain ⟨hp1,_,hp3⟩:=hp
   rw [hlz] at hp1
   have hex:∀ a:Array (SRow w S (fun r=>r∈rows)),a.size=rows.length->a.extract 0 rows.length=a:=fun a ha=>by rw [<- ha];simp
   rw [hex d' hp1,hex _ hlz] at hp3
   have hperm:(d'.toList.map (fun x=>x.1.1)).Perm rows:=by
    have:=hp3.map (fun x:SRow w S (fun r=>r∈rows)=>x.1.1)
    rwa [show l.toArray.toList=l from rfl,hl] at this
   have hrows':d'.toList.map (fun x=>x.1.1)=rows':=hu _ hperm fun i j a c hij ha hc=>by
    simp only [List.getElem?_map,Option.map_eq_some_iff] at ha hc
    obtain ⟨x,hx,rfl⟩:=ha
    obtain ⟨y,hy,rfl⟩:=hc
    have hjl:j < rows.length:=by have:=(List.getElem?_eq_some_iff.1 hy).1;simpa [hp1] using this
    have:=hs i j (Nat.zero_le _) hij hjl
    have ex:d'[i]! = x:=by
     rw [getElem!_pos d' i om]
     have:=(List.getElem?_eq_some_iff.1 hx).2
     simpa using this
    have ey:d'[j]! = y:=by
     rw [getElem!_pos d' j om]
     have:=(List.getElem?_eq_some_iff.1 hy).2
     simpa using this
    rw [ex,ey] at this
    simpa [ltOf] using this
   have hlr:rows'.length=rows.length:=by rw [<- hrows',List.length_map,Array.length_toList,hp1]
   have hW:HoldsK (fun x:SRow w S (fun r=>r∈rows)=>x.1.2) k (sortWorldK (fun x:SRow w S (fun r=>r∈rows)=>x.1.2) k w b 0 n d' os) b 0 d':=SWK.holds (d0:=l.toArray) ⟨n,os,rfl⟩ hbz hH (by rw [hp1,hlz])
   refine ⟨_,rfl,⟨rfl,rfl,rfl,fun _=>Nat.le_add_right _ _,Zgw,fun j hj hn=>Zk7 hj (fun e=>hn (.inr (by rw [hvb,e])))⟩,keepG n os d',⟨h0,fun r hr=>?_,.inr ⟨b,cap,_,by rw [hlr],hc,Nat.lt_of_lt_of_le hbz Zgw,fun hn=>?_,ZAV hh,by omega,hmx,by simp [putCells,hcs],?_⟩⟩,[],rfl,trivial⟩
   ·rw [<- hrows'] at hr
    exact hrl r (hperm.mem_iff.1 hr)
   ·rcases hn with hn | hn
    ·exact hSb hn
    ·omega
   ·rw [<- hrows']
    exact Zms (Q:=fun r=>r∈rows) hkr (keepV n os d' _ (fun b hb=>.inl hb)) d'.toList 0 fun i x hi j u hj=>Zqx hk hW hi hj
end Go.Proofs.YtffmjghcpgpfpaaGreatDoor
namespace Go.Proofs.YtffmjghcpgpfpaaGreatDoor
open Go.Shelf
def ZzC:Ren:=⟨fun | 6=>80 | 15=>131 | 14=>130 | 28=>198 | 29=>199 | 20=>190 | 21=>191 | 22=>192 | 23=>193 | 24=>194 | 25=>195 | 26=>196 | 27=>197 | 46=>235 | 47=>236 | 48=>237 | 49=>238 | 50=>239 | 57=>259 | n=>n,fun | 22=>55 | 24=>102 | 25=>120 | 3=>3 | 39=>168 | 0=>0 | 53=>222 | 55=>224 | 4=>4 | 46=>216 | 45=>215 | 50=>205 | 5=>5 | 9=>9 | 66=>251 | 70=>255 | 76=>269 | 77=>270 | n=>n,fun | n=>n⟩
theorem ZFW:Go.Proofs.SlLaysF0.n6 Tryz.prog ZzC:={
 mixed:=by kernel_rfl,
 f6:=⟨Tryz.f80.name,by decide,Tryz.func80.trans (congrArg some (by kernel_rfl))⟩,
 f14:=⟨Tryz.f130.name,by decide,Tryz.func130.trans (congrArg some (by kernel_rfl))⟩,
 f15:=Tryz.func131.trans (congrArg some (by kernel_rfl)),
 f20:=⟨Tryz.f190.name,by decide,Tryz.func190.trans (congrArg some (by kernel_rfl))⟩,
 f21:=⟨Tryz.f191.name,by decide,Tryz.func191.trans (congrArg some (by kernel_rfl))⟩,
 f22:=⟨Tryz.f192.name,by decide,Tryz.func192.trans (congrArg some (by kernel_rfl))⟩,
 f23:=⟨Tryz.f193.name,by decide,Tryz.func193.trans (congrArg some (by kernel_rfl))⟩,
 f24:=⟨Tryz.f194.name,by decide,Tryz.func194.trans (congrArg some (by kernel_rfl))⟩,
 f25:=⟨Tryz.f195.name,by decide,Tryz.func195.trans (congrArg some (by kernel_rfl))⟩,
 f26:=⟨Tryz.f196.name,by decide,Tryz.func196.trans (congrArg some (by kernel_rfl))⟩,
 f27:=⟨Tryz.f197.name,by decide,Tryz.func197.trans (congrArg some (by kernel_rfl))⟩,
 f28:=Tryz.func198.trans (congrArg some (by kernel_rfl)),
 f29:=Tryz.func199.trans (congrArg some (by kernel_rfl)),
 f46:=⟨Tryz.f235.name,by decide,Tryz.func235.trans (congrArg some (by kernel_rfl))⟩,
 f47:=Tryz.func236.trans (congrArg some (by kernel_rfl)),
 f48:=Tryz.func237.trans (congrArg some (by kernel_rfl)),
 f49:=⟨Tryz.f238.name,by decide,Tryz.func238.trans (congrArg some (by kernel_rfl))⟩,
 f50:=⟨Tryz.f239.name,by decide,Tryz.func239.trans (congrArg some (by kernel_rfl))⟩,
 f57:=⟨Tryz.f259.name,by decide,Tryz.func259.trans (congrArg some (by kernel_rfl))⟩,
 t0:=Tryz.underlying0,
 a0:=Tryz.isAgg0,
 z0:=Tryz.sizeOf0,
 v0:=Tryz.zeroValue0,
 t3:=Tryz.underlying3,
 a3:=Tryz.isAgg3,
 z3:=Tryz.sizeOf3,
 v3:=Tryz.zeroValue3,
 t4:=Tryz.underlying4,
 a4:=Tryz.isAgg4,
 z4:=Tryz.sizeOf4,
 v4:=Tryz.zeroValue4,
 t5:=Tryz.underlying5,
 a5:=Tryz.isAgg5,
 z5:=Tryz.sizeOf5,
 v5:=Tryz.zeroValue5,
 t9:=Tryz.underlying9,
 a9:=Tryz.isAgg9,
 z9:=Tryz.sizeOf9,
 v9:=Tryz.zeroValue9,
 t22:=Tryz.underlying55,
 a22:=Tryz.isAgg55,
 z22:=Tryz.sizeOf55,
 v22:=Tryz.zeroValue55,
 t25:=Tryz.underlying120,
 a25:=Tryz.isAgg120,
 z25:=Tryz.sizeOf120,
 v25:=Tryz.zeroValue120,
 t39:=Tryz.underlying168,
 a39:=Tryz.isAgg168,
 z39:=Tryz.sizeOf168,
 v39:=Tryz.zeroValue168,
 t45:=Tryz.underlying215,
 a45:=Tryz.isAgg215,
 z45:=Tryz.sizeOf215,
 v45:=Tryz.zeroValue215,
 t46:=Tryz.underlying216,
 a46:=Tryz.isAgg216,
 z46:=Tryz.sizeOf216,
 v46:=Tryz.zeroValue216,
 t50:=Tryz.underlying205,
 a50:=Tryz.isAgg205,
 z50:=Tryz.sizeOf205,
 v50:=Tryz.zeroValue205,
 t53:=Tryz.underlying222,
 a53:=Tryz.isAgg222,
 z53:=Tryz.sizeOf222,
 v53:=Tryz.zeroValue222,
 t55:=Tryz.underlying224,
 a55:=Tryz.isAgg224,
 z55:=Tryz.sizeOf224,
 v55:=Tryz.zeroValue224,
 t66:=Tryz.underlying251,
 a66:=Tryz.isAgg251,
 z66:=Tryz.sizeOf251,
 v66:=Tryz.zeroValue251,
 t70:=Tryz.underlying255,
 a70:=Tryz.isAgg255,
 z70:=Tryz.sizeOf255,
 v70:=Tryz.zeroValue255,
 t76:=Tryz.underlying269,
 a76:=Tryz.isAgg269,
 z76:=Tryz.sizeOf269,
 v76:=Tryz.zeroValue269,
 t77:=Tryz.underlying270,
 a77:=Tryz.isAgg270,
 z77:=Tryz.sizeOf270,
 v77:=Tryz.zeroValue270 }
end Go.Proofs.YtffmjghcpgpfpaaGreatDoor
namespace Go.Proofs.YtffmjghcpgpfpaaGreatDoor
open Go.RowKit
theorem ZE2 {f:FuncId} {ty sz:Nat} {rows rows':List (List C)} {args r:List D} (h:ConI e1 f ty sz rows args rows' r):ConI e0 f ty sz rows args rows' r :=
 ⟨h.1,fun w S v0 vs h1 h2 h3 h4 h5 h6=>(h.2 w S v0 vs h1 h2 h3 h4 h5 h6).mono fun en w' ⟨v,k1,k2,k3⟩=>⟨v,k1,⟨k2.os,k2.tape,k2.output,fun d=>d.elim,k2.size,k2.block⟩,k3⟩⟩
set_option maxRecDepth 100000 in
theorem Zvq {ts:List Bd} {f:FuncId} {caps:List C} {P:Bd->Bool} (hl:ts.length<=big) (h:∀ a∈ts,Con e0 f (.agg (ZaR a)::caps.map .one) [.one (.lit (.bool (P a)))]) :
  ∃ r:Int,(0<=r ↔ ts.any P=true)∧Con e0 129 [.one (.sl (Zal ts)),.one (.fn f caps)] [.one (.lit (.int .i64 r))]:=by
 unfold big at hl
 have bl:=Zbd ts
 have bg:=Zca ts
 have bb:=bds8 ts
 by_cases hA:ts.any P=true
 ·obtain ⟨k,hk,hbef⟩:∃ k:Nat,(∃ a,ts[k]?=some a∧P a=true)∧∀ (j:Nat) a,j < k->ts[j]?=some a->P a=false:=by
   have hex:∃ k:Nat,∃ a,ts[k]?=some a∧P a=true:=by
    obtain ⟨a,ha,hp⟩:=List.any_eq_true.1 hA
    obtain ⟨k,hk⟩:=List.getElem?_of_mem ha
    exact ⟨k,a,hk,hp⟩
   obtain ⟨k,hk,hmin⟩:=ZFV hex
   refine ⟨k,hk,fun j a hj ha=>?_⟩
   cases hp:P a with
   | false=>rfl
   | true=>exact absurd ⟨a,ha,hp⟩ (hmin j hj)
  obtain ⟨a0,ha0,hp0⟩:=hk
  have hkl:=(List.getElem?_eq_some_iff.1 ha0).1
  refine ⟨(k:Int),⟨fun _=>hA,fun _=>by omega⟩,?_⟩
  refine gI 66483 Tryz.func129 ?_
  (have F:=ai @bl (ai @bg (ai @bb (ai @bdz (ai @Zas @tmz))));refine gG ?_;clear F)
  (have F:=@e0P;refine gL (ι:=Nat) [4,5,8,9,16] [] (fun i=>[(8,A.d (.one (.lit (.int .i64 i))))]) (fun i=>[]) (fun i=>i<=k) (fun i=>k+1 - i) (0) om (fun i hi=>?_);clear F)
  have hl':(i:Int) < (ts.length:Int):=by omega
  obtain ⟨a,ha⟩:∃ a,ts[i]?=some a:=⟨_,List.getElem?_eq_getElem om⟩
  have hw1:=Zay (k:=i) om
  (have F:=ai @bl (ai @bg (ai @bb (ai @bdz (ai @Zas (ai @tmz @hl')))));refine gG ?_;clear F)
  refine gB ?_
  (have F:=ai @bl (ai @bg (ai @bb (ai @bdz (ai @Zas (ai @tmz @ha)))));refine gC (h a (List.mem_of_getElem? ha)) ?_;clear F)
  by_cases hik:i=k
  ·subst hik
   rw [ha] at ha0
   injection ha0 with ha0
   subst ha0
   (have F:=ai @bl (ai @bg (ai @bb (ai @bdz (ai @Zas (ai @tmz @hp0)))));refine gR ?_;clear F)
   (have F:=ai @bl (ai @bg (ai @bb (ai @bdz (ai @Zas @tmz))));refine gG ?_;exact gT)
  ·have hpf:=hbef i a om ha
   (have F:=ai @bl (ai @bg (ai @bb (ai @bdz (ai @Zas (ai @tmz @hpf)))));refine gR ?_;clear F)
   (have F:=ai @hw1 (ai @bl (ai @bg (ai @bb (ai @bdz (ai @Zas @tmz)))));refine gG ?_;exact ⟨i+1,by omega,gw,gw,by omega⟩)
 ·have hbef:∀ (j:Nat) a,ts[j]?=some a->P a=false:=fun j a ha=>by
   cases hp:P a with
   | false=>rfl
   | true=>exact absurd (List.any_eq_true.2 ⟨a,List.mem_of_getElem? ha,hp⟩) hA
  refine ⟨-1,⟨fun h=>by omega,fun h=>absurd h hA⟩,?_⟩
  refine gI 66483 Tryz.func129 ?_
  (have F:=ai @bl (ai @bg (ai @bb (ai @bdz (ai @Zas @tmz))));refine gG ?_;clear F)
  (have F:=@e0P;refine gL (ι:=Nat) [4,5,8,9,16] [] (fun i=>[(8,A.d (.one (.lit (.int .i64 i))))]) (fun i=>[]) (fun i=>i<=ts.length) (fun i=>ts.length - i) (0) om (fun i hi=>?_);clear F)
  by_cases hi':i < ts.length
  rotate_left
  ·have hl':¬ ((i:Int) < (ts.length:Int)):=by omega
   (have F:=ai @bl (ai @bg (ai @bb (ai @bdz (ai @Zas (ai @tmz @hl')))));refine gG ?_;exact gT)
  have hl':(i:Int) < (ts.length:Int):=by omega
  obtain ⟨a,ha⟩:∃ a,ts[i]?=some a:=⟨_,List.getElem?_eq_getElem om⟩
  have hw1:=Zay (k:=i) om
  have hpf:=hbef i a ha
  (have F:=ai @bl (ai @bg (ai @bb (ai @bdz (ai @Zas (ai @tmz @hl')))));refine gG ?_;clear F)
  refine gB ?_
  (have F:=ai @bl (ai @bg (ai @bb (ai @bdz (ai @Zas (ai @tmz @ha)))));refine gC (h a (List.mem_of_getElem? ha)) ?_;clear F)
  (have F:=ai @bl (ai @bg (ai @bb (ai @bdz (ai @Zas (ai @tmz @hpf)))));refine gR ?_;clear F)
  (have F:=ai @hw1 (ai @bl (ai @bg (ai @bb (ai @bdz (ai @Zas @tmz)))));refine gG ?_;exact ⟨i+1,by omega,gw,gw,by omega⟩)
set_option maxRecDepth 100000 in
theorem Zoq {ts:List Bd} {f:FuncId} {caps:List C} {P:Bd->Bool} (hl:ts.length<=big) (h:∀ a∈ts,Con e0 f (.agg (ZaR a)::caps.map .one) [.one (.lit (.bool (P a)))]) :
  Con e0 78 [.one (.sl (Zal ts)),.one (.fn f caps)] [.one (.lit (.bool (ts.any P)))]:=by
 obtain ⟨r,hr,c⟩:=Zvq hl h
 refine gI 19 Tryz.func78 ?_
 (have F:=@tmz;refine gG ?_;clear F)
 refine gB ?_
 (have F:=@tmz;refine gC (c) ?_;clear F)
 have e:decide (0<=r)=ts.any P:=by
  rw [Bool.eq_iff_iff,decide_eq_true_iff];exact hr
 (have F:=@tmz;refine gR ?_;clear F)
 (have F:=@e;refine gG ?_;exact gT)
set_option maxRecDepth 100000 in
theorem Zrz (y z:Bd):Con e0 79 [.agg (ZaR z),.one (.ptr (ZaR y))] [.one (.lit (.bool (decide (Zak y.var z.var=0))))]:=by
 have c:=ZpR y.var z.var
 refine gI (ts:=[.slot 3]) 15 Tryz.func79 ?_
 (have F:=ai @bdz @tmz;have NN:Zah 1:=trivial;refine gGn ?_;clear F NN)
 refine gB ?_
 (have F:=ai @bdz @tmz;refine gC (c) ?_;clear F)
 (have F:=ai @bdz @tmz;refine gR ?_;clear F)
 (have F:=ai @bdz @tmz;refine gG ?_;exact gTd)
set_option maxRecDepth 100000 in
theorem ZrA (y z:Bd):Con e1 81 [.agg (ZaR y),.agg (ZaR z)] [.one (.lit (.int .i64 (Zak y.var z.var)))]:=by
 have c:=Zfo y.var z.var
 refine gI (ts:=[.slot 4]) 31 Tryz.func81 ?_
 (have F:=ai @bdz @tmz;have NN:Zah 1:=trivial;refine gGn ?_;clear F NN)
 refine gB ?_
 (have F:=ai @bdz @tmz;refine gC (c) ?_;clear F)
 (have F:=ai @bdz @tmz;refine gR ?_;clear F)
 (have F:=ai @bdz @tmz;refine gG ?_;exact gTd)
noncomputable def unB (r:List C):Bd:=⟨unT (r.take 4),unT (r.drop 4)⟩
theorem Zua (b:Bd):unB (ZaR b)=b:=by unfold unB;rw [Zvl,Zvm,ZtN,ZtN]
theorem ZE3 (l:List Bd):(Zal l).map unB=l:=by
 unfold Zal
 rw [List.map_map]
 conv=>rhs;rw [<- List.map_id l]
 exact List.map_congr_left fun b _=>Zua b
theorem Zvr (bs:List Bd) (hd:ZfP bs) (hl:bs.length<=4000000):ConI e0 80 102 8 (Zal bs) [.one (.fn 81 [])] (Zal (srtB bs)) []:=by
 have hrow:∀ a∈Zal bs,a=ZaR (unB a):=fun a ha=>by
  obtain ⟨t,_,rfl⟩:=List.mem_map.1 ha
  rw [Zua]
 exact ZE2 (ZzB (P:=Tryz.prog) rfl ZFW (k:=8) (ty:=102) Tryz.isAgg102 Tryz.sizeOf102 (by kernel_rfl) (g:=81) (enters_of Tryz.func81 (by kernel_rfl) rfl) (rows:=Zal bs) (rows':=Zal (srtB bs)) (cf:=fun a b=>Zak (unB a).var (unB b).var) (by rw [Zbd];omega)
  (fun a ha b hb=>by
   have h:=ZrA (unB a) (unB b)
   rwa [<- hrow a ha,<- hrow b hb] at h)
  (fun a _=>by rw [Zeh];omega) (fun a _ b _ c _ h1 h2=>Zfr h1 h2) (fun a _ b _ c _ h1 h2=>by
   rw [ZbR (unB b).var (unB a).var] at h1
   rw [ZbR (unB c).var (unB b).var] at h2
   rw [ZbR (unB c).var (unB a).var]
   have:=Zb0 (a:=(unB c).var) (b:=(unB b).var) (c:=(unB a).var) om om
   omega)
  (fun l hp hs=>by
   have hmem:∀ a∈l,a=ZaR (unB a):=fun a ha=>hrow a (hp.mem_iff.1 ha)
   have hp2:(l.map unB).Perm bs:=by have:=hp.map unB;rwa [ZE3] at this
   have hdl:ZfP (l.map unB):=hp2.symm.pairwise hd (fun {x y} h q=>h (by rw [ZbR];omega))
   have hup:UpB (l.map unB):=by
    refine List.pairwise_iff_getElem.2 fun i j hi hj hij=>?_
    have h0:=List.pairwise_iff_getElem.1 hdl i j hi hj hij
    simp only [List.getElem_map] at h0 ⊢
    simp only [List.length_map] at hi hj
    have:=hs i j l[i] l[j] hij (List.getElem?_eq_getElem hi) (List.getElem?_eq_getElem hj)
    rw [ZbR (unB l[j]).var (unB l[i]).var]
    rw [ZbR] at h0
    omega
   have e:=Zqq (ZEZ hd) hup ((ZcA bs).trans hp2.symm)
   rw [e]
   unfold Zal
   rw [List.map_map]
   conv=>lhs;rw [<- List.map_id l]
   exact List.map_congr_left fun a ha=>hmem a ha))
section
variable {g:Sgn}
theorem zRSF (a:Option Addr) (cap:Nat):Zcm (Zal []) false [.one (.lit (.slice a 0 cap)),.one (.lit (.bool false))] [.set (fun b=>vblk (.slice a 0 cap)=some b∨False) (fun w=>Own w (.sl (Zal [])) (fun b=>vblk (.slice a 0 cap)=some b∨False) (.slice a 0 cap))]:=⟨_,_,rfl,rfl,rfl⟩
theorem ZjI (a:Option Addr) (cap:Nat) {ty:Nat}:ZbG [.buf (some (a,cap)) ty 8 [],.set (fun _=>False) (fun w=>Zat w [] (fun _=>False) [])] [.set (fun b=>vblk (.slice a 0 cap)=some b∨False) (fun w=>Own w (.sl (Zal [])) (fun b=>vblk (.slice a 0 cap)=some b∨False) (.slice a 0 cap))] :=
 Zdk (uss:=[]) (rows:=[]) (E:=fun _=>False) (fun w h=>h) (Own.stable _ _ _)
set_option maxRecDepth 100000 in
theorem Zor {a b:List Bd} (hok:Zdq g) (hla:ZcS a) (hba:(Zal a).length+Zac (Zal a)<=1048576) (hlb:ZcS b) (hbb:(Zal b).length+Zac (Zal b)<=1048576):ConP e0 33 [.agg (ZaA g),.one (.sl (Zal a)),.one (.sl (Zal b))] [] (Zcm (Zal ((cmS g a b).getD [])) (cmS g a b).isSome):=by
 rw [Zbd] at hba hbb
 have al:=Zbd a
 have ag:=Zca a
 have ab:=bds8 a
 have bl:=Zbd b
 have bg:=Zca b
 have bb:=bds8 b
 have l1:∀ l:List Bd,ZaX 8 (Zal l)=true:=fun l=>bds8 l
 have l3:=Zbd
 have hno:cmS g a b=none->Zcm (Zal ((cmS g a b).getD [])) (cmS g a b).isSome=Zcm (Zal []) false:=fun h=>by rw [h];rfl
 have hno1:¬ (ZbJ g=true∧ZbQ g a=true∧ZbQ g b=true)->cmS g a b=none:=fun h=>by unfold cmS;rw [if_neg h]
 by_cases hs:ZbJ g=true
 rotate_left
 ·have cN:=ZmW hok (fun h=>hs (Zgi h))
  rw [hno (hno1 fun h=>hs h.1)]
  rw [ZaA] at cN ⊢
  refine gIP (ts:=[.slot 6,.slot 7]) [] 2419066823000809537632207 Tryz.func33 ?_
  (have F:=@tmz;have NN:Zah 1:=trivial;refine gGn ?_;clear F NN)
  refine gB ?_
  (have F:=@tmz;refine gC (cN) ?_;clear F)
  (have F:=@tmz;refine gR ?_;clear F)
  (have F:=@tmz;refine gG ?_;clear F)
  refine pS 6 fun a1 c1=>?_
  refine pE [] [1001] ZcI ?_
  refine pE [6,1001] [1002] (ZjI a1 c1) ?_
  exact (have F:=tmz;gTP (R:=Zcm (Zal []) false) [1002] (zRSF a1 c1))
 have hg:=ZeX.1 hs
 have cN:=Zrw hok hg
 rw [ZaA] at cN ⊢
 refine gIP (ts:=[.slot 6,.slot 7]) [] 2419066823000809537632207 Tryz.func33 ?_
 (have F:=@tmz;have NN:Zah 1:=trivial;refine gGn ?_;clear F NN)
 refine gB ?_
 (have F:=@tmz;refine gCP [] [1000] (cN) ?_;clear F)
 rintro r pm ⟨bm,rfl,rfl⟩
 simp only [setA,retA,zipM,List.cons_append,List.nil_append]
 (have F:=@tmz;refine gR ?_;clear F)
 refine pM g bm 1000 ?_
 have cA:=ZjE (b:=bm) hg hla (fun y hy=>Zct (ZhX hba y hy).2)
 have cB:=ZjE (b:=bm) hg hlb (fun y hy=>Zct (ZhX hbb y hy).2)
 (have F:=@tmM;have NN:Zah 2:=trivial;refine gGn ?_;clear F NN)
 refine gB ?_
 (have F:=@tmM;refine gC (cA) ?_;clear F)
 cases h2:ZbQ g a with
 | false =>
  rw [hno (hno1 fun h=>by rw [h2] at h;cases h.2.1)]
  (have F:=@tmM;refine gR ?_;clear F)
  (have F:=@tmM;refine gG ?_;clear F)
  refine pS 6 fun a1 c1=>?_
  refine pE [] [1001] ZcI ?_
  refine pE [6,1001] [1002] (ZjI a1 c1) ?_
  exact (have F:=tmM;gTP (R:=Zcm (Zal []) false) [1002] (zRSF a1 c1))
 | true =>
 (have F:=@tmM;refine gC (cB) ?_;clear F)
 cases h3:ZbQ g b with
 | false =>
  rw [hno (hno1 fun h=>by rw [h3] at h;cases h.2.2)]
  (have F:=@tmM;refine gR ?_;clear F)
  (have F:=@tmM;refine gG ?_;clear F)
  refine pS 6 fun a1 c1=>?_
  refine pE [] [1001] ZcI ?_
  refine pE [6,1001] [1002] (ZjI a1 c1) ?_
  exact (have F:=tmM;gTP (R:=Zcm (Zal []) false) [1002] (zRSF a1 c1))
 | true =>
 have hA:=ZeZ.1 h2
 have hB:=ZeZ.1 h3
 have a8:=hA.len
 have b8:=hB.len
 have e:cmS g a b=(mapA g b a).bind fun m=>if ZbQ g (srtB (m++Za5 a b))=true then some (srtB (m++Za5 a b)) else none:=by unfold cmS;rw [if_pos ⟨hs,h2,h3⟩]
 have cP:=fun y (hy:y∈a)=>(Zzs (mc:=.lit (.map (some bm))) hg hB _ (Nat.lt_succ_self _) (hA.to' y hy)).m (g:=g) (b:=bm)
 (have F:=@tmM;refine gR ?_;clear F)
 (have F:=ai @al @tmM;refine gG ?_;clear F)
 (have F:=ai @Zgn (ai @al @tmM);refine gL (ι:=Nat × List Bd) [6,7,10,12,13,14,39,40,52] [10] (fun x=>[(39,A.d (.one (.lit (.int .i64 x.1)))),(10,.buf 10)]) (fun x=>[(10,.buf none 102 8 (Zal x.2))]) (fun x=>x.1<=a.length∧mapA g b (a.take x.1)=some x.2) (fun x=>a.length - x.1) ((0,[])) (⟨Nat.zero_le _,rfl⟩) (fun x hx=>?_);clear F)
 obtain ⟨i,m⟩:=x
 obtain ⟨hi,hm⟩:=hx
 simp only at hi hm
 dsimp only
 have hml:=Zfw hm
 rw [List.length_take_of_le hi] at hml
 by_cases hil:i < a.length
 ·have q2:((i:Int) < (a.length:Int))=True:=eq_true om
  obtain ⟨y,hy⟩:∃ y,a[i]?=some y:=⟨_,List.getElem?_eq_getElem hil⟩
  have hym:=List.mem_of_getElem? hy
  have cP:=cP y hym
  have hwi:=Zay (k:=i) om
  have hmt:=Zn2 hm hy
  (have F:=ai @q2 (ai @al (ai @ab (ai @ag (ai @hy (ai @bdz (ai @Zas @tmM))))));have NN:Zah 8:=trivial;refine gGn ?_;clear F NN)
  refine gB ?_
  (have F:=ai @bdz @tmM;refine gC (cP) ?_;clear F)
  (have F:=@tmM;refine gR ?_;clear F)
  cases hu:apT g b y.to with
  | none =>
   have z4:(none:Option Tm).isSome=false:=rfl
   rw [hno (by rw [e,ZjG hym hu];rfl)]
   (have F:=ai @z4 @tmM;refine gG ?_;clear F)
   refine pS 6 fun a1 c1=>?_
   refine pE [] [1001] ZcI ?_
   refine pE [6,1001] [1002] (ZjI a1 c1) ?_
   exact (have F:=tmM;gTP (R:=Zcm (Zal []) false) [1002] (zRSF a1 c1))
  | some t =>
   have z4:(some t).isSome=true:=rfl
   have z5:(some t).getD zTm=t:=rfl
   rw [hu,Option.map_some] at hmt
   have hmx:(m.length+1<=maxApp)=True:=eq_true (by unfold maxApp;omega)
   have h7:∀ (c0 c1 c2 c3:C),List.take 4 (Zae y.var++[c0,c1,c2,c3])++Zae t++List.drop 8 (Zae y.var++[c0,c1,c2,c3])=ZaR ⟨y.var,t⟩:=fun c0 c1 c2 c3=>by
    obtain ⟨⟨o,n,s,a⟩,t'⟩:=y
    simp [Zae,ZaR]
   have ns:Zal m++[ZaR ⟨y.var,t⟩]=Zal (m++[⟨y.var,t⟩]):=by simp [Zal]
   (have F:=ai @z4 (ai @z5 @tmM);have NN:Zah 11:=trivial;refine gGn ?_;clear F NN)
   refine gB ?_
   (have F:=ai @h7 (ai @l1 (ai @l3 (ai @ns (ai @hmx (ai @z5 (ai @bdz @tmM))))));refine gR ?_;clear F)
   (have F:=ai @hwi @tmM;refine gG ?_;exact ⟨(i+1,m++[⟨y.var,t⟩]),⟨hil,hmt⟩,gw,gw,by omega⟩)
 obtain rfl:i=a.length:=by omega
 have q2:((a.length:Int) < (a.length:Int))=False:=eq_false om
 rw [List.take_length] at hm
 clear hml
 have hall:=Zk6 hg hA hB hm
 have hr0:Za5 a []=[]:=rfl
 have hm8:=Zfw hm
 (have F:=ai @q2 (ai @al (ai @bl @tmM));refine gG ?_;clear F)
 (have F:=ai @hr0 (ai @bl @tmM);refine gL (ι:=Nat) [10,16,63,64,70] [10] (fun i=>[(63,A.d (.one (.lit (.int .i64 i)))),(10,.buf 10)]) (fun i=>[(10,.buf none 102 8 (Zal (m++Za5 a (b.take i))))]) (fun i=>i<=b.length) (fun i=>b.length - i) (0) (Nat.zero_le _) (fun i hi=>?_);clear F)
 by_cases hil:i < b.length
 ·have q2:((i:Int) < (b.length:Int))=True:=eq_true om
  obtain ⟨y,hy⟩:∃ y,b[i]?=some y:=⟨_,List.getElem?_eq_getElem hil⟩
  have hym:=List.mem_of_getElem? hy
  have hwi:=Zay (k:=i) om
  have hrs:=Zmq (a:=a) hy
  have hli:(m++Za5 a (b.take i)).length<=16:=by
   have h2:=Zf4 (a:=a) (b:=b.take i)
   rw [List.length_take] at h2
   rw [List.length_append];omega
  have cG:=(Zoq (ts:=a) (P:=fun z=>decide (Zak y.var z.var=0)) (f:=79) (caps:=[.ptr (ZaR y)]) (by unfold big;omega) (fun z _=>Zrz y z)).m (g:=g) (b:=bm)
  have hia:(a.any fun z=>decide (Zak y.var z.var=0))=inA a y.var:=rfl
  rw [hia] at cG
  have hmx:((m++Za5 a (b.take i)).length+1<=maxApp)=True:=eq_true (by unfold maxApp;omega)
  (have F:=ai @q2 (ai @bl (ai @bb (ai @bg (ai @hy (ai @bdz (ai @Zas @tmM))))));have NN:Zah 16:=trivial;refine gGn ?_;clear F NN)
  refine gB ?_
  (have F:=ai @bdz @tmM;refine gC (cG) ?_;clear F)
  cases hin:inA a y.var with
  | true =>
   rw [hin,if_pos rfl] at hrs
   (have F:=@tmM;refine gR ?_;clear F)
   (have F:=@tmM;have NN:Zah 18:=trivial;refine gGn ?_;clear F NN)
   rw [<- hrs]
   (have F:=ai @hwi @tmM;refine gG ?_;exact ⟨i+1,hil,gw,gw,by omega⟩)
  | false =>
   rw [hin,if_neg (by simp)] at hrs
   have ns:Zal (m++Za5 a (b.take i))++[ZaR y]=Zal (m++Za5 a (b.take (i+1))):=by rw [hrs];simp [Zal]
   generalize m++Za5 a (b.take i)=mi at *
   (have F:=@tmM;refine gR ?_;clear F)
   (have F:=@tmM;have NN:Zah 17:=trivial;refine gGn ?_;clear F NN)
   refine gB ?_
   (have F:=ai @l1 (ai @l3 (ai @ns (ai @hmx (ai @bdz @tmM))));refine gR ?_;clear F)
   (have F:=ai @hwi @tmM;refine gG ?_;exact ⟨i+1,hil,gw,gw,by omega⟩)
 obtain rfl:i=b.length:=by omega
 have q2:((b.length:Int) < (b.length:Int))=False:=eq_false om
 rw [List.take_length]
 have hln:(m++Za5 a b).length<=16:=by
  have h2:=Zf4 (a:=a) (b:=b)
  rw [List.length_append];omega
 have hto:∀ y∈srtB (m++Za5 a b),TermOk g y.var∧TermOk g y.to:=fun y hy=>Zj6 hg hA hB hm y ((ZcA _).mem_iff.1 hy)
 have hbl:∀ y∈srtB (m++Za5 a b),bulkRow (Zae y.var)<=1048576∧bulkRow (Zae y.to)<=1048576:=fun y hy=>⟨Zj3 (hto y hy).1,Zj3 (hto y hy).2⟩
 have cI:=(Zvr (m++Za5 a b) (Zzu hA.up.dist hB.up.dist (Zf3 hm).1) om).m (g:=g) (b:=bm)
 have hrl:(Zal (srtB (m++Za5 a b))).length=(Zal (m++Za5 a b)).length:=by rw [Zbd,Zbd,ZeP]
 have hob:ZcS (srtB (m++Za5 a b)):=Zmr hall fun y hy=>(ZcA _).mem_iff.1 hy
 have cF:=ZjE (b:=bm) hg hob (fun y hy=>Zct (hbl y hy).2)
 have cY:=(Zqu (srtB (m++Za5 a b)) (by rw [ZeP];omega) hbl).m (g:=g) (b:=bm)
 rw [hm,Option.bind_some] at e
 generalize srtB (m++Za5 a b)=out at *
 (have F:=ai @q2 (ai @bl @tmM);have NN:Zah 19:=trivial;refine gGn ?_;clear F NN)
 refine gB ?_
 (have F:=@tmM;refine gCI (cI) (hrl) ?_;clear F)
 (have F:=@tmM;refine gR ?_;clear F)
 (have F:=@tmM;have NN:Zah 20:=trivial;refine gGn ?_;clear F NN)
 refine gB ?_
 (have F:=@tmM;refine gC (cF) ?_;clear F)
 cases hf:ZbQ g out with
 | false =>
  rw [hno (by rw [e,hf,if_neg (by simp)])]
  (have F:=@tmM;refine gR ?_;clear F)
  (have F:=@tmM;refine gG ?_;clear F)
  refine pS 6 fun a1 c1=>?_
  refine pE [] [1001] ZcI ?_
  refine pE [6,1001] [1002] (ZjI a1 c1) ?_
  exact (have F:=tmM;gTP (R:=Zcm (Zal []) false) [1002] (zRSF a1 c1))
 | true =>
  have e2:cmS g a b=some out:=by rw [e,hf,if_pos rfl]
  have hR:Zcm (Zal ((cmS g a b).getD [])) (cmS g a b).isSome=Zcm (Zal out) true:=by rw [e2];rfl
  rw [hR]
  (have F:=@tmM;refine gR ?_;clear F)
  (have F:=@tmM;have NN:Zah 22:=trivial;refine gGn ?_;clear F NN)
  refine gB ?_
  (have F:=@tmM;refine gCP [] [1001] (cY) ?_;clear F)
  rintro r pm ⟨v,E2,rfl,hk,rfl⟩
  simp only [setA,retA,zipM,List.cons_append,List.nil_append]
  (have F:=ai @tmM @hk;refine gR ?_;clear F)
  (have F:=@tmM;refine gG ?_;clear F)
  exact (have F:=tmM;gTP (R:=Zcm (Zal out) true) [1001] ⟨v,E2,rfl,hk,rfl⟩)
theorem Zub {a b:List Bd}:cmS g a b=none∨∃ m,mapA g b a=some m∧SgnOk g∧SbsOk g a∧SbsOk g b∧cmS g a b=some (srtB (m++Za5 a b)):=by
 unfold cmS
 split
 ·next h =>
  cases hm:mapA g b a with
  | none=>exact .inl rfl
  | some m =>
   rw [Option.bind_some]
   split
   ·exact .inr ⟨m,rfl,ZeX.1 h.1,ZeZ.1 h.2.1,ZeZ.1 h.2.2,rfl⟩
   ·exact .inl rfl
 ·exact .inl rfl
theorem ZkG {k:Nat}:∀ {l:List Bd},(∀ y∈l,bulkRow (ZaR y)<=k)->Zac (Zal l)<=l.length * k
 | [],_=>by simp [Zal,Zac]
 | y::l,h=>by
  have h1:=h y List.mem_cons_self
  have h2:=ZkG (l:=l) fun z hz=>h z (List.mem_cons_of_mem _ hz)
  have e:Zac (Zal (y::l))=bulkRow (ZaR y)+Zac (Zal l):=rfl
  rw [e,List.length_cons,Nat.add_mul]
  omega
theorem ZFF {a b:List Bd}:(Zal ((cmS g a b).getD [])).length+Zac (Zal ((cmS g a b).getD []))<=1048576:=by
 rcases Zub (g:=g) (a:=a) (b:=b) with h | ⟨m,hm,hg,hA,hB,h⟩
 ·rw [h];simp [Zal,Zac]
 ·rw [h,Option.getD_some,Zbd,ZeP]
  have h1:=Zfw hm
  have h2:=Zf4 (a:=a) (b:=b)
  have h3:=hA.len
  have h4:=hB.len
  have hln:(m++Za5 a b).length<=16:=by rw [List.length_append];omega
  have h5:=ZkG (k:=2000) (l:=srtB (m++Za5 a b)) fun y hy=>by
   obtain ⟨q1,q2⟩:=Zj6 hg hA hB hm y ((ZcA _).mem_iff.1 hy)
   have e:bulkRow (ZaR y)=bulkRow (Zae y.var)+bulkRow (Zae y.to):=Zqp _ _
   have r1:=Zhg q1.form
   have r2:=Zhg q2.form
   have:=q1.size
   have:=q2.size
   omega
  rw [ZeP] at h5
  have h6:(m++Za5 a b).length * 2000<=16 * 2000:=Nat.mul_le_mul_right _ hln
  omega
theorem ZFX {a b:List Bd}:Zam (Zab .binding) (Zal ((cmS g a b).getD [])):=by
 refine ZiK ?_
 rcases Zub (g:=g) (a:=a) (b:=b) with h | ⟨m,hm,hg,hA,hB,h⟩
 ·rw [h];exact fun y hy=>by cases hy
 ·rw [h]
  exact Zmr (Zk6 hg hA hB hm) fun y hy=>(ZcA _).mem_iff.1 hy
end
set_option maxRecDepth 100000 in
theorem Zf7 {row0:List C} (hok0:Zao (sigF) row0) {rows1:List (List C)} (hok1:Zam (Zab .binding) rows1) {rows2:List (List C)} (hok2:Zam (Zab .binding) rows2) {wr:List (List C)} (hokw:Zam (Zab .binding) wr) {R1:Bool} (hBw0:bulkRow row0<=1048576->rows1.length+Zac rows1<=1048576->rows2.length+Zac rows2<=1048576->(bulkRow row0)+(rows1.length+Zac rows1)+(rows2.length+Zac rows2)<=1048576->wr.length+Zac wr<=1048576) (hsp0:bulkRow row0<=1048576->rows1.length+Zac rows1<=1048576->rows2.length+Zac rows2<=1048576->(bulkRow row0)+(rows1.length+Zac rows1)+(rows2.length+Zac rows2)<=1048576->Con e0 32 [.agg row0,.one (.sl rows1),.one (.sl rows2)] [.one (.sl wr),.one (.lit (.bool R1))]) (him0:bulkRow row0<=1048576->rows1.length+Zac rows1<=1048576->rows2.length+Zac rows2<=1048576->(bulkRow row0)+(rows1.length+Zac rows1)+(rows2.length+Zac rows2)<=1048576->ConP e0 33 [.agg row0,.one (.sl rows1),.one (.sl rows2)] [] (Zcm wr R1)):Con e0 7 [.agg row0,.one (.sl rows1),.one (.sl rows2)] [.one (.lit (.bool true))]:=by
 have okc0:=hok0.cells
 obtain ⟨len0,tk0,dr0⟩:=hok0.take (n:=3) rfl
 refine gI 3146931352660315980813683006301119594889167 Tryz.func7 ?_
 (have F:=ai @okc0 (ai @len0 (ai @tk0 (ai @dr0 @ZaB)));refine gG ?_;clear F)
 have hL0_0:(0:Int)<=1048576:=by omega
 have hL0_1:(1048576:Int)<=1048576:=by omega
 refine gB ?_
 (have F:=ai @okc0 (ai @len0 (ai @tk0 (ai @dr0 @ZaB)));refine gC (Zmw hok0 hL0_0 hL0_1) ?_;clear F)
 (have F:=ai @okc0 (ai @len0 (ai @tk0 (ai @dr0 @ZaB)));refine gR ?_;clear F)
 by_cases hb0:((bulkRow row0:Nat):Int)<=1048576
 rotate_left
 ·have n1:sub 1048576 (bulkRow row0:Nat)=-1:=ZaW om
  have n2:(-1:Int) < 0:=by omega
  (have F:=ai @n1 @n2;refine gG ?_;exact gT)
 have nq:sub 1048576 (bulkRow row0:Nat)=1048576 - ((bulkRow row0:Nat):Nat):=Zbe om
 rw [nq]
 clear nq
 have hB0:bulkRow row0<=1048576:=by omega
 have hL1_0:(0:Int)<=1048576 - ((bulkRow row0:Nat):Nat):=by omega
 have hL1_1:(1048576:Int) - ((bulkRow row0:Nat):Nat)<=1048576:=by omega
 generalize hgl0:(1048576:Int) - ((bulkRow row0:Nat):Nat)=L1 at *
 have n2:¬ (L1 < 0):=by omega
 (have F:=ai @n2 (ai @okc0 (ai @len0 (ai @tk0 (ai @dr0 @ZaB))));refine gG ?_;clear F)
 clear n2 hb0
 refine gB ?_
 (have F:=ai @okc0 (ai @len0 (ai @tk0 (ai @dr0 @ZaB)));refine gC (ZhZ hok1 hL1_0 hL1_1) ?_;clear F)
 (have F:=ai @okc0 (ai @len0 (ai @tk0 (ai @dr0 @ZaB)));refine gR ?_;clear F)
 by_cases hb1:((rows1.length+Zac rows1:Nat):Int)<=L1
 rotate_left
 ·have n1:sub L1 (rows1.length+Zac rows1:Nat)=-1:=ZaW om
  have n2:(-1:Int) < 0:=by omega
  (have F:=ai @n1 @n2;refine gG ?_;exact gT)
 have nq:sub L1 (rows1.length+Zac rows1:Nat)=L1 - ((rows1.length+Zac rows1:Nat):Nat):=Zbe om
 rw [nq]
 clear nq
 have hB1:rows1.length+Zac rows1<=1048576:=by omega
 have hL2_0:(0:Int)<=L1 - ((rows1.length+Zac rows1:Nat):Nat):=by omega
 have hL2_1:(L1:Int) - ((rows1.length+Zac rows1:Nat):Nat)<=1048576:=by omega
 generalize hgl1:(L1:Int) - ((rows1.length+Zac rows1:Nat):Nat)=L2 at *
 have n2:¬ (L2 < 0):=by omega
 (have F:=ai @n2 (ai @okc0 (ai @len0 (ai @tk0 (ai @dr0 @ZaB))));refine gG ?_;clear F)
 clear n2 hb1
 refine gB ?_
 (have F:=ai @okc0 (ai @len0 (ai @tk0 (ai @dr0 @ZaB)));refine gC (ZhZ hok2 hL2_0 hL2_1) ?_;clear F)
 (have F:=ai @okc0 (ai @len0 (ai @tk0 (ai @dr0 @ZaB)));refine gR ?_;clear F)
 by_cases hb2:((rows2.length+Zac rows2:Nat):Int)<=L2
 rotate_left
 ·have n1:sub L2 (rows2.length+Zac rows2:Nat)=-1:=ZaW om
  have n2:(-1:Int) < 0:=by omega
  (have F:=ai @n1 @n2;refine gG ?_;exact gT)
 have nq:sub L2 (rows2.length+Zac rows2:Nat)=L2 - ((rows2.length+Zac rows2:Nat):Nat):=Zbe om
 rw [nq]
 clear nq
 have hB2:rows2.length+Zac rows2<=1048576:=by omega
 have hL3_0:(0:Int)<=L2 - ((rows2.length+Zac rows2:Nat):Nat):=by omega
 have hL3_1:(L2:Int) - ((rows2.length+Zac rows2:Nat):Nat)<=1048576:=by omega
 generalize hgl2:(L2:Int) - ((rows2.length+Zac rows2:Nat):Nat)=L3 at *
 have n2:¬ (L3 < 0):=by omega
 (have F:=ai @n2 (ai @okc0 (ai @len0 (ai @tk0 (ai @dr0 @ZaB))));refine gG ?_;clear F)
 clear n2 hb2
 have hBt:(bulkRow row0)+(rows1.length+Zac rows1)+(rows2.length+Zac rows2)<=1048576:=by omega
 have hsp:=hsp0 hB0 hB1 hB2 hBt
 have him:=him0 hB0 hB1 hB2 hBt
 have hBw:=hBw0 hB0 hB1 hB2 hBt
 have hcw:cntRows wr<=16 * (wr.length+Zac wr):=Zeo _ _ (Zf6 _) hokw
 have cE:=Zfx hokw
 have cT0:=Zmx hok0 hB0
 have cP0:=Zla hok0 hB0
 have cQ0:=Zmy hok0
 have hc0:cntTop row0<=16 * bulkRow row0:=Zn4 _ _ hok0
 have cT1:=Zh0 hok1 hB1
 have cP1:=Zhm hok1 hB1
 have cQ1:=Zfx hok1
 have hc1:cntRows rows1<=16 * (rows1.length+Zac rows1):=Zeo _ _ (Zf6 _) hok1
 have cT2:=Zh0 hok2 hB2
 have cP2:=Zhm hok2 hB2
 have cQ2:=Zfx hok2
 have hc2:cntRows rows2<=16 * (rows2.length+Zac rows2):=Zeo _ _ (Zf6 _) hok2
 refine gB ?_
 (have F:=ai @okc0 (ai @len0 (ai @tk0 (ai @dr0 @ZaB)));refine gC (cT0) ?_;clear F)
 (have F:=ai @okc0 (ai @len0 (ai @tk0 (ai @dr0 @ZaB)));refine gC (cT1) ?_;clear F)
 (have F:=ai @okc0 (ai @len0 (ai @tk0 (ai @dr0 @ZaB)));refine gC (cT2) ?_;clear F)
 (have F:=ai @okc0 (ai @len0 (ai @tk0 (ai @dr0 @ZaB)));refine gC (hsp) ?_;clear F)
 (have F:=ai @okc0 (ai @len0 (ai @tk0 (ai @dr0 @ZaB)));refine gR ?_;clear F)
 (have F:=ai @okc0 (ai @len0 (ai @tk0 (ai @dr0 @ZaB)));refine gG ?_;clear F)
 refine gB ?_
 (have F:=ai @okc0 (ai @len0 (ai @tk0 (ai @dr0 @ZaB)));refine gCP [] [1000] (cP0) ?_;clear F)
 rintro r pm ⟨us0,E0,rfl,hu0,cu0,rfl⟩
 rw [len0] at hu0
 obtain ⟨lu0,tu0,du0⟩:=ZAW hu0
 simp only [setA,retA,zipM,List.cons_append,List.nil_append]
 (have F:=ai @okc0 (ai @len0 (ai @tk0 (ai @dr0 (ai @ZaB (ai @lu0 (ai @tu0 (ai @du0 @cu0)))))));refine gR ?_;clear F)
 (have F:=ai @okc0 (ai @len0 (ai @tk0 (ai @dr0 (ai @ZaB (ai @lu0 (ai @tu0 (ai @du0 @cu0)))))));refine gG ?_;clear F)
 refine gB ?_
 (have F:=ai @okc0 (ai @len0 (ai @tk0 (ai @dr0 (ai @ZaB (ai @lu0 (ai @tu0 (ai @du0 @cu0)))))));refine gCP [] [1001] (cP1) ?_;clear F)
 rintro r pm ⟨v1,E1,rfl,cu1,rfl⟩
 simp only [setA,retA,zipM,List.cons_append,List.nil_append]
 (have F:=ai @okc0 (ai @len0 (ai @tk0 (ai @dr0 (ai @ZaB (ai @lu0 (ai @tu0 (ai @du0 (ai @cu0 @cu1))))))));refine gR ?_;clear F)
 (have F:=ai @okc0 (ai @len0 (ai @tk0 (ai @dr0 (ai @ZaB (ai @lu0 (ai @tu0 (ai @du0 (ai @cu0 @cu1))))))));refine gG ?_;clear F)
 refine gB ?_
 (have F:=ai @okc0 (ai @len0 (ai @tk0 (ai @dr0 (ai @ZaB (ai @lu0 (ai @tu0 (ai @du0 (ai @cu0 @cu1))))))));refine gCP [] [1002] (cP2) ?_;clear F)
 rintro r pm ⟨v2,E2,rfl,cu2,rfl⟩
 simp only [setA,retA,zipM,List.cons_append,List.nil_append]
 (have F:=ai @okc0 (ai @len0 (ai @tk0 (ai @dr0 (ai @ZaB (ai @lu0 (ai @tu0 (ai @du0 (ai @cu0 (ai @cu1 @cu2)))))))));refine gR ?_;clear F)
 (have F:=ai @okc0 (ai @len0 (ai @tk0 (ai @dr0 (ai @ZaB (ai @lu0 (ai @tu0 (ai @du0 (ai @cu0 (ai @cu1 @cu2)))))))));refine gG ?_;clear F)
 refine gB ?_
 (have F:=ai @okc0 (ai @len0 (ai @tk0 (ai @dr0 (ai @ZaB (ai @lu0 (ai @tu0 (ai @du0 (ai @cu0 (ai @cu1 @cu2)))))))));refine gCP [1000,1001,1002] [1100,1000,1001,1002] (Zt9 (lits:=[.agg (Zap us0),.one (.lit v1),.one (.lit v2)]) [.set E0 (fun w=>Zad w row0 E0 us0),.set E1 (fun w=>Own w (.sl rows1) E1 v1),.set E2 (fun w=>Own w (.sl rows2) E2 v2)] him ⟨.tree List.mem_cons_self,.treeS (List.mem_cons_of_mem _ List.mem_cons_self),.treeS (List.mem_cons_of_mem _ (List.mem_cons_of_mem _ List.mem_cons_self)),trivial⟩ rfl (fun _ _ h=>Zcm.lits h)) ?_;clear F)
 rintro r pm ⟨q1,⟨vg,Eg,rfl,cug,rfl⟩,rfl⟩
 simp only [setA,retA,zipM,List.cons_append,List.nil_append]
 (have F:=ai @okc0 (ai @len0 (ai @tk0 (ai @dr0 (ai @ZaB (ai @lu0 (ai @tu0 (ai @du0 (ai @cu0 (ai @cu1 (ai @cu2 @cug))))))))));refine gR ?_;clear F)
 (have F:=ai @okc0 (ai @len0 (ai @tk0 (ai @dr0 (ai @ZaB (ai @lu0 (ai @tu0 (ai @du0 (ai @cu0 (ai @cu1 (ai @cu2 @cug))))))))));refine gG ?_;clear F)
 refine gB ?_
 (have F:=ai @okc0 (ai @len0 (ai @tk0 (ai @dr0 (ai @ZaB (ai @lu0 (ai @tu0 (ai @du0 (ai @cu0 (ai @cu1 (ai @cu2 @cug))))))))));refine gCP [1100] [1100] (Zf5 (lits:=[.one (.lit vg),.one (.sl wr)]) [.set Eg (fun w=>Own w (.sl wr) Eg vg)] cE ⟨.treeS List.mem_cons_self,.same,trivial⟩ rfl rfl) ?_;clear F)
 rintro r pm ⟨rfl,rfl⟩
 simp only [setA,retA,zipM,List.cons_append,List.nil_append]
 (have F:=ai @okc0 (ai @len0 (ai @tk0 (ai @dr0 (ai @ZaB (ai @lu0 (ai @tu0 (ai @du0 (ai @cu0 (ai @cu1 (ai @cu2 (ai @cug @beq_self_eq_true.{0})))))))))));refine gR ?_;clear F)
 (have F:=ai @okc0 (ai @len0 (ai @tk0 (ai @dr0 (ai @ZaB (ai @lu0 (ai @tu0 (ai @du0 (ai @cu0 (ai @cu1 (ai @cu2 (ai @cug @beq_self_eq_true.{0})))))))))));refine gG ?_;clear F)
 refine gB ?_
 (have F:=ai @okc0 (ai @len0 (ai @tk0 (ai @dr0 (ai @ZaB (ai @lu0 (ai @tu0 (ai @du0 (ai @cu0 (ai @cu1 (ai @cu2 @cug))))))))));refine gC (cT0) ?_;clear F)
 (have F:=ai @okc0 (ai @len0 (ai @tk0 (ai @dr0 (ai @ZaB (ai @lu0 (ai @tu0 (ai @du0 (ai @cu0 (ai @cu1 (ai @cu2 @cug))))))))));refine gCP [1000] [1000] (Zf5 (lits:=[.agg (Zap us0),.agg row0]) [.set E0 (fun w=>Zad w row0 E0 us0)] cQ0 ⟨.tree List.mem_cons_self,.same,trivial⟩ rfl rfl) ?_;clear F)
 rintro r pm ⟨rfl,rfl⟩
 simp only [setA,retA,zipM,List.cons_append,List.nil_append]
 (have F:=ai @okc0 (ai @len0 (ai @tk0 (ai @dr0 (ai @ZaB (ai @lu0 (ai @tu0 (ai @du0 (ai @cu0 (ai @cu1 (ai @cu2 @cug))))))))));refine gR ?_;clear F)
 (have F:=ai @okc0 (ai @len0 (ai @tk0 (ai @dr0 (ai @ZaB (ai @lu0 (ai @tu0 (ai @du0 (ai @cu0 (ai @cu1 (ai @cu2 @cug))))))))));refine gG ?_;clear F)
 refine gB ?_
 (have F:=ai @okc0 (ai @len0 (ai @tk0 (ai @dr0 (ai @ZaB (ai @lu0 (ai @tu0 (ai @du0 (ai @cu0 (ai @cu1 (ai @cu2 @cug))))))))));refine gC (cT1) ?_;clear F)
 (have F:=ai @okc0 (ai @len0 (ai @tk0 (ai @dr0 (ai @ZaB (ai @lu0 (ai @tu0 (ai @du0 (ai @cu0 (ai @cu1 (ai @cu2 @cug))))))))));refine gCP [1001] [1001] (Zf5 (lits:=[.one (.lit v1),.one (.sl rows1)]) [.set E1 (fun w=>Own w (.sl rows1) E1 v1)] cQ1 ⟨.treeS List.mem_cons_self,.same,trivial⟩ rfl rfl) ?_;clear F)
 rintro r pm ⟨rfl,rfl⟩
 simp only [setA,retA,zipM,List.cons_append,List.nil_append]
 (have F:=ai @okc0 (ai @len0 (ai @tk0 (ai @dr0 (ai @ZaB (ai @lu0 (ai @tu0 (ai @du0 (ai @cu0 (ai @cu1 (ai @cu2 @cug))))))))));refine gR ?_;clear F)
 (have F:=ai @okc0 (ai @len0 (ai @tk0 (ai @dr0 (ai @ZaB (ai @lu0 (ai @tu0 (ai @du0 (ai @cu0 (ai @cu1 (ai @cu2 @cug))))))))));refine gG ?_;clear F)
 refine gB ?_
 (have F:=ai @okc0 (ai @len0 (ai @tk0 (ai @dr0 (ai @ZaB (ai @lu0 (ai @tu0 (ai @du0 (ai @cu0 (ai @cu1 (ai @cu2 @cug))))))))));refine gC (cT2) ?_;clear F)
 (have F:=ai @okc0 (ai @len0 (ai @tk0 (ai @dr0 (ai @ZaB (ai @lu0 (ai @tu0 (ai @du0 (ai @cu0 (ai @cu1 (ai @cu2 @cug))))))))));refine gCP [1002] [1002] (Zf5 (lits:=[.one (.lit v2),.one (.sl rows2)]) [.set E2 (fun w=>Own w (.sl rows2) E2 v2)] cQ2 ⟨.treeS List.mem_cons_self,.same,trivial⟩ rfl rfl) ?_;clear F)
 rintro r pm ⟨rfl,rfl⟩
 simp only [setA,retA,zipM,List.cons_append,List.nil_append]
 (have F:=ai @okc0 (ai @len0 (ai @tk0 (ai @dr0 (ai @ZaB (ai @lu0 (ai @tu0 (ai @du0 (ai @cu0 (ai @cu1 (ai @cu2 @cug))))))))));refine gR ?_;clear F)
 (have F:=ai @okc0 (ai @len0 (ai @tk0 (ai @dr0 (ai @ZaB (ai @lu0 (ai @tu0 (ai @du0 (ai @cu0 (ai @cu1 (ai @cu2 @cug))))))))));refine gG ?_;clear F)
 refine gB ?_
 (have F:=ai @okc0 (ai @len0 (ai @tk0 (ai @dr0 (ai @ZaB (ai @lu0 (ai @tu0 (ai @du0 (ai @cu0 (ai @cu1 (ai @cu2 @cug))))))))));refine gCP [1000] [1000] (Zka hok0 (1) E0 us0 om cu0 om om) ?_;clear F)
 rintro r pm ⟨F0,rfl,rfl⟩
 simp only [setA,retA,zipM,List.cons_append,List.nil_append]
 (have F:=ai @okc0 (ai @len0 (ai @tk0 (ai @dr0 (ai @ZaB (ai @lu0 (ai @tu0 (ai @du0 (ai @cu0 (ai @cu1 (ai @cu2 @cug))))))))));refine gR ?_;clear F)
 (have F:=ai @okc0 (ai @len0 (ai @tk0 (ai @dr0 (ai @ZaB (ai @lu0 (ai @tu0 (ai @du0 (ai @cu0 (ai @cu1 (ai @cu2 @cug))))))))));refine gG ?_;clear F)
 refine gB ?_
 (have F:=ai @okc0 (ai @len0 (ai @tk0 (ai @dr0 (ai @ZaB (ai @lu0 (ai @tu0 (ai @du0 (ai @cu0 (ai @cu1 (ai @cu2 @cug))))))))));refine gCP [1001] [1001] (ZeS hok1 (1+(cntTop row0:Int)) E1 v1 om om) ?_;clear F)
 rintro r pm ⟨F1,rfl,rfl⟩
 simp only [setA,retA,zipM,List.cons_append,List.nil_append]
 (have F:=ai @okc0 (ai @len0 (ai @tk0 (ai @dr0 (ai @ZaB (ai @lu0 (ai @tu0 (ai @du0 (ai @cu0 (ai @cu1 (ai @cu2 @cug))))))))));refine gR ?_;clear F)
 (have F:=ai @okc0 (ai @len0 (ai @tk0 (ai @dr0 (ai @ZaB (ai @lu0 (ai @tu0 (ai @du0 (ai @cu0 (ai @cu1 (ai @cu2 @cug))))))))));refine gG ?_;clear F)
 refine gB ?_
 (have F:=ai @okc0 (ai @len0 (ai @tk0 (ai @dr0 (ai @ZaB (ai @lu0 (ai @tu0 (ai @du0 (ai @cu0 (ai @cu1 (ai @cu2 @cug))))))))));refine gCP [1002] [1002] (ZeS hok2 (1+(cntTop row0:Int)+(cntRows rows1:Int)) E2 v2 om om) ?_;clear F)
 rintro r pm ⟨F2,rfl,rfl⟩
 simp only [setA,retA,zipM,List.cons_append,List.nil_append]
 (have F:=ai @okc0 (ai @len0 (ai @tk0 (ai @dr0 (ai @ZaB (ai @lu0 (ai @tu0 (ai @du0 (ai @cu0 (ai @cu1 (ai @cu2 @cug))))))))));refine gR ?_;clear F)
 (have F:=ai @okc0 (ai @len0 (ai @tk0 (ai @dr0 (ai @ZaB (ai @lu0 (ai @tu0 (ai @du0 (ai @cu0 (ai @cu1 (ai @cu2 @cug))))))))));refine gG ?_;clear F)
 have nk:(1+(cntTop row0:Int)+(cntRows rows1:Int)+(cntRows rows2:Int) < 0)=False:=eq_false om
 refine gB ?_
 (have F:=ai @okc0 (ai @len0 (ai @tk0 (ai @dr0 (ai @ZaB (ai @lu0 (ai @tu0 (ai @du0 (ai @cu0 (ai @cu1 (ai @cu2 (ai @cug @nk)))))))))));refine gCP [1100] [1100] (Zf5 (lits:=[.one (.lit vg),.one (.sl wr)]) [.set Eg (fun w=>Own w (.sl wr) Eg vg)] cE ⟨.treeS List.mem_cons_self,.same,trivial⟩ rfl rfl) ?_;clear F)
 rintro r pm ⟨rfl,rfl⟩
 simp only [setA,retA,zipM,List.cons_append,List.nil_append]
 (have F:=ai @okc0 (ai @len0 (ai @tk0 (ai @dr0 (ai @ZaB (ai @lu0 (ai @tu0 (ai @du0 (ai @cu0 (ai @cu1 (ai @cu2 (ai @cug (ai @nk @beq_self_eq_true.{0}))))))))))));refine gR ?_;clear F)
 (have F:=ai @okc0 (ai @len0 (ai @tk0 (ai @dr0 (ai @ZaB (ai @lu0 (ai @tu0 (ai @du0 (ai @cu0 (ai @cu1 (ai @cu2 (ai @cug (ai @nk @beq_self_eq_true.{0}))))))))))));refine gG ?_;clear F)
 refine gB ?_
 (have F:=ai @okc0 (ai @len0 (ai @tk0 (ai @dr0 (ai @ZaB (ai @lu0 (ai @tu0 (ai @du0 (ai @cu0 (ai @cu1 (ai @cu2 (ai @cug @nk)))))))))));refine gCP [1100] [1100] (ZeS hokw 1 Eg vg om om) ?_;clear F)
 rintro r pm ⟨Fg,rfl,rfl⟩
 simp only [setA,retA,zipM,List.cons_append,List.nil_append]
 (have F:=ai @okc0 (ai @len0 (ai @tk0 (ai @dr0 (ai @ZaB (ai @lu0 (ai @tu0 (ai @du0 (ai @cu0 (ai @cu1 (ai @cu2 (ai @cug @nk)))))))))));refine gR ?_;clear F)
 (have F:=ai @okc0 (ai @len0 (ai @tk0 (ai @dr0 (ai @ZaB (ai @lu0 (ai @tu0 (ai @du0 (ai @cu0 (ai @cu1 (ai @cu2 (ai @cug @nk)))))))))));refine gG ?_;clear F)
 have nm:(1+(cntRows wr:Int) < 0)=False:=eq_false om
 have cH:=Zlc hokw om 1 om om
 refine gB ?_
 (have F:=ai @okc0 (ai @len0 (ai @tk0 (ai @dr0 (ai @ZaB (ai @lu0 (ai @tu0 (ai @du0 (ai @cu0 (ai @cu1 (ai @cu2 (ai @cug (ai @nk @nm))))))))))));refine gCP [1100] [1100] (Zf5 (lits:=[.one (.lit vg),.one (.lit (.int .i64 1))]) [.set Fg (fun w=>Own w (.sl (Zan 1 wr)) Fg vg)] cH ⟨.treeS List.mem_cons_self,.same,trivial⟩ rfl rfl) ?_;clear F)
 rintro r pm ⟨rfl,rfl⟩
 simp only [setA,retA,zipM,List.cons_append,List.nil_append]
 (have F:=ai @okc0 (ai @len0 (ai @tk0 (ai @dr0 (ai @ZaB (ai @lu0 (ai @tu0 (ai @du0 (ai @cu0 (ai @cu1 (ai @cu2 (ai @cug (ai @nk @nm))))))))))));refine gR ?_;clear F)
 (have F:=ai @okc0 (ai @len0 (ai @tk0 (ai @dr0 (ai @ZaB (ai @lu0 (ai @tu0 (ai @du0 (ai @cu0 (ai @cu1 (ai @cu2 (ai @cug (ai @nk (ai @nm @beq_self_eq_true.{0})))))))))))));refine gG ?_;clear F)
 refine gB ?_
 (have F:=ai @okc0 (ai @len0 (ai @tk0 (ai @dr0 @ZaB)));refine gC (cT0) ?_;clear F)
 (have F:=ai @okc0 (ai @len0 (ai @tk0 (ai @dr0 @ZaB)));refine gC (cT1) ?_;clear F)
 (have F:=ai @okc0 (ai @len0 (ai @tk0 (ai @dr0 @ZaB)));refine gC (cT2) ?_;clear F)
 (have F:=ai @okc0 (ai @len0 (ai @tk0 (ai @dr0 (ai @ZaB (ai @lu0 (ai @tu0 (ai @du0 (ai @cu0 (ai @cu1 (ai @cu2 (ai @cug (ai @nk @nm))))))))))));refine gCP [] [1200] (him) ?_;clear F)
 rintro r pm ⟨vh,Eh,rfl,cuh,rfl⟩
 simp only [setA,retA,zipM,List.cons_append,List.nil_append]
 (have F:=ai @okc0 (ai @len0 (ai @tk0 (ai @dr0 (ai @ZaB (ai @lu0 (ai @tu0 (ai @du0 (ai @cu0 (ai @cu1 (ai @cu2 (ai @cug (ai @nk (ai @nm @cuh)))))))))))));refine gR ?_;clear F)
 (have F:=ai @okc0 (ai @len0 (ai @tk0 (ai @dr0 (ai @ZaB (ai @lu0 (ai @tu0 (ai @du0 (ai @cu0 (ai @cu1 (ai @cu2 (ai @cug (ai @nk (ai @nm @cuh)))))))))))));refine gG ?_;clear F)
 refine gB ?_
 (have F:=ai @okc0 (ai @len0 (ai @tk0 (ai @dr0 (ai @ZaB (ai @lu0 (ai @tu0 (ai @du0 (ai @cu0 (ai @cu1 (ai @cu2 (ai @cug (ai @nk (ai @nm @cuh)))))))))))));refine gCP [1200] [1200] (Zf5 (lits:=[.one (.lit vh),.one (.sl wr)]) [.set Eh (fun w=>Own w (.sl wr) Eh vh)] cE ⟨.treeS List.mem_cons_self,.same,trivial⟩ rfl rfl) ?_;clear F)
 rintro r pm ⟨rfl,rfl⟩
 simp only [setA,retA,zipM,List.cons_append,List.nil_append]
 (have F:=ai @okc0 (ai @len0 (ai @tk0 (ai @dr0 (ai @ZaB (ai @lu0 (ai @tu0 (ai @du0 (ai @cu0 (ai @cu1 (ai @cu2 (ai @cug (ai @nk (ai @nm (ai @cuh @beq_self_eq_true.{0}))))))))))))));refine gR ?_;clear F)
 (have F:=ai @okc0 (ai @len0 (ai @tk0 (ai @dr0 (ai @ZaB (ai @lu0 (ai @tu0 (ai @du0 (ai @cu0 (ai @cu1 (ai @cu2 (ai @cug (ai @nk (ai @nm (ai @cuh @beq_self_eq_true.{0}))))))))))))));refine gG ?_;clear F)
 refine gB ?_
 (have F:=ai @okc0 (ai @len0 (ai @tk0 (ai @dr0 (ai @ZaB (ai @lu0 (ai @tu0 (ai @du0 (ai @cu0 (ai @cu1 (ai @cu2 (ai @cug (ai @nk @nm))))))))))));refine gCP [1100] [1100] (Zf5 (lits:=[.one (.lit vg),.one (.lit (.int .i64 1))]) [.set Fg (fun w=>Own w (.sl (Zan 1 wr)) Fg vg)] cH ⟨.treeS List.mem_cons_self,.same,trivial⟩ rfl rfl) ?_;clear F)
 rintro r pm ⟨rfl,rfl⟩
 simp only [setA,retA,zipM,List.cons_append,List.nil_append]
 (have F:=ai @okc0 (ai @len0 (ai @tk0 (ai @dr0 (ai @ZaB (ai @lu0 (ai @tu0 (ai @du0 (ai @cu0 (ai @cu1 (ai @cu2 (ai @cug (ai @nk @nm))))))))))));refine gR ?_;clear F)
 (have F:=ai @okc0 (ai @len0 (ai @tk0 (ai @dr0 (ai @ZaB (ai @lu0 (ai @tu0 (ai @du0 (ai @cu0 (ai @cu1 (ai @cu2 (ai @cug (ai @nk (ai @nm (ai @cuh @beq_self_eq_true.{0}))))))))))))));refine gG ?_;exact gT)
theorem Zfy (w:World) (hT:ZcH w) (row0:List C) (S0:Nat->Prop) (us0:List Value) (hok0:Zao (sigF) row0) (hv0:Zaa w S0 row0 us0) (rows1:List (List C)) (S1:Nat->Prop) (u1:Value) (hok1:Zam (Zab .binding) rows1) (hv1:Rep w S1 (.sl rows1) u1) (rows2:List (List C)) (S2:Nat->Prop) (u2:Value) (hok2:Zam (Zab .binding) rows2) (hv2:Rep w S2 (.sl rows2) u2) :
  Calls Tryz.prog 7 #[(.agg us0.toArray:Value),u1,u2] w fun e w'=>e=.returned (.bool true)∧Below w.heap.size w w':=by
 obtain ⟨g,rfl,k0⟩:=ZFg hok0
 obtain ⟨a,rfl,k1⟩:=Zp3 hok1
 obtain ⟨b,rfl,k2⟩:=Zp3 hok2
 have hc:=(Zf7 hok0 hok1 hok2 (ZFX) (fun b0 b1 b2 bt=>ZFF) (fun b0 b1 b2 bt=>Zqv k0 k1 b1 k2 b2) (fun b0 b1 b2 bt=>Zor k0 k1 b1 k2 b2)).2 w (fun b=>b < w.heap.size∧b≠2) [(.agg us0.toArray:Value),u1,u2] (fun b hb=>⟨hb.1,hb.2⟩) (ZFi hT) hT
  ⟨⟨us0,rfl,Zaa.off (ZpA hT) _ _ _ hok0 hv0.inside'⟩,Rep.off (ZpA hT) (.sl .binding) _ _ (by simpa only [okC] using hok1) ((Rep.inside _ _ hv1).mono (fun b hb=>hb.2)),Rep.off (ZpA hT) (.sl .binding) _ _ (by simpa only [okC] using hok2) ((Rep.inside _ _ hv2).mono (fun b hb=>hb.2)),trivial⟩
 refine hc.mono fun e w' ⟨v,h1,h2,h3,h4⟩=>⟨?_,h2.belowT hT h3⟩
 have h4:v=.bool true:=by simpa [retA,ARel,DRel,Rep] using h4
 rw [h1,h4]
end Go.Proofs.YtffmjghcpgpfpaaGreatDoor
