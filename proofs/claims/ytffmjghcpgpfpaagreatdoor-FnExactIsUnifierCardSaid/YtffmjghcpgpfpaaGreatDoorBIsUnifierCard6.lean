/-
  FnExactIsUnifier returns true for every signature, two terms and list of bindings, and turns nothing: proved without conditions.
-/
import Derived.Test.YtffmjghcpgpfpaaGreatDoorBIsUnifierCard0
import Derived.Test.YtffmjghcpgpfpaaGreatDoorBIsUnifierCard1
import Derived.Test.YtffmjghcpgpfpaaGreatDoorBIsUnifierCard2
import Derived.Test.YtffmjghcpgpfpaaGreatDoorBIsUnifierCard3
import Derived.Test.YtffmjghcpgpfpaaGreatDoorBIsUnifierCard4
import Derived.Test.YtffmjghcpgpfpaaGreatDoorBIsUnifierCard5
import Derived.Shelf.Lays7
import Derived.Test.YtffmjghcpgpfpaaGreatDoorChecked
import Derived.Shelf.Spec.TrailingZeros
import Derived.Test.YtffmjghcpgpfpaaGreatDoorTie
import Derived.Test.YtffmjghcpgpfpaaGreatDoorCards
set_option linter.unusedSimpArgs false
set_option linter.unusedVariables false
namespace Go.Proofs.YtffmjghcpgpfpaaGreatDoor
open Go.Shelf
def tzZ_ren:Ren:=⟨fun | 27=>231 | 28=>248 | 29=>249 | n=>n,fun | 25=>168 | 3=>3 | 27=>222 | 22=>224 | 4=>4 | 53=>276 | 0=>0 | 5=>5 | 54=>277 | n=>n,fun | 0=>1 | 1=>2 | n=>n⟩
theorem tzZ:Go.Proofs.Lays7.n27 Tryz.prog tzZ_ren:={
 mixed:=by kernel_rfl,
 f27:=Tryz.func231.trans (congrArg some (by kernel_rfl)),
 f28:=Tryz.func248.trans (congrArg some (by kernel_rfl)),
 f29:=Tryz.func249.trans (congrArg some (by kernel_rfl)),
 t0:=Tryz.underlying0,
 a0:=Tryz.isAgg0,
 z0:=Tryz.sizeOf0,
 v0:=Tryz.zeroValue0,
 i0:=by kernel_rfl,
 t3:=Tryz.underlying3,
 a3:=Tryz.isAgg3,
 z3:=Tryz.sizeOf3,
 v3:=Tryz.zeroValue3,
 i3:=by kernel_rfl,
 t4:=Tryz.underlying4,
 a4:=Tryz.isAgg4,
 z4:=Tryz.sizeOf4,
 v4:=Tryz.zeroValue4,
 i4:=by kernel_rfl,
 t5:=Tryz.underlying5,
 a5:=Tryz.isAgg5,
 z5:=Tryz.sizeOf5,
 v5:=Tryz.zeroValue5,
 i5:=by kernel_rfl,
 t22:=Tryz.underlying224,
 a22:=Tryz.isAgg224,
 z22:=Tryz.sizeOf224,
 v22:=Tryz.zeroValue224,
 i22:=by kernel_rfl,
 t25:=Tryz.underlying168,
 a25:=Tryz.isAgg168,
 z25:=Tryz.sizeOf168,
 v25:=Tryz.zeroValue168,
 i25:=by kernel_rfl,
 t27:=Tryz.underlying222,
 a27:=Tryz.isAgg222,
 z27:=Tryz.sizeOf222,
 v27:=Tryz.zeroValue222,
 i27:=by kernel_rfl,
 t53:=Tryz.underlying276,
 a53:=Tryz.isAgg276,
 z53:=Tryz.sizeOf276,
 v53:=Tryz.zeroValue276,
 i53:=by kernel_rfl,
 t54:=Tryz.underlying277,
 a54:=Tryz.isAgg277,
 z54:=Tryz.sizeOf277,
 g0:=by kernel_rfl,
 g1:=by kernel_rfl }
end Go.Proofs.YtffmjghcpgpfpaaGreatDoor
namespace Go.Proofs.YtffmjghcpgpfpaaGreatDoor
open Go.RowKit
theorem ctz_pow:∀ q:Fin 8,Lib.ctz 64 (2 ^ q.val)=q.val:=by decide
theorem con_tz {q:Nat} (hq:q < 8):Con e0 231 [.one (.lit (.int .u64 ((2 ^ q:Nat):Int)))] [.one (.lit (.int .i64 (q:Int)))]:=by
 refine ⟨by kernel_rfl,fun w S vs hS hE hG hv=>?_⟩
 match vs,hv with
 | [v],hv =>
  have hv:v=.int .u64 ((2 ^ q:Nat):Int):=by simpa [DsRel,DRel,Rep] using hv
  subst hv
  have hp:2 ^ q < 2 ^ 8:=Nat.pow_lt_pow_right (by omega) hq
  have hT:TabAt (tzZ_ren.g 1) Lib.deBruijn64tab w:=fun j hj=>tabOk.cell hG j hj
  refine (Any7.bits_TrailingZeros tzZ (2 ^ q) (by omega) w (fun _=>hT)).mono fun en w' ⟨h1,h2⟩=>?_
  subst h2
  rw [ctz_pow ⟨q,hq⟩] at h1
  exact ⟨_,h1,Kept.refl _ _ _ _,hG,by simp [retA,ARel,DRel,Rep]⟩
end Go.Proofs.YtffmjghcpgpfpaaGreatDoor
namespace Go.Proofs.YtffmjghcpgpfpaaGreatDoor
open Go.RowKit
theorem xor_part {p m:Nat} (h:p &&& m=p) (hp:p≠0) (hm:p≠m):1<=m ^^^ p∧m ^^^ p < m:=by
 have h1:=xor_zero hm
 have h2:=(sub_xor h).2
 have h3:m ^^^ p<=m:=by
  have h4:m ^^^ p<=p ||| (m ^^^ p):=Nat.right_le_or
  rw [h2] at h4
  exact h4
 have h4:m ^^^ p≠m:=fun e=>hp (by
  have:m ^^^ (m ^^^ p)=m ^^^ m:=by rw [e]
  rw [<- Nat.xor_assoc,Nat.xor_self,Nat.zero_xor] at this
  exact this)
 omega
section
variable {g:Sgn} {mc:C}
theorem any_twoC (hg:SgnOk g) {i:Nat} {o:Opr} (ho:g.ops[i]?=some o) (ha:o.assoc=true) (hc:o.comm=true) {s t N:Nat}:ofB (AnyB g o [s,t]) N=ofB (fun b=>Two (Eith (Rel2 g o)) s t b) N:=by
 refine ofB_congr fun b _=>?_
 unfold AnyB
 rw [give_two (Opr.deg2 hg ho (.inl ha)),two_eith,hc]
 simp only [List.reverse_cons,List.reverse_nil,List.nil_append,List.singleton_append,true_and]
 rw [give_two (Opr.deg2 hg ho (.inl ha))]
theorem eith_lt {R:Nat->Nat->Nat->Prop} {N:Nat} (h:∀ a c b,R a c b->b < N):∀ a c b,Eith R a c b->b < N:=fun a c b h1=>h1.elim (h a c b) (h c a b)
set_option maxHeartbeats 32000000 in
set_option maxRecDepth 100000 in
theorem con_combineAny (hg:SgnOk g) {op:Int} {o:Opr} (h0:0<=op) (ho:g.ops[op.toNat]?=some o) (ha:o.assoc=true) (hc:o.comm=true) (sets:List Nat) (hn1:1<=sets.length) (hn7:sets.length<=7) (hs:∀ s∈sets,s < 2 ^ g.sorts.names.length):Con e0 176 [.one (.ptr (encX g mc)),.one (.lit (.int .i64 op)),.one (.sl (nR sets))] [.one (.lit (.int .i64 ((bvN g (Rel2 g o) sets (2 ^ sets.length - 1):Nat):Int)))]:=by
 have hN:=hg.sorts.n8
 have rl:=nR_len (l:=sets)
 have rr:=nR_rows (l:=sets)
 have hdeg:=Opr.deg2 hg ho (.inl ha)
 rw [<- bvN_eith]
 have hRlt:=eith_lt fun a c b (h:Rel2 g o a c b)=>Rel2.lt hg (List.mem_of_getElem? ho) h
 have hany:=fun s t=>any_twoC (s:=s) (t:=t) (N:=g.sorts.names.length) hg ho ha hc
 generalize hRR:Eith (Rel2 g o)=R at hRlt hany ⊢
 have hcv:∀ m,bvN g R sets m < 2 ^ g.sorts.names.length:=fun m=>ofB_lt _ _
 have hsh:=shl_k (k:=sets.length) (by omega)
 have hT0:=BagT.start (g:=g) (R:=R) (sets:=sets)
 have hpow:∀ q,2 ^ q < 2 ^ sets.length->q < sets.length:=fun q h=>(Nat.pow_lt_pow_iff_right (by omega)).1 h
 have hZ1:2 ^ 1<=2 ^ sets.length:=Nat.pow_le_pow_right (by omega) hn1
 have hZ7:2 ^ sets.length<=2 ^ 7:=Nat.pow_le_pow_right (by omega) hn7
 have hBl:=fun M T (h:BagT g R sets M T)=>h.1
 have hBn:=fun M T (h:BagT g R sets M T)=>h.next
 have hB0:=fun M T (h:BagT g R sets M T)=>h.zero
 have hBg:=fun M T (h:BagT g R sets M T)=>h.2
 generalize hZ:2 ^ sets.length=Z at hsh hT0 hpow hZ1 hZ7 hBl hBn hB0 hBg ⊢
 have hmx:((Z:Int)<=(maxApp:Int))=True:=eq_true (by unfold maxApp;omega)
 refine gI (ts:=[.slot 6]) 2199090890695 Tryz.func176 ?_
 (have F:=ai @rl (ai @hsh (ai @hmx (ai @Int.toNat_natCast (ai @nR_0 (ai @natInt @tmz)))));refine gG ?_;clear F)
 generalize List.replicate Z 0=T0 at hT0 ⊢
 (have F:=@tmz;refine gL (ι:=Nat × List Nat) [8,9,10,19,26,41] [8] (fun x=>[(9,A.d (.one (.lit (.int .i64 x.1)))),(8,.buf 8)]) (fun x=>[(8,.buf none 3 1 (nR x.2))]) (fun x=>1<=x.1∧x.1<=Z∧BagT g R sets x.1 x.2) (fun x=>Z - x.1) ((1,T0)) (⟨Nat.le_refl _,by omega,hT0⟩) (fun x hx=>?_);clear F)
 clear hT0 T0
 obtain ⟨m,T⟩:=x
 obtain ⟨hm1,hm2,hT⟩:=hx
 simp only at hm1 hm2 hT
 dsimp only
 have nl:=nR_len (l:=T)
 rw [hBl _ _ hT] at nl
 have nr:=nR_rows (l:=T)
 by_cases hmZ:m < Z
 rotate_left
 ·obtain rfl:m=Z:=by omega
  have q1:((m:Int) < (m:Int))=False:=eq_false (by omega)
  have hg2:=nR_get ((hBg _ _ hT (m - 1) (by omega) (by omega)).1 (by omega))
  have w1:IntKind.i64.wrap ((m:Int) - 1)=((m - 1:Nat):Int):=wrapN (by omega) (by omega) (by omega)
  have i1:(m - 1 < m)=True:=eq_true (by omega)
  (have F:=ai @q1 (ai @hsh (ai @nl (ai @nr (ai @hg2 (ai @w1 (ai @i1 (ai @natInt @tmz)))))));refine gG ?_;exact gTd)
 have q1:((m:Int) < (Z:Int))=True:=eq_true (by omega)
 have hw:=wrap1 (k:=m) (by omega)
 have w1:IntKind.i64.wrap ((m:Int) - 1)=((m - 1:Nat):Int):=wrapN (by omega) (by omega) (by omega)
 have ba:=bits_and (a:=m) (b:=m - 1) (by omega) (by omega)
 have ba2:=bits_and (a:=m - 1) (b:=m) (by omega) (by omega)
 rw [Nat.and_comm] at ba
 have i0:(m < Z)=True:=eq_true hmZ
 by_cases hA:(m - 1) &&& m=0
 ·obtain ⟨q,rfl⟩:=not_pow (by omega) hA
  have hq:=hpow q hmZ
  rw [hA] at ba
  have q2:(((0:Nat):Int)=0)=True:=eq_true rfl
  have wu:IntKind.u64.wrap ((2 ^ q:Nat):Int)=((2 ^ q:Nat):Int):=by
   unfold IntKind.wrap
   simp only [IntKind.signed,IntKind.bits]
   exact Int.emod_eq_of_lt (by omega) (by omega)
  obtain ⟨s,hsq⟩:∃ s,sets[q]?=some s:=⟨_,List.getElem?_eq_getElem hq⟩
  have hbv:bvN g R sets (2 ^ q)=s:=by unfold bvN;exact bag_one hsq (hs s (List.mem_of_getElem? hsq))
  have r1:=nR_get hsq
  have hT2:=hBn _ _ hT hmZ
  rw [hbv] at hT2
  have ns:=nR_set (l:=T) (2 ^ q) s
  obtain ⟨z,hz⟩:∃ z,T[2 ^ q]?=some z:=⟨_,List.getElem?_eq_getElem (by rw [hBl _ _ hT];exact hmZ)⟩
  have ng:=nR_get hz
  have cz:=con_tz (q:=q) (by omega)
  have i2:(q < sets.length)=True:=eq_true hq
  clear hbv hA
  generalize 2 ^ q=M at *
  (have F:=ai @q1 (ai @hsh (ai @w1 (ai @ba (ai @q2 (ai @natInt @tmz)))));have NN:StopAt 7:=trivial;refine gGn ?_;clear F NN)
  refine gB ?_
  (have F:=ai @un_int (ai @un_uint (ai @cv_uint (ai @wu @tmz)));refine gC (cz) ?_;clear F)
  (have F:=ai @r1 (ai @rl (ai @rr (ai @nl (ai @nr (ai @ns (ai @ng (ai @i0 (ai @i2 (ai @natInt @tmz)))))))));refine gR ?_;clear F)
  (have F:=ai @hw @tmz;refine gG ?_;exact ⟨(M+1,T.set M s),⟨by omega,by omega,hT2⟩,gw,gw,by omega⟩)
 have q2:((((m - 1) &&& m:Nat):Int)=0)=False:=eq_false (by omega)
 have hnp:∀ i,m≠2 ^ i:=fun i e=>hA (by subst e;exact pow_and i)
 have hz:=hB0 _ _ hT hm1 hmZ
 have hzz:nR (T.set m 0)=nR T:=by rw [hz]
 have hle:(m - 1) &&& m<=m - 1:=Nat.and_le_left
 have hs0:=part_start (R:=R) (sets:=sets) (N:=g.sorts.names.length) (m:=m) (by omega)
 have hend:=part_end (R:=R) (sets:=sets) (N:=g.sorts.names.length) (m:=m) hs hRlt hnp
 have hT2:=hBn _ _ hT hmZ
 clear nl nr
 (have F:=ai @hsh (ai @q1 (ai @w1 (ai @ba (ai @ba2 (ai @q2 (ai @natInt @tmz))))));refine gG ?_;clear F)
 (have F:=ai @hzz @tmz;refine gL (ι:=Nat × Nat) [8,10,41] [8] (fun z=>[(10,A.d (.one (.lit (.int .i64 z.1)))),(8,.buf 8)]) (fun z=>[(8,.buf none 3 1 (nR (T.set m z.2)))]) (fun z=>z.1 < m∧z.1 &&& m=z.1∧z.2=ofB (PartB R sets g.sorts.names.length m z.1) g.sorts.names.length) (fun z=>z.1) (((m - 1) &&& m,0)) (⟨by omega,by rw [Nat.and_assoc,Nat.and_self],hs0.symm⟩) (fun z hz=>?_);clear F)
 obtain ⟨p,v⟩:=z
 obtain ⟨hp1,hp2,hv⟩:=hz
 simp only at hp1 hp2 hv
 dsimp only
 by_cases hp0:p=0
 ·subst hp0
  have q3:((0:Int) < ((0:Nat):Int))=False:=eq_false (by omega)
  have e:v=bvN g R sets m:=by rw [hv,hend];rfl
  subst e
  (have F:=ai @q3 (ai @hw @tmz);refine gG ?_;exact ⟨(m+1,T.set m (bvN g R sets m)),⟨by omega,by omega,hT2⟩,gw,gw,by omega⟩)
 have q3:((0:Int) < (p:Int))=True:=eq_true (by omega)
 have wp:IntKind.i64.wrap ((p:Int) - 1)=((p - 1:Nat):Int):=wrapN (by omega) (by omega) (by omega)
 have bap:=bits_and (a:=p - 1) (b:=m) (by omega) (by omega)
 have bx:=bits_xor (a:=m) (b:=p) (by omega) (by omega)
 have hxp:=xor_part hp2 hp0 (by omega)
 have hp3:(p - 1) &&& m<=p - 1:=Nat.and_le_left
 have hTp:=(hBg _ _ hT p (by omega) (by omega)).1 hp1
 have hTx:=(hBg _ _ hT (m ^^^ p) hxp.1 (by omega)).1 hxp.2
 have e:=fun b=>part_step (R:=R) (sets:=sets) (N:=g.sorts.names.length) (m:=m) (p:=p) (b:=b) hp0 (by omega) hp2
 have e:v ||| ofB (fun b=>Two R (bvN g R sets p) (bvN g R sets (m ^^^ p)) b) g.sorts.names.length=ofB (PartB R sets g.sorts.names.length m ((p - 1) &&& m)) g.sorts.names.length:=by
  rw [hv,ofB_or]
  exact ofB_congr fun b _=>(e b).symm
 have cR:=con_results (mc:=mc) hg h0 ho [bvN g R sets p,bvN g R sets (m ^^^ p)] (fun d hd=>hdeg d hd) (by simp) (fun s hs=>by
  simp only [List.mem_cons,List.not_mem_nil,or_false] at hs
  rcases hs with rfl | rfl <;> exact hcv _)
 rw [hany] at cR
 have cR:=con_clipB cR
 have hv62:v < 4611686018427387904:=by rw [hv];exact small62 (ofB_lt _ _) hN
 have hor:=bits_or hv62 (small62 (ofB_lt (fun b=>Two R (bvN g R sets p) (bvN g R sets (m ^^^ p)) b) g.sorts.names.length) hN)
 rw [e] at hor
 generalize ofB (fun b=>Two R (bvN g R sets p) (bvN g R sets (m ^^^ p)) b) g.sorts.names.length=tw at cR hor
 have nl:=nR_len (l:=T.set m v)
 rw [List.length_set,hBl _ _ hT] at nl
 have nr:=nR_rows (l:=T.set m v)
 have g1:(nR (T.set m v))[m]?=some [.lit (.int .i64 v)]:=nR_get (List.getElem?_set_self (by rw [hBl _ _ hT];exact hmZ))
 have g2:(nR (T.set m v))[p]?=some [.lit (.int .i64 (bvN g R sets p))]:=nR_get (by rw [List.getElem?_set_ne (by omega)];exact hTp)
 have g3:(nR (T.set m v))[m ^^^ p]?=some [.lit (.int .i64 (bvN g R sets (m ^^^ p)))]:=nR_get (by rw [List.getElem?_set_ne (by omega)];exact hTx)
 have ns:=fun x=>nR_set (l:=T.set m v) m x
 simp only [List.set_set] at ns
 have i2:(p < Z)=True:=eq_true (by omega)
 have i3:(m ^^^ p < Z)=True:=eq_true (by omega)
 clear e hv hend
 (have F:=ai @q3 @tmz;have NN:StopAt 11:=trivial;refine gGn ?_;clear F NN)
 refine gB ?_
 (have F:=ai @nl (ai @nr (ai @g1 (ai @g2 (ai @g3 (ai @i0 (ai @i2 (ai @i3 (ai @bx (ai @natInt @tmz)))))))));refine gC (cR) ?_;clear F)
 (have F:=ai @nl (ai @nr (ai @g1 (ai @hor (ai @ns (ai @i0 (ai @natInt @tmz))))));refine gR ?_;clear F)
 (have F:=ai @wp (ai @bap @tmz);refine gG ?_;exact ⟨((p - 1) &&& m,ofB (PartB R sets g.sorts.names.length m ((p - 1) &&& m)) g.sorts.names.length),⟨by omega,by rw [Nat.and_assoc,Nat.and_self],rfl⟩,gw,gw,by omega⟩)
end
end Go.Proofs.YtffmjghcpgpfpaaGreatDoor
namespace Go.Proofs.YtffmjghcpgpfpaaGreatDoor
open Go.RowKit
section
variable {g:Sgn}
set_option maxHeartbeats 32000000 in
set_option maxRecDepth 100000 in
theorem con_l7Bag (hg:SgnOk g) {op:Int} {o:Opr} (h0:0<=op) (ho:g.ops[op.toNat]?=some o) (ha:o.assoc=true) (sets:List Nat) (hn1:1<=sets.length) (hn7:sets.length<=7) (hs:∀ s∈sets,s < 2 ^ g.sorts.names.length):Con e0 207 [.agg (encSgn g),.one (.lit (.int .i64 op)),.one (.sl (nR sets))] [.one (.lit (.int .i64 ((bvN g (Rel2 g o) sets (2 ^ sets.length - 1):Nat):Int)))]:=by
 have hN:=hg.sorts.n8
 have rl:=nR_len (l:=sets)
 have rr:=nR_rows (l:=sets)
 have hdeg:=Opr.deg2 hg ho (.inl ha)
 have cU:=con_l3Up hg.sorts.n8 hg.sorts.m16 (SortsOk.subsIn hg.sorts.subs)
 rw [encSrt] at cU
 have hRlt:=fun a c b (h:Rel2 g o a c b)=>Rel2.lt hg (List.mem_of_getElem? ho) h
 have hany:∀ s t,ofB (GiveB g o [s,t]) g.sorts.names.length=ofB (fun b=>Two (Rel2 g o) s t b) g.sorts.names.length:=fun s t=>ofB_congr fun b _=>give_two hdeg
 have cG:=fun l=>con_l7Give hg (List.mem_of_getElem? ho) l
 generalize hRR:Rel2 g o=R at hRlt hany ⊢
 have hcv:∀ m,bvN g R sets m < 2 ^ g.sorts.names.length:=fun m=>ofB_lt _ _
 have cB:=con_l2Bit (k:=sets.length) (by omega)
 have hT0:=BagT.start (g:=g) (R:=R) (sets:=sets)
 have hpow:∀ q,2 ^ q < 2 ^ sets.length->q < sets.length:=fun q h=>(Nat.pow_lt_pow_iff_right (by omega)).1 h
 have hZ1:2 ^ 1<=2 ^ sets.length:=Nat.pow_le_pow_right (by omega) hn1
 have hZ7:2 ^ sets.length<=2 ^ 7:=Nat.pow_le_pow_right (by omega) hn7
 have hBl:=fun M T (h:BagT g R sets M T)=>h.1
 have hBn:=fun M T (h:BagT g R sets M T)=>h.next
 have hB0:=fun M T (h:BagT g R sets M T)=>h.zero
 have hBg:=fun M T (h:BagT g R sets M T)=>h.2
 generalize hZ:2 ^ sets.length=Z at cB hT0 hpow hZ1 hZ7 hBl hBn hB0 hBg ⊢
 have hmx:((Z:Int)<=(maxApp:Int))=True:=eq_true (by unfold maxApp;omega)
 rw [encSgn]
 refine gI (ts:=[.slot 6]) 281509890105295 Tryz.func207 ?_
 (have F:=ai @rl @tmz;have NN:StopAt 2:=trivial;refine gGn ?_;clear F NN)
 refine gB ?_
 (have F:=@tmz;refine gC (cU) ?_;clear F)
 (have F:=@tmz;refine gR ?_;clear F)
 refine pwp_seqW ?_
 refine gB ?_
 (have F:=@tmz;refine gC (cB) ?_;clear F)
 (have F:=ai @hmx (ai @Int.toNat_natCast (ai @nR_0 @tmz));refine gR ?_;clear F)
 (have F:=ai @natInt @tmz;refine gG ?_;clear F)
 generalize List.replicate Z 0=T0 at hT0 ⊢
 (have F:=@tmz;refine gL (ι:=Nat × List Nat) [9,10,11,12,24,29,35,48] [9] (fun x=>[(10,A.d (.one (.lit (.int .i64 x.1)))),(9,.buf 9)]) (fun x=>[(9,.buf none 3 1 (nR x.2))]) (fun x=>1<=x.1∧x.1<=Z∧BagT g R sets x.1 x.2) (fun x=>Z - x.1) ((1,T0)) (⟨Nat.le_refl _,by omega,hT0⟩) (fun x hx=>?_);clear F)
 clear hT0 T0
 obtain ⟨m,T⟩:=x
 obtain ⟨hm1,hm2,hT⟩:=hx
 simp only at hm1 hm2 hT
 dsimp only
 (have F:=@tmz;have NN:StopAt 5:=trivial;refine gGn ?_;clear F NN)
 refine gB ?_
 (have F:=@tmz;refine gC (cB) ?_;clear F)
 by_cases hmZ:m < Z
 rotate_left
 ·obtain rfl:m=Z:=by omega
  have nl:=nR_len (l:=T)
  rw [hBl _ _ hT] at nl
  have nr:=nR_rows (l:=T)
  have q1:((m:Int) < (m:Int))=False:=eq_false (by omega)
  have hg2:=nR_get ((hBg _ _ hT (m - 1) (by omega) (by omega)).1 (by omega))
  have w1:IntKind.i64.wrap ((m:Int) - 1)=((m - 1:Nat):Int):=wrapN (by omega) (by omega) (by omega)
  have i1:(m - 1 < m)=True:=eq_true (by omega)
  (have F:=ai @q1 @tmz;refine gR ?_;clear F)
  (have F:=@tmz;have NN:StopAt 16:=trivial;refine gGn ?_;clear F NN)
  refine gB ?_
  (have F:=@tmz;refine gC (cB) ?_;clear F)
  (have F:=ai @nl (ai @nr (ai @hg2 (ai @w1 (ai @i1 (ai @natInt @tmz)))));refine gR ?_;clear F)
  (have F:=@tmz;refine gG ?_;exact gTd)
 have q1:((m:Int) < (Z:Int))=True:=eq_true (by omega)
 have hw:=wrap1 (k:=m) (by omega)
 have w1:IntKind.i64.wrap ((m:Int) - 1)=((m - 1:Nat):Int):=wrapN (by omega) (by omega) (by omega)
 have ba2:=bits_and (a:=m - 1) (b:=m) (by omega) (by omega)
 have i0:(m < Z)=True:=eq_true hmZ
 have hz:=hB0 _ _ hT hm1 hmZ
 have hzz:nR (T.set m 0)=nR T:=by rw [hz]
 have hT2:=hBn _ _ hT hmZ
 (have F:=ai @q1 @tmz;refine gR ?_;clear F)
 (have F:=@tmz;refine gG ?_;clear F)
 (have F:=ai @hzz @tmz;refine gL (ι:=Nat × Nat) [9,11,29,35] [9] (fun y=>[(11,A.d (.one (.lit (.int .i64 y.1)))),(9,.buf 9)]) (fun y=>[(9,.buf none 3 1 (nR (T.set m y.2)))]) (fun y=>y.1<=sets.length∧(∀ q,m=2 ^ q->(q < y.1->y.2=bvN g R sets m))∧((∀ q,q < y.1->m≠2 ^ q)->y.2=0)) (fun y=>sets.length - y.1) ((0,0)) (⟨by omega,fun q _ h=>by omega,fun _=>rfl⟩) (fun y hy=>?_);clear F)
 obtain ⟨i,v⟩:=y
 obtain ⟨hi,hv1,hv2⟩:=hy
 simp only at hi hv1 hv2
 dsimp only
 by_cases hil:i < sets.length
 ·have q3:((i:Int) < (sets.length:Int))=True:=eq_true (by omega)
  have hwi:=wrap1 (k:=i) (by omega)
  have cBi:=con_l2Bit (k:=i) (by omega)
  (have F:=ai @q3 @tmz;have NN:StopAt 10:=trivial;refine gGn ?_;clear F NN)
  refine gB ?_
  (have F:=@tmz;refine gC (cBi) ?_;clear F)
  by_cases e:m=2 ^ i
  ·have q4:((m:Int)=((2 ^ i:Nat):Int))=True:=eq_true (by rw [e])
   obtain ⟨s,hsi⟩:∃ s,sets[i]?=some s:=⟨_,List.getElem?_eq_getElem hil⟩
   have hbv:bvN g R sets m=s:=by rw [e];unfold bvN;exact bag_one hsi (hs s (List.mem_of_getElem? hsi))
   have r1:=nR_get hsi
   have nl:=nR_len (l:=T.set m v)
   rw [List.length_set,hBl _ _ hT] at nl
   have nr:=nR_rows (l:=T.set m v)
   have g1:(nR (T.set m v))[m]?=some [.lit (.int .i64 v)]:=nR_get (List.getElem?_set_self (by rw [hBl _ _ hT];exact hmZ))
   have ns:=fun x=>nR_set (l:=T.set m v) m x
   simp only [List.set_set] at ns
   have i1:(i < sets.length)=True:=eq_true hil
   have hv0:(∀ q,q < i+1->m≠2 ^ q)->s=0:=fun h=>absurd e (h i (by omega))
   clear cBi
   generalize 2 ^ i=M at *
   (have F:=ai @q4 @tmz;refine gR ?_;clear F)
   (have F:=ai @hwi (ai @r1 (ai @rl (ai @rr (ai @nl (ai @nr (ai @g1 (ai @ns (ai @i0 (ai @i1 (ai @natInt @tmz))))))))));refine gG ?_;exact ⟨(i+1,s),⟨hil,fun q h1 h2=>hbv.symm,hv0⟩,gw,gw,by omega⟩)
  have q4:((m:Int)=((2 ^ i:Nat):Int))=False:=eq_false (by omega)
  have hv3:∀ q,m=2 ^ q->(q < i+1->v=bvN g R sets m):=fun q h1 h2=>hv1 q h1 (by
   by_cases h3:q=i
   ·subst h3;exact absurd h1 e
   ·omega)
  have hv4:(∀ q,q < i+1->m≠2 ^ q)->v=0:=fun h=>hv2 fun q h1=>h q (by omega)
  clear cBi
  (have F:=ai @q4 @tmz;refine gR ?_;clear F)
  (have F:=ai @hwi @tmz;refine gG ?_;exact ⟨(i+1,v),⟨hil,hv3,hv4⟩,gw,gw,by omega⟩)
 obtain rfl:i=sets.length:=by omega
 have q3:((sets.length:Int) < (sets.length:Int))=False:=eq_false (by omega)
 have hz:=hB0 _ _ hT hm1 hmZ
 have hle:(m - 1) &&& m<=m - 1:=Nat.and_le_left
 (have F:=ai @q3 (ai @w1 (ai @ba2 (ai @natInt @tmz)));refine gG ?_;clear F)
 by_cases hA:(m - 1) &&& m=0
 ·obtain ⟨q,rfl⟩:=not_pow (by omega) hA
  have hq:=hpow q hmZ
  have hv:=hv1 q rfl hq
  subst hv
  rw [hA]
  (have F:=@tmz;refine gL (ι:=Nat) [12,48] [] (fun z=>[(12,A.d (.one (.lit (.int .i64 z))))]) (fun z=>[]) (fun z=>z=0) (fun z=>z) (0) (rfl) (fun z hz=>?_);clear F)
  subst hz
  have q4:((0:Int) < ((0:Nat):Int))=False:=eq_false (by omega)
  generalize 2 ^ q=M at *
  (have F:=ai @q4 (ai @hw @tmz);refine gG ?_;exact ⟨(M+1,T.set M (bvN g R sets M)),⟨by omega,by omega,hT2⟩,gw,gw,by omega⟩)
 have hnp:∀ i,m≠2 ^ i:=fun i e=>hA (by subst e;exact pow_and i)
 have hv:=hv2 fun q _=>hnp q
 subst hv
 have hs0:=part_start (R:=R) (sets:=sets) (N:=g.sorts.names.length) (m:=m) (by omega)
 have hend:=part_end (R:=R) (sets:=sets) (N:=g.sorts.names.length) (m:=m) hs hRlt hnp
 (have F:=@tmz;refine gL (ι:=Nat × Nat) [9,12,48] [9] (fun z=>[(12,A.d (.one (.lit (.int .i64 z.1)))),(9,.buf 9)]) (fun z=>[(9,.buf none 3 1 (nR (T.set m z.2)))]) (fun z=>z.1 < m∧z.1 &&& m=z.1∧z.2=ofB (PartB R sets g.sorts.names.length m z.1) g.sorts.names.length) (fun z=>z.1) (((m - 1) &&& m,0)) (⟨by omega,by rw [Nat.and_assoc,Nat.and_self],hs0.symm⟩) (fun z hz=>?_);clear F)
 obtain ⟨p,v⟩:=z
 obtain ⟨hp1,hp2,hv⟩:=hz
 simp only at hp1 hp2 hv
 dsimp only
 by_cases hp0:p=0
 ·subst hp0
  have q3:((0:Int) < ((0:Nat):Int))=False:=eq_false (by omega)
  have e:v=bvN g R sets m:=by rw [hv,hend];rfl
  subst e
  (have F:=ai @q3 (ai @hw @tmz);refine gG ?_;exact ⟨(m+1,T.set m (bvN g R sets m)),⟨by omega,by omega,hT2⟩,gw,gw,by omega⟩)
 have q3:((0:Int) < (p:Int))=True:=eq_true (by omega)
 have wp:IntKind.i64.wrap ((p:Int) - 1)=((p - 1:Nat):Int):=wrapN (by omega) (by omega) (by omega)
 have bap:=bits_and (a:=p - 1) (b:=m) (by omega) (by omega)
 have bx:=bits_xor (a:=m) (b:=p) (by omega) (by omega)
 have hxp:=xor_part hp2 hp0 (by omega)
 have hp3:(p - 1) &&& m<=p - 1:=Nat.and_le_left
 have hTp:=(hBg _ _ hT p (by omega) (by omega)).1 hp1
 have hTx:=(hBg _ _ hT (m ^^^ p) hxp.1 (by omega)).1 hxp.2
 have e:=fun b=>part_step (R:=R) (sets:=sets) (N:=g.sorts.names.length) (m:=m) (p:=p) (b:=b) hp0 (by omega) hp2
 have e:v ||| ofB (fun b=>Two R (bvN g R sets p) (bvN g R sets (m ^^^ p)) b) g.sorts.names.length=ofB (PartB R sets g.sorts.names.length m ((p - 1) &&& m)) g.sorts.names.length:=by
  rw [hv,ofB_or]
  exact ofB_congr fun b _=>(e b).symm
 have cR:=cG [bvN g R sets p,bvN g R sets (m ^^^ p)] (fun d hd=>hdeg d hd) (by simp) (fun s hs=>by
  simp only [List.mem_cons,List.not_mem_nil,or_false] at hs
  rcases hs with rfl | rfl <;> exact hcv _)
 rw [hany] at cR
 have cR:=con_clipB cR
 have hv62:v < 4611686018427387904:=by rw [hv];exact small62 (ofB_lt _ _) hN
 have hor:=bits_or hv62 (small62 (ofB_lt (fun b=>Two R (bvN g R sets p) (bvN g R sets (m ^^^ p)) b) g.sorts.names.length) hN)
 rw [e] at hor
 generalize ofB (fun b=>Two R (bvN g R sets p) (bvN g R sets (m ^^^ p)) b) g.sorts.names.length=tw at cR hor
 have nl:=nR_len (l:=T.set m v)
 rw [List.length_set,hBl _ _ hT] at nl
 have nr:=nR_rows (l:=T.set m v)
 have g1:(nR (T.set m v))[m]?=some [.lit (.int .i64 v)]:=nR_get (List.getElem?_set_self (by rw [hBl _ _ hT];exact hmZ))
 have g2:(nR (T.set m v))[p]?=some [.lit (.int .i64 (bvN g R sets p))]:=nR_get (by rw [List.getElem?_set_ne (by omega)];exact hTp)
 have g3:(nR (T.set m v))[m ^^^ p]?=some [.lit (.int .i64 (bvN g R sets (m ^^^ p)))]:=nR_get (by rw [List.getElem?_set_ne (by omega)];exact hTx)
 have ns:=fun x=>nR_set (l:=T.set m v) m x
 simp only [List.set_set] at ns
 have i2:(p < Z)=True:=eq_true (by omega)
 have i3:(m ^^^ p < Z)=True:=eq_true (by omega)
 clear e hv hend
 (have F:=ai @q3 @tmz;have NN:StopAt 15:=trivial;refine gGn ?_;clear F NN)
 refine gB ?_
 (have F:=ai @nl (ai @nr (ai @g1 (ai @g2 (ai @g3 (ai @i0 (ai @i2 (ai @i3 (ai @bx (ai @h0 (ai @ho (ai @encOpr_u (ai @natInt @tmz))))))))))));refine gC (cR) ?_;clear F)
 (have F:=ai @nl (ai @nr (ai @g1 (ai @hor (ai @ns (ai @i0 (ai @natInt @tmz))))));refine gR ?_;clear F)
 (have F:=ai @wp (ai @bap @tmz);refine gG ?_;exact ⟨((p - 1) &&& m,ofB (PartB R sets g.sorts.names.length m ((p - 1) &&& m)) g.sorts.names.length),⟨by omega,by rw [Nat.and_assoc,Nat.and_self],rfl⟩,gw,gw,by omega⟩)
end
end Go.Proofs.YtffmjghcpgpfpaaGreatDoor
namespace Go.Proofs.YtffmjghcpgpfpaaGreatDoor
open Go.RowKit
section
variable {g:Sgn}
theorem AppOk.len7 (hg:SgnOk g) {t:Tm} {o:Opr} {d:Dcl} (hA:AppOk g t o d):t.args.length<=7:=by
 cases ha:o.assoc with
 | true=>exact (hA.asc ha).2
 | false =>
  rw [hA.nas ha]
  have:=(hg.decls o (List.mem_of_getElem? hA.at')).ar d hA.fst
  omega
theorem AppOk.dlen (hg:SgnOk g) {t:Tm} {o:Opr} {d:Dcl} (hA:AppOk g t o d) (ha:o.assoc=false):∀ f∈o.decls,f.args.length=t.args.length:=by
 intro f hf
 rw [hA.nas ha]
 exact ((hg.decls o (List.mem_of_getElem? hA.at')).all d hA.fst f hf).len
theorem sorts_snoc {t a:Tm} {i:Nat} (h:t.args[i]?=some a):(t.args.take i).map (sortsTm g)++[sortsTm g a]=(t.args.take (i+1)).map (sortsTm g):=by
 rw [List.take_add_one,h,List.map_append];rfl
set_option maxHeartbeats 32000000 in
set_option maxRecDepth 100000 in
theorem con_l7Sorts (hg:SgnOk g):∀ (n:Nat) {t:Tm},sizeTm t < n->FormOk g t->Con e0 139 [.agg (encSgn g),.agg (encTm t)] [.one (.lit (.int .i64 ((sortsTm g t:Nat):Int)))]:=by
 intro n
 induction n with
 | zero=>exact fun {t} h _=>absurd h (by omega)
 | succ n IH =>
 intro t hsz hf
 obtain ⟨hnode,hargs,_⟩:=FormOk_iff.1 hf
 have cU:=con_l3Up hg.sorts.n8 hg.sorts.m16 (SortsOk.subsIn hg.sorts.subs)
 rw [encSrt] at cU
 by_cases hop:t.op=-1
 ·have hv:VarOk g t:=hnode.resolve_right fun ⟨o,d,hA⟩=>by have:=hA.lo;omega
  have q1:(t.op=-1)=True:=eq_true hop
  obtain ⟨k,hk⟩:∃ k:Nat,t.sort=k:=⟨t.sort.toNat,by have:=hv.2.2.1;omega⟩
  have hgk:=upk_get hg.sorts hv.2.2.1 hv.2.2.2.1
  have hgk:=nR_get hgk.1
  have e:=sortsTm_var (g:=g) hop
  rw [e]
  have ul:=nR_len (l:=up g.sorts)
  rw [(up_ok (SortsOk.subsIn hg.sorts.subs)).1] at ul
  have ur:=nR_rows (l:=up g.sorts)
  have i0:0<=t.sort:=hv.2.2.1
  have i1:(t.sort.toNat < g.sorts.names.length)=True:=eq_true (by have:=hv.2.2.2.1;omega)
  rw [encSgn]
  refine gI (ts:=[.slot 4]) 4629704814991770879 Tryz.func139 ?_
  (have F:=ai @q1 @tmz;have NN:StopAt 2:=trivial;refine gGn ?_;clear F NN)
  refine gB ?_
  (have F:=@tmz;refine gC (cU) ?_;clear F)
  (have F:=ai @i0 (ai @i1 (ai @ul (ai @ur (ai @hgk @tmz))));refine gR ?_;clear F)
  (have F:=@tmz;refine gG ?_;exact gTd)
 have q1:(t.op=-1)=False:=eq_false hop
 obtain ⟨o,d,hA⟩:∃ o d,AppOk g t o d:=hnode.resolve_left fun hv=>hop hv.1
 have h0:=hA.lo
 have ho:=hA.at'
 have h7:=hA.len7 hg
 have ih:∀ a∈t.args,Con e0 139 [.agg (encSgn g),.agg (encTm a)] [.one (.lit (.int .i64 ((sortsTm g a:Nat):Int)))]:=fun a ha=>IH (by
  have h1:=sizeTm_eq t
  have h2:=sizeTms_mem ha
  omega) (hargs a ha)
 clear IH
 have e:=sortsTm_app hop ho
 rw [e]
 have hss:∀ s∈t.args.map (sortsTm g),s < 2 ^ g.sorts.names.length:=fun s hs=>by
  obtain ⟨a,ha,rfl⟩:=List.mem_map.1 hs
  exact sortsTm_lt hg (hargs a ha).node
 have hsl:(t.args.map (sortsTm g)).length=t.args.length:=List.length_map _
 have cB:=fun (ha:o.assoc=true)=>con_l7Bag hg h0 ho ha (t.args.map (sortsTm g)) (by rw [hsl];have:=(hA.asc ha).1;omega) (by rw [hsl];exact h7) hss
 have cC:=fun (ha:o.assoc=true)=>con_l7Chain hg h0 ho ha (t.args.map (sortsTm g)) (by rw [hsl];have:=(hA.asc ha).1;omega) (by rw [hsl];exact h7) hss
 rw [encSgn] at ih cB cC ⊢
 have hn0:nR []=[]:=rfl
 have ht0:t.args.take 0=[]:=rfl
 refine gI (ts:=[.slot 4]) 4629704814991770879 Tryz.func139 ?_
 (have F:=ai @q1 @tmz;refine gG ?_;clear F)
 (have F:=ai @hn0 (ai @ht0 @tmz);refine gL (ι:=Nat) [5,6,23] [5] (fun i=>[(6,A.d (.one (.lit (.int .i64 i)))),(5,.buf 5)]) (fun i=>[(5,.buf none 3 1 (nR ((t.args.take i).map (sortsTm g))))]) (fun i=>i<=t.args.length) (fun i=>t.args.length - i) (0) (Nat.zero_le _) (fun i hi=>?_);clear F)
 have nl:=nR_len (l:=(t.args.take i).map (sortsTm g))
 rw [List.length_map,List.length_take_of_le hi] at nl
 have nr:=nR_rows (l:=(t.args.take i).map (sortsTm g))
 by_cases hil:i < t.args.length
 ·have q2:((i:Int) < (t.args.length:Int))=True:=eq_true (by omega)
  obtain ⟨a,hai⟩:∃ a,t.args[i]?=some a:=⟨_,List.getElem?_eq_getElem hil⟩
  have cA:=ih a (List.mem_of_getElem? hai)
  have ns:=nR_snoc (l:=(t.args.take i).map (sortsTm g)) (sortsTm g a)
  rw [sorts_snoc hai] at ns
  have hmx:(i+1<=maxApp)=True:=eq_true (by unfold maxApp;omega)
  have hw:=wrap1 (k:=i) (by omega)
  (have F:=ai @q2 @tmz;have NN:StopAt 7:=trivial;refine gGn ?_;clear F NN)
  refine gB ?_
  (have F:=ai @hai (ai @natInt @tmz);refine gC (cA) ?_;clear F)
  (have F:=ai @nl (ai @nr (ai @ns (ai @hmx @tmz)));refine gR ?_;clear F)
  (have F:=ai @hw @tmz;refine gG ?_;exact ⟨i+1,hil,gw,gw,by omega⟩)
 obtain rfl:i=t.args.length:=by omega
 have q2:((t.args.length:Int) < (t.args.length:Int))=False:=eq_false (by omega)
 rw [List.take_length] at nl nr ⊢
 have hlt:=fun b=>sortsTm_lt hg (t:=b)
 have hD:=hA.dlen hg
 rw [<- hsl] at hD
 have cF:=fun (ha:o.assoc=false)=>con_l7Apply hg h0 ho (t.args.map (sortsTm g)) (hD ha)
 have h2:=Opr.deg2 hg ho
 rw [encSgn] at cF
 clear hi hil
 cases ha:o.assoc with
 | true =>
  cases hc:o.comm with
  | true =>
   have cB:=cB ha
   have e2:bvN g (Rel2 g o) (t.args.map (sortsTm g)) (2 ^ (t.args.map (sortsTm g)).length - 1)=appS g o (t.args.map (sortsTm g)):=by
    unfold bvN appS
    exact ofB_congr fun b _=>by unfold AppB;rw [if_pos ha,if_pos hc]
   rw [e2] at cB
   (have F:=ai @q2 (ai @ha (ai @hc (ai @h0 (ai @ho (ai @encOpr_u @tmz)))));have NN:StopAt 10:=trivial;refine gGn ?_;clear F NN)
   refine gB ?_
   (have F:=@tmz;refine gC (cB) ?_;clear F)
   (have F:=@tmz;refine gR ?_;clear F)
   (have F:=@tmz;refine gG ?_;exact gTd)
  | false =>
   have cC:=cC ha
   have e2:cvN g o (t.args.map (sortsTm g)) 0 (t.args.map (sortsTm g)).length=appS g o (t.args.map (sortsTm g)):=by
    unfold cvN appS
    exact ofB_congr fun b _=>by unfold AppB;rw [if_pos ha,if_neg (by simp [hc])]
   rw [e2] at cC
   (have F:=ai @q2 (ai @ha (ai @hc (ai @h0 (ai @ho (ai @encOpr_u @tmz)))));have NN:StopAt 12:=trivial;refine gGn ?_;clear F NN)
   refine gB ?_
   (have F:=@tmz;refine gC (cC) ?_;clear F)
   (have F:=@tmz;refine gR ?_;clear F)
   (have F:=@tmz;refine gG ?_;exact gTd)
 | false =>
  have h3:t.args.length<=3:=by
   rw [hA.nas ha]
   exact (hg.decls o (List.mem_of_getElem? ho)).ar d hA.fst
  have cF:=cF ha (by rw [hsl];exact h3) hss
  cases hc:o.comm with
  | true =>
   have e2:ofB (GiveB g o (t.args.map (sortsTm g))) g.sorts.names.length ||| ofB (GiveB g o (t.args.map (sortsTm g)).reverse) g.sorts.names.length=appS g o (t.args.map (sortsTm g)):=by
    unfold appS
    rw [ofB_or]
    exact ofB_congr fun b _=>by unfold AppB AnyB;rw [if_neg (by simp [ha]),hc];simp
   have hor:=bits_or (small62 (ofB_lt (GiveB g o (t.args.map (sortsTm g))) g.sorts.names.length) hg.sorts.n8) (small62 (ofB_lt (GiveB g o (t.args.map (sortsTm g)).reverse) g.sorts.names.length) hg.sorts.n8)
   rw [e2] at hor
   have cG:=con_l7Apply hg h0 ho (t.args.map (sortsTm g)).reverse (by rw [List.length_reverse];exact hD ha) (by rw [List.length_reverse,hsl];exact h3) (fun s hs=>hss s (List.mem_reverse.1 hs))
   rw [encSgn] at cG
   have hl2:(t.args.map (sortsTm g)).length=2:=by rw [hsl,hA.nas ha];exact h2 (.inr (.inl hc)) d (List.mem_of_getElem? hA.fst)
   clear e2 cB cC hD h2 ih hargs e
   rw [hsl] at hl2
   generalize appS g o (t.args.map (sortsTm g))=V at hor ⊢
   generalize ofB (GiveB g o (t.args.map (sortsTm g))) g.sorts.names.length=V1 at hor cF
   generalize ofB (GiveB g o (t.args.map (sortsTm g)).reverse) g.sorts.names.length=V2 at hor cG
   have hl3:=hsl
   rw [hl2] at hl3 nl
   obtain ⟨s1,s2,hs12⟩:∃ s1 s2,t.args.map (sortsTm g)=[s1,s2]:=by
    match t.args.map (sortsTm g),hl3 with
    | [x,y],_=>exact ⟨x,y,rfl⟩
   rw [hs12] at cF cG nr nl ⊢
   simp only [List.reverse_cons,List.reverse_nil,List.nil_append,List.singleton_append] at cG
   have cG:=con_clipB cG
   have g0:(nR [s1,s2])[0]?=some [.lit (.int .i64 s1)]:=rfl
   have g1:(nR [s1,s2])[1]?=some [.lit (.int .i64 s2)]:=rfl
   (have F:=ai @q2 (ai @ha (ai @hc (ai @h0 (ai @ho (ai @encOpr_u @tmz)))));have NN:StopAt 14:=trivial;refine gGn ?_;clear F NN)
   refine pwp_turn (turn_frzs [5] (by simp only [pz,↓reduceIte,Nat.reduceEqDiff,Nat.reduceAdd,Nat.reduceSub,Nat.reduceMul,Nat.reduceLeDiff,Nat.reduceBEq,Bool.false_eq_true,decide_true,decide_false,Int.reduceLE,Int.reduceToNat,Int.reduceLT,Int.reduceEq,eq_self,Nat.reduceShiftRight,Nat.reduceAnd,Nat.reduceBneDiff,tmz];exact rfl)) fun σ' hσ=>?_
   subst hσ
   refine gB ?_
   (have F:=@tmz;refine gC (cF) ?_;clear F)
   (have F:=ai @nl (ai @nr (ai @g0 (ai @g1 @tmz)));refine gC (cG) ?_;clear F)
   (have F:=ai @hor @tmz;refine gR ?_;clear F)
   (have F:=@tmz;refine gG ?_;exact gTd)
  | false =>
   have e2:ofB (GiveB g o (t.args.map (sortsTm g))) g.sorts.names.length=appS g o (t.args.map (sortsTm g)):=by
    unfold appS
    exact ofB_congr fun b _=>by unfold AppB AnyB;rw [if_neg (by simp [ha]),hc];simp
   rw [e2] at cF
   (have F:=ai @q2 (ai @ha (ai @hc (ai @h0 (ai @ho (ai @encOpr_u @tmz)))));have NN:StopAt 15:=trivial;refine gGn ?_;clear F NN)
   refine gB ?_
   (have F:=@tmz;refine gC (cF) ?_;clear F)
   (have F:=@tmz;refine gR ?_;clear F)
   (have F:=@tmz;refine gG ?_;exact gTd)
end
end Go.Proofs.YtffmjghcpgpfpaaGreatDoor
namespace Go.Proofs.YtffmjghcpgpfpaaGreatDoor
open Go.RowKit
section
variable {g:Sgn}
def RSort (g:Sgn) (b:Nat) (t:Tm) (l:List (ByteArray × Value)) (r:List D) (pm:List Bk):Prop:=∃ l',r=[.one (.lit (.int .i64 (sortsTm g t:Nat)))]∧pm=[mapB b l']∧Memo g l'∧Grew g (sizeTm t) l l'
theorem mb_pin:∀ (b:Nat) (l:List (ByteArray × Value)),pinned (mapB b l)=true:=fun _ _=>rfl
set_option maxHeartbeats 32000000 in
set_option maxRecDepth 100000 in
theorem conP_sortsOf (hg:SgnOk g) (b:Nat):∀ (n:Nat) {t:Tm},sizeTm t < n->sizeTm t<=60->FormOk g t->∀ l,Memo g l->ConP e0 116 [.one (.ptr (encX g (.lit (.map (some b))))),.agg (encTm t)] [mapB b l] (RSort g b t l):=by
 intro n
 induction n with
 | zero=>exact fun {t} h _ _ _ _=>absurd h (by omega)
 | succ n IH =>
 intro t hsz h60 hf l hM
 obtain ⟨hnode,hargs,_⟩:=FormOk_iff.1 hf
 by_cases hop:t.op=-1
 ·have hv:VarOk g t:=hnode.resolve_right fun ⟨o,d,hA⟩=>by have:=hA.lo;omega
  have q1:(t.op < 0)=True:=eq_true (by omega)
  have hgk:=upk_get hg.sorts hv.2.2.1 hv.2.2.2.1
  have hgk:=nR_get hgk.1
  have e:=sortsTm_var (g:=g) hop
  have ul:=nR_len (l:=up g.sorts)
  rw [(up_ok (SortsOk.subsIn hg.sorts.subs)).1] at ul
  have ur:=nR_rows (l:=up g.sorts)
  have i0:0<=t.sort:=hv.2.2.1
  have i1:(t.sort.toNat < g.sorts.names.length)=True:=eq_true (by have:=hv.2.2.2.1;omega)
  have hR:RSort g b t l [.one (.lit (.int .i64 (upk g t.sort:Nat)))] [mapB b l]:=⟨l,by rw [e],rfl,hM,Grew.refl⟩
  clear IH hargs
  unfold nR at ul ur hgk
  refine gIP (ts:=[.slot 4]) [1000] 604463053930783360175611 Tryz.func116 ?_
  (have F:=ai @q1 (ai @i0 (ai @i1 (ai @ul (ai @ur (ai @hgk (ai @encX_u @tmz))))));refine gG ?_;clear F)
  exact (have F:=tmz;gTP (R:=RSort g b t l) [1000] hR (hp:=rfl))
 have q1:(t.op < 0)=False:=eq_false (by
  obtain ⟨o,d,hA⟩:∃ o d,AppOk g t o d:=hnode.resolve_left fun hv=>hop hv.1
  have:=hA.lo;omega)
 obtain ⟨o,d,hA⟩:∃ o d,AppOk g t o d:=hnode.resolve_left fun hv=>hop hv.1
 have cK:=con_keyOf hg hf h60
 refine gIP (ts:=[.slot 4]) [1000] 604463053930783360175611 Tryz.func116 ?_
 (have F:=ai @q1 @tmz;have NN:StopAt 3:=trivial;refine gGn ?_;clear F NN)
 refine gB ?_
 (have F:=@tmz;refine gC (cK) ?_;clear F)
 (have F:=@tmz;refine gR ?_;clear F)
 (have F:=@tmz;have NN:StopAt 4:=trivial;refine gGn ?_;clear F NN)
 refine gB ?_
 (have F:=ai @encX_u @tmz;refine gP 5 ?_;clear F)
 cases hfs:findS l (keyS t) with
 | some v =>
  have hv:=hM t hf v hfs
  subst hv
  have hR:RSort g b t l [.one (.lit (.int .i64 (sortsTm g t:Nat)))] [mapB b l]:=⟨l,rfl,rfl,hM,Grew.refl⟩
  refine (have F:=tmz;gLo 1000 un_mapI un_str zv_int (v:=.int .i64 (sortsTm g t:Nat)) (f:=true) (by rw [hfs];rfl) (by rw [hfs];rfl) ?_)
  (have F:=@tmz;refine gR ?_;clear F)
  (have F:=@tmz;refine gG ?_;clear F)
  exact (have F:=tmz;gTP (R:=RSort g b t l) [1000] hR (hp:=rfl))
 | none =>
 refine (have F:=tmz;gLo 1000 un_mapI un_str zv_int (v:=.int .i64 0) (f:=false) (by rw [hfs];rfl) (by rw [hfs];rfl) ?_)
 have h7:=hA.len7 hg
 have hn0:nR []=[]:=rfl
 have ht0:t.args.take 0=[]:=rfl
 (have F:=@tmz;refine gR ?_;clear F)
 (have F:=@tmz;refine gG ?_;clear F)
 (have F:=ai @hn0 (ai @ht0 @tmz);refine gL (ι:=Nat × List (ByteArray × Value)) [8,10,41,42] [8,1000] (fun x=>[(41,A.d (.one (.lit (.int .i64 x.1)))),(8,.buf 8)]) (fun x=>[(8,.buf none 3 1 (nR ((t.args.take x.1).map (sortsTm g)))),(1000,mapB b x.2)]) (fun x=>x.1<=t.args.length∧Memo g x.2∧Grew g (sizeTm t - 1) l x.2) (fun x=>t.args.length - x.1) ((0,l)) (⟨Nat.zero_le _,hM,Grew.refl⟩) (fun x hx=>?_);clear F)
 obtain ⟨i,l1⟩:=x
 obtain ⟨hi,hM1,hG1⟩:=hx
 simp only at hi hM1 hG1
 dsimp only
 have nl:=nR_len (l:=(t.args.take i).map (sortsTm g))
 rw [List.length_map,List.length_take_of_le hi] at nl
 have nr:=nR_rows (l:=(t.args.take i).map (sortsTm g))
 by_cases hil:i < t.args.length
 ·have q2:((i:Int) < (t.args.length:Int))=True:=eq_true (by omega)
  obtain ⟨a,hai⟩:∃ a,t.args[i]?=some a:=⟨_,List.getElem?_eq_getElem hil⟩
  have ham:=List.mem_of_getElem? hai
  have hs1:=sizeTm_eq t
  have hs2:=sizeTms_mem ham
  have cA:=IH (t:=a) (by omega) (by omega) (hargs a ham) l1 hM1
  have ns:=nR_snoc (l:=(t.args.take i).map (sortsTm g)) (sortsTm g a)
  rw [sorts_snoc hai] at ns
  have hmx:(i+1<=maxApp)=True:=eq_true (by unfold maxApp;omega)
  have hw:=wrap1 (k:=i) (by omega)
  (have F:=ai @q2 (ai @hai (ai @natInt @tmz));have NN:StopAt 11:=trivial;refine gGn ?_;clear F NN)
  refine gB ?_
  (have F:=ai @mb_pin (ai @encX_u (ai @hai (ai @natInt @tmz)));refine gCP [1000] [1000] (hpn:=rfl) (cA) ?_;clear F)
  rintro r pm ⟨l2,rfl,rfl,hM2,hG2⟩
  simp only [setA,retA,zipM,List.cons_append,List.nil_append]
  (have F:=ai @nl (ai @nr (ai @ns (ai @hmx @tmz)));refine gR ?_;clear F)
  (have F:=ai @hw @tmz;refine gG ?_;exact ⟨(i+1,l2),⟨hil,hM2,hG1.trans (hG2.mono (by omega))⟩,gw,gw,by omega⟩)
 obtain rfl:i=t.args.length:=by omega
 have q2:((t.args.length:Int) < (t.args.length:Int))=False:=eq_false (by omega)
 rw [List.take_length] at nl nr ⊢
 clear IH
 have h0:=hA.lo
 have ho:=hA.at'
 have e:=sortsTm_app hop ho
 have hnone:findS l1 (keyS t)=none:=hG1 t hf (by have:=sizeTm_eq t;omega) hfs
 have hR:RSort g b t l [.one (.lit (.int .i64 (sortsTm g t:Nat)))] [mapB b (l1++[(keyS t,.int .i64 (sortsTm g t:Nat))])]:=⟨_,rfl,rfl,hM1.snoc hg hf,(hG1.mono (by omega)).trans (Grew.snoc hg hf)⟩
 have hss:∀ s∈t.args.map (sortsTm g),s < 2 ^ g.sorts.names.length:=fun s hs=>by
  obtain ⟨a,ha,rfl⟩:=List.mem_map.1 hs
  exact sortsTm_lt hg (hargs a ha).node
 have hsl:(t.args.map (sortsTm g)).length=t.args.length:=List.length_map _
 have h3:o.assoc=false->t.args.length<=3:=fun ha=>by
  rw [hA.nas ha]
  exact (hg.decls o (List.mem_of_getElem? ho)).ar d hA.fst
 have hD:=hA.dlen hg
 have h2:=Opr.deg2 hg ho
 have cR:=fun h1 h2=>con_results (mc:=.lit (.map (some b))) hg h0 ho (t.args.map (sortsTm g)) h1 h2 hss
 have cA:=fun h1 h2 h3=>con_combineAny (mc:=.lit (.map (some b))) hg h0 ho h1 h2 (t.args.map (sortsTm g)) h3 (by rw [hsl];exact h7) hss
 have cW:=fun h1 h2 h3=>con_combineRow (mc:=.lit (.map (some b))) hg h0 ho h1 h2 (t.args.map (sortsTm g)) h3 (by rw [hsl];exact h7) hss
 have eR:=any_app hg ho (sets:=t.args.map (sortsTm g))
 rw [hsl] at cR cA cW eR
 have eA:o.assoc=true->o.comm=true->bvN g (Rel2 g o) (t.args.map (sortsTm g)) (2 ^ t.args.length - 1)=sortsTm g t:=fun ha hc=>by
  rw [e]
  unfold bvN appS
  exact ofB_congr fun b _=>by unfold AppB;rw [if_pos ha,if_pos hc,hsl]
 have eC:o.assoc=true->o.comm=false->cvN g o (t.args.map (sortsTm g)) 0 t.args.length=sortsTm g t:=fun ha hc=>by
  rw [e]
  unfold cvN appS
  exact ofB_congr fun b _=>by unfold AppB;rw [if_pos ha,if_neg (by simp [hc]),hsl]
 rw [<- e] at eR
 clear hargs e hss
 by_cases hle:t.args.length<=2
 ·have q3:((t.args.length:Int)<=2)=True:=eq_true (by omega)
  have cR:=cR (by
   cases ha:o.assoc with
   | true=>exact fun f hf=>by rw [h2 (.inl ha) f hf];have:=(hA.asc ha).1;omega
   | false=>exact hD ha) (by omega)
  rw [eR fun ha=>by have:=(hA.asc ha).1;omega] at cR
  (have F:=ai @q2 (ai @q3 (ai @nl (ai @nr @tmz)));have NN:StopAt 16:=trivial;refine gGn ?_;clear F NN)
  refine gB ?_
  (have F:=ai @encX_u @tmz;refine gC (cR) ?_;clear F)
  (have F:=@tmz;refine gR ?_;clear F)
  (have F:=@tmz;have NN:StopAt 19:=trivial;refine gGn ?_;clear F NN)
  refine gB ?_
  (have F:=ai @encX_u @tmz;refine gP 6 ?_;clear F)
  refine (have F:=tmz;gUp 1000 un_mapI un_str hnone ?_)
  (have F:=@tmz;refine gR ?_;clear F)
  (have F:=@tmz;refine gG ?_;clear F)
  exact (have F:=tmz;gTP (R:=RSort g b t l) [1000] hR (hp:=rfl))
 have q3:((t.args.length:Int)<=2)=False:=eq_false (by omega)
 cases ha:o.assoc with
 | false =>
  have cR:=cR (hD ha) (h3 ha)
  rw [eR fun ha'=>by rw [ha] at ha';cases ha'] at cR
  (have F:=ai @q2 (ai @q3 (ai @nl (ai @nr (ai @ha (ai @h0 (ai @ho (ai @encX_u (ai @encOpr_u @tmz))))))));have NN:StopAt 16:=trivial;refine gGn ?_;clear F NN)
  refine gB ?_
  (have F:=ai @encX_u @tmz;refine gC (cR) ?_;clear F)
  (have F:=@tmz;refine gR ?_;clear F)
  (have F:=@tmz;have NN:StopAt 19:=trivial;refine gGn ?_;clear F NN)
  refine gB ?_
  (have F:=ai @encX_u @tmz;refine gP 6 ?_;clear F)
  refine (have F:=tmz;gUp 1000 un_mapI un_str hnone ?_)
  (have F:=@tmz;refine gR ?_;clear F)
  (have F:=@tmz;refine gG ?_;clear F)
  exact (have F:=tmz;gTP (R:=RSort g b t l) [1000] hR (hp:=rfl))
 | true =>
  have h1:1<=t.args.length:=by omega
  cases hc:o.comm with
  | true =>
   have cA:=cA ha hc h1
   rw [eA ha hc] at cA
   (have F:=ai @q2 (ai @q3 (ai @nl (ai @nr (ai @ha (ai @hc (ai @h0 (ai @ho (ai @encX_u (ai @encOpr_u @tmz)))))))));have NN:StopAt 18:=trivial;refine gGn ?_;clear F NN)
   refine gB ?_
   (have F:=ai @encX_u @tmz;refine gC (cA) ?_;clear F)
   (have F:=@tmz;refine gR ?_;clear F)
   (have F:=@tmz;have NN:StopAt 19:=trivial;refine gGn ?_;clear F NN)
   refine gB ?_
   (have F:=ai @encX_u @tmz;refine gP 6 ?_;clear F)
   refine (have F:=tmz;gUp 1000 un_mapI un_str hnone ?_)
   (have F:=@tmz;refine gR ?_;clear F)
   (have F:=@tmz;refine gG ?_;clear F)
   exact (have F:=tmz;gTP (R:=RSort g b t l) [1000] hR (hp:=rfl))
  | false =>
   have cW:=cW ha hc h1
   rw [eC ha hc] at cW
   (have F:=ai @q2 (ai @q3 (ai @nl (ai @nr (ai @ha (ai @hc (ai @h0 (ai @ho (ai @encX_u (ai @encOpr_u @tmz)))))))));have NN:StopAt 14:=trivial;refine gGn ?_;clear F NN)
   refine gB ?_
   (have F:=ai @encX_u @tmz;refine gC (cW) ?_;clear F)
   (have F:=@tmz;refine gR ?_;clear F)
   (have F:=@tmz;have NN:StopAt 19:=trivial;refine gGn ?_;clear F NN)
   refine gB ?_
   (have F:=ai @encX_u @tmz;refine gP 6 ?_;clear F)
   refine (have F:=tmz;gUp 1000 un_mapI un_str hnone ?_)
   (have F:=@tmz;refine gR ?_;clear F)
   (have F:=@tmz;refine gG ?_;clear F)
   exact (have F:=tmz;gTP (R:=RSort g b t l) [1000] hR (hp:=rfl))
end
end Go.Proofs.YtffmjghcpgpfpaaGreatDoor
namespace Go.Proofs.YtffmjghcpgpfpaaGreatDoor
open Go.RowKit
section
variable {g:Sgn}
noncomputable def sortsOf (g:Sgn) (t:Tm):Nat:=if isSgn g=true∧isTerm g t=true then sortsTm g t else 0
theorem con_specSortsOf (hok:okSgn g) {t:Tm} (ht:okTm t) (hb:sizeTm t<=big):Con e0 120 [.agg (encSgn g),.agg (encTm t)] [.one (.lit (.int .i64 ((sortsOf g t:Nat):Int)))]:=by
 have cT:=con_specIsTerm hok ht hb
 unfold sortsOf
 by_cases h:isSgn g=true∧isTerm g t=true
 ·have e:(isSgn g && isTerm g t)=true:=by rw [h.1,h.2];rfl
  have cS:=con_l7Sorts (isSgn_iff.1 h.1) _ (Nat.lt_succ_self _) (isTerm_iff.1 h.2).form
  rw [if_pos h]
  rw [e] at cT
  rw [encSgn] at cT cS ⊢
  refine gI (ts:=[.slot 4]) 287 Tryz.func120 ?_
  (have F:=@tmz;have NN:StopAt 1:=trivial;refine gGn ?_;clear F NN)
  refine gB ?_
  (have F:=@tmz;refine gC (cT) ?_;clear F)
  (have F:=@tmz;refine gR ?_;clear F)
  (have F:=@tmz;have NN:StopAt 3:=trivial;refine gGn ?_;clear F NN)
  refine gB ?_
  (have F:=@tmz;refine gC (cS) ?_;clear F)
  (have F:=@tmz;refine gR ?_;clear F)
  (have F:=@tmz;refine gG ?_;exact gTd)
 ·have e:(isSgn g && isTerm g t)=false:=by
   cases h1:isSgn g with
   | false=>rfl
   | true =>
    cases h2:isTerm g t with
    | false=>rfl
    | true=>exact absurd ⟨h1,h2⟩ h
  have z0:(((0:Nat):Int))=0:=rfl
  rw [if_neg h]
  rw [e] at cT
  rw [encSgn] at cT ⊢
  refine gI (ts:=[.slot 4]) 287 Tryz.func120 ?_
  (have F:=@tmz;have NN:StopAt 1:=trivial;refine gGn ?_;clear F NN)
  refine gB ?_
  (have F:=@tmz;refine gC (cT) ?_;clear F)
  (have F:=@tmz;refine gR ?_;clear F)
  (have F:=ai @z0 @tmz;refine gG ?_;exact gTd)
def RAlg (g:Sgn) (r:List D) (pm:List Bk):Prop:=∃ b:Nat,r=[.one (.ptr (encX g (.lit (.map (some b))))),.one (.lit (.bool true))]∧pm=[mapB b []]
set_option maxHeartbeats 4000000 in
set_option maxRecDepth 100000 in
theorem conP_newAlg (hok:okSgn g) (hg:SgnOk g):ConP e0 49 [.agg (encSgn g)] [] (RAlg g):=by
 have hs:isSgn g=true:=isSgn_true hg
 have c:=con_implSgn hok
 rw [hs,encSgn] at c
 have c2:=con_newOrder hok.1 hg.sorts
 rw [encSrt,encOrd] at c2
 rw [encSgn]
 refine gIP (ts:=[.slot 2,.slot 3]) [] 287 Tryz.func49 ?_
 (have F:=@tmz;have NN:StopAt 1:=trivial;refine gGn ?_;clear F NN)
 refine gB ?_
 (have F:=@tmz;refine gC (c) ?_;clear F)
 (have F:=@tmz;refine gR ?_;clear F)
 (have F:=@tmz;have NN:StopAt 3:=trivial;refine gGn ?_;clear F NN)
 refine gB ?_
 (have F:=@tmz;refine gC (c2) ?_;clear F)
 (have F:=@tmz;refine gR ?_;clear F)
 (have F:=@tmz;have NN:StopAt 4:=trivial;refine gGn ?_;clear F NN)
 refine gB ?_
 (have F:=@tmz;refine gP 2 ?_;clear F)
 refine gMk fun b=>?_
 (have F:=@tmz;refine gR ?_;clear F)
 refine pwp_turn (turn_frzs [19] (by simp only [pz,↓reduceIte,Nat.reduceEqDiff,Nat.reduceAdd,Nat.reduceSub,Nat.reduceMul,Nat.reduceLeDiff,Nat.reduceBEq,Bool.false_eq_true,decide_true,decide_false,Int.reduceLE,Int.reduceToNat,Int.reduceLT,Int.reduceEq,eq_self,Nat.reduceShiftRight,Nat.reduceAnd,Nat.reduceBneDiff,tmz];exact rfl)) fun σ' hσ=>?_
 subst hσ
 exact (have F:=tmz;gTP (R:=RAlg g) [17] ⟨b,rfl,rfl⟩ (hp:=rfl))
end
end Go.Proofs.YtffmjghcpgpfpaaGreatDoor
namespace Go.Proofs.YtffmjghcpgpfpaaGreatDoor
open Go.RowKit
section
variable {g:Sgn} {l:List Bd}
theorem VarOk.term {t:Tm} (h:VarOk g t):TermOk g t:=by
 have ha0:t.args=[]:=h.2.2.2.2
 have hf:FormOk g t:=FormOk_iff.2 ⟨.inl h,(by rw [ha0];intro a ha;cases ha),.inl h.1⟩
 have h1:=sizeTm_eq t
 rw [ha0,sizeTms_u] at h1
 have h2:=depth_size t
 exact ⟨by omega,by omega,hf⟩
theorem TermOk.var {t:Tm} (h:TermOk g t) (ho:t.op=-1):VarOk g t:=h.form.node.resolve_right fun ⟨o,d,hA⟩=>by have:=hA.lo;omega
theorem bd_l:∀ (b:Bd),(encBd b).length=8:=fun b=>by simp [encBd,tmz]
theorem bd_t8:∀ (b:Bd),(encBd b).take 8=encBd b:=fun b=>List.take_of_length_le (by rw [bd_l];omega)
theorem bd_d8:∀ (b:Bd),(encBd b).drop 8=[]:=fun b=>List.drop_eq_nil_of_le (by rw [bd_l];omega)
theorem bd_t4:∀ (b:Bd),(encBd b).take 4=encTm b.var:=fun ⟨v,t⟩=>by cases v;simp [encBd,encTm]
theorem bd_d4:∀ (b:Bd),(encBd b).drop 4=encTm b.to:=fun ⟨v,t⟩=>by cases v;simp [encBd,encTm]
theorem bd_d2:∀ (b:Bd),(encBd b).drop 2=.lit (.int .i64 b.var.sort)::.sl (encTms b.var.args)::encTm b.to:=fun ⟨v,t⟩=>by cases v;simp [encBd,encTm,Tm.sort,Tm.args]
theorem bd_o:∀ (b:Bd),valT TK.one (encBd b)=some (A.d (D.one (C.lit (Value.int IntKind.i64 b.var.op)))):=fun ⟨v,t⟩=>by cases v;simp [encBd,encTm,Tm.op,valT]
theorem bd_k:∀ (b:Bd),(encBd b).all okCell=true:=fun b=>by simp [encBd,List.all_append,tmz]
theorem bdz:type_of% (ai bd_l (ai bd_t8 (ai bd_d8 (ai bd_t4 (ai bd_d4 (ai bd_d2 (ai bd_o bd_k))))))):=ai bd_l (ai bd_t8 (ai bd_d8 (ai bd_t4 (ai bd_d4 (ai bd_d2 (ai bd_o bd_k))))))
set_option maxHeartbeats 32000000 in
set_option maxRecDepth 100000 in
theorem con_specSub (hok:okSgn g) (hl:okBds l) (hv:∀ y∈l,sizeTm y.var<=big) (ht:∀ y∈l,sizeTm y.to<=big):Con e0 64 [.agg (encSgn g),.one (.sl (encBds l))] [.one (.lit (.bool (isSgn g && isSub g l)))]:=by
 have cS:=con_specSgn hok
 have bl:=encBds_len l
 have bg:=encBds_get l
 have hT:=fun y (hy:y∈l)=>con_specIsTerm hok (hl y hy).1 (hv y hy)
 have hO:=fun y (hy:y∈l)=>con_specSortsOf hok (hl y hy).2 (ht y hy)
 have hC:=fun y z (hy:y∈l) (hz:z∈l)=>con_specCmp (hl y hy).1 (hl z hz).1
 rw [encSgn] at cS hT hO ⊢
 have bb:rowsB 8 (encBds l)=true:=by
  refine List.all_eq_true.2 fun r hr=>?_
  obtain ⟨y,hy,rfl⟩:=List.mem_map.1 hr
  simp [encBd,List.all_append,tmz]
 refine gI (ts:=[.slot 4]) 1152991873351303287 Tryz.func64 ?_
 (have F:=@tmz;have NN:StopAt 1:=trivial;refine gGn ?_;clear F NN)
 refine gB ?_
 (have F:=@tmz;refine gC (cS) ?_;clear F)
 cases hs:isSgn g with
 | false =>
  (have F:=@tmz;refine gR ?_;clear F)
  (have F:=@tmz;refine gG ?_;exact gTd)
 | true =>
 rw [Bool.true_and]
 by_cases h8:l.length<=8
 rotate_left
 ·have q1:((8:Int) < (l.length:Int))=True:=eq_true (by omega)
  have hf:isSub g l=false:=isSub_false fun h=>h8 h.len
  rw [hf]
  (have F:=ai @bl (ai @q1 @tmz);refine gR ?_;clear F)
  (have F:=@tmz;refine gG ?_;exact gTd)
 have q1:((8:Int) < (l.length:Int))=False:=eq_false (by omega)
 (have F:=ai @bl (ai @q1 @tmz);refine gR ?_;clear F)
 (have F:=@tmz;refine gG ?_;clear F)
 (have F:=@tmz;refine gL (ι:=Nat) [4,5,6,18,46,60] [] (fun i=>[(5,A.d (.one (.lit (.int .i64 i))))]) (fun i=>[]) (fun i=>i<=l.length∧∀ (j:Nat) y,j < i->l[j]?=some y->SbsAt g l j y) (fun i=>l.length - i) (0) (⟨Nat.zero_le _,fun j y h=>absurd h (by omega)⟩) (fun i hi=>?_);clear F)
 obtain ⟨hi,hall⟩:=hi
 by_cases hil:i < l.length
 rotate_left
 ·obtain rfl:i=l.length:=by omega
  have q2:((l.length:Int) < (l.length:Int))=False:=eq_false (by omega)
  have hf:isSub g l=true:=isSub_true ⟨h8,fun j y hj=>hall j y (List.getElem?_eq_some_iff.1 hj).1 hj⟩
  rw [hf]
  (have F:=ai @q2 (ai @bl @tmz);refine gG ?_;exact gTd)
 have q2:((i:Int) < (l.length:Int))=True:=eq_true (by omega)
 obtain ⟨y,hy⟩:∃ y,l[i]?=some y:=⟨_,List.getElem?_eq_getElem hil⟩
 have hym:=List.mem_of_getElem? hy
 have hbad:¬ SbsAt g l i y->isSub g l=false:=fun h=>isSub_false fun h'=>h (h'.at' i y hy)
 have cT:=hT y hym
 have cO:=hO y hym
 rw [hs,Bool.true_and] at cT
 (have F:=ai @q2 (ai @bl (ai @bb (ai @bg (ai @hy (ai @bdz (ai @natInt @tmz))))));have NN:StopAt 7:=trivial;refine gGn ?_;clear F NN)
 by_cases hop:y.var.op=-1
 rotate_left
 ·have q3:(y.var.op=-1)=False:=eq_false hop
  have hf:=hbad fun h=>hop h.var.1
  rw [hf]
  (have F:=ai @q3 (ai @bdz @tmz);refine gG ?_;exact gTd)
 have q3:(y.var.op=-1)=True:=eq_true hop
 refine gB ?_
 (have F:=ai @q3 (ai @bdz @tmz);refine gC (cT) ?_;clear F)
 by_cases hTv:isTerm g y.var=true
 rotate_left
 ·have hf:=hbad fun h=>hTv (isTerm_true h.var.term)
  have hTv:isTerm g y.var=false:=by simpa using hTv
  rw [hf,hTv]
  (have F:=ai @bdz @tmz;refine gR ?_;clear F)
  (have F:=@tmz;refine gG ?_;exact gTd)
 have hvo:=(isTerm_iff.1 hTv).var hop
 have hg:=isSgn_iff.1 hs
 rw [hTv]
 (have F:=ai @bdz @tmz;refine gC (cO) ?_;clear F)
 obtain ⟨k,hk⟩:∃ k:Nat,y.var.sort=k:=⟨y.var.sort.toNat,by have:=hvo.2.2.1;omega⟩
 have hk8:k < 8:=by have:=hvo.2.2.2.1;have:=hg.sorts.n8;omega
 have hso:sortsOf g y.to < 4611686018427387904:=by
  unfold sortsOf
  split
  ·next h=>exact small62 (sortsTm_lt hg (isTerm_iff.1 h.2).form.node) hg.sorts.n8
  ·omega
 have cH:=con_l2Has (k:=k) hso (by omega)
 have hte:tbit (sortsOf g y.to) k=true ↔ TermOk g y.to∧(sortsTm g y.to).testBit y.var.sort.toNat=true:=by
  have e:y.var.sort.toNat=k:=by omega
  rw [tbit,e]
  unfold sortsOf
  by_cases h:isTerm g y.to=true
  ·rw [if_pos ⟨hs,h⟩]
   exact ⟨fun h1=>⟨isTerm_iff.1 h,h1⟩,fun h1=>h1.2⟩
  ·rw [if_neg fun h1=>h h1.2,Nat.zero_testBit]
   exact ⟨fun h1=>(by cases h1),fun h1=>absurd (isTerm_true h1.1) h⟩
 rw [<- hk] at cH
 (have F:=ai @bdz @tmz;refine gC (cH) ?_;clear F)
 cases hb:tbit (sortsOf g y.to) k with
 | false =>
  have hf:=hbad fun h=>by rw [hte.2 ⟨h.to',h.srt⟩] at hb;cases hb
  rw [hf]
  (have F:=ai @bdz @tmz;refine gR ?_;clear F)
  (have F:=@tmz;refine gG ?_;exact gTd)
 | true =>
 obtain ⟨b1,b2⟩:=hte.1 hb
 (have F:=ai @bdz @tmz;refine gR ?_;clear F)
 have hwi:=wrap1 (k:=i) (by omega)
 have hnext:(∀ (j:Nat) p,i=j+1->l[j]?=some p->cmpTm p.var y.var < 0)->i+1<=l.length∧∀ (j:Nat) z,j < i+1->l[j]?=some z->SbsAt g l j z:=fun ho=>⟨hil,fun j z h1 h2=>by
  by_cases e:j=i
  ·subst e
   rw [hy] at h2
   injection h2 with h2
   subst h2
   exact ⟨hvo,ho,b1,b2⟩
  ·exact hall j z (by omega) h2⟩
 by_cases hi0:i=0
 ·subst hi0
  have q4:((0:Int) < ((0:Nat):Int))=False:=eq_false (by omega)
  (have F:=ai @q4 (ai @hwi (ai @bdz @tmz));refine gG ?_;exact ⟨0+1,hnext fun j p h=>absurd h (by omega),gw,gw,by omega⟩)
 obtain ⟨j,rfl⟩:∃ j,i=j+1:=⟨i - 1,by omega⟩
 have q4:((0:Int) < ((j+1:Nat):Int))=True:=eq_true (by omega)
 obtain ⟨p,hp⟩:∃ p,l[j]?=some p:=⟨_,List.getElem?_eq_getElem (by omega)⟩
 have cC:=hC p y (List.mem_of_getElem? hp) hym
 have wj:IntKind.i64.wrap (((j+1:Nat):Int) - 1)=(j:Int):=wrapN (by omega) (by omega) (by omega)
 have i1:(j < l.length)=True:=eq_true (by omega)
 (have F:=@tmz;have NN:StopAt 9:=trivial;refine gGn ?_;clear F NN)
 refine gB ?_
 (have F:=ai @q4 (ai @wj (ai @i1 (ai @bl (ai @bb (ai @bg (ai @hp (ai @bdz (ai @natInt @tmz))))))));refine gC (cC) ?_;clear F)
 by_cases hcm:cmpTm p.var y.var < 0
 ·have q5:((0:Int)<=cmpTm p.var y.var)=False:=eq_false (by omega)
  have hn2:=hnext fun j' p' h h1=>by
   obtain rfl:j=j':=by omega
   rw [hp] at h1
   injection h1 with h1
   subst h1
   exact hcm
  (have F:=ai @q5 (ai @bdz @tmz);refine gR ?_;clear F)
  (have F:=ai @hwi (ai @bdz @tmz);refine gG ?_;exact ⟨j+1+1,hn2,gw,gw,by omega⟩)
 ·have q5:((0:Int)<=cmpTm p.var y.var)=True:=eq_true (by omega)
  have hf:=hbad fun h=>hcm (h.ord j p rfl hp)
  rw [hf]
  (have F:=ai @q5 (ai @bdz @tmz);refine gR ?_;clear F)
  (have F:=@tmz;refine gG ?_;exact gTd)
end
end Go.Proofs.YtffmjghcpgpfpaaGreatDoor
namespace Go.Proofs.YtffmjghcpgpfpaaGreatDoor
open Go.RowKit
theorem VarOk.eq_iff {g:Sgn} {a b:Tm} (ha:VarOk g a) (hb:VarOk g b):cmpTm a b=0 ↔ a.name=b.name∧a.sort=b.sort:=by
 rw [cmpTm_iff]
 obtain ⟨h1,_,_,_,h2⟩:=ha
 obtain ⟨h3,_,_,_,h4⟩:=hb
 obtain ⟨o,n,s,l⟩:=a
 obtain ⟨o',n',s',l'⟩:=b
 simp only [Tm.op,Tm.args] at h1 h2 h3 h4
 subst h1 h2 h3 h4
 simp [Tm.name,Tm.sort]
section
variable {g:Sgn} {l:List Bd}
theorem bd_d1:∀ (b:Bd),(encBd b).drop 1=.lit (.string b.var.name)::.lit (.int .i64 b.var.sort)::.sl (encTms b.var.args)::encTm b.to:=fun ⟨v,t⟩=>by cases v;simp [encBd,encTm,Tm.sort,Tm.args,Tm.name]
theorem bds8 (l:List Bd):rowsB 8 (encBds l)=true:=by
 refine List.all_eq_true.2 fun r hr=>?_
 obtain ⟨y,hy,rfl⟩:=List.mem_map.1 hr
 simp [encBd,List.all_append,tmz]
theorem look_drop {l:List Bd} {i:Nat} {y:Bd} (h:l[i]?=some y) (v:Tm):lookT (l.drop i) v=if cmpTm y.var v=0 then some y.to else lookT (l.drop (i+1)) v:=by
 obtain ⟨hi,rfl⟩:=List.getElem?_eq_some_iff.1 h
 rw [List.drop_eq_getElem_cons hi];rfl
set_option maxHeartbeats 4000000 in
set_option maxRecDepth 100000 in
theorem con_boundTo (hl:∀ y∈l,VarOk g y.var) (h8:l.length<=8) {v:Tm} (hv:VarOk g v):Con e0 117 [.one (.sl (encBds l)),.agg (encTm v)] [.agg (encTm ((lookT l v).getD v)),.one (.lit (.bool (lookT l v).isSome))]:=by
 have bl:=encBds_len l
 have bg:=encBds_get l
 have bb:=bds8 l
 refine gI (ts:=[.cell 4 46,.slot 5]) 134221755 Tryz.func117 ?_
 (have F:=ai @bl @tmz;refine gG ?_;clear F)
 (have F:=@tmz;refine gL (ι:=Nat) [5,7,10,11,27] [] (fun i=>[(10,A.d (.one (.lit (.int .i64 i))))]) (fun i=>[]) (fun i=>i<=l.length∧lookT (l.drop i) v=lookT l v) (fun i=>l.length - i) (0) (⟨Nat.zero_le _,rfl⟩) (fun i hi=>?_);clear F)
 obtain ⟨hi,hlo⟩:=hi
 by_cases hil:i < l.length
 rotate_left
 ·obtain rfl:i=l.length:=by omega
  have q2:((l.length:Int) < (l.length:Int))=False:=eq_false (by omega)
  rw [List.drop_length] at hlo
  have e:lookT l v=none:=hlo.symm
  rw [e]
  have z1:(none:Option Tm).getD v=v:=rfl
  (have F:=ai @q2 (ai @z1 @tmz);refine gG ?_;exact gTd)
 have q2:((i:Int) < (l.length:Int))=True:=eq_true (by omega)
 obtain ⟨y,hy⟩:∃ y,l[i]?=some y:=⟨_,List.getElem?_eq_getElem hil⟩
 rw [look_drop hy] at hlo
 have hyv:=hl y (List.mem_of_getElem? hy)
 have hwi:=wrap1 (k:=i) (by omega)
 have he:=VarOk.eq_iff hyv hv
 by_cases h1:y.var.name=v.name
 rotate_left
 ·have q3:(y.var.name.toList==v.name.toList)=false:=beq_eq_false_iff_ne.2 fun h=>h1 (toList_inj h)
  rw [if_neg (fun h=>h1 (he.1 h).1)] at hlo
  (have F:=ai @q2 (ai @q3 (ai @hwi (ai @bl (ai @bb (ai @bg (ai @hy (ai @bdz (ai @bd_d1 (ai @natInt @tmz)))))))));refine gG ?_;exact ⟨i+1,⟨hil,hlo⟩,gw,gw,by omega⟩)
 have q3:(y.var.name.toList==v.name.toList)=true:=by rw [h1];exact beq_self_eq_true _
 by_cases h2:y.var.sort=v.sort
 rotate_left
 ·have q4:(y.var.sort=v.sort)=False:=eq_false h2
  rw [if_neg (fun h=>h2 (he.1 h).2)] at hlo
  (have F:=ai @q2 (ai @q3 (ai @q4 (ai @hwi (ai @bl (ai @bb (ai @bg (ai @hy (ai @bdz (ai @bd_d1 (ai @natInt @tmz))))))))));refine gG ?_;exact ⟨i+1,⟨hil,hlo⟩,gw,gw,by omega⟩)
 have q4:(y.var.sort=v.sort)=True:=eq_true h2
 rw [if_pos (he.2 ⟨h1,h2⟩)] at hlo
 rw [<- hlo]
 have z1:(some y.to).getD v=y.to:=rfl
 (have F:=ai @q2 (ai @q3 (ai @q4 (ai @z1 (ai @bl (ai @bb (ai @bg (ai @hy (ai @bdz (ai @bd_d1 (ai @natInt @tmz))))))))));refine gG ?_;exact gTd)
set_option maxHeartbeats 4000000 in
set_option maxRecDepth 100000 in
theorem con_l9Get (hl:okBds l) {v:Tm} (hv:okTm v) (h8:l.length<=1000):Con e0 76 [.one (.sl (encBds l)),.agg (encTm v)] [.agg (encTm ((lookT l v).getD zTm)),.one (.lit (.bool (lookT l v).isSome))]:=by
 have bl:=encBds_len l
 have bg:=encBds_get l
 have bb:=bds8 l
 have hz:=zTm_u
 refine gI (ts:=[.cell 4 46,.slot 5]) 525435 Tryz.func76 ?_
 (have F:=ai @bl @tmz;refine gG ?_;clear F)
 (have F:=@tmz;refine gL (ι:=Nat) [5,6,10,19] [] (fun i=>[(6,A.d (.one (.lit (.int .i64 i))))]) (fun i=>[]) (fun i=>i<=l.length∧lookT (l.drop i) v=lookT l v) (fun i=>l.length - i) (0) (⟨Nat.zero_le _,rfl⟩) (fun i hi=>?_);clear F)
 obtain ⟨hi,hlo⟩:=hi
 by_cases hil:i < l.length
 rotate_left
 ·obtain rfl:i=l.length:=by omega
  have q2:((l.length:Int) < (l.length:Int))=False:=eq_false (by omega)
  rw [List.drop_length] at hlo
  have e:lookT l v=none:=hlo.symm
  rw [e]
  have z1:(none:Option Tm).getD zTm=zTm:=rfl
  (have F:=ai @q2 (ai @z1 (ai @hz (ai @bl @tmz)));refine gG ?_;exact gTd)
 have q2:((i:Int) < (l.length:Int))=True:=eq_true (by omega)
 obtain ⟨y,hy⟩:∃ y,l[i]?=some y:=⟨_,List.getElem?_eq_getElem hil⟩
 rw [look_drop hy] at hlo
 have hwi:=wrap1 (k:=i) (by omega)
 have cS:=con_l5Same (hl y (List.mem_of_getElem? hy)).1 hv
 (have F:=ai @q2 (ai @bl @tmz);have NN:StopAt 4:=trivial;refine gGn ?_;clear F NN)
 refine gB ?_
 (have F:=ai @bl (ai @bb (ai @bg (ai @hy (ai @bdz (ai @natInt @tmz)))));refine gC (cS) ?_;clear F)
 by_cases h1:cmpTm y.var v=0
 rotate_left
 ·have q3:decide (cmpTm y.var v=0)=false:=decide_eq_false h1
  rw [if_neg h1] at hlo
  rw [q3]
  (have F:=@tmz;refine gR ?_;clear F)
  (have F:=ai @hwi (ai @bdz @tmz);refine gG ?_;exact ⟨i+1,⟨hil,hlo⟩,gw,gw,by omega⟩)
 have q3:decide (cmpTm y.var v=0)=true:=decide_eq_true h1
 rw [if_pos h1] at hlo
 rw [q3,<- hlo]
 have z1:(some y.to).getD zTm=y.to:=rfl
 (have F:=@tmz;refine gR ?_;clear F)
 (have F:=ai @z1 (ai @bl (ai @bb (ai @bg (ai @hy (ai @bdz (ai @natInt @tmz))))));refine gG ?_;exact gTd)
theorem SbsOk.okB (hg:SgnOk g) (h:SbsOk g l):okBds l:=fun y hy=>⟨FormOk.ok hg _ _ (Nat.lt_succ_self _) (h.var y hy).term.form,FormOk.ok hg _ _ (Nat.lt_succ_self _) (h.to' y hy).form⟩
noncomputable def ap6 (g:Sgn) (l:List Bd) (t:Tm):Tm:=if t.op=-1 then (lookT l t).getD t else match apTs g l t.args with
 | none=>zTm
 | some us=>match g.ops[t.op.toNat]? with
  | none=>zTm
  | some o=>match o.decls[0]? with
   | none=>zTm
   | some d=>mk6 g o d t.op us
theorem ap6_var {t:Tm} (h:t.op=-1):ap6 g l t=(lookT l t).getD t:=by unfold ap6;rw [if_pos h]
theorem ap6_none {t:Tm} (h:t.op≠-1) (hn:apTs g l t.args=none):ap6 g l t=zTm:=by unfold ap6;rw [if_neg h,hn]
theorem ap6_app {t:Tm} {us:List Tm} {o:Opr} {d:Dcl} (h:t.op≠-1) (hu:apTs g l t.args=some us) (ho:g.ops[t.op.toNat]?=some o) (hd:o.decls[0]?=some d):ap6 g l t=mk6 g o d t.op us:=by
 unfold ap6
 rw [if_neg h,hu]
 simp only [ho,hd]
theorem ap6_some {t u:Tm} (h:apT g l t=some u):ap6 g l t=u:=by
 by_cases ho:t.op=-1
 ·rw [apT_var ho,Option.some.injEq] at h
  rw [ap6_var ho,h]
 ·rw [apT_app ho] at h
  unfold ap6
  rw [if_neg ho]
  cases h1:apTs g l t.args with
  | none=>rw [h1] at h;cases h
  | some us =>
   rw [h1,Option.bind_some] at h
   unfold mkT at h
   cases h2:g.ops[t.op.toNat]? with
   | none=>rw [h2] at h;cases h
   | some o =>
    rw [h2] at h
    simp only at h ⊢
    cases h3:o.decls[0]? with
    | none=>rw [h3] at h;cases h
    | some d =>
     rw [h3] at h
     simp only at h ⊢
     unfold mk6
     rw [h];rfl
set_option maxHeartbeats 8000000 in
set_option maxRecDepth 100000 in
theorem con_apply {mc:C} (hg:SgnOk g) (hS:SbsOk g l):∀ (n:Nat) {t:Tm},sizeTm t < n->TermOk g t->Con e0 61 [.one (.ptr (encX g mc)),.one (.sl (encBds l)),.agg (encTm t)] [.agg (encTm ((apT g l t).getD zTm)),.one (.lit (.bool (apT g l t).isSome))]:=by
 intro n
 induction n with
 | zero=>exact fun {t} h _=>absurd h (by omega)
 | succ n IH =>
 intro t hsz ht
 have hz:=zTm_u
 have h60:=args_len ht
 by_cases hop:t.op=-1
 ·have hv:=ht.var hop
  have q1:(t.op < 0)=True:=eq_true (by omega)
  have cB:=con_boundTo hS.var hS.len hv
  have z1:(some ((lookT l t).getD t)).getD zTm=(lookT l t).getD t:=rfl
  have z2:(some ((lookT l t).getD t)).isSome=true:=rfl
  rw [apT_var hop]
  refine gI (ts:=[.cell 6 46,.slot 7]) 2201036682727 Tryz.func61 ?_
  (have F:=ai @q1 @tmz;have NN:StopAt 2:=trivial;refine gGn ?_;clear F NN)
  refine gB ?_
  (have F:=@tmz;refine gC (cB) ?_;clear F)
  (have F:=@tmz;refine gR ?_;clear F)
  (have F:=ai @z1 (ai @z2 @tmz);refine gG ?_;exact gTd)
 obtain ⟨o,d,hA⟩:=ht.form.node.resolve_left (fun hv=>hop hv.1)
 have q1:(t.op < 0)=False:=eq_false (by have:=hA.lo;omega)
 have cB:=fun us h1 h2=>con_build (mc:=mc) hg hA.lo hA.at' hA.fst us h1 h2
 refine gI (ts:=[.cell 6 46,.slot 7]) 2201036682727 Tryz.func61 ?_
 (have F:=ai @q1 @tmz;refine gG ?_;clear F)
 (have F:=ai @encTms_nil @tmz;refine gL (ι:=Nat × List Tm) [7,10,12,13,14,29,30,41] [10] (fun x=>[(29,A.d (.one (.lit (.int .i64 x.1)))),(10,.buf 10)]) (fun x=>[(10,.buf none 46 4 (encTms x.2))]) (fun x=>x.1<=t.args.length∧apTs g l (t.args.take x.1)=some x.2) (fun x=>t.args.length - x.1) ((0,[])) (⟨Nat.zero_le _,rfl⟩) (fun x hx=>?_);clear F)
 obtain ⟨i,us⟩:=x
 obtain ⟨hi,hus⟩:=hx
 simp only at hi hus
 dsimp only
 have hul:=apTs_len hus
 rw [List.length_take_of_le hi] at hul
 have nl:=encTms_len us
 have nr:rowsB 4 (encTms us)=true:=rb_tm _
 by_cases hil:i < t.args.length
 rotate_left
 ·obtain rfl:i=t.args.length:=by omega
  have q2:((t.args.length:Int) < (t.args.length:Int))=False:=eq_false (by omega)
  rw [List.take_length] at hus
  have e:apT g l t=mkO g o d t.op us:=by rw [apT_app hop,hus];exact mkT_eq hA.at' hA.fst us
  have cB:=cB us (fun u hu=>by
   obtain ⟨a,ha,hau⟩:=apTs_get hus u hu
   exact apT_ok hg hS.to' _ a (Nat.lt_succ_self _) (ht.arg ha) hau) (by omega)
  rw [e]
  (have F:=ai @q2 @tmz;have NN:StopAt 13:=trivial;refine gGn ?_;clear F NN)
  refine gB ?_
  (have F:=@tmz;refine gC (cB) ?_;clear F)
  (have F:=@tmz;refine gR ?_;clear F)
  (have F:=@tmz;refine gG ?_;exact gTd)
 have q2:((i:Int) < (t.args.length:Int))=True:=eq_true (by omega)
 obtain ⟨a,ha⟩:∃ a,t.args[i]?=some a:=⟨_,List.getElem?_eq_getElem hil⟩
 have ham:=List.mem_of_getElem? ha
 have hs1:=sizeTm_eq t
 have hs2:=sizeTms_mem ham
 have cA:=IH (t:=a) (by omega) (ht.arg ham)
 have hwi:=wrap1 (k:=i) (by omega)
 have hmx:(us.length+1<=maxApp)=True:=eq_true (by unfold maxApp;omega)
 have hsn:apTs g l (t.args.take (i+1))=(apT g l a).map fun u=>us++[u]:=by rw [take_snoc_of ha,apTs_snoc,hus];rfl
 (have F:=ai @q2 (ai @ha (ai @natInt @tmz));have NN:StopAt 8:=trivial;refine gGn ?_;clear F NN)
 refine gB ?_
 (have F:=ai @ha (ai @natInt @tmz);refine gC (cA) ?_;clear F)
 (have F:=@tmz;refine gR ?_;clear F)
 cases hu:apT g l a with
 | none =>
  have z3:(none:Option Tm).isSome=false:=rfl
  have z5:(none:Option Tm).getD zTm=zTm:=rfl
  have e:apTs g l t.args=none:=apTs_none ham hu
  have e2:apT g l t=none:=by rw [apT_app hop,e];rfl
  rw [e2]
  (have F:=ai @z3 (ai @z5 (ai @hz @tmz));refine gG ?_;exact gTd)
 | some u =>
  have z3:(some u).isSome=true:=rfl
  have z5:(some u).getD zTm=u:=rfl
  rw [hu] at hsn
  have ns:encTms us++[encTm u]=encTms (us++[u]):=by simp [encTms_eq]

  (have F:=ai @z3 (ai @z5 (ai @nl (ai @nr (ai @ns (ai @hmx (ai @hwi @tmz))))));refine gG ?_;exact ⟨(i+1,us++[u]),⟨hil,hsn⟩,gw,gw,by omega⟩)
set_option maxHeartbeats 8000000 in
set_option maxRecDepth 100000 in
theorem con_l9Apply (hokg:okSgn g) (hg:SgnOk g) (hS:SbsOk g l):∀ (n:Nat) {t:Tm},sizeTm t < n->TermOk g t->Con e0 65 [.agg (encSgn g),.one (.sl (encBds l)),.agg (encTm t)] [.agg (encTm (ap6 g l t)),.one (.lit (.bool (apT g l t).isSome))]:=by
 intro n
 induction n with
 | zero=>exact fun {t} h _=>absurd h (by omega)
 | succ n IH =>
 intro t hsz ht
 have hz:=zTm_u
 have h60:=args_len ht
 have hok2:=FormOk.ok hg _ t (Nat.lt_succ_self _) ht.form
 have hokB:okBds l:=SbsOk.okB hg hS
 by_cases hop:t.op=-1
 ·have q1:(t.op=-1)=True:=eq_true hop
  have cB:=con_l9Get hokB hok2 (by have:=hS.len;omega)
  have z2:(some ((lookT l t).getD t)).isSome=true:=rfl
  rw [ap6_var hop,apT_var hop]
  rw [encSgn] at *
  refine gI (ts:=[.cell 6 46,.slot 7]) 70370900131823 Tryz.func65 ?_
  (have F:=ai @q1 @tmz;have NN:StopAt 2:=trivial;refine gGn ?_;clear F NN)
  refine gB ?_
  (have F:=@tmz;refine gC (cB) ?_;clear F)
  (have F:=@tmz;refine gR ?_;clear F)
  cases hk:lookT l t with
  | none =>
   have z1:(none:Option Tm).getD t=t:=rfl
   have z3:(none:Option Tm).isSome=false:=rfl
   rw [hk] at z2
   (have F:=ai @z1 (ai @z2 (ai @z3 @tmz));refine gG ?_;exact gTd)
  | some u =>
   have z1:(some u).getD t=u:=rfl
   have z3:(some u).isSome=true:=rfl
   have z4:(some u).getD zTm=u:=rfl
   rw [hk] at z2
   (have F:=ai @z1 (ai @z2 (ai @z3 (ai @z4 @tmz)));refine gG ?_;exact gTd)
 obtain ⟨o,d,hA⟩:=ht.form.node.resolve_left (fun hv=>hop hv.1)
 have q1:(t.op=-1)=False:=eq_false hop
 have cB:=fun us h1 h2=>con_l6Make hokg hg hA.lo hA.at' hA.fst us h1 h2
 rw [encSgn] at *
 refine gI (ts:=[.cell 6 46,.slot 7]) 70370900131823 Tryz.func65 ?_
 (have F:=ai @q1 @tmz;refine gG ?_;clear F)
 (have F:=ai @encTms_nil @tmz;refine gL (ι:=Nat × List Tm) [7,10,11,12,13,31,46] [10] (fun x=>[(11,A.d (.one (.lit (.int .i64 x.1)))),(10,.buf 10)]) (fun x=>[(10,.buf none 46 4 (encTms x.2))]) (fun x=>x.1<=t.args.length∧apTs g l (t.args.take x.1)=some x.2) (fun x=>t.args.length - x.1) ((0,[])) (⟨Nat.zero_le _,rfl⟩) (fun x hx=>?_);clear F)
 obtain ⟨i,us⟩:=x
 obtain ⟨hi,hus⟩:=hx
 simp only at hi hus
 dsimp only
 have hul:=apTs_len hus
 rw [List.length_take_of_le hi] at hul
 have nl:=encTms_len us
 have nr:rowsB 4 (encTms us)=true:=rb_tm _
 by_cases hil:i < t.args.length
 rotate_left
 ·obtain rfl:i=t.args.length:=by omega
  have q2:((t.args.length:Int) < (t.args.length:Int))=False:=eq_false (by omega)
  rw [List.take_length] at hus
  have e:apT g l t=mkO g o d t.op us:=by rw [apT_app hop,hus];exact mkT_eq hA.at' hA.fst us
  have cB:=cB us (fun u hu=>by
   obtain ⟨a,ha,hau⟩:=apTs_get hus u hu
   exact apT_ok hg hS.to' _ a (Nat.lt_succ_self _) (ht.arg ha) hau) (by omega)
  rw [e,ap6_app hop hus hA.at' hA.fst]
  (have F:=ai @q2 @tmz;have NN:StopAt 14:=trivial;refine gGn ?_;clear F NN)
  refine gB ?_
  (have F:=@tmz;refine gC (cB) ?_;clear F)
  (have F:=@tmz;refine gR ?_;clear F)
  (have F:=@tmz;refine gG ?_;exact gTd)
 have q2:((i:Int) < (t.args.length:Int))=True:=eq_true (by omega)
 obtain ⟨a,ha⟩:∃ a,t.args[i]?=some a:=⟨_,List.getElem?_eq_getElem hil⟩
 have ham:=List.mem_of_getElem? ha
 have hs1:=sizeTm_eq t
 have hs2:=sizeTms_mem ham
 have cA:=IH (t:=a) (by omega) (ht.arg ham)
 have hwi:=wrap1 (k:=i) (by omega)
 have hmx:(us.length+1<=maxApp)=True:=eq_true (by unfold maxApp;omega)
 have hsn:apTs g l (t.args.take (i+1))=(apT g l a).map fun u=>us++[u]:=by rw [take_snoc_of ha,apTs_snoc,hus];rfl
 (have F:=ai @q2 (ai @ha (ai @natInt @tmz));have NN:StopAt 10:=trivial;refine gGn ?_;clear F NN)
 refine gLt 11 10 12 ?_
 (have F:=ai @ha (ai @natInt @tmz);refine gC (cA) ?_;clear F)
 (have F:=@tmz;refine gR ?_;clear F)
 cases hu:apT g l a with
 | none =>
  have z3:(none:Option Tm).isSome=false:=rfl
  have z5:(none:Option Tm).getD zTm=zTm:=rfl
  have e:apTs g l t.args=none:=apTs_none ham hu
  have e2:apT g l t=none:=by rw [apT_app hop,e];rfl
  rw [e2,ap6_none hop e]
  (have F:=ai @z3 (ai @z5 (ai @hz @tmz));refine gG ?_;exact gTd)
 | some u =>
  have z3:(some u).isSome=true:=rfl
  have z5:ap6 g l a=u:=ap6_some hu
  rw [hu] at hsn
  have ns:encTms us++[encTm u]=encTms (us++[u]):=by simp [encTms_eq]
  rw [z5]
  (have F:=ai @z3 (ai @z5 (ai @nl (ai @nr (ai @ns (ai @hmx (ai @hwi @tmz))))));refine gG ?_;exact ⟨(i+1,us++[u]),⟨hil,hsn⟩,gw,gw,by omega⟩)
end
end Go.Proofs.YtffmjghcpgpfpaaGreatDoor
namespace Go.Proofs.YtffmjghcpgpfpaaGreatDoor
open Go.RowKit
section
variable {g:Sgn} {b:Nat}
def memoG (g:Sgn) (b:Nat) (w:World):Prop:=(∀ c,c=b->¬ e0.E c)∧∃ M,Memo g M∧MapL w b M
noncomputable def eM (g:Sgn) (b:Nat):Env:=e0.plus (fun c=>c=b) (memoG g b)
theorem eMP:∀ (g:Sgn) (b:Nat),(eM g b).P=Tryz.prog:=fun _ _=>rfl
theorem memo_fits:Fits e0 (fun c=>c=b) (memoG g b):=⟨fun w w' hz hE ⟨h1,M,h2,h3⟩=>⟨h1,M,h2,MapL.stable b M w w' hz hE h3⟩,fun w h=>h.1⟩
theorem eM_ok:(eM g b).Ok:=memo_fits.ok e0_ok
theorem Con.m {f:FuncId} {args r:List D} (h:Con e0 f args r):Con (eM g b) f args r:=Con.up memo_fits h
theorem ConE.m {f:FuncId} {args:List D} {R:List D->Prop} (h:ConE e0 f args R):ConE (eM g b) f args R:=ConE.up memo_fits h
theorem ConR.m {f:FuncId} {args:List D} {ty sz:Nat} {rows:List (List C)} (h:ConR e0 f args ty sz rows):ConR (eM g b) f args ty sz rows:=ConR.up memo_fits h
theorem ConI.m {f:FuncId} {ty sz:Nat} {rows rows':List (List C)} {args r:List D} (h:ConI e0 f ty sz rows args rows' r):ConI (eM g b) f ty sz rows args rows' r:=ConI.up memo_fits h
theorem ConT.m {f:FuncId} {ty sz:Nat} {rows rows':List (List C)} {args:List D} (h:ConT e0 f ty sz rows args rows'):ConT (eM g b) f ty sz rows args rows':=ConT.up memo_fits h
theorem ConP.m {f:FuncId} {args:List D} {pm:List Bk} {R:List D->List Bk->Prop} (h:ConP e0 f args pm R):ConP (eM g b) f args pm R:=ConP.up memo_fits h
theorem ConP.imp {e:Env} {f:FuncId} {args:List D} {pm:List Bk} {R R':List D->List Bk->Prop} (h:ConP e f args pm R) (hR:∀ r pm,R r pm->R' r pm):ConP e f args pm R' :=
 ⟨h.1,fun w S vs hS hE hG hpm hap hvs=>(h.2 w S vs hS hE hG hpm hap hvs).mono fun en w' ⟨v,r,pm',h1,hr,hk⟩=>⟨v,r,pm',h1,hR r pm' hr,hk⟩⟩
theorem con_sortsM (hg:SgnOk g) {t:Tm} (hs:sizeTm t<=60) (hf:FormOk g t):Con (eM g b) 116 [.one (.ptr (encX g (.lit (.map (some b))))),.agg (encTm t)] [.one (.lit (.int .i64 (sortsTm g t:Nat)))] :=
 con_of_P (ι:=List (ByteArray × Value)) (G:=fun M w=>MapL w b M) (ok:=Memo g) memo_fits (MapL.stable b) (fun w h=>h.2) (fun w M h1 h2 h3=>⟨h1,M,h2,h3⟩) (conP_sortsOf hg b _ (Nat.lt_succ_self _) hs hf [] Memo.nil).1
  fun M hM=>(conP_sortsOf hg b _ (Nat.lt_succ_self _) hs hf M hM).imp fun r pm ⟨M',h1,h2,h3,_⟩=>⟨h1,M',h3,h2⟩
theorem pM {mask:Nat} {c:Code} {s:List (Nat × A)} {m m2:List (Nat × Bk)} {Q:PX->St->Prop} (g:Sgn) (b k:Nat) (hK:pwp (eM g b) mask c ⟨s,m2⟩ Q) (hm:gm m k=some (mapB b []):=by exact snx) (hr:remM k m=m2:=by exact snv):pwp e0 mask c ⟨s,m⟩ Q:=by
 subst hr
 exact pwp_env k memo_fits.st hm (fun hd=>⟨memo_fits,fun w h=>⟨hd,[],Memo.nil,h⟩⟩) fun _=>hK
theorem bit_pow (a k:Nat):(a &&& 2 ^ k=0) ↔ a.testBit k=false:=by
 constructor
 ·intro h
  have:=congrArg (fun x=>x.testBit k) h
  simpa [Nat.testBit_and,Nat.testBit_two_pow] using this
 ·intro h
  refine Nat.eq_of_testBit_eq fun i=>?_
  rw [Nat.testBit_and,Nat.testBit_two_pow,Nat.zero_testBit]
  by_cases e:k=i
  ·subst e;rw [h];rfl
  ·simp [e]
theorem tmM:type_of% (ai @tmz (ai @eMP @encX_u)):=ai @tmz (ai @eMP @encX_u)
end
end Go.Proofs.YtffmjghcpgpfpaaGreatDoor
namespace Go.Proofs.YtffmjghcpgpfpaaGreatDoor
open Go.RowKit
section
variable {g:Sgn} {l:List Bd} {b:Nat}
set_option maxHeartbeats 32000000 in
set_option maxRecDepth 100000 in
theorem con_isSub (hg:SgnOk g) (hl:okBds l) (ht:∀ y∈l,sizeTm y.to<=big):Con (eM g b) 60 [.one (.ptr (encX g (.lit (.map (some b))))),.one (.sl (encBds l))] [.one (.lit (.bool (isSub g l)))]:=by
 have heM:=eM_ok (g:=g) (b:=b)
 have bl:=encBds_len l
 have bg:=encBds_get l
 have hV:=fun y (hy:y∈l)=>(con_isVariable (mc:=.lit (.map (some b))) hg (t:=y.var) (by have:=(hl y hy).1;revert this;cases y.var;simp only [okTm,Tm.name];exact fun h=>h.2.1)).m (g:=g) (b:=b)
 have hT:=fun y (hy:y∈l)=>(con_implIsT (mc:=.lit (.map (some b))) hg (hl y hy).2 (ht y hy)).m (g:=g) (b:=b)
 have hC:=fun y z (hy:y∈l) (hz:z∈l)=>(con_implCmp (hl y hy).1 (hl z hz).1).m (g:=g) (b:=b)
 have bb:rowsB 8 (encBds l)=true:=by
  refine List.all_eq_true.2 fun r hr=>?_
  obtain ⟨y,hy,rfl⟩:=List.mem_map.1 hr
  simp [encBd,List.all_append,tmz]
 by_cases h8:l.length<=8
 rotate_left
 ·have q1:((8:Int) < (l.length:Int))=True:=eq_true (by omega)
  have hf:isSub g l=false:=isSub_false fun h=>h8 h.len
  rw [hf]
  refine gI (ts:=[.slot 4]) 72057594037943923 Tryz.func60 ?_
  (have F:=ai @q1 (ai @bl @tmM);refine gG ?_;exact gTd)
 have q1:((8:Int) < (l.length:Int))=False:=eq_false (by omega)
 refine gI (ts:=[.slot 4]) 72057594037943923 Tryz.func60 ?_
 (have F:=ai @q1 (ai @bl @tmM);refine gG ?_;clear F)
 (have F:=@tmM;refine gL (ι:=Nat) [4,5,6,12,13,56] [] (fun i=>[(12,A.d (.one (.lit (.int .i64 i))))]) (fun i=>[]) (fun i=>i<=l.length∧∀ (j:Nat) y,j < i->l[j]?=some y->SbsAt g l j y) (fun i=>l.length - i) (0) (⟨Nat.zero_le _,fun j y h=>absurd h (by omega)⟩) (fun i hi=>?_);clear F)
 obtain ⟨hi,hall⟩:=hi
 by_cases hil:i < l.length
 rotate_left
 ·obtain rfl:i=l.length:=by omega
  have q2:((l.length:Int) < (l.length:Int))=False:=eq_false (by omega)
  have hf:isSub g l=true:=isSub_true ⟨h8,fun j y hj=>hall j y (List.getElem?_eq_some_iff.1 hj).1 hj⟩
  rw [hf]
  (have F:=ai @q2 (ai @bl @tmM);refine gG ?_;exact gTd)
 have q2:((i:Int) < (l.length:Int))=True:=eq_true (by omega)
 obtain ⟨y,hy⟩:∃ y,l[i]?=some y:=⟨_,List.getElem?_eq_getElem hil⟩
 have hym:=List.mem_of_getElem? hy
 have hbad:¬ SbsAt g l i y->isSub g l=false:=fun h=>isSub_false fun h'=>h (h'.at' i y hy)
 have cV:=hV y hym
 (have F:=ai @q2 (ai @bl (ai @bb (ai @bg (ai @hy (ai @bdz (ai @natInt @tmM))))));have NN:StopAt 6:=trivial;refine gGn ?_;clear F NN)
 refine gB ?_
 (have F:=ai @bdz @tmM;refine gC (cV) ?_;clear F)
 by_cases hvo:VarOk g y.var
 rotate_left
 ·have hVf:isVar g y.var=false:=by simp [isVar,hvo]
  have hf:=hbad fun h=>hvo h.var
  rw [hVf,hf]
  (have F:=ai @bdz @tmM;refine gR ?_;clear F)
  (have F:=@tmM;refine gG ?_;exact gTd)
 have hVt:isVar g y.var=true:=by simp [isVar,hvo]
 rw [hVt]
 obtain ⟨k,hk⟩:∃ k:Nat,y.var.sort=k:=⟨y.var.sort.toNat,by have:=hvo.2.2.1;omega⟩
 have hk8:k < 8:=by have:=hvo.2.2.2.1;have:=hg.sorts.n8;omega
 have hkt:y.var.sort.toNat=k:=by omega
 have hsh:=shl_k (k:=k) (by omega)
 have hwi:=wrap1 (k:=i) (by omega)
 have cT:=hT y hym
 have hnext:TermOk g y.to->(sortsTm g y.to).testBit k=true->(∀ (j:Nat) p,i=j+1->l[j]?=some p->cmpTm p.var y.var < 0)->i+1<=l.length∧∀ (j:Nat) z,j < i+1->l[j]?=some z->SbsAt g l j z:=fun b1 b2 ho=>⟨hil,fun j z h1 h2=>by
  by_cases e:j=i
  ·subst e
   rw [hy] at h2
   injection h2 with h2
   subst h2
   exact ⟨hvo,ho,b1,by rw [hkt];exact b2⟩
  ·exact hall j z (by omega) h2⟩
 by_cases hi0:i=0
 ·subst hi0
  have q4:((0:Int) < ((0:Nat):Int))=False:=eq_false (by omega)
  have hord:∀ (j:Nat) p,0=j+1->l[j]?=some p->cmpTm p.var y.var < 0:=fun j p h=>absurd h (by omega)
  (have F:=ai @q4 (ai @bdz (ai @natInt @tmM));refine gC (cT) ?_;clear F)
  cases hb:isTerm g y.to with
  | false =>
   have hf:=hbad fun h=>by rw [isTerm_true h.to'] at hb;cases hb
   rw [hf]
   (have F:=ai @bdz @tmM;refine gR ?_;clear F)
   (have F:=@tmM;refine gG ?_;exact gTd)
  | true =>
  have hto:=isTerm_iff.1 hb
  have hso:=small62 (sortsTm_lt hg hto.form.node) hg.sorts.n8
  have hba:=bits_and hso (show 2 ^ k < 4611686018427387904 from Nat.lt_of_lt_of_le (Nat.pow_lt_pow_right (by omega) hk8) (by decide))
  have hbp:=bit_pow (sortsTm g y.to) k
  have cO:=con_sortsM (b:=b) hg hto.size hto.form
  (have F:=ai @bdz @tmM;refine gC (cO) ?_;clear F)
  cases hbt:(sortsTm g y.to).testBit k with
  | false =>
   have q6:(((sortsTm g y.to &&& 2 ^ k:Nat):Int)=0)=True:=eq_true (by rw [hbp.2 hbt];rfl)
   have hf:=hbad fun h=>by rw [<- hkt,h.srt] at hbt;cases hbt
   rw [hf]
   generalize 2 ^ k=K at *
   (have F:=ai @hk (ai @hsh (ai @hba (ai @q6 (ai @bdz @tmM))));refine gR ?_;clear F)
   (have F:=@tmM;refine gG ?_;exact gTd)
  | true =>
   have q6:(((sortsTm g y.to &&& 2 ^ k:Nat):Int)=0)=False:=eq_false (fun h=>by rw [hbp.1 (by omega)] at hbt;cases hbt)
   have hn2:=hnext hto hbt hord
   generalize 2 ^ k=K at *
   (have F:=ai @hk (ai @hsh (ai @hba (ai @q6 (ai @bdz @tmM))));refine gR ?_;clear F)
   (have F:=ai @hwi (ai @bdz @tmM);refine gG ?_;exact ⟨0+1,hn2,gw,gw,by omega⟩)
 obtain ⟨j,rfl⟩:∃ j,i=j+1:=⟨i - 1,by omega⟩
 have q4:((0:Int) < ((j+1:Nat):Int))=True:=eq_true (by omega)
 obtain ⟨p,hp⟩:∃ p,l[j]?=some p:=⟨_,List.getElem?_eq_getElem (by omega)⟩
 have cC:=hC p y (List.mem_of_getElem? hp) hym
 have wj:IntKind.i64.wrap (((j+1:Nat):Int) - 1)=(j:Int):=wrapN (by omega) (by omega) (by omega)
 have i1:(j < l.length)=True:=eq_true (by omega)
 (have F:=ai @q4 (ai @wj (ai @i1 (ai @bl (ai @bb (ai @bg (ai @hp (ai @bdz (ai @natInt @tmM))))))));refine gC (cC) ?_;clear F)
 by_cases hcm:cmpTm p.var y.var < 0
 rotate_left
 ·have q5:((0:Int)<=cmpTm p.var y.var)=True:=eq_true (by omega)
  have hf:=hbad fun h=>hcm (h.ord j p rfl hp)
  rw [hf]
  (have F:=ai @q5 (ai @bdz @tmM);refine gR ?_;clear F)
  (have F:=@tmM;refine gG ?_;exact gTd)
 have q5:((0:Int)<=cmpTm p.var y.var)=False:=eq_false (by omega)
 have hord:∀ (j':Nat) p',j+1=j'+1->l[j']?=some p'->cmpTm p'.var y.var < 0:=fun j' p' h h1=>by
  obtain rfl:j=j':=by omega
  rw [hp] at h1
  injection h1 with h1
  subst h1
  exact hcm
 (have F:=ai @q5 (ai @bdz (ai @natInt @tmM));refine gC (cT) ?_;clear F)
 cases hb:isTerm g y.to with
 | false =>
  have hf:=hbad fun h=>by rw [isTerm_true h.to'] at hb;cases hb
  rw [hf]
  (have F:=ai @bdz @tmM;refine gR ?_;clear F)
  (have F:=@tmM;refine gG ?_;exact gTd)
 | true =>
 have hto:=isTerm_iff.1 hb
 have hso:=small62 (sortsTm_lt hg hto.form.node) hg.sorts.n8
 have hba:=bits_and hso (show 2 ^ k < 4611686018427387904 from Nat.lt_of_lt_of_le (Nat.pow_lt_pow_right (by omega) hk8) (by decide))
 have hbp:=bit_pow (sortsTm g y.to) k
 have cO:=con_sortsM (b:=b) hg hto.size hto.form
 (have F:=ai @bdz @tmM;refine gC (cO) ?_;clear F)
 cases hbt:(sortsTm g y.to).testBit k with
 | false =>
  have q6:(((sortsTm g y.to &&& 2 ^ k:Nat):Int)=0)=True:=eq_true (by rw [hbp.2 hbt];rfl)
  have hf:=hbad fun h=>by rw [<- hkt,h.srt] at hbt;cases hbt
  rw [hf]
  generalize 2 ^ k=K at *
  (have F:=ai @hk (ai @hsh (ai @hba (ai @q6 (ai @bdz @tmM))));refine gR ?_;clear F)
  (have F:=@tmM;refine gG ?_;exact gTd)
 | true =>
  have q6:(((sortsTm g y.to &&& 2 ^ k:Nat):Int)=0)=False:=eq_false (fun h=>by rw [hbp.1 (by omega)] at hbt;cases hbt)
  have hn2:=hnext hto hbt hord
  generalize 2 ^ k=K at *
  (have F:=ai @hk (ai @hsh (ai @hba (ai @q6 (ai @bdz @tmM))));refine gR ?_;clear F)
  (have F:=ai @hwi (ai @bdz @tmM);refine gG ?_;exact ⟨j+1+1,hn2,gw,gw,by omega⟩)
end
end Go.Proofs.YtffmjghcpgpfpaaGreatDoor
namespace Go.Proofs.YtffmjghcpgpfpaaGreatDoor
open Go.RowKit
section
variable {g:Sgn} {l:List Bd}
theorem bd_big (hb:l.length+bulkRows (encBds l)<=1048576):∀ y∈l,bulkRow (encTm y.var)<=1048576∧bulkRow (encTm y.to)<=1048576:=fun y hy=>by
 have h1:=bulkRows_mem (List.mem_map_of_mem (f:=encBd) hy)
 have h2:bulkRow (encBd y)=bulkRow (encTm y.var)+bulkRow (encTm y.to):=bulk_app _ _
 have h3:bulkRows (l.map encBd)=bulkRows (encBds l):=rfl
 omega
theorem bulk_ok {t:Tm} (h:TermOk g t):bulkRow (encTm t)<=1048576:=by
 have h1:=bulk_form h.form
 have h2:=h.size
 omega
open Classical in
noncomputable def aS (g:Sgn) (l:List Bd) (t:Tm):Option Tm:=if isSgn g=true∧isSub g l=true∧isTerm g t=true then apT g l t else none
theorem isSub_iff:isSub g l=true ↔ SbsOk g l:=by simp [isSub]
set_option maxHeartbeats 4000000 in
set_option maxRecDepth 100000 in
theorem con_specApply (hok:okSgn g) (hl:okBds l) (hb:l.length+bulkRows (encBds l)<=1048576) {t:Tm} (ht:okTm t) (htb:bulkRow (encTm t)<=1048576):Con e0 24 [.agg (encSgn g),.one (.sl (encBds l)),.agg (encTm t)] [.agg (encTm ((aS g l t).getD zTm)),.one (.lit (.bool (aS g l t).isSome))]:=by
 have cS:=con_specSub hok hl (fun y hy=>big_of_bulk (bd_big hb y hy).1) (fun y hy=>big_of_bulk (bd_big hb y hy).2)
 have cT:=con_specIsTerm hok ht (big_of_bulk htb)
 have hz:=zTm_u
 have z1:(none:Option Tm).getD zTm=zTm:=rfl
 have z2:(none:Option Tm).isSome=false:=rfl
 by_cases h:isSgn g=true∧isSub g l=true∧isTerm g t=true
 rotate_left
 ·have e:aS g l t=none:=by unfold aS;rw [if_neg h]
  rw [e]
  rw [encSgn] at cS cT ⊢
  refine gI (ts:=[.cell 6 46,.slot 7]) 537396207 Tryz.func24 ?_
  (have F:=@tmz;have NN:StopAt 1:=trivial;refine gGn ?_;clear F NN)
  refine gB ?_
  (have F:=@tmz;refine gC (cS) ?_;clear F)
  cases h1:(isSgn g && isSub g l) with
  | false =>
   (have F:=@tmz;refine gR ?_;clear F)
   (have F:=ai @z1 (ai @z2 (ai @hz @tmz));refine gG ?_;exact gTd)
  | true =>
  have h2:(isSgn g && isTerm g t)=false:=by
   rw [Bool.and_eq_true] at h1
   cases h3:isTerm g t with
   | false=>rw [Bool.and_false]
   | true=>exact absurd ⟨h1.1,h1.2,h3⟩ h
  rw [h2] at cT
  (have F:=@tmz;refine gC (cT) ?_;clear F)
  (have F:=@tmz;refine gR ?_;clear F)
  (have F:=ai @z1 (ai @z2 (ai @hz @tmz));refine gG ?_;exact gTd)
 obtain ⟨h1,h2,h3⟩:=h
 have e:aS g l t=apT g l t:=by unfold aS;rw [if_pos ⟨h1,h2,h3⟩]
 have hg:=isSgn_iff.1 h1
 have hS:=isSub_iff.1 h2
 have hT:=isTerm_iff.1 h3
 have cA:=con_l9Apply hok hg hS _ (Nat.lt_succ_self _) hT
 rw [e]
 rw [h1,h2] at cS
 rw [h1,h3] at cT
 rw [encSgn] at cS cT cA ⊢
 refine gI (ts:=[.cell 6 46,.slot 7]) 537396207 Tryz.func24 ?_
 (have F:=@tmz;have NN:StopAt 1:=trivial;refine gGn ?_;clear F NN)
 refine gB ?_
 (have F:=@tmz;refine gC (cS) ?_;clear F)
 (have F:=@tmz;refine gC (cT) ?_;clear F)
 (have F:=@tmz;refine gR ?_;clear F)
 (have F:=@tmz;have NN:StopAt 3:=trivial;refine gGn ?_;clear F NN)
 refine gB ?_
 (have F:=@tmz;refine gC (cA) ?_;clear F)
 (have F:=@tmz;refine gR ?_;clear F)
 cases hu:apT g l t with
 | none=>(have F:=ai @z1 (ai @z2 (ai @hz @tmz));refine gG ?_;exact gTd)
 | some u =>
  have z3:(some u).getD zTm=u:=rfl
  have z4:(some u).isSome=true:=rfl
  have hk:=apT_ok hg hS.to' _ t (Nat.lt_succ_self _) hT hu
  have cC:=con_l5Copy u (bulk_ok hk)
  rw [ap6_some hu]
  (have F:=ai @z3 (ai @z4 @tmz);have NN:StopAt 6:=trivial;refine gGn ?_;clear F NN)
  refine gB ?_
  (have F:=@tmz;refine gC (cC) ?_;clear F)
  (have F:=@tmz;refine gR ?_;clear F)
  (have F:=ai @z3 (ai @z4 @tmz);refine gG ?_;exact gTd)
open Classical in
noncomputable def isUnif (g:Sgn) (x y:Tm) (l:List Bd):Bool:=decide (∃ u,aS g l x=some u∧aS g l y=some u)
open Classical in
theorem isUnif_iff {x y:Tm}:isUnif g x y l=true ↔ ∃ u,aS g l x=some u∧aS g l y=some u:=by
 unfold isUnif;exact decide_eq_true_iff
theorem isUnif_some {x y u v:Tm} (h1:aS g l x=some u) (h2:aS g l y=some v):isUnif g x y l=decide (cmpTm u v=0):=by
 rw [Bool.eq_iff_iff,isUnif_iff,decide_eq_true_iff,h1,h2,cmpTm_iff]
 constructor
 ·rintro ⟨w,e1,e2⟩
  injection e1 with e1;injection e2 with e2
  rw [e1,e2]
 ·rintro rfl
  exact ⟨u,rfl,rfl⟩
open Classical in
theorem isUnif_none {x y:Tm} (h:aS g l x=none∨aS g l y=none):isUnif g x y l=false:=by
 unfold isUnif
 refine decide_eq_false ?_
 rintro ⟨w,e1,e2⟩
 rcases h with h | h
 ·rw [h] at e1;cases e1
 ·rw [h] at e2;cases e2
theorem aS_ok {t u:Tm} (h:aS g l t=some u):TermOk g u:=by
 unfold aS at h
 split at h
 ·next hc=>exact apT_ok (isSgn_iff.1 hc.1) (isSub_iff.1 hc.2.1).to' _ t (Nat.lt_succ_self _) (isTerm_iff.1 hc.2.2) h
 ·cases h
theorem aS_sgn {t u:Tm} (h:aS g l t=some u):SgnOk g:=by
 unfold aS at h
 split at h
 ·next hc=>exact isSgn_iff.1 hc.1
 ·cases h
theorem con_specUnif {x y:Tm} (hok:okSgn g) (hx:okTm x) (hxb:bulkRow (encTm x)<=1048576) (hy:okTm y) (hyb:bulkRow (encTm y)<=1048576) (hl:okBds l) (hb:(encBds l).length+bulkRows (encBds l)<=1048576):Con e0 20 [.agg (encSgn g),.agg (encTm x),.agg (encTm y),.one (.sl (encBds l))] [.one (.lit (.bool (isUnif g x y l)))]:=by
 rw [encBds_len] at hb
 have cX:=con_specApply hok hl hb hx hxb
 have cY:=con_specApply hok hl hb hy hyb
 rw [encSgn] at cX cY ⊢
 refine gI (ts:=[.slot 8]) 8063 Tryz.func20 ?_
 (have F:=@tmz;have NN:StopAt 1:=trivial;refine gGn ?_;clear F NN)
 refine gB ?_
 (have F:=@tmz;refine gC (cX) ?_;clear F)
 (have F:=@tmz;refine gR ?_;clear F)
 (have F:=@tmz;have NN:StopAt 2:=trivial;refine gGn ?_;clear F NN)
 refine gB ?_
 (have F:=@tmz;refine gC (cY) ?_;clear F)
 (have F:=@tmz;refine gR ?_;clear F)
 (have F:=@tmz;have NN:StopAt 3:=trivial;refine gGn ?_;clear F NN)
 cases h1:aS g l x with
 | none =>
  have z2:(none:Option Tm).isSome=false:=rfl
  rw [isUnif_none (.inl h1)]
  (have F:=ai @z2 @tmz;refine gG ?_;exact gTd)
 | some u =>
 have z4:∀ u:Tm,(some u).isSome=true:=fun _=>rfl
 have z3:∀ u:Tm,(some u).getD zTm=u:=fun _=>rfl
 cases h2:aS g l y with
 | none =>
  have z2:(none:Option Tm).isSome=false:=rfl
  rw [isUnif_none (.inr h2)]
  (have F:=ai @z2 (ai @z4 @tmz);refine gG ?_;exact gTd)
 | some v =>
 have hg:=aS_sgn h1
 have cS:=con_l5Same (FormOk.ok hg _ u (Nat.lt_succ_self _) (aS_ok h1).form) (FormOk.ok hg _ v (Nat.lt_succ_self _) (aS_ok h2).form)
 rw [isUnif_some h1 h2]
 refine gB ?_
 (have F:=ai @z3 (ai @z4 @tmz);refine gC (cS) ?_;clear F)
 (have F:=@tmz;refine gR ?_;clear F)
 (have F:=@tmz;refine gG ?_;exact gTd)
set_option maxHeartbeats 4000000 in
set_option maxRecDepth 100000 in
theorem con_implUnif {x y:Tm} (hok:okSgn g) (hx:okTm x) (hxb:bulkRow (encTm x)<=1048576) (hy:okTm y) (hyb:bulkRow (encTm y)<=1048576) (hl:okBds l) (hb:(encBds l).length+bulkRows (encBds l)<=1048576):Con e0 22 [.agg (encSgn g),.agg (encTm x),.agg (encTm y),.one (.sl (encBds l))] [.one (.lit (.bool (isUnif g x y l)))]:=by
 rw [encBds_len] at hb
 have hno:¬ (isSgn g=true∧isSub g l=true∧isTerm g x=true)->isUnif g x y l=false:=fun h=>isUnif_none (.inl (by unfold aS;rw [if_neg h]))
 have hno2:¬ (isSgn g=true∧isSub g l=true∧isTerm g y=true)->isUnif g x y l=false:=fun h=>isUnif_none (.inr (by unfold aS;rw [if_neg h]))
 by_cases hs:isSgn g=true
 rotate_left
 ·have cN:=con_newAlg_not hok (fun h=>hs (isSgn_true h))
  rw [hno fun h=>hs h.1]
  rw [encSgn] at cN ⊢
  refine gI (ts:=[.slot 8]) 549755846527 Tryz.func22 ?_
  (have F:=@tmz;have NN:StopAt 1:=trivial;refine gGn ?_;clear F NN)
  refine gB ?_
  (have F:=@tmz;refine gC (cN) ?_;clear F)
  (have F:=@tmz;refine gR ?_;clear F)
  (have F:=@tmz;refine gG ?_;exact gTd)
 have hg:=isSgn_iff.1 hs
 have cN:=conP_newAlg hok hg
 rw [encSgn] at cN ⊢
 refine gI (ts:=[.slot 8]) 549755846527 Tryz.func22 ?_
 (have F:=@tmz;have NN:StopAt 1:=trivial;refine gGn ?_;clear F NN)
 refine gB ?_
 (have F:=@tmz;refine gCP [] [1000] (cN) ?_;clear F)
 rintro r pm ⟨b,rfl,rfl⟩
 simp only [setA,retA,zipM,List.cons_append,List.nil_append]
 (have F:=@tmz;refine gR ?_;clear F)
 refine pM g b 1000 ?_
 (have F:=@tmM;have NN:StopAt 2:=trivial;refine gGn ?_;clear F NN)
 have cX:=(con_implIsT (mc:=.lit (.map (some b))) hg hx (big_of_bulk hxb)).m (g:=g) (b:=b)
 have cY:=(con_implIsT (mc:=.lit (.map (some b))) hg hy (big_of_bulk hyb)).m (g:=g) (b:=b)
 have cS:=con_isSub (b:=b) hg hl (fun y hy=>big_of_bulk (bd_big hb y hy).2)
 refine gB ?_
 (have F:=@tmM;refine gC (cX) ?_;clear F)
 cases h1:isTerm g x with
 | false =>
  rw [hno fun h=>by rw [h1] at h;cases h.2.2]
  (have F:=@tmM;refine gR ?_;clear F)
  (have F:=@tmM;refine gG ?_;exact gTd)
 | true =>
 (have F:=@tmM;refine gC (cY) ?_;clear F)
 cases h2:isTerm g y with
 | false =>
  rw [hno2 fun h=>by rw [h2] at h;cases h.2.2]
  (have F:=@tmM;refine gR ?_;clear F)
  (have F:=@tmM;refine gG ?_;exact gTd)
 | true =>
 (have F:=@tmM;refine gC (cS) ?_;clear F)
 cases h3:isSub g l with
 | false =>
  rw [hno fun h=>by rw [h3] at h;cases h.2.1]
  (have F:=@tmM;refine gR ?_;clear F)
  (have F:=@tmM;refine gG ?_;exact gTd)
 | true =>
 have hS:=isSub_iff.1 h3
 have ex:aS g l x=apT g l x:=by unfold aS;rw [if_pos ⟨hs,h3,h1⟩]
 have ey:aS g l y=apT g l y:=by unfold aS;rw [if_pos ⟨hs,h3,h2⟩]
 have aX:=(con_apply (mc:=.lit (.map (some b))) hg hS _ (Nat.lt_succ_self _) (isTerm_iff.1 h1)).m (g:=g) (b:=b)
 have aY:=(con_apply (mc:=.lit (.map (some b))) hg hS _ (Nat.lt_succ_self _) (isTerm_iff.1 h2)).m (g:=g) (b:=b)
 rw [<- ex] at aX
 rw [<- ey] at aY
 (have F:=@tmM;refine gR ?_;clear F)
 (have F:=@tmM;have NN:StopAt 4:=trivial;refine gGn ?_;clear F NN)
 refine gB ?_
 (have F:=@tmM;refine gC (aX) ?_;clear F)
 (have F:=@tmM;refine gR ?_;clear F)
 (have F:=@tmM;have NN:StopAt 5:=trivial;refine gGn ?_;clear F NN)
 refine gB ?_
 (have F:=@tmM;refine gC (aY) ?_;clear F)
 (have F:=@tmM;refine gR ?_;clear F)
 (have F:=@tmM;have NN:StopAt 6:=trivial;refine gGn ?_;clear F NN)
 cases h4:aS g l x with
 | none =>
  have z2:(none:Option Tm).isSome=false:=rfl
  rw [isUnif_none (.inl h4)]
  (have F:=ai @z2 @tmM;refine gG ?_;exact gTd)
 | some u =>
 have z4:∀ u:Tm,(some u).isSome=true:=fun _=>rfl
 have z3:∀ u:Tm,(some u).getD zTm=u:=fun _=>rfl
 cases h5:aS g l y with
 | none =>
  have z2:(none:Option Tm).isSome=false:=rfl
  rw [isUnif_none (.inr h5)]
  (have F:=ai @z2 (ai @z4 @tmM);refine gG ?_;exact gTd)
 | some v =>
 have cE:=(con_implSame u v).m (g:=g) (b:=b)
 rw [isUnif_some h4 h5]
 refine gB ?_
 (have F:=ai @z3 (ai @z4 @tmM);refine gC (cE) ?_;clear F)
 (have F:=@tmM;refine gR ?_;clear F)
 (have F:=@tmM;refine gG ?_;exact gTd)
end
end Go.Proofs.YtffmjghcpgpfpaaGreatDoor
namespace Go.Proofs.YtffmjghcpgpfpaaGreatDoor
open Go.RowKit
set_option maxHeartbeats 40000000 in
set_option maxRecDepth 100000 in
theorem con_lawIsUnifier {row0:List C} (hok0:okRow (sigF) row0) {row1:List C} (hok1:okRow (fieldsOf .term) row1) {row2:List C} (hok2:okRow (fieldsOf .term) row2) {rows3:List (List C)} (hok3:okRows (fieldsOf .binding) rows3) {R0:Bool} (hsp0:bulkRow row0<=1048576->bulkRow row1<=1048576->bulkRow row2<=1048576->rows3.length+bulkRows rows3<=1048576->Con e0 20 [.agg row0,.agg row1,.agg row2,.one (.sl rows3)] [.one (.lit (.bool R0))]) (him0:bulkRow row0<=1048576->bulkRow row1<=1048576->bulkRow row2<=1048576->rows3.length+bulkRows rows3<=1048576->Con e0 22 [.agg row0,.agg row1,.agg row2,.one (.sl rows3)] [.one (.lit (.bool R0))]):Con e0 4 [.agg row0,.agg row1,.agg row2,.one (.sl rows3)] [.one (.lit (.bool true))]:=by
 have okc0:=hok0.cells
 obtain ⟨len0,tk0,dr0⟩:=hok0.take (n:=3) rfl
 have okc1:=hok1.cells
 obtain ⟨len1,tk1,dr1⟩:=hok1.take (n:=4) rfl
 have okc2:=hok2.cells
 obtain ⟨len2,tk2,dr2⟩:=hok2.take (n:=4) rfl
 refine gI 1247923389507991241817983 Tryz.func4 ?_
 (have F:=ai @okc0 (ai @len0 (ai @tk0 (ai @dr0 (ai @okc1 (ai @len1 (ai @tk1 (ai @dr1 (ai @okc2 (ai @len2 (ai @tk2 (ai @dr2 @drop0)))))))))));refine gG ?_;clear F)
 have hL0_0:(0:Int)<=1048576:=by omega
 have hL0_1:(1048576:Int)<=1048576:=by omega
 refine gB ?_
 (have F:=ai @okc0 (ai @len0 (ai @tk0 (ai @dr0 (ai @okc1 (ai @len1 (ai @tk1 (ai @dr1 (ai @okc2 (ai @len2 (ai @tk2 (ai @dr2 @drop0)))))))))));refine gC (con_szSignature hok0 hL0_0 hL0_1) ?_;clear F)
 (have F:=ai @okc0 (ai @len0 (ai @tk0 (ai @dr0 (ai @okc1 (ai @len1 (ai @tk1 (ai @dr1 (ai @okc2 (ai @len2 (ai @tk2 (ai @dr2 @drop0)))))))))));refine gR ?_;clear F)
 by_cases hb0:((bulkRow row0):Int)<=1048576
 rotate_left
 ·have n1:sub 1048576 (bulkRow row0)=-1:=sub_neg (by omega)
  have n2:(-1:Int) < 0:=by omega
  (have F:=ai @n1 @n2;refine gG ?_;exact gT)
 have nq0:sub 1048576 (bulkRow row0)=1048576 - ((bulkRow row0):Nat):=sub_pos (by omega)
 rw [nq0]
 clear nq0
 have hB0:bulkRow row0<=1048576:=by omega
 have hL1_0:(0:Int)<=1048576 - ((bulkRow row0):Nat):=by omega
 have hL1_1:(1048576:Int) - ((bulkRow row0):Nat)<=1048576:=by omega
 generalize hgl0:(1048576:Int) - ((bulkRow row0):Nat)=L1 at *
 clear hgl0
 have n2:¬ (L1 < 0):=by omega
 (have F:=ai @n2 (ai @okc0 (ai @len0 (ai @tk0 (ai @dr0 (ai @okc1 (ai @len1 (ai @tk1 (ai @dr1 (ai @okc2 (ai @len2 (ai @tk2 (ai @dr2 @drop0))))))))))));refine gG ?_;clear F)
 clear n2 hb0
 refine gB ?_
 (have F:=ai @okc0 (ai @len0 (ai @tk0 (ai @dr0 (ai @okc1 (ai @len1 (ai @tk1 (ai @dr1 (ai @okc2 (ai @len2 (ai @tk2 (ai @dr2 @drop0)))))))))));refine gC (con_szTerm hok1 hL1_0 hL1_1) ?_;clear F)
 (have F:=ai @okc0 (ai @len0 (ai @tk0 (ai @dr0 (ai @okc1 (ai @len1 (ai @tk1 (ai @dr1 (ai @okc2 (ai @len2 (ai @tk2 (ai @dr2 @drop0)))))))))));refine gR ?_;clear F)
 by_cases hb1:((bulkRow row1):Int)<=L1
 rotate_left
 ·have n1:sub L1 (bulkRow row1)=-1:=sub_neg (by omega)
  have n2:(-1:Int) < 0:=by omega
  (have F:=ai @n1 @n2;refine gG ?_;exact gT)
 have nq1:sub L1 (bulkRow row1)=L1 - ((bulkRow row1):Nat):=sub_pos (by omega)
 rw [nq1]
 clear nq1
 have hB1:bulkRow row1<=1048576:=by omega
 have hL2_0:(0:Int)<=L1 - ((bulkRow row1):Nat):=by omega
 have hL2_1:(L1:Int) - ((bulkRow row1):Nat)<=1048576:=by omega
 generalize hgl1:(L1:Int) - ((bulkRow row1):Nat)=L2 at *
 clear hgl1
 have n2:¬ (L2 < 0):=by omega
 (have F:=ai @n2 (ai @okc0 (ai @len0 (ai @tk0 (ai @dr0 (ai @okc1 (ai @len1 (ai @tk1 (ai @dr1 (ai @okc2 (ai @len2 (ai @tk2 (ai @dr2 @drop0))))))))))));refine gG ?_;clear F)
 clear n2 hb1
 refine gB ?_
 (have F:=ai @okc0 (ai @len0 (ai @tk0 (ai @dr0 (ai @okc1 (ai @len1 (ai @tk1 (ai @dr1 (ai @okc2 (ai @len2 (ai @tk2 (ai @dr2 @drop0)))))))))));refine gC (con_szTerm hok2 hL2_0 hL2_1) ?_;clear F)
 (have F:=ai @okc0 (ai @len0 (ai @tk0 (ai @dr0 (ai @okc1 (ai @len1 (ai @tk1 (ai @dr1 (ai @okc2 (ai @len2 (ai @tk2 (ai @dr2 @drop0)))))))))));refine gR ?_;clear F)
 by_cases hb2:((bulkRow row2):Int)<=L2
 rotate_left
 ·have n1:sub L2 (bulkRow row2)=-1:=sub_neg (by omega)
  have n2:(-1:Int) < 0:=by omega
  (have F:=ai @n1 @n2;refine gG ?_;exact gT)
 have nq2:sub L2 (bulkRow row2)=L2 - ((bulkRow row2):Nat):=sub_pos (by omega)
 rw [nq2]
 clear nq2
 have hB2:bulkRow row2<=1048576:=by omega
 have hL3_0:(0:Int)<=L2 - ((bulkRow row2):Nat):=by omega
 have hL3_1:(L2:Int) - ((bulkRow row2):Nat)<=1048576:=by omega
 generalize hgl2:(L2:Int) - ((bulkRow row2):Nat)=L3 at *
 clear hgl2
 have n2:¬ (L3 < 0):=by omega
 (have F:=ai @n2 (ai @okc0 (ai @len0 (ai @tk0 (ai @dr0 (ai @okc1 (ai @len1 (ai @tk1 (ai @dr1 (ai @okc2 (ai @len2 (ai @tk2 (ai @dr2 @drop0))))))))))));refine gG ?_;clear F)
 clear n2 hb2
 refine gB ?_
 (have F:=ai @okc0 (ai @len0 (ai @tk0 (ai @dr0 (ai @okc1 (ai @len1 (ai @tk1 (ai @dr1 (ai @okc2 (ai @len2 (ai @tk2 (ai @dr2 @drop0)))))))))));refine gC (con_szBindingS hok3 hL3_0 hL3_1) ?_;clear F)
 (have F:=ai @okc0 (ai @len0 (ai @tk0 (ai @dr0 (ai @okc1 (ai @len1 (ai @tk1 (ai @dr1 (ai @okc2 (ai @len2 (ai @tk2 (ai @dr2 @drop0)))))))))));refine gR ?_;clear F)
 by_cases hb3:((rows3.length+bulkRows rows3:Nat):Int)<=L3
 rotate_left
 ·have n1:sub L3 (rows3.length+bulkRows rows3:Nat)=-1:=sub_neg (by omega)
  have n2:(-1:Int) < 0:=by omega
  (have F:=ai @n1 @n2;refine gG ?_;exact gT)
 have nq3:sub L3 (rows3.length+bulkRows rows3:Nat)=L3 - ((rows3.length+bulkRows rows3:Nat):Nat):=sub_pos (by omega)
 rw [nq3]
 clear nq3
 have hB3:rows3.length+bulkRows rows3<=1048576:=by omega
 have hL4_0:(0:Int)<=L3 - ((rows3.length+bulkRows rows3:Nat):Nat):=by omega
 have hL4_1:(L3:Int) - ((rows3.length+bulkRows rows3:Nat):Nat)<=1048576:=by omega
 generalize hgl3:(L3:Int) - ((rows3.length+bulkRows rows3:Nat):Nat)=L4 at *
 clear hgl3
 have n2:¬ (L4 < 0):=by omega
 (have F:=ai @n2 (ai @okc0 (ai @len0 (ai @tk0 (ai @dr0 (ai @okc1 (ai @len1 (ai @tk1 (ai @dr1 (ai @okc2 (ai @len2 (ai @tk2 (ai @dr2 @drop0))))))))))));refine gG ?_;clear F)
 clear n2 hb3
 have hsp:=hsp0 hB0 hB1 hB2 hB3
 have him:=him0 hB0 hB1 hB2 hB3
 have cT0:=con_toSignature hok0 hB0
 have cT1:=con_toTerm hok1 hB1
 have cT2:=con_toTerm hok2 hB2
 have cT3:=con_toBindingS hok3 hB3
 refine gB ?_
 (have F:=ai @okc0 (ai @len0 (ai @tk0 (ai @dr0 (ai @okc1 (ai @len1 (ai @tk1 (ai @dr1 (ai @okc2 (ai @len2 (ai @tk2 (ai @dr2 @drop0)))))))))));refine gC (cT0) ?_;clear F)
 (have F:=ai @okc0 (ai @len0 (ai @tk0 (ai @dr0 (ai @okc1 (ai @len1 (ai @tk1 (ai @dr1 (ai @okc2 (ai @len2 (ai @tk2 (ai @dr2 @drop0)))))))))));refine gC (cT1) ?_;clear F)
 (have F:=ai @okc0 (ai @len0 (ai @tk0 (ai @dr0 (ai @okc1 (ai @len1 (ai @tk1 (ai @dr1 (ai @okc2 (ai @len2 (ai @tk2 (ai @dr2 @drop0)))))))))));refine gC (cT2) ?_;clear F)
 (have F:=ai @okc0 (ai @len0 (ai @tk0 (ai @dr0 (ai @okc1 (ai @len1 (ai @tk1 (ai @dr1 (ai @okc2 (ai @len2 (ai @tk2 (ai @dr2 @drop0)))))))))));refine gC (cT3) ?_;clear F)
 (have F:=ai @okc0 (ai @len0 (ai @tk0 (ai @dr0 (ai @okc1 (ai @len1 (ai @tk1 (ai @dr1 (ai @okc2 (ai @len2 (ai @tk2 (ai @dr2 @drop0)))))))))));refine gC (hsp) ?_;clear F)
 (have F:=ai @okc0 (ai @len0 (ai @tk0 (ai @dr0 (ai @okc1 (ai @len1 (ai @tk1 (ai @dr1 (ai @okc2 (ai @len2 (ai @tk2 (ai @dr2 @drop0)))))))))));refine gR ?_;clear F)
 (have F:=ai @okc0 (ai @len0 (ai @tk0 (ai @dr0 (ai @okc1 (ai @len1 (ai @tk1 (ai @dr1 (ai @okc2 (ai @len2 (ai @tk2 (ai @dr2 @drop0)))))))))));refine gG ?_;clear F)
 refine gB ?_
 (have F:=ai @okc0 (ai @len0 (ai @tk0 (ai @dr0 (ai @okc1 (ai @len1 (ai @tk1 (ai @dr1 (ai @okc2 (ai @len2 (ai @tk2 (ai @dr2 @drop0)))))))))));refine gC (cT0) ?_;clear F)
 (have F:=ai @okc0 (ai @len0 (ai @tk0 (ai @dr0 (ai @okc1 (ai @len1 (ai @tk1 (ai @dr1 (ai @okc2 (ai @len2 (ai @tk2 (ai @dr2 @drop0)))))))))));refine gR ?_;clear F)
 (have F:=ai @okc0 (ai @len0 (ai @tk0 (ai @dr0 (ai @okc1 (ai @len1 (ai @tk1 (ai @dr1 (ai @okc2 (ai @len2 (ai @tk2 (ai @dr2 @drop0)))))))))));refine gG ?_;clear F)
 refine gB ?_
 (have F:=ai @okc0 (ai @len0 (ai @tk0 (ai @dr0 (ai @okc1 (ai @len1 (ai @tk1 (ai @dr1 (ai @okc2 (ai @len2 (ai @tk2 (ai @dr2 @drop0)))))))))));refine gC (cT1) ?_;clear F)
 (have F:=ai @okc0 (ai @len0 (ai @tk0 (ai @dr0 (ai @okc1 (ai @len1 (ai @tk1 (ai @dr1 (ai @okc2 (ai @len2 (ai @tk2 (ai @dr2 @drop0)))))))))));refine gR ?_;clear F)
 (have F:=ai @okc0 (ai @len0 (ai @tk0 (ai @dr0 (ai @okc1 (ai @len1 (ai @tk1 (ai @dr1 (ai @okc2 (ai @len2 (ai @tk2 (ai @dr2 @drop0)))))))))));refine gG ?_;clear F)
 refine gB ?_
 (have F:=ai @okc0 (ai @len0 (ai @tk0 (ai @dr0 (ai @okc1 (ai @len1 (ai @tk1 (ai @dr1 (ai @okc2 (ai @len2 (ai @tk2 (ai @dr2 @drop0)))))))))));refine gC (cT2) ?_;clear F)
 (have F:=ai @okc0 (ai @len0 (ai @tk0 (ai @dr0 (ai @okc1 (ai @len1 (ai @tk1 (ai @dr1 (ai @okc2 (ai @len2 (ai @tk2 (ai @dr2 @drop0)))))))))));refine gR ?_;clear F)
 (have F:=ai @okc0 (ai @len0 (ai @tk0 (ai @dr0 (ai @okc1 (ai @len1 (ai @tk1 (ai @dr1 (ai @okc2 (ai @len2 (ai @tk2 (ai @dr2 @drop0)))))))))));refine gG ?_;clear F)
 refine gB ?_
 (have F:=ai @okc0 (ai @len0 (ai @tk0 (ai @dr0 (ai @okc1 (ai @len1 (ai @tk1 (ai @dr1 (ai @okc2 (ai @len2 (ai @tk2 (ai @dr2 @drop0)))))))))));refine gC (cT3) ?_;clear F)
 (have F:=ai @okc0 (ai @len0 (ai @tk0 (ai @dr0 (ai @okc1 (ai @len1 (ai @tk1 (ai @dr1 (ai @okc2 (ai @len2 (ai @tk2 (ai @dr2 @drop0)))))))))));refine gR ?_;clear F)
 (have F:=ai @okc0 (ai @len0 (ai @tk0 (ai @dr0 (ai @okc1 (ai @len1 (ai @tk1 (ai @dr1 (ai @okc2 (ai @len2 (ai @tk2 (ai @dr2 @drop0)))))))))));refine gG ?_;clear F)
 refine gB ?_
 (have F:=ai @okc0 (ai @len0 (ai @tk0 (ai @dr0 (ai @okc1 (ai @len1 (ai @tk1 (ai @dr1 (ai @okc2 (ai @len2 (ai @tk2 (ai @dr2 @drop0)))))))))));refine gC (him) ?_;clear F)
 (have F:=ai @okc0 (ai @len0 (ai @tk0 (ai @dr0 (ai @okc1 (ai @len1 (ai @tk1 (ai @dr1 (ai @okc2 (ai @len2 (ai @tk2 (ai @dr2 @drop0)))))))))));refine gR ?_;clear F)
 (have F:=ai @okc0 (ai @len0 (ai @tk0 (ai @dr0 (ai @okc1 (ai @len1 (ai @tk1 (ai @dr1 (ai @okc2 (ai @len2 (ai @tk2 (ai @dr2 (ai @drop0 @beq_self_eq_true.{0}))))))))))));refine gG ?_;clear F)
 refine gB ?_
 (have F:=ai @okc0 (ai @len0 (ai @tk0 (ai @dr0 (ai @okc1 (ai @len1 (ai @tk1 (ai @dr1 (ai @okc2 (ai @len2 (ai @tk2 (ai @dr2 @drop0)))))))))));refine gC (cT0) ?_;clear F)
 (have F:=ai @okc0 (ai @len0 (ai @tk0 (ai @dr0 (ai @okc1 (ai @len1 (ai @tk1 (ai @dr1 (ai @okc2 (ai @len2 (ai @tk2 (ai @dr2 @drop0)))))))))));refine gC (con_eqSignature hok0) ?_;clear F)
 (have F:=ai @okc0 (ai @len0 (ai @tk0 (ai @dr0 (ai @okc1 (ai @len1 (ai @tk1 (ai @dr1 (ai @okc2 (ai @len2 (ai @tk2 (ai @dr2 @drop0)))))))))));refine gR ?_;clear F)
 (have F:=ai @okc0 (ai @len0 (ai @tk0 (ai @dr0 (ai @okc1 (ai @len1 (ai @tk1 (ai @dr1 (ai @okc2 (ai @len2 (ai @tk2 (ai @dr2 @drop0)))))))))));refine gG ?_;clear F)
 refine gB ?_
 (have F:=ai @okc0 (ai @len0 (ai @tk0 (ai @dr0 (ai @okc1 (ai @len1 (ai @tk1 (ai @dr1 (ai @okc2 (ai @len2 (ai @tk2 (ai @dr2 @drop0)))))))))));refine gC (cT1) ?_;clear F)
 (have F:=ai @okc0 (ai @len0 (ai @tk0 (ai @dr0 (ai @okc1 (ai @len1 (ai @tk1 (ai @dr1 (ai @okc2 (ai @len2 (ai @tk2 (ai @dr2 @drop0)))))))))));refine gC (con_eqTerm hok1) ?_;clear F)
 (have F:=ai @okc0 (ai @len0 (ai @tk0 (ai @dr0 (ai @okc1 (ai @len1 (ai @tk1 (ai @dr1 (ai @okc2 (ai @len2 (ai @tk2 (ai @dr2 @drop0)))))))))));refine gR ?_;clear F)
 (have F:=ai @okc0 (ai @len0 (ai @tk0 (ai @dr0 (ai @okc1 (ai @len1 (ai @tk1 (ai @dr1 (ai @okc2 (ai @len2 (ai @tk2 (ai @dr2 @drop0)))))))))));refine gG ?_;clear F)
 refine gB ?_
 (have F:=ai @okc0 (ai @len0 (ai @tk0 (ai @dr0 (ai @okc1 (ai @len1 (ai @tk1 (ai @dr1 (ai @okc2 (ai @len2 (ai @tk2 (ai @dr2 @drop0)))))))))));refine gC (cT2) ?_;clear F)
 (have F:=ai @okc0 (ai @len0 (ai @tk0 (ai @dr0 (ai @okc1 (ai @len1 (ai @tk1 (ai @dr1 (ai @okc2 (ai @len2 (ai @tk2 (ai @dr2 @drop0)))))))))));refine gC (con_eqTerm hok2) ?_;clear F)
 (have F:=ai @okc0 (ai @len0 (ai @tk0 (ai @dr0 (ai @okc1 (ai @len1 (ai @tk1 (ai @dr1 (ai @okc2 (ai @len2 (ai @tk2 (ai @dr2 @drop0)))))))))));refine gR ?_;clear F)
 (have F:=ai @okc0 (ai @len0 (ai @tk0 (ai @dr0 (ai @okc1 (ai @len1 (ai @tk1 (ai @dr1 (ai @okc2 (ai @len2 (ai @tk2 (ai @dr2 @drop0)))))))))));refine gG ?_;clear F)
 refine gB ?_
 (have F:=ai @okc0 (ai @len0 (ai @tk0 (ai @dr0 (ai @okc1 (ai @len1 (ai @tk1 (ai @dr1 (ai @okc2 (ai @len2 (ai @tk2 (ai @dr2 @drop0)))))))))));refine gC (cT3) ?_;clear F)
 (have F:=ai @okc0 (ai @len0 (ai @tk0 (ai @dr0 (ai @okc1 (ai @len1 (ai @tk1 (ai @dr1 (ai @okc2 (ai @len2 (ai @tk2 (ai @dr2 @drop0)))))))))));refine gC (con_eqBindingS hok3) ?_;clear F)
 (have F:=ai @okc0 (ai @len0 (ai @tk0 (ai @dr0 (ai @okc1 (ai @len1 (ai @tk1 (ai @dr1 (ai @okc2 (ai @len2 (ai @tk2 (ai @dr2 @drop0)))))))))));refine gR ?_;clear F)
 (have F:=ai @okc0 (ai @len0 (ai @tk0 (ai @dr0 (ai @okc1 (ai @len1 (ai @tk1 (ai @dr1 (ai @okc2 (ai @len2 (ai @tk2 (ai @dr2 @drop0)))))))))));refine gG ?_;exact gT)
theorem lawExactIsUnifier (w:World) (hT:tabOk w) (row0:List C) (S0:Nat->Prop) (us0:List Value) (hok0:okRow (sigF) row0) (hv0:RepVals w S0 row0 us0) (row1:List C) (S1:Nat->Prop) (us1:List Value) (hok1:okRow (fieldsOf .term) row1) (hv1:RepVals w S1 row1 us1) (row2:List C) (S2:Nat->Prop) (us2:List Value) (hok2:okRow (fieldsOf .term) row2) (hv2:RepVals w S2 row2 us2) (rows3:List (List C)) (S3:Nat->Prop) (u3:Value) (hok3:okRows (fieldsOf .binding) rows3) (hv3:Rep w S3 (.sl rows3) u3) :
  Calls Tryz.prog 4 #[(.agg us0.toArray:Value),(.agg us1.toArray:Value),(.agg us2.toArray:Value),u3] w fun e w'=>e=.returned (.bool true)∧Below w.heap.size w w':=by
 obtain ⟨g,rfl,k0⟩:=decSgn hok0
 obtain ⟨x,rfl,k1⟩:=decTm hok1
 obtain ⟨y,rfl,k2⟩:=decTm hok2
 obtain ⟨l,rfl,k3⟩:=decBds hok3
 have hc:=(con_lawIsUnifier hok0 hok1 hok2 hok3 (fun b0 b1 b2 b3=>con_specUnif k0 k1 b1 k2 b2 k3 b3) (fun b0 b1 b2 b3=>con_implUnif k0 k1 b1 k2 b2 k3 b3)).2 w (fun b=>b < w.heap.size∧b≠2) [(.agg us0.toArray:Value),(.agg us1.toArray:Value),(.agg us2.toArray:Value),u3] (fun b hb=>⟨hb.1,hb.2⟩) (tab_in hT) hT
  ⟨⟨us0,rfl,RepVals.off (tab_u8 hT) _ _ _ hok0 hv0.inside'⟩,⟨us1,rfl,RepVals.off (tab_u8 hT) _ _ _ hok1 hv1.inside'⟩,⟨us2,rfl,RepVals.off (tab_u8 hT) _ _ _ hok2 hv2.inside'⟩,Rep.off (tab_u8 hT) (.sl .binding) _ _ (by simpa only [okC] using hok3) ((Rep.inside _ _ hv3).mono (fun b hb=>hb.2)),trivial⟩
 refine hc.mono fun e w' ⟨v,h1,h2,h3,h4⟩=>⟨?_,h2.belowT hT h3⟩
 have h4:v=.bool true:=by simpa [retA,ARel,DRel,Rep] using h4
 rw [h1,h4]
end Go.Proofs.YtffmjghcpgpfpaaGreatDoor
namespace Go.Proofs.YtffmjghcpgpfpaaGreatDoor
open Go.ChangeShapes Go.WideShapes Go.ChangeAt Go.RowKit Go.Deep
set_option maxRecDepth 100000 in
theorem isUnifier_holds_lifted (os:Os) (started:os.Started) (H:Type) (enc:TypeId × Value->H) :
  ReturnsInHanded {} Tryz.checked os 4 .any (fun w args=>(Rows.fnExactIsUnifierSpec.pre enc Tryz.prog Tryz.f4 Rows.fnExactIsUnifierRow.domain false w args∧laidMetH Tryz.prog seatLaid w)∧sizedMet enc Tryz.prog Tryz.f4 (OpenSpec.ofChange Rows.fnExactIsUnifierSpec) false w args) (Rows.fnExactIsUnifierSpec.post enc Tryz.prog Tryz.f4 false true false false):=by
 refine returns_door (C:=Tryz.checked) (X:=fun w _=>laidMetH Tryz.prog seatLaid w) (fun _ _ _ hh h=>h.of_heap hh) own started (by kernel_rfl) Tryz.func4
  (ChangeSpec.witness_shaped (enc:=enc) (C:=Tryz.checked) (os:=os) (X:=fun w _=>laidMetH Tryz.prog seatLaid w) false (World.doorLaid Tryz.prog 24 os) #[.agg #[.slice none 0 0,.slice none 0 0,.slice none 0 0],.agg #[.int .i64 0,.string .empty,.int .i64 0,.slice none 0 0],.agg #[.int .i64 0,.string .empty,.int .i64 0,.slice none 0 0],.slice none 0 0] 8 rfl (World.shaped_of_RefB (by kernel_rfl) (by kernel_rfl)) (by kernel_rfl) (by kernel_rfl) (by kernel_rfl) (door_met os _)) ?_
 intro W base args ds gs before hval0 hW _ _ hL hS _
 have hT:=tabOk_of hL hS
 have hval:∀ (j:Nat) t v,Tryz.f4.params[j]?=some t->args[j]?=some v->Value.okWide Tryz.prog W .any base t v:=hval0
 have hW':=hW
 obtain ⟨p,q,hA0,hV,rfl,_,_⟩:=hW
 have hA:DataW.TrodAll enc Tryz.prog W 0 (fun _=>true) true Tryz.f4.params.toList args.toList ds p:=hA0
 rw [Tryz.params4] at hA hval
 obtain ⟨v0,vs0,d0,ds0,p0,q0,hargs0,hd0,hp0,h0,r0⟩:=trodAll_cons hA
 obtain ⟨v1,vs1,d1,ds1,p1,q1,hargs1,hd1,hp1,h1,r1⟩:=trodAll_cons r0
 obtain ⟨v2,vs2,d2,ds2,p2,q2,hargs2,hd2,hp2,h2,r2⟩:=trodAll_cons r1
 obtain ⟨v3,vs3,d3,ds3,p3,q3,hargs3,hd3,hp3,h3,r3⟩:=trodAll_cons r2
 obtain ⟨e4,e4d,_⟩:=trodAll_nil r3
 rw [e4] at hargs3
 rw [hargs3] at hargs2
 rw [hargs2] at hargs1
 rw [hargs1] at hargs0
 obtain rfl:args=#[v0,v1,v2,v3]:=by cases args;simp_all
 rw [e4d] at hd3
 rw [hd3] at hd2
 rw [hd2] at hd1
 rw [hd1] at hd0
 subst hd0
 obtain ⟨rfl,rfl⟩:=trodVars_none hV
 obtain ⟨cs0,rfl,_⟩:=okWide_struct Tryz.underlying28 (hval 0 28 v0 rfl rfl)
 obtain ⟨fuel0,hf0⟩:=h0
 obtain ⟨row0,hok0,hrep0⟩:=open_row seatTR fuel0 _ _ _ _ ty_Signature hf0
 have e0c:(Value.agg cs0).cells.toList.toArray=cs0:=by simp [Value.cells]
 obtain ⟨cs1,rfl,_⟩:=okWide_struct Tryz.underlying32 (hval 1 32 v1 rfl rfl)
 obtain ⟨fuel1,hf1⟩:=h1
 obtain ⟨row1,hok1,hrep1⟩:=open_row seatTR fuel1 _ _ _ _ ty_Term hf1
 have e1c:(Value.agg cs1).cells.toList.toArray=cs1:=by simp [Value.cells]
 obtain ⟨cs2,rfl,_⟩:=okWide_struct Tryz.underlying32 (hval 2 32 v2 rfl rfl)
 obtain ⟨fuel2,hf2⟩:=h2
 obtain ⟨row2,hok2,hrep2⟩:=open_row seatTR fuel2 _ _ _ _ ty_Term hf2
 have e2c:(Value.agg cs2).cells.toList.toArray=cs2:=by simp [Value.cells]
 obtain ⟨fuel3,hf3⟩:=h3
 have hone3:=okWide_one Tryz.underlying52 (hval 3 52 v3 rfl rfl)
 rw [hone3] at hf3
 obtain ⟨row3,hok3,hrep3⟩:=open_row seatTR fuel3 _ _ _ _ ty_s_binding hf3
 obtain ⟨rows3,hok3',hrep3'⟩:=open_sl hok3 hrep3
 have hlaw:=lawExactIsUnifier W hT row0 _ _ hok0 hrep0 row1 _ _ hok1 hrep1 row2 _ _ hok2 hrep2 rows3 _ _ hok3' hrep3'
 rw [e0c,e1c,e2c] at hlaw
 refine hlaw.mono fun e W' ⟨he,hb⟩=>?_
 subst he
 exact ⟨_,rfl,law_post laidOut rfl rfl Tryz.underlying4 (by rw [Tryz.params4];decide +kernel) hW' rfl hb⟩
set_option maxHeartbeats 400000000 in
set_option maxRecDepth 100000 in
theorem isUnifier_holds_closed:joinedFacts Tryz.checked.prog 4 Tryz.f4 Rows.fnExactIsUnifierSpec Rows.fnExactIsUnifierRow=true:=by
 unfold joinedFacts
 simp only [Bool.and_eq_true]
 and_intros
 all_goals as_aux_lemma=>kernel_rfl
theorem isUnifier_holds_named:Tryz.checked.prog.funcNamed Rows.fnExactIsUnifierRow.func=some 4:=by kernel_rfl
theorem isUnifier_holds:Rows.FnExactIsUnifierSaid :=
 OpenClaim.holds_of_wide 4 Tryz.f4 rfl rfl rfl rfl rfl rfl rfl ⟨rfl,rfl,rfl,rfl,rfl⟩ rfl rfl rfl rfl rfl isUnifier_holds_named Tryz.func4 isUnifier_holds_closed
  (of_decide_eq_true (by kernel_rfl)) (by unfold Func.isWrapper;rw [if_neg (of_decide_eq_false (by kernel_rfl))];exact ⟨rfl,rfl⟩)
  (fun os started H enc _=>isUnifier_holds_lifted os started H enc)
theorem isUnifier_holds_card:Rows.FnExactIsUnifierCardSaid :=
 Claim7.holds_tied_plain_at .later [] [.data,.data,.data] true _ false isUnifier_holds (fun _ h=>by cases h) (by kernel_rfl) (fun _ h=>by cases h) fnExactIsUnifier_row_tie rfl ⟨rfl,rfl⟩ (by kernel_rfl) rfl
  (fun f fn hf hfn=>by
   obtain rfl:f=4:=Option.some.inj (isUnifier_holds_named.symm.trans hf) |>.symm
   obtain rfl:fn=Tryz.f4:=(Option.some.inj (Tryz.func4.symm.trans hfn)).symm
   refine ⟨by kernel_rfl,fun j t ht=>?_⟩
   rw [Tryz.params4] at ht
   have hm:=Array.mem_of_getElem? ht
   have hw:([28,32,32,52]:List TypeId).all (fun t=>!Tryz.prog.wantsStandIn t)=true:=by kernel_rfl
   have:=List.all_eq_true.1 hw t (by simpa using hm)
   have h2:Tryz.prog.wantsStandIn t=false:=by simpa using this
   exact h2)
  (by kernel_rfl)
#print axioms isUnifier_holds_card
end Go.Proofs.YtffmjghcpgpfpaaGreatDoor
