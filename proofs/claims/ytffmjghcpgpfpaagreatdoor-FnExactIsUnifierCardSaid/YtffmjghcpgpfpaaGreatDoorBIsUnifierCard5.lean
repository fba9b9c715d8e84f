/-
  Part of a proof: Sk, Sj, Qv, Bx, QcSignature, QcTerm, QcBindingS.
-/
import Derived.Test.YtffmjghcpgpfpaaGreatDoorBIsUnifierCard0
import Derived.Test.YtffmjghcpgpfpaaGreatDoorBIsUnifierCard1
import Derived.Test.YtffmjghcpgpfpaaGreatDoorBIsUnifierCard2
import Derived.Test.YtffmjghcpgpfpaaGreatDoorBIsUnifierCard3
import Derived.Test.YtffmjghcpgpfpaaGreatDoorBIsUnifierCard4
set_option linter.unusedSimpArgs false
set_option linter.unusedVariables false
namespace Go.Proofs.YtffmjghcpgpfpaaGreatDoor
open Go.RowKit
section
variable {g:Sgn} {mc:C}
noncomputable def cvN (g:Sgn) (o:Opr) (sets:List Nat) (i j:Nat):Nat:=ofB (ChB (Rel2 g o) sets i j) g.sorts.names.length
noncomputable def chL (g:Sgn) (o:Opr) (sets:List Nat) (r:Nat):List Nat:=(List.range sets.length).map fun k=>if k < r then 0 else cvN g o sets r (k+1)
theorem chL_len {o:Opr} {sets:List Nat} {r:Nat}:(chL g o sets r).length=sets.length:=by simp [chL]
theorem chL_get {o:Opr} {sets:List Nat} {r k:Nat} (h1:r<=k) (h2:k < sets.length):(chL g o sets r)[k]?=some (cvN g o sets r (k+1)):=by
 unfold chL
 rw [List.getElem?_map,List.getElem?_range h2,Option.map_some,if_neg (by omega)]
def FilB (g:Sgn) (o:Opr) (sets:List Nat) (p k:Nat) (L:List Nat):Prop:=L.length=sets.length∧∀ j,j < sets.length->L[j]?=some (if j < p then 0 else if j < k then cvN g o sets p (j+1) else 0)
theorem FilB.all {o:Opr} {sets:List Nat} {p:Nat} {L:List Nat} (h:FilB g o sets p sets.length L):L=chL g o sets p:=by
 refine List.ext_getElem? fun j=>?_
 by_cases hj:j < sets.length
 ·rw [h.2 j hj]
  unfold chL
  rw [List.getElem?_map,List.getElem?_range hj,Option.map_some]
  by_cases h1:j < p
  ·rw [if_pos h1,if_pos h1]
  ·rw [if_neg h1,if_neg h1,if_pos hj]
 ·rw [List.getElem?_eq_none (by rw [h.1];omega),List.getElem?_eq_none (by rw [chL_len];omega)]
theorem FilB.next {o:Opr} {sets:List Nat} {p k:Nat} {L:List Nat} (h:FilB g o sets p k L) (hp:p<=k) (hk:k < sets.length):FilB g o sets p (k+1) (L.set k (cvN g o sets p (k+1))):=by
 refine ⟨by rw [List.length_set,h.1],fun j hj=>?_⟩
 by_cases e:j=k
 ·subst e
  rw [List.getElem?_set_self (by rw [h.1];exact hj),if_neg (by omega),if_pos (by omega)]
 ·rw [List.getElem?_set_ne (Ne.symm e),h.2 j hj]
  by_cases h1:j < p
  ·rw [if_pos h1,if_pos h1]
  ·rw [if_neg h1,if_neg h1]
   by_cases h2:j < k
   ·rw [if_pos h2,if_pos (by omega)]
   ·rw [if_neg h2,if_neg (by omega)]
theorem FilB.zero {o:Opr} {sets:List Nat} {p k:Nat} {L:List Nat} (h:FilB g o sets p k L) (hp:p<=k) (hk:k < sets.length):L.set k 0=L:=by
 have h1:=h.2 k hk
 rw [if_neg (by omega),if_neg (by omega)] at h1
 refine List.ext_getElem? fun j=>?_
 by_cases e:j=k
 ·subst e
  rw [List.getElem?_set_self (by rw [h.1];exact hk),h1]
 ·rw [List.getElem?_set_ne (Ne.symm e)]
theorem FilB.start {o:Opr} {sets:List Nat} {p s:Nat} (hs:sets[p]?=some s) (h:s < 2 ^ g.sorts.names.length):FilB g o sets p (p+1) ((List.replicate sets.length 0).set p s):=by
 have hp:=(List.getElem?_eq_some_iff.1 hs).1
 refine ⟨by simp,fun j hj=>?_⟩
 by_cases e:j=p
 ·subst e
  rw [List.getElem?_set_self (by simpa using hj),if_neg (by omega),if_pos (by omega)]
  unfold cvN
  rw [ch_one hs h]
 ·rw [List.getElem?_set_ne (Ne.symm e),List.getElem?_replicate,if_pos hj]
  by_cases h1:j < p
  ·rw [if_pos h1]
  ·rw [if_neg h1,if_neg (by omega)]
theorem any_two (hg:SgnOk g) {i:Nat} {o:Opr} (ho:g.ops[i]?=some o) (ha:o.assoc=true) (hc:o.comm=false) {s t N:Nat}:ofB (AnyB g o [s,t]) N=ofB (fun b=>Two (Rel2 g o) s t b) N:=by
 refine ofB_congr fun b _=>?_
 unfold AnyB
 rw [give_two (Opr.deg2 hg ho (.inl ha)),hc]
 simp
def dRow (d:List Nat):List C:=[.sl (nR d)]
theorem dRow_u:∀ d,dRow d=[.sl (nR d)]:=fun _=>rfl
theorem dRow_0 (n:Nat):(List.replicate n ([]:List Nat)).map dRow=List.replicate n [C.sl []]:=by
 rw [List.map_replicate];rfl
theorem dRow_B (Ds:List (List Nat)):rowsB 1 (Ds.map dRow)=true:=rowsB_map (e:=dRow) (n:=1) (fun _=>rfl) Ds
theorem dat_dRow {a:Option Addr} {n cap:Nat} {L:List Nat} {Ds:List (List Nat)} {p:Nat}:datRw a n cap (nR L) ((Ds.map dRow).set p [.lit (.slice a n cap)])=(Ds.set p L).map dRow:=by
 have h1:∀ d,(dRow d).map (datC a n cap (nR L))=dRow d:=fun d=>rfl
 have h2:[C.lit (.slice a n cap)].map (datC a n cap (nR L))=dRow L:=by simp [datC,dRow]
 unfold datRw
 rw [List.map_set,h2,List.map_set,List.map_map]
 congr 1
theorem set_B {a:Option Addr} {n cap:Nat} {Ds:List (List Nat)} {p:Nat} (hok:okCell (.lit (.slice a n cap))=true):rowsB 1 ((Ds.map dRow).set p [.lit (.slice a n cap)])=true:=by
 have h:=dRow_B Ds
 unfold rowsB at h ⊢
 rw [List.all_eq_true] at h ⊢
 intro r hr
 rcases List.mem_or_eq_of_mem_set hr with h1 | h1
 ·exact h r h1
 ·subst h1
  simp [hok]
set_option maxHeartbeats 32000000 in
set_option maxRecDepth 100000 in
theorem con_combineRow (hg:SgnOk g) {op:Int} {o:Opr} (h0:0<=op) (ho:g.ops[op.toNat]?=some o) (ha:o.assoc=true) (hc:o.comm=false) (sets:List Nat) (hn1:1<=sets.length) (hn7:sets.length<=7) (hs:∀ s∈sets,s < 2 ^ g.sorts.names.length):Con e0 177 [.one (.ptr (encX g mc)),.one (.lit (.int .i64 op)),.one (.sl (nR sets))] [.one (.lit (.int .i64 ((cvN g o sets 0 sets.length:Nat):Int)))]:=by
 have hN:=hg.sorts.n8
 have rl:=nR_len (l:=sets)
 have rr:=nR_rows (l:=sets)
 have hmx:((sets.length:Int)<=(maxApp:Int))=True:=eq_true (by unfold maxApp;omega)
 have hdeg:=Opr.deg2 hg ho (.inl ha)
 have hcv:∀ i j,cvN g o sets i j < 2 ^ g.sorts.names.length:=fun i j=>ofB_lt _ _
 have hRlt:=fun a c b (h:Rel2 g o a c b)=>Rel2.lt hg (List.mem_of_getElem? ho) h
 have w0:IntKind.i64.wrap ((sets.length:Int) - 1)=(sets.length:Int) - 1:=IntWalk.i64_in _ (by omega)
 refine gI (ts:=[.slot 6]) 142936512139207 Tryz.func177 ?_
 (have F:=ai @rl (ai @hmx (ai @Int.toNat_natCast (ai @w0 @tmz)));refine gG ?_;clear F)
 have hR0:=dRow_0 sets.length
 (have F:=ai @hR0 @tmz;refine gL (ι:=Nat × List (List Nat)) [8,9,10,11,19,41,47] [8] (fun x=>[(9,.d (.one (.lit (.int .i64 ((x.1:Int) - 1))))),(8,.buf 8)]) (fun x=>[(8,.buf none 29 1 (x.2.map dRow))]) (fun x=>x.1<=sets.length∧x.2.length=sets.length∧∀ r,x.1<=r->r < sets.length->x.2[r]?=some (chL g o sets r)) (fun x=>x.1) ((sets.length,List.replicate sets.length [])) (⟨Nat.le_refl _,by simp,fun r h1 h2=>absurd h1 (by omega)⟩) (fun x hx=>?_);clear F)
 obtain ⟨x,Ds⟩:=x
 obtain ⟨hx,hDl,hD⟩:=hx
 simp only at hx hDl hD
 dsimp only
 have hDB:=dRow_B Ds
 have hRl:(Ds.map dRow).length=sets.length:=by rw [List.length_map,hDl]
 cases x with
 | zero =>
  have q1:((0:Int)<=((0:Nat):Int) - 1)=False:=eq_false (by omega)
  have r0:=hD 0 (Nat.le_refl _) (by omega)
  have cg:=nR_get (chL_get (g:=g) (o:=o) (sets:=sets) (r:=0) (k:=sets.length - 1) (by omega) (by omega))
  rw [show sets.length - 1+1=sets.length by omega] at cg
  have w1:IntKind.i64.wrap ((sets.length:Int) - 1)=((sets.length - 1:Nat):Int):=wrapN (by omega) (by omega) (by omega)
  have cl:=nR_len (l:=chL g o sets 0)
  have cr:=nR_rows (l:=chL g o sets 0)
  rw [chL_len] at cl
  have i1:(0 < sets.length)=True:=eq_true (by omega)
  have i2:(sets.length - 1 < sets.length)=True:=eq_true (by omega)
  (have F:=ai @q1 (ai @r0 (ai @hDl (ai @hDB (ai @dRow_u (ai @cg (ai @cl (ai @cr (ai @i1 (ai @i2 (ai @w1 (ai @natInt @tmz)))))))))));refine gG ?_;exact gTd)
 | succ p =>
 have hp:p < sets.length:=by omega
 have q1:((0:Int)<=((p+1:Nat):Int) - 1)=True:=eq_true (by omega)
 have hpc:((p+1:Nat):Int) - 1=(p:Int):=by omega
 rw [hpc] at q1 ⊢
 obtain ⟨s,hsp⟩:∃ s,sets[p]?=some s:=⟨_,List.getElem?_eq_getElem hp⟩
 have r1:=nR_get hsp
 have hw1:=wrap1 (k:=p) (by omega)
 have hwm:IntKind.i64.wrap ((p:Int) - 1)=(p:Int) - 1:=IntWalk.i64_in _ (by omega)
 have i1:(p < sets.length)=True:=eq_true hp
 have hFs:=FilB.start (g:=g) (o:=o) hsp (hs s (List.mem_of_getElem? hsp))
 have nl0:(nR (List.replicate sets.length 0)).length=sets.length:=by rw [nR_len,List.length_replicate]
 have nr0:=nR_rows (l:=List.replicate sets.length 0)
 have ns0:=nR_set (l:=List.replicate sets.length 0) p s
 obtain ⟨z0,hz0⟩:∃ z,(List.replicate sets.length 0)[p]?=some z:=⟨_,List.getElem?_eq_getElem (by simpa using hp)⟩
 have ng0:=nR_get hz0
 (have F:=ai @q1 @tmz;have NN:StopAt 6:=trivial;refine gGn ?_;clear F NN)
 refine gB ?_
 (have F:=ai @hmx (ai @Int.toNat_natCast (ai @nR_0 @tmz));refine gP 4 ?_;clear F)
 generalize List.replicate sets.length 0=L0 at nl0 nr0 ns0 ng0 hFs ⊢
 refine gS 25 fun a cap=>?_
 rw [nl0]
 have hB8:=set_B (a:=a) (n:=sets.length) (cap:=cap) (Ds:=Ds) (p:=p) rfl
 have hl8:((Ds.map dRow).set p [.lit (.slice a sets.length cap)]).length=sets.length:=by rw [List.length_set,hRl]
 have hg8:((Ds.map dRow).set p [.lit (.slice a sets.length cap)])[p]?=some [.lit (.slice a sets.length cap)]:=List.getElem?_set_self (by rw [hRl];exact hp)
 have hr8:∀ r,p+1<=r->r < sets.length->((Ds.map dRow).set p [.lit (.slice a sets.length cap)])[r]?=some [.sl (nR (chL g o sets r))]:=fun r h1 h2=>by
  rw [List.getElem?_set_ne (by omega),List.getElem?_map,hD r h1 h2];rfl
 have hd8:=fun L=>dat_dRow (a:=a) (n:=sets.length) (cap:=cap) (L:=L) (Ds:=Ds) (p:=p)
 obtain ⟨z,hz⟩:∃ z,Ds[p]?=some z:=⟨_,List.getElem?_eq_getElem (by omega)⟩
 (have F:=ai @hDl (ai @hDB (ai @hz (ai @dRow_u (ai @i1 (ai @natInt @tmz)))));refine gR ?_;clear F)
 generalize (Ds.map dRow).set p [.lit (.slice a sets.length cap)]=R8 at hB8 hl8 hg8 hr8 hd8 ⊢
 (have F:=ai @hB8 (ai @hl8 (ai @hg8 (ai @nl0 (ai @nr0 (ai @ns0 (ai @ng0 (ai @r1 (ai @rl (ai @rr (ai @i1 (ai @hw1 (ai @natInt @tmz))))))))))));have NN:StopAt 9:=trivial;refine gGn ?_;clear F NN)
 generalize L0.set p s=L1 at hFs ⊢
 clear nl0 nr0 ns0 ng0 hz0 hz
 (have F:=@tmz;refine gL (ι:=Nat × List Nat) [10,11,41,47] [25] (fun y=>[(10,A.d (.one (.lit (.int .i64 y.1))))]) (fun y=>[(25,.buf (some (a,cap)) 3 1 (nR y.2))]) (fun y=>p+1<=y.1∧y.1<=sets.length∧FilB g o sets p y.1 y.2) (fun y=>sets.length - y.1) ((p+1,L1)) (⟨Nat.le_refl _,hp,hFs⟩) (fun y hy=>?_);clear F)
 clear hFs L1
 obtain ⟨k,L⟩:=y
 obtain ⟨hk1,hk2,hF⟩:=hy
 simp only at hk1 hk2 hF
 dsimp only
 by_cases hkl:k < sets.length
 rotate_left
 ·obtain rfl:k=sets.length:=by omega
  have hL:=hF.all
  subst hL
  have q2:((sets.length:Int) < (sets.length:Int))=False:=eq_false (by omega)
  have cl:=nR_len (l:=chL g o sets p)
  rw [chL_len] at cl
  have hd:=hd8 (chL g o sets p)
  (have F:=ai @q2 @tmz;have NN:StopAt 5:=trivial;refine gGn ?_;clear F NN)
  refine pDb 25 8 (by decide) ?_
  rw [cl,hd]
  have hfin:p<=sets.length∧(Ds.set p (chL g o sets p)).length=sets.length∧∀ r,p<=r->r < sets.length->(Ds.set p (chL g o sets p))[r]?=some (chL g o sets r):=⟨by omega,by rw [List.length_set,hDl],fun r h1 h2=>by
   by_cases e:r=p
   ·subst e;exact List.getElem?_set_self (by omega)
   ·rw [List.getElem?_set_ne (by omega)];exact hD r (by omega) h2⟩
  (have F:=ai @hwm @tmz;refine gG ?_;exact ⟨(p,Ds.set p (chL g o sets p)),hfin,gw,gw,by omega⟩)
 have q2:((k:Int) < (sets.length:Int))=True:=eq_true (by omega)
 have hwk:=wrap1 (k:=k) (by omega)
 have hz:=hF.zero (by omega) hkl
 have hzz:nR (L.set k 0)=nR L:=by rw [hz]
 (have F:=ai @q2 @tmz;refine gG ?_;clear F)
 (have F:=ai @hzz @tmz;refine gL (ι:=Nat × Nat) [11,47] [25] (fun z=>[(11,A.d (.one (.lit (.int .i64 z.1))))]) (fun z=>[(25,.buf (some (a,cap)) 3 1 (nR (L.set k z.2)))]) (fun z=>p<=z.1∧z.1<=k∧z.2=ofB (CutB (Rel2 g o) sets g.sorts.names.length p (k+1) (z.1+1)) g.sorts.names.length) (fun z=>k - z.1) ((p,0)) (⟨Nat.le_refl _,by omega,cut_start.symm⟩) (fun z hz=>?_);clear F)
 obtain ⟨m,v⟩:=z
 obtain ⟨hm1,hm2,hv⟩:=hz
 simp only at hm1 hm2 hv
 subst hv
 dsimp only
 by_cases hmk:m < k
 rotate_left
 ·obtain rfl:m=k:=by omega
  have q3:((m:Int) < (m:Int))=False:=eq_false (by omega)
  have e:ofB (CutB (Rel2 g o) sets g.sorts.names.length p (m+1) (m+1)) g.sorts.names.length=cvN g o sets p (m+1):=cut_end hs hRlt (by omega)
  rw [e]
  (have F:=ai @q3 (ai @hwk @tmz);refine gG ?_;exact ⟨(m+1,L.set m (cvN g o sets p (m+1))),⟨by omega,hkl,hF.next (by omega) hkl⟩,gw,gw,by omega⟩)
 have q3:((m:Int) < (k:Int))=True:=eq_true (by omega)
 have hwm1:=wrap1 (k:=m) (by omega)
 have hLm:=hF.2 m (by omega)
 rw [if_neg (by omega),if_pos hmk] at hLm
 have e:=fun b=>cut_step (R:=Rel2 g o) (sets:=sets) (N:=g.sorts.names.length) (i:=p) (j:=k+1) (k:=m+1) (b:=b) (by omega) (by omega)
 have e:ofB (CutB (Rel2 g o) sets g.sorts.names.length p (k+1) (m+1)) g.sorts.names.length ||| ofB (fun b=>Two (Rel2 g o) (cvN g o sets p (m+1)) (cvN g o sets (m+1) (k+1)) b) g.sorts.names.length=ofB (CutB (Rel2 g o) sets g.sorts.names.length p (k+1) (m+1+1)) g.sorts.names.length:=by
  rw [ofB_or]
  exact ofB_congr fun b _=>(e b).symm
 have cR:=con_results (mc:=mc) hg h0 ho [cvN g o sets p (m+1),cvN g o sets (m+1) (k+1)] (fun d hd=>hdeg d hd) (by simp) (fun s hs=>by
  simp only [List.mem_cons,List.not_mem_nil,or_false] at hs
  rcases hs with rfl | rfl <;> exact hcv _ _)
 rw [any_two hg ho ha hc] at cR
 have cR:=con_clipB cR
 have hor:=bits_or (small62 (ofB_lt (CutB (Rel2 g o) sets g.sorts.names.length p (k+1) (m+1)) g.sorts.names.length) hN) (small62 (ofB_lt (fun b=>Two (Rel2 g o) (cvN g o sets p (m+1)) (cvN g o sets (m+1) (k+1)) b) g.sorts.names.length) hN)
 rw [e] at hor
 have hv62:=small62 (ofB_lt (CutB (Rel2 g o) sets g.sorts.names.length p (k+1) (m+1)) g.sorts.names.length) hN
 clear e
 generalize ofB (fun b=>Two (Rel2 g o) (cvN g o sets p (m+1)) (cvN g o sets (m+1) (k+1)) b) g.sorts.names.length=tw at cR hor
 generalize ofB (CutB (Rel2 g o) sets g.sorts.names.length p (k+1) (m+1)) g.sorts.names.length=v at hor ⊢
 have nl:=nR_len (l:=L.set k v)
 rw [List.length_set,hF.1] at nl
 have nr:=nR_rows (l:=L.set k v)
 have g1:(nR (L.set k v))[k]?=some [.lit (.int .i64 v)]:=nR_get (List.getElem?_set_self (by rw [hF.1];exact hkl))
 have g2:(nR (L.set k v))[m]?=some [.lit (.int .i64 (cvN g o sets p (m+1)))]:=nR_get (by rw [List.getElem?_set_ne (by omega)];exact hLm)
 have g3:=hr8 (m+1) (by omega) (by omega)
 have g4:=nR_get (chL_get (g:=g) (o:=o) (sets:=sets) (r:=m+1) (k:=k) (by omega) hkl)
 have cl:=nR_len (l:=chL g o sets (m+1))
 rw [chL_len] at cl
 have cr:=nR_rows (l:=chL g o sets (m+1))
 have ns:=fun x=>nR_set (l:=L.set k v) k x
 simp only [List.set_set] at ns
 have i2:(k < sets.length)=True:=eq_true hkl
 have i3:(m < sets.length)=True:=eq_true (by omega)
 have i4:(m+1 < sets.length)=True:=eq_true (by omega)
 (have F:=ai @q3 @tmz;have NN:StopAt 14:=trivial;refine gGn ?_;clear F NN)
 refine gB ?_
 (have F:=ai @hB8 (ai @hl8 (ai @hg8 (ai @nl (ai @nr (ai @g1 (ai @g2 (ai @g3 (ai @g4 (ai @cl (ai @cr (ai @i1 (ai @i2 (ai @i3 (ai @i4 (ai @hwm1 (ai @natInt @tmz))))))))))))))));refine gC (cR) ?_;clear F)
 (have F:=ai @nl (ai @nr (ai @g1 (ai @hor (ai @ns (ai @i2 (ai @natInt @tmz))))));refine gR ?_;clear F)
 (have F:=ai @hwm1 @tmz;refine gG ?_;exact ⟨(m+1,ofB (CutB (Rel2 g o) sets g.sorts.names.length p (k+1) (m+1+1)) g.sorts.names.length),⟨by omega,hmk,rfl⟩,gw,gw,by omega⟩)
end
theorem idx_inj {n i j i' j':Nat} (hj:j < n) (hj':j' < n) (h:i * n+j=i' * n+j'):i=i'∧j=j':=by
 have h1:(i * n+j) / n=i:=by rw [Nat.mul_comm,Nat.mul_add_div (by omega),Nat.div_eq_of_lt hj,Nat.add_zero]
 have h2:(i' * n+j') / n=i':=by rw [Nat.mul_comm,Nat.mul_add_div (by omega),Nat.div_eq_of_lt hj',Nat.add_zero]
 rw [h] at h1
 have e:i=i':=by rw [<- h1,h2]
 subst e
 exact ⟨rfl,by omega⟩
theorem idx_lt {n i j:Nat} (hi:i < n) (hj:j < n):i * n+j < n * n:=by
 have:(i+1) * n<=n * n:=Nat.mul_le_mul_right n hi
 rw [Nat.succ_mul] at this
 omega
section
variable {g:Sgn}
def TabB (g:Sgn) (o:Opr) (sets:List Nat) (P:Nat->Nat->Prop) (T:List Nat):Prop:=T.length=sets.length * sets.length∧∀ i j,i<=j->j < sets.length->(P i j->T[i * sets.length+j]?=some (cvN g o sets i (j+1)))∧(¬ P i j->T[i * sets.length+j]?=some 0)
theorem TabB.start {o:Opr} {sets:List Nat} {P:Nat->Nat->Prop} (h:∀ i j,i<=j->¬ P i j):TabB g o sets P (List.replicate (sets.length * sets.length) 0):=⟨by simp,fun i j h1 h2=>⟨fun hp=>absurd hp (h i j h1),fun _=>by
 rw [List.getElem?_replicate,if_pos (idx_lt (by omega) h2)]⟩⟩
theorem TabB.next {o:Opr} {sets:List Nat} {P P':Nat->Nat->Prop} {T:List Nat} (h:TabB g o sets P T) {i j:Nat} (hij:i<=j) (hj:j < sets.length) (h1:∀ i' j',i'<=j'->j' < sets.length->(P' i' j' ↔ P i' j'∨(i'=i∧j'=j))):TabB g o sets P' (T.set (i * sets.length+j) (cvN g o sets i (j+1))):=by
 refine ⟨by rw [List.length_set,h.1],fun i' j' q1 q2=>?_⟩
 have hl:=idx_lt (n:=sets.length) (i:=i) (j:=j) (by omega) hj
 by_cases e:i'=i∧j'=j
 ·obtain ⟨rfl,rfl⟩:=e
  exact ⟨fun _=>List.getElem?_set_self (by rw [h.1];exact hl),fun hn=>absurd ((h1 _ _ q1 q2).2 (.inr ⟨rfl,rfl⟩)) hn⟩
 ·have hne:i * sets.length+j≠i' * sets.length+j':=fun q=>e (by have:=idx_inj hj q2 q;exact ⟨this.1.symm,this.2.symm⟩)
  rw [List.getElem?_set_ne hne]
  have h2:=h.2 i' j' q1 q2
  exact ⟨fun hp=>h2.1 (((h1 _ _ q1 q2).1 hp).resolve_right e),fun hn=>h2.2 fun hp=>hn ((h1 _ _ q1 q2).2 (.inl hp))⟩
theorem TabB.mono {o:Opr} {sets:List Nat} {P P':Nat->Nat->Prop} {T:List Nat} (h:TabB g o sets P T) (h1:∀ i j,i<=j->j < sets.length->(P' i j ↔ P i j)):TabB g o sets P' T:=⟨h.1,fun i j q1 q2=>by
 have h2:=h.2 i j q1 q2
 rw [h1 i j q1 q2];exact h2⟩
theorem TabB.zero {o:Opr} {sets:List Nat} {P:Nat->Nat->Prop} {T:List Nat} (h:TabB g o sets P T) {i j:Nat} (hij:i<=j) (hj:j < sets.length) (hn:¬ P i j):T.set (i * sets.length+j) 0=T:=by
 have h1:=(h.2 i j hij hj).2 hn
 have hl:=idx_lt (n:=sets.length) (i:=i) (j:=j) (by omega) hj
 refine List.ext_getElem? fun q=>?_
 by_cases e:q=i * sets.length+j
 ·subst e
  rw [List.getElem?_set_self (by rw [h.1];exact hl),h1]
 ·rw [List.getElem?_set_ne (Ne.symm e)]
def szP (size i0:Nat) (i j:Nat):Prop:=j+1 < i+size∨(j+1=i+size∧i < i0)
theorem wmul {i n:Nat} (hi:i<=10) (hn:n<=10):IntKind.i64.wrap ((i:Int) * (n:Int))=((i * n:Nat):Int):=by
 have:i * n<=10 * 10:=Nat.mul_le_mul hi hn
 exact wrapN (by simp) (by omega) (by omega)
theorem wadd {i n:Nat} (hi:i<=1000) (hn:n<=1000):IntKind.i64.wrap ((i:Int)+(n:Int))=((i+n:Nat):Int):=wrapN (by simp) (by omega) (by omega)
set_option maxHeartbeats 32000000 in
set_option maxRecDepth 100000 in
theorem con_l7Chain (hg:SgnOk g) {op:Int} {o:Opr} (h0:0<=op) (ho:g.ops[op.toNat]?=some o) (ha:o.assoc=true) (sets:List Nat) (hn1:1<=sets.length) (hn7:sets.length<=7) (hs:∀ s∈sets,s < 2 ^ g.sorts.names.length):Con e0 208 [.agg (encSgn g),.one (.lit (.int .i64 op)),.one (.sl (nR sets))] [.one (.lit (.int .i64 ((cvN g o sets 0 sets.length:Nat):Int)))]:=by
 have hN:=hg.sorts.n8
 have rl:=nR_len (l:=sets)
 have rr:=nR_rows (l:=sets)
 have hnn:sets.length * sets.length<=7 * 7:=Nat.mul_le_mul hn7 hn7
 have hmx:(((sets.length * sets.length:Nat):Int)<=(maxApp:Int))=True:=eq_true (by unfold maxApp;omega)
 have hdeg:=Opr.deg2 hg ho (.inl ha)
 have hcv:∀ i j,cvN g o sets i j < 2 ^ g.sorts.names.length:=fun i j=>ofB_lt _ _
 have hRlt:=fun a c b (h:Rel2 g o a c b)=>Rel2.lt hg (List.mem_of_getElem? ho) h
 have wnn:=wmul (i:=sets.length) (n:=sets.length) (by omega) (by omega)
 have cU:=con_l3Up hg.sorts.n8 hg.sorts.m16 (SortsOk.subsIn hg.sorts.subs)
 have hT0:=TabB.start (g:=g) (o:=o) (sets:=sets) (P:=szP 1 0) fun i j h q=>by unfold szP at q;omega
 rw [encSrt] at cU
 rw [encSgn]
 refine gI (ts:=[.slot 6]) 36028870066978767 Tryz.func208 ?_
 (have F:=ai @rl @tmz;have NN:StopAt 2:=trivial;refine gGn ?_;clear F NN)
 refine gB ?_
 (have F:=@tmz;refine gC (cU) ?_;clear F)
 (have F:=@tmz;refine gR ?_;clear F)
 (have F:=ai @rl (ai @wnn (ai @hmx (ai @Int.toNat_natCast (ai @nR_0 @tmz))));refine gG ?_;clear F)
 generalize List.replicate (sets.length * sets.length) 0=T0 at hT0 ⊢
 (have F:=@tmz;refine gL (ι:=Nat × List Nat) [9,10,11,12,13,25,32,36,55] [9] (fun x=>[(10,A.d (.one (.lit (.int .i64 x.1)))),(9,.buf 9)]) (fun x=>[(9,.buf none 3 1 (nR x.2))]) (fun x=>1<=x.1∧x.1<=sets.length+1∧TabB g o sets (szP x.1 0) x.2) (fun x=>sets.length+1 - x.1) ((1,T0)) (⟨Nat.le_refl _,by omega,hT0⟩) (fun x hx=>?_);clear F)
 clear hT0 T0
 obtain ⟨size,T⟩:=x
 obtain ⟨hz1,hz2,hT⟩:=hx
 simp only at hz1 hz2 hT
 dsimp only
 have nl:=nR_len (l:=T)
 rw [hT.1] at nl
 have nr:=nR_rows (l:=T)
 by_cases hzl:size<=sets.length
 rotate_left
 ·obtain rfl:size=sets.length+1:=by omega
  have q1:(((sets.length+1:Nat):Int)<=(sets.length:Int))=False:=eq_false (by omega)
  have hg1:=((hT.2 0 (sets.length - 1) (by omega) (by omega)).1 (.inl (by omega)))
  rw [show 0 * sets.length+(sets.length - 1)=sets.length - 1 by omega,show sets.length - 1+1=sets.length by omega] at hg1
  have hg2:=nR_get hg1
  have w1:IntKind.i64.wrap ((sets.length:Int) - 1)=((sets.length - 1:Nat):Int):=wrapN (by omega) (by omega) (by omega)
  have hle:sets.length * 1<=sets.length * sets.length:=Nat.mul_le_mul_left _ hn1
  have i1:(sets.length - 1 < sets.length * sets.length)=True:=eq_true (by omega)
  (have F:=ai @q1 (ai @nl (ai @nr (ai @hg2 (ai @w1 (ai @i1 (ai @natInt @tmz))))));refine gG ?_;exact gTd)
 have q1:((size:Int)<=(sets.length:Int))=True:=eq_true (by omega)
 have hws:=wrap1 (k:=size) (by omega)
 clear nl nr
 (have F:=ai @q1 @tmz;refine gG ?_;clear F)
 (have F:=@tmz;refine gL (ι:=Nat × List Nat) [9,11,12,13,32,36,55] [9] (fun y=>[(11,A.d (.one (.lit (.int .i64 y.1)))),(9,.buf 9)]) (fun y=>[(9,.buf none 3 1 (nR y.2))]) (fun y=>y.1+size<=sets.length+1∧TabB g o sets (szP size y.1) y.2) (fun y=>sets.length+1 - y.1) ((0,T)) (⟨by omega,hT⟩) (fun y hy=>?_);clear F)
 clear hT T
 obtain ⟨i,T⟩:=y
 obtain ⟨hi,hT⟩:=hy
 simp only at hi hT
 dsimp only
 have nl:=nR_len (l:=T)
 rw [hT.1] at nl
 have nr:=nR_rows (l:=T)
 have wis:=wadd (i:=i) (n:=size) (by omega) (by omega)
 by_cases hil:i+size<=sets.length
 rotate_left
 ·have q2:(((i+size:Nat):Int)<=(sets.length:Int))=False:=eq_false (by omega)
  have hT2:TabB g o sets (szP (size+1) 0) T:=hT.mono fun i' j' h1 h2=>by
   unfold szP
   omega
  (have F:=ai @q2 (ai @wis (ai @hws @tmz));refine gG ?_;exact ⟨(size+1,T),⟨by omega,by omega,hT2⟩,gw,gw,by omega⟩)
 have q2:(((i+size:Nat):Int)<=(sets.length:Int))=True:=eq_true (by omega)
 have hwi:=wrap1 (k:=i) (by omega)
 have wii:=wmul (i:=i) (n:=sets.length) (by omega) (by omega)
 have hlt:=idx_lt (n:=sets.length) (i:=i) (j:=i+size - 1) (by omega) (by omega)
 by_cases hs1:size=1
 ·subst hs1
  have q3:(((1:Nat):Int)=1)=True:=eq_true rfl
  obtain ⟨s,hsi⟩:∃ s,sets[i]?=some s:=⟨_,List.getElem?_eq_getElem (by omega)⟩
  have r1:=nR_get hsi
  have e:cvN g o sets i (i+1)=s:=by unfold cvN;exact ch_one hsi (hs s (List.mem_of_getElem? hsi))
  have hT2:TabB g o sets (szP 1 (i+1)) (T.set (i * sets.length+i) (cvN g o sets i (i+1))):=hT.next (Nat.le_refl _) (by omega) fun i' j' h1 h2=>by
   unfold szP
   omega
  rw [e] at hT2
  have wa:=wadd (i:=i * sets.length) (n:=i) (by omega) (by omega)
  have ns:=nR_set (l:=T) (i * sets.length+i) s
  obtain ⟨z,hz⟩:∃ z,T[i * sets.length+i]?=some z:=⟨_,List.getElem?_eq_getElem (by rw [hT.1];exact idx_lt (by omega) (by omega))⟩
  have ng:=nR_get hz
  have i1:(i < sets.length)=True:=eq_true (by omega)
  have i2:(i * sets.length+i < sets.length * sets.length)=True:=eq_true (idx_lt (by omega) (by omega))
  (have F:=ai @q2 (ai @wis (ai @q3 (ai @wii (ai @wa (ai @r1 (ai @rl (ai @rr (ai @nl (ai @nr (ai @ns (ai @ng (ai @i1 (ai @i2 (ai @hwi (ai @natInt @tmz)))))))))))))));refine gG ?_;exact ⟨(i+1,T.set (i * sets.length+i) s),⟨by omega,hT2⟩,gw,gw,by omega⟩)
 have q3:((size:Int)=1)=False:=eq_false (by omega)
 obtain ⟨j,hj⟩:∃ j,j+1=i+size:=⟨i+size - 1,by omega⟩
 have wj:IntKind.i64.wrap (((i+size:Nat):Int) - 1)=(j:Int):=wrapN (by omega) (by omega) (by omega)
 have hij:i < j:=by omega
 have hjn:j < sets.length:=by omega
 have hij2:i<=j:=by omega
 have hlt:=idx_lt (n:=sets.length) (i:=i) (j:=j) (by omega) hjn
 have waj:=wadd (i:=i * sets.length) (n:=j) (by omega) (by omega)
 have hz0:=hT.zero hij2 hjn (by unfold szP;omega)
 have hzz:nR (T.set (i * sets.length+j) 0)=nR T:=by rw [hz0]
 have hnx:TabB g o sets (szP size (i+1)) (T.set (i * sets.length+j) (cvN g o sets i (j+1))):=hT.next hij2 hjn fun i' j' h1 h2=>by
  unfold szP
  omega
 (have F:=ai @q2 (ai @wis (ai @q3 (ai @wj @tmz)));have NN:StopAt 13:=trivial;refine gGn ?_;clear F NN)
 (have F:=@tmz;refine gG ?_;clear F)
 (have F:=ai @hzz @tmz;refine gL (ι:=Nat × Nat) [9,13,55] [9] (fun z=>[(13,A.d (.one (.lit (.int .i64 z.1)))),(9,.buf 9)]) (fun z=>[(9,.buf none 3 1 (nR (T.set (i * sets.length+j) z.2)))]) (fun z=>i<=z.1∧z.1<=j∧z.2=ofB (CutB (Rel2 g o) sets g.sorts.names.length i (j+1) (z.1+1)) g.sorts.names.length) (fun z=>j - z.1) ((i,0)) (⟨Nat.le_refl _,by omega,cut_start.symm⟩) (fun z hz=>?_);clear F)
 obtain ⟨k,v⟩:=z
 obtain ⟨hk1,hk2,hv⟩:=hz
 simp only at hk1 hk2 hv
 subst hv
 dsimp only
 by_cases hkj:k < j
 rotate_left
 ·obtain rfl:k=j:=by omega
  have q4:((k:Int) < (k:Int))=False:=eq_false (by omega)
  have e:ofB (CutB (Rel2 g o) sets g.sorts.names.length i (k+1) (k+1)) g.sorts.names.length=cvN g o sets i (k+1):=cut_end hs hRlt (by omega)
  rw [e]
  (have F:=ai @q4 (ai @hwi @tmz);refine gG ?_;exact ⟨(i+1,T.set (i * sets.length+k) (cvN g o sets i (k+1))),⟨by omega,hnx⟩,gw,gw,by omega⟩)
 have q4:((k:Int) < (j:Int))=True:=eq_true (by omega)
 have hwk:=wrap1 (k:=k) (by omega)
 have hTk:=(hT.2 i k hk1 (by omega)).1 (by unfold szP;omega)
 have hTj:=(hT.2 (k+1) j (by omega) hjn).1 (by unfold szP;omega)
 have hltk:=idx_lt (n:=sets.length) (i:=i) (j:=k) (by omega) (by omega)
 have hltj:=idx_lt (n:=sets.length) (i:=k+1) (j:=j) (by omega) hjn
 have wak:=wadd (i:=i * sets.length) (n:=k) (by omega) (by omega)
 have wm2:=wmul (i:=k+1) (n:=sets.length) (by omega) (by omega)
 have wa2:=wadd (i:=(k+1) * sets.length) (n:=j) (by omega) (by omega)
 have e:=fun b=>cut_step (R:=Rel2 g o) (sets:=sets) (N:=g.sorts.names.length) (i:=i) (j:=j+1) (k:=k+1) (b:=b) (by omega) (by omega)
 have e:ofB (CutB (Rel2 g o) sets g.sorts.names.length i (j+1) (k+1)) g.sorts.names.length ||| ofB (fun b=>Two (Rel2 g o) (cvN g o sets i (k+1)) (cvN g o sets (k+1) (j+1)) b) g.sorts.names.length=ofB (CutB (Rel2 g o) sets g.sorts.names.length i (j+1) (k+1+1)) g.sorts.names.length:=by
  rw [ofB_or]
  exact ofB_congr fun b _=>(e b).symm
 have cR:=con_l7Give hg (List.mem_of_getElem? ho) [cvN g o sets i (k+1),cvN g o sets (k+1) (j+1)] (fun d hd=>hdeg d hd) (by simp) (fun s hs=>by
  simp only [List.mem_cons,List.not_mem_nil,or_false] at hs
  rcases hs with rfl | rfl <;> exact hcv _ _)
 rw [show ofB (GiveB g o [cvN g o sets i (k+1),cvN g o sets (k+1) (j+1)]) g.sorts.names.length=ofB (fun b=>Two (Rel2 g o) (cvN g o sets i (k+1)) (cvN g o sets (k+1) (j+1)) b) g.sorts.names.length from ofB_congr fun b _=>give_two hdeg] at cR
 have cR:=con_clipB cR
 have hor:=bits_or (small62 (ofB_lt (CutB (Rel2 g o) sets g.sorts.names.length i (j+1) (k+1)) g.sorts.names.length) hN) (small62 (ofB_lt (fun b=>Two (Rel2 g o) (cvN g o sets i (k+1)) (cvN g o sets (k+1) (j+1)) b) g.sorts.names.length) hN)
 rw [e] at hor
 clear e
 generalize ofB (fun b=>Two (Rel2 g o) (cvN g o sets i (k+1)) (cvN g o sets (k+1) (j+1)) b) g.sorts.names.length=tw at cR hor
 generalize ofB (CutB (Rel2 g o) sets g.sorts.names.length i (j+1) (k+1)) g.sorts.names.length=v at hor ⊢
 have nl2:=nR_len (l:=T.set (i * sets.length+j) v)
 rw [List.length_set,hT.1] at nl2
 have nr2:=nR_rows (l:=T.set (i * sets.length+j) v)
 have ne1:i * sets.length+j≠i * sets.length+k:=by omega
 have ne2:i * sets.length+j≠(k+1) * sets.length+j:=fun q=>by have:=idx_inj hjn hjn q;omega
 have g1:(nR (T.set (i * sets.length+j) v))[i * sets.length+j]?=some [.lit (.int .i64 v)]:=nR_get (List.getElem?_set_self (by rw [hT.1];exact hlt))
 have g2:(nR (T.set (i * sets.length+j) v))[i * sets.length+k]?=some [.lit (.int .i64 (cvN g o sets i (k+1)))]:=nR_get (by rw [List.getElem?_set_ne ne1];exact hTk)
 have g3:(nR (T.set (i * sets.length+j) v))[(k+1) * sets.length+j]?=some [.lit (.int .i64 (cvN g o sets (k+1) (j+1)))]:=nR_get (by rw [List.getElem?_set_ne ne2];exact hTj)
 have ns:=fun x=>nR_set (l:=T.set (i * sets.length+j) v) (i * sets.length+j) x
 simp only [List.set_set] at ns
 have i1:(i * sets.length+j < sets.length * sets.length)=True:=eq_true hlt
 have i2:(i * sets.length+k < sets.length * sets.length)=True:=eq_true hltk
 have i3:((k+1) * sets.length+j < sets.length * sets.length)=True:=eq_true hltj
 clear nl nr
 (have F:=ai @q4 @tmz;have NN:StopAt 16:=trivial;refine gGn ?_;clear F NN)
 refine gB ?_
 (have F:=ai @wii (ai @waj (ai @wak (ai @hwk (ai @wm2 (ai @wa2 (ai @nl2 (ai @nr2 (ai @g1 (ai @g2 (ai @g3 (ai @i1 (ai @i2 (ai @i3 (ai @h0 (ai @ho (ai @encOpr_u (ai @natInt @tmz)))))))))))))))));refine gC (cR) ?_;clear F)
 (have F:=ai @nl2 (ai @nr2 (ai @g1 (ai @hor (ai @ns (ai @i1 (ai @natInt @tmz))))));refine gR ?_;clear F)
 (have F:=ai @hwk @tmz;refine gG ?_;exact ⟨(k+1,ofB (CutB (Rel2 g o) sets g.sorts.names.length i (j+1) (k+1+1)) g.sorts.names.length),⟨by omega,hkj,rfl⟩,gw,gw,by omega⟩)
end
def Env.plus (e:Env) (E2:Nat->Prop) (G2:World->Prop):Env:=⟨e.P,fun b=>e.E b∨E2 b,fun w=>e.G w∧G2 w,e.D⟩
structure Fits (e:Env) (E2:Nat->Prop) (G2:World->Prop):Prop where
 st:StableOn E2 G2
 dj:∀ w,G2 w->∀ b,E2 b->¬ e.E b
section
variable {e:Env} {E2:Nat->Prop} {G2:World->Prop}
theorem Fits.ok (h:Fits e E2 G2) (he:e.Ok):(e.plus E2 G2).Ok:=⟨fun w w' hz hb ⟨h1,h2⟩=>⟨he.keep w w' hz (fun b hb'=>hb b (.inl hb')) h1,h.st w w' hz (fun b hb'=>hb b (.inr hb')) h2⟩,he.mixed⟩
theorem Kept.up {D:Prop} {E E':Nat->Prop} {B:Nat} {w w':World} (h:Kept D E B w w') (hE:∀ b,E b->E' b):Kept D E' B w w':=⟨h.os,h.tape,h.output,h.drawn,h.size,fun k hk hn=>h.block k hk fun q=>hn (hE k q)⟩
theorem Fits.keep (h:Fits e E2 G2) {E:Nat->Prop} {w w':World} (hk:Kept e.D E w.heap.size w w') (hE:∀ b,(e.plus E2 G2).E b->b < w.heap.size) (hG:G2 w) (hn:∀ b,E2 b->¬ E b):G2 w':=h.st w w' hk.size (fun b hb=>hk.block b (hE b (.inr hb)) (hn b hb)) hG
theorem Con.up (h2:Fits e E2 G2) {f:FuncId} {args r:List D} (h:Con e f args r):Con (e.plus E2 G2) f args r :=
 ⟨h.1,fun w S vs hS hE hG hvs=>(h.2 w S vs (fun b hb=>⟨(hS b hb).1,fun q=>(hS b hb).2 (.inl q)⟩) (fun b hb=>hE b (.inl hb)) hG.1 hvs).mono fun en w' ⟨v,h1,hk,hg,ha⟩=>⟨v,h1,hk.up fun _=>.inl,⟨hg,h2.keep hk hE hG.2 (h2.dj w hG.2)⟩,ha⟩⟩
theorem ConE.up (h2:Fits e E2 G2) {f:FuncId} {args:List D} {R:List D->Prop} (h:ConE e f args R):ConE (e.plus E2 G2) f args R :=
 ⟨h.1,fun w S vs hS hE hG hvs=>(h.2 w S vs (fun b hb=>⟨(hS b hb).1,fun q=>(hS b hb).2 (.inl q)⟩) (fun b hb=>hE b (.inl hb)) hG.1 hvs).mono fun en w' ⟨v,r,h1,hr,hk,hg,ha⟩=>⟨v,r,h1,hr,hk.up fun _=>.inl,⟨hg,h2.keep hk hE hG.2 (h2.dj w hG.2)⟩,ha⟩⟩
theorem ConR.up (h2:Fits e E2 G2) {f:FuncId} {args:List D} {ty sz:Nat} {rows:List (List C)} (h:ConR e f args ty sz rows):ConR (e.plus E2 G2) f args ty sz rows :=
 ⟨h.1,fun w S vs hS hE hG hvs=>(h.2 w S vs (fun b hb=>⟨(hS b hb).1,fun q=>(hS b hb).2 (.inl q)⟩) (fun b hb=>hE b (.inl hb)) hG.1 hvs).mono fun en w' ⟨v,h1,hk,hg,ha⟩=>⟨v,h1,hk.up fun _=>.inl,⟨hg,h2.keep hk hE hG.2 (h2.dj w hG.2)⟩,ha⟩⟩
theorem ConI.up (h2:Fits e E2 G2) {f:FuncId} {ty sz:Nat} {rows rows':List (List C)} {args r:List D} (h:ConI e f ty sz rows args rows' r):ConI (e.plus E2 G2) f ty sz rows args rows' r :=
 ⟨h.1,fun w S v0 vs hS hE h0 hG hb hvs=>(h.2 w S v0 vs (fun b hb=>⟨(hS b hb).1,fun q=>(hS b hb).2 (.inl q)⟩) (fun b hb=>hE b (.inl hb)) (fun g hg q=>h0 g hg (.inl q)) hG.1 hb hvs).mono fun en w' ⟨v,h1,hk,hg,ha⟩=>⟨v,h1,hk.up fun _ q=>q.elim (fun q=>.inl (.inl q)) .inr,⟨hg,h2.keep hk hE hG.2 fun b hb q=>q.elim (h2.dj w hG.2 b hb) fun q=>h0 b q (.inr hb)⟩,ha⟩⟩
theorem ConT.up (h2:Fits e E2 G2) {f:FuncId} {ty sz:Nat} {rows rows':List (List C)} {args:List D} (h:ConT e f ty sz rows args rows'):ConT (e.plus E2 G2) f ty sz rows args rows' :=
 ⟨h.1,fun w S v0 vs hS hE h0 hG hb hvs=>(h.2 w S v0 vs (fun b hb=>⟨(hS b hb).1,fun q=>(hS b hb).2 (.inl q)⟩) (fun b hb=>hE b (.inl hb)) (fun g hg q=>h0 g hg (.inl q)) hG.1 hb hvs).mono fun en w' ⟨v,h1,hk,hg,ha⟩=>⟨v,h1,hk.up fun _ q=>q.elim (fun q=>.inl (.inl q)) .inr,⟨hg,h2.keep hk hE hG.2 fun b hb q=>q.elim (h2.dj w hG.2 b hb) fun q=>h0 b q (.inr hb)⟩,ha⟩⟩
theorem ConP.up (h2:Fits e E2 G2) {f:FuncId} {args:List D} {pm:List Bk} {R:List D->List Bk->Prop} (h:ConP e f args pm R):ConP (e.plus E2 G2) f args pm R :=
 ⟨h.1,fun w S vs hS hE hG hpm hap hvs=>(h.2 w S vs (fun b hb=>⟨(hS b hb).1,fun q=>(hS b hb).2 (.inl q)⟩) (fun b hb=>hE b (.inl hb)) hG.1 (fun x hx=>⟨(hpm x hx).1,fun g hg q=>(hpm x hx).2 g hg (.inl q)⟩) hap hvs).mono fun en w' ⟨v,r,pm',h1,hr,hk,hg,ha⟩=>⟨v,r,pm',h1,hr,hk.up fun _ q=>q.elim (fun q=>.inl (.inl q)) .inr,⟨hg,h2.keep hk hE hG.2 fun b hb q=>q.elim (h2.dj w hG.2 b hb) fun ⟨x,hx,hxg⟩=>(hpm x hx).2 b hxg (.inr hb)⟩,ha⟩⟩
theorem con_of_P {ι:Type} {G:ι->World->Prop} {ok:ι->Prop} (h2:Fits e E2 G2) (hst:∀ i,StableOn E2 (G i)) (ho:∀ w,G2 w->∃ i,ok i∧G i w) (hi:∀ w i,(∀ b,E2 b->¬ e.E b)->ok i->G i w->G2 w) {f:FuncId} {xs r:List D} (hb:hasBody e.P f=true)
  (h:∀ i,ok i->ConP e f xs [.set E2 (G i)] (fun r' pm=>r'=r∧∃ i',ok i'∧pm=[.set E2 (G i')])):Con (e.plus E2 G2) f xs r:=by
 refine ⟨hb,fun w S vs hS hE hG hvs=>?_⟩
 obtain ⟨i,hi1,hi2⟩:=ho w hG.2
 have hdj:=h2.dj w hG.2
 refine ((h i hi1).2 w S vs (fun b hb=>⟨(hS b hb).1,fun q=>(hS b hb).2 (.inl q)⟩) (fun b hb=>hE b (.inl hb)) hG.1 (fun x hx=>?_) ⟨fun y hy=>(by cases hy),trivial⟩ hvs).mono fun en w' ⟨v,r',pm,h1,⟨hr,i',hi1',hpm⟩,hk,hg,hp,_,ha⟩=>?_
 ·obtain rfl:=List.mem_singleton.1 hx
  exact ⟨⟨fun b hb=>⟨hE b (.inr hb),fun q=>(hS b q).2 (.inr hb)⟩,hi2,hst i⟩,fun g hg=>hdj g hg⟩
 ·subst hr hpm
  have hpb:∀ (G:World->Prop) (b:Nat),pblks [.set E2 G] b ↔ E2 b:=fun G b=>⟨fun ⟨x,hx,hg⟩=>by obtain rfl:=List.mem_singleton.1 hx;exact hg,fun q=>⟨_,List.mem_singleton.2 rfl,q⟩⟩
  refine ⟨v,h1,hk.up fun b q=>q.elim .inl fun q=>.inr ((hpb _ b).1 q),⟨hg,hi w' i' hdj hi1' (hp _ (List.mem_singleton.2 rfl)).1.2.1⟩,ha.keep (Nat.le_refl _) (fun _ _ _=>rfl) fun b hb=>?_⟩
  rcases hb.1 with q | q | q
  ·exact .inl q
  ·exact absurd ((hpb _ b).2 ((hpb _ b).1 q)) hb.2
  ·exact .inr q
theorem pwp_env {mask:Nat} {c:Code} {s:List (Nat × A)} {m:List (Nat × Bk)} {Q:PX->St->Prop} {G1:World->Prop} (k:Nat) (hst:StableOn E2 G2) (hm:gm m k=some (.set E2 G1)) (h2:(∀ b,E2 b->¬ e.E b)->Fits e E2 G2∧∀ w,G1 w->G2 w) (h:Fits e E2 G2->pwp (e.plus E2 G2) mask c ⟨s,remM k m⟩ Q):pwp e mask c ⟨s,m⟩ Q:=by
 intro he U w0 S0 nt a w hok ⟨S,L,hs⟩
 have hc:=hs.cls
 have ho:=hc.own k _ hm
 obtain ⟨hF,hG⟩:=h2 fun b hb=>hc.notE hm (show blkOf L k (.set E2 G1) b from hb)
 have hlt:∀ b,e.E b∨E2 b->b < w.heap.size:=fun b hb=>hb.elim (fun q=>Nat.lt_of_lt_of_le (hc.ein b q) hc.bsz) fun q=>(ho.1 b q).1
 have hsub:∀ k' bk,gm (remM k m) k'=some bk->k'≠k∧gm m k'=some bk:=fun k' bk hk'=>by
  rw [gm_remM] at hk'
  by_cases e:k'=k
  ·rw [if_pos e] at hk';cases hk'
  ·rw [if_neg e] at hk';exact ⟨e,hk'⟩
 have hs2:SimE (e.plus E2 G2) (fun g=>∃ k' bk,gm (remM k m) k'=some bk∧blkOf L k' bk g) w S nt ⟨s,remM k m⟩ a w:=by
  refine ⟨S,L,⟨fun b hb=>⟨(hc.sin b hb).1,fun q=>q.elim (hc.sin b hb).2 fun q=>(ho.1 b q).2 hb⟩,fun b hb=>.inl hb,hlt,?_,Nat.le_refl _,fun k' bk g h1 h2=>.inr ⟨k',bk,h1,h2⟩,fun k' bk hk'=>hc.own k' bk (hsub k' bk hk').2,fun k1 k2 x1 x2 g h1 h2=>hc.inj k1 k2 x1 x2 g (hsub k1 x1 h1).2 (hsub k2 x2 h2).2,⟨hc.g,hG w ho.2.1⟩⟩,hs.rel,hs.size,hs.defers,Kept.refl _ _ _ _⟩
  rintro b ⟨k',bk,h1,h3⟩ q
  obtain ⟨hne,h1⟩:=hsub k' bk h1
  rcases q with q | q
  ·exact hc.notE h1 h3 q
  ·exact hne (hc.inj k' k bk _ b h1 hm h3 q)
 refine wp_mono (h hF (hF.ok he) _ _ _ _ _ w hok hs2) fun ex a' w' hq=>?_
 have back:∀ σ',SimE (e.plus E2 G2) (fun g=>∃ k' bk,gm (remM k m) k'=some bk∧blkOf L k' bk g) w S nt σ' a' w'->SimE e U w0 S0 nt σ' a' w':=fun σ' ⟨S1,L1,h1⟩=>by
  have c1:=h1.cls
  have hU:∀ b,(∃ k' bk,gm (remM k m) k'=some bk∧blkOf L k' bk b)->w0.heap.size<=b∨U b:=fun b ⟨k',bk,q1,q2⟩=>hc.mine k' bk b (hsub k' bk q1).2 q2
  refine ⟨S1,L1,⟨fun b hb=>⟨(c1.sin b hb).1,fun q=>(c1.sin b hb).2 (.inl q)⟩,fun b hb=>?_,hc.ein,hc.uin,Nat.le_trans hc.bsz c1.bsz,fun k' bk g q1 q2=>?_,c1.own,c1.inj,c1.g.1⟩,h1.rel,h1.size,h1.defers,⟨h1.kept.os.trans hs.kept.os,h1.kept.tape.trans hs.kept.tape,h1.kept.output.trans hs.kept.output,fun d=>Nat.le_trans (hs.kept.drawn d) (h1.kept.drawn d),Nat.le_trans hs.kept.size h1.kept.size,fun b hb hn=>?_⟩⟩
  ·rcases c1.sfr b hb with q | q | q
   ·exact hc.sfr b q
   ·exact .inr (.inl (Nat.le_trans hc.bsz q))
   ·exact .inr (hU b q)
  ·rcases c1.mine k' bk g q1 q2 with q | q
   ·exact .inl (Nat.le_trans hc.bsz q)
   ·exact hU g q
  ·refine (h1.kept.block b (Nat.lt_of_lt_of_le hb hs.kept.size) fun q=>?_).trans (hs.kept.block b hb hn)
   rcases q with (q | q) | q
   ·exact hn (.inl q)
   ·rcases hc.mine k _ b hm (show blkOf L k (.set E2 G1) b from q) with q | q
    ·omega
    ·exact hn (.inr q)
   ·rcases hU b q with q | q
    ·omega
    ·exact hn (.inr q)
 cases ex with
 | normal=>exact hq.elim fun σ' hq=>⟨σ',hq.1,back σ' hq.2⟩
 | exit id=>exact hq.elim fun σ' hq=>⟨σ',hq.1,back σ' hq.2⟩
 | ret=>exact hq.elim fun σ' hq=>⟨σ',hq.1,back σ' hq.2⟩
 | goto l=>exact hq
 | panic ch=>exact hq
 | outgrown=>exact hq
end
mutual
theorem bulk_size:∀ t:Tm,sizeTm t<=bulkRow (encTm t)+1
 | .mk _ _ _ args=>by
  have:=bulk_sizes args
  simp only [sizeTm,encTm,bulkRow,bulkC]
  omega
theorem bulk_sizes:∀ ts:List Tm,sizeTms ts<=(encTms ts).length+bulkRows (encTms ts)
 | []=>by simp [sizeTms]
 | t::ts=>by
  have h1:=bulk_size t
  have h2:=bulk_sizes ts
  simp only [sizeTms,encTms,List.length_cons,bulkRows]
  omega
end
theorem big_of_bulk {t:Tm} (h:bulkRow (encTm t)<=1048576):sizeTm t<=big:=by
 have:=bulk_size t
 unfold big
 omega
theorem bulk_app (a b:List C):bulkRow (a++b)=bulkRow a+bulkRow b:=by
 induction a with
 | nil=>simp [bulkRow]
 | cons x xs ih=>simp only [List.cons_append,bulkRow,ih];omega
theorem bulkRows_mem {r:List C}:∀ {rows:List (List C)},r∈rows->bulkRow r<=bulkRows rows
 | x::rs,h=>by
  simp only [bulkRows]
  rcases List.mem_cons.1 h with rfl | h
  ·omega
  ·have:=bulkRows_mem h;omega
theorem con_szSignature {row:List C} (hok:okRow (sigF) row) {left:Int} (h0:0<=left) (h1:left<=1048576):Con e0 9 [.agg row,.one (.lit (.int .i64 left))] [.one (.lit (.int .i64 (sub left (bulkRow row))))]:=by
 refine con_below e0_ok (by kernel_rfl) fun w S vs h=>?_
 match vs,h with
 | [v,u],h =>
  obtain ⟨⟨us,rfl,hu⟩,h2,_⟩:=h
  have h2:u=.int .i64 left:=by simpa [DRel,Rep] using h2
  subst h2
  exact (szSignature_any row S us left w hok hu h0 h1).mono fun e w' ⟨h1,h2⟩=>⟨_,h1,h2,by simp [retA,ARel,DRel,Rep]⟩
theorem con_toSignature {row:List C} (hok:okRow (sigF) row) (hb:bulkRow row<=1048576):Con e0 12 [.agg row] [.agg row]:=by
 refine con_below e0_ok (by kernel_rfl) fun w S vs h=>?_
 match vs,h with
 | [v],h =>
  obtain ⟨⟨us,rfl,hu⟩,_⟩:=h
  exact (toSignature_any row S us w hok hu hb).mono fun e w' ⟨us',h1,h2,h3⟩=>⟨_,h1,h3,us',rfl,OwnVals.rep row _ _ us' (fun x hx=>.inr hx) h2⟩
theorem con_eqSignature {row:List C} (hok:okRow (sigF) row):Con e0 16 [.agg row,.agg row] [.one (.lit (.bool true))]:=by
 refine con_below e0_ok (by kernel_rfl) fun w S vs h=>?_
 match vs,h with
 | [v,u],h =>
  obtain ⟨⟨us,rfl,hu⟩,⟨us',rfl,hu'⟩,_⟩:=h
  exact (eqSignature_any row S S us us' w hok hu hu').mono fun e w' ⟨h1,h2⟩=>⟨_,h1,h2,by simp [retA,ARel,DRel,Rep]⟩
theorem con_szTerm {row:List C} (hok:okRow (fieldsOf .term) row) {left:Int} (h0:0<=left) (h1:left<=1048576):Con e0 10 [.agg row,.one (.lit (.int .i64 left))] [.one (.lit (.int .i64 (sub left (bulkRow row))))]:=by
 refine con_below e0_ok (by kernel_rfl) fun w S vs h=>?_
 match vs,h with
 | [v,u],h =>
  obtain ⟨⟨us,rfl,hu⟩,h2,_⟩:=h
  have h2:u=.int .i64 left:=by simpa [DRel,Rep] using h2
  subst h2
  exact (szTerm_any row S us left w hok hu h0 h1).mono fun e w' ⟨h1,h2⟩=>⟨_,h1,h2,by simp [retA,ARel,DRel,Rep]⟩
theorem con_toTerm {row:List C} (hok:okRow (fieldsOf .term) row) (hb:bulkRow row<=1048576):Con e0 14 [.agg row] [.agg row]:=by
 refine con_below e0_ok (by kernel_rfl) fun w S vs h=>?_
 match vs,h with
 | [v],h =>
  obtain ⟨⟨us,rfl,hu⟩,_⟩:=h
  exact (toTerm_any row S us w hok hu hb).mono fun e w' ⟨us',h1,h2,h3⟩=>⟨_,h1,h3,us',rfl,OwnVals.rep row _ _ us' (fun x hx=>.inr hx) h2⟩
theorem con_eqTerm {row:List C} (hok:okRow (fieldsOf .term) row):Con e0 18 [.agg row,.agg row] [.one (.lit (.bool true))]:=by
 refine con_below e0_ok (by kernel_rfl) fun w S vs h=>?_
 match vs,h with
 | [v,u],h =>
  obtain ⟨⟨us,rfl,hu⟩,⟨us',rfl,hu'⟩,_⟩:=h
  exact (eqTerm_any row S S us us' w hok hu hu').mono fun e w' ⟨h1,h2⟩=>⟨_,h1,h2,by simp [retA,ARel,DRel,Rep]⟩
theorem con_szBindingS {rows:List (List C)} (hok:okRows (fieldsOf .binding) rows) {left:Int} (h0:0<=left) (h1:left<=1048576):Con e0 19 [.one (.sl rows),.one (.lit (.int .i64 left))] [.one (.lit (.int .i64 (sub left (rows.length+bulkRows rows))))]:=by
 refine con_below e0_ok (by kernel_rfl) fun w S vs h=>?_
 match vs,h with
 | [v,u],h =>
  obtain ⟨hv,h2,_⟩:=h
  have h2:u=.int .i64 left:=by simpa [DRel,Rep] using h2
  subst h2
  exact (szBindingS_any rows S v left w hok hv h0 h1).mono fun e w' ⟨h1,h2⟩=>⟨_,h1,h2,by simp [retA,ARel,DRel,Rep]⟩
theorem con_eqBindingS {rows:List (List C)} (hok:okRows (fieldsOf .binding) rows):Con e0 23 [.one (.sl rows),.one (.sl rows)] [.one (.lit (.bool true))]:=by
 refine con_below e0_ok (by kernel_rfl) fun w S vs h=>?_
 match vs,h with
 | [v,u],h =>
  obtain ⟨hv,hu,_⟩:=h
  exact (eqBindingS_any rows S S v u w hok hv hu).mono fun e w' ⟨h1,h2⟩=>⟨_,h1,h2,by simp [retA,ARel,DRel,Rep]⟩
theorem con_toBindingS {rows:List (List C)} (hok:okRows (fieldsOf .binding) rows) (hb:rows.length+bulkRows rows<=1048576):Con e0 21 [.one (.sl rows)] [.one (.sl rows)]:=by
 refine con_below e0_ok (by kernel_rfl) fun w S vs h=>?_
 match vs,h with
 | [v],h =>
  obtain ⟨hv,_⟩:=h
  exact (toBindingS_any rows S v w hok hv hb).mono fun e w' ⟨v',h1,h2,h3⟩=>⟨_,h1,h3,(Own.rep _ _ v' h2).mono fun b hb=>.inr hb⟩
end Go.Proofs.YtffmjghcpgpfpaaGreatDoor
