/-
  Part of a proof.
-/
import Derived.Test.YteiljfkknokfjaaGreatDoorBPathOrderCardSaid0
import Derived.Test.YteiljfkknokfjaaGreatDoorBPathOrderCardSaid1
import Derived.Test.YteiljfkknokfjaaGreatDoorBPathOrderCardSaid2
import Derived.Test.YteiljfkknokfjaaGreatDoorBPathOrderCardSaid3
import Derived.Test.YteiljfkknokfjaaGreatDoorBPathOrderCardSaid4
import Derived.Shelf.Lays7
import Derived.Test.YteiljfkknokfjaaGreatDoorChecked
import Derived.Shelf.Spec.TrailingZeros
import Derived.Shelf.SlSortCmp.WholeK
import Derived.Shelf.SlSortCmp.NoneTotal
import Derived.Lib.QuietBelow
import Derived.Shelf.SlLaysF0
set_option linter.unusedSimpArgs false
set_option linter.unusedVariables false
set_option maxHeartbeats 400000000
set_option maxRecDepth 100000
namespace Go.Proofs.YteiljfkknokfjaaGreatDoor
open Go.Shelf
end Go.Proofs.YteiljfkknokfjaaGreatDoor
namespace Go.Proofs.YteiljfkknokfjaaGreatDoor
open Go.RowKit
theorem Zxr {p m:Nat} (h:p &&& m=p) (hp:p≠0) (hm:p≠m):1<=m ^^^ p∧m ^^^ p < m:=by
 have h1:=Zoa hm;have h2:=(Zrg h).2;have h3:m ^^^ p<=m:=by
  have h4:m ^^^ p<=p ||| (m ^^^ p):=Nat.right_le_or;rw [h2] at h4;exact h4
 have h4:m ^^^ p≠m:=fun e=>hp (by
  have:m ^^^ (m ^^^ p)=m ^^^ m:=by rw [e]
  rw [<- Nat.xor_assoc,Nat.xor_self,Nat.zero_xor] at this;exact this)
 omega
section
variable {g:Sgn} {mc:C}
end
section
variable {g:Sgn}
theorem ZvQ (hg:SgnOk g) {op:Int} {o:Opr} (h0:0<=op) (ho:g.ops[op.toNat]?=some o) (ha:o.assoc=true) (sets:List Nat) (hn1:1<=sets.length) (hn7:sets.length<=7) (hs:∀ s∈sets,s < 2 ^ g.sorts.names.length):Con e0 115 [.agg (Zaf g),.one (.lit (.int .i64 op)),.one (.sl (nR sets))] [.one (.lit (.int .i64 ((bvN g (Rel2 g o) sets (2 ^ sets.length - 1):Nat):Int)))]:=by
 have hN:=hg.sorts.n8;have rl:=Za4 (l:=sets);have rr:=ZaW (l:=sets);have hdeg:=Opr.deg2 hg ho (.inl ha);have cU:=Zf2 hg.sorts.n8 hg.sorts.m16 (SortsOk.subsIn hg.sorts.subs);rw [ZaZ] at cU;have hRlt:=fun a c b (h:Rel2 g o a c b)=>Rel2.lt hg (Tac ho) h;have hany:∀ s t,ofB (Zdb g o [s,t]) g.sorts.names.length=ofB (fun b=>Two (Rel2 g o) s t b) g.sorts.names.length:=fun s t=>ZbE fun b _=>Zob hdeg;have cG:=fun l=>ZhA hg (Tac ho) l
 generalize hRR:Rel2 g o=R at hRlt hany ⊢;have hcv:∀ m,bvN g R sets m < 2 ^ g.sorts.names.length:=fun m=>ZcK _ _;have cB:=Zgj (k:=sets.length) om;have hT0:=BagT.start (g:=g) (R:=R) (sets:=sets);have hpow:∀ q,2 ^ q < 2 ^ sets.length->q < sets.length:=fun q h=>(Nat.pow_lt_pow_iff_right om).1 h;have hZ1:2 ^ 1<=2 ^ sets.length:=Tbs om hn1;have hZ7:2 ^ sets.length<=2 ^ 7:=Tbs om hn7;have hBl:=fun M T (h:BagT g R sets M T)=>h.1
 have hBn:=fun M T (h:BagT g R sets M T)=>h.next;have hB0:=fun M T (h:BagT g R sets M T)=>h.zero;have hBg:=fun M T (h:BagT g R sets M T)=>h.2;generalize hZ:2 ^ sets.length=Z at cB hT0 hpow hZ1 hZ7 hBl hBn hB0 hBg ⊢;have hmx:((Z:Int)<=(maxApp:Int))=True:=eq_true (by unfold maxApp;omega);rw [Zaf];refine gI (ts:=[.slot 6]) 281509890105295 Tryz.func115 ?_;refine fN 2 (ai @rl @tmz) ?_;refine gB ?_;refine fC @tmz (cU) ?_
 refine fR @tmz ?_;refine ZfV ?_;refine gB ?_;refine fC @tmz (cB) ?_;refine fR (aj4 @hmx @Tbw @nR_0 @tmz) ?_;refine fG (ai @Zax @tmz) ?_;generalize List.replicate Z 0=T0 at hT0 ⊢;have F:=@tmz;refine gL (ι:=Nat × List Nat) [9,10,11,12,24,29,35,48] [9] (fun x=>[(10,A.d (.one (.lit (.int .i64 x.1)))),(9,.buf 9)]) (fun x=>[(9,.buf none 3 1 (nR x.2))]) (fun x=>1<=x.1∧x.1<=Z∧BagT g R sets x.1 x.2) (fun x=>Z - x.1) ((1,T0)) (⟨Tai _,om,hT0⟩) (fun x hx=>?_);clear F
 clear hT0 T0;obtain ⟨m,T⟩:=x;obtain ⟨hm1,hm2,hT⟩:=hx;simp only at hm1 hm2 hT;dsimp only;refine fN 5 @tmz ?_;refine gB ?_;refine fC @tmz (cB) ?_;by_cases hmZ:m < Z;rotate_left
 ·obtain rfl:m=Z:=by omega
  have nl:=Za4 (l:=T);rw [hBl _ _ hT] at nl;have nr:=ZaW (l:=T);have q1:=lF m m;have hg2:=Za8 ((hBg _ _ hT (m - 1) om om).1 om);have w1:IntKind.i64.wrap ((m:Int) - 1)=((m - 1:Nat):Int):=ZbM om om om;have i1:(m - 1 < m)=True:=eq_true om;refine fR (ai @q1 @tmz) ?_;refine fN 16 @tmz ?_;refine gB ?_;refine fC @tmz (cB) ?_;refine fR (aj7 @nl @nr @hg2 @w1 @i1 @Zax @tmz) ?_;exact fD @tmz
 have q1:=lT m Z;have hw:=Zao (k:=m) om;have w1:IntKind.i64.wrap ((m:Int) - 1)=((m - 1:Nat):Int):=ZbM om om om;have ba2:=Zhg (a:=m - 1) (b:=m) om om;have i0:(m < Z)=True:=eq_true hmZ;have hz:=hB0 _ _ hT hm1 hmZ;have hzz:nR (T.set m 0)=nR T:=by rw [hz]
 have hT2:=hBn _ _ hT hmZ;refine fR (ai @q1 @tmz) ?_;refine fG @tmz ?_;have F:=ai @hzz @tmz;refine gL (ι:=Nat × Nat) [9,11,29,35] [9] (fun y=>[(11,A.d (.one (.lit (.int .i64 y.1)))),(9,.buf 9)]) (fun y=>[(9,.buf none 3 1 (nR (T.set m y.2)))]) (fun y=>y.1<=sets.length∧(∀ q,m=2 ^ q->(q < y.1->y.2=bvN g R sets m))∧((∀ q,q < y.1->m≠2 ^ q)->y.2=0)) (fun y=>sets.length - y.1) ((0,0)) (⟨om,fun q _ h=>om,fun _=>rfl⟩) (fun y hy=>?_);clear F
 obtain ⟨i,v⟩:=y;obtain ⟨hi,hv1,hv2⟩:=hy;simp only at hi hv1 hv2;dsimp only;by_cases hil:i < sets.length
 ·have q3:=lT i sets.length;have hwi:=Zao (k:=i) om;have cBi:=Zgj (k:=i) om;refine fN 10 (ai @q3 @tmz) ?_;refine gB ?_;refine fC @tmz (cBi) ?_;by_cases e:m=2 ^ i
  ·have q4:((m:Int)=((2 ^ i:Nat):Int))=True:=eq_true (by rw [e]);obtain ⟨s,hsi⟩:∃ s,sets[i]?=some s:=⟨_,Taa hil⟩;have hbv:bvN g R sets m=s:=by rw [e];unfold bvN;exact ZzH hsi (hs s (Tac hsi))
   have r1:=Za8 hsi;have nl:=Za4 (l:=T.set m v);rw [Taz,hBl _ _ hT] at nl;have nr:=ZaW (l:=T.set m v);have g1:(nR (T.set m v))[m]?=some [.lit (.int .i64 v)]:=Za8 (Tbn (by rw [hBl _ _ hT];exact hmZ));have ns:=fun x=>Zdg (l:=T.set m v) m x;simp only [List.set_set] at ns;have i1:(i < sets.length)=True:=eq_true hil;have hv0:(∀ q,q < i+1->m≠2 ^ q)->s=0:=fun h=>absurd e (h i om);clear cBi;generalize 2 ^ i=M at *
   refine fR (ai @q4 @tmz) ?_;have F:=aj12 @hwi @r1 @rl @rr @nl @nr @g1 @ns @i0 @i1 @Zax @tmz;refine gG ?_;exact ⟨(i+1,s),⟨hil,fun q h1 h2=>hbv.symm,hv0⟩,gw,gw,om⟩
  have q4:((m:Int)=((2 ^ i:Nat):Int))=False:=eq_false om
  have hv3:∀ q,m=2 ^ q->(q < i+1->v=bvN g R sets m):=fun q h1 h2=>hv1 q h1 (by
   by_cases h3:q=i
   ·subst h3;exact absurd h1 e
   ·omega)
  have hv4:(∀ q,q < i+1->m≠2 ^ q)->v=0:=fun h=>hv2 fun q h1=>h q om;clear cBi;refine fR (ai @q4 @tmz) ?_;have F:=ai @hwi @tmz;refine gG ?_;exact ⟨(i+1,v),⟨hil,hv3,hv4⟩,gw,gw,om⟩
 obtain rfl:i=sets.length:=by omega
 have q3:=lF sets.length sets.length;have hz:=hB0 _ _ hT hm1 hmZ;have hle:(m - 1) &&& m<=m - 1:=Nat.and_le_left;refine fG (aj5 @q3 @w1 @ba2 @Zax @tmz) ?_;by_cases hA:(m - 1) &&& m=0
 ·obtain ⟨q,rfl⟩:=ZzT om hA;have hq:=hpow q hmZ;have hv:=hv1 q rfl hq;subst hv;rw [hA];have F:=@tmz;refine gL (ι:=Nat) [12,48] [] (fun z=>[(12,A.d (.one (.lit (.int .i64 z))))]) (fun z=>[]) (fun z=>z=0) (fun z=>z) (0) (rfl) (fun z hz=>?_);clear F;subst hz;have q4:=lF 0 (0:Nat);generalize 2 ^ q=M at *;have F:=aj3 @q4 @hw @tmz;refine gG ?_;exact ⟨(M+1,T.set M (bvN g R sets M)),⟨om,om,hT2⟩,gw,gw,om⟩
 have hnp:∀ i,m≠2 ^ i:=fun i e=>hA (by subst e;exact ZzS i);have hv:=hv2 fun q _=>hnp q;subst hv;have hs0:=Zr6 (R:=R) (sets:=sets) (N:=g.sorts.names.length) (m:=m) om;have hend:=Zxi (R:=R) (sets:=sets) (N:=g.sorts.names.length) (m:=m) hs hRlt hnp;have F:=@tmz;refine gL (ι:=Nat × Nat) [9,12,48] [9] (fun z=>[(12,A.d (.one (.lit (.int .i64 z.1)))),(9,.buf 9)]) (fun z=>[(9,.buf none 3 1 (nR (T.set m z.2)))]) (fun z=>z.1 < m∧z.1 &&& m=z.1∧z.2=ofB (Zgm R sets g.sorts.names.length m z.1) g.sorts.names.length) (fun z=>z.1) (((m - 1) &&& m,0)) (⟨om,by rw [Nat.and_assoc,Nat.and_self],hs0.symm⟩) (fun z hz=>?_);clear F
 obtain ⟨p,v⟩:=z;obtain ⟨hp1,hp2,hv⟩:=hz;simp only at hp1 hp2 hv;dsimp only;by_cases hp0:p=0
 ·subst hp0;have q3:=lF 0 (0:Nat);have e:v=bvN g R sets m:=by rw [hv,hend];rfl
  subst e;have F:=aj3 @q3 @hw @tmz;refine gG ?_;exact ⟨(m+1,T.set m (bvN g R sets m)),⟨om,om,hT2⟩,gw,gw,om⟩
 have q3:=lT 0 p;have wp:IntKind.i64.wrap ((p:Int) - 1)=((p - 1:Nat):Int):=ZbM om om om;have bap:=Zhg (a:=p - 1) (b:=m) om om;have bx:=Zxq (a:=m) (b:=p) om om;have hxp:=Zxr hp2 hp0 om;have hp3:(p - 1) &&& m<=p - 1:=Nat.and_le_left;have hTp:=(hBg _ _ hT p om om).1 hp1;have hTx:=(hBg _ _ hT (m ^^^ p) hxp.1 om).1 hxp.2;have e:=fun b=>ZvC (R:=R) (sets:=sets) (N:=g.sorts.names.length) (m:=m) (p:=p) (b:=b) hp0 om hp2
 have e:v ||| ofB (fun b=>Two R (bvN g R sets p) (bvN g R sets (m ^^^ p)) b) g.sorts.names.length=ofB (Zgm R sets g.sorts.names.length m ((p - 1) &&& m)) g.sorts.names.length:=by
  rw [hv,Zir];exact ZbE fun b _=>(e b).symm
 have cR:=cG [bvN g R sets p,bvN g R sets (m ^^^ p)] (fun d hd=>hdeg d hd) (by simp) (fun s hs=>by
  simp only [Tbg,List.not_mem_nil,or_false] at hs;rcases hs with rfl | rfl <;> exact hcv _)
 rw [hany] at cR;have cR:=Ziw cR;have hv62:v < 4611686018427387904:=by rw [hv];exact ZcH (ZcK _ _) hN
 have hor:=Zep hv62 (ZcH (ZcK (fun b=>Two R (bvN g R sets p) (bvN g R sets (m ^^^ p)) b) g.sorts.names.length) hN);rw [e] at hor;generalize ofB (fun b=>Two R (bvN g R sets p) (bvN g R sets (m ^^^ p)) b) g.sorts.names.length=tw at cR hor;have nl:=Za4 (l:=T.set m v);rw [Taz,hBl _ _ hT] at nl;have nr:=ZaW (l:=T.set m v);have g1:(nR (T.set m v))[m]?=some [.lit (.int .i64 v)]:=Za8 (Tbn (by rw [hBl _ _ hT];exact hmZ))
 have g2:(nR (T.set m v))[p]?=some [.lit (.int .i64 (bvN g R sets p))]:=Za8 (by rw [Tbo om];exact hTp);have g3:(nR (T.set m v))[m ^^^ p]?=some [.lit (.int .i64 (bvN g R sets (m ^^^ p)))]:=Za8 (by rw [Tbo om];exact hTx);have ns:=fun x=>Zdg (l:=T.set m v) m x;simp only [List.set_set] at ns;have i2:(p < Z)=True:=eq_true om;have i3:(m ^^^ p < Z)=True:=eq_true om;clear e hv hend;refine fN 15 (ai @q3 @tmz) ?_
 refine gB ?_;refine fC (aj14 @nl @nr @g1 @g2 @g3 @i0 @i2 @i3 @bx @h0 @ho @Zag @Zax @tmz) (cR) ?_;refine fR (aj8 @nl @nr @g1 @hor @ns @i0 @Zax @tmz) ?_;have F:=aj3 @wp @bap @tmz;refine gG ?_;exact ⟨((p - 1) &&& m,ofB (Zgm R sets g.sorts.names.length m ((p - 1) &&& m)) g.sorts.names.length),⟨om,by rw [Nat.and_assoc,Nat.and_self],rfl⟩,gw,gw,om⟩
end
section
variable {g:Sgn}
theorem AppOk.len7 (hg:SgnOk g) {t:Tm} {o:Opr} {d:Dcl} (hA:AppOk g t o d):t.args.length<=7:=by
 cases ha:o.assoc with
 | true=>exact (hA.asc ha).2
 | false =>
  rw [hA.nas ha];have:=(hg.decls o (Tac hA.at')).ar d hA.fst;omega
theorem AppOk.dlen (hg:SgnOk g) {t:Tm} {o:Opr} {d:Dcl} (hA:AppOk g t o d) (ha:o.assoc=false):∀ f∈o.decls,f.args.length=t.args.length:=by
 intro f hf;rw [hA.nas ha];exact ((hg.decls o (Tac hA.at')).all d hA.fst f hf).len
theorem Zsg {t a:Tm} {i:Nat} (h:t.args[i]?=some a):(t.args.take i).map (sortsTm g)++[sortsTm g a]=(t.args.take (i+1)).map (sortsTm g):=by
 rw [List.take_add_one,h,Tbv];rfl
theorem ZjB (hg:SgnOk g):∀ (n:Nat) {t:Tm},sizeTm t < n->Zau g t->Con e0 95 [.agg (Zaf g),.agg (Zab t)] [.one (.lit (.int .i64 ((sortsTm g t:Nat):Int)))]:=by
 intro n
 induction n with
 | zero=>exact fun {t} h _=>absurd h om
 | succ n IH =>
 intro t hsz hf;obtain ⟨hnode,hargs,_⟩:=ZaP.1 hf;have cU:=Zf2 hg.sorts.n8 hg.sorts.m16 (SortsOk.subsIn hg.sorts.subs);rw [ZaZ] at cU;by_cases hop:t.op=-1
 ·have hv:ZcM g t:=hnode.resolve_right fun ⟨o,d,hA⟩=>by have:=hA.lo;omega
  have q1:(t.op=-1)=True:=eq_true hop;obtain ⟨k,hk⟩:∃ k:Nat,t.sort=k:=⟨t.sort.toNat,by have:=hv.2.2.1;omega⟩;have hgk:=ZlB hg.sorts hv.2.2.1 hv.2.2.2.1;have hgk:=Za8 hgk.1;have e:=Zjt (g:=g) hop;rw [e];have ul:=Za4 (l:=up g.sorts);rw [(Zfv (SortsOk.subsIn hg.sorts.subs)).1] at ul;have ur:=ZaW (l:=up g.sorts);have i0:0<=t.sort:=hv.2.2.1;have i1:(t.sort.toNat < g.sorts.names.length)=True:=eq_true (by have:=hv.2.2.2.1;omega)
  rw [Zaf];refine gI (ts:=[.slot 4]) 4629704814991770879 Tryz.func95 ?_;refine fN 2 (ai @q1 @tmz) ?_;refine gB ?_;refine fC @tmz (cU) ?_;refine fR (aj6 @i0 @i1 @ul @ur @hgk @tmz) ?_;exact fD @tmz
 have q1:(t.op=-1)=False:=eq_false hop;obtain ⟨o,d,hA⟩:∃ o d,AppOk g t o d:=hnode.resolve_left fun hv=>hop hv.1;have h0:=hA.lo;have ho:=hA.at';have h7:=hA.len7 hg
 have ih:∀ a∈t.args,Con e0 95 [.agg (Zaf g),.agg (Zab a)] [.one (.lit (.int .i64 ((sortsTm g a:Nat):Int)))]:=fun a ha=>IH (by
  have h1:=ZaD t;have h2:=Zbd ha;omega) (hargs a ha)
 clear IH;have e:=Zju hop ho;rw [e];have hss:∀ s∈t.args.map (sortsTm g),s < 2 ^ g.sorts.names.length:=fun s hs=>by
  obtain ⟨a,ha,rfl⟩:=Tbi.1 hs;exact Zfy hg (hargs a ha).node
 have hsl:(t.args.map (sortsTm g)).length=t.args.length:=Tay _;have cB:=fun (ha:o.assoc=true)=>ZvQ hg h0 ho ha (t.args.map (sortsTm g)) (by rw [hsl];have:=(hA.asc ha).1;omega) (by rw [hsl];exact h7) hss;have cC:=fun (ha:o.assoc=true)=>Zpw hg h0 ho ha (t.args.map (sortsTm g)) (by rw [hsl];have:=(hA.asc ha).1;omega) (by rw [hsl];exact h7) hss;rw [Zaf] at ih cB cC ⊢;have hn0:nR []=[]:=rfl;have ht0:t.args.take 0=[]:=rfl
 refine gI (ts:=[.slot 4]) 4629704814991770879 Tryz.func95 ?_;refine fG (ai @q1 @tmz) ?_;have F:=aj3 @hn0 @ht0 @tmz;refine gL (ι:=Nat) [5,6,23] [5] (fun i=>[(6,A.d (.one (.lit (.int .i64 i)))),(5,.buf 5)]) (fun i=>[(5,.buf none 3 1 (nR ((t.args.take i).map (sortsTm g))))]) (fun i=>i<=t.args.length) (fun i=>t.args.length - i) (0) (Taj _) (fun i hi=>?_);clear F;have nl:=Za4 (l:=(t.args.take i).map (sortsTm g))
 rw [Tay,List.length_take_of_le hi] at nl;have nr:=ZaW (l:=(t.args.take i).map (sortsTm g));by_cases hil:i < t.args.length
 ·have q2:=lT i t.args.length;obtain ⟨a,hai⟩:∃ a,t.args[i]?=some a:=⟨_,Taa hil⟩;have cA:=ih a (Tac hai);have ns:=ZiT (l:=(t.args.take i).map (sortsTm g)) (sortsTm g a);rw [Zsg hai] at ns;have hmx:(i+1<=maxApp)=True:=eq_true (by unfold maxApp;omega);have hw:=Zao (k:=i) om;refine fN 7 (ai @q2 @tmz) ?_;refine gB ?_;refine fC (aj3 @hai @Zax @tmz) (cA) ?_;refine fR (aj5 @nl @nr @ns @hmx @tmz) ?_;have F:=ai @hw @tmz;refine gG ?_;exact ⟨i+1,hil,gw,gw,om⟩
 obtain rfl:i=t.args.length:=by omega
 have q2:=lF t.args.length t.args.length;rw [Tap] at nl nr ⊢;have hlt:=fun b=>Zfy hg (t:=b);have hD:=hA.dlen hg;rw [<- hsl] at hD;have cF:=fun (ha:o.assoc=false)=>ZjA hg h0 ho (t.args.map (sortsTm g)) (hD ha);have h2:=Opr.deg2 hg ho;rw [Zaf] at cF;clear hi hil
 cases ha:o.assoc with
 | true =>
  cases hc:o.comm with
  | true =>
   have cB:=cB ha;have e2:bvN g (Rel2 g o) (t.args.map (sortsTm g)) (2 ^ (t.args.map (sortsTm g)).length - 1)=appS g o (t.args.map (sortsTm g)):=by
    unfold bvN appS;exact ZbE fun b _=>by unfold AppB;rw [if_pos ha,if_pos hc]
   rw [e2] at cB;refine fN 10 (aj7 @q2 @ha @hc @h0 @ho @Zag @tmz) ?_;refine gB ?_;refine fC @tmz (cB) ?_;refine fR @tmz ?_;exact fD @tmz
  | false =>
   have cC:=cC ha;have e2:cvN g o (t.args.map (sortsTm g)) 0 (t.args.map (sortsTm g)).length=appS g o (t.args.map (sortsTm g)):=by
    unfold cvN appS;exact ZbE fun b _=>by unfold AppB;rw [if_pos ha,if_neg (by simp [hc])]
   rw [e2] at cC;refine fN 12 (aj7 @q2 @ha @hc @h0 @ho @Zag @tmz) ?_;refine gB ?_;refine fC @tmz (cC) ?_;refine fR @tmz ?_;exact fD @tmz
 | false =>
  have h3:t.args.length<=3:=by
   rw [hA.nas ha];exact (hg.decls o (Tac ho)).ar d hA.fst
  have cF:=cF ha (by rw [hsl];exact h3) hss
  cases hc:o.comm with
  | true =>
   have e2:ofB (Zdb g o (t.args.map (sortsTm g))) g.sorts.names.length ||| ofB (Zdb g o (t.args.map (sortsTm g)).reverse) g.sorts.names.length=appS g o (t.args.map (sortsTm g)):=by
    unfold appS;rw [Zir];exact ZbE fun b _=>by unfold AppB AnyB;rw [if_neg (by simp [ha]),hc];simp
   have hor:=Zep (ZcH (ZcK (Zdb g o (t.args.map (sortsTm g))) g.sorts.names.length) hg.sorts.n8) (ZcH (ZcK (Zdb g o (t.args.map (sortsTm g)).reverse) g.sorts.names.length) hg.sorts.n8);rw [e2] at hor;have cG:=ZjA hg h0 ho (t.args.map (sortsTm g)).reverse (by rw [List.length_reverse];exact hD ha) (by rw [List.length_reverse,hsl];exact h3) (fun s hs=>hss s (List.mem_reverse.1 hs));rw [Zaf] at cG;have hl2:(t.args.map (sortsTm g)).length=2:=by rw [hsl,hA.nas ha];exact h2 (.inr (.inl hc)) d (Tac hA.fst)
   clear e2 cB cC hD h2 ih hargs e;rw [hsl] at hl2;generalize appS g o (t.args.map (sortsTm g))=V at hor ⊢;generalize ofB (Zdb g o (t.args.map (sortsTm g))) g.sorts.names.length=V1 at hor cF;generalize ofB (Zdb g o (t.args.map (sortsTm g)).reverse) g.sorts.names.length=V2 at hor cG;have hl3:=hsl;rw [hl2] at hl3 nl;obtain ⟨s1,s2,hs12⟩:∃ s1 s2,t.args.map (sortsTm g)=[s1,s2]:=by
    match t.args.map (sortsTm g),hl3 with
    | [x,y],_=>exact ⟨x,y,rfl⟩
   rw [hs12] at cF cG nr nl ⊢;simp only [List.reverse_cons,List.reverse_nil,Tah,List.singleton_append] at cG;have cG:=Ziw cG;have g0:(nR [s1,s2])[0]?=some [.lit (.int .i64 s1)]:=rfl;have g1:(nR [s1,s2])[1]?=some [.lit (.int .i64 s2)]:=rfl;refine fN 14 (aj7 @q2 @ha @hc @h0 @ho @Zag @tmz) ?_;refine Zcm (Zdh [5] (by simp only [pz,↓reduceIte,Nat.reduceEqDiff,Nat.reduceAdd,Nat.reduceSub,Nat.reduceMul,Nat.reduceLeDiff,Nat.reduceBEq,Tam,decide_true,decide_false,Int.reduceLE,Int.reduceToNat,Int.reduceLT,Int.reduceEq,eq_self,Nat.reduceShiftRight,Nat.reduceAnd,Nat.reduceBneDiff,tmz];exact rfl)) fun σ' hσ=>?_
   subst hσ;refine gB ?_;refine fC @tmz (cF) ?_;refine fC (aj5 @nl @nr @g0 @g1 @tmz) (cG) ?_;refine fR (ai @hor @tmz) ?_;exact fD @tmz
  | false =>
   have e2:ofB (Zdb g o (t.args.map (sortsTm g))) g.sorts.names.length=appS g o (t.args.map (sortsTm g)):=by
    unfold appS;exact ZbE fun b _=>by unfold AppB AnyB;rw [if_neg (by simp [ha]),hc];simp
   rw [e2] at cF;refine fN 15 (aj7 @q2 @ha @hc @h0 @ho @Zag @tmz) ?_;refine gB ?_;refine fC @tmz (cF) ?_;refine fR @tmz ?_;exact fD @tmz
end
section
variable {g:Sgn}
end
section
variable {g:Sgn}
noncomputable def sortsOf (g:Sgn) (t:Tm):Nat:=if Zby g=true∧Zbg g t=true then sortsTm g t else 0
theorem Zk2 (hok:ZbL g) {t:Tm} (ht:okTm t) (hb:sizeTm t<=big):Con e0 63 [.agg (Zaf g),.agg (Zab t)] [.one (.lit (.int .i64 ((sortsOf g t:Nat):Int)))]:=by
 have cT:=ZcG hok ht hb;unfold sortsOf;by_cases h:Zby g=true∧Zbg g t=true
 ·have e:(Zby g && Zbg g t)=true:=by rw [h.1,h.2];rfl
  have cS:=ZjB (Zdk.1 h.1) _ (Tan _) (Zcq.1 h.2).form;rw [if_pos h];rw [e] at cT;rw [Zaf] at cT cS ⊢;refine gI (ts:=[.slot 4]) 287 Tryz.func63 ?_;refine fN 1 @tmz ?_;refine gB ?_;refine fC @tmz (cT) ?_;refine fR @tmz ?_;refine fN 3 @tmz ?_;refine gB ?_;refine fC @tmz (cS) ?_;refine fR @tmz ?_;exact fD @tmz
 ·have e:(Zby g && Zbg g t)=false:=by
   cases h1:Zby g with
   | false=>rfl
   | true =>
    cases h2:Zbg g t with
    | false=>rfl
    | true=>exact absurd ⟨h1,h2⟩ h
  have z0:(((0:Nat):Int))=0:=rfl;rw [if_neg h];rw [e] at cT;rw [Zaf] at cT ⊢;refine gI (ts:=[.slot 4]) 287 Tryz.func63 ?_;refine fN 1 @tmz ?_;refine gB ?_;refine fC @tmz (cT) ?_;refine fR @tmz ?_;exact fD (ai @z0 @tmz)
end
section
variable {g:Sgn} {l:List Bd}
theorem ZcM.term {t:Tm} (h:ZcM g t):TermOk g t:=by
 have ha0:t.args=[]:=h.2.2.2.2;have hf:Zau g t:=ZaP.2 ⟨.inl h,(by rw [ha0];intro a ha;cases ha),.inl h.1⟩;have h1:=ZaD t;rw [ha0,Zl8] at h1;have h2:=ZkB t;exact ⟨om,om,hf⟩
theorem TermOk.var {t:Tm} (h:TermOk g t) (ho:t.op=-1):ZcM g t:=h.form.node.resolve_right fun ⟨o,d,hA⟩=>by have:=hA.lo;omega
theorem Zpx (hok:ZbL g) (hl:Zhp l) (hv:∀ y∈l,sizeTm y.var<=big) (ht:∀ y∈l,sizeTm y.to<=big):Con e0 31 [.agg (Zaf g),.one (.sl (Zaz l))] [.one (.lit (.bool (Zby g && ZdY g l)))]:=by
 have cS:=ZgA hok;have bl:=Zhq l;have bg:=Zhr l;have hT:=fun y (hy:y∈l)=>ZcG hok (hl y hy).1 (hv y hy);have hO:=fun y (hy:y∈l)=>Zk2 hok (hl y hy).2 (ht y hy);have hC:=fun y z (hy:y∈l) (hz:z∈l)=>Zd4 (hl y hy).1 (hl z hz).1;rw [Zaf] at cS hT hO ⊢;have bb:ZaE 8 (Zaz l)=true:=by
  refine List.all_eq_true.2 fun r hr=>?_;obtain ⟨y,hy,rfl⟩:=Tbi.1 hr;simp [ZbS,List.all_append,tmz]
 refine gI (ts:=[.slot 4]) 1152991873351303287 Tryz.func31 ?_;refine fN 1 @tmz ?_;refine gB ?_;refine fC @tmz (cS) ?_
 cases hs:Zby g with
 | false =>
  refine fR @tmz ?_;exact fD @tmz
 | true =>
 rw [Bool.true_and];by_cases h8:l.length<=8;rotate_left
 ·have q1:=lT 8 l.length;have hf:ZdY g l=false:=Zjv fun h=>h8 h.len;rw [hf];refine fR (aj3 @bl @q1 @tmz) ?_;exact fD @tmz
 have q1:=lF 8 l.length;refine fR (aj3 @bl @q1 @tmz) ?_;refine fG @tmz ?_;have F:=@tmz;refine gL (ι:=Nat) [4,5,6,18,46,60] [] (fun i=>[(5,A.d (.one (.lit (.int .i64 i))))]) (fun i=>[]) (fun i=>i<=l.length∧∀ (j:Nat) y,j < i->l[j]?=some y->SbsAt g l j y) (fun i=>l.length - i) (0) (⟨Taj _,fun j y h=>absurd h om⟩) (fun i hi=>?_);clear F;obtain ⟨hi,hall⟩:=hi;by_cases hil:i < l.length;rotate_left
 ·obtain rfl:i=l.length:=by omega
  have q2:=lF l.length l.length;have hf:ZdY g l=true:=Zr7 ⟨h8,fun j y hj=>hall j y (Tad.1 hj).1 hj⟩;rw [hf];exact fD (aj3 @q2 @bl @tmz)
 have q2:=lT i l.length;obtain ⟨y,hy⟩:∃ y,l[i]?=some y:=⟨_,Taa hil⟩;have hym:=Tac hy;have hbad:¬ SbsAt g l i y->ZdY g l=false:=fun h=>Zjv fun h'=>h (h'.at' i y hy);have cT:=hT y hym;have cO:=hO y hym;rw [hs,Bool.true_and] at cT;refine fN 7 (aj8 @q2 @bl @bb @bg @hy @bdz @Zax @tmz) ?_;by_cases hop:y.var.op=-1;rotate_left
 ·have q3:(y.var.op=-1)=False:=eq_false hop;have hf:=hbad fun h=>hop h.var.1;rw [hf];exact fD (aj3 @q3 @bdz @tmz)
 have q3:(y.var.op=-1)=True:=eq_true hop;refine gB ?_;refine fC (aj3 @q3 @bdz @tmz) (cT) ?_;by_cases hTv:Zbg g y.var=true;rotate_left
 ·have hf:=hbad fun h=>hTv (ZgC h.var.term);have hTv:Zbg g y.var=false:=by simpa using hTv
  rw [hf,hTv];refine fR (ai @bdz @tmz) ?_;exact fD @tmz
 have hvo:=(Zcq.1 hTv).var hop;have hg:=Zdk.1 hs;rw [hTv];refine fC (ai @bdz @tmz) (cO) ?_;obtain ⟨k,hk⟩:∃ k:Nat,y.var.sort=k:=⟨y.var.sort.toNat,by have:=hvo.2.2.1;omega⟩;have hk8:k < 8:=by have:=hvo.2.2.2.1;have:=hg.sorts.n8;omega
 have hso:sortsOf g y.to < 4611686018427387904:=by
  unfold sortsOf;split
  ·next h=>exact ZcH (Zfy hg (Zcq.1 h.2).form.node) hg.sorts.n8
  ·omega
 have cH:=Zeq (k:=k) hso om;have hte:tbit (sortsOf g y.to) k=true ↔ TermOk g y.to∧(sortsTm g y.to).testBit y.var.sort.toNat=true:=by
  have e:y.var.sort.toNat=k:=om;rw [tbit,e];unfold sortsOf;by_cases h:Zbg g y.to=true
  ·rw [if_pos ⟨hs,h⟩];exact ⟨fun h1=>⟨Zcq.1 h,h1⟩,fun h1=>h1.2⟩
  ·rw [if_neg fun h1=>h h1.2,Nat.zero_testBit];exact ⟨fun h1=>(by cases h1),fun h1=>absurd (ZgC h1.1) h⟩
 rw [<- hk] at cH;refine fC (ai @bdz @tmz) (cH) ?_
 cases hb:tbit (sortsOf g y.to) k with
 | false =>
  have hf:=hbad fun h=>by rw [hte.2 ⟨h.to',h.srt⟩] at hb;cases hb
  rw [hf];refine fR (ai @bdz @tmz) ?_;exact fD @tmz
 | true =>
 obtain ⟨b1,b2⟩:=hte.1 hb;refine fR (ai @bdz @tmz) ?_;have hwi:=Zao (k:=i) om;have hnext:(∀ (j:Nat) p,i=j+1->l[j]?=some p->Zah p.var y.var < 0)->i+1<=l.length∧∀ (j:Nat) z,j < i+1->l[j]?=some z->SbsAt g l j z:=fun ho=>⟨hil,fun j z h1 h2=>by
  by_cases e:j=i
  ·subst e;rw [hy] at h2;injection h2 with h2
   subst h2;exact ⟨hvo,ho,b1,b2⟩
  ·exact hall j z om h2⟩
 by_cases hi0:i=0
 ·subst hi0;have q4:=lF 0 (0:Nat);have F:=aj4 @q4 @hwi @bdz @tmz;refine gG ?_;exact ⟨0+1,hnext fun j p h=>absurd h om,gw,gw,om⟩
 obtain ⟨j,rfl⟩:∃ j,i=j+1:=⟨i - 1,om⟩;have q4:=lT 0 (j+1:Nat);obtain ⟨p,hp⟩:∃ p,l[j]?=some p:=⟨_,Taa om⟩;have cC:=hC p y (Tac hp) hym;have wj:IntKind.i64.wrap (((j+1:Nat):Int) - 1)=(j:Int):=ZbM om om om;have i1:(j < l.length)=True:=eq_true om;refine fN 9 @tmz ?_;refine gB ?_;refine fC (aj10 @q4 @wj @i1 @bl @bb @bg @hp @bdz @Zax @tmz) (cC) ?_;by_cases hcm:Zah p.var y.var < 0
 ·have q5:((0:Int)<=Zah p.var y.var)=False:=eq_false om;have hn2:=hnext fun j' p' h h1=>by
   obtain rfl:j=j':=by omega
   rw [hp] at h1;injection h1 with h1
   subst h1;exact hcm
  refine fR (aj3 @q5 @bdz @tmz) ?_;have F:=aj3 @hwi @bdz @tmz;refine gG ?_;exact ⟨j+1+1,hn2,gw,gw,om⟩
 ·have q5:((0:Int)<=Zah p.var y.var)=True:=eq_true om;have hf:=hbad fun h=>hcm (h.ord j p rfl hp);rw [hf];refine fR (aj3 @q5 @bdz @tmz) ?_;exact fD @tmz
end
section
variable {g:Sgn} {l:List Bd}
theorem ZvR {l:List Bd} {i:Nat} {y:Bd} (h:l[i]?=some y) (v:Tm):ZcX (l.drop i) v=if Zah y.var v=0 then some y.to else ZcX (l.drop (i+1)) v:=by
 obtain ⟨hi,rfl⟩:=Tad.1 h;rw [List.drop_eq_getElem_cons hi];rfl
theorem ZvS (hl:Zhp l) {v:Tm} (hv:okTm v) (h8:l.length<=1000):Con e0 65 [.one (.sl (Zaz l)),.agg (Zab v)] [.agg (Zab ((ZcX l v).getD zTm)),.one (.lit (.bool (ZcX l v).isSome))]:=by
 have bl:=Zhq l;have bg:=Zhr l;have bb:=bds8 l;have hz:=Zfz;refine gI (ts:=[.cell 4 34,.slot 5]) 525435 Tryz.func65 ?_;refine fG (ai @bl @tmz) ?_;have F:=@tmz;refine gL (ι:=Nat) [5,6,10,19] [] (fun i=>[(6,A.d (.one (.lit (.int .i64 i))))]) (fun i=>[]) (fun i=>i<=l.length∧ZcX (l.drop i) v=ZcX l v) (fun i=>l.length - i) (0) (⟨Taj _,rfl⟩) (fun i hi=>?_);clear F;obtain ⟨hi,hlo⟩:=hi;by_cases hil:i < l.length
 rotate_left
 ·obtain rfl:i=l.length:=by omega
  have q2:=lF l.length l.length;rw [List.drop_length] at hlo;have e:ZcX l v=none:=hlo.symm;rw [e];have z1:(none:Option Tm).getD zTm=zTm:=rfl;exact fD (aj5 @q2 @z1 @hz @bl @tmz)
 have q2:=lT i l.length;obtain ⟨y,hy⟩:∃ y,l[i]?=some y:=⟨_,Taa hil⟩;rw [ZvR hy] at hlo;have hwi:=Zao (k:=i) om;have cS:=Zcr (hl y (Tac hy)).1 hv;refine fN 4 (aj3 @q2 @bl @tmz) ?_;refine gB ?_;refine fC (aj7 @bl @bb @bg @hy @bdz @Zax @tmz) (cS) ?_;by_cases h1:Zah y.var v=0;rotate_left
 ·have q3:decide (Zah y.var v=0)=false:=decide_eq_false h1;rw [if_neg h1] at hlo;rw [q3];refine fR @tmz ?_;have F:=aj3 @hwi @bdz @tmz;refine gG ?_;exact ⟨i+1,⟨hil,hlo⟩,gw,gw,om⟩
 have q3:decide (Zah y.var v=0)=true:=decide_eq_true h1;rw [if_pos h1] at hlo;rw [q3,<- hlo];have z1:(some y.to).getD zTm=y.to:=rfl;refine fR @tmz ?_;exact fD (aj8 @z1 @bl @bb @bg @hy @bdz @Zax @tmz)
structure SbsW (g:Sgn) (l:List Bd):Prop where
 len:l.length<=1000
 var:∀ y∈l,ZcM g y.var
 to':∀ y∈l,TermOk g y.to
theorem SbsOk.w (h:SbsOk g l):SbsW g l:=⟨Tbe h.len (by decide),h.var,h.to'⟩
theorem SbsW.okB (hg:SgnOk g) (h:SbsW g l):Zhp l:=fun y hy=>⟨Zau.ok hg _ _ (Tan _) (h.var y hy).term.form,Zau.ok hg _ _ (Tan _) (h.to' y hy).form⟩
noncomputable def ap6 (g:Sgn) (l:List Bd) (t:Tm):Tm:=if t.op=-1 then (ZcX l t).getD t else match apTs g l t.args with
 | none=>zTm
 | some us=>match g.ops[t.op.toNat]? with
  | none=>zTm
  | some o=>match o.decls[0]? with
   | none=>zTm
   | some d=>mk6 g o d t.op us
theorem Zro {t:Tm} (h:t.op=-1):ap6 g l t=(ZcX l t).getD t:=by unfold ap6;rw [if_pos h]
theorem Zxs {t:Tm} (h:t.op≠-1) (hn:apTs g l t.args=none):ap6 g l t=zTm:=by unfold ap6;rw [if_neg h,hn]
theorem ZzV {t:Tm} {us:List Tm} {o:Opr} {d:Dcl} (h:t.op≠-1) (hu:apTs g l t.args=some us) (ho:g.ops[t.op.toNat]?=some o) (hd:o.decls[0]?=some d):ap6 g l t=mk6 g o d t.op us:=by
 unfold ap6;rw [if_neg h,hu];simp only [ho,hd]
theorem Zoj {t u:Tm} (h:apT g l t=some u):ap6 g l t=u:=by
 by_cases ho:t.op=-1
 ·rw [ZlC ho,Taq] at h;rw [Zro ho,h]
 ·rw [ZgU ho] at h;unfold ap6;rw [if_neg ho]
  cases h1:apTs g l t.args with
  | none=>rw [h1] at h;cases h
  | some us =>
   rw [h1,Option.bind_some] at h;unfold mkT at h
   cases h2:g.ops[t.op.toNat]? with
   | none=>rw [h2] at h;cases h
   | some o =>
    rw [h2] at h;simp only at h ⊢
    cases h3:o.decls[0]? with
    | none=>rw [h3] at h;cases h
    | some d =>
     rw [h3] at h;simp only at h ⊢;unfold mk6;rw [h];rfl
theorem Zpy (hokg:ZbL g) (hg:SgnOk g) (hS:SbsW g l):∀ (n:Nat) {t:Tm},sizeTm t < n->TermOk g t->Con e0 32 [.agg (Zaf g),.one (.sl (Zaz l)),.agg (Zab t)] [.agg (Zab (ap6 g l t)),.one (.lit (.bool (apT g l t).isSome))]:=by
 intro n
 induction n with
 | zero=>exact fun {t} h _=>absurd h om
 | succ n IH =>
 intro t hsz ht;have hz:=Zfz;have h60:=Zej ht;have hok2:=Zau.ok hg _ t (Tan _) ht.form;have hokB:Zhp l:=hS.okB hg;by_cases hop:t.op=-1
 ·have q1:(t.op=-1)=True:=eq_true hop;have cB:=ZvS hokB hok2 hS.len;have z2:(some ((ZcX l t).getD t)).isSome=true:=rfl;rw [Zro hop,ZlC hop];rw [Zaf] at *;refine gI (ts:=[.cell 6 34,.slot 7]) 70370900131823 Tryz.func32 ?_;refine fN 2 (ai @q1 @tmz) ?_;refine gB ?_;refine fC @tmz (cB) ?_;refine fR @tmz ?_
  cases hk:ZcX l t with
  | none =>
   have z1:(none:Option Tm).getD t=t:=rfl;have z3:(none:Option Tm).isSome=false:=rfl;rw [hk] at z2;exact fD (aj4 @z1 @z2 @z3 @tmz)
  | some u =>
   have z1:(some u).getD t=u:=rfl;have z3:(some u).isSome=true:=rfl;have z4:(some u).getD zTm=u:=rfl;rw [hk] at z2;exact fD (aj5 @z1 @z2 @z3 @z4 @tmz)
 obtain ⟨o,d,hA⟩:=ht.form.node.resolve_left (fun hv=>hop hv.1);have q1:(t.op=-1)=False:=eq_false hop;have cB:=fun us h1 h2=>ZkZ hokg hg hA.lo hA.at' hA.fst us h1 h2;rw [Zaf] at *;refine gI (ts:=[.cell 6 34,.slot 7]) 70370900131823 Tryz.func32 ?_;refine fG (ai @q1 @tmz) ?_;have F:=ai @Zct @tmz;refine gL (ι:=Nat × List Tm) [7,10,11,12,13,31,46] [10] (fun x=>[(11,A.d (.one (.lit (.int .i64 x.1)))),(10,.buf 10)]) (fun x=>[(10,.buf none 34 4 (Zaa x.2))]) (fun x=>x.1<=t.args.length∧apTs g l (t.args.take x.1)=some x.2) (fun x=>t.args.length - x.1) ((0,[])) (⟨Taj _,rfl⟩) (fun x hx=>?_);clear F
 obtain ⟨i,us⟩:=x;obtain ⟨hi,hus⟩:=hx;simp only at hi hus;dsimp only;have hul:=Zoc hus;rw [List.length_take_of_le hi] at hul;have nl:=Zaj us;have nr:ZaE 4 (Zaa us)=true:=ZbN _;by_cases hil:i < t.args.length;rotate_left
 ·obtain rfl:i=t.args.length:=by omega
  have q2:=lF t.args.length t.args.length;rw [Tap] at hus;have e:apT g l t=mkO g o d t.op us:=by rw [ZgU hop,hus];exact Zn6 hA.at' hA.fst us
  have cB:=cB us (fun u hu=>by
   obtain ⟨a,ha,hau⟩:=Zhv hus u hu;exact ZkR hg hS.to' _ a (Tan _) (ht.arg ha) hau) om
  rw [e,ZzV hop hus hA.at' hA.fst];refine fN 14 (ai @q2 @tmz) ?_;refine gB ?_;refine fC @tmz (cB) ?_;refine fR @tmz ?_;exact fD @tmz
 have q2:=lT i t.args.length;obtain ⟨a,ha⟩:∃ a,t.args[i]?=some a:=⟨_,Taa hil⟩;have ham:=Tac ha;have hs1:=ZaD t;have hs2:=Zbd ham;have cA:=IH (t:=a) om (ht.arg ham);have hwi:=Zao (k:=i) om;have hmx:(us.length+1<=maxApp)=True:=eq_true (by unfold maxApp;omega);have hsn:apTs g l (t.args.take (i+1))=(apT g l a).map fun u=>us++[u]:=by rw [Zf5 ha,Zmd,hus];rfl
 refine fN 10 (aj4 @q2 @ha @Zax @tmz) ?_;refine gLt 11 10 12 ?_;refine fC (aj3 @ha @Zax @tmz) (cA) ?_;refine fR @tmz ?_
 cases hu:apT g l a with
 | none =>
  have z3:(none:Option Tm).isSome=false:=rfl;have z5:(none:Option Tm).getD zTm=zTm:=rfl;have e:apTs g l t.args=none:=Zme ham hu;have e2:apT g l t=none:=by rw [ZgU hop,e];rfl
  rw [e2,Zxs hop e];exact fD (aj4 @z3 @z5 @hz @tmz)
 | some u =>
  have z3:(some u).isSome=true:=rfl;have z5:ap6 g l a=u:=Zoj hu;rw [hu] at hsn;have ns:Zaa us++[Zab u]=Zaa (us++[u]):=by simp [ZbW]
  rw [z5];have F:=aj8 @z3 @z5 @nl @nr @ns @hmx @hwi @tmz;refine gG ?_;exact ⟨(i+1,us++[u]),⟨hil,hsn⟩,gw,gw,om⟩
end
section
variable {g:Sgn} {b:Nat}
def Zzg (g:Sgn) (b:Nat) (w:World):Prop:=(∀ c,c=b->¬ e0.E c)∧∃ M,Memo g M∧MapL w b M
noncomputable def eM (g:Sgn) (b:Nat):Env:=e0.plus (fun c=>c=b) (Zzg g b)
theorem Zeu:Fits e0 (fun c=>c=b) (Zzg g b):=⟨fun w w' hz hE ⟨h1,M,h2,h3⟩=>⟨h1,M,h2,MapL.stable b M w w' hz hE h3⟩,fun w h=>h.1⟩
theorem Con.m {f:FuncId} {args r:List D} (h:Con e0 f args r):Con (eM g b) f args r:=Con.up Zeu h
theorem ConE.m {f:FuncId} {args:List D} {R:List D->Prop} (h:ConE e0 f args R):ConE (eM g b) f args R:=ConE.up Zeu h
theorem ConR.m {f:FuncId} {args:List D} {ty sz:Nat} {rows:List (List C)} (h:ConR e0 f args ty sz rows):ConR (eM g b) f args ty sz rows:=ConR.up Zeu h
theorem ConI.m {f:FuncId} {ty sz:Nat} {rows rows':List (List C)} {args r:List D} (h:ConI e0 f ty sz rows args rows' r):ConI (eM g b) f ty sz rows args rows' r:=ConI.up Zeu h
theorem ConT.m {f:FuncId} {ty sz:Nat} {rows rows':List (List C)} {args:List D} (h:ConT e0 f ty sz rows args rows'):ConT (eM g b) f ty sz rows args rows':=ConT.up Zeu h
theorem ConP.m {f:FuncId} {args:List D} {pm:List Bk} {R:List D->List Bk->Prop} (h:ConP e0 f args pm R):ConP (eM g b) f args pm R:=ConP.up Zeu h
theorem ConP.imp {e:Env} {f:FuncId} {args:List D} {pm:List Bk} {R R':List D->List Bk->Prop} (h:ConP e f args pm R) (hR:∀ r pm,R r pm->R' r pm):ConP e f args pm R' :=
 ⟨h.1,fun w S vs hS hE hG hpm hap hvs=>(h.2 w S vs hS hE hG hpm hap hvs).mono fun en w' ⟨v,r,pm',h1,hr,hk⟩=>⟨v,r,pm',h1,hR r pm' hr,hk⟩⟩
end
section
variable {g:Sgn} {l:List Bd} {b:Nat}
end
section
variable {g:Sgn} {l:List Bd}
theorem ZvT (hb:l.length+Zar (Zaz l)<=1048576):∀ y∈l,Zal (Zab y.var)<=1048576∧Zal (Zab y.to)<=1048576:=fun y hy=>by
 have h1:=Zix (List.mem_map_of_mem (f:=ZbS) hy);have h2:Zal (ZbS y)=Zal (Zab y.var)+Zal (Zab y.to):=Zxu _ _;have h3:Zar (l.map ZbS)=Zar (Zaz l):=rfl;omega
theorem ZzX {t:Tm} (h:TermOk g t):Zal (Zab t)<=1048576:=by
 have h1:=Zes h.form;have h2:=h.size;omega
open Classical in
noncomputable def aS (g:Sgn) (l:List Bd) (t:Tm):Option Tm:=if Zby g=true∧ZdY g l=true∧Zbg g t=true then apT g l t else none
theorem Zms:ZdY g l=true ↔ SbsOk g l:=by simp [ZdY]
theorem ZmU (hok:ZbL g) (hl:Zhp l) (hb:l.length+Zar (Zaz l)<=1048576) {t:Tm} (ht:okTm t) (htb:Zal (Zab t)<=1048576):Con e0 12 [.agg (Zaf g),.one (.sl (Zaz l)),.agg (Zab t)] [.agg (Zab ((aS g l t).getD zTm)),.one (.lit (.bool (aS g l t).isSome))]:=by
 have cS:=Zpx hok hl (fun y hy=>Zc7 (ZvT hb y hy).1) (fun y hy=>Zc7 (ZvT hb y hy).2);have cT:=ZcG hok ht (Zc7 htb);have hz:=Zfz;have z1:(none:Option Tm).getD zTm=zTm:=rfl;have z2:(none:Option Tm).isSome=false:=rfl;by_cases h:Zby g=true∧ZdY g l=true∧Zbg g t=true;rotate_left
 ·have e:aS g l t=none:=by unfold aS;rw [if_neg h]
  rw [e];rw [Zaf] at cS cT ⊢;refine gI (ts:=[.cell 6 34,.slot 7]) 537396207 Tryz.func12 ?_;refine fN 1 @tmz ?_;refine gB ?_;refine fC @tmz (cS) ?_
  cases h1:(Zby g && ZdY g l) with
  | false =>
   refine fR @tmz ?_;exact fD (aj4 @z1 @z2 @hz @tmz)
  | true =>
  have h2:(Zby g && Zbg g t)=false:=by
   rw [Tar] at h1
   cases h3:Zbg g t with
   | false=>rw [Bool.and_false]
   | true=>exact absurd ⟨h1.1,h1.2,h3⟩ h
  rw [h2] at cT;refine fC @tmz (cT) ?_;refine fR @tmz ?_;exact fD (aj4 @z1 @z2 @hz @tmz)
 obtain ⟨h1,h2,h3⟩:=h;have e:aS g l t=apT g l t:=by unfold aS;rw [if_pos ⟨h1,h2,h3⟩]
 have hg:=Zdk.1 h1;have hS:=Zms.1 h2;have hT:=Zcq.1 h3;have cA:=Zpy hok hg hS.w _ (Tan _) hT;rw [e];rw [h1,h2] at cS;rw [h1,h3] at cT;rw [Zaf] at cS cT cA ⊢;refine gI (ts:=[.cell 6 34,.slot 7]) 537396207 Tryz.func12 ?_;refine fN 1 @tmz ?_;refine gB ?_;refine fC @tmz (cS) ?_;refine fC @tmz (cT) ?_;refine fR @tmz ?_;refine fN 3 @tmz ?_;refine gB ?_;refine fC @tmz (cA) ?_;refine fR @tmz ?_
 cases hu:apT g l t with
 | none=>(exact fD (aj4 @z1 @z2 @hz @tmz))
 | some u =>
  have z3:(some u).getD zTm=u:=rfl;have z4:(some u).isSome=true:=rfl;have hk:=ZkR hg hS.to' _ t (Tan _) hT hu;have cC:=ZeH u (ZzX hk);rw [Zoj hu];refine fN 6 (aj3 @z3 @z4 @tmz) ?_;refine gB ?_;refine fC @tmz (cC) ?_;refine fR @tmz ?_;exact fD (aj3 @z3 @z4 @tmz)
theorem Zm9 {t u:Tm} (h:aS g l t=some u):TermOk g u:=by
 unfold aS at h;split at h
 ·next hc=>exact ZkR (Zdk.1 hc.1) (Zms.1 hc.2.1).to' _ t (Tan _) (Zcq.1 hc.2.2) h
 ·cases h
end
section
variable {g:Sgn} {rank:List Int} {a b c:Tm}
theorem ZcY:Za2 g rank a b=true ↔ Zce g=true∧rank.length=g.ops.length∧TermOk g a∧TermOk g b∧Gr (rkF rank) (cmF g) a b:=by
 simp only [Za2,Tar,decide_eq_true_eq,Zbg,ZbY]
theorem Zxx:Za2 g rank a a=false:=by
 cases h:Za2 g rank a a with
 | false=>rfl
 | true=>exact absurd (ZcY.1 h).2.2.2.2 Gr.irr
theorem Zv2 (h:Za2 g rank a b=true):Za2 g rank b a=false:=by
 cases h2:Za2 g rank b a with
 | false=>rfl
 | true=>exact ((ZcY.1 h).2.2.2.2.asym (ZcY.1 h2).2.2.2.2).elim
theorem Zsh (h:Za2 g rank a b=true) (h2:Za2 g rank b c=true):Za2 g rank a c=true:=by
 obtain ⟨q1,q2,q3,q4,q5⟩:=ZcY.1 h;obtain ⟨_,_,_,q6,q7⟩:=ZcY.1 h2;exact ZcY.2 ⟨q1,q2,q3,q6,q5.trans q7⟩
theorem Zxy (hf:Zce g=true) (hr:rank.length=g.ops.length) (ha:TermOk g a) (hm:b∈a.args):Za2 g rank a b=true:=ZcY.2 ⟨hf,hr,ha,ha.arg hm,.same hm⟩
theorem Zv3 (h:Zce g=true):∀ o∈g.ops,o.assoc=false∧o.unit=0:=fun o ho=>by
 simp only [Zce,Tar] at h;have h1:=List.all_eq_true.1 h.1 o ho;simp only [ZfB,Tar,Bool.not_eq_true',decide_eq_true_eq] at h1;have h2:=((Zdk.1 h.2).axs o ho).lo;exact ⟨h1.1,om⟩
theorem Zsi {l:List Bd} {u v:Tm} (h:Za2 g rank a b=true) (hu:aS g l a=some u) (hv:aS g l b=some v):Za2 g rank u v=true:=by
 obtain ⟨q1,q2,q3,q4,q5⟩:=ZcY.1 h;have h1:=Zm9 hu;have h2:=Zm9 hv;have e1:apT g l a=some u:=by unfold aS at hu;split at hu;exact hu;cases hu
 have e2:apT g l b=some v:=by unfold aS at hv;split at hv;exact hv;cases hv
 exact ZcY.2 ⟨q1,q2,h1,h2,ZhE (Zv3 q1) _ (Tan _) q3.form q4.form q5 e1 e2⟩
end
end Go.Proofs.YteiljfkknokfjaaGreatDoor
namespace Go.Proofs.YteiljfkknokfjaaGreatDoor
open Go.RowKit
open Go.Sort (grow HoldsK putRowK flatK SWO PermIn SortedIn Holds mapBlock onCells putRow putCells get_flatK size_flatK)
theorem Zad.one {w:World} {S:Nat->Prop}:∀ {cs:List C} {us:List Value},cs.all Zay=true->Zad w S cs us->∀ v∈us,v.oneCell'=true
 | [],[],_,_,v,h=>by simp at h
 | c::cs,u::us,hc,h,v,hv=>by
  simp only [List.all_cons,Tar] at hc;simp only [Zad] at h;rcases Tbg.1 hv with rfl | hv
  ·exact Zfr hc.1 h.1
  ·exact Zad.one hc.2 h.2 v hv
 | [],_::_,_,h,_,_=>by simp [Zad] at h
 | _::_,[],_,h,_,_=>by simp [Zad] at h
end Go.Proofs.YteiljfkknokfjaaGreatDoor
namespace Go.Proofs.YteiljfkknokfjaaGreatDoor
open Go.Shelf
end Go.Proofs.YteiljfkknokfjaaGreatDoor
namespace Go.Proofs.YteiljfkknokfjaaGreatDoor
open Go.RowKit
def RCut (a:Option Addr) (cap ty sz:Nat) (rows:List (List C)) (r:List D) (pm:List Bk):Prop:=r=[.one (.lit (.slice a rows.length cap))]∧pm=[.buf (some (a,cap)) ty sz rows]
theorem Zsr {t x:Tm} {ts:List Tm} {i:Nat} (hx:ts[i]?=some x) (h:Zbu t ts=ts.take i++Zbu t (ts.drop i)) (hc:Zah x t < 0):Zbu t ts=ts.take (i+1)++Zbu t (ts.drop (i+1)):=by
 obtain ⟨hl,e⟩:=Tad.1 hx;rw [h,List.drop_eq_getElem_cons hl,e,Zbu,if_pos hc];simp [List.take_add_one,hx]
theorem Zss {t x:Tm} {ts:List Tm} {i:Nat} (hx:ts[i]?=some x) (h:Zbu t ts=ts.take i++Zbu t (ts.drop i)) (hc:Zah x t=0):Zbu t ts=ts:=by
 obtain ⟨hl,e⟩:=Tad.1 hx;rw [h,List.drop_eq_getElem_cons hl,e,Zbu,if_neg om,if_pos hc,<- e,<- List.drop_eq_getElem_cons hl,Tbm]
theorem Zst {t x:Tm} {ts:List Tm} {i:Nat} (hx:ts[i]?=some x) (h:Zbu t ts=ts.take i++Zbu t (ts.drop i)) (h1:¬ Zah x t < 0) (h2:¬ Zah x t=0):Zbu t ts=ts.take i++[t]++ts.drop i:=by
 obtain ⟨hl,e⟩:=Tad.1 hx;rw [h,List.drop_eq_getElem_cons hl,e,Zbu,if_neg h1,if_neg h2];simp
theorem Zwl {t:Tm} {ts:List Tm} {i:Nat} (hi:ts.length<=i) (h:Zbu t ts=ts.take i++Zbu t (ts.drop i)):Zbu t ts=ts.take i++[t]++ts.drop i:=by
 rw [h,List.drop_eq_nil_of_le hi,Zbu];simp
theorem ZiA (ts:List Tm) (t:Tm) (hts:Zat ts) (ht:okTm t) (hl:ts.length<=8000000):Con e0 121 [.one (.sl (Zaa ts)),.agg (Zab t)] [.one (.sl (Zaa (Zbu t ts)))]:=by
 refine gI (ts:=[.slot 4]) 8590459003 Tryz.func121 ?_;refine fG @tmz ?_;have F:=@tmz;refine gL (ι:=Nat) [5,19] [] (fun x=>[(5,.d (.one (.lit (.int .i64 (x:Int)))))]) (fun x=>[]) (fun x=>x<=ts.length∧Zbu t ts=ts.take x++Zbu t (ts.drop x)) (fun x=>ts.length - x) (0) (⟨Taj _,rfl⟩) (fun x hx=>?_);clear F;obtain ⟨hi,hf⟩:=hx;by_cases hlt:x < ts.length
 ·obtain ⟨a,ha⟩:∃ n,ts[x]?=some n:=⟨_,Taa hlt⟩;have q1:=lT x ts.length;have q4:IntKind.i64.wrap ((x:Int)+1)=(x:Int)+1:=IntWalk.i64_in _ om;have hcmp:=Zd4 (hts.mem (Tac ha)) ht;refine fB (ai @q1 @tmz) ?_;refine fC (aj3 @q1 @tmz @ha) (hcmp) ?_;by_cases hc:Zah a t < 0
  ·have q2:(Zah a t < 0)=True:=eq_true hc;refine fR (aj3 @q1 @q2 @tmz) ?_;have hs:=Zsr ha hf hc;have F:=ai @q4 @q2;refine gG ?_;exact ⟨x+1,⟨hlt,hs⟩,gw,gw,om⟩
  ·have q2:(Zah a t < 0)=False:=eq_false hc;refine fR (aj3 @q1 @q2 @tmz) ?_;refine fB (aj3 @q1 @q2 @tmz) ?_;refine fC (aj3 @q1 @tmz @ha) (Zcr (hts.mem (Tac ha)) ht) ?_;by_cases h0:Zah a t=0
   ·have q3:decide (Zah a t=0)=true:=decide_eq_true h0;refine fR (aj3 @q1 @q3 @tmz) ?_;rw [Zss ha hf h0];exact fD (ai @q3 @tmz)
   ·have q3:decide (Zah a t=0)=false:=decide_eq_false h0;refine fR (aj3 @q1 @q3 @tmz) ?_;have hins:=Zst ha hf hc h0;refine fN 6 (ai @q3 @tmz) ?_;rw [hins,Zbz,Zbz,Zcc,<- Zc5,<- Zc6];have hxl:((x:Int)<=(ts.length:Int))=True:=eq_true om;have r1:ZaE 4 ((Zaa ts).take x)=true:=by rw [Zc5];exact ZbN _
    have r2:ZaE 4 ((Zaa ts).drop x)=true:=by rw [Zc6];exact ZbN _
    have n1:((Zaa ts).take x).length<=8000000:=by rw [Taw,Zaj];omega
    have n2:((Zaa ts).drop x).length<=8000000:=by rw [Tax,Zaj];omega
    have n3:((Zaa ts).take x).length+1<=maxApp:=by unfold maxApp;omega
    have n4:((Zaa ts).take x).length+1+((Zaa ts).drop x).length<=maxApp:=by unfold maxApp;omega
    have F:=aj6 r1 r2 hxl n3 n4 tmz;refine gA 7 4 ?_ (.inl rfl) ?_
    ·show 0+_<=maxApp;unfold maxApp;omega
    clear F;refine fR (aj6 @r1 @r2 @hxl @n3 @n4 @tmz) ?_;have tkA:(Zaa ts).take ts.length=Zaa ts:=by rw [<- Zaj ts,Tap]
    have n5:((Zaa ts).take x++[Zab t]).length+((Zaa ts).drop x).length<=maxApp:=by simp only [Tae,Tag,Tak];omega
    have hll:((ts.length:Int)<=(ts.length:Int))=True:=eq_true (Int.le_refl _);have F:=aj9 @r1 @r2 @hxl @n3 @n4 @n5 @hll @tkA @tmz;refine gG ?_;exact gTz [4]
 ·have q1:=lF x ts.length;have hins:=Zwl om hf;refine fN 6 (ai @q1 @tmz) ?_;rw [hins,Zbz,Zbz,Zcc,<- Zc5,<- Zc6];have hxl:((x:Int)<=(ts.length:Int))=True:=eq_true om;have r1:ZaE 4 ((Zaa ts).take x)=true:=by rw [Zc5];exact ZbN _
  have r2:ZaE 4 ((Zaa ts).drop x)=true:=by rw [Zc6];exact ZbN _
  have n1:((Zaa ts).take x).length<=8000000:=by rw [Taw,Zaj];omega
  have n2:((Zaa ts).drop x).length<=8000000:=by rw [Tax,Zaj];omega
  have n3:((Zaa ts).take x).length+1<=maxApp:=by unfold maxApp;omega
  have n4:((Zaa ts).take x).length+1+((Zaa ts).drop x).length<=maxApp:=by unfold maxApp;omega
  have F:=aj6 r1 r2 hxl n3 n4 tmz;refine gA 7 4 ?_ (.inl rfl) ?_
  ·show 0+_<=maxApp;unfold maxApp;omega
  clear F;refine fR (aj6 @r1 @r2 @hxl @n3 @n4 @tmz) ?_;have tkA:(Zaa ts).take ts.length=Zaa ts:=by rw [<- Zaj ts,Tap]
  have n5:((Zaa ts).take x++[Zab t]).length+((Zaa ts).drop x).length<=maxApp:=by simp only [Tae,Tag,Tak];omega
  have hll:((ts.length:Int)<=(ts.length:Int))=True:=eq_true (Int.le_refl _);have F:=aj9 @r1 @r2 @hxl @n3 @n4 @n5 @hll @tkA @tmz;refine gG ?_;exact gTz [4]
def colT (l:List Tm) (r:List Tm):List Tm:=l.foldl (fun r t=>Zbu t r) r
theorem colT_nil0 {ts:List Tm}:colT (ZaK []) ts=ts:=by simp [colT,ZaK]
theorem ZoD (a b r:List Tm):colT (a++b) r=colT b (colT a r):=by unfold colT;rw [List.foldl_append]
theorem ZmA (t:Tm):∀ l:List Tm,(Zbu t l).length<=l.length+1
 | []=>by simp [Zbu]
 | x::xs=>by
  have:=ZmA t xs;simp only [Zbu];split
  ·simp only [Tag];omega
  ·split <;> simp only [Tag] <;> omega
theorem ZhL:∀ (l r:List Tm),(colT l r).length<=r.length+l.length
 | [],r=>by simp [colT]
 | x::xs,r=>by
  have h1:=ZhL xs (Zbu x r);have h2:=ZmA x r;simp only [colT,List.foldl_cons,Tag] at h1 ⊢;omega
theorem ZoE {t:Tm} (ht:okTm t):∀ {l:List Tm},Zat l->Zat (Zbu t l)
 | [],_=>by simp only [Zbu,Zat];exact ⟨ht,trivial⟩
 | x::xs,h=>by
  simp only [Zat] at h;simp only [Zbu];split
  ·simp only [Zat];exact ⟨h.1,ZoE ht h.2⟩
  ·split
   ·simp only [Zat];exact h
   ·simp only [Zat];exact ⟨ht,h⟩
theorem ZlJ:∀ {l r:List Tm},Zat l->Zat r->Zat (colT l r)
 | [],r,_,h=>h
 | x::xs,r,h1,h2=>by
  simp only [Zat] at h1;exact ZlJ (l:=xs) (r:=Zbu x r) h1.2 (ZoE h1.1 h2)
theorem ZiB:∀ {a b:List Tm},Zat a->Zat b->Zat (a++b)
 | [],_,_,h=>h
 | x::xs,b,h1,h2=>by
  simp only [Zat] at h1;simp only [Taf,Zat];exact ⟨h1.1,ZiB h1.2 h2⟩
mutual
theorem Zj2:∀ t:Tm,(Zbh t).length<=1+Zal (Zab t)
 | .mk op nm so args=>by
  have:=ZmB args;simp only [Zbh,Zab,Zal,Zdl,Zaj];split
  ·simp
  ·omega
theorem ZmB:∀ ts:List Tm,(ZaK ts).length<=ts.length+Zar (Zaa ts)
 | []=>by simp [ZaK]
 | t::ts=>by
  have h1:=Zj2 t;have h2:=ZmB ts;simp only [ZaK,Zaa,Zar,Tae,Tag];omega
end
theorem ZiC:∀ (l:List Tm) (t:Tm),ZaK (l++[t])=ZaK l++Zbh t
 | [],t=>by simp [ZaK]
 | x::xs,t=>by simp [ZaK,ZiC xs t]
theorem ZiD {l:List Tm} {i:Nat} {t:Tm} (h:l[i]?=some t):ZaK (l.take (i+1))=ZaK (l.take i)++Zbh t:=by
 rw [show l.take (i+1)=l.take i++[t] by simp [List.take_add_one,h],ZiC]
theorem ZhM:∀ (l:List Tm) (i:Nat),(ZaK (l.take i)).length<=(ZaK l).length
 | [],i=>by simp [ZaK]
 | x::xs,0=>by simp [ZaK]
 | x::xs,i+1=>by have:=ZhM xs i;simp only [Tbc,ZaK,Tae];omega
theorem ZjI:Zaa []=[]:=by simp [Zaa]
theorem Zfm (nm:ByteArray) (so:Int):Con e0 67 [.one (.lit (.string nm)),.one (.lit (.int .i64 so))] [.agg (Zab (.mk (-1) nm so []))]:=by
 have c1:Zab (.mk (-1) nm so [])=[.lit (.int .i64 (-1)),.lit (.string nm),.lit (.int .i64 so),.sl []]:=by simp only [Zab,Zaa]
 rw [c1];refine gI (ts:=[.cell 4 34]) 19 Tryz.func67 ?_;exact fD @e0P
theorem Zj3 {op so:Int} {nm:ByteArray} {args:List Tm} (h:okTm (.mk op nm so args)):okTm (.mk (-1) nm so []):=by
 simp only [okTm,Zat,and_true] at h ⊢;exact ⟨by unfold I64;omega,h.2.1,h.2.2.1⟩
mutual
theorem Zwm:∀ {t:Tm},okTm t->Zat (Zbh t)
 | .mk op nm so args,h=>by
  simp only [Zbh];split
  ·simp only [Zat];exact ⟨Zj3 h,trivial⟩
  ·simp only [okTm] at h;exact ZfH h.2.2.2
theorem ZfH:∀ {l:List Tm},Zat l->Zat (ZaK l)
 | [],_=>by simp [ZaK,Zat]
 | x::xs,h=>by
  simp only [Zat] at h;simp only [ZaK];exact ZiB (Zwm h.1) (ZfH h.2)
end
theorem ZhN:∀ {l:List Tm} (i:Nat),Zat l->Zat (l.take i)
 | [],_,_=>by simp [Zat]
 | x::xs,0,_=>by simp [Zat]
 | x::xs,i+1,h=>by
  simp only [Zat] at h;simp only [Tbc,Zat];exact ⟨h.1,ZhN i h.2⟩
theorem Zj4 (t:Tm) (ts:List Tm) (ht:okTm t) (hts:Zat ts) (hb:Zal (Zab t)<=1048576) (hl:ts.length+(Zbh t).length<=7000000) (h:∀ x∈t.args,∀ us:List Tm,Zat us->us.length+(Zbh x).length<=7000000->Con e0 114 [.agg (Zab x),.one (.sl (Zaa us))] [.one (.sl (Zaa (colT (Zbh x) us)))]) :
  Con e0 114 [.agg (Zab t),.one (.sl (Zaa ts))] [.one (.sl (Zaa (colT (Zbh t) ts)))]:=by
 obtain ⟨op,nm,so,args⟩:=t;have hc:Zab (.mk op nm so args)=[.lit (.int .i64 op),.lit (.string nm),.lit (.int .i64 so),.sl (Zaa args)]:=by simp only [Zab]
 simp only [Tm.args] at h;simp only [Zab,Zal,Zdl,Zaj] at hb;refine gI (ts:=[.slot 4]) 1048887 Tryz.func114 ?_;by_cases ho:op=-1
 ·have q1:(op=-1)=True:=eq_true ho;have e1:Zbh (.mk op nm so args)=[.mk (-1) nm so []]:=by simp only [Zbh,if_pos ho]
  rw [e1] at hl ⊢;simp only [Tag,Tak,Nat.zero_add] at hl;have hI:=ZiA ts (.mk (-1) nm so []) hts (Zj3 ht) om;refine fB (aj3 @hc @q1 @tmz) ?_;refine fC @hc (Zfm nm so) ?_;refine fC @hc (hI) ?_;refine fR @hc ?_;simp only [colT,List.foldl_cons,List.foldl_nil];exact fD @tmz
 ·have q1:(op=-1)=False:=eq_false ho;have e1:Zbh (.mk op nm so args)=ZaK args:=by simp only [Zbh,if_neg ho]
  rw [e1] at hl ⊢;have hk:Zat args:=by simp only [okTm] at ht;exact ht.2.2.2
  refine fG (aj3 @hc @q1 @tmz) ?_;have F:=ai ((fun (r:List Tm)=>(colT_nil0:colT (ZaK []) r=r))) @tmz;refine gL (ι:=Nat) [1,5,20] [] (fun x=>[(5,.d (.one (.lit (.int .i64 (x:Int))))),(1,.d (.one (.sl (Zaa (colT (ZaK (args.take x)) ts)))))]) (fun x=>[]) (fun x=>x<=args.length) (fun x=>args.length - x) (0) (Taj _) (fun x hx=>?_);clear F;by_cases hlt:x < args.length
  ·obtain ⟨b,hg⟩:∃ b,args[x]?=some b:=⟨_,Taa hlt⟩;have q2:=lT x args.length;have q4:IntKind.i64.wrap ((x:Int)+1)=(x:Int)+1:=IntWalk.i64_in _ om;have hvt:=ZiD hg;have hle:=ZhM args (x+1);rw [hvt,Tae] at hle;have hcl:=ZhL (ZaK (args.take x)) ts;have hcon:=h b (Tac hg) (colT (ZaK (args.take x)) ts) (ZlJ (ZfH (ZhN x hk)) hts) om;rw [<- ZoD,<- hvt] at hcon;refine fB (aj3 @q2 @hc @tmz) ?_;refine fC (aj4 @q2 @hc @hg @tmz) (hcon) ?_
   refine fR @tmz ?_;have F:=@q4;refine gG ?_;exact ⟨x+1,hlt,gw,gw,om⟩
  ·obtain rfl:x=args.length:=by omega
   have q2:=lF args.length args.length;rw [Tap];exact fD (aj3 @q2 @hc @tmz)
theorem Zla (n:Nat):∀ t:Tm,ZcI (Zab t) < n->okTm t->Zal (Zab t)<=1048576->∀ ts:List Tm,Zat ts->ts.length+(Zbh t).length<=7000000->Con e0 114 [.agg (Zab t),.one (.sl (Zaa ts))] [.one (.sl (Zaa (colT (Zbh t) ts)))]:=by
 induction n with
 | zero=>exact fun _ h=>om
 | succ n ih =>
  intro t hn ht hb ts hts hl;refine Zj4 t ts ht hts hb hl fun x hx us hus hl2=>?_;obtain ⟨op,nm,so,args⟩:=t;simp only [Zab,ZcI,ZhY] at hn;simp only [Zab,Zal,Zdl] at hb;simp only [okTm] at ht;simp only [Tm.args] at hx;obtain ⟨i,hi⟩:=Tbk hx;have hi':(Zaa args)[i]?=some (Zab x):=by rw [Zbx,hi];rfl
  have h1:=Ze9 hi';have h2:=Zeg hi';exact ih x om (ht.2.2.2.mem hx) om us hus hl2
def ZbI (k:Nat) (t:Tm):Prop:=okTm t∧sizeTm t<=k∧Zal (Zab t)+1<=13 * sizeTm t
theorem ZoF:∀ {ts:List Tm} {k:Nat},(∀ t∈ts,ZbI k t)->Zat ts∧sizeTms ts<=ts.length * k∧Zar (Zaa ts)+ts.length<=13 * sizeTms ts
 | [],k,_=>by simp [Zat,sizeTms,Zaa,Zar]
 | t::ts,k,h=>by
  obtain ⟨h1,h2,h3⟩:=ZoF (ts:=ts) (k:=k) fun t ht=>h t (Tal _ ht);obtain ⟨q1,q2,q3⟩:=h t Tas;simp only [Zat,sizeTms,Zaa,Zar,Tag,Nat.succ_mul];exact ⟨⟨q1,h1⟩,om,om⟩
theorem Zg0 {op so:Int} {nm:ByteArray} {ts:List Tm} {k:Nat} (h0:-1<=op∧op<=1000) (h1:nm.size<=12) (h2:0<=so∧so<=1000) (h:∀ t∈ts,ZbI k t):ZbI (1+ts.length * k) (.mk op nm so ts):=by
 obtain ⟨q1,q2,q3⟩:=ZoF h;refine ⟨?_,?_,?_⟩
 ·simp only [okTm];exact ⟨⟨om,om⟩,by unfold maxLen;omega,⟨om,om⟩,q1⟩
 ·rw [ZaD];simp only [Tm.args];omega
 ·rw [ZgV,ZaD];simp only [Tm.args];omega
theorem ZbI.mono {k k':Nat} {t:Tm} (h:ZbI k t) (hk:k<=k'):ZbI k' t:=⟨h.1,by have:=h.2.1;omega,h.2.2⟩
def rawK:Nat->Nat
 | 0=>1
 | d+1=>1+3 * rawK d
theorem ZoG:∀ d,1<=rawK d
 | 0=>Tai _
 | d+1=>by simp only [rawK];omega
def RTm (P:Tm->Prop) (r:List D):Prop:=∃ t,P t∧r=[.agg (Zab t)]
theorem enc0 (op so:Int) (nm:ByteArray):Zab (.mk op nm so [])=[.lit (.int .i64 op),.lit (.string nm),.lit (.int .i64 so),.sl []]:=by simp only [Zab,Zaa]
def xyz:List ByteArray:=[⟨#[120]⟩,⟨#[121]⟩,⟨#[122]⟩]
section
variable {x:Src} {b:Nat}
theorem ConE.args {e:Env} {f:FuncId} {lits data:List D} {R:List D->Prop} (h:ConE e f data R) (hd:∀ (w:World) (S:Nat->Prop) (vs:List Value),Zaq w S lits vs->Zaq w S data vs):ConE e f lits R:=⟨h.1,fun w S vs hS hE hG hvs=>h.2 w S vs hS hE hG (hd w S vs hvs)⟩
def RXyz (r:List D):Prop:=∃ nm:ByteArray,nm.size<=12∧r=[.one (.lit (.string nm))]
theorem ZoH (hx:x.Ok):ConE (eC x b) 96 [curD b,.clip [[.lit (.string ⟨#[120]⟩)],[.lit (.string ⟨#[121]⟩)],[.lit (.string ⟨#[122]⟩)]]] RXyz:=by
 have h:=(Zwf (b:=b) hx (l:=xyz) (by decide) (by decide)).args (lits:=[curD b,.clip [[.lit (.string ⟨#[120]⟩)],[.lit (.string ⟨#[121]⟩)],[.lit (.string ⟨#[122]⟩)]]]) fun w S vs h=>by
  match vs,h with
  | [v1,v2],⟨h1,h2,_⟩=>exact ⟨h1,h2.1,trivial⟩
 refine ⟨h.1,fun w S vs hS hE hG hvs=>(h.2 w S vs hS hE hG hvs).mono fun en w' ⟨v,r,h1,⟨s,hs,hr⟩,h3⟩=>⟨v,r,h1,⟨s,?_,hr⟩,h3⟩⟩;simp only [xyz,Tbg,List.not_mem_nil,or_false] at hs;rcases hs with rfl | rfl | rfl <;> decide
theorem Zsu (hx:x.Ok) {n:Nat} (h4:5<=n) (h20:n<=20):∀ (d:Nat),d<=8->ConE (eC x b) 61 [curD b,.one (.lit (.int .i64 n)),.one (.lit (.int .i64 d))] (RTm (ZbI (rawK d))):=by
 intro d
 induction d using Nat.strongRecOn with
 | _ d ih =>
 intro hd8;have he:=hx.okC (b:=b);refine gIE (ts:=[.cell 6 34]) 72058693549638087 Tryz.func61 ?_;refine fN 1 @tmC ?_;refine gM (ι:=Bool) [14] [] (fun y=>[(14,A.d (.one (.lit (.bool y))))]) (fun y=>[]) (fun y=>y=false->1<=d) ?_ (fun y hy=>Exists.intro _ (ai (Wk.refl _) ?_))
 ·refine gB ?_;by_cases h0:d=0
  ·have q1:((d:Int)<=0)=True:=eq_true om;refine fR (ai @q1 @tmC) ?_;have F:=@tmC;refine gG ?_;exact ⟨true,(by simp),gw,gw⟩
  ·have q1:((d:Int)<=0)=False:=eq_false om;have F:=ai @q1 @tmC;refine gCE (ZbG (b:=b) hx (n:=4) (by decide) (by decide)) ?_;clear F;rintro r ⟨y,rfl⟩;refine fR @tmC ?_;have F:=@tmC;refine gG ?_;exact ⟨y,(fun _=>om),gw,gw⟩
 cases y with
 | true =>
  have hpos:=ZoG d;refine fN 2 @tmC ?_;refine gB ?_;have F:=@tmC;refine gCE (ZbG (b:=b) hx (n:=3) (by decide) (by decide)) ?_;clear F;rintro r ⟨y,rfl⟩;refine fR @tmC ?_
  cases y
  ·refine fN 4 @tmC ?_;refine gB ?_;have F:=@tmC;refine gCE (Zb1 (b:=b) hx (n:=3) (by decide) (by decide)) ?_;clear F;rintro r ⟨k,hk,rfl⟩;refine fR @tmC ?_;have hr:=Zg0 (op:=(k:Int)) (so:=0) (nm:=ByteArray.empty) (ts:=[]) (k:=0) om (by decide) om (fun t ht=>by cases ht);have hc:=enc0 (k:Int) 0 ByteArray.empty;exact (have F:=ai hc tmC;gTE (R:=RTm (ZbI (rawK d))) [] ⟨_,hr.mono (by simp;omega),rfl⟩)
  ·refine fN 3 @tmC ?_;refine gB ?_;have F:=@tmC;refine gCE (ZoH hx) ?_;clear F;rintro r ⟨nm,hnm,rfl⟩;have F:=@tmC;refine gCE (Zb1 (b:=b) hx (n:=3) (by decide) (by decide)) ?_;clear F;rintro r ⟨k,hk,rfl⟩;refine fC @tmC ((Zfm nm k).cu hx) ?_;refine fR @tmC ?_;have hr:=Zg0 (op:=-1) (so:=(k:Int)) (nm:=nm) (ts:=[]) (k:=0) (by decide) hnm om (fun t ht=>by cases ht);exact (have F:=tmC;gTE (R:=RTm (ZbI (rawK d))) [] ⟨_,hr.mono (by simp;omega),rfl⟩)
 | false =>
  obtain ⟨d',rfl⟩:∃ d',d=d'+1:=⟨d - 1,by have:=hy rfl;omega⟩;have ih:=ih d' om om;clear hy;have w1:IntKind.i64.wrap ((n:Int) - 3)=((n - 3:Nat):Int):=ZbM om om om;have w2:IntKind.i64.wrap (((d'+1:Nat):Int) - 1)=(d':Int):=ZbM om om om;refine fN 5 @tmC ?_;refine gB ?_;have F:=ai @w1 @tmC;refine gCE (Zb1 (b:=b) hx (n:=n - 3) om om) ?_;clear F;rintro r ⟨k,hk,rfl⟩;have w3:IntKind.i64.wrap (3+(k:Int))=((3+k:Nat):Int):=ZbM om om om
  refine fR (ai @w3 @tmC) ?_;refine fN 6 @tmC ?_;refine gB ?_;have F:=ai @w2 @tmC;refine gCE (ih) ?_;clear F;rintro r ⟨t1,ht1,rfl⟩;have F:=tmC;refine gBs ?_;clear F;refine gS 37 fun a1 c1=>?_;refine fR @tmC ?_;refine pE [37] [1000] ZfM ?_;have e1:Zaa [t1]=[Zab t1]:=Zcc t1;refine fN 7 @tmC ?_;refine gB ?_;refine fR @tmC ?_;generalize decide ((3:Int) < ((3+k:Nat):Int))=y4;refine gM (ι:=List Tm × Option Addr × Nat) [40] [8,1000] (fun q=>[]) (fun q=>[(8,.var none [.lit (.int .i64 ((3+k:Nat):Int)),.lit (.string ByteArray.empty),.lit (.int .i64 0),.lit (.slice q.2.1 (Zaa q.1).length q.2.2)]),(1000,.buf (some (q.2.1,q.2.2)) 34 4 (Zaa q.1))]) (fun q=>q.1.length<=2∧∀ t∈q.1,ZbI (rawK d') t) ?_ (fun q hq=>Exists.intro _ (ai (Wk.refl _) ?_))
  ·cases y4
   ·have F:=ai @e1 @tmC;refine gG ?_;exact ⟨([t1],a1,c1),⟨Nat.le_succ _,fun t ht=>by rw [Tbj.1 ht];exact ht1⟩,gw,gw⟩
   ·refine fN 8 @tmC ?_;have F:=tmC;refine gN0 8 [0,1,2,3,4,5] [6,7] ?_;clear F;have F:=ai w2 tmC;refine gNd ?_;clear F;have F:=tmC;refine gNE ih ?_;clear F;rintro r ⟨t2,ht2,rfl⟩;have F:=tmC;refine gNr ?_;clear F;refine gK 42 ?_;have F:=@tmC;refine gP 1 ?_;clear F;refine gS 49 fun a2 c2=>?_;have F:=@tmC;refine gP 2 ?_;clear F;refine gE [49] [1000] ZfM ?_;refine fR @tmC ?_;have e2:Zaa [t1,t2]=[Zab t1,Zab t2]:=by simp only [Zaa]
    have F:=ai @e2 @tmC;refine gG ?_;exact ⟨([t1,t2],a2,c2),⟨Tai _,fun t ht=>by simp only [Tbg,List.not_mem_nil,or_false] at ht;rcases ht with rfl | rfl <;> assumption⟩,gw,gw⟩
  obtain ⟨ts,a2,c2⟩:=q;obtain ⟨hq1,hq2⟩:=hq;dsimp only at hq1 hq2 ⊢;have hbs:1+(ts.length+1) * rawK d'<=rawK (d'+1):=by
   have:(ts.length+1) * rawK d'<=3 * rawK d':=Nat.mul_le_mul_right _ om;simp only [rawK];omega
  have hfin:∀ us:List Tm,(∀ t∈us,ZbI (rawK d') t)->us.length<=ts.length+1->ZbI (rawK (d'+1)) (.mk ((3+k:Nat):Int) ByteArray.empty 0 us):=fun us hu hl=>(Zg0 (op:=((3+k:Nat):Int)) (so:=0) (nm:=ByteArray.empty) om (by decide) om hu).mono (by
   have:us.length * rawK d'<=(ts.length+1) * rawK d':=Nat.mul_le_mul_right _ hl;omega)
  refine fN 9 @eCP ?_;refine gM (ι:=Bool) [56] [] (fun y=>[(56,A.d (.one (.lit (.bool y))))]) (fun y=>[]) (fun y=>True) ?_ (fun y hy=>Exists.intro _ (ai (Wk.refl _) ?_))
  ·refine gB ?_;by_cases h4:4 < 3+k
   ·have q1:=lT 4 (3+k:Nat);have F:=ai @q1 @eCP;refine gCE (ZbG (b:=b) hx (n:=4) (by decide) (by decide)) ?_;clear F;rintro r ⟨y,rfl⟩;refine fR @eCP ?_;have F:=@eCP;refine gG ?_;exact ⟨y,trivial,gw,gw⟩
   ·have q1:=lF 4 (3+k:Nat);refine fR (ai @q1 @eCP) ?_;have F:=@eCP;refine gG ?_;exact ⟨false,trivial,gw,gw⟩
  cases y
  ·have hc:Zab (.mk ((3+k:Nat):Int) ByteArray.empty 0 ts)=[.lit (.int .i64 ((3+k:Nat):Int)),.lit (.string ByteArray.empty),.lit (.int .i64 0),.sl (Zaa ts)]:=by simp only [Zab]
   refine fN 11 @e0P ?_;refine gB ?_;refine fR @eCP ?_;refine pD 1000 [] [6,8] ?_;exact (have F:=ai hc tmC;gTE (R:=RTm (ZbI (rawK (d'+1)))) [] ⟨_,hfin ts hq2 (Nat.le_succ _),rfl⟩)
  ·have l1:((Zaa ts).length+1<=maxApp)=True:=eq_true (by rw [Zaj];unfold maxApp;omega);have l3:(ts.length+1<=maxApp)=True:=eq_true (by unfold maxApp;omega);refine fN 10 @eCP ?_;have F:=eCP;refine gN0 8 [0,1,2,3,4,5] [6,7] ?_;clear F;have F:=aj3 w2 @eCP @ZbN;refine gNd ?_;clear F;have F:=eCP;refine gNE ih ?_;clear F;rintro r ⟨t3,ht3,rfl⟩;have F:=aj3 @eCP @ZaS @Zbk;refine gNr ?_;clear F;refine gK 58 ?_
   have F:=aj5 l1 @ZbN @ZaS @Zbk @eCP;refine gP 1 ?_;clear F;have hsn:Zaa ts++[Zab t3]=Zaa (ts++[t3]):=by rw [Zbz,Zcc]
   rw [hsn];refine gS 65 fun a3 c3=>?_;refine fR @eCP ?_;have hc:Zab (.mk ((3+k:Nat):Int) ByteArray.empty 0 (ts++[t3]))=[.lit (.int .i64 ((3+k:Nat):Int)),.lit (.string ByteArray.empty),.lit (.int .i64 0),.sl (Zaa (ts++[t3]))]:=by simp only [Zab]
   refine fN 11 @e0P ?_;refine gB ?_;refine fR @eCP ?_;refine pD 65 [] [6,8] ?_;exact (have F:=ai hc tmC;gTE (R:=RTm (ZbI (rawK (d'+1)))) [] ⟨_,hfin (ts++[t3]) (fun v hv=>(Tbh.1 hv).elim (hq2 v) fun hv=>by rw [Tbj.1 hv];exact ht3) (by simp),rfl⟩)
theorem Zwn (hx:x.Ok) {g:Sgn} (h4:4<=g.ops.length) (h14:g.ops.length<=14):∀ (d:Nat),d<=8->∀ vars list:Bool,ConE (eC x b) 69 [curD b,.agg (Zaf g),.one (.lit (.int .i64 d)),.one (.lit (.bool vars)),.one (.lit (.bool list))] (RTm (ZbI (rawK d))):=by
 intro d
 induction d using Nat.strongRecOn with
 | _ d ih =>
 intro hd8 vars list;have he:=hx.okC (b:=b);rw [Zaf] at ih ⊢;have c2:=ZbG (b:=b) hx (n:=2) (by decide) (by decide);have c3:=ZbG (b:=b) hx (n:=3) (by decide) (by decide);have c5:=ZbG (b:=b) hx (n:=5) (by decide) (by decide);have b2:=Zb1 (b:=b) hx (n:=2) (by decide) (by decide);have hpos:=ZoG d;have hvar:∀ (nm:ByteArray) (so:Int),nm.size<=12->0<=so∧so<=1000->ZbI (rawK d) (.mk (-1) nm so []):=fun nm so h1 h2=>(Zg0 (op:=-1) (ts:=[]) (k:=0) (by decide) h1 h2 (fun t ht=>by cases ht)).mono (by simp;omega)
 have hcst:∀ k:Nat,k<=2->ZbI (rawK d) (.mk (k:Int) ByteArray.empty 0 []):=fun k hk=>(Zg0 (op:=(k:Int)) (so:=0) (nm:=ByteArray.empty) (ts:=[]) (k:=0) om (by decide) om (fun t ht=>by cases ht)).mono (by simp;omega);refine gIE (ts:=[.cell 10 34]) 316991230235621095696433708127 Tryz.func69 ?_;refine fN 1 @eCP ?_;refine gB ?_;refine fR @eCP ?_;generalize decide ((1:Int) < _)=dp;refine fN 2 @eCP ?_;refine gM (ι:=Bool) [24] [] (fun y=>[(24,A.d (.one (.lit (.bool y))))]) (fun y=>[]) (fun y=>True) ?_ (fun y hy=>Exists.intro _ (ai (Wk.refl _) ?_))
 ·refine gB ?_
  cases vars
  ·refine fR @eCP ?_;have F:=@eCP;refine gG ?_;exact ⟨false,trivial,gw,gw⟩
  ·have F:=@eCP;refine gCE (c3) ?_;clear F;rintro r ⟨y,rfl⟩;refine fR @eCP ?_;have F:=@eCP;refine gG ?_;exact ⟨y,trivial,gw,gw⟩
 cases y with
 | true =>
  refine fN 3 @eCP ?_;refine gB ?_;have F:=@eCP;refine gCE (ZoH hx) ?_;clear F;rintro r ⟨nm,hnm,rfl⟩;refine fR @eCP ?_
  cases list
  ·refine fN 6 @eCP ?_;refine gB ?_;have F:=@eCP;refine gCE (b2) ?_;clear F;rintro r ⟨k,hk,rfl⟩;refine fC @eCP ((Zfm nm k).cu hx) ?_;refine fR @tmC ?_;exact (have F:=tmC;gTE (R:=RTm (ZbI (rawK d))) [] ⟨_,hvar nm k hnm om,rfl⟩)
  ·refine fN 5 @eCP ?_;refine gB ?_;refine fC @eCP ((Zfm nm 2).cu hx) ?_;refine fR @tmC ?_;exact (have F:=tmC;gTE (R:=RTm (ZbI (rawK d))) [] ⟨_,hvar nm 2 hnm (by decide),rfl⟩)
 | false =>
 refine fN 7 @eCP ?_;refine gM (ι:=Bool) [40] [] (fun y=>[(40,A.d (.one (.lit (.bool y))))]) (fun y=>[]) (fun y=>y=false->1<=d) ?_ (fun y hy=>Exists.intro _ (ai (Wk.refl _) ?_))
 ·refine gB ?_;by_cases h0:d=0
  ·have q1:((d:Int)<=0)=True:=eq_true om;refine fR (ai @q1 @eCP) ?_;have F:=@eCP;refine gG ?_;exact ⟨true,(by simp),gw,gw⟩
  ·have q1:((d:Int)<=0)=False:=eq_false om;have F:=ai @q1 @eCP;refine gCE (c5) ?_;clear F;rintro r ⟨y,rfl⟩;refine fR @eCP ?_;have F:=@eCP;refine gG ?_;exact ⟨y,(fun _=>om),gw,gw⟩
 cases y with
 | true =>
  refine fN 8 @eCP ?_;refine gM (ι:=Bool) [49] [] (fun y=>[(49,A.d (.one (.lit (.bool y))))]) (fun y=>[]) (fun y=>True) ?_ (fun y hy=>Exists.intro _ (ai (Wk.refl _) ?_))
  ·refine gB ?_
   cases list
   ·refine fR @eCP ?_;have F:=@eCP;refine gG ?_;exact ⟨false,trivial,gw,gw⟩
   ·cases dp
    ·refine fR @eCP ?_;have F:=@eCP;refine gG ?_;exact ⟨true,trivial,gw,gw⟩
    ·have F:=@eCP;refine gCE (c2) ?_;clear F;rintro r ⟨y,rfl⟩;refine fR @eCP ?_;have F:=@eCP;refine gG ?_;exact ⟨y,trivial,gw,gw⟩
  cases y
  ·refine fN 10 @eCP ?_;refine gB ?_;have F:=@eCP;refine gCE (b2) ?_;clear F;rintro r ⟨k,hk,rfl⟩;refine fR @eCP ?_;have hc:=enc0 (k:Int) 0 ByteArray.empty;exact (have F:=ai hc tmC;gTE (R:=RTm (ZbI (rawK d))) [] ⟨_,hcst k om,rfl⟩)
  ·have hc:=enc0 ((2:Nat):Int) 0 ByteArray.empty;refine fG @eCP ?_;exact (have F:=ai hc tmC;gTE (R:=RTm (ZbI (rawK d))) [] ⟨_,hcst 2 om,rfl⟩)
 | false =>
 obtain ⟨d',rfl⟩:∃ d',d=d'+1:=⟨d - 1,by have:=hy rfl;omega⟩;have ih:=ih d' om om;clear hy;have w2:IntKind.i64.wrap (((d'+1:Nat):Int) - 1)=(d':Int):=ZbM om om om;have w1:IntKind.i64.wrap ((g.ops.length:Int) - 3)=((g.ops.length - 3:Nat):Int):=ZbM om om om
 have hfin:∀ (o:Nat) (us:List Tm),o<=20->(∀ t∈us,ZbI (rawK d') t)->us.length<=2->ZbI (rawK (d'+1)) (.mk (o:Int) ByteArray.empty 0 us):=fun o us ho hu hl=>(Zg0 (op:=(o:Int)) (so:=0) (nm:=ByteArray.empty) om (by decide) om hu).mono (by
  have:us.length * rawK d'<=3 * rawK d':=Nat.mul_le_mul_right _ om;simp only [rawK];omega)
 have hec:∀ (o:Int) (us:List Tm),Zab (.mk o ByteArray.empty 0 us)=[.lit (.int .i64 o),.lit (.string ByteArray.empty),.lit (.int .i64 0),.sl (Zaa us)]:=fun o us=>by simp only [Zab]
 refine fN 11 @eCP ?_;refine gM (ι:=Bool) [58] [] (fun y=>[(58,A.d (.one (.lit (.bool y))))]) (fun y=>[]) (fun y=>True) ?_ (fun y hy=>Exists.intro _ (ai (Wk.refl _) ?_))
 ·cases list
  ·have F:=@eCP;refine gG ?_;exact ⟨false,trivial,gw,gw⟩
  ·cases dp
   ·have F:=@eCP;refine gG ?_;exact ⟨true,trivial,gw,gw⟩
   ·have F:=@eCP;refine gG ?_;exact ⟨false,trivial,gw,gw⟩
 cases y with
 | true =>
  refine fN 12 @eCP ?_;have F:=eCP;refine gN0 14 [0,1,2,3,4,6,7,8,9,10] [5,11,12,13] ?_;clear F;have F:=ai w2 @eCP;refine gNd ?_;clear F;have F:=eCP;refine gNE (ih vars false) ?_;clear F;rintro r ⟨t1,ht1,rfl⟩;have F:=eCP;refine gNE (ih vars true) ?_;clear F;rintro r ⟨t2,ht2,rfl⟩;have F:=aj3 @eCP @ZaS @Zbk;refine gNr ?_;clear F;refine fR @eCP ?_;have hc:=hec ((5:Nat):Int) [t1,t2];have e2:Zaa [t1,t2]=[Zab t1,Zab t2]:=by simp only [Zaa]
  exact (have F:=aj3 hc e2 @eCP;gTE (R:=RTm (ZbI (rawK (d'+1)))) [] ⟨_,hfin 5 [t1,t2] (by decide) (fun t ht=>by simp only [Tbg,List.not_mem_nil,or_false] at ht;rcases ht with rfl | rfl <;> assumption) (Tai _),rfl⟩)
 | false =>
 refine fN 13 @eCP ?_;refine gB ?_;have F:=ai @w1 @eCP;refine gCE (Zb1 (b:=b) hx (n:=g.ops.length - 3) om om) ?_;clear F;rintro r ⟨k,hk,rfl⟩;have w3:IntKind.i64.wrap (3+(k:Int))=((3+k:Nat):Int):=ZbM om om om;refine fR (ai @w3 @eCP) ?_;refine fN 14 @eCP ?_;refine gB ?_;refine fR @eCP ?_;refine gM (ι:=Nat) [13,80] [] (fun o=>[(13,A.d (.one (.lit (.int .i64 o))))]) (fun o=>[]) (fun o=>o<=20) ?_ (fun o ho=>Exists.intro _ (ai (Wk.refl _) ?_))
 ·cases list
  ·have F:=@eCP;refine gG ?_;exact ⟨3+k,om,gw,gw⟩
  ·have F:=@eCP;refine gG ?_;exact ⟨5,om,gw,gw⟩
 refine fN 16 @eCP ?_;refine gM (ι:=Bool) [86] [] (fun y=>[(86,A.d (.one (.lit (.bool y))))]) (fun y=>[]) (fun y=>True) ?_ (fun y hy=>Exists.intro _ (ai (Wk.refl _) ?_))
 ·refine gB ?_;by_cases h5:o=5
  ·have q1:((o:Int)=5)=True:=eq_true om
   cases dp
   ·refine fR (ai @q1 @eCP) ?_;have F:=@eCP;refine gG ?_;exact ⟨true,trivial,gw,gw⟩
   ·refine fR (ai @q1 @eCP) ?_;have F:=@eCP;refine gG ?_;exact ⟨false,trivial,gw,gw⟩
  ·have q1:((o:Int)=5)=False:=eq_false om;refine fR (ai @q1 @eCP) ?_;have F:=@eCP;refine gG ?_;exact ⟨false,trivial,gw,gw⟩
 refine gM (ι:=Nat) [13,86] [] (fun p=>[(13,A.d (.one (.lit (.int .i64 p))))]) (fun p=>[]) (fun p=>p<=20) ?_ (fun p hp=>Exists.intro _ (ai (Wk.refl _) ?_))
 ·cases y
  ·have F:=@eCP;refine gG ?_;exact ⟨o,ho,gw,gw⟩
  ·have F:=@eCP;refine gG ?_;exact ⟨4,(by decide),gw,gw⟩
 refine fN 18 @eCP ?_;refine gB ?_;have F:=ai @w2 @eCP;refine gCE (ih vars list) ?_;clear F;rintro r ⟨t1,ht1,rfl⟩;have F:=aj3 @eCP @ZaS @Zbk;refine gBs ?_;clear F;have e1:[Zab t1]=Zaa [t1]:=(Zcc t1).symm;rw [e1];refine gS 95 fun a1 c1=>?_;refine fR @eCP ?_;refine pE [95] [1000] ZfM ?_;refine fN 19 @eCP ?_;refine gB ?_;refine fR @eCP ?_;generalize decide ((3:Int) < _)=y4
 cases y4
 ·have hc:=hec (p:Int) [t1];refine fN 21 @eCP ?_;refine gB ?_;refine fR @eCP ?_;refine pD 1000 [] [10,14] ?_;exact (have F:=ai hc @eCP;gTE (R:=RTm (ZbI (rawK (d'+1)))) [] ⟨_,hfin p [t1] hp (fun t ht=>by rw [Tbj.1 ht];exact ht1) (Nat.le_succ _),rfl⟩)
 ·have l1:((Zaa [t1]).length+1<=maxApp)=True:=eq_true (by rw [Zaj];unfold maxApp;simp);refine fN 20 @eCP ?_;have F:=eCP;refine gN0 10 [0,1,2,3,4,5,6,7] [8,9] ?_;clear F;have F:=ai w2 @eCP;refine gNd ?_;clear F;have F:=eCP;refine gNE (ih vars list) ?_;clear F;rintro r ⟨t2,ht2,rfl⟩;have F:=aj3 @eCP @ZaS @Zbk;refine gNr ?_;clear F;refine gK 100 ?_;have F:=aj5 l1 @ZbN @ZaS @Zbk @eCP;refine gP 1 ?_;clear F
  have hsn:Zaa [t1]++[Zab t2]=Zaa [t1,t2]:=by simp only [Zaa,Taf,Tah]
  rw [hsn];refine gS 109 fun a3 c3=>?_;refine fR @eCP ?_;have hc:=hec (p:Int) [t1,t2];refine fN 21 @eCP ?_;refine gB ?_;refine fR @eCP ?_;refine pD 109 [] [10,14] ?_;exact (have F:=ai hc @eCP;gTE (R:=RTm (ZbI (rawK (d'+1)))) [] ⟨_,hfin p [t1,t2] hp (fun t ht=>by simp only [Tbg,List.not_mem_nil,or_false] at ht;rcases ht with rfl | rfl <;> assumption) (Tai _),rfl⟩)
end
section
variable {x:Src} {b:Nat} {g:Sgn}
theorem ZxG (hx:x.Ok) (h4:4<=g.ops.length) (h14:g.ops.length<=14) {d:Nat} (hd:d<=8) (vars:Bool):ConE (eC x b) 36 [curD b,.agg (Zaf g),.one (.lit (.int .i64 d)),.one (.lit (.bool vars))] (RTm (ZbI (rawK d))):=by
 have he:=hx.okC (b:=b);have cW:=fun l=>Zwn (b:=b) hx h4 h14 d hd vars l;rw [Zaf] at cW ⊢;have c2:=ZbG (b:=b) hx (n:=2) (by decide) (by decide);have c3:=ZbG (b:=b) hx (n:=3) (by decide) (by decide);refine gIE (ts:=[.cell 8 34]) 815 Tryz.func36 ?_;refine fN 1 @eCP ?_;refine gB ?_;refine fR @eCP ?_;generalize decide ((1:Int) < _)=dp;refine fN 2 @eCP ?_;have F:=eCP;refine gN0 18 [0,1,2,3] [4,5,6,7,8,9,10,11,12,13,14,15,16,17] ?_;clear F
 have F:=eCP;refine gNd ?_;clear F
 cases dp
 ·have F:=eCP;refine gNE c3 ?_;clear F;rintro r ⟨y,rfl⟩;have F:=eCP;refine gNE (cW y) ?_;clear F;rintro r ⟨t,ht,rfl⟩;have F:=tmC;refine gNr ?_;clear F;refine fR @tmC ?_;exact (have F:=tmC;gTE (R:=RTm (ZbI (rawK d))) [] ⟨_,ht,rfl⟩)
 ·have F:=eCP;refine gNE c2 ?_;clear F;rintro r ⟨y,rfl⟩
  cases y
  ·have F:=eCP;refine gNE (cW false) ?_;clear F;rintro r ⟨t,ht,rfl⟩;have F:=tmC;refine gNr ?_;clear F;refine fR @tmC ?_;exact (have F:=tmC;gTE (R:=RTm (ZbI (rawK d))) [] ⟨_,ht,rfl⟩)
  ·have F:=eCP;refine gNE (cW true) ?_;clear F;rintro r ⟨t,ht,rfl⟩;have F:=tmC;refine gNr ?_;clear F;refine fR @tmC ?_;exact (have F:=tmC;gTE (R:=RTm (ZbI (rawK d))) [] ⟨_,ht,rfl⟩)
def RDr (P:Tm->Prop) (r:List D) (pm:List Bk):Prop:=∃ u,P u∧RTop u r pm
theorem Zz4:∀ d,d<=5->rawK d<=364:=by decide
theorem ZmC (hx:x.Ok) (hok:ZbL g) (hg:SgnOk g) (h4:4<=g.ops.length) (hz:TermOk g zTm) {d:Nat} (hd:d<=5) (vars:Bool):ConP (eC x b) 16 [curD b,.agg (Zaf g),.one (.lit (.int .i64 d)),.one (.lit (.bool vars))] [] (RDr (TermOk g)):=by
 have he:=hx.okC (b:=b);have cR:=ZxG (b:=b) hx h4 hg.len (d:=d) om vars;have cC:∀ t,ZbI (rawK d) t->ConP (eC x b) 35 [.agg (Zaf g),.agg (Zab t)] [] (Zi4 g):=fun t ht=>(Zk7 hok hg (sizeTm t+1) (Tan _) ht.1 (by have:=ht.2.1;have:=Zz4 d hd;omega)).cu hx;rw [Zaf] at cR cC ⊢;refine gIP (ts:=[.cell 8 34]) [] 67120943 Tryz.func16 ?_;refine fG @tmC ?_;have F:=@tmC;refine gL (ι:=Nat) [9,10,11,13,26] [] (fun i=>[(9,A.d (.one (.lit (.int .i64 i))))]) (fun i=>[]) (fun i=>i<=8) (fun i=>8 - i) (0) (Taj _) (fun i hi=>?_);clear F
 by_cases h1:i < 8
 ·have q1:=lT i 8;have wi:=Zao (k:=i) om;refine fN 4 (ai @q1 @tmC) ?_;refine gF0 ?_;refine gLa 8 9 ?_;refine gLa 9 11 ?_;have F:=tmC;refine gNa 10 [0,1,2,3,4] [5,6,7,8,9] ?_;clear F;have F:=tmC;refine gNd ?_;clear F;have F:=tmC;refine gNE cR ?_;clear F;rintro r ⟨t,ht,rfl⟩;have F:=tmC;refine gNP [1000] (cC t ht) ?_;clear F;rintro r pm ⟨u,ok,hu,a,k,rfl,rfl⟩;have F:=ai @eCP @ZeK;refine gNr ?_;clear F
  refine fR (ai @ZeK @eCP) ?_
  cases ok with
  | true =>
   refine fN 6 @eCP ?_;refine gB ?_;refine fR @eCP ?_;refine fG @eCP ?_;exact (have F:=eCP;gTP (R:=RDr (TermOk g)) [1000] ⟨u,hu rfl,a,k,rfl,rfl⟩)
  | false =>
   refine pD 1000 [] [10] ?_;have F:=ai @wi @eCP;refine gG ?_;exact ⟨i+1,om,gw,gw,om⟩
 ·have q1:=lF i 8;refine fN 7 (ai @q1 @tmC) ?_;refine gB ?_;have F:=tmC;refine gXc ?_;clear F;refine fR @eCP ?_;refine pN 1000 34 4 ?_;exact (have F:=eCP;gTP (R:=RDr (TermOk g)) [1000] ⟨zTm,hz,none,0,rfl,rfl⟩)
theorem Zsv {e:Env} {f:FuncId} {xs:List D} {P:Tm->Prop} (h:ConP e f xs [] (RDr P)):ConE e f xs (RTm P):=by
 refine ⟨h.1,fun w S vs hS hE hG hvs=>(h.2 w S vs hS hE hG (fun x hx=>by cases hx) trivial hvs).mono fun en w' ⟨v,r,pm,h1,⟨u,hP,a,cap,hr,hpm⟩,hk,hg,hp,_,ha⟩=>?_⟩;subst hr hpm;refine ⟨v,_,h1,⟨u,hP,rfl⟩,hk.up fun c q=>q.elim id fun ⟨x,hx,_⟩=>(by cases hx),hg,?_⟩;obtain ⟨q1,q2⟩:=hp _ Tas;have q1:ZaH w' _ _ 4 (Zaa u.args) (.slice a (Zaa u.args).length cap):=q1;obtain ⟨vs1,e1,hr1⟩:=ha
 ·refine ⟨vs1,e1,?_⟩
  match vs1,hr1 with
  | [u0,u1,u2,u3],hr1 =>
   simp only [topC,Zad,and_true] at hr1;obtain ⟨k0,k1,k2,k3⟩:=hr1;have hec:Zab u=[.lit (.int .i64 u.op),.lit (.string u.name),.lit (.int .i64 u.sort),.sl (Zaa u.args)]:=by cases u;simp only [Zab,Tm.op,Tm.name,Tm.sort,Tm.args]
   rw [hec];simp only [Zad,and_true];refine ⟨k0,k1,k2,?_⟩;simp only [Rep] at k3;subst k3;refine Rep.mono q1.rep fun c hc=>?_;rcases hc with ⟨hc,_⟩ | hc
   ·rcases hc with hc | ⟨x,hx,_⟩ | hc
    ·exact .inl hc
    ·cases hx
    ·exact .inr hc
   ·rcases q2 c hc with ⟨x,hx,_⟩ | hc'
    ·cases hx
    ·refine .inr ⟨hc',?_⟩;rcases q1.2.2 with ⟨_,a',e'⟩ | ⟨g,cap',cur,e',hc0,hg',_⟩
     ·injection e' with _ _ e3
      rw [e3] at hc
      cases a <;> simp [vblk] at hc
     ·rw [e'] at hc;simp only [vblk] at hc;split at hc
      ·cases hc
      ·injection hc with hc
       subst hc;exact hg'
theorem Zgs (hx:x.Ok) (hok:ZbL g) (hg:SgnOk g) (h4:4<=g.ops.length) (hz:TermOk g zTm) {d:Nat} (hd:d<=5) (vars:Bool):ConE (eC x b) 16 [curD b,.agg (Zaf g),.one (.lit (.int .i64 d)),.one (.lit (.bool vars))] (RTm (TermOk g)):=Zsv (ZmC hx hok hg h4 hz hd vars)
end
section
variable {x:Src} {b:Nat} {g:Sgn}
theorem Zlb (hx:x.Ok) (hok:ZbL g) (hg:SgnOk g) (h4:4<=g.ops.length) (hz:TermOk g zTm):∀ (n:Nat) {t:Tm},sizeTm t < n->TermOk g t->ConE (eC x b) 17 [curD b,.agg (Zaf g),.agg (Zab t)] (RTm (TermOk g))
 | 0,t,hn,_=>om
 | n+1,t,hn,ht=>by
  have he:=hx.okC (b:=b);have ih:∀ a∈t.args,ConE (eC x b) 17 [curD b,.agg (Zaf g),.agg (Zab a)] (RTm (TermOk g)):=fun a ha=>by
   have h1:=Zbd ha;have h2:=ZaD t;exact Zlb hx hok hg h4 hz n om (ht.arg ha)
  have c2:=ZbG (b:=b) hx (n:=2) (by decide) (by decide);have c8:=ZbG (b:=b) hx (n:=8) (by decide) (by decide);have cD:=Zgs (b:=b) hx hok hg h4 hz (d:=1) (by decide) true;have cK:∀ {u:Tm},TermOk g u->ConE (eC x b) 37 [.agg (Zaf g),.agg (Zab u)] (fun r=>r=[.one (.lit (.int .i64 (Zbt g u)))]):=fun hu=>((Zfx hok hg hu.form.node).cu hx).toE;rw [Zaf] at ih cD cK ⊢;have hal:t.args.length<=1000:=by have:=Zbe t.args;have:=ZaD t;have:=ht.size;omega
  refine gIE (ts:=[.cell 6 34]) 2362336180669096402935 Tryz.func17 ?_;refine fN 1 @tmC ?_;refine gM (ι:=Bool) [23] [] (fun y=>[(23,A.d (.one (.lit (.bool y))))]) (fun y=>[]) (fun y=>True) ?_ (fun y hy=>Exists.intro _ (ai (Wk.refl _) ?_))
  ·refine gB ?_;by_cases hv:t.op=-1
   ·have F:=ai @hv @tmC;refine gCE (c2) ?_;clear F;rintro r ⟨y,rfl⟩
    cases y
    ·have F:=@tmC;refine gCE (c8) ?_;clear F;rintro r ⟨y,rfl⟩;refine fR @tmC ?_;have F:=@tmC;refine gG ?_;exact ⟨y,trivial,gw,gw⟩
    ·refine fR @tmC ?_;have F:=@tmC;refine gG ?_;exact ⟨true,trivial,gw,gw⟩
   ·have F:=ai @hv @tmC;refine gCE (c8) ?_;clear F;rintro r ⟨y,rfl⟩;refine fR @tmC ?_;have F:=@tmC;refine gG ?_;exact ⟨y,trivial,gw,gw⟩
  refine gM (ι:=Unit) [] [] (fun y=>[]) (fun y=>[]) (fun y=>True) ?_ (fun y hy=>Exists.intro _ (ai (Wk.refl _) ?_))
  ·cases y
   ·have F:=@tmC;refine gG ?_;exact ⟨(),trivial,gw,gw⟩
   ·refine fG @tmC ?_;have F:=@tmC;refine gL (ι:=Nat) [7,8,25,37] [] (fun i=>[(7,A.d (.one (.lit (.int .i64 i))))]) (fun i=>[]) (fun i=>i<=6) (fun i=>6 - i) (0) (Taj _) (fun i hi=>?_);clear F;by_cases h1:i < 6
    ·have q1:=lT i 6;have wi:=Zao (k:=i) om;refine fN 5 (ai @q1 @tmC) ?_;refine gB ?_;have F:=@tmC;refine gCE (cD) ?_;clear F;rintro r ⟨u,hu,rfl⟩;refine fR @tmC ?_;refine fN 6 @tmC ?_;have F:=tmC;refine gN0 7 [0,1,3,4] [2,5,6] ?_;clear F;have F:=tmC;refine gNd ?_;clear F;have F:=tmC;refine gNE (cK hu) ?_;clear F;rintro r rfl;have F:=tmC;refine gNE (cK ht) ?_;clear F;rintro r rfl;have F:=tmC;refine gNr ?_;clear F
     refine fR @tmC ?_;generalize decide (Zbt g u=Zbt g t)=y
     cases y
     ·have F:=ai @wi @tmC;refine gG ?_;exact ⟨i+1,om,gw,gw,om⟩
     ·refine fG @tmC ?_;exact (have F:=tmC;gTE (R:=RTm (TermOk g)) [] ⟨_,hu,rfl⟩)
    ·have q1:=lF i 6;have F:=ai @q1 @tmC;refine gG ?_;exact ⟨(),trivial,gw,gw⟩
  clear cK cD c2 c8;refine fG @tmC ?_;have F:=ai @Zct @tmC;refine gL (ι:=List Tm) [7,8,9,10,25,37] [9] (fun us=>[(10,A.d (.one (.lit (.int .i64 us.length)))),(9,.buf 9)]) (fun us=>[(9,.buf none 34 4 (Zaa us))]) (fun us=>us.length<=t.args.length∧∀ u∈us,TermOk g u) (fun us=>t.args.length - us.length) ([]) (⟨Taj _,fun u hu=>(by cases hu)⟩) (fun us hus=>?_);clear F;obtain ⟨hul,huo⟩:=hus;by_cases hlt:us.length < t.args.length
  ·have q1:=lT us.length t.args.length;have wi:=Zao (k:=us.length) om;have hm:(us.length+1<=maxApp)=True:=eq_true (by unfold maxApp;omega);have hg1:t.args[us.length]?=some t.args[us.length]:=Taa hlt;have cI:=ih t.args[us.length] (List.getElem_mem hlt);generalize t.args[us.length]=a at hg1 cI;refine fN 12 (ai @q1 @tmC) ?_;have F:=tmC;refine gN0 10 [0,1,2,3,4,5,6,7] [8,9] ?_;clear F;have F:=ai hg1 @tmC;refine gNd ?_;clear F
   have F:=tmC;refine gNE cI ?_;clear F;rintro r ⟨u,hu,rfl⟩;have F:=tmC;refine gNr ?_;clear F;have hsn:Zaa us++[Zab u]=Zaa (us++[u]):=by rw [Zbz,Zcc]
   refine fR (aj3 @hm @hsn @tmC) ?_;have hl:(us++[u]).length=us.length+1:=by simp
   have F:=aj5 @wi @hl @hm @hsn @tmC;refine gG ?_;exact ⟨us++[u],⟨om,fun v hv=>(Tbh.1 hv).elim (huo v) fun hv=>by rw [Tbj.1 hv];exact hu⟩,gw,gw,om⟩
  ·have q1:=lF us.length t.args.length;have q2:us.length=t.args.length:=om;by_cases hv:t.op=-1
   ·refine fG (aj3 @q1 @hv @tmC) ?_;exact (have F:=tmC;gTE (R:=RTm (TermOk g)) [9] ⟨_,ht,rfl⟩)
   ·obtain ⟨o,d,hA⟩:=ht.form.node.app hv;have cM:=((ZpE hok hg hA.lo hA.at' us huo om).cu (b:=b) hx).toE;rw [Zaf] at cM;refine fN 15 (aj3 @q1 @hv @tmC) ?_;refine pS 9 fun a1 k1=>?_;refine pD 9 [9] [] ?_;refine gB ?_;have F:=@tmC;refine gCE (cM) ?_;clear F;rintro r rfl;refine fR @tmC ?_;have hr:(mkT g t.op us).isSome=true->TermOk g (mk6T g t.op us):=fun h=>by
     obtain ⟨v,hm⟩:=Option.isSome_iff_exists.1 h;rw [Zrz hm];exact Zn8 hg hA.lo huo hm
    generalize (mkT g t.op us).isSome=y at hr;generalize mk6T g t.op us=v at hr
    cases y
    ·refine fG @tmC ?_;exact (have F:=tmC;gTE (R:=RTm (TermOk g)) [] ⟨_,ht,rfl⟩)
    ·refine fG @tmC ?_;exact (have F:=tmC;gTE (R:=RTm (TermOk g)) [] ⟨_,hr rfl,rfl⟩)
end
structure DrOk (g:Sgn):Prop where
 ok:ZbL g
 sg:SgnOk g
 h4:4<=g.ops.length
 hz:TermOk g zTm
 hb:Zal (Zaf g)<=1048576
def smI (n:Int):Bool:=decide (-1<=n∧n<=1000)
theorem ZiE {n:Int} (h:smI n=true):I64 n:=by
 have:=of_decide_eq_true h;exact ⟨om,om⟩
def Zg1 (g:Sgn):Bool:=g.sorts.names.all (fun x=>decide (x.size<=12)) && g.sorts.subs.all (fun p=>smI p.1 && smI p.2) && g.ops.all (fun o=>decide (o.name.size<=12) && o.decls.all (fun d=>d.args.all smI && smI d.res) && smI o.unit)
theorem ZmD {g:Sgn} (h:Zg1 g=true):ZbL g:=by
 simp only [Zg1,Tar,List.all_eq_true,decide_eq_true_eq] at h;obtain ⟨⟨h1,h2⟩,h3⟩:=h;refine ⟨⟨fun x hx=>Tbe (h1 x hx) (by decide),fun p hp=>⟨ZiE (h2 p hp).1,ZiE (h2 p hp).2⟩⟩,fun o ho=>?_⟩;obtain ⟨⟨q1,q2⟩,q3⟩:=h3 o ho;exact ⟨Tbe q1 (by decide),fun d hd=>⟨fun k hk=>ZiE ((q2 d hd).1 k hk),ZiE (q2 d hd).2⟩,ZiE q3⟩
theorem ZoI {g:Sgn} {o:Opr} {d:Dcl} (h0:g.ops[0]?=some o) (h1:o.decls[0]?=some d) (h2:d.args=[]) (h3:o.assoc=false):TermOk g zTm:=by
 refine ⟨by simp [zTm,sizeTm,sizeTms],by simp [zTm,depthTm,depthTms],ZaP.2 ⟨.inr ⟨o,d,⟨by simp [zTm,Tm.op],h0,h1,rfl,rfl,fun h=>(by rw [h3] at h;cases h),fun _=>by rw [h2];rfl⟩⟩,fun a ha=>by simp [zTm,Tm.args] at ha,.inr fun o' d' _ _ i a ha=>by simp [zTm,Tm.args] at ha⟩⟩
theorem ZAw {z u hc fa fc fu:Bool} {w:Option Bool} (h:z=true∨(fa=false∧fc=false∧fu=false)):DrOk (sigE z u hc fa fc fu w):=by
 have H:∀ z u hc fa fc fu w',(Zg1 (sigE z u hc fa fc fu none)=true∧Zal (Zaf (sigE z u hc fa fc fu none))<=1048576)∧Zg1 (sigE z u hc fa fc fu (some w'))=true∧Zal (Zaf (sigE z u hc fa fc fu (some w')))<=1048576:=by decide +kernel
 refine ⟨ZmD ?_,Zz3 h,by cases w <;> exact Nat.le_of_ble_eq_true rfl,ZoI (o:=⟨nm1 97,[⟨[],0⟩],false,false,0⟩) (d:=⟨[],0⟩) (by cases w <;> rfl) rfl rfl rfl,?_⟩
 ·cases w with
  | none=>exact (H z u hc fa fc fu true).1.1
  | some w=>exact (H z u hc fa fc fu w).2.1
 ·cases w with
  | none=>exact (H z u hc fa fc fu true).1.2
  | some w=>exact (H z u hc fa fc fu w).2.2
theorem ZAx {z u hc fa fc fu:Bool} {w:Option Bool} (h:z=true∨(fa=false∧fc=false∧fu=false)):DrOk (sigD z u hc fa fc fu w):=by
 have H:∀ z u hc fa fc fu w',(Zg1 (sigD z u hc fa fc fu none)=true∧Zal (Zaf (sigD z u hc fa fc fu none))<=1048576)∧Zg1 (sigD z u hc fa fc fu (some w'))=true∧Zal (Zaf (sigD z u hc fa fc fu (some w')))<=1048576:=by decide +kernel
 refine ⟨ZmD ?_,Zz2 h,by cases w <;> exact Nat.le_of_ble_eq_true rfl,ZoI (o:=⟨nm1 97,[⟨[],0⟩],false,false,0⟩) (d:=⟨[],0⟩) (by cases w <;> rfl) rfl rfl rfl,?_⟩
 ·cases w with
  | none=>exact (H z u hc fa fc fu true).1.1
  | some w=>exact (H z u hc fa fc fu w).2.1
 ·cases w with
  | none=>exact (H z u hc fa fc fu true).1.2
  | some w=>exact (H z u hc fa fc fu w).2.2
theorem ZoJ {g:Sgn} (h:DrF g):DrOk g:=by
 obtain ⟨z,u,hc,fa,fc,fu,w,h,rfl⟩:=h;exact ZAw h
section
variable {x:Src} {b:Nat}
def curS (x:Src) (b:Nat):Bk:=.set (fun c=>c=b) fun w=>∃ i h:Int,0<=i∧(∃ arr ty,w.heap[b]?=some (.cells arr ty (0,0))∧arr.size=3)∧Zae w (fun _=>False) b 0 (curC x i h)
theorem ZAy {i h:Int} (hi:0<=i):ZgS [.var (some b) (curC x i h)] [curS x b]:=fun w S h1 h2=>by
 obtain ⟨q1,q2,⟨arr,ty,q3,q4⟩,q5⟩:=h1 _ (Tbj.2 rfl);refine ⟨fun y hy=>?_,⟨fun y hy=>(by cases hy),trivial⟩,fun g ⟨y,hy,hg⟩=>?_⟩
 ·obtain rfl:=Tbj.1 hy;refine ⟨fun c hc=>by subst hc;exact ⟨q1,q2⟩,⟨i,h,hi,⟨arr,ty,q3,by rw [q4];rfl⟩,ZeM (fun _=>rfl) q5⟩,fun w w' hz hE ⟨i,h,h0,h2,h3⟩=>⟨i,h,h0,by rw [hE b rfl];exact h2,ZeM (fun o=>Za6 (hE b rfl) o) h3⟩⟩
 ·obtain rfl:=Tbj.1 hy;exact ⟨_,Tbj.2 rfl,Eq.symm hg⟩
theorem pCur {mask:Nat} {c:Code} {s s2:List (Nat × A)} {m m2 m3:List (Nat × Bk)} {Q:PX->St->Prop} {i h:Int} (k:Nat) (hi:0<=i) (hK:pwp (eC x b) mask c ⟨s2,m3⟩ Q) (hpm:getM m [k]=some [.var (some b) (curC x i h)]:=by exact sny)
  (hs:Zck ([k]++[k]) s=s2:=by exact snv) (hr:Zcn ([k]++[k]) m=m2:=by exact snv) (h3:remM k (zipM [k] [curS x b]++m2)=m3:=by exact snv):pwp (eB x) mask c ⟨s,m⟩ Q:=by
 refine pE (m3:=zipM [k] [curS x b]++m2) [k] [k] (ZAy hi) ?_ hpm (by simp) (by rfl) hs hr rfl;subst h3;exact ZzW (E2:=fun c=>c=b) (G2:=curG x b) k Zek.st (by show gm ((k,curS x b)::m2) k=_;simp [gm,curS]) (fun hd=>⟨Zek,fun w h=>⟨hd b rfl,h⟩⟩) fun _=>hK
end
section
variable {x:Src}
def Zzn (r:List D):Prop:=∃ (g:Sgn) (rank:List Int) (s t:Tm),DrF g∧rank.length<=14∧TermOk g s∧TermOk g t∧r=[.agg (Zaf g),.one (.sl (rank.map Zaw)),.agg (Zab s),.agg (Zab t)]
theorem ZhW (hx:x.Ok):ConE (eB x) 5 [ZhJ x] Zzn:=by
 have he:=hx.ok;refine gIE (ts:=[.cell 2 30,.slot 3,.cell 4 34,.cell 5 34]) 67110909 Tryz.func5 ?_;refine fN 1 @tmB ?_;refine gB ?_;have F:=@tmB;refine gCP [] [1000] (Zoz hx) ?_;clear F;rintro r pm ⟨b,h,rfl,rfl⟩;simp only [setA,retA,zipM,Taf,Tah];refine fR @tmB ?_;refine pCur 1000 (Int.le_refl 0) ?_;clear he;have he:=hx.okC (b:=b);refine fN 2 @tmC ?_;refine gB ?_;have F:=@tmC;refine gCE (ZoC hx) ?_;clear F
 rintro r ⟨g,hg,rfl⟩;have hd:=ZoJ hg;have cD:=fun (d:Nat) (h:d<=5)=>Zgs (b:=b) hx hd.ok hd.sg hd.h4 hd.hz h true;have cR:=Zwk (b:=b) hx (g:=g) (by have:=hd.h4;omega) hd.sg.len;have cA:=fun (t:Tm) (h:TermOk g t)=>Zlb (b:=b) hx hd.ok hd.sg hd.h4 hd.hz (sizeTm t+1) (Tan _) h;have c4:=ZbG (b:=b) hx (n:=4) (by decide) (by decide);have hE:Zaf g=[.sl (g.sorts.names.map ZbB),.sl (g.sorts.subs.map ZbO),.sl (g.ops.map ZaL)]:=by rw [Zaf]
 rw [hE] at cD cR cA;refine fR (ai @hE @tmC) ?_;refine fN 3 @tmC ?_;refine gB ?_;have F:=@tmC;refine gCE (cR) ?_;clear F;rintro r ⟨rank,hr,rfl⟩;refine fR @tmC ?_;refine fN 4 @tmC ?_;refine gB ?_;have F:=@tmC;refine gCE (cD 3 (by decide)) ?_;clear F;rintro r ⟨s,hs,rfl⟩;refine fR @tmC ?_;refine fN 5 @tmC ?_;refine gB ?_;have F:=@tmC;refine gCE (cA s hs) ?_;clear F;rintro r ⟨t,ht,rfl⟩;refine fR @tmC ?_
 refine fN 6 @tmC ?_;refine gB ?_;have F:=@tmC;refine gCE (c4) ?_;clear F;rintro r ⟨y,rfl⟩;refine fR @tmC ?_;refine gM (ι:=Tm) [] [10] (fun u=>[]) (fun u=>[(10,.var none (Zab u))]) (fun u=>TermOk g u) ?_ (fun u hu=>Exists.intro _ (ai (Wk.refl _) ?_))
 ·cases y
  ·have F:=@tmC;refine gG ?_;exact ⟨t,ht,gw,gw⟩
  ·refine fN 7 @tmC ?_;refine gB ?_;have F:=@tmC;refine gCE (cD 2 (by decide)) ?_;clear F;rintro r ⟨t2,ht2,rfl⟩;refine fR @tmC ?_;have F:=@tmC;refine gG ?_;exact ⟨t2,ht2,gw,gw⟩
 refine fN 8 @tmC ?_
 /- gk drp -/
 refine gGk [(2,.ref 2 0),(4,.ref 4 0),(5,.ref 5 0),(7,.ref 7 0),(8,.d (.one (.sl (rank.map Zaw)))),(9,.ref 9 0),(10,.ref 10 0)] [(7,.var none [.sl (g.sorts.names.map ZbB),.sl (g.sorts.subs.map ZbO),.sl (g.ops.map ZaL)]),(9,.var none (Zab s)),(10,.var none (Zab u))] [([(30,.d (.agg [.sl (g.sorts.names.map ZbB),.sl (g.sorts.subs.map ZbO),.sl (g.ops.map ZaL)]))],[]),([(31,.d (.one (.sl (rank.map Zaw))))],[]),([(32,.d (.agg (Zab s)))],[]),([(33,.d (.agg (Zab u)))],[]),([],[(2,.var none [.sl (g.sorts.names.map ZbB),.sl (g.sorts.subs.map ZbO),.sl (g.ops.map ZaL)])]),([(3,.d (.one (.sl (rank.map Zaw))))],[]),([],[(4,.var none (Zab s))]),([],[(5,.var none (Zab u))]),([],[(2,.var none [.sl [],.sl [],.sl []])]),([],[(4,.var none [.lit (.int .i64 0),.lit (.string ByteArray.empty),.lit (.int .i64 0),.sl []])]),([],[(5,.var none [.lit (.int .i64 0),.lit (.string ByteArray.empty),.lit (.int .i64 0),.sl []])])] (fun j=>([(8,4),(9,6),(10,7)]:List (Nat × Nat)).lookup j) [8,9,10] (⟨by simp [gs],by simp [gm]⟩) (fun j hj=>by simp only [Tbg,List.not_mem_nil,or_false] at hj;rcases hj with rfl | rfl | rfl <;> exact ⟨by simp [gs],by simp [gm]⟩) ⟨?_,?_,?_,?_,?_,?_,?_,?_,trivial⟩ ?_
 ·intro s' m' hB hD hI hJ;have F:=(Zbj.1 hB);simp only [lkS,lkM,List.getD_cons_zero,List.getD_cons_succ,and_true,true_and] at F;have F:=ai F (tmC);refine gO3 ?_;exact kS hB (ZbU.2 (by simp [lkS,lkM,gs,gm]))
 ·intro s' m' hB hD hI hJ;have F:=(Zbj.1 hB);simp only [lkS,lkM,List.getD_cons_zero,List.getD_cons_succ,and_true,true_and] at F;have F:=ai F (tmC);refine gO3 ?_;exact kS hB (ZbU.2 (by simp [lkS,lkM,gs,gm]))
 ·intro s' m' hB hD hI hJ;have F:=(Zbj.1 hB);simp only [lkS,lkM,List.getD_cons_zero,List.getD_cons_succ,and_true,true_and] at F;have F:=ai F (tmC);refine gO3 ?_;exact kS hB (ZbU.2 (by simp [lkS,lkM,gs,gm]))
 ·intro s' m' hB hD hI hJ;have F:=(Zbj.1 hB);simp only [lkS,lkM,List.getD_cons_zero,List.getD_cons_succ,and_true,true_and] at F;have F:=ai F (tmC);refine gO3 ?_;exact kS hB (ZbU.2 (by simp [lkS,lkM,gs,gm]))
 ·intro s' m' hB hD hI hJ;have F:=aj3 (Zbj.1 hB) (ZbU.1 (hD 0 (by decide) (.inl rfl))) (ZbU.1 (hI 8 (by decide) (by decide)));simp only [lkS,lkM,List.getD_cons_zero,List.getD_cons_succ,and_true,true_and] at F;have F:=ai F (tmC);refine gO3 ?_;exact kM hB (ZbU.2 (by simp [lkS,lkM,gs,gm]))
 ·intro s' m' hB hD hI hJ;have F:=ai (Zbj.1 hB) (ZbU.1 (hD 1 (by decide) (.inl rfl)));simp only [lkS,lkM,List.getD_cons_zero,List.getD_cons_succ,and_true,true_and] at F;have F:=ai F (tmC);refine gO3 ?_;exact kS hB (ZbU.2 (by simp [lkS,lkM,gs,gm]))
 ·intro s' m' hB hD hI hJ;have F:=aj3 (Zbj.1 hB) (ZbU.1 (hD 2 (by decide) (.inl rfl))) (ZbU.1 (hI 9 (by decide) (by decide)));simp only [lkS,lkM,List.getD_cons_zero,List.getD_cons_succ,and_true,true_and] at F;have F:=ai F (tmC);refine gO3 ?_;exact kM hB (ZbU.2 (by simp [lkS,lkM,gs,gm]))
 ·intro s' m' hB hD hI hJ;have F:=aj3 (Zbj.1 hB) (ZbU.1 (hD 3 (by decide) (.inl rfl))) (ZbU.1 (hI 10 (by decide) (by decide)));simp only [lkS,lkM,List.getD_cons_zero,List.getD_cons_succ,and_true,true_and] at F;have F:=ai F (tmC);refine gO3 ?_;exact kM hB (ZbU.2 (by simp [lkS,lkM,gs,gm]))
 intro s' m' hB hP;refine ⟨_,_,(((hB.app (hP 4 (.inl (by decide)) (fun k h=>by simp [List.lookup] at h))).app (hP 5 (.inl (by decide)) (fun k h=>by simp [List.lookup] at h))).app (hP 6 (.inl (by decide)) (fun k h=>by simp [List.lookup] at h))).app (hP 7 (.inl (by decide)) (fun k h=>by simp [List.lookup] at h)),?_⟩;simp only [Taf,Tah,List.append_nil,List.getD_cons_zero,List.getD_cons_succ]
 /- gk end drp -/
 refine ⟨_,Wk.refl _,?_⟩;exact (have F:=aj3 hE @eBP tmC;gTE (R:=Zzn) [] ⟨g,rank,s,u,hg,hr,hs,hu,rfl⟩)
end
theorem ConP.args {e:Env} {f:FuncId} {lits data:List D} {pm:List Bk} {R:List D->List Bk->Prop} (h:ConP e f data pm R) (hd:∀ (w:World) (S:Nat->Prop) (vs:List Value),Zaq w S lits vs->Zaq w S data vs):ConP e f lits pm R:=⟨h.1,fun w S vs hS hE hG hp ha hvs=>h.2 w S vs hS hE hG hp ha (hd w S vs hvs)⟩
theorem ZAz {d:D} {rows:List (List C)} (w:World) (S:Nat->Prop) (vs:List Value) (h:Zaq w S [d,.clip rows] vs):Zaq w S [d,.one (.sl rows)] vs:=by
 match vs,h with
 | [x,y],h=>exact ⟨h.1,h.2.1.1,trivial⟩
def Zlc (d:D) (bk:Bk) (r:List D) (pm:List Bk):Prop:=r=[d]∧pm=[bk]
theorem Zld {u:Tm} (hu:okTm u) (hb:Zal (Zab u)<=1048576) (a:Option Addr) (k:Nat):ConP e0 114 [.agg (topC u a k),.one (.sl [])] [topB u a k] (Zlc (.one (.sl (Zaa (Zfi u)))) (topB u a k)):=by
 have hlen:=Zj2 u;obtain ⟨op,nm,so,args⟩:=u;have hall:∀ x∈args,Zal (Zab x)<=1048576:=fun x hx=>by
  obtain ⟨i,hi⟩:=Tbk hx;have hi':(Zaa args)[i]?=some (Zab x):=by rw [Zbx,hi];rfl
  have h2:=Zeg hi';simp only [Zab,Zal,Zdl] at hb;omega
 have hv0:Zfi (.mk op nm so args)=colT (Zbh (.mk op nm so args)) []:=rfl;rw [hv0,ZeK];simp only [topB,Tm.op,Tm.name,Tm.sort,Tm.args];have hn:=Zaj args;refine gIP (ts:=[.slot 4]) [1000] 1048887 Tryz.func114 ?_;by_cases ho:op=-1
 ·have e1:Zbh (.mk op nm so args)=[.mk (-1) nm so []]:=by simp only [Zbh,if_pos ho]
  rw [e1];have hI:=ZiA [] (.mk (-1) nm so []) trivial (Zj3 hu) (by simp);rw [ZjI] at hI;refine fN 2 @ho ?_;refine gB ?_;refine fC @e0P (Zfm nm so) ?_;refine fC @e0P (hI) ?_;refine fR @e0P ?_;exact (have F:=e0P;gTP (R:=Zlc (.one (.sl (Zaa (colT [.mk (-1) nm so []] [])))) (.buf (some (a,k)) 34 4 (Zaa args))) [1000] ⟨rfl,rfl⟩)
 ·have e1:Zbh (.mk op nm so args)=ZaK args:=by simp only [Zbh,if_neg ho]
  rw [e1] at hlen ⊢;have hk:Zat args:=by simp only [okTm] at hu;exact hu.2.2.2
  refine fG @ho ?_;have F:=ai ((fun (r:List Tm)=>(colT_nil0:colT (ZaK []) r=r))) @ZjI;refine gL (ι:=Nat) [1,5,20] [] (fun x=>[(5,.d (.one (.lit (.int .i64 (x:Int))))),(1,.d (.one (.sl (Zaa (colT (ZaK (args.take x)) [])))))]) (fun x=>[]) (fun x=>x<=args.length) (fun x=>args.length - x) (0) (Taj _) (fun x hx=>?_);clear F;by_cases hlt:x < args.length
  ·obtain ⟨b,hg⟩:∃ b,args[x]?=some b:=⟨_,Taa hlt⟩;have q2:((x:Int) < ((Zaa args).length:Int))=True:=eq_true (by rw [hn];omega);have q4:IntKind.i64.wrap ((x:Int)+1)=(x:Int)+1:=IntWalk.i64_in _ (by have:=hx;simp only [Zab,Zal,Zdl] at hb;omega);have hvt:=ZiD hg;have hle:=ZhM args (x+1);rw [hvt,Tae] at hle;have hcl:=ZhL (ZaK (args.take x)) [];have hbb:=hall b (Tac hg);have hvb:=Zj2 b;have hvl:(ZaK args).length<=1048577:=om
   have hcon:=Zla _ b (Tan _) (hk.mem (Tac hg)) hbb (colT (ZaK (args.take x)) []) (ZlJ (ZfH (ZhN x hk)) trivial) (by simp only [Tak,Nat.zero_add] at hcl;omega);rw [<- ZoD,<- hvt] at hcon;have hge:(Zaa args)[x]?=some (Zab b):=by rw [Zbx,hg];rfl
   have hl2:x < (Zaa args).length:=by rw [hn];exact hlt
   refine fN 6 @q2 ?_;refine gB ?_;refine fC (aj6 @q2 @hge @hl2 @Zbk @ZaS @Zbp) (hcon) ?_;refine fR @e0P ?_;have F:=@q4;refine gG ?_;exact ⟨x+1,hlt,gw,gw,om⟩
  ·obtain rfl:x=args.length:=by omega
   have q2:=lF ((Zaa args).length) ((Zaa args).length);rw [Tap,<- hn];refine fG @q2 ?_;exact (have F:=e0P;gTP (R:=Zlc (.one (.sl (Zaa (colT (ZaK args) [])))) (.buf (some (a,k)) 34 4 (Zaa args))) [1000] ⟨rfl,rfl⟩)
theorem ZoK {u:Tm} (hu:okTm u) (hb:Zal (Zab u)<=1048576) (a:Option Addr) (k:Nat):ConP e0 94 [.agg (topC u a k)] [topB u a k] (Zlc (.one (.sl (Zaa (Zfi u)))) (topB u a k)):=by
 have hc:=(Zld hu hb a k).args ZAz;rw [ZeK] at hc ⊢;refine gIP (ts:=[.slot 2]) [1000] 7 Tryz.func94 ?_;refine fN 1 @e0P ?_;refine gB ?_;have F:=@e0P;refine gCP [1000] [1000] (hc) ?_;clear F;rintro r pm ⟨rfl,rfl⟩;simp only [setA,retA,zipM,Taf,Tah];refine fR @e0P ?_;exact (have F:=e0P;gTP (R:=Zlc (.one (.sl (Zaa (Zfi u)))) (topB u a k)) [1000] ⟨rfl,rfl⟩)
theorem ZhX:∀ (a b:List (List C)),Zar (a++b)=Zar a+Zar b
 | [],b=>by simp [Zar]
 | x::a,b=>by simp only [Taf,Zar,ZhX a b];omega
def Zg2 (t:Tm):Prop:=okTm t∧Zal (Zab t)<=2000
def Zsw (r:List D) (pm:List Bk):Prop:=∃ t,Zg2 t∧r=[.agg (Zab t)]∧pm=[]
section
variable {x:Src} {b:Nat} {g:Sgn}
theorem Zwp (hx:x.Ok) (hd:DrOk g) {u:Tm} (hu:TermOk g u) (a:Option Addr) (k:Nat):ConP (eC x b) 30 [curD b,.agg (Zaf g),.agg (topC u a k)] [topB u a k] Zsw:=by
 have he:=hx.okC (b:=b);have c20:=Zb1 (b:=b) hx (n:=20) (by decide) (by decide);have cR:=Zsu (b:=b) hx (n:=7) (by decide) (by decide) 2 (by decide);have huo:=hu.ok hd.sg;have hub:Zal (Zab u)+1<=780:=by have h1:=Zes hu.form;have h2:=hu.size;omega
 rw [Zaf,ZeK];obtain ⟨op,nm,so,args⟩:=u;simp only [topB,Tm.op,Tm.name,Tm.sort,Tm.args];have hc:∀ op nm so args,Zab (.mk op nm so args)=[.lit (.int .i64 op),.lit (.string nm),.lit (.int .i64 so),.sl (Zaa args)]:=fun op nm so args=>by simp only [Zab]
 have hn:=Zaj args;rw [ZgV] at hub;have hbk:∀ (op so:Int) (nm:ByteArray) (l:List Tm),nm.size<=1000->l.length+Zar (Zaa l)<=900->Zal (Zab (.mk op nm so l))<=2000:=fun op so nm l h1 h2=>by rw [ZgV];omega
 simp only [okTm] at huo;obtain ⟨ho1,ho2,ho3,ho4⟩:=huo;refine gIP (ts:=[.cell 6 34]) [1000] 17592739767143 Tryz.func30 ?_;refine fN 1 @eCP ?_;refine gB ?_;have F:=@eCP;refine gCE (c20) ?_;clear F;rintro r ⟨j,hj,rfl⟩;refine fR @eCP ?_;refine gM (ι:=Tm) [] [5,1000] (fun v=>[]) (fun v=>[(5,.var none (Zab v))]) (fun v=>Zg2 v) ?_ (fun v hv=>Exists.intro _ (ai (Wk.refl _) ?_))
 ·by_cases j0:j=0
  ·have q0:((j:Int)=0)=True:=eq_true om;refine fN 3 (ai @q0 @eCP) ?_;refine gB ?_;have F:=@tmC;refine gCE (cR) ?_;clear F;rintro r ⟨t,ht,rfl⟩;refine fR (aj4 @Zbk @ZaS @Zbp @eCP) ?_;exact (have F:=aj4 @Zbk @ZaS @Zbp @eCP;gTP (R:=Zsw) [] ⟨t,⟨ht.1,by have h1:=ht.2.1;have h2:=ht.2.2;simp only [rawK] at h1;omega⟩,rfl,rfl⟩)
  have q0:((j:Int)=0)=False:=eq_false om;by_cases j1:j=1
  ·have q1:((j:Int)=1)=True:=eq_true om;have h2:=hc op ⟨#[120]⟩ so args;refine fN 5 (aj3 @q0 @q1 @eCP) ?_;refine pD 1000 [] [5] ?_;refine fG (aj3 @q0 @q1 @eCP) ?_;rw [<- h2];have F:=@eCP;refine gG ?_;exact ⟨.mk op ⟨#[120]⟩ so args,⟨(by simp only [okTm];exact ⟨ho1,by decide,ho3,ho4⟩),hbk _ _ _ _ (by decide) om⟩,gw,gw⟩
  have q1:((j:Int)=1)=False:=eq_false om;by_cases j2:j=2
  ·have q2:((j:Int)=2)=True:=eq_true om;have hm:((Zaa args).length+1<=maxApp)=True:=eq_true (by rw [hn];unfold maxApp;omega);have h2:=hc op nm so (args++[zTm]);refine fN 7 (aj4 @q0 @q1 @q2 @eCP) ?_;refine gB ?_;have F:=ai @Zfz @eCP;refine gP 4 ?_;clear F;refine gK 19 ?_;have F:=aj5 hm @ZbN @ZaS @Zbk @eCP;refine gP 1 ?_;clear F;have hsn:Zaa args++[[.lit (.int .i64 0),.lit (.string ByteArray.empty),.lit (.int .i64 0),.sl []]]=Zaa (args++[zTm]):=by rw [Zbz,Zcc,Zfz]
   rw [hsn];refine gS 22 fun a3 c3=>?_;have F:=@eCP;refine gP 2 ?_;clear F;refine gD 22 [] [5] ?_;rw [<- h2];refine fR @eCP ?_;have F:=aj4 @q0 @q1 @q2 @eCP;refine gG ?_;exact ⟨.mk op nm so (args++[zTm]),⟨(by simp only [okTm];exact ⟨ho1,ho2,ho3,ZiB ho4 ⟨Zow,trivial⟩⟩),hbk _ _ _ _ om (by rw [Zbz,Zcc,ZhX,Tae,Zfz];simp [Zar,Zal,Zdl];omega)⟩,gw,gw⟩
  have q2:((j:Int)=2)=False:=eq_false om;by_cases j3:j=3
  ·have q3:((j:Int)=3)=True:=eq_true om;refine pD 1000 [] [5] ?_;by_cases hl:1 < args.length
   ·have q5:=lT 1 args.length;refine fN 10 (aj6 @q0 @q1 @q2 @q3 @q5 @tmC) ?_;have hl2:2<=args.length:=hl;obtain ⟨t0,t1,rest,rfl⟩:∃ t0 t1 rest,args=t0::t1::rest:=by
     match args,hl2 with
     | t0::t1::rest,_=>exact ⟨t0,t1,rest,rfl⟩
    have e3:Zaa (t0::t1::rest)=Zab t0::Zab t1::Zaa rest:=by simp only [Zaa]
    have h2:=hc op nm so (t1::t0::rest);have e4:Zaa (t1::t0::rest)=Zab t1::Zab t0::Zaa rest:=by simp only [Zaa]
    have hok:Zg2 (.mk op nm so (t1::t0::rest)):=⟨(by simp only [okTm,Zat] at ho4 ⊢;exact ⟨ho1,ho2,ho3,ho4.2.1,ho4.1,ho4.2.2⟩),hbk _ _ _ _ om (by simp only [Zaa,Zar,Tag] at hub ⊢;omega)⟩;have hr:=Zaj rest;have s2:ZaE 4 (Zaa rest)=true:=ZbN _;rw [e4] at h2;rw [e3];have hrl:(Zaa rest).length<=1000:=by simp only [Tag] at hub;omega
    generalize Zaa rest=L at hr s2 hrl h2 ⊢;have s3:ZaE 4 [Zab t1,Zab t0]=true:=by simp [ZaE,ZaS,Zbk]
    have s1:((2:Int)<=((L.length+1+1:Nat):Int))=True:=eq_true om;have s4:(((L.length+1+1:Nat):Int)<=((L.length+1+1:Nat):Int))=True:=eq_true (Int.le_refl _);have s5:L.take L.length=L:=Tap;have F:=aj9 s1 s2 s3 s4 s5 @Zbk @ZaS @Zbp @eCP;by_cases hL:L=[]
    ·subst hL;clear F;refine gB ?_;have p1:((2:Int)<=((2:Nat):Int))=True:=eq_true (by decide);have p2:(((2:Nat):Int)<=((2:Nat):Int))=True:=eq_true (by decide);have F:=aj6 @p1 @p2 @Zbk @ZaS @Zbp @eCP;refine gP 12 ?_;clear F;have F:=eCP;refine gAe ?_;clear F;refine fR @eCP ?_;rw [<- h2];have F:=ai @hr @eCP;refine gG ?_;exact ⟨.mk op nm so (t1::t0::rest),hok,gw,gw⟩
    ·have hle:([Zab t1,Zab t0]:List (List C)).length+L.length<=maxApp:=by unfold maxApp;simp;omega
     refine gA 13 12 hle (.inr hL) ?_;clear F;refine gS 42 fun a3 c3=>?_;have F:=@eCP;refine gP 2 ?_;clear F;refine gD 42 [] [5] ?_;rw [<- h2];refine fR @eCP ?_;have F:=ai @hr @eCP;refine gG ?_;exact ⟨.mk op nm so (t1::t0::rest),hok,gw,gw⟩
   ·have q5:=lF 1 args.length;have h2:=hc op nm so args;rw [<- h2];have F:=aj8 @q0 @q1 @q2 @q3 @q5 @h2 @hn @eCP;refine gG ?_;exact ⟨.mk op nm so args,⟨(by simp only [okTm];exact ⟨ho1,ho2,ho3,ho4⟩),hbk _ _ _ _ om om⟩,gw,gw⟩
  have q3:((j:Int)=3)=False:=eq_false om;by_cases j4:j=4
  ·have q4:((j:Int)=4)=True:=eq_true om;have h2:=hc op nm 1 args;refine fN 12 (aj6 @q0 @q1 @q2 @q3 @q4 @eCP) ?_;refine pD 1000 [] [5] ?_;refine fG (aj3 @q0 @q1 @eCP) ?_;rw [<- h2];have F:=@eCP;refine gG ?_;exact ⟨.mk op nm 1 args,⟨(by simp only [okTm];exact ⟨ho1,ho2,⟨by decide,by decide⟩,ho4⟩),hbk _ _ _ _ om om⟩,gw,gw⟩
  have q4:((j:Int)=4)=False:=eq_false om;have h2:=hc op nm so args;refine pD 1000 [] [5] ?_;rw [<- h2];have F:=aj6 @q0 @q1 @q2 @q3 @q4 @eCP;refine gG ?_;exact ⟨.mk op nm so args,⟨(by simp only [okTm];exact ⟨ho1,ho2,ho3,ho4⟩),hbk _ _ _ _ om om⟩,gw,gw⟩
 ·refine fN 13 @eCP ?_;refine gB ?_;refine fR (aj4 @Zbk @ZaS @Zbp @eCP) ?_;exact (have F:=aj4 @Zbk @ZaS @Zbp @eCP;gTP (R:=Zsw) [] ⟨v,hv,rfl,rfl⟩)
end
theorem ZmE {g:Sgn}:∀ (n:Nat) (t:Tm),sizeTm t < n->Zau g t->∀ v∈Zbh t,ZcM g v
 | 0,t,hn,_,_,_=>om
 | n+1,t,hn,ht,v,hv=>by
  have hs:=hn;rw [ZaD] at hs;have key:∀ {ts:List Tm},v∈ZaK ts->∃ a∈ts,v∈Zbh a:=fun {ts}=>by
   induction ts with
   | nil=>intro h;simp [ZaK] at h
   | cons x xs ih =>
    intro h;simp only [ZaK,Tbh] at h;rcases h with h | h
    ·exact ⟨x,Tas,h⟩
    ·obtain ⟨a,ha,h⟩:=ih h;exact ⟨a,Tal _ ha,h⟩
  by_cases hop:t.op=-1
  ·have hV:ZcM g t:=by
    rcases ht.node with h | ⟨o,d,h⟩
    ·exact h
    ·have:=h.lo;omega
   obtain ⟨op,nm,so,args⟩:=t;simp only [Tm.op] at hop;have ha0:args=[]:=hV.2.2.2.2;subst hop ha0;simp only [Zbh,if_pos,Tbj] at hv;rw [hv];exact hV
  ·have e:Zbh t=ZaK t.args:=by
    obtain ⟨op,nm,so,args⟩:=t;simp only [Tm.op] at hop;simp only [Zbh,if_neg hop,Tm.args]
   rw [e] at hv;obtain ⟨a,ha,hv⟩:=key hv;have:=Zbd ha;exact ZmE n a om ((ZaP.1 ht).2.1 a ha) v hv
mutual
theorem ZmF:∀ t:Tm,(Zbh t).length<=sizeTm t
 | .mk op nm so args=>by
  have:=Zle args;simp only [Zbh,sizeTm];split
  ·simp only [Tag,Tak];omega
  ·omega
theorem Zle:∀ ts:List Tm,(ZaK ts).length<=sizeTms ts
 | []=>by simp [ZaK]
 | t::ts=>by
  have h1:=ZmF t;have h2:=Zle ts;simp only [ZaK,sizeTms,Tae];omega
end
theorem ZmG {t v:Tm}:∀ {l:List Tm},v∈Zbu t l->v=t∨v∈l
 | [],h=>by simp [Zbu] at h;exact .inl h
 | x::xs,h=>by
  simp only [Zbu] at h;split at h
  ·rcases Tbg.1 h with h | h
   ·exact .inr (h ▸ Tas)
   ·exact (ZmG h).imp id (Tal _)
  ·split at h
   ·exact .inr h
   ·exact Tbg.1 h
theorem ZoL {v:Tm}:∀ {l r:List Tm},v∈colT l r->v∈l∨v∈r
 | [],r,h=>.inr h
 | x::xs,r,h=>by
  rcases ZoL (l:=xs) (r:=Zbu x r) h with h | h
  ·exact .inl (Tal _ h)
  ·rcases ZmG h with h | h
   ·exact .inl (h ▸ Tas)
   ·exact .inr h
theorem Zz6 {s:ByteArray} (h:Za0 s=true):s.size<=12:=by
 unfold Za0 at h;simp only [Tar,decide_eq_true_eq] at h;exact h.1.1.1.2
structure BdDr (g:Sgn) (y:Bd):Prop where
 vo:okTm y.var
 vb:Zal (Zab y.var)<=12
 to:TermOk g y.to
def ZhO (g:Sgn) (n:Nat) (l:List Bd):Prop:=l.length<=n∧∀ y∈l,BdDr g y
def RBds (g:Sgn) (bk:Bk) (r:List D) (pm:List Bk):Prop:=∃ (l:List Bd) (a:Option Addr) (cap:Nat),ZhO g 60 l∧r=[.one (.lit (.slice a (Zaz l).length cap))]∧pm=[bk,.buf (some (a,cap)) 96 8 (Zaz l)]
section
variable {x:Src} {b:Nat} {g:Sgn}
theorem ZoM (hx:x.Ok) (hd:DrOk g) {u:Tm} (hu:TermOk g u) (a:Option Addr) (k:Nat):ConP (eC x b) 60 [curD b,.agg (Zaf g),.agg (topC u a k)] [topB u a k] (RBds g (topB u a k)):=by
 have he:=hx.okC (b:=b);have c6:=ZbG (b:=b) hx (n:=6) (by decide) (by decide);have c2:=ZbG (b:=b) hx (n:=2) (by decide) (by decide);have cD:=fun y=>Zgs (b:=b) hx hd.ok hd.sg hd.h4 hd.hz (d:=2) (by decide) y;have huo:=hu.ok hd.sg;have hub:Zal (Zab u)+1<=780:=by have h1:=Zes hu.form;have h2:=hu.size;omega
 have cV:=(ZoK huo om a k).cu (b:=b) hx;have hvl:(Zfi u).length<=60:=by
  have h1:=ZhL (Zbh u) [];have h2:=ZmF u;have h3:=hu.size;have:Zfi u=colT (Zbh u) []:=rfl;rw [this];simp only [Tak,Nat.zero_add] at h1;omega
 have hvo:∀ v∈Zfi u,ZcM g v:=fun v hv=>by
  rcases ZoL (show v∈colT (Zbh u) [] from hv) with h | h
  ·exact ZmE _ u (Tan _) hu.form v h
  ·cases h
 generalize Zfi u=vs at cV hvl hvo;have cS:∀ {t:Tm},TermOk g t->ConE (eC x b) 95 [.agg (Zaf g),.agg (Zab t)] (fun r=>r=[.one (.lit (.int .i64 ((sortsTm g t:Nat):Int)))]):=fun {t} ht=>((ZjB hd.sg (sizeTm t+1) (Tan _) ht.form).cu hx).toE;rw [Zaf] at cD cS ⊢;rw [ZeK] at cV ⊢;refine gIP (ts:=[.slot 6]) [1000] 8796227506167 Tryz.func60 ?_;refine fN 2 @eCP ?_;refine gB ?_;have F:=@eCP;refine gCP [1000] [1000] (cV) ?_;clear F
 rintro r pm ⟨rfl,rfl⟩;simp only [setA,retA,zipM,Taf,Tah];refine fR @eCP ?_;refine fG @eCP ?_;have hb0:Zaz []=[]:=rfl;have F:=ai @hb0 @eCP;refine gL (ι:=Nat × List Bd) [7,9,10,11,18,27,43] [7] (fun z=>[(9,A.d (.one (.lit (.int .i64 z.1)))),(7,.buf 7)]) (fun z=>[(7,.buf none 96 8 (Zaz z.2))]) (fun z=>z.1<=vs.length∧z.2.length<=z.1∧∀ y∈z.2,BdDr g y) (fun z=>vs.length - z.1) ((0,[])) (⟨Taj _,Tai _,fun y hy=>(by cases hy)⟩) (fun z hz=>?_);clear F
 obtain ⟨i,l⟩:=z;obtain ⟨hz1,hz2,hz3⟩:=hz;dsimp only at hz1 hz2 hz3 ⊢;by_cases hlt:i < vs.length
 ·have q1:=lT i vs.length;have wi:=Zao (k:=i) om;have hg1:vs[i]?=some vs[i]:=Taa hlt;have hv:=hvo vs[i] (List.getElem_mem hlt);generalize vs[i]=v at hg1 hv;refine fN 6 (ai @q1 @tmC) ?_;refine gB ?_;refine fR @tmC ?_;refine gM (ι:=List Bd) [7,10,11,27,43] [7,11] (fun l'=>[(7,.buf 7)]) (fun l'=>[(7,.buf none 96 8 (Zaz l'))]) (fun l'=>l'.length<=i+1∧∀ y∈l',BdDr g y) ?_ (fun l' hl'=>Exists.intro _ (ai (Wk.refl _) ?_))
  ·refine fG @tmC ?_;have F:=@tmC;refine gL (ι:=Nat) [7,10,11,27,43] [7] (fun j=>[(10,A.d (.one (.lit (.int .i64 j)))),(7,.buf 7)]) (fun j=>[(7,.buf none 96 8 (Zaz l))]) (fun j=>j<=4) (fun j=>4 - j) (0) (Taj _) (fun j hj=>?_);clear F;by_cases h4:j < 4;rotate_left
   ·have q4:=lF j 4;refine fN 7 (ai @q4 @tmC) ?_;refine gB ?_;refine fR (ai @q4 @tmC) ?_;have F:=ai @q4 @tmC;refine gG ?_;exact ⟨l,⟨om,hz3⟩,gw,gw⟩
   have q4:=lT j 4;have wj:=Zao (k:=j) om;refine fN 7 (ai @q4 @tmC) ?_;refine gB ?_;have F:=ai @q4 @tmC;refine gCE (c6) ?_;clear F;rintro r ⟨y,rfl⟩
   cases y
   rotate_left
   ·refine fR (ai @q4 @tmC) ?_;have F:=ai @q4 @tmC;refine gG ?_;exact ⟨l,⟨om,hz3⟩,gw,gw⟩
   refine fR (ai @q4 @tmC) ?_;refine fN 9 @tmC ?_;refine gF0 ?_;have F:=tmC;refine gNa 5 [0,1,2] [3,4] ?_;clear F;have F:=tmC;refine gNd ?_;clear F;have F:=tmC;refine gNE c2 ?_;clear F;rintro r ⟨y2,rfl⟩;have F:=tmC;refine gNE (cD y2) ?_;clear F;rintro r ⟨t,ht,rfl⟩;have F:=tmC;refine gNr ?_;clear F;refine fR @tmC ?_;obtain ⟨kv,hkv⟩:=Int.eq_ofNat_of_zero_le hv.2.2.1;have hk16:kv < 16:=by have:=hd.sg.sorts.n8;have:=hv.2.2.2.1;omega
   have hst:=Zfy hd.sg ht.form.node;have h2p:(2:Nat) ^ g.sorts.names.length<=2 ^ 16:=Tbs (by decide) (by have:=hd.sg.sorts.n8;omega);have cH:=((Zeq (a:=sortsTm g t) (k:=kv) om hk16).cu (b:=b) hx).toE;have hve:Zab v=[.lit (.int .i64 v.op),.lit (.string v.name),.lit (.int .i64 (kv:Int)),.sl (Zaa v.args)]:=by
    obtain ⟨o1,n1,s1,a1⟩:=v;simp only [Tm.sort] at hkv;subst hkv;simp only [Zab,Tm.op,Tm.name,Tm.args]
   refine fN 10 @tmC ?_;have F:=tmC;refine gN0 9 [0,1,3,4,5,6,7] [2,8] ?_;clear F;have F:=aj3 hg1 hve tmC;refine gNd ?_;clear F;have F:=tmC;refine gNE (cS ht) ?_;clear F;rintro r rfl;have F:=tmC;refine gNE cH ?_;clear F;rintro r rfl;have F:=tmC;refine gNr ?_;clear F;refine fR @tmC ?_;generalize tbit (sortsTm g t) kv=y3
   cases y3
   ·have F:=ai @wj @tmC;refine gG ?_;exact ⟨j+1,om,gw,gw,om⟩
   ·have hbs:Zaz l++[Zab v++Zab t]=Zaz (l++[⟨v,t⟩]):=by simp only [Zaz,Tbv,Tbu,List.map_nil];rfl
    have hm:((Zaz l).length+1<=maxApp)=True:=eq_true (by simp only [Zaz,Tay];unfold maxApp;omega);have hm2:(l.length+1<=maxApp)=True:=eq_true (by unfold maxApp;omega);have hvd:BdDr g ⟨v,t⟩:=by
     have hs12:=Zz6 hv.2.1;have hz:=hv.2.2.2.1;have hn8:=hd.sg.sorts.n8;obtain ⟨o1,n1,s1,a1⟩:=v;simp only [ZcM,Tm.op,Tm.name,Tm.sort,Tm.args] at hv hs12 hz hkv;obtain ⟨rfl,_,_,_,rfl⟩:=hv;exact ⟨by simp only [okTm,Zat,and_true];exact ⟨⟨by decide,by decide⟩,by unfold maxLen;omega,⟨om,om⟩⟩,by rw [ZgV];simp only [Zaa,Zar,Tak];omega,ht⟩
    have h7:∀ (c0 c1 c2 c3:C),List.take 4 (Zab v++[c0,c1,c2,c3])++Zab t++List.drop 8 (Zab v++[c0,c1,c2,c3])=Zab v++Zab t:=fun c0 c1 c2 c3=>by
     obtain ⟨o1,n1,s1,a1⟩:=v;simp [Zab]
    refine fN 11 @tmC ?_;refine gB ?_;have bl:∀ l:List Bd,(Zaz l).length=l.length:=fun l=>by simp [Zaz]
    have r8:∀ l:List Bd,ZaE 8 (Zaz l)=true:=fun l=>ZcU (fun y=>by obtain ⟨⟨o1,n1,s1,a1⟩,⟨o2,n2,s2,a2⟩⟩:=y;rfl) l;have r81:ZaE 8 [Zab v++Zab t]=true:=r8 [⟨v,t⟩];have ok8:(Zab v++Zab t).all Zay=true:=by rw [List.all_append,Zbk,Zbk];rfl
    have ln8:(Zab v++Zab t).length=8:=by rw [Tae,ZaS,ZaS]
    refine fR (aj13 @hg1 @h7 @ok8 @ln8 @bl @r8 @r81 @hm2 @hbs @Zbk @ZaS @Zbp @tmC) ?_;have F:=ai @bl @tmC;refine gG ?_;exact ⟨l++[⟨v,t⟩],⟨by rw [Tae];exact Nat.succ_le_succ hz2,fun y hy=>(Tbh.1 hy).elim (hz3 y) fun hy=>by rw [Tbj.1 hy];exact hvd⟩,gw,gw⟩
  ·have F:=ai @wi @tmC;refine gG ?_;exact ⟨(i+1,l'),⟨om,hl'.1,hl'.2⟩,gw,gw,om⟩
 ·have q1:=lF i vs.length;refine fG (ai @q1 @tmC) ?_;refine pS 6 fun a1 k1=>?_;exact (have F:=eCP;gTP (R:=RBds g (topB u a k)) [1000,6] ⟨l,a1,k1,⟨om,hz3⟩,rfl,rfl⟩)
end
theorem Zwq {e:Env} {σ:St} {a0:Option Addr} {n cap ety sz:Nat} {rows:List (List C)} (t κ:Nat) (hs:gs σ.s t=.d (.one (.lit (.slice a0 n cap)))) (hm:gm σ.m κ=some (.buf (some (a0,cap)) ety sz rows)) (hn:n=rows.length):Turn e σ (fun σ'=>σ'=⟨(t,.buf κ)::σ.s,σ.m⟩):=by
 intro he U w0 S0 nt a w ⟨S,L,h⟩;refine ⟨_,rfl,S,L,h.cls,fun t'=>?_,h.size,h.defers,h.kept⟩;simp only [gs];split
 ·rename_i e;subst e;have hr:=h.rel t';rw [hs] at hr;have hv:a.tmps.getD t' undef=.slice a0 n cap:=by simpa [ARel,DRel,Rep] using hr
  have h2:=(h.cls.own κ _ hm).1 (a0,cap) rfl;show _=_;rw [hv,h2,hn]
 ·exact h.rel t'
theorem pKk {e:Env} {mask:Nat} {Q:PX->St->Prop} {c:Code} {s:List (Nat × A)} {m:List (Nat × Bk)} {a0:Option Addr} {n cap ety sz:Nat} {rows:List (List C)} (t κ:Nat) (hK:pwp e mask c ⟨(t,.buf κ)::s,m⟩ Q) (hm:gm m κ=some (.buf (some (a0,cap)) ety sz rows):=by exact snv) (hs:gs s t=.d (.one (.lit (.slice a0 n cap))):=by exact snv) (hn:n=rows.length:=by rfl):pwp e mask c ⟨s,m⟩ Q :=
 Zcm (Zwq t κ hs hm hn) fun σ' hσ=>by subst hσ;exact hK
def Zzo (g:Sgn) (bk:Bk) (r:List D) (pm:List Bk):Prop:=∃ l:List Bd,ZhO g 61 l∧r=[.one (.sl (Zaz l))]∧pm=[bk]
theorem ZAA {g:Sgn} {t:Tm} (h:TermOk g t):BdDr g ⟨zTm,t⟩:=⟨Zow,by rw [Zov];decide,h⟩
section
variable {x:Src} {b:Nat} {g:Sgn}
theorem ZoN (hx:x.Ok) (hd:DrOk g) {u:Tm} (hu:TermOk g u) (a:Option Addr) (k:Nat):ConP (eC x b) 29 [curD b,.agg (Zaf g),.agg (topC u a k)] [topB u a k] (Zzo g (topB u a k)):=by
 have he:=hx.okC (b:=b);have c8:=ZbG (b:=b) hx (n:=8) (by decide) (by decide);have c3:=Zb1 (b:=b) hx (n:=3) (by decide) (by decide);have cD:=Zgs (b:=b) hx hd.ok hd.sg hd.h4 hd.hz (d:=1) (by decide) true;have cB:=ZoM (b:=b) hx hd hu a k;rw [Zaf] at cD cB ⊢;rw [ZeK] at cB ⊢;refine gIP (ts:=[.slot 6]) [1000] 17626646970871 Tryz.func29 ?_;refine fN 1 @eCP ?_;refine gB ?_;have F:=@eCP;refine gCP [1000] [1000,1001] (cB) ?_;clear F
 rintro r pm ⟨l,a1,k1,⟨hl1,hl2⟩,rfl,rfl⟩;simp only [setA,retA,zipM,Taf,Tah];refine fR @eCP ?_;refine pKk 7 1001 ?_;have bl:(Zaz l).length=l.length:=Zhq l;refine fN 2 @eCP ?_;refine gM (ι:=Bool) [19] [] (fun y=>[(19,A.d (.one (.lit (.bool y))))]) (fun y=>[]) (fun y=>y=true->1<=l.length) ?_ (fun y hy=>Exists.intro _ (ai (Wk.refl _) ?_))
 ·refine gB ?_;by_cases h0:0 < l.length
  ·have q0:((0:Int) < ((Zaz l).length:Int))=True:=eq_true (by rw [bl];omega);have F:=ai @q0 @eCP;refine gCE (c8) ?_;clear F;rintro r ⟨y,rfl⟩;refine fR @eCP ?_;have F:=@eCP;refine gG ?_;exact ⟨y,fun _=>h0,gw,gw⟩
  ·have q0:((0:Int) < ((Zaz l).length:Int))=False:=eq_false (by rw [bl];omega);refine fR (ai @q0 @eCP) ?_;have F:=@eCP;refine gG ?_;exact ⟨false,(by simp),gw,gw⟩
 refine gM (ι:=List Bd) [7,8,25,26,35,44] [1001] (fun l'=>[(7,.d (.one (.sl (Zaz l'))))]) (fun l'=>[]) (fun l'=>ZhO g 61 l') ?_ (fun l' hl'=>Exists.intro _ (ai (Wk.refl _) ?_))
 ·cases y with
  | false =>
   refine pD 1001 [7] [] ?_;have F:=@eCP;refine gG ?_;exact ⟨l,⟨om,hl2⟩,gw,gw⟩
  | true =>
   have h1:=hy rfl;have cW:=Zb1 (b:=b) hx (n:=(Zaz l).length) (by rw [bl];exact h1) (by rw [bl];omega);refine fN 3 @eCP ?_;refine gB ?_;have F:=@eCP;refine gCE (cW) ?_;clear F;rintro r ⟨j,hj,rfl⟩;refine fR @eCP ?_;refine fN 4 @eCP ?_;refine gB ?_;have F:=@eCP;refine gCE (c3) ?_;clear F;rintro r ⟨q,hq,rfl⟩;refine fR @eCP ?_;have hjl:j < l.length:=by rw [bl] at hj;exact hj
   obtain ⟨y,hy1⟩:∃ y,l[j]?=some y:=⟨_,Taa hjl⟩;have hyb:=hl2 y (Tac hy1);have hgy:(Zaz l)[j]?=some (Zab y.var++Zab y.to):=by rw [Zhr,hy1];rfl
   have ok8:(Zab y.var++Zab y.to).all Zay=true:=by rw [List.all_append,Zbk,Zbk];rfl
   have ln8:(Zab y.var++Zab y.to).length=8:=by rw [Tae,ZaS,ZaS]
   have hset:∀ z:Bd,BdDr g z->ZhO g 61 (l.set j z):=fun z hz=>⟨by rw [Taz];omega,fun w hw=>(List.mem_or_eq_of_mem_set hw).elim (hl2 w) fun h=>h ▸ hz⟩;by_cases q0:q=0
   ·have e0:((q:Int)=0)=True:=eq_true om;refine fN 6 (ai @e0 @eCP) ?_;refine gB ?_;have F:=@eCP;refine gCE (cD) ?_;clear F;rintro r ⟨t,ht,rfl⟩;have F:=aj8 @hj @hgy @ok8 @ln8 @Zbk @ZaS @Zbp @eCP;refine gP 3 ?_;clear F;have s0:(Zaz l).set j (List.take 4 (Zab y.var++Zab y.to)++Zab t++List.drop 8 (Zab y.var++Zab y.to))=Zaz (l.set j ⟨y.var,t⟩):=by
     have e:List.take 4 (Zab y.var++Zab y.to)++Zab t++List.drop 8 (Zab y.var++Zab y.to)=ZbS ⟨y.var,t⟩:=by
      obtain ⟨⟨o1,n1,s1,a1⟩,⟨o2,n2,s2,a2⟩⟩:=y;simp [Zab,ZbS]
     rw [e];exact (List.map_set).symm
    rw [s0];refine gD 1001 [7] [] ?_;refine fR @eCP ?_;have F:=@eCP;refine gG ?_;exact ⟨l.set j ⟨y.var,t⟩,hset _ ⟨hyb.vo,hyb.vb,ht⟩,gw,gw⟩
   have e0:((q:Int)=0)=False:=eq_false om;by_cases q1:q=1
   ·have e1:((q:Int)=1)=True:=eq_true om;refine fN 8 (aj3 @e0 @e1 @eCP) ?_;refine gB ?_;have r8:ZaE 8 [Zab y.var++Zab y.to]=true:=bds8 [y];have hm:((Zaz l).length+1<=maxApp)=True:=eq_true (by rw [bl];unfold maxApp;omega);have tk8:List.take 8 (Zab y.var++Zab y.to)=Zab y.var++Zab y.to:=List.take_of_length_le (by rw [ln8];exact Tai _);have F:=aj11 @hj @hgy @ok8 @ln8 @r8 @hm @tk8 @Zbk @ZaS @Zbp @eCP;refine gP 7 ?_;clear F
    have s1:Zaz l++[Zab y.var++Zab y.to]=Zaz (l++[y]):=by simp only [Zaz,Tbv,Tbu,List.map_nil];rfl
    rw [s1];refine gS 43 fun a2 k2=>?_;refine gD 43 [43] [] ?_;refine fR @eCP ?_;have F:=@eCP;refine gG ?_;exact ⟨l++[y],⟨by rw [Tae];simp only [Tag,Tak];omega,fun w hw=>(Tbh.1 hw).elim (hl2 w) fun h=>by rw [Tbj.1 h];exact hyb⟩,gw,gw⟩
   have e1:((q:Int)=1)=False:=eq_false om;have e2:((q:Int)=2)=True:=eq_true om;refine fN 10 (aj4 @e0 @e1 @e2 @eCP) ?_;refine gB ?_;have F:=aj8 @hj @hgy @ok8 @ln8 @Zbk @ZaS @Zbp @eCP;refine gP 6 ?_;clear F;have s2:(Zaz l).set j (.lit (.int .i64 0)::.lit (.string ByteArray.empty)::.lit (.int .i64 0)::.sl []::List.drop 4 (Zab y.var++Zab y.to))=Zaz (l.set j ⟨zTm,y.to⟩):=by
    have e:(.lit (.int .i64 0)::.lit (.string ByteArray.empty)::.lit (.int .i64 0)::.sl []::List.drop 4 (Zab y.var++Zab y.to))=ZbS ⟨zTm,y.to⟩:=by
     obtain ⟨⟨o1,n1,s1,a1⟩,⟨o2,n2,s2,a2⟩⟩:=y;simp [Zab,ZbS,Zfz]
    rw [e];exact (List.map_set).symm
   rw [s2];refine gD 1001 [7] [] ?_;refine fR @eCP ?_;have F:=@eCP;refine gG ?_;exact ⟨l.set j ⟨zTm,y.to⟩,hset _ (ZAA hyb.to),gw,gw⟩
 ·refine fG @eCP ?_;exact (have F:=eCP;gTP (R:=Zzo g (topB u a k)) [1000] ⟨l',hl',rfl,rfl⟩)
end
section
variable {L:List Oper} {cons:Nat->Option Nat} {X:Type} {ok:Nat->X->Prop} {T:X->Tab} {i:Nat} {sb:List (Nat × A)} {mb:List (Nat × Bk)} {s:List (Nat × A)} {m:List (Nat × Bk)} {d:Nat} {α:A} {bk:Bk}
theorem Lks.lent {κ:Nat} (h:Lks sb mb ⟨s,m⟩) (hf:ZdC d κ sb mb=true):Lks sb mb ⟨Zak κ s,remM κ m⟩:=by
 have hf2:=hf;simp only [ZdC,Tar,List.all_eq_true,bne_iff_ne,ne_eq,Bool.not_eq_true'] at hf2;refine Lks.mrem (Lks.kill h ?_) ?_
 ·simp only [List.all_eq_true,Bool.not_eq_true'];exact fun p hp=>(hf2.1 p hp).2
 ·simp only [List.all_eq_true,bne_iff_ne,ne_eq];exact hf2.2
theorem Lks.lentD {κ:Nat} (h:Lks sb mb ⟨s,m⟩) (hf:ZdC d κ sb mb=true):Lks sb mb ⟨(d,α)::Zak κ s,remM κ m⟩:=by
 have hf2:=hf;simp only [ZdC,Tar,List.all_eq_true,bne_iff_ne,ne_eq,Bool.not_eq_true'] at hf2;exact Lks.slot (h.lent hf) (by simp only [List.all_eq_true,bne_iff_ne,ne_eq];exact fun p hp=>(hf2.1 p hp).1)
theorem xLB {κ:Nat} (hB:Lks sb mb ⟨s,m⟩) (hp:tabX ok T i ⟨(d,α)::Zak κ (Zak κ s),(κ,bk)::remM κ (remM κ m)⟩) (h1:ZdC d κ sb mb=true:=by rfl) (h2:∀ x,Ze6 L cons (T x) i (ZdC d κ)=true:=by intro x;rfl):DidX L cons ok T i sb mb s m ⟨(d,α)::Zak κ (Zak κ s),(κ,bk)::remM κ (remM κ m)⟩:=⟨Lks.bornC (hB.lent h1) h1,hp,ZeU h2 fun _ _ h hl=>Lks.bornC (hl.lent h) h⟩
theorem xLD {κ:Nat} (hB:Lks sb mb ⟨s,m⟩) (hp:tabX ok T i ⟨(d,α)::Zak κ s,remM κ m⟩) (h1:ZdC d κ sb mb=true:=by rfl) (h2:∀ x,Ze6 L cons (T x) i (ZdC d κ)=true:=by intro x;rfl):DidX L cons ok T i sb mb s m ⟨(d,α)::Zak κ s,remM κ m⟩:=⟨hB.lentD h1,hp,ZeU h2 fun _ _ h hl=>hl.lentD h⟩
end
def DrD (g:Sgn):Prop:=∃ (z u hc fa fc fu:Bool) (w:Option Bool),(z=true∨(fa=false∧fc=false∧fu=false))∧g=sigD z u hc fa fc fu w
theorem ZrB {g:Sgn} (h:DrD g):DrOk g:=by
 obtain ⟨z,u,hc,fa,fc,fu,w,h,rfl⟩:=h;exact ZAx h
section
variable {x:Src}
def Zwr (r:List D):Prop:=∃ (g:Sgn) (l:List Bd) (t:Tm),DrD g∧ZhO g 61 l∧Zg2 t∧r=[.agg (Zaf g),.one (.sl (Zaz l)),.agg (Zab t)]
theorem ZlK (hx:x.Ok):ConE (eB x) 11 [ZhJ x] Zwr:=by
 have he:=hx.ok;refine gIE (ts:=[.cell 2 30,.slot 3,.cell 4 34]) 253 Tryz.func11 ?_;refine fN 1 @tmB ?_;refine gB ?_;have F:=@tmB;refine gCP [] [1000] (Zoz hx) ?_;clear F;rintro r pm ⟨b,h,rfl,rfl⟩;simp only [setA,retA,zipM,Taf,Tah];refine fR @tmB ?_;refine pCur 1000 (Int.le_refl 0) ?_;clear he;have he:=hx.okC (b:=b);refine fN 2 @tmC ?_;refine gB ?_;have F:=@tmC;refine gCP [] [1000] ((ZjH hx)) ?_;clear F
 rintro r pm ⟨z,u,hc,fa,fc,fu,w,a0,k0,hz,rfl,rfl⟩;simp only [setA,retA,zipM,Taf,Tah];refine fR @tmC ?_;obtain ⟨e1,e2,e3⟩:=ZoB z u hc fa fc fu w;rw [e1,e2,e3];have hDr:DrD (sigD z u hc fa fc fu w):=⟨z,u,hc,fa,fc,fu,w,hz,rfl⟩;clear e1 e2 e3;generalize sigD z u hc fa fc fu w=g at hDr ⊢;clear hz;refine pD 1000 [] [6] ?_;have hd:=ZrB hDr;have cD:=ZmC (b:=b) hx hd.ok hd.sg hd.h4 hd.hz (d:=3) (by decide) true
 have hE:Zaf g=[.sl (g.sorts.names.map ZbB),.sl (g.sorts.subs.map ZbO),.sl (g.ops.map ZaL)]:=by rw [Zaf]
 rw [hE] at cD;refine fN 3 @tmC ?_;refine gB ?_;have F:=@tmC;refine gCP [] [1001] (cD) ?_;clear F;rintro r pm ⟨u,hu,a,k,rfl,rfl⟩;simp only [setA,retA,zipM,Taf,Tah];refine fR (ai @ZeK @eCP) ?_;have cB:=ZoN (b:=b) hx hd hu a k;have cT:=Zwp (b:=b) hx hd hu a k;rw [hE] at cB cT;rw [ZeK] at cB cT;have ok00:ZhO g 61 ([]:List Bd)∧Zg2 zTm:=⟨⟨by decide,fun y hy=>(by cases hy)⟩,Zow,by rw [Zov];decide⟩;refine fN 4 @eCP ?_
 /- gk drs -/
 refine gGx (X:=List Bd × Tm) [(2,.ref 2 0),(4,.ref 4 0),(5,.d (curD b)),(6,.ref 6 0),(7,.ref 7 0)] [(6,.var none [.sl (g.sorts.names.map ZbB),.sl (g.sorts.subs.map ZbO),.sl (g.ops.map ZaL)]),(7,.var none [.lit (.int .i64 u.op),.lit (.string u.name),.lit (.int .i64 u.sort),.lit (.slice a (Zaa u.args).length k)])] (fun _ x=>ZhO g 61 x.1∧Zg2 x.2) (fun x=>[([(15,.d (.agg [.sl (g.sorts.names.map ZbB),.sl (g.sorts.subs.map ZbO),.sl (g.ops.map ZaL)]))],[]),([(16,.d (curD b))],[]),([(17,.d (.agg [.sl (g.sorts.names.map ZbB),.sl (g.sorts.subs.map ZbO),.sl (g.ops.map ZaL)]))],[]),([(18,.d (.agg [.lit (.int .i64 u.op),.lit (.string u.name),.lit (.int .i64 u.sort),.lit (.slice a (Zaa u.args).length k)]))],[]),([(19,.d (.one (.sl (Zaz x.1))))],[(1001,.buf (some (a,k)) 34 4 (Zaa u.args))]),([(20,.d (curD b))],[]),([(21,.d (.agg [.sl (g.sorts.names.map ZbB),.sl (g.sorts.subs.map ZbO),.sl (g.ops.map ZaL)]))],[]),([(22,.d (.agg [.lit (.int .i64 u.op),.lit (.string u.name),.lit (.int .i64 u.sort),.lit (.slice a (Zaa u.args).length k)]))],[]),([(19,.d (.one (.sl (Zaz x.1)))),(23,.d (.agg (Zab x.2)))],[]),([(19,.d (.one (.sl (Zaz x.1))))],[(2,.var none [.sl (g.sorts.names.map ZbB),.sl (g.sorts.subs.map ZbO),.sl (g.ops.map ZaL)])]),([(3,.d (.one (.sl (Zaz x.1))))],[]),([],[(4,.var none (Zab x.2))]),([],[(1001,.buf (some (a,k)) 34 4 (Zaa u.args))]),([],[(2,.var none [.sl [],.sl [],.sl []])]),([],[(4,.var none [.lit (.int .i64 0),.lit (.string ByteArray.empty),.lit (.int .i64 0),.sl []])])]) (fun j=>([(4,8),(12,4),(13,9),(14,11)]:List (Nat × Nat)).lookup j) [12,13,14] (⟨by simp [gs],by simp [gm]⟩) (fun j hj=>by simp only [Tbg,List.not_mem_nil,or_false] at hj;rcases hj with rfl | rfl | rfl <;> exact ⟨([],zTm),ok00,by simp [gs],by simp [gm]⟩) ⟨?_,?_,?_,?_,?_,?_,?_,?_,?_,?_,?_,?_,trivial⟩ ?_
 ·intro s' m' hB hD hI hJ;have F:=Zbj.1 hB;simp only [lkS,lkM,List.getD_cons_zero,List.getD_cons_succ,and_true,true_and] at F;have F:=aj5 F @Zbk @ZaS @Zbp eCP;refine gO3 ?_;exact xS hB (ZaC.2 ⟨([],zTm),ok00,by simp [lkS,lkM,gs,gm,ZaA]⟩)
 ·intro s' m' hB hD hI hJ;have F:=Zbj.1 hB;simp only [lkS,lkM,List.getD_cons_zero,List.getD_cons_succ,and_true,true_and] at F;have F:=aj5 F @Zbk @ZaS @Zbp eCP;refine gO3 ?_;exact xS hB (ZaC.2 ⟨([],zTm),ok00,by simp [lkS,lkM,gs,gm,ZaA]⟩)
 ·intro s' m' hB hD hI hJ;have F:=Zbj.1 hB;simp only [lkS,lkM,List.getD_cons_zero,List.getD_cons_succ,and_true,true_and] at F;have F:=aj5 F @Zbk @ZaS @Zbp eCP;refine gO3 ?_;exact xS hB (ZaC.2 ⟨([],zTm),ok00,by simp [lkS,lkM,gs,gm,ZaA]⟩)
 ·intro s' m' hB hD hI hJ;have F:=Zbj.1 hB;simp only [lkS,lkM,List.getD_cons_zero,List.getD_cons_succ,and_true,true_and] at F;have F:=aj5 F @Zbk @ZaS @Zbp eCP;refine gO3 ?_;exact xS hB (ZaC.2 ⟨([],zTm),ok00,by simp [lkS,lkM,gs,gm,ZaA]⟩)
 ·intro s' m' hB hD hI hJ;have F:=Zbj.1 hB;simp only [lkS,lkM,List.getD_cons_zero,List.getD_cons_succ,and_true,true_and] at F;obtain ⟨x1,o1,F1⟩:=ZaC.1 (hD 1 (by decide) (.inl rfl));obtain ⟨x2,o2,F2⟩:=ZaC.1 (hD 2 (by decide) (.inl rfl));obtain ⟨x3,o3,F3⟩:=ZaC.1 (hD 3 (by decide) (.inl rfl));obtain ⟨x12,o12,F12⟩:=ZaC.1 (hI 12 (by decide) (by decide));simp only [lkS,lkM,List.getD_cons_zero,List.getD_cons_succ,and_true,true_and] at F1
  have F:=ai F F1;simp only [lkS,lkM,List.getD_cons_zero,List.getD_cons_succ,and_true,true_and] at F2;have F:=ai F F2;simp only [lkS,lkM,List.getD_cons_zero,List.getD_cons_succ,and_true,true_and] at F3;have F:=ai F F3;simp only [lkS,lkM,List.getD_cons_zero,List.getD_cons_succ,and_true,true_and] at F12;have F:=ai F F12;have F:=aj5 F @Zbk @ZaS @Zbp eCP;refine gCP [1001] [1001] (cB) ?_ (hpm:=by rw [ZgQ,F12];rfl) (hpn:=rfl)
  rintro r pm ⟨l,hl,rfl,rfl⟩;simp only [setA,retA,zipM,Taf,Tah];refine Zc3 ?_;exact xLB hB (ZaC.2 ⟨(l,zTm),⟨hl,ok00.2⟩,by simp [lkS,lkM,gs,gm]⟩)
 ·intro s' m' hB hD hI hJ;have F:=Zbj.1 hB;simp only [lkS,lkM,List.getD_cons_zero,List.getD_cons_succ,and_true,true_and] at F;have F:=aj5 F @Zbk @ZaS @Zbp eCP;refine gO3 ?_;exact xS hB (ZaC.2 ⟨([],zTm),ok00,by simp [lkS,lkM,gs,gm,ZaA]⟩)
 ·intro s' m' hB hD hI hJ;have F:=Zbj.1 hB;simp only [lkS,lkM,List.getD_cons_zero,List.getD_cons_succ,and_true,true_and] at F;have F:=aj5 F @Zbk @ZaS @Zbp eCP;refine gO3 ?_;exact xS hB (ZaC.2 ⟨([],zTm),ok00,by simp [lkS,lkM,gs,gm,ZaA]⟩)
 ·intro s' m' hB hD hI hJ;have F:=Zbj.1 hB;simp only [lkS,lkM,List.getD_cons_zero,List.getD_cons_succ,and_true,true_and] at F;have F:=aj5 F @Zbk @ZaS @Zbp eCP;refine gO3 ?_;exact xS hB (ZaC.2 ⟨([],zTm),ok00,by simp [lkS,lkM,gs,gm,ZaA]⟩)
 ·intro s' m' hB hD hI hJ;have F:=Zbj.1 hB;simp only [lkS,lkM,List.getD_cons_zero,List.getD_cons_succ,and_true,true_and] at F;obtain ⟨x4,o4,F4⟩:=ZaC.1 (hD 4 (by decide) (.inr rfl));obtain ⟨x5,o5,F5⟩:=ZaC.1 (hD 5 (by decide) (.inl rfl));obtain ⟨x6,o6,F6⟩:=ZaC.1 (hD 6 (by decide) (.inl rfl));obtain ⟨x7,o7,F7⟩:=ZaC.1 (hD 7 (by decide) (.inl rfl));simp only [lkS,lkM,List.getD_cons_zero,List.getD_cons_succ,and_true,true_and] at F4
  have F:=ai F F4;simp only [lkS,lkM,List.getD_cons_zero,List.getD_cons_succ,and_true,true_and] at F5;have F:=ai F F5;simp only [lkS,lkM,List.getD_cons_zero,List.getD_cons_succ,and_true,true_and] at F6;have F:=ai F F6;simp only [lkS,lkM,List.getD_cons_zero,List.getD_cons_succ,and_true,true_and] at F7;have F:=ai F F7;have F:=aj5 F @Zbk @ZaS @Zbp eCP;refine gCP [1001] [] (cT) ?_ (hpm:=by rw [ZgQ,F4.2];rfl) (hpn:=rfl)
  rintro r pm ⟨t,ht,rfl,rfl⟩;simp only [setA,retA,zipM,Taf,Tah];refine Zc3 ?_;have k19:gs (Zak 1001 s') 19=.d (.one (.sl (Zaz x4.1))):=by rw [Zdv _ _ _ (by rw [F4.1];rfl)];exact F4.1
  exact xLD hB (ZaC.2 ⟨(x4.1,t),⟨o4.1,ht⟩,by simp [lkS,lkM,gs,gm,k19]⟩)
 ·intro s' m' hB hD hI hJ;have F:=Zbj.1 hB;simp only [lkS,lkM,List.getD_cons_zero,List.getD_cons_succ,and_true,true_and] at F;obtain ⟨x0,o0,F0⟩:=ZaC.1 (hD 0 (by decide) (.inl rfl));obtain ⟨x8,o8,F8⟩:=ZaC.1 (hD 8 (by decide) (.inl rfl));obtain ⟨x13,o13,F13⟩:=ZaC.1 (hI 13 (by decide) (by decide));simp only [lkS,lkM,List.getD_cons_zero,List.getD_cons_succ,and_true,true_and] at F0;have F:=ai F F0;simp only [lkS,lkM,List.getD_cons_zero,List.getD_cons_succ,and_true,true_and] at F8
  have F:=ai F F8;simp only [lkS,lkM,List.getD_cons_zero,List.getD_cons_succ,and_true,true_and] at F13;have F:=ai F F13;have F:=aj5 F @Zbk @ZaS @Zbp eCP;refine gO3 ?_;exact xM hB (ZaC.2 ⟨x8,o8,by simp [lkS,lkM,gs,gm,ZaA,F0,F8]⟩)
 ·intro s' m' hB hD hI hJ;have F:=Zbj.1 hB;simp only [lkS,lkM,List.getD_cons_zero,List.getD_cons_succ,and_true,true_and] at F;obtain ⟨x9,o9,F9⟩:=ZaC.1 (hD 9 (by decide) (.inl rfl));simp only [lkS,lkM,List.getD_cons_zero,List.getD_cons_succ,and_true,true_and] at F9;have F:=ai F F9;have F:=aj5 F @Zbk @ZaS @Zbp eCP;refine gO3 ?_;exact xS hB (ZaC.2 ⟨x9,o9,by simp [lkS,lkM,gs,gm,ZaA,F9]⟩)
 ·intro s' m' hB hD hI hJ;have F:=Zbj.1 hB;simp only [lkS,lkM,List.getD_cons_zero,List.getD_cons_succ,and_true,true_and] at F;obtain ⟨x8,o8,F8⟩:=ZaC.1 (hD 8 (by decide) (.inl rfl));obtain ⟨x14,o14,F14⟩:=ZaC.1 (hI 14 (by decide) (by decide));simp only [lkS,lkM,List.getD_cons_zero,List.getD_cons_succ,and_true,true_and] at F8;have F:=ai F F8;simp only [lkS,lkM,List.getD_cons_zero,List.getD_cons_succ,and_true,true_and] at F14
  have F:=ai F F14;have F:=aj5 F @Zbk @ZaS @Zbp eCP;refine gO3 ?_;exact xM hB (ZaC.2 ⟨x8,o8,by simp [lkS,lkM,gs,gm,ZaA,F8]⟩)
 intro s' m' hB hP;obtain ⟨x9,o9,P9⟩:=hP 9 (.inl (by decide)) (fun k h=>by simp [List.lookup] at h);obtain ⟨x10,o10,P10⟩:=hP 10 (.inl (by decide)) (fun k h=>by simp [List.lookup] at h);obtain ⟨x11,o11,P11⟩:=hP 11 (.inl (by decide)) (fun k h=>by simp [List.lookup] at h);refine ⟨_,_,((hB.app P9).app P10).app P11,?_⟩;simp only [Taf,Tah,List.append_nil,List.getD_cons_zero,List.getD_cons_succ]
 /- gk end drs -/
 refine ⟨_,Wk.refl _,?_⟩;exact (have F:=aj6 hE @eBP @Zbk @ZaS @Zbp eCP;gTE (R:=Zwr) [] ⟨g,x10.1,x11.2,hDr,o10.1,o11.2,rfl⟩)
end
section
variable {e:Env} {U:Nat->Prop} {base:Nat} {S0:Nat->Prop} {σ:St} {o:Oper} {K:St->Prop}
theorem Zws {t:TypeId} {x lo:Operand} {a:Option Addr} {n cap l sz:Nat} (ho:o.op=.slice t x (some lo) none none) (hx:evA σ.s x=.d (.one (.lit (.slice a n cap)))) (hlo:evA σ.s lo=.d (.one (.lit (.int .i64 (l:Int))))) (ht:Zbf e.P t=some sz) (hl:l<=n):ZaM e U base S0 σ.m o (evA σ.s) (.d (.one (.lit (.slice (if cap=l then a else a.map (·.add (l * sz))) (n - l) (cap - l))))):=by
 refine Zav fun w S L ρv hC hr=>?_;have hx':=hr x (by simp [ho,Op.operands]);have e1:=hr lo (by simp [ho,Op.operands]);rw [hx] at hx';rw [hlo] at e1;have hx':=ZaO hx';have e1:=ZaO e1;have hel:∃ ety i,e.P.underlying t=some (.slice ety)∧e.P.info? ety=some i∧i.size=sz:=by
  unfold Zbf at ht;split at ht
  ·rename_i ety hu;simp only [Tav] at ht;obtain ⟨i,hi,hs⟩:=ht;exact ⟨ety,i,hu,hi,hs⟩
  ·cases ht
 obtain ⟨el,i,hu,hi',hsz⟩:=hel;refine ⟨.slice (if cap=l then a else a.map (·.add (l * sz))) (n - l) (cap - l),?_,by simp [ARel,DRel,Rep]⟩;have hbnd:(Instr.sliceBounds true n cap (some (ρv lo)) none none).run e.P w=.ok (l,n,cap) w:=by
  have b1:(l:Int)<=(n:Int):=om;simp [Instr.sliceBounds,e1,Result.andThen,run_sliceBound,b1]
 simp only [execOp,ho,Sem.run_bind,hx',Instr.sliceAt,Instr.slice,underlying,run_program,Result.andThen_ok,hu,Sem.run_pure,Option.map_some,Option.map_none,hbnd,sizeOf,typeInfo,hi',hsz]
end
section
variable {e:Env} {K:St->Prop} {ds:List (Option Nat)} {os:List Oper} {d t ty q:Nat} {p:String} {ed:Array Edge} {x lo:Operand} {s:List (Nat × A)} {m:List (Nat × Bk)}
theorem gSl {a:Option Addr} {n cap l sz:Nat} (hl:l<=n) (hK:Runs e ds (q - 1) os ⟨(d,.d (.one (.lit (.slice (if cap=l then a else a.map (·.add (l * sz))) (n - l) (cap - l)))))::s,m⟩ K) (hx:evA s x=.d (.one (.lit (.slice a n cap))):=by exact sfx) (hlo:evA s lo=.d (.one (.lit (.int .i64 (l:Int)))):=by exact sfx)
  (ht:Zbf e.P t=some sz:=by simp only [pz,↓reduceIte,Nat.reduceEqDiff,Nat.reduceAdd,Nat.reduceSub,Nat.reduceMul,Nat.reduceLeDiff,Nat.reduceBEq,Tam,decide_true,decide_false,Int.reduceLE,Int.reduceToNat,Int.reduceLT,Int.reduceEq,eq_self,Nat.reduceShiftRight,Nat.reduceAnd,Nat.reduceBneDiff,F]):Runs e ds q (⟨some d,.slice t x (some lo) none none,ty,p,ed,none⟩::os) ⟨s,m⟩ K :=
 ZfF rfl rfl rfl (fun U base S0=>Zws (σ:=⟨s,m⟩) rfl hx hlo ht hl) hK
end
section
variable {x:Src}
def Zi5 (x:Src):Src:=if x.n=0 then x else ⟨x.E2,x.G2,if x.cap=1 then x.a else x.a.map (·.add (1 * 1)),x.n - 1,x.cap - 1⟩
theorem ZxH (h:x.Ok) (hc:x.n<=x.cap):(Zi5 x).Ok:=by
 unfold Zi5;split
 ·exact h
 ·next h0 =>
  refine ⟨h.fit,fun hn=>?_,by have:=h.len;show x.n - 1<=_;omega⟩;have hn:0 < x.n - 1:=hn;obtain ⟨g,off,f,ha,hf,hb⟩:=h.byt om;refine ⟨g,off+1,fun j=>f (j+1),?_,fun j=>hf _,fun w hw j hj=>?_⟩
  ·show (if x.cap=1 then x.a else x.a.map (·.add (1 * 1)))=_;rw [if_neg om,ha];simp [Addr.add_lit]
  ·have hj:j < x.n - 1:=hj;have:=hb w hw (j+1) om;rw [<- this];congr 2;omega
theorem Zz7 (he:(eB x).Ok):Con (eB x) 4 [ZhJ x] [.one (.lit (.bool (decide (x.n > 1048576))))]:=by
 have hd:decide ((x.n:Int) > 1048576)=decide (x.n > 1048576):=by rw [decide_eq_decide];omega
 rw [<- hd];refine gI (ts:=[.slot 2]) 5 Tryz.func4 ?_;refine fG @tmB ?_;exact fD @tmB
theorem ZxI (hx:x.Ok):Con (eB x) 6 [ZhJ x] [ZhJ (Zi5 x)]:=by
 have he:=hx.ok;unfold Zi5;by_cases h0:x.n=0
 ·rw [if_pos h0];have q1:((x.n:Int)=0)=True:=eq_true om;refine gI (ts:=[.slot 2]) 37 Tryz.func6 ?_;refine fG (ai @q1 @tmB) ?_;exact fD (ai @q1 @tmB)
 ·rw [if_neg h0];have q1:((x.n:Int)=0)=False:=eq_false om;refine gI (ts:=[.slot 2]) 37 Tryz.func6 ?_;refine fN 3 (ai @q1 @tmB) ?_;refine gB ?_;have F:=@tmB;refine gP 1 ?_;clear F;have F:=tmB;refine gSl (a:=x.a) (n:=x.n) (cap:=x.cap) (l:=1) (sz:=1) om ?_;clear F;refine fR @tmB ?_;exact fD @tmB
end
theorem ZpG (ts:List Tm) (k:Nat) (hk:k < ts.length) (hl:ts.length<=4000000) (a:Option Addr) (cap:Nat):ConP e0 109 [.one (.lit (.slice a ts.length cap)),.one (.lit (.int .i64 (k:Int))),.one (.lit (.int .i64 ((k+1:Nat):Int)))] [.buf (some (a,cap)) 34 4 (Zaa ts)] (RCut a cap 34 4 (Zaa (ts.take k++ts.drop (k+1)))):=by
 have nl:=Zaj ts;have q1:((k:Int)=((k+1:Nat):Int))=False:=eq_false om;refine gIP (ts:=[.slot 6]) [1000] 65735 Tryz.func109 ?_;refine fN 1 @tmz ?_;refine gB ?_;have F:=@tmz;refine gP 5 ?_;clear F;have F:=Zaj;refine ZAR (rows:=Zaa ts) 1000 k (k+1) ts.length ⟨om,om,om⟩ ?_;clear F;refine fR @tmz ?_;refine fN 5 (ai @q1 @tmz) ?_;refine gB ?_;have F:=@tmz;refine gP 2 ?_;clear F;have F:=Zaj;refine Zzc (rows:=Zaa ts) 1000 0 k ⟨om,om⟩ ?_
 clear F;rw [Zjx];have F:=@tmz;refine gP 2 ?_;clear F;have F:=Zaj;refine Zzc (rows:=Zaa ts) 1000 (k+1) ts.length ⟨om,om⟩ ?_;clear F;rw [<- nl];refine gAin (rows:=Zaa ts) 1000 ⟨Tan k,om⟩ ?_;obtain ⟨m,hm⟩:∃ m,m=k+((Zaa ts).length - (k+1)):=⟨_,rfl⟩;rw [<- hm];have hm1:m+1=ts.length:=om;have hRl:((Zaa ts).take k++(Zaa ts).drop (k+1)++(Zaa ts).drop m).length=ts.length:=by simp;omega
 have hRt:((Zaa ts).take k++(Zaa ts).drop (k+1)++(Zaa ts).drop m).take m=Zaa (ts.take k++ts.drop (k+1)):=by
  rw [List.take_append_of_le_length (by simp;omega),List.take_of_length_le (by simp;omega)];simp only [ZbW,Tbv,List.map_take,List.map_drop]
 generalize (Zaa ts).take k++(Zaa ts).drop (k+1)++(Zaa ts).drop m=R at hRl hRt ⊢;clear hm;refine fR @tmz ?_;refine fN 6 @tmz ?_;refine gB ?_;have hne:(m=R.length)=False:=eq_false om;have F:=ai @hne @tmz;refine gP 4 ?_;clear F;have F:=ai hRl hne;refine ZAS (rows:=R) 1000 m ts.length ⟨om,om⟩ ?_;rw [<- hRl];refine ZAn (l:=m) (rows:=R) 1000 om ?_;clear F;have hSl:(R.take m++List.replicate (R.length - m) [C.lit (Value.int IntKind.i64 0),C.lit (Value.string ByteArray.empty),C.lit (Value.int IntKind.i64 0),C.sl []]).length=ts.length:=by simp;omega
 have hSt:(R.take m++List.replicate (R.length - m) [C.lit (Value.int IntKind.i64 0),C.lit (Value.string ByteArray.empty),C.lit (Value.int IntKind.i64 0),C.sl []]).take m=Zaa (ts.take k++ts.drop (k+1)):=by
  rw [List.take_append_of_le_length (by simp;omega),List.take_take,Nat.min_self,hRt]
 generalize R.take m++List.replicate (R.length - m) [C.lit (Value.int IntKind.i64 0),C.lit (Value.string ByteArray.empty),C.lit (Value.int IntKind.i64 0),C.sl []]=Z at hSl hSt ⊢;have hne2:(m=Z.length)=False:=eq_false om;refine fR @tmz ?_;refine fG (ai @hne2 @tmz) ?_;refine pE [1000] [1000] (ZvG (rows:=Z) m om) ?_;rw [hSt];have hk2:m=(Zaa (ts.take k++ts.drop (k+1))).length:=by rw [Zaj];simp;omega
 exact (have F:=Zaj;gTP (R:=RCut a cap 34 4 (Zaa (ts.take k++ts.drop (k+1)))) [1000] ⟨by rw [<- hk2],rfl⟩)
theorem ZAB {g:Sgn} {mc:C} {rank:List Int} {b:Nat}:Zww g mc rank b:=by
 intro Z xs ys hx hy hG;have hOk:=Zlg (g:=g) (rank:=rank) (Z:=Z) (b:=b);have cC:=(ZsA ys om).k (g:=g) (rank:=rank) (Z:=Z) (b:=b);have c2:=fun x (h1:x∈xs) y (h2:y∈ys)=>ZxL (hG x h1 y h2);have rr:ZaE 1 (rank.map Zaw)=true:=ZgR _;rw [Zg4] at *;refine gI (ts:=[.slot 6]) 72430396577487 Tryz.func89 ?_;refine fN 2 @tmK ?_;refine gB ?_;have F:=@tmK;refine gCP [] [1001] (cC) ?_;clear F;rintro r pm ⟨a,cap,rfl,rfl⟩
 simp only [setA,retA,zipM,Taf,Tah];refine fR @tmK ?_;refine fG @tmK ?_;have F:=ai @Zct @tmK;refine gL (ι:=Nat × List Tm × List Tm) [2,7,9,10,18,19,26] [7,1001] (fun x=>[(18,A.d (.one (.lit (.int .i64 x.1)))),(7,.buf 7),(2,.d (.one (.lit (.slice a x.2.2.length cap))))]) (fun x=>[(7,.buf none 34 4 (Zaa x.2.1)),(1001,.buf (some (a,cap)) 34 4 (Zaa x.2.2))]) (fun x=>LeftOk xs ys x.1 x.2.1 x.2.2) (fun x=>xs.length - x.1) ((0,[],ys)) (LeftOk.start) (fun x hx=>?_);clear F
 obtain ⟨i,R,B⟩:=x;simp only at hx;dsimp only;have nr:=Zaj R;have nb:=Zaj B;have hRl:=hx.rl;have hBl:=hx.bl;have hil':=hx.le;by_cases hil:i < xs.length;rotate_left
 ·obtain rfl:i=xs.length:=by omega
  have q3:=lF xs.length xs.length;have hbag:=ZhG.trans (hx.done (rk:=rkF rank) (cm:=cmF g));have hX:=hx;refine fN 11 (ai @q3 @tmK) ?_;refine Zcm (Zdh [3,7] (by simp only [pz,↓reduceIte,Nat.reduceEqDiff,Nat.reduceAdd,Nat.reduceSub,Nat.reduceMul,Nat.reduceLeDiff,Nat.reduceBEq,Tam,decide_true,decide_false,Int.reduceLE,Int.reduceToNat,Int.reduceLT,Int.reduceEq,eq_self,Nat.reduceShiftRight,Nat.reduceAnd,Nat.reduceBneDiff,tmK];exact rfl)) fun σ' hσ=>?_
  subst hσ;refine pD 1001 [2] [] ?_;refine fG @tmK ?_;have F:=@tmK;refine gL (ι:=Nat) [6,12,39,40,46] [] (fun j=>[(39,A.d (.one (.lit (.int .i64 j))))]) (fun j=>[]) (fun j=>j<=B.length∧∀ (q:Nat) u,q < j->B[q]?=some u->R.any (fun t=>grB g rank t u)=true) (fun j=>B.length - j) (0) (⟨Taj _,fun q u h=>absurd h om⟩) (fun j hj=>?_);clear F;obtain ⟨hj,hall⟩:=hj;by_cases hjl:j < B.length;rotate_left
  ·obtain rfl:j=B.length:=by omega
   have q7:=lF B.length B.length;have e:bagB g rank xs ys=decide ((R.length:Int) > 0):=by
    rw [Bool.eq_iff_iff,hbag,decide_eq_true_iff];refine ⟨fun h=>by have:=h.2;omega,fun h=>⟨fun u hu=>?_,om⟩⟩;obtain ⟨q,hq⟩:=Tbk hu;obtain ⟨t,h1,h2⟩:=List.any_eq_true.1 (hall q u (Tad.1 hq).1 hq);exact ⟨t,h1,ZbY.1 h2⟩
   rw [e];exact fD (ai @q7 @tmK)
  have q7:=lT j B.length;have hwj:=Zao (k:=j) om;obtain ⟨u,hu⟩:∃ u,B[j]?=some u:=⟨_,Taa hjl⟩;have hum:=Tac hu;have cK:=ZmW (ts:=R) (caps:=[.ptr [.ptr (encX g mc),.sl (rank.map Zaw),.lit (.map (some b))],.ptr (Zab u)]) (P:=fun t=>grB g rank t u) (by unfold big;omega) (fun t ht=>c2 t (hX.rm t ht) u (hX.bm u hum));refine fN 14 (aj5 @q7 @hu @hjl @Zax @tmK) ?_;refine gB ?_;refine fC @tmK (cK) ?_
  cases hh:R.any (fun t=>grB g rank t u) with
  | false =>
   have e:bagB g rank xs ys=false:=by
    cases hb:bagB g rank xs ys with
    | false=>rfl
    | true =>
     obtain ⟨t,h1,h2⟩:=(hbag.1 hb).1 u hum;have:=List.any_eq_false.1 hh t h1;exact absurd (ZbY.2 h2) this
   rw [e];refine fR @tmK ?_;exact fD @tmK
  | true =>
   have hq:j+1<=B.length∧∀ (q:Nat) u,q < j+1->B[q]?=some u->R.any (fun t=>grB g rank t u)=true:=⟨hjl,fun q u' hq hu'=>by
    by_cases e:q=j
    ·subst e;rw [hu] at hu';injection hu' with hu';subst hu';exact hh
    ·exact hall q u' om hu'⟩
   refine fR @tmK ?_;have F:=ai @hwj @tmK;refine gG ?_;exact ⟨j+1,hq,gw,gw,om⟩
 have q3:=lT i xs.length;have hwi:=Zao (k:=i) om;obtain ⟨t,ht⟩:∃ t,xs[i]?=some t:=⟨_,Taa hil⟩;obtain ⟨r,hr,cI⟩:=ZpJ (ts:=B) (f:=108) (caps:=[.ptr (Zab t)]) (P:=fun u=>decide (Zah t u=0)) (by unfold big;omega) (fun u _=>ZxJ t u);have cI2:ConP (eK g rank Z b) 107 [.one (.lit (.slice a B.length cap)),.one (.fn 108 [.ptr (Zab t)])] [.buf (some (a,cap)) 34 4 (Zaa B)] (fun r' q=>r'=[.one (.lit (.int .i64 r))]∧q=[.buf (some (a,cap)) 34 4 (Zaa B)]):=by
  have:=Zwv (ty:=34) (sz:=4) (a:=a) (cap:=cap) (cI.k (g:=g) (rank:=rank) (Z:=Z) (b:=b)) rfl;rw [Zaj] at this;exact this
 refine fN 6 (aj5 @q3 @ht @hil @Zax @tmK) ?_;refine gB ?_;have F:=@tmK;refine gCP [1001] [1001] (cI2) ?_;clear F;rintro r' pm ⟨rfl,rfl⟩;simp only [setA,retA,zipM,Taf,Tah];refine fR @tmK ?_;rcases hr with ⟨k,u,rfl,hk,hp,_⟩ | ⟨rfl,hn⟩
 ·have hkl:=(Tad.1 hk).1;obtain rfl:t=u:=ZbD.1 (of_decide_eq_true hp);have q5:((k:Int) ≥ 0)=True:=eq_true om;have w1:=Zao (k:=k) om;have cD:=(ZpG B k hkl om a cap).k (g:=g) (rank:=rank) (Z:=Z) (b:=b);refine fN 8 (ai @q5 @tmK) ?_;refine gB ?_;have F:=ai @w1 @tmK;refine gCP [1001] [1001] (cD) ?_;clear F;rintro r' pm ⟨rfl,rfl⟩;simp only [setA,retA,zipM,Taf,Tah];refine fR @tmK ?_;have F:=ai @hwi @tmK;refine gG ?_;exact ⟨(i+1,R,B.take k++B.drop (k+1)),hx.cut ht hk,gw,gw,om⟩
 ·have q5:((-1:Int) ≥ 0)=False:=eq_false om;have hmx:(R.length+1<=maxApp)=True:=eq_true (by unfold maxApp;omega);have ns:Zaa R++[Zab t]=Zaa (R++[t]):=by simp [ZbW]
  have rb:ZaE 4 (Zaa R)=true:=ZbN _;have hnot:t ∉ B:=fun hm=>by
   have:=List.any_eq_false.1 hn t hm;exact this (decide_eq_true (ZbD.2 rfl))
  have F:=aj7 @q5 @hwi @nr @ns @hmx @rb @tmK;refine gG ?_;exact ⟨(i+1,R++[t],B),hx.add ht hnot,gw,gw,om⟩
end Go.Proofs.YteiljfkknokfjaaGreatDoor
namespace Go.Proofs.YteiljfkknokfjaaGreatDoor
open Go.RowKit Go.MapKept Go.ChangeMaps
section
variable {g:Sgn} {rank:List Int}
def ZsB (g:Sgn) (mc:C) (rank:List Int) (r:List D) (pm:List Bk):Prop:=∃ b:Nat,r=[.agg (Zgu g mc rank b)]∧pm=[mapB b []]
theorem ZoP {mc:C}:ConP e0 22 [.one (.ptr (encX g mc)),.one (.sl (rank.map Zaw))] [] (ZsB g mc rank):=by
 refine gIP (ts:=[.cell 4 59]) [] 19 Tryz.func22 ?_;refine fN 1 @tmz ?_;refine gB ?_;have F:=@tmz;refine gP 2 ?_;clear F;refine gMk fun b=>?_;have hR:ZsB g mc rank [.agg [.ptr (encX g mc),.sl (rank.map Zaw),.lit (.map (some b))]] [mapB b []]:=⟨b,rfl,rfl⟩;refine fR @tmz ?_;exact (have F:=tmz;gTP (R:=ZsB g mc rank) [7] hR (hp:=rfl))
end
section
variable {L:List Oper} {cons:Nat->Option Nat} {X:Type} {ok:Nat->X->Prop} {T:X->Tab} {i:Nat} {sb:List (Nat × A)} {mb:List (Nat × Bk)} {s:List (Nat × A)} {m:List (Nat × Bk)} {d:Nat} {α:A} {bk:Bk}
theorem Lks.bornCC {κ:Nat} (h:Lks sb mb ⟨s,m⟩) (hf:ZdC d κ sb mb=true):Lks sb mb ⟨(d,α)::Zak κ (Zak κ s),(κ,bk)::remM κ (remM κ m)⟩:=by
 have hf2:=hf;simp only [ZdC,Tar,List.all_eq_true,bne_iff_ne,ne_eq,Bool.not_eq_true'] at hf2;refine Lks.bornC (Lks.mrem (Lks.kill h ?_) ?_) hf
 ·simp only [List.all_eq_true,Bool.not_eq_true'];exact fun p hp=>(hf2.1 p hp).2
 ·simp only [List.all_eq_true,bne_iff_ne,ne_eq];exact hf2.2
theorem xPP {κ:Nat} (hB:Lks sb mb ⟨s,m⟩) (hp:tabX ok T i ⟨(d,α)::Zak κ (Zak κ s),(κ,bk)::remM κ (remM κ m)⟩) (h1:ZdC d κ sb mb=true:=by rfl) (h2:∀ x,Ze6 L cons (T x) i (ZdC d κ)=true:=by intro x;rfl):DidX L cons ok T i sb mb s m ⟨(d,α)::Zak κ (Zak κ s),(κ,bk)::remM κ (remM κ m)⟩:=⟨hB.bornCC h1,hp,ZeU h2 fun _ _ h hl=>hl.bornCC h⟩
end
theorem ZoQ {g:Sgn} {rank:List Int} {a b:Tm} (hok:ZbL g) (hgl:Zal (Zaf g)<=1048576) (hoa:okTm a) (hba:Zal (Zab a)<=1048576) (hob:okTm b) (hbb:Zal (Zab b)<=1048576):Con e0 7 [.agg (Zaf g),.one (.sl (rank.map Zaw)),.agg (Zab a),.agg (Zab b)] [.one (.lit (.bool (Za2 g rank a b)))]:=by
 have hl:g.ops.length<=1048576:=by
  simp only [Zaf,Zal,Zdl,Tay] at hgl;omega
 have rl:(rank.map Zaw).length=rank.length:=Tay _;have ol:(g.ops.map ZaL).length=g.ops.length:=Tay _;have cF:=Zoo hok hl;by_cases hg:SgnOk g;rotate_left
 ·have e:Za2 g rank a b=false:=by simp [Za2,Zce,Ze0 hg]
  have c:=Zlx hok hg;rw [e];rw [Zaf] at c cF ⊢;refine gI (ts:=[.slot 8]) 4398046513119 Tryz.func7 ?_;refine fN 1 @tmz ?_;refine gB ?_;refine fC @tmz (c) ?_;refine fR @tmz ?_;exact fD @tmz
 have hs:=ZdT hg;have c:=Zpi hok hg;rw [Zaf] at c cF ⊢;refine gI (ts:=[.slot 8]) 4398046513119 Tryz.func7 ?_;refine fN 1 @tmz ?_;refine gB ?_;have F:=@tmz;refine gCE (c) ?_;clear F;rintro r ⟨b0,rfl⟩;have cA:=Zjl (mc:=.lit (.map (some b0))) hg hoa (Zc7 hba);have cB:=Zjl (mc:=.lit (.map (some b0))) hg hob (Zc7 hbb);generalize C.lit (.map (some b0))=mc at cA cB ⊢;refine fR (ai @ZAe @ZiP) ?_;refine fN 2 @tmz ?_
 refine gB ?_;refine fC @tmz (cF) ?_
 cases h1:Zce g with
 | false =>
  have e:Za2 g rank a b=false:=by simp [Za2,h1]
  rw [e];refine fR @tmz ?_;exact fD @tmz
 | true =>
 obtain ⟨_,hfr⟩:=Zk5 h1;by_cases h2:rank.length=g.ops.length;rotate_left
 ·have q2:((rank.length:Int)=(g.ops.length:Int))=False:=eq_false om;have e:Za2 g rank a b=false:=by simp [Za2,h2]
  rw [e];refine fR (aj4 @rl @ol @q2 @tmz) ?_;exact fD @tmz
 have q2:((rank.length:Int)=(g.ops.length:Int))=True:=eq_true om;refine fC (aj4 @rl @ol @q2 @tmz) (cA) ?_
 cases h3:Zbg g a with
 | false =>
  have e:Za2 g rank a b=false:=by simp [Za2,h3]
  rw [e];refine fR @tmz ?_;exact fD @tmz
 | true =>
 refine fC @tmz (cB) ?_
 cases h4:Zbg g b with
 | false =>
  have e:Za2 g rank a b=false:=by simp [Za2,h4]
  rw [e];refine fR @tmz ?_;exact fD @tmz
 | true =>
 have e:Za2 g rank a b=grB g rank a b:=by simp [Za2,h1,h2,h3,h4]
 rw [e];have hT1:=Zcq.1 h3;have hT2:=Zcq.1 h4;have cN:=ZoP (g:=g) (rank:=rank) (mc:=mc);have cG:=fun bm:Nat=>ZjJ (M:=[]) (Zlh (b:=bm) (mc:=mc) hg hfr h2 ZAB _ a b (Tan _) hT1 hT2 (fun _ _=>False) fun _ _ h=>h.elim) ⟨KeyM.nil,AbsM.nil⟩;refine fR @tmz ?_;refine fN 4 @tmz ?_
 /- gk pathgr -/
 refine gGx (X:=Nat) [(9,.d (.one (.ptr (encX g mc)))),(1,.d (.one (.sl (rank.map Zaw)))),(6,.ref 6 0),(7,.ref 7 0)] [(6,.var none (Zab a)),(7,.var none (Zab b))] (fun _ _=>True) (fun x=>[([(43,.d (.one (.ptr (encX g mc))))],[]),([(44,.d (.one (.sl (rank.map Zaw))))],[]),([(45,.d (.agg (Zgu g mc rank x)))],[(1002,mapB x [])]),([(46,.d (.agg (Zab a)))],[]),([(47,.d (.agg (Zab b)))],[]),([(48,.d (.one (.lit (.bool (grB g rank a b)))))],[]),([(8,.d (.one (.lit (.bool (grB g rank a b)))))],[])]) (fun j=>([(2,5)]:List (Nat × Nat)).lookup j) [] (⟨by simp [gs],by simp [gm]⟩) (fun j hj=>by simp at hj) ⟨?_,?_,?_,?_,?_,?_,?_,trivial⟩ ?_
 ·intro s' m' hB hD hI hJ;have F:=Zbj.1 hB;simp only [lkS,lkM,List.getD_cons_zero,List.getD_cons_succ,and_true,true_and] at F;have F:=ai F (tmz);refine gO3 ?_;exact xS hB (ZaC.2 ⟨0,trivial,by simp [lkS,lkM,gs,gm,ZaA]⟩)
 ·intro s' m' hB hD hI hJ;have F:=Zbj.1 hB;simp only [lkS,lkM,List.getD_cons_zero,List.getD_cons_succ,and_true,true_and] at F;have F:=ai F (tmz);refine gO3 ?_;exact xS hB (ZaC.2 ⟨0,trivial,by simp [lkS,lkM,gs,gm,ZaA]⟩)
 ·intro s' m' hB hD hI hJ;have F:=Zbj.1 hB;simp only [lkS,lkM,List.getD_cons_zero,List.getD_cons_succ,and_true,true_and] at F;obtain ⟨x0,o0,F0⟩:=ZaC.1 (hD 0 (by decide) (.inl rfl));obtain ⟨x1,o1,F1⟩:=ZaC.1 (hD 1 (by decide) (.inl rfl));simp only [lkS,lkM,List.getD_cons_zero,List.getD_cons_succ,and_true,true_and] at F0;have F:=ai F F0;simp only [lkS,lkM,List.getD_cons_zero,List.getD_cons_succ,and_true,true_and] at F1
  have F:=ai F F1;have F:=ai F (tmz);refine gCP [] [1002] (cN) ?_;rintro r pm ⟨bm,rfl,rfl⟩;simp only [setA,retA,zipM,Taf,Tah];refine Zc3 ?_;exact xP hB (ZaC.2 ⟨bm,trivial,by simp [lkS,lkM,gs,gm]⟩)
 ·intro s' m' hB hD hI hJ;have F:=Zbj.1 hB;simp only [lkS,lkM,List.getD_cons_zero,List.getD_cons_succ,and_true,true_and] at F;have F:=ai F (tmz);refine gO3 ?_;exact xS hB (ZaC.2 ⟨0,trivial,by simp [lkS,lkM,gs,gm,ZaA]⟩)
 ·intro s' m' hB hD hI hJ;have F:=Zbj.1 hB;simp only [lkS,lkM,List.getD_cons_zero,List.getD_cons_succ,and_true,true_and] at F;have F:=ai F (tmz);refine gO3 ?_;exact xS hB (ZaC.2 ⟨0,trivial,by simp [lkS,lkM,gs,gm,ZaA]⟩)
 ·intro s' m' hB hD hI hJ;have F:=Zbj.1 hB;simp only [lkS,lkM,List.getD_cons_zero,List.getD_cons_succ,and_true,true_and] at F;obtain ⟨x2,o2,F2⟩:=ZaC.1 (hD 2 (by decide) (.inr rfl));obtain ⟨x3,o3,F3⟩:=ZaC.1 (hD 3 (by decide) (.inl rfl));obtain ⟨x4,o4,F4⟩:=ZaC.1 (hD 4 (by decide) (.inl rfl));simp only [lkS,lkM,List.getD_cons_zero,List.getD_cons_succ,and_true,true_and] at F2;have F:=ai F F2;simp only [lkS,lkM,List.getD_cons_zero,List.getD_cons_succ,and_true,true_and] at F3
  have F:=ai F F3;simp only [lkS,lkM,List.getD_cons_zero,List.getD_cons_succ,and_true,true_and] at F4;have F:=ai F F4;have F:=ai F (tmz);refine gCP [1002] [1002] (cG x2) ?_ (hpm:=by rw [ZgQ,F2.2];rfl) (hpn:=rfl);rintro r pm ⟨rfl,M,_,rfl⟩;simp only [setA,retA,zipM,Taf,Tah];refine Zc3 ?_;exact xPP hB (ZaC.2 ⟨0,trivial,by simp [lkS,lkM,gs,gm]⟩)
 ·intro s' m' hB hD hI hJ;have F:=Zbj.1 hB;simp only [lkS,lkM,List.getD_cons_zero,List.getD_cons_succ,and_true,true_and] at F;obtain ⟨x5,o5,F5⟩:=ZaC.1 (hD 5 (by decide) (.inl rfl));simp only [lkS,lkM,List.getD_cons_zero,List.getD_cons_succ,and_true,true_and] at F5;have F:=ai F F5;have F:=ai F (tmz);refine gO3 ?_;exact xS hB (ZaC.2 ⟨0,trivial,by simp [lkS,lkM,gs,gm,ZaA,F5]⟩)
 intro s' m' hB hP;obtain ⟨x6,o6,P6⟩:=hP 6 (.inl (by decide)) (fun k h=>by simp [List.lookup] at h);refine ⟨_,_,hB.app P6,?_⟩;simp only [Taf,Tah,List.append_nil,List.getD_cons_zero,List.getD_cons_succ]
 /- gk end pathgr -/
 (refine wkI ?_;(exact fD @tmz))
end Go.Proofs.YteiljfkknokfjaaGreatDoor
namespace Go.Proofs.YteiljfkknokfjaaGreatDoor
open Go.RowKit
theorem ZiF:∀ (a b:List C),Zal (a++b)=Zal a+Zal b
 | [],b=>by simp [Zal]
 | x::a,b=>by simp only [Taf,Zal,ZiF a b];omega
theorem Zd1 {g:Sgn} {t:Tm} (hg:SgnOk g) (h:TermOk g t):okTm t∧Zal (Zab t)<=1048576∧sizeTm t<=60:=by
 have h1:=Zes h.form;have h2:=h.size;exact ⟨h.ok hg,om,h2⟩
theorem Zz9 {x:Src}:eB (Zi5 x)=eB x:=by unfold Zi5 eB;split <;> rfl
section
variable {x:Src}
theorem ZAa (hx0:x.n<=1048576->x.Ok) (he:(eB x).Ok) (hc:x.n<=x.cap):Con (eB x) 3 [ZhJ x] [.one (.lit (.bool true))]:=by
 have cBig:=Zz7 he;refine gI (ts:=[.slot 2]) 1329227998338167240823392024681994877 Tryz.func3 ?_;refine fN 1 @tmB ?_;refine gB ?_;refine fC @tmB (cBig) ?_;by_cases hn:x.n > 1048576
 ·have q1:decide (x.n > 1048576)=true:=decide_eq_true hn;refine fR (ai @q1 @tmB) ?_;exact fD @tmB
 have q1:decide (x.n > 1048576)=false:=decide_eq_false hn;refine fR (ai @q1 @tmB) ?_;have hx:=hx0 om;have hx2:=ZxH hx hc;clear q1 cBig hx0;have cT:=ZxI hx;refine fN 3 @tmB ?_;refine gB ?_;have F:=@tmB;refine gCE (ZhW hx) ?_;clear F;rintro r ⟨g,rank,s,t,hg,hr,hs,ht,rfl⟩;have hd:=ZoJ hg;have hE:Zaf g=[.sl (g.sorts.names.map ZbB),.sl (g.sorts.subs.map ZbO),.sl (g.ops.map ZaL)]:=by rw [Zaf]
 refine fR (ai @hE @tmB) ?_;have cD2:=ZhW hx2;rw [Zz9] at cD2;refine fN 4 @tmB ?_;refine gB ?_;refine fC @tmB (cT) ?_;have F:=@tmB;refine gCE (cD2) ?_;clear F;rintro r ⟨g2,rank2,u,t2,hg2,hr2,hu,ht2,rfl⟩;have hE2:Zaf g2=[.sl (g2.sorts.names.map ZbB),.sl (g2.sorts.subs.map ZbO),.sl (g2.ops.map ZaL)]:=by rw [Zaf]
 refine fR (ai @hE2 @tmB) ?_;clear cD2 cT;have fs:=Zd1 hd.sg hs;have ft:=Zd1 hd.sg ht;have fu:=Zd1 (ZoJ hg2).sg hu;have cI:∀ {a b:Tm},okTm a->Zal (Zab a)<=1048576->okTm b->Zal (Zab b)<=1048576->Con (eB x) 7 [.agg (Zaf g),.one (.sl (rank.map Zaw)),.agg (Zab a),.agg (Zab b)] [.one (.lit (.bool (Za2 g rank a b)))]:=fun h1 h2 h3 h4=>(ZoQ hd.ok hd.hb h1 h2 h3 h4).bt hx;have cS:∀ {a b:Tm},okTm a->Zal (Zab a)<=1048576->okTm b->Zal (Zab b)<=1048576->Con (eB x) 8 [.agg (Zaf g),.one (.sl (rank.map Zaw)),.agg (Zab a),.agg (Zab b)] [.one (.lit (.bool (Za2 g rank a b)))]:=fun h1 h2 h3 h4=>(Zor hd.ok hd.hb h1 h2 h3 h4).bt hx
 have cT:∀ {a:Tm},okTm a->sizeTm a<=60->Con (eB x) 9 [.agg (Zaf g),.agg (Zab a)] [.one (.lit (.bool (Zbg g a)))]:=fun h1 h2=>by
  have h:=(ZcG hd.ok h1 (Tbe h2 (by decide))).bt hx
  rwa [ZdT hd.sg,Bool.true_and] at h
 have cF:Con (eB x) 10 [.agg (Zaf g)] [.one (.lit (.bool (Zce g)))]:=(Ziy hd.ok (Tbe hd.sg.len (by decide))).bt hx;have cA:∀ {l:List Bd} {a:Tm},Zhp l->l.length+Zar (Zaz l)<=1048576->okTm a->Zal (Zab a)<=1048576->Con (eB x) 12 [.agg (Zaf g),.one (.sl (Zaz l)),.agg (Zab a)] [.agg (Zab ((aS g l a).getD zTm)),.one (.lit (.bool (aS g l a).isSome))]:=fun h1 h2 h3 h4=>(ZmU hd.ok h1 h2 h3 h4).bt hx;rw [hE] at cI cS cT cF cA
 clear hE hE2;refine fN 5 @tmB ?_;refine gB ?_;refine fC @tmB (cI fs.1 fs.2.1 ft.1 ft.2.1) ?_;refine fR @tmB ?_;refine fN 6 @tmB ?_;have qi:Za2 g rank s s=false:=Zxx;refine gM (ι:=Unit) [65] [] (fun q=>[(65,A.d (.one (.lit (.bool false))))]) (fun q=>[]) (fun q=>True) ?_ (fun q hq=>Exists.intro _ (ai (Wk.refl _) ?_))
 ·refine gB ?_;refine fC @tmB (cS fs.1 fs.2.1 ft.1 ft.2.1) ?_
  cases hgt:Za2 g rank s t with
  | false =>
   refine fC @tmB (cI fs.1 fs.2.1 fs.1 fs.2.1) ?_;refine fR (ai @qi @tmB) ?_;have F:=@tmB;refine gG ?_;exact ⟨(),trivial,gw,gw⟩
  | true =>
   have qa:=Zv2 hgt;refine fC @tmB (cI fs.1 fs.2.1 fs.1 fs.2.1) ?_;refine fC (ai @qi @tmB) (cI ft.1 ft.2.1 fs.1 fs.2.1) ?_;refine fR (aj3 @qi @qa @tmB) ?_;have F:=@tmB;refine gG ?_;exact ⟨(),trivial,gw,gw⟩
 clear q qi;refine fN 8 @tmB ?_;refine gM (ι:=Unit) [86] [] (fun q=>[(86,A.d (.one (.lit (.bool false))))]) (fun q=>[]) (fun q=>True) ?_ (fun q hq=>Exists.intro _ (ai (Wk.refl _) ?_))
 ·refine gB ?_
  cases hgt:Za2 g rank s t with
  | false =>
   refine fR @tmB ?_;have F:=@tmB;refine gG ?_;exact ⟨(),trivial,gw,gw⟩
  | true =>
   refine fC @tmB (cT fu.1 fu.2.2) ?_
   cases hT:Zbg g u with
   | false =>
    refine fR @tmB ?_;have F:=@tmB;refine gG ?_;exact ⟨(),trivial,gw,gw⟩
   | true =>
    refine fC @tmB (cI ft.1 ft.2.1 fu.1 fu.2.1) ?_
    cases h2:Za2 g rank t u with
    | false =>
     refine fR @tmB ?_;have F:=@tmB;refine gG ?_;exact ⟨(),trivial,gw,gw⟩
    | true =>
     have h3:=Zsh hgt h2;refine fC @tmB (cI fs.1 fs.2.1 fu.1 fu.2.1) ?_;refine fR (ai @h3 @tmB) ?_;have F:=@tmB;refine gG ?_;exact ⟨(),trivial,gw,gw⟩
 clear q;have hsE:Zab s=[.lit (.int .i64 s.op),.lit (.string s.name),.lit (.int .i64 s.sort),.sl (Zaa s.args)]:=by cases s;simp only [Zab,Tm.op,Tm.name,Tm.sort,Tm.args]
 refine fG @tmB ?_;have F:=ai @hsE @tmB;refine gL (ι:=Nat) [2,12,91,120] [] (fun i=>[(12,A.d (.one (.lit (.int .i64 i))))]) (fun i=>[]) (fun i=>i<=s.args.length) (fun i=>s.args.length - i) (0) (Taj _) (fun i hi=>?_);clear F;by_cases h1:i < s.args.length
 ·have q1:=lT i s.args.length;have wi:=Zao (k:=i) (by have:=hs.size;have:=Zbe s.args;have:=ZaD s;omega);obtain ⟨a,ha⟩:∃ a,s.args[i]?=some a:=⟨_,Taa h1⟩;have ham:=Tac ha;have fa:=Zd1 hd.sg (hs.arg ham);have rl:(rank.map Zaw).length=rank.length:=Tay _;refine fN 13 (aj3 @q1 @hsE @tmB) ?_;refine gM (ι:=Unit) [120] [] (fun q=>[(120,A.d (.one (.lit (.bool false))))]) (fun q=>[]) (fun q=>True) ?_ (fun q hq=>Exists.intro _ (ai (Wk.refl _) ?_))
  ·refine gB ?_;by_cases h2:rank.length=g.ops.length
   ·have q2:((rank.length:Int)=(g.ops.length:Int))=True:=eq_true om;have cTs:=cT fs.1 fs.2.2;rw [hsE,ZgC hs] at cTs;refine fC (ai @q2 @tmB) (cTs) ?_;refine fC (ai @q2 @tmB) (cF) ?_
    cases h3:Zce g with
    | false =>
     refine fR @tmB ?_;have F:=@tmB;refine gG ?_;exact ⟨(),trivial,gw,gw⟩
    | true =>
     have h4:=Zxy h3 h2 hs ham;have cIs:=cI fs.1 fs.2.1 fa.1 fa.2.1;rw [hsE] at cIs;refine fC (aj4 @ha @h1 @q1 @tmB) (cIs) ?_;refine fR (ai @h4 @tmB) ?_;have F:=@tmB;refine gG ?_;exact ⟨(),trivial,gw,gw⟩
   ·have q2:((rank.length:Int)=(g.ops.length:Int))=False:=eq_false om;refine fR (ai @q2 @tmB) ?_;have F:=ai @q2 @tmB;refine gG ?_;exact ⟨(),trivial,gw,gw⟩
  have F:=aj3 @wi @hsE @tmB;refine gG ?_;exact ⟨i+1,om,gw,gw,om⟩
 ·have q1:=lF i s.args.length;refine fN 15 (aj3 @q1 @hsE @tmB) ?_;refine gB ?_;have F:=@tmB;refine gCE (ZlK hx) ?_;clear F;rintro r ⟨g3,l,t3,hg3,hl,ht3,rfl⟩;have hE3:Zaf g3=[.sl (g3.sorts.names.map ZbB),.sl (g3.sorts.subs.map ZbO),.sl (g3.ops.map ZaL)]:=by rw [Zaf]
  have hd3:=ZrB hg3;have hlo:Zhp l:=fun y hy=>⟨(hl.2 y hy).vo,(hl.2 y hy).to.ok hd3.sg⟩;have hlb:l.length+Zar (Zaz l)<=1048576:=by
   have hk:∀ l:List Bd,(∀ y∈l,BdDr g3 y)->Zar (Zaz l)<=l.length * 800:=fun l=>by
    induction l with
    | nil=>intro _;simp [Zaz,Zar]
    | cons y l ih =>
     intro h;have h1:=ih fun z hz=>h z (Tal _ hz);have h2:=h y Tas;have h3:=Zes h2.to.form;have h4:=h2.to.size;have h5:=h2.vb;have h6:Zal (ZbS y)=Zal (Zab y.var)+Zal (Zab y.to):=ZiF _ _;simp only [Zaz,Tbu,Zar,Tag] at h1 ⊢;omega
   have h1:=hk l hl.2;have h2:=hl.1;omega
  refine fR (ai @hE3 @tmB) ?_;have cAs:=cA hlo hlb fs.1 fs.2.1;have cAt:=cA hlo hlb ft.1 ft.2.1;rw [hsE] at cAs;refine fN 16 @tmB ?_;refine gB ?_;refine fC @tmB (cAs) ?_;refine fR @tmB ?_;refine fN 17 @tmB ?_;refine gB ?_;refine fC @tmB (cAt) ?_;refine fR @tmB ?_;refine fN 18 @tmB ?_;refine gB ?_
  cases hgt:Za2 g rank s t with
  | false =>
   refine fR @tmB ?_;exact fD @tmB
  | true =>
  cases hu1:aS g l s with
  | none =>
   have z:(none:Option Tm).isSome=false:=rfl;rw [z];refine fR @tmB ?_;exact fD @tmB
  | some v1 =>
  have z1:(some v1).isSome=true:=rfl;rw [z1]
  cases hu2:aS g l t with
  | none =>
   have z:(none:Option Tm).isSome=false:=rfl;rw [z];refine fR @tmB ?_;exact fD @tmB
  | some v2 =>
   have z2:(some v2).isSome=true:=rfl;have z3:(some v1).getD zTm=v1:=rfl;have z4:(some v2).getD zTm=v2:=rfl;rw [z2,z3,z4];have f1:=Zd1 hd.sg (Zm9 hu1);have f2:=Zd1 hd.sg (Zm9 hu2);have h5:=Zsi hgt hu1 hu2;refine fC @tmB (cI f1.1 f1.2.1 f2.1 f2.2.1) ?_;refine fR (ai @h5 @tmB) ?_;exact fD @tmB
end
def Zi6 (w:World) (a:Option Addr) (n cap:Nat):Src:=⟨fun b=>(0 < n∧∃ off,a=some ⟨b,off,none⟩)∧¬ e0.E b,fun w'=>∀ b,((0 < n∧∃ off,a=some ⟨b,off,none⟩)∧¬ e0.E b)->w'.heap[b]?=w.heap[b]?,a,n,cap⟩
def ZlL (w:World) (a:Option Addr) (n:Nat):Prop:=0 < n->∃ (g off:Nat) (f:Nat->Nat),a=some ⟨g,off,none⟩∧(∀ j,f j < 256)∧∀ j,j < n->w.cell? ⟨g,off+j,none⟩=some (.int .u8 (f j))
theorem ZmI {w:World} {a:Option Addr} {n cap:Nat}:Fits e0 (Zi6 w a n cap).E2 (Zi6 w a n cap).G2:=⟨fun w1 w2 _ hE hG b hb=>(hE b hb).trans (hG b hb),fun _ _ b hb=>hb.2⟩
theorem ZoR {w w':World} (h:Zdp w) (h':Zdp w') {b:Nat} (hb:e0.E b):w'.heap[b]?=w.heap[b]?:=by
 have hb:b=3:=hb;subst hb;exact h'.trans h.symm
theorem ZxN {w:World} (hT:Zdp w) {a:Option Addr} {n cap:Nat} (hb:ZlL w a n) (hn:n<=1048576):(Zi6 w a n cap).Ok:=by
 refine ⟨ZmI,fun h0=>?_,hn⟩;have h0':0 < n:=h0;obtain ⟨g,off,f,ha,hf,hc⟩:=hb h0';refine ⟨g,off,f,ha,hf,fun w' hw j hj=>?_⟩;rw [<- hc j hj];refine Za6 ?_ _;by_cases hE:e0.E g
 ·exact ZoR hT hw.1 hE
 ·exact hw.2 g ⟨⟨h0',off,ha⟩,hE⟩
theorem ZlM (w:World) (hT:Zdp w) (a:Option Addr) (n cap:Nat) (hc:n<=cap) (hb:ZlL w a n) :
  Calls Tryz.prog 3 #[.slice a n cap] w fun e w'=>e=.returned (.bool true)∧Below w.heap.size w w':=by
 have hcon:=(ZAa (x:=Zi6 w a n cap) (fun hn=>ZxN hT hb hn) (ZmI.ok ZiQ) hc).2 w (fun _=>False) [.slice a n cap] (fun b hb=>hb.elim) (fun b hE=>?_) ⟨hT,fun b _=>rfl⟩ ⟨by simp [DRel,Rep,Zi6],trivial⟩
 ·refine hcon.mono fun e w' ⟨v,h1,h2,h3,h4⟩=>⟨?_,h2.os,h2.tape,h2.output,h2.size,fun k hk=>?_⟩
  ·have h4:v=.bool true:=by simpa [retA,ARel,DRel,Rep] using h4
   rw [h1,h4]
  ·by_cases hE:e0.E k
   ·exact ZoR hT h3.1 hE
   ·by_cases hE2:(Zi6 w a n cap).E2 k
    ·exact h3.2 k hE2
    ·exact h2.block k hk fun q=>q.elim hE hE2
 ·rcases hE with hE | hE
  ·exact ZAg hT b hE
  ·obtain ⟨⟨h0,off,ha⟩,_⟩:=hE;obtain ⟨g,off',f,ha',_,hcell⟩:=hb h0;rw [ha] at ha';injection ha' with ha'
   injection ha' with h1 h2
   subst h1;have:=hcell 0 h0;by_cases hlt:b < w.heap.size
   ·exact hlt
   ·unfold World.cell? at this;rw [show w.heap[b]?=none from Array.getElem?_eq_none om] at this
    cases this
end Go.Proofs.YteiljfkknokfjaaGreatDoor
