/-
  Part of a proof.
-/
import Derived.Test.YtcgacanpeaiabaaGreatDoorBCheckChainCard0
import Derived.Test.YtcgacanpeaiabaaGreatDoorBCheckChainCard1
import Derived.Test.YtcgacanpeaiabaaGreatDoorBCheckChainCard2
import Derived.Lib.AppendStr
import Derived.Laws.BytesString
import Derived.Lib.LazyBuf
set_option linter.unusedSimpArgs false
set_option linter.unusedVariables false
set_option maxHeartbeats 400000000
set_option maxRecDepth 100000
namespace Go.Proofs.YtcgacanpeaiabaaGreatDoor
open Go.RowKit
theorem ZrM {X A B r ts:List Tm} (h:(X++A++r).Perm ts) (hB:B.Perm A):(X++B++r).Perm ts:=((List.Perm.append_left X hB).append_right r).trans h
theorem ZrN (ts:List Tm) {N:Nat} (hN:N=ts.length) (hmx:N<=4000000) (a:Option Addr) (cap:Nat) :
  ConP e0 294 [.one (.lit (.slice a N cap)),.one (.lit (.int .i64 N)),.one (.fn 182 [])] [.buf (some (a,cap)) 46 4 (Zaa ts)] (RBuf a cap (Zax ts)):=by
 refine gIP (ts:=[]) [1000] 18014433942971335 Tryz.func294 ?_;refine fG @tmz ?_;have F:=@tmz;refine gL (ι:=(Nat × Nat) × List Tm) [7,8,13] [1000] (fun z=>[(7,.d (.one (.lit (.int .i64 (z.1.1:Int))))),(8,.d (.one (.lit (.int .i64 (z.1.2:Int)))))]) (fun z=>[(1000,.buf (some (a,cap)) 46 4 (Zaa z.2))]) (fun z=>z.1.2=z.1.1+20∧z.1.1<=N∧∃ X,z.2=X++ts.drop z.1.1∧X.length=z.1.1∧Full 20 X∧X.Perm (ts.take z.1.1)) (fun z=>N - z.1.1) (((0,20),ts)) (⟨rfl,Taj _,[],rfl,rfl,.nil,List.Perm.refl _⟩) (fun z hz=>?_);clear F
 obtain ⟨⟨i,j⟩,us⟩:=z;obtain ⟨hj,hi,X,hus,hX,hF,hp⟩:=hz;simp only at hj hi hus hX hp;dsimp only;by_cases hlt:j<=N
 ·have q1:((j:Int)<=(N:Int))=True:=eq_true om;have hd:ts.drop i=(ts.drop i).take 20++ts.drop j:=by rw [hj,<- List.drop_drop,Tbm]
  have hl:((ts.drop i).take 20).length=20:=by rw [Taw,Tax];omega
  have ht:ts.take j=ts.take i++(ts.drop i).take 20:=by rw [hj,List.take_add]
  have c:=ZrJ X ((ts.drop i).take 20) (ts.drop j) (A:=i) (B:=j) (N:=N) hX.symm om (by rw [Tax];omega) hmx a cap;rw [Tbf X,<- hd,<- hus] at c;have wj:IntKind.i64.wrap ((j:Int)+20)=((j+20:Nat):Int):=ZaM om om om;obtain ⟨V,hV⟩:∃ V,V=X++Zax ((ts.drop i).take 20)++ts.drop j:=⟨_,rfl⟩;rw [<- hV] at c;obtain ⟨j',hj'⟩:∃ j',j'=j+20:=⟨_,rfl⟩;rw [<- hj'] at wj;refine fN 3 (ai @q1 @tmz) ?_;refine gB ?_;have F:=@tmz;refine gCP [1000] [1000] (c) ?_;clear F
  rintro r pm ⟨rfl,rfl⟩;simp only [setA,retA,zipM,Taf,Tah];refine fR @tmz ?_;have F:=@wj;refine gG ?_;exact ⟨((j,j'),V),⟨hj',hlt,X++Zax ((ts.drop i).take 20),hV,by rw [Tae,Zdj];simp only;omega,hF.snoc (by rw [Zdj];exact hl) (Zcx _),by simp only;rw [ht];exact hp.append (Zbg _)⟩,gw,gw,by dsimp only;omega⟩
 have q1:((j:Int)<=(N:Int))=False:=eq_false om;have c:=ZrJ X (ts.drop i) [] (A:=i) (B:=N) (N:=N) hX.symm (by rw [Tax];omega) (by rw [Tax];simp;omega) hmx a cap;rw [List.append_nil,List.append_nil,<- hus] at c;have hB:Blks 20 (X++Zax (ts.drop i)):=hF.blks (by rw [Zdj,Tax];omega) (Zcx _);have hP:(X++Zax (ts.drop i)).Perm ts:=by
  have:=hp.append (Zbg (ts.drop i))
  rwa [Tbm] at this
 generalize X++Zax (ts.drop i)=vs at c hB hP;refine fN 6 (ai @q1 @tmz) ?_;refine gB ?_;have F:=@tmz;refine gCP [1000] [1000] (c) ?_;clear F;rintro r pm ⟨rfl,rfl⟩;simp only [setA,retA,zipM,Taf,Tah];refine fR @tmz ?_;clear c q1 hus hF hp us X hX hi hj;refine fG @tmz ?_;have F:=@tmz;refine gL (ι:=Nat × List Tm) [6,7,8,9,30,35,54] [1000] (fun z=>[(6,.d (.one (.lit (.int .i64 (z.1:Int)))))]) (fun z=>[(1000,.buf (some (a,cap)) 46 4 (Zaa z.2))]) (fun z=>0 < z.1∧z.1<=8000000∧Blks z.1 z.2∧z.2.Perm ts) (fun z=>N - z.1) ((20,vs)) (⟨om,om,hB,hP⟩) (fun z hz=>?_);clear F
 clear hB hP vs hlt i j;obtain ⟨k,us⟩:=z;obtain ⟨hk0,hk8,hB,hP⟩:=hz;simp only at hk0 hk8 hB hP;dsimp only;by_cases hlt:k < N;rotate_left
 ·have q1:=lF k N;have e:us=Zax ts:=Zgw hP (hB.up (by rw [hP.length_eq];omega));subst e;refine fG (ai @q1 @tmz) ?_
  first | exact (have F:=@e0P;gTPe (R:=RBuf a cap (Zax ts)) [1000] ⟨rfl,rfl⟩) | exact (have F:=@e0P;gTP (R:=RBuf a cap (Zax ts)) [1000] ⟨rfl,rfl⟩)
 have q1:=lT k N;obtain ⟨k2,hk2⟩:∃ k2,k2=2 * k:=⟨_,rfl⟩;have w1:IntKind.i64.wrap (2 * (k:Int))=(k2:Int):=ZaM om om om;have w2:IntKind.i64.wrap ((k:Int) * 2)=(k2:Int):=ZaM om om om;refine fG (aj3 @q1 @w1 @tmz) ?_;have F:=@tmz;refine gL (ι:=(Nat × Nat) × List Tm) [7,8,35] [1000] (fun z=>[(7,.d (.one (.lit (.int .i64 (z.1.1:Int))))),(8,.d (.one (.lit (.int .i64 (z.1.2:Int)))))]) (fun z=>[(1000,.buf (some (a,cap)) 46 4 (Zaa z.2))]) (fun z=>z.1.2=z.1.1+k2∧z.1.1<=N∧∃ X Y,z.2=X++Y∧X.length=z.1.1∧Full k2 X∧Blks k Y∧(X++Y).Perm ts) (fun z=>N - z.1.1) (((0,k2),us)) (⟨(Nat.zero_add _).symm,Taj _,[],us,rfl,rfl,.nil,hB,hP⟩) (fun z hz=>?_);clear F
 obtain ⟨⟨i,j⟩,vs⟩:=z;obtain ⟨hj,hi,X,Y,hvs,hX,hF,hY,hp⟩:=hz;simp only at hj hi hvs hX;dsimp only;have hpl:=hp.length_eq;rw [Tae] at hpl;obtain ⟨m,hm⟩:∃ m,m=i+k:=⟨_,rfl⟩;have w3:IntKind.i64.wrap ((i:Int)+(k:Int))=(m:Int):=ZaM om om om;by_cases hjl:j<=N
 ·have q2:((j:Int)<=(N:Int))=True:=eq_true om;obtain ⟨A,B,r,hY',hA,hB',uA,uB,hr⟩:=hY.two hk0 om;have hYl:=congrArg List.length hY';simp only [Tae] at hYl;have c:=ZrL _ X A B r (Tai _) om om uA uB (lo:=i) (mi:=m) (hi:=j) (N:=N) hX.symm om om om hmx a cap;have e1:X++A++B++r=vs:=by rw [hvs,hY'];simp
  rw [e1] at c;have hp2:(X++Zax (A++B)++r).Perm ts:=ZrM (A:=A++B) (by rw [<- Tbf,e1,hvs];exact hp) (Zbg _);obtain ⟨V,hV⟩:∃ V,V=X++Zax (A++B)++r:=⟨_,rfl⟩;rw [<- hV] at c;obtain ⟨j',hj'⟩:∃ j',j'=j+k2:=⟨_,rfl⟩;have wj:IntKind.i64.wrap ((j:Int)+(k2:Int))=(j':Int):=ZaM om om om;refine fN 10 (ai @q2 @tmz) ?_;refine gB ?_;have F:=ai @tmz @w3;refine gCP [1000] [1000] (c) ?_;clear F;rintro r' pm ⟨rfl,rfl⟩;simp only [setA,retA,zipM,Taf,Tah]
  refine fR @tmz ?_;have F:=ai @w1 @wj;refine gG ?_;exact ⟨((j,j'),V),⟨hj',hjl,X++Zax (A++B),r,hV,by simp only;rw [Tae,Zdj,Tae];omega,hF.snoc (by rw [Zdj,Tae];omega) (Zcx _),hr,hp2⟩,gw,gw,by dsimp only;omega⟩
 have q2:((j:Int)<=(N:Int))=False:=eq_false om;by_cases hmn:m < N
 ·have q3:=lT m N;obtain ⟨A,B,hY',hA,uA,hB'⟩:=hY.split om;have hYl:=congrArg List.length hY';simp only [Tae] at hYl;have uB:=hB'.up om;have c:=ZrL _ X A B [] (Tai _) om om uA uB (lo:=i) (mi:=m) (hi:=N) (N:=N) hX.symm om om (by simp only [Tak];omega) hmx a cap;have e1:X++A++B++[]=vs:=by rw [hvs,hY'];simp
  rw [e1] at c;have hp2:(X++Zax (A++B)++[]).Perm ts:=ZrM (A:=A++B) (by rw [<- Tbf,e1,hvs];exact hp) (Zbg _);rw [List.append_nil] at hp2;obtain ⟨V,hV⟩:∃ V,V=X++Zax (A++B):=⟨_,rfl⟩;rw [List.append_nil,<- hV] at c;refine fN 15 (aj4 @q2 @q3 @w3 @tmz) ?_;refine gB ?_;have F:=@tmz;refine gCP [1000] [1000] (c) ?_;clear F;rintro r' pm ⟨rfl,rfl⟩;simp only [setA,retA,zipM,Taf,Tah];refine fR @tmz ?_;have F:=@w2;refine gG ?_;exact ⟨(k2,V),⟨om,om,by rw [hV];exact hF.blks (by rw [Zdj,Tae];omega) (Zcx _),by rw [hV];exact hp2⟩,gw,gw,om⟩
 have q3:=lF m N;have F:=aj4 @q2 @q3 @w2 @w3;refine gG ?_;exact ⟨(k2,vs),⟨om,om,by rw [hvs];exact hF.blks om (hY.up om),by rw [hvs];exact hp⟩,gw,gw,om⟩
theorem Zs9 (ts:List Tm) (hmx:ts.length<=4000000) (a:Option Addr) (cap:Nat) :
  ConP e0 250 [.one (.lit (.slice a ts.length cap)),.one (.fn 182 [])] [.buf (some (a,cap)) 46 4 (Zaa ts)] (RBuf a cap (Zax ts)):=by
 refine gIP (ts:=[]) [1000] 3 Tryz.func250 ?_;refine gB ?_;have F:=@tmz;refine gCP [1000] [1000] (ZrN ts rfl hmx a cap) ?_;clear F;rintro r pm ⟨rfl,rfl⟩;simp only [setA,retA,zipM,Taf,Tah];refine fR @tmz ?_;refine fG @tmz ?_
 first | exact (have F:=@e0P;gTPe (R:=RBuf a cap (Zax ts)) [1000] ⟨rfl,rfl⟩) | exact (have F:=@e0P;gTP (R:=RBuf a cap (Zax ts)) [1000] ⟨rfl,rfl⟩)
def zTm:Tm:=.mk 0 ByteArray.empty 0 []
theorem Zc9:Zab zTm=[.lit (.int .i64 0),.lit (.string ByteArray.empty),.lit (.int .i64 0),.sl []]:=by simp [zTm,Zab,Zaa]
theorem Zdm:Zaa []=[]:=by simp [Zaa]
theorem Zkk {g:Sgn} {o:Opr} {op:Int}:∀ {xs:List Tm},(∀ a∈xs,TermOk g a)->(Zaz o op xs).length<=60 * xs.length∧sizeTms (Zaz o op xs)<=60 * xs.length∧depthTms (Zaz o op xs)<=20
 | [],_=>⟨Tai _,Tai _,by simp [Zaz,depthTms]⟩
 | a::xs,h=>by
  obtain ⟨i1,i2,i3⟩:=Zkk (o:=o) (op:=op) fun x hx=>h x (Tal _ hx);have ha:=h a Tas;have e:Zaz o op (a::xs)=ZbJ o op a++Zaz o op xs:=rfl;have s1:=ha.size;have s2:=ha.depth;rw [Zbz] at s1;rw [ZgT] at s2;have sl:=Zb7 a.args;have hf:(ZbJ o op a).length<=60∧sizeTms (ZbJ o op a)<=60∧depthTms (ZbJ o op a)<=20:=by
   unfold ZbJ;split
   ·exact ⟨om,om,om⟩
   ·split
    ·exact ⟨by simp,by simp [sizeTms],by simp [depthTms]⟩
    ·refine ⟨by simp,?_,?_⟩
     ·have:=ha.size;simp only [sizeTms];omega
     ·have:=ha.depth;simp only [depthTms];omega
  have happ:∀ (l m:List Tm),sizeTms (l++m)=sizeTms l+sizeTms m∧depthTms (l++m)=max (depthTms l) (depthTms m):=fun l m=>by
   induction l with
   | nil=>simp [sizeTms,depthTms]
   | cons x l ih=>simp only [Taf,sizeTms,depthTms,ih.1,ih.2];omega
  rw [e,Tae,(happ _ _).1,(happ _ _).2,Tag];omega
section
variable {g:Sgn} {mc:C}
theorem Zwq (hg:SgnOk g) {op:Int} {o:Opr} (h0:0<=op) (ho:g.ops[op.toNat]?=some o) (hu:o.unit≠0):Con e0 249 [.one (.ptr (encX g mc)),.one (.lit (.int .i64 op))] [.agg (Zab (Zb5 o))]:=by
 have hax:=hg.axs o (Tac ho);have hlo:=hax.lo;have hhi:=hax.hi;have hln:=hg.len;have hw:IntKind.i64.wrap (o.unit - 1)=o.unit - 1:=ZaM rfl om om;have em:Zab (Zb5 o)=[.lit (.int .i64 (o.unit - 1)),.lit (.string ByteArray.empty),.lit (.int .i64 0),.sl []]:=by simp only [Zb5,if_neg hu,Zab,Zaa]
 refine gI (ts:=[.cell 4 46]) 19 Tryz.func249 ?_;exact fD (aj7 @Zba @h0 @ho @Zah @hw @em @tmz)
open Classical in
theorem Zpg (hg:SgnOk g) {op:Int} {o:Opr} {d:Dcl} (h0:0<=op) (ho:g.ops[op.toNat]?=some o) (hd:o.decls[0]?=some d) (xs:List Tm) (ha:∀ a∈xs,TermOk g a) (hl:xs.length<=1000):Con e0 181 [.one (.ptr (encX g mc)),.one (.lit (.int .i64 op)),.one (.sl (Zaa xs))] [.agg (Zab ((mkO g o d op xs).getD zTm)),.one (.lit (.bool (mkO g o d op xs).isSome))]:=by
 have hz:=Zc9;have hfb:=Zkk (o:=o) (op:=op) ha;refine gI (ts:=[.cell 6 46,.slot 7]) 85070612101775940130758990405381922759 Tryz.func181 ?_;by_cases hAr:ArB o d xs.length
 ·rw [show mkO g o d op xs=none by unfold mkO;rw [if_pos hAr]];rcases hAr with ⟨h1,h2⟩ | ⟨h1,h2⟩
  ·have q1:=lT xs.length 2;exact fD (aj8 @Zba @h0 @ho @Zah @h1 @q1 @hz @tmz)
  ·have q1:((xs.length:Int)=(d.args.length:Int))=False:=eq_false om;exact fD (aj10 @Zba @h0 @ho @Zah @h1 @hd @Za1 @q1 @hz @tmz)
 refine fG (aj5 @tmz @Zba @h0 @ho @Zah) ?_;refine gM (ι:=Unit) [43] [] (fun u=>[(43,A.d (.one (.lit (.bool false))))]) (fun u=>[]) (fun u=>True) ?_ (fun u hu=>Exists.intro _ (ai (Wk.refl _) ?_))
 ·cases ha:o.assoc with
  | true =>
   have c1:((xs.length:Int) < 2)=False:=eq_false fun c=>hAr (.inl ⟨ha,om⟩);have F:=aj4 @tmz @Zah @ha @c1;refine gG ?_;exact ⟨(),trivial,gw,gw⟩
  | false =>
   have c3:((xs.length:Int)=(d.args.length:Int))=True:=eq_true (by have:¬ (xs.length≠d.args.length):=fun c=>hAr (.inr ⟨ha,c⟩);omega);have F:=aj6 @tmz @Zah @ha @hd @Za1 @c3;refine gG ?_;exact ⟨(),trivial,gw,gw⟩
 have hnas:o.assoc=false->xs.length=d.args.length:=fun h=>Classical.byContradiction fun c=>hAr (.inr ⟨h,c⟩);have hfl0:Zaz o op []=[]:=rfl;refine fG @tmz ?_;have F:=aj3 @hfl0 @Zdm @tmz;refine gL (ι:=Nat) [7,9,10,11,48,49,60,62,75] [9] (fun i=>[(48,A.d (.one (.lit (.int .i64 i)))),(9,.buf 9)]) (fun i=>[(9,.buf none 46 4 (Zaa (Zaz o op (xs.take i))))]) (fun i=>i<=xs.length∧∀ (j:Nat) a,j < i->xs[j]?=some a->KArg g o d j a) (fun i=>xs.length - i) (0) (⟨Taj _,fun j a h=>absurd h om⟩) (fun i hi=>?_);clear F
 obtain ⟨hi,hall⟩:=hi;by_cases hlt:i < xs.length
 ·obtain ⟨a,hai⟩:∃ a,xs[i]?=some a:=⟨_,Taa hlt⟩;have hT:=ha a (Tac hai);have q1:=lT i xs.length;have hw1:=Zan (k:=i) om;obtain ⟨k,hk⟩:=ZhQ hg ho hd hnas hlt;have hst:=Zlr (o:=o) (op:=op) hai;have hle:=ZhT o op xs (i+1);rw [hst,Tae] at hle;refine fN 8 (aj3 @q1 @hai @tmz) ?_;refine gB ?_;refine fC @tmz (ZiZ hg hT.form.node) ?_;refine fC @tmz (Zlm hg h0 ho hd hk) ?_;by_cases hkd:Zbb g a=((kd g.sorts k:Nat):Int)
  rotate_left
  ·have e:mkO g o d op xs=none:=by
    unfold mkO;rw [if_neg hAr,if_neg fun h=>by
     obtain ⟨k',hk',he⟩:=h i a hai;rw [hk] at hk';injection hk' with hk'
     subst hk';exact hkd he]
   rw [e];refine fR (ai @tmz @hkd) ?_;exact fD (ai @hz @tmz)
  have hnext:i+1<=xs.length∧∀ (j:Nat) a,j < i+1->xs[j]?=some a->KArg g o d j a:=⟨hlt,fun j a' hj ha'=>by
   by_cases e:j=i
   ·subst e;rw [hai] at ha';injection ha' with ha'
    subst ha';exact ⟨k,hk,hkd⟩
   ·exact hall j a' om ha'⟩
  have l1:Zav 4 (Zaa (Zaz o op (xs.take i)))=true:=Zc7 _;have l5:Zav 4 (Zaa a.args)=true:=Zc7 _;by_cases hN:o.assoc=true∧a.op=op
  ·have e:ZbJ o op a=a.args:=by unfold ZbJ;rw [if_pos hN]
   rw [e] at hst hle;have l3:((Zaz o op (xs.take i)).length+a.args.length<=maxApp)=True:=eq_true (by unfold maxApp;omega);have l4:Zaa (Zaz o op (xs.take i))++Zaa a.args=Zaa (Zaz o op (xs.take (i+1))):=by rw [hst,ZbT]
   obtain ⟨hN1,hN2⟩:=hN;have q2:(a.op=op)=True:=eq_true hN2;refine fR (ai @tmz @hkd) ?_;have F:=aj9 @tmz @Zah @hN1 @q2 @l1 @l5 @l3 @l4 @hw1;refine gG ?_;exact ⟨i+1,hnext,gw,gw,om⟩
  ·have cU:=Zm9 (mc:=mc) hg h0 ho a;have hne:o.assoc=true->(a.op=op)=False:=fun h1=>eq_false fun h2=>hN ⟨h1,h2⟩;refine fR (ai @tmz @hkd) ?_;refine fN 12 (aj3 @tmz @Zah @hne) ?_;by_cases hU:o.unit≠0∧a.op=o.unit - 1
   ·have e:ZbJ o op a=[]:=by unfold ZbJ;rw [if_neg hN,if_pos hU]
    rw [e,List.append_nil] at hst;rw [decide_eq_true hU] at cU;rw [<- hst];rcases Bool.eq_false_or_eq_true o.assoc with hac | hac
    ·have hq:=hne hac;refine fN 12 (aj4 @tmz @Zah @hac @hq) ?_;refine gB ?_;refine fC @tmz (cU) ?_;refine fR @tmz ?_;have F:=aj3 @tmz @hac @hw1;refine gG ?_;exact ⟨i+1,hnext,gw,gw,om⟩
    ·refine fN 12 (aj3 @tmz @Zah @hac) ?_;refine gB ?_;refine fC @tmz (cU) ?_;refine fR @tmz ?_;have F:=aj3 @tmz @hac @hw1;refine gG ?_;exact ⟨i+1,hnext,gw,gw,om⟩
   ·have e:ZbJ o op a=[a]:=by unfold ZbJ;rw [if_neg hN,if_neg hU]
    rw [e] at hst hle;rw [decide_eq_false hU] at cU;have l3:((Zaz o op (xs.take i)).length+1<=maxApp)=True:=eq_true (by simp only [Tag,Tak] at hle;unfold maxApp;omega);have l4:Zaa (Zaz o op (xs.take i))++[Zab a]=Zaa (Zaz o op (xs.take (i+1))):=by rw [hst,ZbT,Zeg]
    rcases Bool.eq_false_or_eq_true o.assoc with hac | hac
    ·have hq:=hne hac;refine fN 12 (aj4 @tmz @Zah @hac @hq) ?_;refine gB ?_;refine fC @tmz (cU) ?_;refine fR @tmz ?_;have F:=aj6 @tmz @hac @l1 @l3 @l4 @hw1;refine gG ?_;exact ⟨i+1,hnext,gw,gw,om⟩
    ·refine fN 12 (aj3 @tmz @Zah @hac) ?_;refine gB ?_;refine fC @tmz (cU) ?_;refine fR @tmz ?_;have F:=aj6 @tmz @hac @l1 @l3 @l4 @hw1;refine gG ?_;exact ⟨i+1,hnext,gw,gw,om⟩
 ·obtain rfl:i=xs.length:=by omega
  have q1:=lF xs.length xs.length;rw [Tap];have hm:mkO g o d op xs=mkL o op (Zaz o op xs):=by
   unfold mkO;rw [if_neg hAr,if_pos fun j a h=>hall j a (Tad.1 h).1 h]
  rw [hm];clear hm hall hnas;generalize hL:Zaz o op xs=L at hfb ⊢;obtain ⟨b1,b2,b3⟩:=hfb;have hax:=hg.axs o (Tac ho);have hlo:=hax.lo;have cUn:=fun hu=>Zwq (mc:=mc) hg h0 ho hu;by_cases hu:o.unit≠0∧L.length < 2
  ·have e:mkL o op L=some (L.headD (Zb5 o)):=by unfold mkL;rw [if_pos hu]
   rw [e];obtain ⟨hu1,hu2⟩:=hu;have q2:(o.unit=0)=False:=eq_false hu1;have q3:=lT L.length 2
   cases L with
   | nil =>
    have z1:=lT (0:Nat) 2;have z2:(((0:Nat):Int)=1)=False:=eq_false om;refine fN 18 (aj6 @q1 @Zah @q2 @z1 @z2 @tmz) ?_;refine gB ?_;refine fC @tmz (cUn hu1) ?_;refine fR @tmz ?_;exact fD @tmz
   | cons b bs =>
    have hb:bs=[]:=Tao (by simp only [Tag] at hu2;omega);subst hb;have z1:=lT (0+1:Nat) 2;have z2:(((0+1:Nat):Int)=1)=True:=eq_true om;have z3:=lT (1:Nat) 2;have z4:(((1:Nat):Int)=1)=True:=eq_true om;have q5:([b]:List Tm)[0]?=some b:=rfl;have z5:(0 < 0+1)=True:=eq_true om;have z6:((0:Nat) < 1)=True:=eq_true om;have z7:Int.toNat 0=0:=rfl;have q6:(0 < [b].length)=True:=eq_true (by simp);exact fD (aj14 @q1 @Zah @q2 @q3 @z1 @z2 @z3 @z4 @z5 @z6 @z7 @q5 @q6 @tmz)
  ·have hml:mkL o op L=if BigT o op (srtO o L) then none else some (appT op (srtO o L)):=by unfold mkL;rw [if_neg hu]
   rw [hml];clear hml cUn;refine fG (ai @q1 @tmz) ?_;refine gM (ι:=Unit) [93] [] (fun u=>[(93,A.d (.one (.lit (.bool false))))]) (fun u=>[]) (fun u=>True) ?_ (fun u hu=>Exists.intro _ (ai (Wk.refl _) ?_))
   ·by_cases hu0:o.unit=0
    ·have q2:(o.unit=0)=True:=eq_true hu0;have F:=aj3 @Zah @q2 @tmz;refine gG ?_;exact ⟨(),trivial,gw,gw⟩
    ·have q2:(o.unit=0)=False:=eq_false hu0;have q3:((L.length:Int) < 2)=False:=eq_false fun h=>hu ⟨hu0,om⟩;have F:=aj4 @Zah @q2 @q3 @tmz;refine gG ?_;exact ⟨(),trivial,gw,gw⟩
   refine fN 19 @tmz ?_;refine pS 9 fun a cap=>?_;refine gB ?_;refine fR (ai @Zah @tmz) ?_;refine gM (ι:=Unit) [] [9] (fun u=>[]) (fun u=>[(9,.buf (some (a,cap)) 46 4 (Zaa (srtO o L)))]) (fun u=>True) ?_ (fun u hu=>Exists.intro _ (ai (Wk.refl _) ?_))
   ·cases hcm:o.comm with
    | true =>
     rw [show srtO o L=Zax L by unfold srtO;rw [if_pos hcm]];refine fN 20 (ai @hcm @tmz) ?_;refine gB ?_;have F:=@tmz;refine gCP [9] [9] (Zs9 L om a cap) ?_;clear F;rintro r pm ⟨rfl,rfl⟩;simp only [setA,retA,zipM,Taf,Tah];refine fR @tmz ?_;exact (have F:=tmz;⟨(),trivial,gw,gw⟩)
    | false =>
     rw [show srtO o L=L by unfold srtO;rw [if_neg (by rw [hcm];simp)]];have F:=ai @hcm @tmz;refine gG ?_;exact ⟨(),trivial,gw,gw⟩
   have hSl:=ZrC o L;have sz1:=Zka (Zgx o L);have dz1:=Zjx (Zgx o L);generalize srtO o L=S at hSl sz1 dz1 ⊢;rw [<- hSl,<- Zae S];refine pD 9 [9] [] ?_;have em:Zab (appT op S)=[.lit (.int .i64 op),.lit (.string ByteArray.empty),.lit (.int .i64 0),.sl (Zaa S)]:=by simp only [appT,Zab]
   have zs:sizeTm (appT op S)=1+sizeTms S:=by rw [Zbz];rfl
   have zd:depthTm (appT op S)=1+depthTms S:=by rw [ZgT];rfl
   have c1:=Zj6 (t:=appT op S) (by unfold big;omega);have c2:=Zjw (t:=appT op S) (by unfold big;omega);rw [em] at c1 c2;refine fN 22 @tmz ?_;by_cases h7:o.assoc=true∧7 < S.length
   ·rw [if_pos (show BigT o op S from .inl h7)];obtain ⟨hac,h7⟩:=h7;have q2:=lT 7 S.length;exact fD (aj5 @Zah @hac @q2 @hz @tmz)
   have hac:o.assoc=true->(7 < (S.length:Int))=False:=fun h=>eq_false fun q=>h7 ⟨h,om⟩;rcases Bool.eq_false_or_eq_true o.assoc with ha' | ha'
   ·have q2:=hac ha';refine gB ?_;refine fC (aj4 @Zah @ha' @q2 @tmz) (c1) ?_;by_cases hs:60 < sizeTm (appT op S)
    ·have z1:=lT 60 (sizeTm (appT op S));rw [if_pos (show BigT o op S from .inr (.inl hs))];refine fR (ai @z1 @tmz) ?_;exact fD (ai @hz @tmz)
    have z1:=lF 60 (sizeTm (appT op S));refine fC (ai @z1 @tmz) (c2) ?_;by_cases hd2:20 < depthTm (appT op S)
    ·have z2:=lT 20 (depthTm (appT op S));rw [if_pos (show BigT o op S from .inr (.inr hd2))];refine fR (ai @z2 @tmz) ?_;exact fD (ai @hz @tmz)
    have z2:=lF 20 (depthTm (appT op S));rw [if_neg (show ¬ BigT o op S from fun h=>h.elim h7 (fun h=>h.elim hs hd2))];refine fR (ai @z2 @tmz) ?_;exact fD (ai @em @tmz)
   ·refine gB ?_;refine fC (aj3 @Zah @ha' @tmz) (c1) ?_;by_cases hs:60 < sizeTm (appT op S)
    ·have z1:=lT 60 (sizeTm (appT op S));rw [if_pos (show BigT o op S from .inr (.inl hs))];refine fR (ai @z1 @tmz) ?_;exact fD (ai @hz @tmz)
    have z1:=lF 60 (sizeTm (appT op S));refine fC (ai @z1 @tmz) (c2) ?_;by_cases hd2:20 < depthTm (appT op S)
    ·have z2:=lT 20 (depthTm (appT op S));rw [if_pos (show BigT o op S from .inr (.inr hd2))];refine fR (ai @z2 @tmz) ?_;exact fD (ai @hz @tmz)
    have z2:=lF 20 (depthTm (appT op S));rw [if_neg (show ¬ BigT o op S from fun h=>h.elim h7 (fun h=>h.elim hs hd2))];refine fR (ai @z2 @tmz) ?_;exact fD (ai @em @tmz)
end
section
variable {w:World} {S:Nat->Prop}
theorem Zwr {rows:List (List C)} {ety sz cap l h:Nat} {a:Option Addr} (hb:ZaV w S ety sz rows (.slice a rows.length cap)) (hl:l<=h∧h<=rows.length):∃ (b:Option Addr) (c:Nat) (news:List Value),sliced a l h cap sz=.slice b ((rows.take h).drop l).length c∧Zad w S ((rows.take h).drop l).flatten news∧∀ (P:Program) (w':World),(∀ p,w'.cell? p=w.cell? p)->(Builtin.firstCells sz ((rows.take h).drop l).length (sliced a l h cap sz)).run P w'=.ok news.toArray w':=by
 have hln:((rows.take h).drop l).length=h - l:=by rw [Tax,Taw];omega
 obtain ⟨h1,hrl,h3⟩:=hb;by_cases he:h=l
 ·have e0:((rows.take h).drop l).length=0:=om;have e1:(rows.take h).drop l=[]:=Tao e0;refine ⟨_,_,[],by rw [hln];exact rfl,by rw [e1];simp [Zad],fun P w' _=>?_⟩;rw [e0];simp only [sliced,he,Nat.sub_self];split
  ·cases a <;> simp [Builtin.firstCells,loadCells,loadCellsFrom]
  ·cases a <;> simp [Builtin.firstCells,loadCells,loadCellsFrom]
 ·rcases h3 with ⟨h4,p,h5⟩ | ⟨g,cap',cur,h4,h5,h6,h7,h8,h9,h10,h11,h12⟩
  ·rw [h4] at hl;simp only [Tak] at hl;omega
  ·injection h4 with e1 e2 e3
   subst e1 e3;have hlc:¬ cap=l:=om;have hval:sliced (some ⟨g,0,none⟩) l h cap sz=.slice (some ⟨g,l * sz,none⟩) (h - l) (cap - l):=by
    simp only [sliced,hlc,if_false,Option.map_some,Addr.add_at,Nat.zero_add]
   have hr:=Zap.sub hrl h12 l h;rw [Nat.zero_add] at hr;obtain ⟨news,q5,q6⟩:=hr.flat.vals;have hsl:rowsLen sz ((rows.take h).drop l):=fun r hr=>hrl r (List.mem_of_mem_take (List.mem_of_mem_drop hr));rw [hval];refine ⟨_,_,news,by rw [hln],q5,fun P w' hw=>?_⟩;exact run_firstCells_some w' sz _ _ _ _ news (by rw [q5.len,Zcl hsl]) (fun j u hj=>by rw [hw,Addr.add_at];exact q6 j u hj)
end
section
variable {e:Env} {K:St->Prop} {ds:List (Option Nat)} {os:List Oper} {s:List (Nat × A)} {m:List (Nat × Bk)}
theorem Zta {σ:St} {o:Oper} {x y:Operand} {t ety ety' sz by' k j d l h cap:Nat} {a0:Option Addr} {rows rj:List (List C)} {oa:Option (Option Addr × Nat)} (ho:o.op=.call ⟨.builtin .append,#[x,y],#[t,t]⟩) (hdd:o.dst=some d) (hb:Za2 e.P t=some (ety,sz,by'))
  (hx:evA σ.s x=.buf k) (hm:gm σ.m k=some (.buf oa ety sz rows)) (hy:evA σ.s y=.d (.one (.lit (sliced a0 l h cap sz)))) (hj:gm σ.m j=some (.buf (some (a0,cap)) ety' sz rj)) (hlh:l<=h∧h<=rj.length) (hle:rows.length+rj.length<=maxApp)
  (hK:K ⟨(d,.buf d)::Zau d (Zau k σ.s),(d,.buf none ety sz (rows++(rj.take h).drop l))::remM d (remM k σ.m)⟩):ZbG e o σ K:=by
 intro he U w0 S0 nt a w Q hd ⟨S,L,h0⟩;have hx':a.eval x=L.v k:=by have:=h0.eval x;rw [hx] at this;exact this
 have hy':=h0.eval y;rw [hy] at hy';have hy':=Zbr hy';have ho':ZaV w S ety sz rows (L.v k):=(h0.cls.own k _ hm).2;obtain ⟨hpl,hbj⟩:=h0.cls.own j _ hj;have hvj:L.v j=.slice a0 rj.length cap:=hpl (a0,cap) rfl;rw [hvj] at hbj;obtain ⟨yb,yc,news,y1,y2,y3⟩:=Zwr hbj hlh;have hln:((rj.take h).drop l).length=h - l:=by rw [Tax,Taw];omega
 have hsl:rowsLen sz ((rj.take h).drop l):=fun r hr=>hbj.2.1 r (List.mem_of_mem_take (List.mem_of_mem_drop hr));obtain ⟨v',w',hrun,hbuf,τ,hk,hτ,hblk⟩:=ZgI (ty:=o.type) (ts:=#[t,t]) (v:=L.v k) (u:=sliced a0 l h cap sz) he h0.cls rfl rfl hb (.inl ho') ho'.2.1 hsl om ⟨yb,yc,news,y1,y2,y3⟩;unfold Oper.wp;have hr2:(execOp a.eval o).run e.P w=.ok (.value v') w':=by
  simp [execOp,ho,resolve,invoke,builtin,hx',hy',hrun,Result.andThen]
 rw [hr2,Oper.upon_value,hdd];refine ⟨_,hK,h0.born he (hd d hdd) (τ:=τ) (b':=0) (v':=v') (s1:=Zau k σ.s) (m1:=remM k σ.m) (fun _ h=>h) (fun _ h=>.inl h) (fun t=>?_) (fun k' x hx=>?_) (fun g hg=>?_) (fun k' x g hkd hx hg hb'=>?_) hk ?_ (fun g hg=>?_) (by simp [ARel])⟩
 ·rcases ZeE k t σ.s with ⟨h1,_⟩ | h1
  ·exact .inl h1
  ·exact .inr h1
 ·rw [Zbe] at hx;split at hx
  ·cases hx
  ·exact hx
 ·have hg':=(hτ g hg).1;exact ⟨(Own1.lt (k:=k) (L:=L) (bk:=.buf none ety sz rows) ⟨by simp,ho'⟩ hg').2,h0.cls.notE hm hg',h0.cls.mine k _ g hm hg'⟩
 ·have hg':=(hτ g hg).1;rw [Zbe] at hx;split at hx
  ·cases hx
  ·rename_i hne';exact hne' (h0.cls.inj k' k x _ g hx hm hb' hg')
 ·simp only [Own1,if_true];exact ⟨by simp,hbuf⟩
 ·simp only [ZaJ,if_true] at hg;exact hblk g hg
theorem gAps {d t ty ety ety' by' sz l h cap:Nat} {p:String} {ed:Array Edge} {x y:Operand} {rows rj:List (List C)} {oa:Option (Option Addr × Nat)} {a0:Option Addr} {s2:List (Nat × A)} {m2:List (Nat × Bk)} (k j:Nat) (hlh:l<=h∧h<=rj.length) (hle:rows.length+rj.length<=maxApp) (hK:Runs e ds 0 os ⟨(d,.buf d)::s2,(d,.buf none ety sz (rows++(rj.take h).drop l))::m2⟩ K)
  (hb:Za2 e.P t=some (ety,sz,by'):=by exact sfx) (hx:evA s x=.buf k:=by exact sfx) (hm:gm m k=some (.buf oa ety sz rows):=by exact snx) (hy:evA s y=.d (.one (.lit (sliced a0 l h cap sz))):=by exact snx) (hj:gm m j=some (.buf (some (a0,cap)) ety' sz rj):=by exact snx)
  (hs:Zau d (Zau k s)=s2:=by exact snv) (hr:remM d (remM k m)=m2:=by exact snv):Runs e ds 0 (⟨some d,.call ⟨.builtin .append,#[x,y],#[t,t]⟩,ty,p,ed,none⟩::os) ⟨s,m⟩ K:=by
 subst hs hr;simp only [Runs] at hK ⊢;exact Zde rfl (Zta rfl rfl hb hx hm hy hj hlh hle hK)
end
theorem okc4 {u0 u1 u2 u3:Value} (h:(Za5 [u0,u1,u2,u3]).all ZaB=true):ZaB (.lit u0)=true∧ZaB (.lit u1)=true∧ZaB (.lit u2)=true∧ZaB (.lit u3)=true:=by
 simpa [Za5,Tar,and_assoc] using h
theorem Zig (ts:List Tm) {i:Nat} {t:Tm} (h:ts[i]?=some t):Zaa (ts.take (i+1))=Zaa (ts.take i)++[Zab t]:=by
 simp only [Zby,List.take_add_one,h,Option.toList,Tbv,Tbu,List.map_nil]
theorem Ziy (u0 u1 u2 u3:Value):Za5 [u0,u1,u2,u3]=[.lit u0,.lit u1,.lit u2,.lit u3]:=rfl
theorem ZB6 (uss:List (List Value)):(uss.map Za5).length=uss.length:=Tay ..
def tmsB (ts:List Tm):Prop:=ts.length+bulkRows (Zaa ts)<=1048576
theorem Zl4 (ts:List Tm) (hB:tmsB ts) (h:∀ t∈ts,ConP e0 72 [.agg (Zab t)] [] (ZgV (Zab t))):ConP e0 149 [.one (.sl (Zaa ts))] [] (Zkh 46 4 (Zaa ts)):=by
 have hl:ts.length<=1048576:=Tbe (Nat.le_add_right _ _) hB;refine gIP (ts:=[.slot 2]) [] 1005 Tryz.func149 ?_;refine fG @e0P ?_;refine pE [] [1000] ZEC ?_;have F:=ai @Zae @Zdm;refine gL (ι:=Nat × List (List Value) × (Nat->Prop)) [3,5,8,9] [3,1000] (fun x=>[(8,.d (.one (.lit (.int .i64 (x.1:Int))))),(3,.buf 3)]) (fun x=>[(3,.buf none 46 4 (x.2.1.map Za5)),(1000,.set x.2.2 (fun w=>ZbW w (Zaa (ts.take x.1)) x.2.2 x.2.1))]) (fun x=>x.1<=ts.length∧x.2.1.length=x.1) (fun x=>ts.length - x.1) ((0,[],fun _=>False)) (⟨Taj _,rfl⟩) (fun x hx=>?_);clear F
 obtain ⟨i,uss,E⟩:=x;obtain ⟨hi,hn⟩:=hx;simp only at hi hn;by_cases hlt:i < ts.length
 ·have hg:ts[i]?=some ts[i]:=Taa hlt;have hc:=h ts[i] (List.getElem_mem hlt);generalize ts[i]=t at hg hc;have q1:=lT i ts.length;refine fB (aj5 @Zae @Zb1 @q1 @hg @tmz) ?_;have F:=@tmz;refine gCP [] [1001] (hc) ?_;clear F;rintro r pm ⟨us,E2,rfl,hu,hok,rfl⟩;rw [Zj0] at hu;obtain ⟨u0,u1,u2,u3,rfl⟩:=len4 hu;obtain ⟨k0,k1,k2,k3⟩:=okc4 hok;have q3:IntKind.i64.wrap ((i:Int)+1)=(i:Int)+1:=IntWalk.i64_in _ om
  have q2:i+1<=maxApp:=by unfold maxApp;omega
  simp only [Ziy,setA,retA,zipM,Taf,Tah];refine fR (aj8 @Ziy @ZB6 @hn @q2 @k0 @k1 @k2 @k3) ?_;refine pE [1000,1001] [1000] (ZFp (G':=fun w=>ZbW w (Zaa (ts.take (i+1))) (fun b=>E b∨E2 b) (uss++[[u0,u1,u2,u3]])) (fun w h1 h2 hd=>?_) (ZbW.stable _ _ _)) ?_
  ·rw [Zig ts hg];exact ZbW.snoc h1 h2 (fun _ h=>.inl h) (fun _ h=>.inr h) hd
  have F:=aj4 @Ziy @q3 @Zae ((@Tbv.{0,0}));refine gG ?_;exact ⟨(i+1,uss++[[u0,u1,u2,u3]],fun b=>E b∨E2 b),⟨hlt,by simp [hn]⟩,gw,gw,om⟩
 ·obtain rfl:i=ts.length:=by omega
  have q1:=lF ts.length ts.length;refine fG (ai @Zae @q1) ?_;rw [Tap];refine pS 2 fun a cap=>?_;refine gTP [2,1000] (Zkh.mk (by rw [hn,Zae]))
theorem ZAj {w:World} {op so:Int} {nm:ByteArray} {args:List Tm} {E:Nat->Prop} {v:Value} (h:Own w (.sl (Zaa args)) E v):Zam w (Zab (.mk op nm so args)) E [.int .i64 op,.string nm,.int .i64 so,v]:=by
 simp only [Zab,Zam];refine ⟨fun _=>False,E,fun _ h=>h.elim,fun _ h=>h,fun _ h _=>h,by simp [Own],fun _=>False,E,fun _ h=>h.elim,fun _ h=>h,fun _ h _=>h,by simp [Own],fun _=>False,E,fun _ h=>h.elim,fun _ h=>h,fun _ h _=>h,by simp [Own],E,fun _=>False,fun _ h=>h,fun _ h=>h.elim,fun _ _ h=>h,h,trivial⟩
theorem Znl (t:Tm) (h:ConP e0 149 [.one (.sl (Zaa t.args))] [] (Zkh 46 4 (Zaa t.args))):ConP e0 72 [.agg (Zab t)] [] (ZgV (Zab t)):=by
 obtain ⟨op,nm,so,args⟩:=t;have hc:Zab (.mk op nm so args)=[.lit (.int .i64 op),.lit (.string nm),.lit (.int .i64 so),.sl (Zaa args)]:=by simp only [Zab]
 simp only [Tm.args] at h;refine gIP (ts:=[.cell 2 46]) [] 7 Tryz.func72 ?_;refine fB @hc ?_;have F:=@hc;refine gCP [] [1000,1001] (h) ?_;clear F;rintro r pm ⟨a,cap,uss,E,rfl,hu,rfl⟩;simp only [setA,retA,zipM,Taf,Tah];refine fR @hc ?_;refine fG @hc ?_;refine pE [1000,1001] [1000] (ZB3 (G':=fun w=>Zam w (Zab (.mk op nm so args)) (fun b=>vblk (.slice a uss.length cap)=some b∨E b) [.int .i64 op,.string nm,.int .i64 so,.slice a uss.length cap]) (fun w h=>ZAj h) (Zam.stable _ _ _)) ?_
 have hm:=ZgV.mk (row:=Zab (.mk op nm so args)) (us:=[.int .i64 op,.string nm,.int .i64 so,.slice a uss.length cap]) (E:=fun b=>vblk (.slice a uss.length cap)=some b∨E b) (by rw [hc];rfl) rfl;rw [Ziy] at hm;exact (have F:=hc;gTP [1000] hm)
theorem ZB7 (n:Nat):(∀ t:Tm,ZaC (Zab t) < n->bulkRow (Zab t)<=1048576->ConP e0 72 [.agg (Zab t)] [] (ZgV (Zab t))):=by
 induction n with
 | zero=>exact fun _ h=>om
 | succ n ih =>
  intro t hn hb;obtain ⟨op,nm,so,args⟩:=t;simp only [Zab,ZaC,Zcz,bulkRow,ZaS] at hn hb;refine Znl _ (Zl4 args (by unfold tmsB;have:=Zae args;omega) fun a ha=>?_);obtain ⟨i,hi⟩:=Tbk ha;have hi':(Zaa args)[i]?=some (Zab a):=by rw [Zb1,hi];rfl
  have h1:=ZbZ hi';have h2:=Zck hi';exact ih a om om
theorem ZrO (t:Tm) (hb:bulkRow (Zab t)<=1048576):ConP e0 72 [.agg (Zab t)] [] (ZgV (Zab t)):=ZB7 _ t (Tan _) hb
theorem ZED (pm:List Bk):Zgq pm pm:=fun w S h1 h2=>⟨h1,h2,fun _ h=>h⟩
theorem ZB8 {ts:List Tm} {i:Nat} (h:i<=ts.length):(Zaa (ts.take i)).length=i:=by rw [Zae,Taw];omega
theorem ZpS (t:Tm) (hB:tmsB t.args) (h:∀ a∈t.args,Con e0 67 [.agg (Zab a)] [.agg (Zab a)]):Con e0 67 [.agg (Zab t)] [.agg (Zab t)]:=by
 obtain ⟨op,nm,so,args⟩:=t;have hc:Zab (.mk op nm so args)=[.lit (.int .i64 op),.lit (.string nm),.lit (.int .i64 so),.sl (Zaa args)]:=by simp only [Zab]
 simp only [Tm.args] at h hB;have hl:args.length<=1048576:=Tbe (Nat.le_add_right _ _) hB;refine gI (ts:=[.cell 2 46]) 65567 Tryz.func67 ?_;refine fN 1 @hc ?_;refine gB ?_;refine gP 6 ?_;refine gX ?_;refine fR @hc ?_;refine pN 1000 46 4 ?_;refine fG @hc ?_;have F:=ai @hc @Zdm;refine gL (ι:=Nat × Option Addr × Nat) [4,16] [3,1000] (fun x=>[(4,.d (.one (.lit (.int .i64 (x.1:Int)))))]) (fun x=>[(1000,.buf (some (x.2.1,x.2.2)) 46 4 (Zaa (args.take x.1))),(3,.var none [.lit (.int .i64 op),.lit (.string nm),.lit (.int .i64 so),.lit (.slice x.2.1 x.1 x.2.2)])]) (fun x=>x.1<=args.length) (fun x=>args.length - x.1) ((0,none,0)) (Taj _) (fun x hx=>?_);clear F
 obtain ⟨i,p,cap⟩:=x;simp only at hx;by_cases hlt:i < args.length
 ·have hg:args[i]?=some args[i]:=Taa hlt;have hcon:=h args[i] (List.getElem_mem hlt);generalize args[i]=a at hg hcon;have q1:=lT i args.length;have q4:IntKind.i64.wrap ((i:Int)+1)=(i:Int)+1:=IntWalk.i64_in _ om;have q2:i+1<=maxApp:=by unfold maxApp;omega
  have q3:=ZB8 hx;have q5:(args.take i).length=i:=by rw [Taw];omega
  refine fB (aj6 @hc @Zae @Zb1 @q1 @hg @tmz) ?_;refine fC (aj3 @tmz @Zb1 @hg) (hcon) ?_;have F:=aj4 @tmz @q2 @q3 @q5;refine gP 3 ?_;clear F;refine gS 28 fun p2 cap2=>?_;refine fR (aj3 @tmz @q3 @q5) ?_;refine pE [28] [1000] (ZED _) ?_;rw [<- Zig args hg];have F:=ai @hc @q4;refine gG ?_;exact ⟨(i+1,p2,cap2),hlt,gw,gw,om⟩
 ·obtain rfl:i=args.length:=by omega
  have q1:=lF args.length args.length;rw [Tap];refine fG (aj3 @hc @Zae @q1) ?_;refine pD 1000 [] [2] ?_ (hs:=by exact snv);exact fD (ai @hc @Zae)
theorem ZAk (n:Nat):(∀ t:Tm,ZaC (Zab t) < n->bulkRow (Zab t)<=1048576->Con e0 67 [.agg (Zab t)] [.agg (Zab t)]):=by
 induction n with
 | zero=>exact fun _ h=>om
 | succ n ih =>
  intro t hn hb;obtain ⟨op,nm,so,args⟩:=t;simp only [Zab,ZaC,Zcz,bulkRow,ZaS] at hn hb;refine ZpS _ (by unfold tmsB;simp only [Tm.args];have:=Zae args;omega) fun a ha=>?_;simp only [Tm.args] at ha;obtain ⟨i,hi⟩:=Tbk ha;have hi':(Zaa args)[i]?=some (Zab a):=by rw [Zb1,hi];rfl
  have h1:=ZbZ hi';have h2:=Zck hi';exact ih a om om
theorem ZeY (t:Tm) (hb:bulkRow (Zab t)<=1048576):Con e0 67 [.agg (Zab t)] [.agg (Zab t)]:=ZAk _ t (Tan _) hb
theorem Zws {ts:List Tm} {i:Nat} {t:Tm} (h:ts[i]?=some t):Zaa (ts.take i)++[Zab t]=Zaa (ts.take (i+1)):=(Zig ts h).symm
theorem Zkl (ts:List Tm) (hB:tmsB ts):Con e0 283 [.one (.sl (Zaa ts))] [.one (.sl (Zaa ts))]:=by
 unfold tmsB at hB;refine gI (ts:=[.slot 2]) 541 Tryz.func283 ?_;refine fG @tmz ?_;have F:=@Zdm;refine gL (ι:=Nat) [3,4,9] [3] (fun i=>[(4,A.d (.one (.lit (.int .i64 i)))),(3,.buf 3)]) (fun i=>[(3,.buf none 46 4 (Zaa (ts.take i)))]) (fun i=>i<=ts.length) (fun i=>ts.length - i) (0) (Taj _) (fun i hi=>?_);clear F;by_cases hlt:i < ts.length;rotate_left
 ·obtain rfl:i=ts.length:=by omega
  have q2:=lF ts.length ts.length;rw [Tap];refine fG (ai @q2 @tmz) ?_;have F:=@tmz;refine gG ?_;exact gTz [2]
 obtain ⟨t,ht⟩:∃ b,ts[i]?=some b:=⟨_,Taa hlt⟩;have q2:=lT i ts.length;have q4:=Zan (k:=i) om;have hi':(Zaa ts)[i]?=some (Zab t):=by rw [Zb1,ht];rfl
 have hbt:=Zck hi';have cc:=ZeY t om;have l1:Zav 4 (Zaa (ts.take i))=true:=Zc7 _;have l2:((Zaa (ts.take i)).length+1<=maxApp)=True:=eq_true (by rw [Zae,Taw];unfold maxApp;omega);have l3:((ts.take i).length+1<=maxApp)=True:=eq_true (by rw [Taw];unfold maxApp;omega);have l4:min i ts.length+1<=maxApp:=by unfold maxApp;omega
 have e:=Zws ht;refine fB (ai @q2 @tmz) ?_;refine fC (aj3 @q2 @ht @tmz) (cc) ?_;refine fR (aj4 @l1 @l2 @l3 @tmz) ?_;have F:=ai @q4 @e;refine gG ?_;exact ⟨i+1,hlt,gw,gw,om⟩
theorem ZB9:Zaa (Zax [])=[]:=by simp [Zax,Zaa]
theorem Znm {l:List Tm} (h:Zay l):Zay (Zax l):=by
 have:∀ {ts:List Tm},Zay ts ↔ ∀ t∈ts,okTm t:=fun {ts}=>by
  induction ts with
  | nil=>simp [Zay]
  | cons t ts ih=>simp [Zay,ih]
 exact this.2 fun a ha=>this.1 h a ((Zbg l).mem_iff.1 ha)
theorem Zlv {l:List Tm} (h:Zay l) (k:Nat):Zay (l.take k):=by
 have:∀ {ts:List Tm},Zay ts ↔ ∀ t∈ts,okTm t:=fun {ts}=>by
  induction ts with
  | nil=>simp [Zay]
  | cons t ts ih=>simp [Zay,ih]
 exact this.2 fun a ha=>this.1 h a (List.mem_of_mem_take ha)
theorem Zkm (ts:List Tm) (hok:Zay ts) (hB:tmsB ts):Con e0 282 [.one (.sl (Zaa ts))] [.one (.sl (Zaa (Zax ts)))]:=by
 have hB0:=hB;unfold tmsB at hB
 have hcc:=Zkl (Zax ts) (by
  have h1:=(Zbg ts).length_eq;have h2:bulkRows (Zaa (Zax ts))=bulkRows (Zaa ts):=by
   have:∀ {l m:List Tm},l.Perm m->bulkRows (Zaa l)=bulkRows (Zaa m):=fun h=>by
    induction h with
    | nil=>rfl
    | cons x h ih=>simp only [Zaa,bulkRows,ih]
    | swap x y l=>simp only [Zaa,bulkRows];omega
    | trans h1 h2 a b=>rw [a,b]
   exact this (Zbg ts)
  unfold tmsB;omega)
 refine gI (ts:=[.slot 2]) 1073743997 Tryz.func282 ?_;refine fG @tmz ?_;have F:=ai @ZB9 @tmz;refine gL (ι:=Nat) [3,4,5,6,11,30] [3] (fun i=>[(4,A.d (.one (.lit (.int .i64 i)))),(3,.buf 3)]) (fun i=>[(3,.buf none 46 4 (Zaa (Zax (ts.take i))))]) (fun i=>i<=ts.length) (fun i=>ts.length - i) (0) (Taj _) (fun i hi=>?_);clear F;by_cases hlt:i < ts.length;rotate_left
 ·obtain rfl:i=ts.length:=by omega
  have q2:=lF ts.length ts.length;rw [Tap];refine fN 10 (ai @q2 @tmz) ?_;refine pS 3 fun a cap=>?_;refine pD 3 [3] [] ?_;refine gB ?_;refine fC @tmz (hcc) ?_;refine fR @tmz ?_;exact fD @tmz
 obtain ⟨x,hx⟩:∃ b,ts[i]?=some b:=⟨_,Taa hlt⟩;have q2:=lT i ts.length;have q4:=Zan (k:=i) om;have hxo:=hok.mem (Tac hx);obtain ⟨M,hM⟩:∃ M,M=Zax (ts.take i):=⟨_,rfl⟩;have hMl:M.length=i:=by rw [hM,Zdj,Taw];omega
 have hMo:Zay M:=by rw [hM];exact Znm (Zlv hok i)
 have hMr:ts.take (i+1)=ts.take i++[x]:=ZcJ hx;rw [<- hM];refine fN 5 (aj3 @q2 @hMl @tmz) ?_;refine gB ?_;refine fR (ai @hMl @tmz) ?_;refine ZdU ?_;refine gM (ι:=Nat) [5] [] (fun k=>[(5,A.d (.one (.lit (.int .i64 k))))]) (fun k=>[]) (fun k=>k<=i∧(∀ y∈M.drop k,Zag x y<=0)∧(0 < k->∃ y,M[k - 1]?=some y∧Zag y x<=0)) ?_ (fun k hk=>Exists.intro _ (ai (Wk.refl _) ?_))
 ·refine fG @tmz ?_;have F:=@tmz;refine gL (ι:=Nat) [5,30] [] (fun k=>[(5,A.d (.one (.lit (.int .i64 k))))]) (fun k=>[]) (fun k=>k<=i∧∀ y∈M.drop k,Zag x y<=0) (fun k=>k) (i) (⟨Tai _,by rw [<- hMl,List.drop_length];intro y hy;cases hy⟩) (fun k hk=>?_);clear F;obtain ⟨hk,h2⟩:=hk;by_cases hk0:k=0
  ·have q0:=lF 0 k;have F:=ai @q0 @tmz;refine gG ?_;exact ⟨k,⟨hk,h2,fun h=>om⟩,gw,gw⟩
  obtain ⟨j,rfl⟩:∃ j,k=j+1:=⟨k - 1,om⟩;obtain ⟨y,hy⟩:∃ y,M[j]?=some y:=⟨_,Taa om⟩;have q5:=lT 0 (j+1:Nat);have wj:IntKind.i64.wrap (((j+1:Nat):Int) - 1)=(j:Int):=ZaM om om om;have lj:j < i:=om;have hdr:M.drop j=y::M.drop (j+1):=Zd4 hy;generalize hk1:j+1=k1 at q5 wj h2 hk hdr ⊢;refine fB @tmz ?_;refine fC (aj8 @q5 @wj @hy @hx @hMl @lj @Zal @tmz) (Zep (hMo.mem (Tac hy)) hxo) ?_;by_cases hc:0 < Zag y x
  ·have z:=eq_true hc;refine fR @z ?_;have h2':∀ u∈M.drop j,Zag x u<=0:=fun u hu=>by
    rw [hdr] at hu;rcases Tbg.1 hu with rfl | hu
    ·rw [ZcN u x];omega
    ·exact h2 u hu
   have F:=ai @z @wj;refine gG ?_;exact ⟨j,⟨om,h2'⟩,gw,gw,om⟩
  have z:=eq_false hc;refine fR @z ?_;have F:=ai @z @tmz;refine gG ?_;exact ⟨k1,⟨hk,h2,fun _=>⟨y,by rw [<- hk1,Nat.add_sub_cancel];exact hy,om⟩⟩,gw,gw⟩
 obtain ⟨hk,h2,h1⟩:=hk;have hMs:M.take k++x::M.drop k=Zax (ts.take (i+1)):=by
  rw [hMr];refine Zry (by rw [Tbm,hM]) h2 fun y hy=>?_;have hk0:0 < k:=by
   rcases Nat.eq_zero_or_pos k with h | h
   ·subst h;simp at hy
   ·exact h
  obtain ⟨z,hz,hc⟩:=h1 hk0;rw [List.getLast?_eq_getElem?,Taw,hMl,Nat.min_eq_left hk,List.getElem?_take,if_pos om,hz] at hy;injection hy with hy
  subst hy;exact hc
 have hdl:((Zaa M).take (Zaa M).length).drop k=Zaa (M.drop k):=by rw [Tap,Zb8]
 refine fN 8 @tmz ?_;refine pS 3 fun a cap=>?_;refine gB ?_;have F:=@tmz;refine gP 3 ?_;clear F;have hkl:k<=(Zaa M).length:=by rw [Zae];omega
 refine (have F:=ai hMl tmz;gSub 3 k (Zaa M).length ⟨hkl,Tai _⟩ ?_);refine gO 33 46 4 ?_;refine (have F:=tmz;gAps (rows:=[]) (rj:=Zaa M) 33 3 ⟨hkl,Tai _⟩ (by rw [Zae];simp only [Tak,maxApp];omega) ?_);rw [hdl,Tah];refine fR @tmz ?_;refine fN 9 @tmz ?_;have hcl:(Zaa M).take k=Zaa (M.take k):=ZbV _ _;have htl:(M.take k).length=k:=by rw [Taw];omega
 refine gF0 ?_;refine gFm 0 ?_;refine gFm 1 ?_;refine (have F:=ai hMl tmz;gFs 2 3 0 k ⟨Taj _,hkl⟩ ?_);rw [Zlu];refine gFm 3 ?_;refine gFm 4 ?_;refine gFm 9 ?_;refine gFT ?_;have l1:(k+1<=maxApp)=True:=eq_true (by unfold maxApp;omega);have l2:((M.take k).length+1+(M.drop k).length<=maxApp)=True:=eq_true (by rw [htl,Tax];unfold maxApp;omega);have e1:Zaa (M.take k)++[Zab x]=Zaa (M.take k++[x]):=by rw [ZbT];rfl
 have e2:Zaa (M.take k++[x])++Zaa (M.drop k)=Zaa (Zax (ts.take (i+1))):=by rw [<- ZbT,<- hMs];simp
 refine gO1 5 ?_;refine (have F:=aj4 q2 hx Zal tmz;gO3 ?_);refine gO1 6 ?_;refine (have F:=ai hx tmz;gO3 ?_);refine gO1 7 ?_;refine (have F:=tmz;gO3 ?_);refine gO1 8 ?_;refine gE [3] [3] (ZAh k hkl) ?_;rw [hcl];refine (have F:=aj4 htl l1 e1 tmz;gO3 ?_);refine gO1 10 ?_;refine (have F:=aj3 l2 e2 tmz;gO3 ?_);refine gO1 11 ?_;refine (have F:=tmz;gO3 ?_);refine (have F:=tmz;gT0 ?_);refine Exists.intro _ (ai (Wk.refl _) ?_)
 have F:=@q4;refine gG ?_;exact ⟨i+1,hlt,gw,gw,om⟩
theorem Zph {ts:List Tm}:Zay ts ↔ ∀ t∈ts,okTm t:=by
 induction ts with
 | nil=>simp [Zay]
 | cons t ts ih=>simp [Zay,ih]
theorem ZEE (op so:Int) (nm:ByteArray) (args:List Tm):bulkRow (Zab (.mk op nm so args))=nm.size+(args.length+bulkRows (Zaa args)):=by
 simp only [Zab,bulkRow,ZaS,Zae];omega
section
variable {g:Sgn}
mutual
theorem Zkn:∀ {t:Tm},ZaF g t->bulkRow (Zab t)+1<=13 * sizeTm t
 | .mk op nm so args,h=>by
  have h1:=Zi9 (Zia.2 (Zbm.1 h).2.1);simp only [Tm.args] at h1;rw [ZEE];simp only [sizeTm];rcases h.node with hv | ⟨o,d,hA⟩
  ·have h2:Zbw nm=true:=hv.2.1;have h3:args=[]:=hv.2.2.2.2;subst h3;have h4:¬ 12 < nm.size:=fun h=>by rw [ZcS (.inr (.inl h))] at h2;cases h2
   simp only [Zaa,bulkRows,sizeTms,Tak];omega
  ·have h2:nm=ByteArray.empty:=hA.nm;subst h2;have:ByteArray.empty.size=0:=rfl;omega
theorem Zi9:∀ {ts:List Tm},Zc8 g ts->bulkRows (Zaa ts)+ts.length<=13 * sizeTms ts
 | [],_=>by simp [Zaa,bulkRows]
 | t::ts,h=>by
  simp only [Zc8] at h;have h1:=Zkn h.1;have h2:=Zi9 h.2;simp only [Zaa,bulkRows,sizeTms,Tag];omega
end
end
def addL (i:Nat):Nat->List Oper->List Oper
 | _,[]=>[]
 | 0,o::l=>{ o with after:=o.after.push ⟨i,.data⟩ }::l
 | k+1,o::l=>o::addL i k l
theorem Zhu (i:Nat):∀ (k:Nat) (l:List Oper) (j:Nat),(addL i k l)[j]?=if j=k then l[j]?.map fun o=>{ o with after:=o.after.push ⟨i,.data⟩ } else l[j]?
 | k,[],j=>by simp [addL]
 | 0,o::l,0=>by simp [addL]
 | 0,o::l,j+1=>by simp [addL]
 | k+1,o::l,0=>by simp [addL]
 | k+1,o::l,j+1=>by simp [addL,Zhu i k l j]
theorem Zl5 (i:Nat):∀ (k:Nat) (l:List Oper),(addL i k l).length=l.length
 | k,[]=>by simp [addL]
 | 0,o::l=>by simp [addL]
 | k+1,o::l=>by simp [addL,Zl5 i k l]
theorem Zl6 (i:Nat):∀ (k:Nat) (l:List Oper),(addL i k l).map (·.dst)=l.map (·.dst)
 | k,[]=>by simp [addL]
 | 0,o::l=>by simp [addL]
 | k+1,o::l=>by simp [addL,Zl6 i k l]
section
variable {P:Program} {l:List Oper} {i k:Nat} {oi ok:Oper}
theorem ZhU {Q:Exit->Act->World->Prop} {j:Nat} {K:Act->World->Prop} {a:Act} {w:World}:wpOp P (addL i k l).toArray Q j K a w ↔ wpOp P l.toArray Q j K a w:=by
 have hb:∀ g:Nat,((addL i k l)[g]?).bind (fun x=>x.dst)=(l[g]?).bind fun x=>x.dst:=fun g=>by
  rw [Zhu];by_cases h:g=k
  ·rw [if_pos h];cases l[g]? <;> rfl
  ·rw [if_neg h]
 have hy:yielded (addL i k l).toArray a.tmps=yielded l.toArray a.tmps:=by
  funext g;unfold yielded;simp only [List.getElem?_toArray,hb]
 unfold wpOp;rw [hy];simp only [List.getElem?_toArray,Zhu];by_cases hjk:j=k
 ·rw [if_pos hjk]
  cases hj:l[j]? with
  | none=>exact Iff.rfl
  | some o=>exact Iff.rfl
 ·rw [if_neg hjk]
def ZAl (ops:Array Oper) (i:Nat):Bool:=(List.range ops.size).all fun j=>j==i || match ops[i]?,ops[j]? with
 | some oi,some oj=>oi.after.any (fun e=>Region.binds .any e && e.on==j) || (oj.after.any (fun e=>Region.binds .any e && e.on==i) || oi.apart ops oj)
 | _,_=>true
def Zqs (ops:Array Oper) (i k:Nat):Bool:=ZgW ops && ZAl ops i && i != k && match ops[i]?,ops[k]? with
 | some oi,some ok=>(match oi with
  | ⟨some _,.extract _ _,_,_,_,none⟩=>true
  | _=>false) && oi.after.all fun e=>!Region.binds .any e || ok.after.any fun e'=>Region.binds .any e' && e'.on==e.on
 | _,_=>false
theorem Zwt {Q:Exit->Act->World->Prop} (hQ:∀ ex a w,Q ex a w->ex=.normal) (hB:Zqs l.toArray i k=true) :
  ∀ (f:Nat) (listed:Array Bool) (a:Act) (w:World),listed.size=l.length->wpAny P .any (addL i k l).toArray Q f listed a w->wpAny P .any l.toArray Q f listed a w:=by
 simp only [Zqs,Tar,bne_iff_ne,ne_eq] at hB;obtain ⟨⟨⟨hsel,hap⟩,hik⟩,h4⟩:=hB;split at h4;rotate_left
 ·cases h4
 rename_i oi ok hoi hok;simp only [Tar] at h4;obtain ⟨h5,h6⟩:=h4;have hpre:∀ e∈oi.after,Region.binds .any e=true->∃ e'∈ok.after,Region.binds .any e'=true∧e'.on=e.on:=fun e he hb=>by
  have:=Array.all_eq_true_iff_forall_mem.1 h6 e he;simp only [hb,Bool.not_true,Bool.false_or,Array.any_eq_true',Tar,beq_iff_eq] at this;obtain ⟨e',q1,q2,q3⟩:=this;exact ⟨e',q1,q2,q3⟩
 have hrdy:∀ (listed:Array Bool) (j:Nat),j∈Region.ready .any (addL i k l).toArray listed ↔ j∈Region.ready .any l.toArray listed∧(j=k->listed.getD i false=true):=fun listed j=>by
  rw [mem_ready,mem_ready];simp only [List.getElem?_toArray,Zhu];by_cases hj:j=k
  ·subst hj;simp only [if_true,true_implies];constructor
   ·rintro ⟨q1,o,q2,q3⟩
    cases hl:l[j]? with
    | none=>rw [hl] at q2;cases q2
    | some o' =>
     rw [hl] at q2;injection q2 with q2
     subst q2;exact ⟨⟨q1,o',rfl,fun e he hb=>q3 e (by simp [he]) hb⟩,q3 ⟨i,.data⟩ (by simp) rfl⟩
   ·rintro ⟨⟨q1,o,q2,q3⟩,q4⟩;refine ⟨q1,_,by rw [q2];rfl,fun e he hb=>?_⟩;rcases Array.mem_push.1 he with he | he
    ·exact q3 e he hb
    ·subst he;exact q4
  ·simp [hj]
 have hun:∀ (listed:Array Bool),listed.size=l.length->k∈Region.ready .any l.toArray listed->i∈Region.ready .any l.toArray listed∨listed.getD i false=true:=fun listed hs hk=>by
  by_cases h:listed.getD i false=true
  ·exact .inr h
  ·left;rw [mem_ready] at hk ⊢;obtain ⟨_,o,q2,q3⟩:=hk;have:o=ok:=by rw [hok] at q2;injection q2 with q2;exact q2.symm
   subst this;have hlt:i < l.length:=by have:=(Tbl.1 hoi).1;simpa using this
   refine ⟨?_,oi,hoi,fun e he hb=>?_⟩
   ·have hl:i < listed.size:=om;rw [ZbP hl];simpa using h
   ·obtain ⟨e',r1,r2,r3⟩:=hpre e he hb;rw [<- r3];exact q3 e' r1 r2
 have hap':=hap;intro f
 induction f with
 | zero =>
  intro listed a w hs h;refine ⟨?_,h.2⟩;by_cases hk:k∈Region.ready .any l.toArray listed
  ·rcases hun listed hs hk with h1 | h1
   ·have:=(hrdy listed i).2 ⟨h1,fun e=>absurd e hik⟩;rw [h.1] at this
    cases this
   ·have:=(hrdy listed k).2 ⟨hk,fun _=>h1⟩;rw [h.1] at this
    cases this
  ·refine List.eq_nil_iff_forall_not_mem.2 fun j hj=>?_;have:=(hrdy listed j).2 ⟨hj,fun e=>absurd (e ▸ hj) hk⟩;rw [h.1] at this
   cases this
 | succ f ih =>
  intro listed a w hs h;by_cases hi:i∈Region.ready .any l.toArray listed
  ·have h1:=h.2 i ((hrdy listed i).2 ⟨hi,fun e=>absurd e hik⟩);rw [ZhU] at h1;have h1':∃ v,Yields P l.toArray oi v a∧wpAny P .any (addL i k l).toArray Q f (listed.setIfInBounds i true) (a.put oi.dst v) w:=by
    unfold wpOp at h1;simp only [hoi] at h1;split at h5;rotate_left
    ·cases h5
    rename_i d x n ty pos af;have hw:Region.wanted ⟨some d,.extract x n,ty,pos,af,none⟩ (yielded l.toArray a.tmps)=true:=by simp [Region.wanted]
    rw [if_pos hw] at h1;rcases h1 with h1 | ⟨_,b,w',h1⟩
    rotate_left
    ·have:=hQ _ _ _ h1;cases this
    unfold Oper.wp at h1
    cases hx:a.eval x with
    | tuple vs =>
     cases hv:vs[n]? with
     | some v =>
      have hrun:∀ w',(execOp a.eval ⟨some d,.extract x n,ty,pos,af,none⟩).run P w'=.ok (.value v) w':=fun w'=>by
       simp [execOp,Instr.extract,hx,hv]
      rw [hrun,Oper.upon_value] at h1;exact ⟨v,.inl ⟨hw,hrun⟩,h1⟩
     | none =>
      simp [execOp,Instr.extract,hx,hv,stuck,Oper.upon] at h1
    | _=>simp [execOp,Instr.extract,hx,stuck,Oper.upon] at h1
   obtain ⟨v,hv,h2⟩:=h1';refine wpAny_first (oi:=oi) (v:=v) hoi (fun j oj cs b hj hsl=>?_) (fun c a w hq=>?_) f listed a w (fun j oj hj hne hl hno=>?_) hi hv (ih _ _ _ (by simpa using hs) h2)
   ·have:=List.all_eq_true.1 hsel oj (Tac (by simpa using hj));rw [hsl] at this
    cases this
   ·have:=hQ _ _ _ hq;cases this
   ·have hjs:=(Tbl.1 hj).1;have:=List.all_eq_true.1 hap j (List.mem_range.2 hjs);simp only [hoi,hj,Bool.or_eq_true,beq_iff_eq,List.any_eq_true,Array.any_eq_true',Tar] at this;rcases this with h1 | h1 | h1 | h1
    ·exact absurd h1 hne
    ·obtain ⟨ed,h2,h3,h4⟩:=h1;obtain ⟨_,o,q2,q3⟩:=mem_ready.1 hi;rw [hoi] at q2;injection q2 with q2
     subst q2;have q4:=q3 ed h2 h3;rw [h4,<- ZbP (by simpa [hs] using hjs)] at q4;rw [hl] at q4
     cases q4
    ·obtain ⟨ed,h2,h3,h4⟩:=h1;exact absurd h4 (hno ed h2 h3)
    ·exact h1
  ·refine ⟨fun h0=>h.1 ?_,fun j hj=>?_⟩
   ·refine List.eq_nil_iff_forall_not_mem.2 fun j hj=>?_;have:=((hrdy listed j).1 hj).1;rw [h0] at this
    cases this
   ·have hj':j∈Region.ready .any (addL i k l).toArray listed:=(hrdy listed j).2 ⟨hj,fun e=>by
     subst e;rcases hun listed hs hj with h1 | h1
     ·exact absurd h1 hi
     ·exact h1⟩
    have h1:=h.2 j hj';rw [ZhU] at h1;exact wpOp_mono (fun a w h=>ih _ a w (by simpa using hs) h) h1
end
section
variable {e:Env} {K:St->Prop} {mask:Nat} {Q:PX->St->Prop} {s:List (Nat × A)} {m:List (Nat × Bk)}
theorem Zwu {l:List Oper} {i k:Nat} {σ:St} (hB:Zqs l.toArray i k=true) (h:ZbU e (addL i k l).toArray K l.length (Array.replicate l.length false) σ):ZbU e l.toArray K l.length (Array.replicate l.length false) σ:=by
 intro he U w0 S0 nt a w hd hs;refine Zwt (fun ex a w hq=>hq.1) hB _ _ _ _ (by simp) (h he U w0 S0 nt a w (fun o ho d hdd=>?_) hs);have:some d∈(addL i k l).map (·.dst):=Tbi.2 ⟨o,by simpa using ho,hdd⟩;rw [Zl6] at this;obtain ⟨o',h1,h2⟩:=Tbi.1 this;exact hd o' (by simpa using h1) d h2
theorem Ztb {l:List Oper} {p:Nat} {σ:St} (hAl:Zfn l.toArray p=true) (hB:regB l.toArray (p+1)=true) (hp:Runs e (l.map (·.dst)) (p+1) l σ K):ZbU e l.toArray K l.length (Array.replicate l.length false) σ:=by
 intro he U w0 S0 nt a w hd hs;have:=Zhc (ops:=l.toArray) he hAl hB (K:=K) (Q:=QN e U w0 S0 nt K) (fun a w σ' hK hs'=>⟨rfl,σ',hK,hs'⟩) hd hs (by simpa using hp);simpa using this
theorem gLt {id:Nat} {l l':List Oper} {ds:List (Option Nat)} (p i k:Nat) (hK:Runs e ds (p+1) l' ⟨s,m⟩ (Zdf mask Q)) (hl:addL i k l=l':=by simp only [addL];exact rfl) (hds:l'.map (·.dst)=ds:=by simp only [Tbu,List.map_nil];exact rfl) (hc:Zqs l.toArray i k=true:=by decide +kernel) (hA:Zfn l'.toArray p=true:=by decide +kernel) (hr:regB l'.toArray (p+1)=true:=by decide +kernel):pwp e mask (.region id l.toArray true) ⟨s,m⟩ Q:=by
 subst hl hds;have h1:=Zwu hc (by have:=Ztb hA hr hK;rwa [Zl5] at this);exact Zki (ops:=l.toArray) (by simpa using h1)
end
def ZDU (ops:Array Oper) (ok:Oper):List Nat:=(ok.after.toList.filter fun e=>Region.binds .any e).flatMap fun e=>e.on::match ops[e.on]? with
 | some o=>(o.after.toList.filter fun e=>Region.binds .any e).map (·.on)
 | none=>[]
def Zqt (ops:Array Oper) (i k:Nat):Bool:=ZgW ops && ZAl ops i && i != k && match ops[i]?,ops[k]? with
 | some oi,some ok=>(match oi with
  | ⟨some _,.pick _ _ _,_,_,_,none⟩=>true
  | _=>false) && oi.after.all fun e=>!Region.binds .any e || (ZDU ops ok).contains e.on
 | _,_=>false
section
variable {P:Program} {l:List Oper} {i k:Nat}
def Ziz (l:List Oper) (listed:Array Bool):Prop:=∀ (j:Nat) o,listed.getD j false=true->l[j]?=some o->∀ e∈o.after,Region.binds .any e=true->listed.getD e.on false=true
theorem Ziz.put {listed:Array Bool} {j:Nat} (hc:Ziz l listed) (hj:j∈Region.ready .any l.toArray listed):Ziz l (listed.setIfInBounds j true):=by
 intro q o hq ho e he hb;obtain ⟨_,o',h2,h3⟩:=mem_ready.1 hj;have hmono:∀ t,listed.getD t false=true->(listed.setIfInBounds j true).getD t false=true:=fun t ht=>by
  by_cases htj:t=j
  ·subst htj;simp only [Array.getD_eq_getD_getElem?,Array.getElem?_setIfInBounds] at ht ⊢
   cases hl:listed[t]? with
   | none=>rw [hl] at ht;cases ht
   | some b =>
    have:t < listed.size:=(Tbl.1 hl).1;simp [this]
  ·rw [getD_set_ne false (Ne.symm htj)];exact ht
 by_cases hqj:q=j
 ·subst hqj;have:o'=o:=by
   rw [List.getElem?_toArray,ho] at h2;injection h2 with h2
   exact h2.symm
  subst this;exact hmono _ (h3 e he hb)
 ·rw [getD_set_ne false (Ne.symm hqj)] at hq;exact hmono _ (hc q o hq ho e he hb)
theorem Ztc {Q:Exit->Act->World->Prop} (hQ:∀ ex a w,Q ex a w->ex=.normal) (hB:Zqt l.toArray i k=true) :
  ∀ (f:Nat) (listed:Array Bool) (a:Act) (w:World),listed.size=l.length->Ziz l listed->wpAny P .any (addL i k l).toArray Q f listed a w->wpAny P .any l.toArray Q f listed a w:=by
 simp only [Zqt,Tar,bne_iff_ne,ne_eq] at hB;obtain ⟨⟨⟨hsel,hap⟩,hik⟩,h4⟩:=hB;split at h4;rotate_left
 ·cases h4
 rename_i oi ok hoi hok;simp only [Tar] at h4;obtain ⟨h5,h6⟩:=h4;have hrdy:∀ (listed:Array Bool) (j:Nat),j∈Region.ready .any (addL i k l).toArray listed ↔ j∈Region.ready .any l.toArray listed∧(j=k->listed.getD i false=true):=fun listed j=>by
  rw [mem_ready,mem_ready];simp only [List.getElem?_toArray,Zhu];by_cases hj:j=k
  ·subst hj;simp only [if_true,true_implies];constructor
   ·rintro ⟨q1,o,q2,q3⟩
    cases hl:l[j]? with
    | none=>rw [hl] at q2;cases q2
    | some o' =>
     rw [hl] at q2;injection q2 with q2
     subst q2;exact ⟨⟨q1,o',rfl,fun e he hb=>q3 e (by simp [he]) hb⟩,q3 ⟨i,.data⟩ (by simp) rfl⟩
   ·rintro ⟨⟨q1,o,q2,q3⟩,q4⟩;refine ⟨q1,_,by rw [q2];rfl,fun e he hb=>?_⟩;rcases Array.mem_push.1 he with he | he
    ·exact q3 e he hb
    ·subst he;exact q4
  ·simp [hj]
 have hun:∀ (listed:Array Bool),listed.size=l.length->Ziz l listed->k∈Region.ready .any l.toArray listed->i∈Region.ready .any l.toArray listed∨listed.getD i false=true:=fun listed hs hcl hk=>by
  by_cases h:listed.getD i false=true
  ·exact .inr h
  ·left;rw [mem_ready] at hk ⊢;obtain ⟨_,o,q2,q3⟩:=hk;have:o=ok:=by rw [hok] at q2;injection q2 with q2;exact q2.symm
   subst this;have hlt:i < l.length:=by have:=(Tbl.1 hoi).1;simpa using this
   refine ⟨?_,oi,hoi,fun e he hb=>?_⟩
   ·have hl:i < listed.size:=om;rw [ZbP hl];simpa using h
   ·have:=Array.all_eq_true_iff_forall_mem.1 h6 e he;simp only [hb,Bool.not_true,Bool.false_or,List.contains_eq_mem,decide_eq_true_eq,ZDU,List.mem_flatMap,List.mem_filter,Tbg] at this;obtain ⟨e',⟨r1,r2⟩,r3⟩:=this;have hl':=q3 e' (Array.mem_toList_iff.1 r1) r2;rcases r3 with r3 | r3
    ·rw [r3];exact hl'
    ·cases ho':l.toArray[e'.on]? with
     | none=>rw [ho'] at r3;simp at r3
     | some o' =>
      rw [ho'] at r3;simp only [Tbi,List.mem_filter] at r3;obtain ⟨e2,⟨r4,r5⟩,r6⟩:=r3;rw [<- r6];exact hcl e'.on o' hl' (by simpa using ho') e2 (Array.mem_toList_iff.1 r4) r5
 intro f
 induction f with
 | zero =>
  intro listed a w hs hcl h;refine ⟨?_,h.2⟩;by_cases hk:k∈Region.ready .any l.toArray listed
  ·rcases hun listed hs hcl hk with h1 | h1
   ·have:=(hrdy listed i).2 ⟨h1,fun e=>absurd e hik⟩;rw [h.1] at this
    cases this
   ·have:=(hrdy listed k).2 ⟨hk,fun _=>h1⟩;rw [h.1] at this
    cases this
  ·refine List.eq_nil_iff_forall_not_mem.2 fun j hj=>?_;have:=(hrdy listed j).2 ⟨hj,fun e=>absurd (e ▸ hj) hk⟩;rw [h.1] at this
   cases this
 | succ f ih =>
  intro listed a w hs hcl h;by_cases hi:i∈Region.ready .any l.toArray listed
  ·have h1:=h.2 i ((hrdy listed i).2 ⟨hi,fun e=>absurd e hik⟩);rw [ZhU] at h1;have h1':∃ v,Yields P l.toArray oi v a∧wpAny P .any (addL i k l).toArray Q f (listed.setIfInBounds i true) (a.put oi.dst v) w:=by
    unfold wpOp at h1;simp only [hoi] at h1;split at h5;rotate_left
    ·cases h5
    rename_i d x y z ty pos af;have hw:Region.wanted ⟨some d,.pick x y z,ty,pos,af,none⟩ (yielded l.toArray a.tmps)=true:=by simp [Region.wanted]
    rw [if_pos hw] at h1;rcases h1 with h1 | ⟨_,b,w',h1⟩
    rotate_left
    ·have:=hQ _ _ _ h1;cases this
    unfold Oper.wp at h1
    cases hx:a.eval x with
    | bool b =>
     have hrun:∀ w',(execOp a.eval ⟨some d,.pick x y z,ty,pos,af,none⟩).run P w'=.ok (.value (if b then a.eval y else a.eval z)) w':=fun w'=>by
      cases b <;> simp [execOp,hx,asBool]
     rw [hrun,Oper.upon_value] at h1;exact ⟨_,.inl ⟨hw,hrun⟩,h1⟩
    | _=>simp [execOp,hx,asBool,stuck,Oper.upon,Result.andThen] at h1
   obtain ⟨v,hv,h2⟩:=h1';refine wpAny_first (oi:=oi) (v:=v) hoi (fun j oj cs b hj hsl=>?_) (fun c a w hq=>?_) f listed a w (fun j oj hj hne hl hno=>?_) hi hv (ih _ _ _ (by simpa using hs) (hcl.put hi) h2)
   ·have:=List.all_eq_true.1 hsel oj (Tac (by simpa using hj));rw [hsl] at this
    cases this
   ·have:=hQ _ _ _ hq;cases this
   ·have hjs:=(Tbl.1 hj).1;have:=List.all_eq_true.1 hap j (List.mem_range.2 hjs);simp only [hoi,hj,Bool.or_eq_true,beq_iff_eq,List.any_eq_true,Array.any_eq_true',Tar] at this;rcases this with h1 | h1 | h1 | h1
    ·exact absurd h1 hne
    ·obtain ⟨ed,h2,h3,h4⟩:=h1;obtain ⟨_,o,q2,q3⟩:=mem_ready.1 hi;rw [hoi] at q2;injection q2 with q2
     subst q2;have q4:=q3 ed h2 h3;rw [h4,<- ZbP (by simpa [hs] using hjs)] at q4;rw [hl] at q4
     cases q4
    ·obtain ⟨ed,h2,h3,h4⟩:=h1;exact absurd h4 (hno ed h2 h3)
    ·exact h1
  ·refine ⟨fun h0=>h.1 ?_,fun j hj=>?_⟩
   ·refine List.eq_nil_iff_forall_not_mem.2 fun j hj=>?_;have:=((hrdy listed j).1 hj).1;rw [h0] at this
    cases this
   ·have hj':j∈Region.ready .any (addL i k l).toArray listed:=(hrdy listed j).2 ⟨hj,fun e=>by
     subst e;rcases hun listed hs hcl hj with h1 | h1
     ·exact absurd h1 hi
     ·exact h1⟩
    have h1:=h.2 j hj';rw [ZhU] at h1;exact wpOp_mono (fun a w h=>ih _ a w (by simpa using hs) (hcl.put hj) h) h1
end
section
variable {e:Env} {K:St->Prop} {mask:Nat} {Q:PX->St->Prop} {s:List (Nat × A)} {m:List (Nat × Bk)}
theorem Ztd {l:List Oper} {i k:Nat} {σ:St} (hB:Zqt l.toArray i k=true) (h:ZbU e (addL i k l).toArray K l.length (Array.replicate l.length false) σ):ZbU e l.toArray K l.length (Array.replicate l.length false) σ:=by
 intro he U w0 S0 nt a w hd hs;refine Ztc (fun ex a w hq=>hq.1) hB _ _ _ _ (by simp) (fun j o hj=>by rw [getD_replicate_false] at hj;cases hj) (h he U w0 S0 nt a w (fun o ho d hdd=>?_) hs);have:some d∈(addL i k l).map (·.dst):=Tbi.2 ⟨o,by simpa using ho,hdd⟩;rw [Zl6] at this;obtain ⟨o',h1,h2⟩:=Tbi.1 this;exact hd o' (by simpa using h1) d h2
theorem Znn (he:e.Ok) {U:Nat->Prop} {w0:World} {S0:Nat->Prop} {nt:Nat} {ops:Array Oper} {n:Nat} (hB:regB ops n=true) (hna:∀ o,(ops.toList.take n).getLast?=some o->isAl o=false) {Q:Exit->Act->World->Prop} (hQ:∀ a w σ',K σ'->SimE e U w0 S0 nt σ' a w->Q .normal a w) {σ:St} {a:Act} {w:World}
  (hd:∀ o∈ops.toList,∀ d,o.dst=some d->d < nt) (h:SimE e U w0 S0 nt σ a w) (hp:Runs e (ops.toList.map (·.dst)) n ops.toList σ K):wpAny e.P .any ops Q ops.size (Array.replicate ops.size false) a w:=by
 simp only [regB,Tar,Bool.or_eq_true,decide_eq_true_eq] at hB;obtain ⟨⟨⟨hH,hn⟩,hs⟩,hsq⟩:=hB;obtain ⟨S,L,h1⟩:=h;have hsplit:ops.toList=ops.toList.take n++ops.toList.drop n:=(Tbm n _).symm;have hlen:(ops.toList.take n).length=n:=by simp;omega
 have hp':Runs e (ops.toList.map (·.dst)) ((ops.toList.take n).length+0) (ops.toList.take n++ops.toList.drop n) σ K:=by rw [<- hsplit,hlen];exact hp
 obtain ⟨αs,hal,hch,hrest⟩:=ZeQ (U:=U) he w0.heap.size S0 ops.toList (ops.toList.drop n) 0 (ops.toList.take n) σ (fun _=>hna) hp';rw [hlen] at hal
 have inv0:InvA e U w0 S0 nt σ.m ops n σ.s αs L (Array.replicate ops.size false) a w S :=
  ⟨⟨by simp,fun j oj _ hl=>(by rw [getD_replicate_false] at hl;cases hl),fun t _ ht=>getD_in (by simpa using ht) (getD_replicate_false _ _)⟩,h1.size,h1.defers,h1.cls,h1.kept,fun t _=>h1.rel t,fun i o d α _ hl=>(by rw [getD_replicate_false] at hl;cases hl)⟩
 have H:=ZdT (e:=e) (L:=L) (Q:=Q) he hH hn (fun hlt=>by
   rcases hs with hs | hs
   ·omega
   ·exact hs) hsq (fun i o d hi ho hdd=>hd o (List.mem_iff_getElem?.2 ⟨i,by simpa using ho⟩) d hdd) hal hch (Zh2 hH Q) (fun _ _ _ _ _ _ _ _ _ _ _ _ _ _=>trivial) (fun listed a' w' S' hI _ hall=>?_) n _ a _ S inv0 trivial ?_
 ·rw [show n+(ops.size - n)=ops.size by omega] at H;exact H
 ·have hsim:SimE e U w0 S0 nt ⟨after σ.s (ops.toList.take n) αs,σ.m⟩ a' w':=by
   refine ⟨S',L,hI.cls,fun t=>?_,hI.size,hI.defers,hI.kept⟩;by_cases hex:∃ (j:Nat) (p:Oper),j < n∧ops[j]?=some p∧p.dst=some t
   ·obtain ⟨j,p,hj,hp,hpt⟩:=hex;obtain ⟨p',d',hP⟩:=ZcR.get hH hj;have hpp:p'=p:=by have:=hP.op;rw [hp] at this;injection this with this;exact this.symm
    subst hpp;have hdt:d'=t:=by have:=hP.dst;rw [hpt] at this;injection this with this;exact this.symm
    subst hdt;obtain ⟨α,hα⟩:∃ α,αs[j]?=some α:=⟨αs[j],Taa om⟩;show ARel w' S' L (gs (after σ.s (ops.toList.take n) αs) d') _;rw [Zeo (ops.toList.take n) αs σ.s j p' α (by rw [List.getElem?_take,if_pos hj];simpa using hp) hα hpt (fun k q hk hq=>by
     rw [List.getElem?_take] at hq;split at hq
     ·exact (hP.dep k q om (by simpa using hq)).1 hk
     ·cases hq)]
    exact hI.done j p' d' α hj (hall j hj) hp hpt hα
   ·have hno:∀ (j:Nat) (p:Oper),j < n->ops[j]?=some p->p.dst≠some t:=fun j p hj hp hd=>hex ⟨j,p,hj,hp,hd⟩;show ARel w' S' L (gs (after σ.s (ops.toList.take n) αs) t) _;rw [Zdx _ _ _ (fun p hp=>by
     obtain ⟨j,hj⟩:=List.mem_iff_getElem?.1 hp;rw [List.getElem?_take] at hj;split at hj
     ·exact hno j p om (by simpa using hj)
     ·cases hj)]
    exact hI.out t hno
  have:=Zn6 he ops.toList hQ (ops.toList.drop n) _ a' w' (fun o ho=>hd o (List.mem_of_mem_drop ho)) hsim hrest;simpa using this
 ·rw [List.countP_eq_length.2]
  ·simp
  ·intro i hi;have hi':=List.mem_range.1 hi;have hsz:i < (Array.replicate ops.size false).size:=by simp;omega
   rw [ZbP hsz,getD_replicate_false];rfl
theorem Zwv {l:List Oper} {n:Nat} {σ:St} (hB:regB l.toArray n=true) (hna:∀ o,(l.take n).getLast?=some o->isAl o=false) (hp:Runs e (l.map (·.dst)) n l σ K):ZbU e l.toArray K l.length (Array.replicate l.length false) σ:=by
 intro he U w0 S0 nt a w hd hs;have:=Znn (ops:=l.toArray) (n:=n) he hB (by simpa using hna) (K:=K) (Q:=QN e U w0 S0 nt K) (fun a w σ' hK hs'=>⟨rfl,σ',hK,hs'⟩) hd hs (by simpa using hp);simpa using this
def ZAm (l:List Oper) (n:Nat):Bool:=match (l.take n).getLast? with
 | some o=>!isAl o
 | none=>true
theorem gLp {id:Nat} {l l':List Oper} {ds:List (Option Nat)} (n i k:Nat) (hK:Runs e ds n l' ⟨s,m⟩ (Zdf mask Q)) (hl:addL i k l=l':=by simp only [addL];exact rfl) (hds:l'.map (·.dst)=ds:=by simp only [Tbu,List.map_nil];exact rfl) (hc:Zqt l.toArray i k=true:=by decide +kernel) (hA:ZAm l' n=true:=by decide +kernel) (hr:regB l'.toArray n=true:=by decide +kernel):pwp e mask (.region id l.toArray true) ⟨s,m⟩ Q:=by
 subst hl hds;have h1:=Ztd hc (by have:=Zwv hr (fun o ho=>by unfold ZAm at hA;rw [ho] at hA;simpa using hA) hK;rwa [Zl5] at this);exact Zki (ops:=l.toArray) (by simpa using h1)
end
end Go.Proofs.YtcgacanpeaiabaaGreatDoor
namespace Go.Proofs.YtcgacanpeaiabaaGreatDoor
open Go.RowKit
open Classical in
noncomputable def mk6 (g:Sgn) (o:Opr) (d:Dcl) (op:Int) (xs:List Tm):Tm:=(mkO g o d op xs).getD (if ¬ ArB o d xs.length∧∀ (i:Nat) a,xs[i]?=some a->KArg g o d i a then appT op (srtO o (Zaz o op xs)) else zTm)
theorem ZrP {g:Sgn} {o:Opr} {op:Int} {xs:List Tm} (h:∀ a∈xs,TermOk g a):∀ b∈Zaz o op xs,ZaF g b:=by
 intro b hb;obtain ⟨a,h1,h2⟩:=List.mem_flatMap.1 hb;have hf:=(h a h1).form;unfold ZbJ at h2;split at h2
 ·exact (Zbm.1 hf).2.1 b h2
 ·split at h2
  ·cases h2
  ·rw [Tbj.1 h2];exact hf
theorem Zpi:∀ (l m:List Tm),sizeTms (l++m)=sizeTms l+sizeTms m
 | [],m=>by simp [sizeTms]
 | x::l,m=>by simp only [Taf,sizeTms,Zpi l m];omega
theorem Zl7 {g:Sgn} {o:Opr} {op:Int}:∀ {xs:List Tm},(∀ a∈xs,TermOk g a)->sizeTms (Zaz o op xs)<=60 * xs.length
 | [],_=>by simp [Zaz,sizeTms]
 | a::xs,h=>by
  have ih:=Zl7 (o:=o) (op:=op) (xs:=xs) fun x hx=>h x (Tal _ hx);have ha:=(h a Tas).size;have e:Zaz o op (a::xs)=ZbJ o op a++Zaz o op xs:=rfl;have hz:=Zbz a;have hf:sizeTms (ZbJ o op a)<=sizeTm a:=by
   unfold ZbJ;split
   ·omega
   ·split
    ·simp [sizeTms]
    ·simp [sizeTms]
  rw [e,Zpi,Tag];omega
theorem ZEF {g:Sgn} {o:Opr} {op:Int} {xs:List Tm} (h:∀ a∈xs,TermOk g a) (hl:xs.length<=1000):tmsB (Zaz o op xs):=by
 have h1:=Zi9 (Zia.2 (ZrP (o:=o) (op:=op) h));have h2:=Zl7 (o:=o) (op:=op) h;unfold tmsB;omega
theorem Zww {l m:List Tm} (h:l.Perm m):bulkRows (Zaa l)=bulkRows (Zaa m):=by
 induction h with
 | nil=>rfl
 | cons x h ih=>simp only [Zaa,bulkRows,ih]
 | swap x y l=>simp only [Zaa,bulkRows];omega
 | trans h1 h2 a b=>rw [a,b]
section
variable {g:Sgn}
open Classical in
theorem Zno (hokg:Zcg g) (hg:SgnOk g) {op:Int} {o:Opr} {d:Dcl} (h0:0<=op) (ho:g.ops[op.toNat]?=some o) (hd:o.decls[0]?=some d) (xs:List Tm) (ha:∀ a∈xs,TermOk g a) (hl:xs.length<=1000):Con e0 218 [.agg (Zas g),.one (.lit (.int .i64 op)),.one (.sl (Zaa xs))] [.agg (Zab (mk6 g o d op xs)),.one (.lit (.bool (mkO g o d op xs).isSome))]:=by
 have hz:=Zc9;have hfb:=ZEF (o:=o) (op:=op) ha hl;have hfo:Zay (Zaz o op xs):=Zph.2 fun b hb=>ZaF.ok hg _ b (Tan _) (ZrP ha b hb);have hfs:=Zl7 (o:=o) (op:=op) ha;have hax:=hg.axs o (Tac ho);have hlo:=hax.lo;have hhi:=hax.hi;have hln:=hg.len;obtain ⟨d',hd',hr0,hr1,hargs⟩:=hg.first ho;rw [hd] at hd';injection hd' with hd'
 subst hd';have cK:=Ze9 hg.sorts;rw [Zbh] at cK;have cUn:=Zna hg h0 ho;rw [Zas] at cUn;have cA:=Zf9 hd;rw [Zbf] at cA;have hB:mkO g o d op xs=if ArB o d xs.length then none else if ∀ (i:Nat) a,xs[i]?=some a->KArg g o d i a then mkL o op (Zaz o op xs) else none:=rfl
 have hM:mk6 g o d op xs=(mkO g o d op xs).getD (if ¬ ArB o d xs.length∧∀ (i:Nat) a,xs[i]?=some a->KArg g o d i a then appT op (srtO o (Zaz o op xs)) else zTm):=rfl;have har2:o.assoc=true->d.args.length=2:=fun h=>by
  obtain ⟨k1,k2,hk,_⟩:=Opr.two hg ho hd (.inl h);rw [hk];rfl
 refine gI (ts:=[.cell 6 46,.slot 7]) 691281634562849416457226259614436229071 Tryz.func218 ?_;refine fN 2 (aj5 @tmz @Zat @h0 @ho @Zah) ?_;refine gB ?_;refine fC @tmz (cK) ?_;refine fR @tmz ?_;refine fN 3 @tmz ?_;refine gM (ι:=Bool) [38] [] (fun b=>[(38,A.d (.one (.lit (.bool b))))]) (fun b=>[]) (fun b=>b=decide (ArB o d xs.length)) ?_ (fun b hb=>Exists.intro _ (ai (Wk.refl _) ?_))
 ·refine gB ?_;refine fC (ai @tmz @Zah) (cA) ?_;by_cases q:xs.length=d.args.length
  ·have q1:((xs.length:Int)=(d.args.length:Int))=True:=eq_true om;have hA:¬ ArB o d xs.length:=fun h=>h.elim (fun h=>by have:=har2 h.1;omega) fun h=>h.2 q;refine fR (ai @q1 @tmz) ?_;have F:=@tmz;refine gG ?_;exact ⟨false,(decide_eq_false hA).symm,gw,gw⟩
  have q1:((xs.length:Int)=(d.args.length:Int))=False:=eq_false om
  cases hac:o.assoc with
  | false =>
   have hA:ArB o d xs.length:=.inr ⟨hac,q⟩;refine fR (aj3 @q1 @hac @tmz) ?_;have F:=@tmz;refine gG ?_;exact ⟨true,(decide_eq_true hA).symm,gw,gw⟩
  | true =>
  by_cases q2:xs.length < 2
  ·have hA:ArB o d xs.length:=.inl ⟨hac,q2⟩;have q3:((2:Int)<=(xs.length:Int))=False:=eq_false om;refine fR (aj4 @q1 @hac @q3 @tmz) ?_;have F:=@tmz;refine gG ?_;exact ⟨true,(decide_eq_true hA).symm,gw,gw⟩
  ·have hA:¬ ArB o d xs.length:=fun h=>h.elim (fun h=>q2 h.2) fun h=>by rw [hac] at h;cases h.1
   have q3:((2:Int)<=(xs.length:Int))=True:=eq_true om;refine fR (aj4 @q1 @hac @q3 @tmz) ?_;have F:=@tmz;refine gG ?_;exact ⟨false,(decide_eq_false hA).symm,gw,gw⟩
 by_cases hAr:ArB o d xs.length
 ·rw [decide_eq_true hAr] at hb;subst hb;rw [if_pos hAr] at hB;rw [hB,if_neg fun h=>h.1 hAr] at hM;rw [hM,hB];exact fD (ai @hz @tmz)
 rw [decide_eq_false hAr] at hb;subst hb;rw [if_neg hAr] at hB;have hnas:o.assoc=false->xs.length=d.args.length:=fun h=>Classical.byContradiction fun c=>hAr (.inr ⟨h,c⟩);have hfl0:Zaz o op []=[]:=rfl;refine fN 5 @tmz ?_;refine gB ?_;refine fC @tmz (cUn) ?_;refine fR @tmz ?_;refine fG @tmz ?_;have F:=aj3 @hfl0 @Zdm @tmz;refine gL (ι:=Nat) [7,12,13,14,50,55,73,82,92] [12] (fun i=>[(13,A.d (.one (.lit (.int .i64 i)))),(12,.buf 12)]) (fun i=>[(12,.buf none 46 4 (Zaa (Zaz o op (xs.take i))))]) (fun i=>i<=xs.length∧∀ (j:Nat) a,j < i->xs[j]?=some a->KArg g o d j a) (fun i=>xs.length - i) (0) (⟨Taj _,fun j a h=>absurd h om⟩) (fun i hi=>?_);clear F
 obtain ⟨hi,hall⟩:=hi;by_cases hlt:i < xs.length
 ·obtain ⟨a,hai⟩:∃ a,xs[i]?=some a:=⟨_,Taa hlt⟩;have hT:=ha a (Tac hai);have q1:=lT i xs.length;have hw1:=Zan (k:=i) om;obtain ⟨k,hk⟩:=ZhQ hg ho hd hnas hlt;obtain ⟨hk0,hk1⟩:=hargs k (Tac hk);have hkd:=Zhn hg.sorts hk0 hk1;have hkN:d.args[(argAt o i:Nat)]?=some k:=hk;have cKa:=ZgU hokg hg hT.form.node;rw [Zas] at cKa;have cU:=ZcC (hT.ok hg) (Zpa (o:=o) hlo om);have hUiff:o.unit≠0->(Zag a (Zb5 o)=0 ↔ a.op=o.unit - 1):=fun hu=>by
   rw [Zbo];constructor
   ·rintro h;rw [h];simp [Zb5,Tm.op,hu]
   ·exact Zj9 hg ho hu hT.form
  generalize hU:decide (Zag a (Zb5 o)=0)=U at cU;have hst:=Zlr (o:=o) (op:=op) hai;have hle:=ZhT o op xs (i+1);rw [hst,Tae] at hle;have hfl:=Zb7 (Zaz o op xs);have hnext:Zbb g a=((kd g.sorts k:Nat):Int)->i+1<=xs.length∧∀ (j:Nat) a,j < i+1->xs[j]?=some a->KArg g o d j a:=fun hkk=>⟨hlt,fun j a' hj ha'=>by
   by_cases e:j=i
   ·subst e;rw [hai] at ha';injection ha' with ha'
    subst ha';exact ⟨k,hk,hkk⟩
   ·exact hall j a' om ha'⟩
  refine fG (ai @q1 @tmz) ?_;refine gM (ι:=Unit) [14] [] (fun u=>[(14,A.d (.one (.lit (.int .i64 (argAt o i:Nat)))))]) (fun u=>[]) (fun u=>True) ?_ (fun u hu=>Exists.intro _ (ai (Wk.refl _) ?_))
  ·rcases Bool.eq_false_or_eq_true o.assoc with hac | hac
   ·have F:=aj3 @Zah @hac @ZkU;refine gG ?_;exact ⟨(),trivial,gw,gw⟩
   ·have F:=aj4 @Zah @hac @ZkU @if_false.{1};refine gG ?_;exact ⟨(),trivial,gw,gw⟩
  refine fN 13 @tmz ?_;refine gB ?_;refine fC (ai @hai @tmz) (cKa) ?_;by_cases hkk:Zbb g a=((kd g.sorts k:Nat):Int);rotate_left
  ·have hno:¬ ∀ (i:Nat) a,xs[i]?=some a->KArg g o d i a:=fun h=>by
    obtain ⟨k',hk',he⟩:=h i a hai;rw [hk] at hk';injection hk' with hk'
    subst hk';exact hkk he
   rw [if_neg hno] at hB;rw [hB,if_neg fun h=>hno h.2] at hM;rw [hM,hB];refine fR (aj9 @tmz @Zah @hd @Za1 @hkN @hk0 @hkd @ZaU @hkk) ?_;exact fD (ai @hz @tmz)
  have hnext:=hnext hkk;have l1:Zav 4 (Zaa (Zaz o op (xs.take i)))=true:=Zc7 _;have l5:Zav 4 (Zaa a.args)=true:=Zc7 _;refine fR (aj9 @tmz @Zah @hd @Za1 @hkN @hk0 @hkd @ZaU @hkk) ?_;refine fN 16 @tmz ?_;refine gM (ι:=Bool) [82] [] (fun b=>[(82,A.d (.one (.lit (.bool b))))]) (fun b=>[]) (fun b=>b=decide (o.unit≠0∧a.op=o.unit - 1)) ?_ (fun b hb=>Exists.intro _ (ai (Wk.refl _) ?_))
  ·by_cases hu:o.unit=0
   ·have F:=ai @hu @tmz;refine gG ?_;exact ⟨false,(decide_eq_false fun h=>h.1 hu).symm,gw,gw⟩
   ·refine gB ?_;refine fC (aj3 @hu @hai @tmz) (cU) ?_;refine fR @tmz ?_;have e:U=decide (o.unit≠0∧a.op=o.unit - 1):=by
     rw [<- hU];exact decide_eq_decide.2 ⟨fun h=>⟨hu,(hUiff hu).1 h⟩,fun h=>(hUiff hu).2 h.2⟩
    have F:=ai @hu @tmz;refine gG ?_;exact ⟨U,e,gw,gw⟩
  by_cases hUn:o.unit≠0∧a.op=o.unit - 1
  ·rw [decide_eq_true hUn] at hb;subst hb;have hN:¬ (o.assoc=true∧a.op=op):=fun h=>by
    have e:(Zb5 o).args=[]:=by unfold Zb5;rfl
    have e2:=Zj9 hg ho hUn.1 hT.form hUn.2;obtain ⟨o',d',hA⟩:=hT.form.node.app om;have:o'=o:=by have:=hA.at';rw [h.2,ho] at this;injection this with this;exact this.symm
    subst this;have:=(hA.asc h.1).1;rw [e2,e] at this;simp at this
   have e:ZbJ o op a=[]:=by unfold ZbJ;rw [if_neg hN,if_pos hUn]
   rw [e,List.append_nil] at hst;rw [<- hst];have F:=ai @tmz @hw1;refine gG ?_;exact ⟨i+1,hnext,gw,gw,om⟩
  rw [decide_eq_false hUn] at hb;subst hb;by_cases hN:o.assoc=true∧a.op=op
  ·have e:ZbJ o op a=a.args:=by unfold ZbJ;rw [if_pos hN]
   rw [e] at hst hle;have l3:((Zaz o op (xs.take i)).length+a.args.length<=maxApp)=True:=eq_true (by unfold maxApp;omega);have l4:Zaa (Zaz o op (xs.take i))++Zaa a.args=Zaa (Zaz o op (xs.take (i+1))):=by rw [hst,ZbT]
   obtain ⟨hN1,hN2⟩:=hN;have q2:(a.op=op)=True:=eq_true hN2;have F:=aj10 @tmz @hai @Zah @hN1 @q2 @l1 @l5 @l3 @l4 @hw1;refine gG ?_;exact ⟨i+1,hnext,gw,gw,om⟩
  ·have e:ZbJ o op a=[a]:=by unfold ZbJ;rw [if_neg hN,if_neg hUn]
   rw [e] at hst hle;have l3:((Zaz o op (xs.take i)).length+1<=maxApp)=True:=eq_true (by simp only [Tag,Tak] at hle;unfold maxApp;omega);have l4:Zaa (Zaz o op (xs.take i))++[Zab a]=Zaa (Zaz o op (xs.take (i+1))):=by rw [hst,ZbT,Zeg]
   rcases Bool.eq_false_or_eq_true o.assoc with hac | hac
   ·have hq:(a.op=op)=False:=eq_false fun h=>hN ⟨hac,h⟩;have F:=aj9 @tmz @hai @Zah @hac @hq @l1 @l3 @l4 @hw1;refine gG ?_;exact ⟨i+1,hnext,gw,gw,om⟩
   ·have F:=aj8 @tmz @hai @Zah @hac @l1 @l3 @l4 @hw1;refine gG ?_;exact ⟨i+1,hnext,gw,gw,om⟩
 ·obtain rfl:i=xs.length:=by omega
  have q1:=lF xs.length xs.length;rw [Tap];have hAll:∀ (i:Nat) a,xs[i]?=some a->KArg g o d i a:=fun j a h=>hall j a (Tad.1 h).1 h;rw [if_pos hAll] at hB;rw [hB,if_pos ⟨hAr,hAll⟩] at hM;rw [hM,hB];clear hM hB hall hAll hnas;generalize hL:Zaz o op xs=L at hfb hfo hfs ⊢;have hLb:L.length+bulkRows (Zaa L)<=1048576:=hfb;refine fN 19 (ai @q1 @tmz) ?_;refine pS 12 fun a cap=>?_;refine pD 12 [12] [] ?_;by_cases hu:o.unit≠0∧L.length < 2
  ·have e:mkL o op L=some (L.headD (Zb5 o)):=by unfold mkL;rw [if_pos hu]
   rw [e];obtain ⟨hu1,hu2⟩:=hu;have q2:(o.unit=0)=False:=eq_false hu1
   cases L with
   | nil =>
    have z2:(((0:Nat):Int)=0)=True:=eq_true om;exact fD (aj5 @q1 @Zah @q2 @z2 @tmz)
   | cons b bs =>
    have hbs:bs=[]:=Tao (by simp only [Tag] at hu2;omega);subst hbs;have hbb:bulkRow (Zab b)<=1048576:=by simp only [Zaa,bulkRows] at hLb;omega
    have z1:(((0+1:Nat):Int)=0)=False:=eq_false om;have z2:(((0+1:Nat):Int)=1)=True:=eq_true om;have z3:(((1:Nat):Int)=0)=False:=eq_false om;have z4:(((1:Nat):Int)=1)=True:=eq_true om;have q5:([b]:List Tm)[0]?=some b:=rfl;have z5:(0 < 0+1)=True:=eq_true om;have z6:((0:Nat) < 1)=True:=eq_true om;have z7:Int.toNat 0=0:=rfl;refine fN 22 (aj12 @q1 @Zah @q2 @z1 @z2 @z3 @z4 @z5 @z6 @z7 @q5 @tmz) ?_;refine gB ?_
    refine fC (aj5 @z5 @z6 @z7 @q5 @tmz) (ZeY b hbb) ?_;refine fR @tmz ?_;exact fD @tmz
  ·have hml:mkL o op L=if BigT o op (srtO o L) then none else some (appT op (srtO o L)):=by unfold mkL;rw [if_neg hu]
   rw [hml];clear hml cUn cK cA;have hSl:=ZrC o L;have hSp:=Zgx o L;have sz1:=Zka hSp;have dz1:=Zjx hSp;have sl1:=Zb7 L;have cSo:=Zkm L hfo hfb;refine gM (ι:=Unit) [116] [] (fun v=>[(116,A.d (.one (.lit (.bool false))))]) (fun v=>[]) (fun v=>True) ?_ (fun v hv=>Exists.intro _ (ai (Wk.refl _) ?_))
   ·by_cases hu0:o.unit=0
    ·have q2:(o.unit=0)=True:=eq_true hu0;have F:=ai @q2 @tmz;refine gG ?_;exact ⟨(),trivial,gw,gw⟩
    ·have q2:(o.unit=0)=False:=eq_false hu0;have q3:((L.length:Int)=0)=False:=eq_false fun h=>hu ⟨hu0,om⟩;have F:=aj3 @q2 @q3 @tmz;refine gG ?_;exact ⟨(),trivial,gw,gw⟩
   refine fN 21 @tmz ?_;refine gM (ι:=Unit) [123] [] (fun v=>[(123,A.d (.one (.lit (.bool false))))]) (fun v=>[]) (fun v=>True) ?_ (fun v hv=>Exists.intro _ (ai (Wk.refl _) ?_))
   ·by_cases hu0:o.unit=0
    ·have q2:(o.unit=0)=True:=eq_true hu0;have F:=ai @q2 @tmz;refine gG ?_;exact ⟨(),trivial,gw,gw⟩
    ·have q2:(o.unit=0)=False:=eq_false hu0;have q3:((L.length:Int)=1)=False:=eq_false fun h=>hu ⟨hu0,om⟩;have F:=aj3 @q2 @q3 @tmz;refine gG ?_;exact ⟨(),trivial,gw,gw⟩
   refine fN 23 @tmz ?_;refine gB ?_;refine fR (ai @Zah @tmz) ?_;refine gM (ι:=Unit) [12] [] (fun v=>[(12,.d (.one (.sl (Zaa (srtO o L)))))]) (fun v=>[]) (fun v=>True) ?_ (fun v hv=>Exists.intro _ (ai (Wk.refl _) ?_))
   ·cases hcm:o.comm with
    | true =>
     rw [show srtO o L=Zax L by unfold srtO;rw [if_pos hcm]];refine fN 24 (ai @hcm @tmz) ?_;refine gB ?_;refine fC @tmz (cSo) ?_;refine fR @tmz ?_;have F:=@tmz;refine gG ?_;exact ⟨(),trivial,gw,gw⟩
    | false =>
     rw [show srtO o L=L by unfold srtO;rw [if_neg (by rw [hcm];simp)]];have F:=ai @hcm @tmz;refine gG ?_;exact ⟨(),trivial,gw,gw⟩
   have hSB:tmsB (srtO o L):=by
    unfold tmsB at hfb ⊢;rw [Zww hSp,hSl];exact hfb
   generalize srtO o L=S at hSl sz1 dz1 hSB ⊢;have em:Zab (appT op S)=[.lit (.int .i64 op),.lit (.string ByteArray.empty),.lit (.int .i64 0),.sl (Zaa S)]:=by simp only [appT,Zab]
   have zs:sizeTm (appT op S)=1+sizeTms S:=by rw [Zbz];rfl
   have c1:=Zge (t:=appT op S) (by unfold big;omega);rw [em] at c1;refine fN 25 @tmz ?_;refine gB ?_;refine fC @tmz (Zkl S hSB) ?_;refine fR @tmz ?_;refine fN 26 @tmz ?_;by_cases h7:o.assoc=true∧7 < S.length
   ·rw [if_pos (show BigT o op S from .inl h7)];obtain ⟨hac,h7⟩:=h7;have q2:((S.length:Int)<=7)=False:=eq_false om;refine gLp 13 12 13 ?_;refine fR (aj3 @hac @q2 @tmz) ?_;exact fD (aj3 @hz @em @tmz)
   have hac:o.assoc=true->((S.length:Int)<=7)=True:=fun h=>eq_true (Int.not_lt.1 fun q=>h7 ⟨h,om⟩);have hres:(if BigT o op S then none else some (appT op S)).isSome=decide (sizeTm (appT op S)<=60∧depthTm (appT op S)<=20):=by
    by_cases hbg:BigT o op S
    ·rw [if_pos hbg];refine (decide_eq_false fun h=>?_).symm;rcases hbg with h | h | h
     ·exact h7 h
     ·omega
     ·omega
    ·rw [if_neg hbg];refine (decide_eq_true ⟨?_,?_⟩).symm
     ·exact Nat.not_lt.1 fun h=>hbg (.inr (.inl h))
     ·exact Nat.not_lt.1 fun h=>hbg (.inr (.inr h))
   have hgd:(if BigT o op S then none else some (appT op S)).getD (appT op S)=appT op S:=by
    split <;> rfl
   rw [hres,hgd,em];rcases Bool.eq_false_or_eq_true o.assoc with ha' | ha'
   ·have q2:=hac ha';refine gLp 13 12 13 ?_;refine fC (aj3 @ha' @q2 @tmz) (c1) ?_;refine fR @tmz ?_;exact fD @tmz
   ·refine gLp 13 12 13 ?_;refine fC (ai @ha' @tmz) (c1) ?_;refine fR @tmz ?_;exact fD @tmz
end
end Go.Proofs.YtcgacanpeaiabaaGreatDoor
namespace Go.Proofs.YtcgacanpeaiabaaGreatDoor
open Go.RowKit
def decN (n:Nat):List UInt8:=if n < 10 then [UInt8.ofNat (48+n)] else [UInt8.ofNat (48+n / 10),UInt8.ofNat (48+n % 10)]
def decB (i:Int):List UInt8:=if i < 0 then 45::decN (-i).toNat else decN i.toNat
mutual
def Zdn:Tm->List UInt8
 | .mk op nm so args=>decB op++((if op < 0 then 58::(nm.toList++58::decB so) else [])++40::(Zbi args++[41]))
def Zbi:List Tm->List UInt8
 | []=>[]
 | t::ts=>Zdn t++Zbi ts
end
theorem Zwx (a b:List Tm):Zbi (a++b)=Zbi a++Zbi b:=by
 induction a with
 | nil=>rfl
 | cons t ts ih=>simp only [Taf,Zbi,ih,Tbf]
theorem ZfW {P:UInt8->Prop}:∀ {l m:List UInt8} {c d:UInt8} {x y:List UInt8},(∀ b∈l,P b)->(∀ b∈m,P b)->¬ P c->¬ P d->l++c::x=m++d::y->l=m∧c=d∧x=y
 | [],[],c,d,x,y,_,_,_,_,h=>by simpa using h
 | [],b::m,c,d,x,y,_,hm,hc,_,h=>by
  simp only [Tah,Taf,List.cons.injEq] at h;exact absurd (hm b Tas) (h.1 ▸ hc)
 | a::l,[],c,d,x,y,hl,_,_,hd,h=>by
  simp only [Tah,Taf,List.cons.injEq] at h;exact absurd (hl a Tas) (h.1 ▸ hd)
 | a::l,b::m,c,d,x,y,hl,hm,hc,hd,h=>by
  simp only [Taf,List.cons.injEq] at h;obtain ⟨h1,h2⟩:=ZfW (fun b hb=>hl b (Tal _ hb)) (fun b hb=>hm b (Tal _ hb)) hc hd h.2;exact ⟨by rw [h.1,h1],h2⟩
def NumB (b:UInt8):Prop:=b=45∨(48<=b.toNat∧b.toNat<=57)
instance (b:UInt8):Decidable (NumB b):=by unfold NumB;infer_instance
theorem ZEG:∀ i:Fin 15,∀ b∈decB ((i.val:Int) - 1),NumB b:=by decide
theorem ZEH:∀ i j:Fin 15,decB ((i.val:Int) - 1)=decB ((j.val:Int) - 1)->i=j:=by decide
theorem Zk1 {i:Int} (h0:-1<=i) (h1:i < 14):∀ b∈decB i,NumB b:=by
 have:=ZEG ⟨(i+1).toNat,om⟩
 rwa [show (((i+1).toNat:Nat):Int) - 1=i by omega] at this
theorem Zok {i j:Int} (h0:-1<=i) (h1:i < 14) (h2:-1<=j) (h3:j < 14) (h:decB i=decB j):i=j:=by
 have:=ZEH ⟨(i+1).toNat,om⟩ ⟨(j+1).toNat,om⟩ (by
  simp only;rw [show (((i+1).toNat:Nat):Int) - 1=i by omega,show (((j+1).toNat:Nat):Int) - 1=j by omega];exact h)
 have:=congrArg Fin.val this;simp only at this;omega
theorem ZrQ:∀ i:Fin 15,(decB ((i.val:Int) - 1)).head?≠some 41∧decB ((i.val:Int) - 1)≠[]:=by decide
def NamB (s:ByteArray):Prop:=∀ b∈s.toList,Zdh (b.toNat:Int)=true
mutual
def ZeZ:Tm->Prop
 | .mk op nm so args=>-1<=op∧op < 14∧(op=-1->NamB nm∧0<=so∧so < 8)∧(op≠-1->nm=ByteArray.empty∧so=0)∧Zfd args
def Zfd:List Tm->Prop
 | []=>True
 | t::ts=>ZeZ t∧Zfd ts
end
theorem toList_inj {a b:ByteArray} (h:a.toList=b.toList):a=b:=by
 rw [ByteArray.toList_eq,ByteArray.toList_eq] at h;obtain ⟨x⟩:=a;obtain ⟨y⟩:=b;simp only at h;rw [Array.toList_inj.1 h]
theorem Zft:¬ NumB 40:=by decide
theorem ZhV:¬ NumB 58:=by decide
mutual
theorem Zvu:∀ (a b:Tm) (x y:List UInt8),ZeZ a->ZeZ b->Zdn a++x=Zdn b++y->a=b∧x=y
 | .mk op nm so args,.mk op' nm' so' args',x,y,ha,hb,h=>by
  simp only [ZeZ] at ha hb;obtain ⟨a1,a2,a3,a4,a5⟩:=ha;obtain ⟨b1,b2,b3,b4,b5⟩:=hb;simp only [Zdn,Tbf,Taf] at h;have n1:=Zk1 a1 a2;have n2:=Zk1 b1 b2;have hfst:op=op'∧nm=nm'∧so=so'∧Zbi args++([41]++x)=Zbi args'++([41]++y):=by
   by_cases h1:op < 0
   ·rw [if_pos h1] at h;by_cases h2:op' < 0
    ·rw [if_pos h2] at h;simp only [Taf,Tbf] at h;obtain ⟨e1,_,e2⟩:=ZfW n1 n2 ZhV ZhV h;have e1:=Zok a1 a2 b1 b2 e1;have o1:op=-1:=om;have o2:op'=-1:=om;obtain ⟨p1,p2,p3⟩:=a3 o1;obtain ⟨q1,q2,q3⟩:=b3 o2;obtain ⟨f1,_,f2⟩:=ZfW (P:=fun b=>Zdh (b.toNat:Int)=true) p1 q1 (by decide) (by decide) e2;obtain ⟨g1,_,g2⟩:=ZfW (Zk1 om om) (Zk1 om om) Zft Zft f2;exact ⟨e1,toList_inj f1,Zok om om om om g1,g2⟩
    ·rw [if_neg h2] at h;simp only [Taf,Tah] at h;obtain ⟨_,e,_⟩:=ZfW n1 n2 ZhV Zft h;exact absurd e (by decide)
   ·rw [if_neg h1] at h;by_cases h2:op' < 0
    ·rw [if_pos h2] at h;simp only [Taf,Tah] at h;obtain ⟨_,e,_⟩:=ZfW n1 n2 Zft ZhV h;exact absurd e (by decide)
    ·rw [if_neg h2] at h;simp only [Tah] at h;obtain ⟨e1,_,e2⟩:=ZfW n1 n2 Zft Zft h;have e1:=Zok a1 a2 b1 b2 e1;obtain ⟨p1,p2⟩:=a4 om;obtain ⟨q1,q2⟩:=b4 om;exact ⟨e1,by rw [p1,q1],by rw [p2,q2],e2⟩
  obtain ⟨rfl,rfl,rfl,he⟩:=hfst;obtain ⟨i1,i2⟩:=ZrR args args' x y a5 b5 he;exact ⟨by rw [i1],i2⟩
theorem ZrR:∀ (xs bs:List Tm) (x y:List UInt8),Zfd xs->Zfd bs->Zbi xs++([41]++x)=Zbi bs++([41]++y)->xs=bs∧x=y
 | [],[],x,y,_,_,h=>by simpa [Zbi] using h
 | [],.mk op nm so args::bs,x,y,_,hb,h=>by
  exfalso;simp only [Zfd,ZeZ] at hb;have:=ZrQ ⟨(op+1).toNat,om⟩;rw [show (((op+1).toNat:Nat):Int) - 1=op by omega] at this;simp only [Zbi,Zdn,Tah,Tbf] at h
  cases hd:decB op with
  | nil=>exact this.2 hd
  | cons c l =>
   rw [hd] at h this;simp only [Taf,List.cons.injEq] at h;exact this.1 (by rw [<- h.1];rfl)
 | .mk op nm so args::xs,[],x,y,ha,_,h=>by
  exfalso;simp only [Zfd,ZeZ] at ha;have:=ZrQ ⟨(op+1).toNat,om⟩;rw [show (((op+1).toNat:Nat):Int) - 1=op by omega] at this;simp only [Zbi,Zdn,Tah,Tbf] at h
  cases hd:decB op with
  | nil=>exact this.2 hd
  | cons c l =>
   rw [hd] at h this;simp only [Taf,List.cons.injEq] at h;exact this.1 (by rw [h.1];rfl)
 | a::xs,b::bs,x,y,ha,hb,h=>by
  simp only [Zfd] at ha hb;simp only [Zbi,Tbf] at h;obtain ⟨e1,e2⟩:=Zvu a b _ _ ha.1 hb.1 h;obtain ⟨f1,f2⟩:=ZrR xs bs x y ha.2 hb.2 e2;exact ⟨by rw [e1,f1],f2⟩
end
theorem ZCa {s:ByteArray} (h:Zbw s=true):NamB s:=by
 unfold Zbw at h;simp only [Tar] at h;have hn:=h.2;unfold Zbj at hn;rw [List.all_eq_true] at hn;intro b hb;rw [ByteArray.toList_eq] at hb;obtain ⟨i,hi,rfl⟩:=List.getElem_of_mem hb;have hi':i < s.size:=by simpa using hi
 have:=hn i (List.mem_range'_1.2 ⟨Taj _,om⟩);simp only [Tar,Zj1,dif_pos hi'] at this;exact this.1
mutual
theorem Zhv {g:Sgn} (hg:SgnOk g):∀ (t:Tm),ZaF g t->ZeZ t
 | .mk op nm so args,h=>by
  have h2:Zc8 g args:=by simp only [ZaF] at h;exact h.2.1
  have h1:Zdb g (.mk op nm so args):=by simp only [ZaF] at h;exact h.1
  have hl:=hg.len;have hn:=hg.sorts.n8;refine ⟨?_,?_,?_,?_,Zpj hg args h2⟩
  ·rcases h1 with h | ⟨o,d,h⟩
   ·have:op=-1:=h.1;omega
   ·have:0<=op:=h.lo;omega
  ·rcases h1 with h | ⟨o,d,h⟩
   ·have:op=-1:=h.1;omega
   ·have h0:0<=op:=h.lo;have:g.ops[op.toNat]?=some o:=h.at';have:=(Tad.1 this).1;omega
  ·intro ho;rcases h1 with h | ⟨o,d,h⟩
   ·have h4:0<=so:=h.2.2.1;have h5:so < g.sorts.names.length:=h.2.2.2.1;exact ⟨ZCa h.2.1,h4,om⟩
   ·have:0<=op:=h.lo;omega
  ·intro ho;rcases h1 with h | ⟨o,d,h⟩
   ·have:op=-1:=h.1;omega
   ·exact ⟨h.nm,h.so⟩
theorem Zpj {g:Sgn} (hg:SgnOk g):∀ (ts:List Tm),Zc8 g ts->Zfd ts
 | [],_=>trivial
 | t::ts,h=>by
  simp only [Zc8] at h;exact ⟨Zhv hg t h.1,Zpj hg ts h.2⟩
end
def keyS (t:Tm):ByteArray:=⟨(Zdn t).toArray⟩
theorem ZrS {g:Sgn} (hg:SgnOk g) {a b:Tm} (ha:ZaF g a) (hb:ZaF g b) (h:(keyS a).toList=(keyS b).toList):a=b:=by
 rw [ByteArray.toList_eq,ByteArray.toList_eq] at h;simp only [keyS] at h;exact (Zvu a b [] [] (Zhv hg a ha) (Zhv hg b hb) (by rw [List.append_nil,List.append_nil];exact h)).1
def Zk2 (P:Program) (s d:TypeId):Bool:=match P.underlying s,P.underlying d with
 | some (.slice e),some .string=>match P.underlying e with
  | some (.int .u8)=>true
  | _=>false
 | _,_=>false
section
variable {e:Env} {σ:St} {o:Oper} {K:St->Prop}
end
section
variable {P:Program} {w:World}
theorem ZAn (ts:Array TypeId) (t ty e:TypeId) (i:TypeInfo) (z:Value) (h0:ts[0]?=some t) {t2:TypeId} (h1:ts[1]?=some t2) (ht2:P.underlying t2=some .string) (ht:P.underlying t=some (.slice e)) (hi:P.info? e=some i) (hz:i.zero=some z) (b:Option Addr) (sLen sCap:Nat) (olds:List Value) (x:Value) (n:Nat) (news:List Value)
  (hln:(Builtin.lenOf x).run P w=.ok n w) (hfo:(Builtin.firstCells i.size sLen (.slice b sLen sCap)).run P w.drew=.ok olds.toArray w.drew) (hf:(Builtin.firstCells i.size n x).run P w.drew=.ok news.toArray w.drew) (hg:sCap < sLen+n) (h63:((sLen+n:Nat):Int)<=9223372036854775807) (hfit:Builtin.nextslicecap (sLen+n) sCap * i.bytes<=281474976710656) :
  (Builtin.append_ ts ty #[.slice b sLen sCap,x]).run P w=.ok (.slice (some ⟨w.heap.size,0,none⟩) (sLen+n) (grownCap w (sLen+n) sCap e)) (w.drew.alloc (.cells (olds.toArray++news.toArray++Builtin.zeroCells z.cells (grownCap w (sLen+n) sCap e - (sLen+n))) e)):=by
 have hn:¬ (sLen+n<=sCap):=om;have h63':¬ (9223372036854775807 < ((sLen:Int)+(n:Int))):=om;have h48':¬ (281474976710656 < Builtin.nextslicecap (sLen+n) sCap * i.bytes):=om;have e1:olds.toArray++(news.toArray++Builtin.zeroCells z.cells (grownCap w (sLen+n) sCap e - (sLen+n)))=(olds++news).toArray++Builtin.zeroCells z.cells (grownCap w (sLen+n) sCap e - (sLen+n)):=by
  apply Array.toList_inj.1;simp
 unfold grownCap at e1;simp [Builtin.append_,h0,h1,run_underlying ht,run_underlying ht2,sizeOf,typeInfo,zeroValue,hi,hz,hln,hn,h63',h48',Question.forced,hf,hfo,newRow,grownCap,e1]
theorem ZAo (ts:Array TypeId) (t ty e:TypeId) (i:TypeInfo) (h0:ts[0]?=some t) {t2:TypeId} (h1:ts[1]?=some t2) (ht2:P.underlying t2=some .string) (ht:P.underlying t=some (.slice e)) (hi:P.info? e=some i) (g sLen sCap:Nat) (cur:Array Value) (hg:w.heap[g]?=some (.cells cur e (0,0))) (x:Value) (n:Nat) (news:List Value)
  (hln:(Builtin.lenOf x).run P w=.ok n w) (hf:(Builtin.firstCells i.size n x).run P w=.ok news.toArray w) (hone:∀ u∈news,u.oneCell'=true) (hroom:sLen+n<=sCap) (hfit:sLen * i.size+news.length<=cur.size) :
  (Builtin.append_ ts ty #[.slice (some ⟨g,0,none⟩) sLen sCap,x]).run P w=.ok (.slice (some ⟨g,0,none⟩) (sLen+n) sCap) (w.setRow g (cur.toList.take (sLen * i.size)++news++cur.toList.drop (sLen * i.size+news.length)).toArray):=by
 have hst:=run_storeCells_at P g (sLen * i.size) e news 0 cur w hg (by simpa using hfit) hone;simp only [Nat.add_zero] at hst;simp [Builtin.append_,h0,h1,run_underlying ht,run_underlying ht2,sizeOf,typeInfo,hi,hln,hroom,hf,Addr.add_lit,hst]
theorem ZAp (ts:Array TypeId) (t ty e:TypeId) (i:TypeInfo) (h0:ts[0]?=some t) {t2:TypeId} (h1:ts[1]?=some t2) (ht2:P.underlying t2=some .string) (ht:P.underlying t=some (.slice e)) (hi:P.info? e=some i) (b:Option Addr) (x:Value)
  (hln:(Builtin.lenOf x).run P w=.ok 0 w) (hf:(Builtin.firstCells i.size 0 x).run P w=.ok #[] w) :
  (Builtin.append_ ts ty #[.slice b 0 0,x]).run P w=.ok (.slice b 0 0) w:=by
 cases b <;> simp [Builtin.append_,h0,h1,run_underlying ht,run_underlying ht2,sizeOf,typeInfo,hi,hln,hf,storeCells]
end
section
variable {e:Env} {U:Nat->Prop} {w0:World} {S0:Nat->Prop} {nt:Nat} {σ:St} {a:Act} {w:World} {S:Nat->Prop} {L:Lay} {o:Oper}
theorem Zte (he:e.Ok) (hC:Cls e U w0.heap.size S0 σ.m w S L) {ts:Array TypeId} {t ty:TypeId} {ety sz by':Nat} (h0:ts[0]?=some t) {t2:TypeId} (h1:ts[1]?=some t2) (ht2:e.P.underlying t2=some .string) (hb:Za2 e.P t=some (ety,sz,by')) {rows ys:List (List C)} {v u:Value}
  (hv:ZaV w S ety sz rows v∨(DRel w S (.clip rows) v∧(rows=[]∨ys≠[]))) (hrl:rowsLen sz rows) (hyl:rowsLen sz ys) (hle:rows.length+ys.length<=maxApp)
  (hy:∃ (news:List Value),(∀ w',(Builtin.lenOf u).run e.P w'=.ok ys.length w')∧Zad w S ys.flatten news∧∀ (P:Program) (w':World),(∀ p,w'.cell? p=w.cell? p)->(Builtin.firstCells sz ys.length u).run P w'=.ok news.toArray w') :
  ∃ v' w',(Builtin.append_ ts ty #[v,u]).run e.P w=.ok v' w'∧ZaV w' S ety sz (rows++ys) v'∧∃ τ:Option Nat,Kept e.D (fun b=>τ=some b) w.heap.size w w'∧(∀ g,τ=some g->vblk v=some g∧ZaV w S ety sz rows v)∧(∀ g,vblk v'=some g->τ=some g∨w.heap.size<=g):=by
 obtain ⟨i,z,hu,hi,hz,hsz,hby,hzs,hs0,hb4⟩:=Zdp hb;obtain ⟨news,hln,hnews,hf⟩:=hy;have hnl:news.length=ys.length * sz:=by rw [hnews.len,Zcl hyl]
 have hone:=ZeO (ZkM hyl) hnews;have hm30:rows.length+ys.length<=1073741824:=hle;have hbytes:(rows.length+ys.length) * i.bytes<=140737488355328:=by
  have h2:(rows.length+ys.length) * i.bytes<=1073741824 * 4096:=Nat.mul_le_mul hm30 om;omega
 have hrl2:rowsLen sz (rows++ys):=hrl.append hyl
 have grow:∀ (b:Option Addr) (cap:Nat) (olds:List Value),v=.slice b rows.length cap->cap < rows.length+ys.length->Zad w S rows.flatten olds->(∀ (P:Program) (w':World),(∀ p,w'.cell? p=w.cell? p)->(Builtin.firstCells sz rows.length v).run P w'=.ok olds.toArray w') ->
   ∃ v' w',(Builtin.append_ ts ty #[v,u]).run e.P w=.ok v' w'∧ZaV w' S ety sz (rows++ys) v'∧∃ τ:Option Nat,Kept e.D (fun b=>τ=some b) w.heap.size w w'∧(∀ g,τ=some g->vblk v=some g∧ZaV w S ety sz rows v)∧(∀ g,vblk v'=some g->τ=some g∨w.heap.size<=g):=by
  intro b cap olds hv hlt hol hfo;have h63:rows.length+ys.length<=maxLen:=by unfold maxLen;omega
  have hrun:=ZAn ts t ty ety i z h0 h1 ht2 hu hi hz b rows.length cap olds u ys.length news (hln w) (by rw [hsz,<- hv];exact hfo _ _ (ZhO w)) (by rw [hsz];exact hf _ _ (ZhO w)) hlt om (growslice_fits om hbytes);rw [<- hv] at hrun;have hge:=grownCap_ge w (rows.length+ys.length) cap ety;have hcm:=grownCap_le_maxLen w (rows.length+ys.length) cap ety h63;generalize hcap:grownCap w (rows.length+ys.length) cap ety=nc at hrun hge hcm
  have hcl:olds.length=rows.length * sz:=by rw [hol.len,Zcl hrl]
  have hk:Kept e.D (fun b=>(none:Option Nat)=some b) w.heap.size w (w.drew.alloc (.cells (olds.toArray++news.toArray++Builtin.zeroCells z.cells (nc - (rows.length+ys.length))) ety)) :=
   ⟨rfl,rfl,rfl,fun _=>Nat.le_succ _,by simp,fun k hk _=>heap_alloc_old w.drew _ hk⟩
  have hheap:=heap_alloc_new w.drew (.cells (olds.toArray++news.toArray++Builtin.zeroCells z.cells (nc - (rows.length+ys.length))) ety);have hsW:(w.drew.alloc (.cells (olds.toArray++news.toArray++Builtin.zeroCells z.cells (nc - (rows.length+ys.length))) ety)).heap.size=w.heap.size+1:=by simp
  have e1:olds.toArray++news.toArray++Builtin.zeroCells z.cells (nc - (rows.length+ys.length))=((olds++news)++(Builtin.zeroCells z.cells (nc - (rows.length+ys.length))).toList).toArray:=by
   apply Array.toList_inj.1;simp
  rw [e1] at hrun hk hheap hsW;generalize w.drew.alloc (.cells ((olds++news)++(Builtin.zeroCells z.cells (nc - (rows.length+ys.length))).toList).toArray ety)=W at hrun hk hheap hsW;refine ⟨_,_,hrun,?_,none,hk,by simp,fun g hg=>?_⟩
  ·have hlen:rows.length+ys.length=(rows++ys).length:=by simp
   rw [hlen];refine ZjJ (w:=w) (cells:=olds++news) (rest:=(Builtin.zeroCells z.cells (nc - (rows.length+ys.length))).toList) (n:=0) hs0 hrl2 hk.size (fun b o hs=>ZbF (hk.block b (hC.sin b hs).1 (by simp)) o) ?_ (by simp;omega) hcm om (g:=w.heap.size) om (fun hs=>by have:=(hC.sin _ hs).1;omega) ?_ ?_
   ·rw [List.flatten_append];exact Zad.app hol hnews
   ·exact hheap
   ·simp only [Tae,Array.length_toList,size_zeroCells,hzs,hcl,hnl,<- Nat.add_mul];congr 1;omega
  ·simp only [vblk] at hg;split at hg
   ·cases hg
   ·injection hg with hg;exact .inr om
 have stay:∀ (b:Option Addr),rows=[]->ys=[]->v=.slice b 0 0->∃ v' w',(Builtin.append_ ts ty #[v,u]).run e.P w=.ok v' w'∧ZaV w' S ety sz (rows++ys) v'∧∃ τ:Option Nat,Kept e.D (fun b=>τ=some b) w.heap.size w w'∧(∀ g,τ=some g->vblk v=some g∧ZaV w S ety sz rows v)∧(∀ g,vblk v'=some g->τ=some g∨w.heap.size<=g):=by
  intro b hr hy hvb;subst hr hy;have hn0:news=[]:=Tao (by simpa using hnl);have hrun:=ZAp (P:=e.P) (w:=w) ts t ty ety i h0 h1 ht2 hu hi b u (hln w) (by rw [hsz];have:=hf e.P w (fun _=>rfl);rw [hn0] at this;simpa using this);rw [hvb];refine ⟨_,_,hrun,⟨hs0,by simpa using rowsLen.nil,.inl ⟨by simp,b,rfl⟩⟩,none,Kept.refl _ _ _ _,by simp,fun g hg=>?_⟩
  cases b <;> simp [vblk] at hg
 rcases hv with hv | ⟨hv,hne⟩
 ·have hv0:=hv;obtain ⟨_,_,h3⟩:=hv;rcases h3 with ⟨hr,b,hvb⟩ | ⟨g,cap,cur,hvb,hc,hg,hs,hh,hlc,hm,hcs,hr⟩
  ·by_cases hy0:ys=[]
   ·exact stay b hr hy0 hvb
   ·have hyl0:0 < ys.length:=List.length_pos_iff.2 hy0;subst hr;refine grow b 0 [] hvb (by simpa using hyl0) (by simp [Zad]) (fun P w' _=>?_);rw [hvb]
    cases b <;> simp [Builtin.firstCells,loadCells,loadCellsFrom]
  ·by_cases hroom:rows.length+ys.length<=cap
   ·have hfit:rows.length * i.size+news.length<=cur.size:=by rw [hnl,hsz,hcs,<- Nat.add_mul];exact Nat.mul_le_mul_right _ hroom
    have hrun:=ZAo (P:=e.P) (w:=w) ts t ty ety i h0 h1 ht2 hu hi g rows.length cap cur hh u ys.length news (hln w) (by rw [hsz];exact hf _ _ (fun _=>rfl)) hone hroom hfit;rw [<- hvb] at hrun;rw [hsz] at hrun hfit;have hput:=Zfu w g (rows.length * sz) ety news cur hh hfit;have hheap:=setRow_heap w g cur (cur.toList.take (rows.length * sz)++news++cur.toList.drop (rows.length * sz+news.length)).toArray ety _ hh
    have hdr:(w.setRow g (cur.toList.take (rows.length * sz)++news++cur.toList.drop (rows.length * sz+news.length)).toArray).drawn=w.drawn:=ZeD _ _ _;generalize hW:w.setRow g (cur.toList.take (rows.length * sz)++news++cur.toList.drop (rows.length * sz+news.length)).toArray=W at hrun hput hheap hdr;have hszW:W.heap.size=w.heap.size:=hput.size;have hkc:∀ b o,S b->W.cell? ⟨b,o,none⟩=w.cell? ⟨b,o,none⟩:=fun b o hsb=>ZbF (hput.other b (fun e=>hs (e ▸ hsb))) o
    refine ⟨_,_,hrun,⟨hs0,hrl2,.inr ⟨g,cap,_,by simp,hc,om,hs,hheap,by simpa using hroom,hm,by simp;omega,?_⟩⟩,some g,⟨hput.os,hput.tape,hput.output,fun _=>Nat.le_of_eq hdr.symm,om,fun b hb hE=>hput.other b (fun eq=>hE (by rw [eq]))⟩,fun q hq=>?_,fun q hq=>?_⟩
    ·apply Zap.of_flat;rw [List.flatten_append];have r1:=Zak.keepAt (S':=S) om hkc (fun _ h=>h) g 0 rows.flatten (fun j hj=>hput.old _ (.inl (by rw [Zcl hrl] at hj;omega))) hr.flat;refine Zak.append _ _ 0 r1 ?_;rw [Zcl hrl,Nat.zero_add];exact Zak.of_vals _ news _ (Zad.keep2 om hkc (fun _ h=>h) hnews) hput.new
    ·injection hq with hq;subst hq
     exact ⟨by rw [hvb];simp only [vblk];rw [if_neg om],hv0⟩
    ·simp only [vblk] at hq;rw [if_neg om] at hq;exact .inl hq
   ·obtain ⟨b',cap',olds,q1,_,_,q2,q3⟩:=ZjI hv0;rw [hvb] at q1;injection q1 with e1 e2 e3
    exact grow _ _ olds hvb om q2 q3
 ·obtain ⟨hrep,b,n,hvb⟩:=hv;obtain ⟨b',cap',olds,q1,q2,q3,q4,q5⟩:=ZhN hrl hrep;rw [hvb] at q1;injection q1 with e1 e2 e3
  by_cases hy0:ys=[]
  ·have hr:rows=[]:=by
    rcases hne with h | h
    ·exact h
    ·exact absurd hy0 h
   refine stay b hr hy0 ?_;rw [hvb];have:n=0:=by rw [e2,hr];rfl
   rw [this]
  ·have hyl0:0 < ys.length:=List.length_pos_iff.2 hy0;exact grow b n olds (by rw [hvb,e2]) om q4 q5
end
def byR (s:ByteArray):List (List C):=s.data.toList.map fun b=>[.lit (.int .u8 b.toNat)]
theorem Zeu (s:ByteArray):(byR s).length=s.size:=by rw [byR,Tay,Array.length_toList];rfl
theorem ZrT (s:ByteArray):rowsLen 1 (byR s):=fun r hr=>by
 obtain ⟨b,_,rfl⟩:=Tbi.1 hr;exact ⟨rfl,rfl⟩
theorem Zk3 (s t:ByteArray):byR s++byR t=byR (s++t):=by
 rw [byR,byR,byR,<- Tbv];congr 1
theorem ZCb (s:ByteArray):(byR s).flatten=(Lib.strCells s).map C.lit:=by
 rw [byR,Lib.strCells,List.map_map]
 induction s.data.toList with
 | nil=>rfl
 | cons b l ih=>simp only [Tbu,List.flatten_cons,ih,Taf,Tah];rfl
theorem Zko {w:World} {S:Nat->Prop}:∀ vs:List Value,Zad w S (vs.map C.lit) vs
 | []=>by simp [Zad]
 | v::vs=>by simp only [Tbu,Zad,Rep];exact ⟨trivial,Zko vs⟩
section
variable {e:Env} {K:St->Prop} {ds:List (Option Nat)} {os:List Oper} {s:List (Nat × A)} {m:List (Nat × Bk)}
theorem ZAq {σ:St} {o:Oper} {x y:Operand} {t t2 ety by' k d:Nat} {rows:List (List C)} {oa:Option (Option Addr × Nat)} {str:ByteArray} (ho:o.op=.call ⟨.builtin .append,#[x,y],#[t,t2]⟩) (hdd:o.dst=some d) (hb:Za2 e.P t=some (ety,1,by')) (ht2:e.P.underlying t2=some .string)
  (hx:evA σ.s x=.buf k) (hm:gm σ.m k=some (.buf oa ety 1 rows)) (hy:evA σ.s y=.d (.one (.lit (.string str)))) (hle:rows.length+(byR str).length<=maxApp) (hK:K ⟨(d,.buf d)::Zau d (Zau k σ.s),(d,.buf none ety 1 (rows++byR str))::remM d (remM k σ.m)⟩):ZbG e o σ K:=by
 intro he U w0 S0 nt a w Q hd ⟨S,L,h⟩;have hx':a.eval x=L.v k:=by have:=h.eval x;rw [hx] at this;exact this
 have hy':a.eval y=.string str:=by have:=h.eval y;rw [hy] at this;simpa [ARel,DRel,Rep] using this
 have ho':ZaV w S ety 1 rows (L.v k):=(h.cls.own k _ hm).2
 obtain ⟨v',w',hrun,hbuf,τ,hk,hτ,hblk⟩:=Zte (ty:=o.type) (ts:=#[t,t2]) (v:=L.v k) (u:=.string str) he h.cls rfl rfl ht2 hb (.inl ho') ho'.2.1 (ZrT str) hle
  ⟨Lib.strCells str,fun w'=>by simp [Builtin.lenOf,Zeu],by rw [ZCb];exact Zko _,fun P w' _=>by rw [Zeu];exact Lib.run_firstCells_string w' 1 str⟩
 unfold Oper.wp;have hr2:(execOp a.eval o).run e.P w=.ok (.value v') w':=by
  simp [execOp,ho,resolve,invoke,builtin,hx',hy',hrun,Result.andThen]
 rw [hr2,Oper.upon_value,hdd];refine ⟨_,hK,h.born he (hd d hdd) (τ:=τ) (b':=0) (v':=v') (s1:=Zau k σ.s) (m1:=remM k σ.m) (fun _ h=>h) (fun _ h=>.inl h) (fun t=>?_) (fun k' x hx=>?_) (fun g hg=>?_) (fun k' x g hkd hx hg hb'=>?_) hk ?_ (fun g hg=>?_) (by simp [ARel])⟩
 ·rcases ZeE k t σ.s with ⟨h1,_⟩ | h1
  ·exact .inl h1
  ·exact .inr h1
 ·rw [Zbe] at hx;split at hx
  ·cases hx
  ·exact hx
 ·have hg':=(hτ g hg).1;exact ⟨(Own1.lt (k:=k) (L:=L) (bk:=.buf none ety 1 rows) ⟨by simp,ho'⟩ hg').2,h.cls.notE hm hg',h.cls.mine k _ g hm hg'⟩
 ·have hg':=(hτ g hg).1;rw [Zbe] at hx;split at hx
  ·cases hx
  ·rename_i hne';exact hne' (h.cls.inj k' k x _ g hx hm hb' hg')
 ·simp only [Own1,if_true];exact ⟨by simp,hbuf⟩
 ·simp only [ZaJ,if_true] at hg;exact hblk g hg
theorem Zpk:∀ (l:List UInt8) (acc:ByteArray),(l.map fun b=>(b.toNat:Int)).foldl (fun r n=>r.push (UInt8.ofNat n.toNat)) acc=⟨acc.data++l.toArray⟩
 | [],acc=>by simp
 | b::l,acc=>by
  rw [Tbu,List.foldl_cons,Zpk l];have hb:UInt8.ofNat ((b.toNat:Int)).toNat=b:=by simp
  rw [hb];simp [ByteArray.push]
theorem ZCc (s:ByteArray):(s.data.toList.map fun b=>(b.toNat:Int)).foldl (fun r n=>r.push (UInt8.ofNat n.toNat)) ByteArray.empty=s:=by
 rw [Zpk];show (⟨#[]++s.data.toList.toArray⟩:ByteArray)=s;simp
theorem Ztf {σ:St} {o:Oper} {t d:TypeId} {x:Operand} {k ety:Nat} {oa:Option (Option Addr × Nat)} {str:ByteArray} (ho:o.op=.convert t d x) (hx:evA σ.s x=.buf k) (hm:gm σ.m k=some (.buf oa ety 1 (byR str))) (ht:Zk2 e.P t d=true) (hK:K ⟨setA σ.s o.dst (.d (.one (.lit (.string str)))),σ.m⟩):ZbG e o σ K:=by
 intro he U w0 S0 nt a w Q hd ⟨S,L,h⟩;have hx':a.eval x=L.v k:=by have:=h.eval x;rw [hx] at this;exact this
 have ho':ZaV w S ety 1 (byR str) (L.v k):=(h.cls.own k _ hm).2;have hrun:(convert t d (L.v k)).run e.P w=.ok (.string str) w:=by
  unfold Zk2 at ht;split at ht
  ·rename_i e1 h1 h2;split at ht
   ·rename_i h3;have key:∀ (b:Option Addr) (cap:Nat),L.v k=.slice b str.size cap->(∀ ad,b=some ad->(loadCells ad str.size).run e.P w=.ok ((str.data.toList.map fun b=>(b.toNat:Int)).map (Value.int .u8)).toArray w)->(b=none->str.size=0)->(convert t d (L.v k)).run e.P w=.ok (.string str) w:=fun b cap hv hl hn=>by
     rw [hv,run_convert_bytes_string w t d e1 b _ cap h1 h3 h2]
     cases b with
     | none =>
      have h0:=hn rfl;have:str=ByteArray.empty:=by
       cases str with
       | mk data=>simp only [ByteArray.size] at h0;rw [Array.eq_empty_of_size_eq_zero h0];rfl
      rw [this];simp [Conv.bytesToString]
     | some ad =>
      rw [run_bytesToString w ad _ cap _ (hl ad rfl),ZCc]
    rcases ho'.2.2 with ⟨hr,b,hv⟩ | ⟨g,cap,cur,hv,hc,hg,hs,hh,hlc,hmx,hcs,hr⟩
    ·have h0:str.size=0:=by rw [<- Zeu,hr];rfl
     have hd0:str.data.toList=[]:=Tao (by rw [Array.length_toList];exact h0);refine key b 0 (by rw [hv,h0]) (fun ad _=>?_) (fun _=>h0);rw [h0,hd0];simp [loadCells,loadCellsFrom]
    ·rw [Zeu] at hv;refine key _ cap hv (fun ad had=>?_) (fun hb=>by cases hb);injection had with had
     subst had;have hl:=run_loadCells_list (P:=e.P) w ⟨g,0,none⟩ ((str.data.toList.map fun b=>(b.toNat:Int)).map (Value.int .u8)) (fun j u hj=>by
      rw [Tba,Tba] at hj;obtain ⟨b,hb,rfl⟩:∃ b,str.data.toList[j]?=some b∧u=.int .u8 b.toNat:=by
       cases hq:str.data.toList[j]? with
       | none=>rw [hq] at hj;cases hj
       | some b=>rw [hq] at hj;injection hj with hj;exact ⟨b,rfl,hj.symm⟩
      have h1:=Zap.get (byR str) 0 j [.lit (.int .u8 b.toNat)] (k:=1) (fun z hz=>(ZrT str z hz).1) hr (by rw [byR,Tba,hb];rfl);rw [Addr.add_at];simpa [Zak,Rep] using h1)
     rw [Tay,Tay,Array.length_toList] at hl;exact hl
   ·cases ht
  ·cases ht
 unfold Oper.wp;have hr2:(execOp a.eval o).run e.P w=.ok (.value (.string str)) w:=by
  simp [execOp,ho,hx',hrun,Result.andThen]
 rw [hr2,Oper.upon_value];exact ⟨_,hK,S,L,h.put (α:=.d (.one (.lit (.string str)))) (by simp [ARel,DRel,Rep]) hd⟩
theorem gSt {d t t2 ty ety by' k:Nat} {p:String} {ed:Array Edge} {x y:Operand} {rows:List (List C)} {oa:Option (Option Addr × Nat)} {str:ByteArray} {s2:List (Nat × A)} {m2:List (Nat × Bk)} (hle:rows.length+(byR str).length<=maxApp) (ht2:e.P.underlying t2=some .string) (hK:Runs e ds 0 os ⟨(d,.buf d)::s2,(d,.buf none ety 1 (rows++byR str))::m2⟩ K)
  (hb:Za2 e.P t=some (ety,1,by'):=by exact sfx) (hx:evA s x=.buf k:=by exact sfx) (hm:gm m k=some (.buf oa ety 1 rows):=by exact snx) (hy:evA s y=.d (.one (.lit (.string str))):=by exact sfx)
  (hs:Zau d (Zau k s)=s2:=by exact snv) (hr:remM d (remM k m)=m2:=by exact snv):Runs e ds 0 (⟨some d,.call ⟨.builtin .append,#[x,y],#[t,t2]⟩,ty,p,ed,none⟩::os) ⟨s,m⟩ K:=by
 subst hs hr;simp only [Runs] at hK ⊢;exact Zde rfl (ZAq rfl rfl hb ht2 hx hm hy hle hK)
theorem gTx {d t1 t2 ty ety k:Nat} {p:String} {ed:Array Edge} {x:Operand} {oa:Option (Option Addr × Nat)} (str:ByteArray) (ht:Zk2 e.P t1 t2=true) (hK:Runs e ds 0 os ⟨(d,.d (.one (.lit (.string str))))::s,m⟩ K) (hx:evA s x=.buf k:=by exact sfx) (hm:gm m k=some (.buf oa ety 1 (byR str)):=by exact snx):Runs e ds 0 (⟨some d,.convert t1 t2 x,ty,p,ed,none⟩::os) ⟨s,m⟩ K:=by
 simp only [Runs] at hK ⊢;exact Zde rfl (Ztf (o:=⟨some d,.convert t1 t2 x,ty,p,ed,none⟩) rfl hx hm ht hK)
end
def decS (i:Int):ByteArray:=⟨(decB i).toArray⟩
theorem ZAr {i:Int} (h0:0<=i) (h1:i < 14):Con e0 322 [.one (.lit (.int .i64 i))] [.one (.lit (.string (decS i)))]:=by
 have h:i=0∨i=1∨i=2∨i=3∨i=4∨i=5∨i=6∨i=7∨i=8∨i=9∨i=10∨i=11∨i=12∨i=13:=om;rcases h with rfl | rfl | rfl | rfl | rfl | rfl | rfl | rfl | rfl | rfl | rfl | rfl | rfl | rfl
 all_goals (
  have w1:IntKind.i64.wrap (0+1)=1:=by decide
  have w2:IntKind.i64.wrap (1+1)=2:=by decide
  have w3:IntKind.i64.wrap (2+1)=3:=by decide
  have w4:IntKind.i64.wrap (3+1)=4:=by decide
  have w5:IntKind.i64.wrap (4+1)=5:=by decide
  have w6:IntKind.i64.wrap (5+1)=6:=by decide
  have w7:IntKind.i64.wrap (6+1)=7:=by decide
  have w8:IntKind.i64.wrap (7+1)=8:=by decide
  have w9:IntKind.i64.wrap (8+1)=9:=by decide
  have wa:IntKind.i64.wrap (9+1)=10:=by decide
  have u0:IntKind.i64.wrap (10 * 2)=20:=by decide
  have u1:IntKind.i64.wrap (11 * 2)=22:=by decide
  have u2:IntKind.i64.wrap (12 * 2)=24:=by decide
  have u3:IntKind.i64.wrap (13 * 2)=26:=by decide
  have v0:IntKind.i64.wrap (20+2)=22:=by decide
  have v1:IntKind.i64.wrap (22+2)=24:=by decide
  have v2:IntKind.i64.wrap (24+2)=26:=by decide
  have v3:IntKind.i64.wrap (26+2)=28:=by decide
  refine gI (ts:=[.slot 2]) 21 Tryz.func322 ?_
  (exact fD (aj16 @w1 @w2 @w3 @w4 @w5 @w6 @w7 @w8 @w9 @wa @u0 @u1 @u2 @u3 @v0 (aj3 @v1 @v2 @v3))))
theorem ZDV (s:ByteArray):Zav 1 (byR s)=true:=by
 unfold byR
 induction s.data.toList with
 | nil=>rfl
 | cons b l ih=>simp only [Tbu,ZdI,ih,Bool.and_true];rfl
def RBy (s:ByteArray) (r:List D) (pm:List Bk):Prop:=∃ a cap,r=[.one (.lit (.slice a (byR s).length cap))]∧pm=[.buf (some (a,cap)) 5 1 (byR s)]
theorem ZFr {P:Program} {t:TypeId} {a b:Int}:binT P .lss t (.int .u64 a) (.int .u64 b)=some (.bool (decide (a < b))):=rfl
theorem Zol:Zd7 (Tryz.prog.underlying 304)=some .u64:=by kernel_rfl
theorem ZFs:Tryz.prog.underlying 304=some (.int .u64):=by kernel_rfl
theorem Zvv:Zd7 (Tryz.prog.underlying 2)=some .i64:=by kernel_rfl
theorem Zvw:e0.P.underlying 9=some .string:=by kernel_rfl
theorem Zpl {i:Int} (h0:0<=i) (h1:i < 14) (s:ByteArray) (hl:s.size<=1000000) (a:Option Addr) (cap:Nat):ConP e0 304 [.one (.lit (.slice a (byR s).length cap)),.one (.lit (.int .u64 i)),.one (.lit (.int .i64 10))] [.buf (some (a,cap)) 5 1 (byR s)] (RBy (s++decS i)):=by
 have q1:(i < 100)=True:=eq_true om;have w1:IntKind.i64.wrap i=i:=IntWalk.i64_in _ om;have l1:(byR s).length+(byR (decS i)).length<=maxApp:=by
  rw [Zeu,Zeu];have:(decS i).size<=3:=by unfold decS decB decN;show (List.toArray _).size<=3;rw [List.size_toArray];split <;> split <;> simp
  unfold maxApp;omega
 refine gIP (ts:=[.slot 6]) [1000] 5575 Tryz.func304 ?_;refine fN 3 (aj3 @q1 @ZFr @tmz) ?_;refine gB ?_;refine fC (aj6 @w1 @Zol @ZFs @Zgu @Zix @tmz) (ZAr h0 h1) ?_;refine gK 13 ?_;refine (have F:=tmz;gSt l1 Zvw ?_);rw [Zk3];refine gS 17 fun a2 cap2=>?_;refine fR @tmz ?_;refine fG @tmz ?_;exact (have F:=tmz;gTP (R:=RBy (s++decS i)) [17] ⟨a2,cap2,rfl,rfl⟩)
theorem ZAs {i:Int} (h0:-1<=i) (h1:i < 14) (s:ByteArray) (hl:s.size<=100000) (a:Option Addr) (cap:Nat):ConP e0 276 [.one (.lit (.slice a (byR s).length cap)),.one (.lit (.int .i64 i)),.one (.lit (.int .i64 10))] [.buf (some (a,cap)) 5 1 (byR s)] (RBy (s++decS i)):=by
 refine gIP (ts:=[.slot 6]) [1000] 2247 Tryz.func276 ?_;by_cases hn:i < 0
 ·obtain rfl:i=-1:=by omega
  have q1:=lT (-1) 0;have w1:IntKind.u64.wrap (-1)=18446744073709551615:=by decide
  have w2:IntKind.u64.wrap (0 - 18446744073709551615)=1:=by decide
  have l1:(byR s).length+1<=maxApp:=by rw [Zeu];unfold maxApp;omega
  have l2:Zav 1 (byR s)=true:=ZDV s;have e1:byR s++[[.lit (.int .u8 45)]]=byR (s++⟨#[45]⟩):=by rw [<- Zk3];rfl
  have e2:s++⟨#[45]⟩++decS 1=s++decS (-1):=by rw [ByteArray.append_assoc];rfl
  have cU:=fun a cap=>Zpl (i:=1) om om (s++⟨#[45]⟩) (by rw [ByteArray.size_append];show s.size+1<=_;omega) a cap;rw [e2] at cU;refine fN 3 (aj6 @q1 @w1 @Zol @Zvv @ZeS @tmz) ?_;refine gB ?_;refine fR (aj4 @l1 @l2 @e1 @tmz) ?_;refine fN 5 (aj3 @w2 @ZE8 @tmz) ?_;refine pS 0 fun a2 cap2=>?_;refine gB ?_;have F:=@tmz;refine gCP [0] [1001] (cU a2 cap2) ?_;clear F;rintro r pm ⟨a3,cap3,rfl,rfl⟩;simp only [setA,retA,zipM,Taf,Tah]
  refine fR @tmz ?_;refine fG @tmz ?_;exact (have F:=tmz;gTP (R:=RBy (s++decS (-1))) [1001] ⟨a3,cap3,rfl,rfl⟩)
 ·have q1:(i < 0)=False:=eq_false hn;have w1:IntKind.u64.wrap i=i:=by
   have h:=@Int.emod_eq_of_lt;unfold IntKind.wrap;simp only [IntKind.signed,IntKind.bits];exact Int.emod_eq_of_lt om om
  have cU:=Zpl om h1 s om a cap;refine fN 5 (aj6 @q1 @w1 @Zol @Zvv @ZeS @tmz) ?_;refine gB ?_;have F:=@tmz;refine gCP [1000] [1001] (cU) ?_;clear F;rintro r pm ⟨a3,cap3,rfl,rfl⟩;simp only [setA,retA,zipM,Taf,Tah];refine fR @tmz ?_;refine fG @tmz ?_;exact (have F:=tmz;gTP (R:=RBy (s++decS i)) [1001] ⟨a3,cap3,rfl,rfl⟩)
theorem Zlw {i:Int} (h0:-1<=i) (h1:i < 14) (s:ByteArray) (hl:s.size<=100000) (a:Option Addr) (cap:Nat):ConP e0 212 [.one (.lit (.slice a (byR s).length cap)),.one (.lit (.int .i64 i)),.one (.lit (.int .i64 10))] [.buf (some (a,cap)) 5 1 (byR s)] (RBy (s++decS i)):=by
 refine gIP (ts:=[.slot 6]) [1000] 71 Tryz.func212 ?_;refine fN 1 @tmz ?_;refine gB ?_;have F:=@tmz;refine gCP [1000] [1001] (ZAs h0 h1 s hl a cap) ?_;clear F;rintro r pm ⟨a3,cap3,rfl,rfl⟩;simp only [setA,retA,zipM,Taf,Tah];refine fR @tmz ?_;refine fG @tmz ?_;exact (have F:=tmz;gTP (R:=RBy (s++decS i)) [1001] ⟨a3,cap3,rfl,rfl⟩)
def bs (l:List UInt8):ByteArray:=⟨l.toArray⟩
theorem Znp (l m:List UInt8):bs l++bs m=bs (l++m):=by
 apply ByteArray.ext;rw [ByteArray.data_append];simp [bs]
theorem Zk4 (l:List UInt8):(bs l).size=l.length:=by show (List.toArray l).size=_;simp
theorem Zpm (s:ByteArray):bs s.toList=s:=by
 rw [ByteArray.toList_eq];unfold bs;simp
theorem Zvx {i:Int} (h1:i < 100):(decB i).length<=3:=by
 unfold decB decN;split <;> split <;> simp
mutual
theorem ZrU {g:Sgn} (hg:SgnOk g):∀ (t:Tm),ZaF g t->(Zdn t).length<=22 * sizeTm t
 | .mk op nm so args,h=>by
  have h1:=Zpn hg args (by simp only [ZaF] at h;exact h.2.1);have hk:=Zhv hg _ h;simp only [ZeZ] at hk;obtain ⟨k0,k1,k2,k3,_⟩:=hk;have d1:=Zvx (i:=op) om;simp only [Zdn,sizeTm,Tae,Tag,Tak];split
  ·have d2:=Zvx (i:=so) (by have:=(k2 om).2.2;omega);have hn:Zbw nm=true:=by
    rcases h.node with hv | ⟨o,d,hA⟩
    ·exact hv.2.1
    ·have:=hA.lo;have:(Tm.mk op nm so args).op=op:=rfl;omega
   have h4:¬ 12 < nm.size:=fun h=>by rw [ZcS (.inr (.inl h))] at hn;cases hn
   have h5:nm.toList.length=nm.size:=by rw [ByteArray.toList_eq];exact Array.length_toList
   simp only [Tag,Tae];omega
  ·simp only [Tak];omega
theorem Zpn {g:Sgn} (hg:SgnOk g):∀ (ts:List Tm),Zc8 g ts->(Zbi ts).length<=22 * sizeTms ts
 | [],_=>by simp [Zbi,sizeTms]
 | t::ts,h=>by
  simp only [Zc8] at h;have h1:=ZrU hg t h.1;have h2:=Zpn hg ts h.2;simp only [Zbi,sizeTms,Tae];omega
end
theorem Ztg {l:List Tm} {i:Nat} {t:Tm} (h:l[i]?=some t):Zbi (l.take (i+1))=Zbi (l.take i)++Zdn t:=by
 rw [show l.take (i+1)=l.take i++[t] by simp [List.take_add_one,h],Zwx];simp [Zbi]
theorem Zpo:∀ (l:List Tm) (i:Nat),(Zbi (l.take i)).length<=(Zbi l).length
 | [],i=>by simp [Zbi]
 | x::xs,0=>by simp [Zbi]
 | x::xs,i+1=>by have:=Zpo xs i;simp only [Tbc,Zbi,Tae];omega
theorem Znq:∀ {ts:List Tm},Zfd ts->∀ t∈ts,ZeZ t
 | _::_,h,t,ht=>by
  simp only [Zfd] at h;rcases Tbg.1 ht with rfl | ht
  ·exact h.1
  ·exact Znq h.2 t ht
def keyP (op:Int) (nm:ByteArray) (so:Int):List UInt8:=decB op++(if op < 0 then 58::(nm.toList++58::decB so) else [])
theorem ZEI (op:Int) (nm:ByteArray) (so:Int) (args:List Tm):Zdn (.mk op nm so args)=keyP op nm so++[40]++Zbi args++[41]:=by
 simp [Zdn,keyP,Tbf]
theorem Zwy:ZaG Tryz.prog 234=some .one:=by kernel_rfl
theorem ZDW:ZaH Tryz.prog 234=some 1:=by kernel_rfl
theorem ZF0:ZaD Tryz.prog 234=some [.lit .nilFunc]:=by kernel_rfl
theorem ZFt:ZaB (.lit .nilFunc)=true:=rfl
theorem ZFu {f:FuncId} {cs:List C}:ZaB (.fn f cs)=true:=rfl
def ptrB (b:Nat):Value:=.pointer (some ⟨b,0,none⟩)
def RKey (bo bv:Nat) (f:FuncId) (s:ByteArray) (r:List D) (pm:List Bk):Prop:=∃ a cap,r=[]∧pm=[.var (some bo) [.lit (.slice a (byR s).length cap)],.buf (some (a,cap)) 5 1 (byR s),.var (some bv) [.fn f [.lit (ptrB bo),.lit (ptrB bv)]]]
theorem gTPk {X:Prop} {P:Program} {ts:List RS} {R:List D->List Bk->Prop} {σ:St} {r:List D} {pm:List Bk} (ks:List Nat) (hR:R r pm) (hx:ZkO P ts R .normal σ->X:=by first | exact fun h=>h | exact fun h=>⟨_,Wk.refl _,h⟩) (hr:resD P σ ts=some r:=by exact sfy) (hg:getM σ.m ks=some pm:=by exact sny) (hn:ks.Nodup:=by decide) (hp:pm.all pinned=true:=by exact sny):X :=
 hx ⟨r,ks,pm,hg,hn,hp,hR,ZfS hr⟩
theorem Zth (t:Tm) (hk:ZeZ t) (hsz:sizeTm t<=60) (l:List UInt8) (a:Option Addr) (cap bo bv:Nat) (hne:bo≠bv) (hl:l.length+(Zdn t).length<=90000)
  (h:∀ x∈t.args,∀ (l:List UInt8) (a:Option Addr) (cap:Nat),l.length+(Zdn x).length<=90000->ConP e0 211 [.agg (Zab x),.one (.lit (ptrB bo)),.one (.lit (ptrB bv))] [.var (some bo) [.lit (.slice a (byR (bs l)).length cap)],.buf (some (a,cap)) 5 1 (byR (bs l)),.var (some bv) [.fn 211 [.lit (ptrB bo),.lit (ptrB bv)]]] (RKey bo bv 211 (bs (l++Zdn x)))) :
  ConP e0 211 [.agg (Zab t),.one (.lit (ptrB bo)),.one (.lit (ptrB bv))] [.var (some bo) [.lit (.slice a (byR (bs l)).length cap)],.buf (some (a,cap)) 5 1 (byR (bs l)),.var (some bv) [.fn 211 [.lit (ptrB bo),.lit (ptrB bv)]]] (RKey bo bv 211 (bs (l++Zdn t))):=by
 obtain ⟨op,nm,so,args⟩:=t;have hc:Zab (.mk op nm so args)=[.lit (.int .i64 op),.lit (.string nm),.lit (.int .i64 so),.sl (Zaa args)]:=by simp only [Zab]
 have hn1:(bo=bv)=False:=eq_false hne;have hn2:(bv=bo)=False:=eq_false (fun e=>hne e.symm);simp only [Tm.args] at h;have hsl:=Zb7 args;simp only [sizeTm] at hsz;simp only [ptrB] at h ⊢;simp only [ZeZ] at hk;obtain ⟨k0,k1,k2,k3,k4⟩:=hk;rw [ZEI] at hl ⊢;simp only [Tae,Tag,Tak] at hl;have rb:=fun l=>ZDV (bs l);have e0':bs l++decS op=bs (l++decB op):=Znp _ _;have c1:=Zlw k0 k1 (bs l) (by rw [Zk4];omega) a cap
 rw [e0'] at c1;have hP:keyP op nm so=decB op++(if op < 0 then 58::(nm.toList++58::decB so) else []):=rfl;have ap:=fun (l:List UInt8) (b:UInt8) (b':Int) (hb:b'=b.toNat)=>show byR (bs l)++[[.lit (.int .u8 b')]]=byR (bs (l++[b])) by rw [<- Znp,<- Zk3,hb];rfl
 have ml:=fun (l:List UInt8) (hl:l.length<=90000)=>show ((byR (bs l)).length+1<=maxApp)=True from eq_true (by rw [Zeu,Zk4];unfold maxApp;omega)
 refine gIP (ts:=[]) [1001,1000,1002] 32212258863 Tryz.func211 ?_;refine fN 1 @tmz ?_;refine gB ?_;have F:=aj4 @hc @hn1 @hn2 @tmz;refine gCP [1000] [1000] (c1) ?_;clear F;rintro r pm ⟨a1,cap1,rfl,rfl⟩;simp only [setA,retA,zipM,Taf,Tah];refine fR (aj4 @hc @hn1 @hn2 @tmz) ?_;refine fG (ai @hc @tmz) ?_;refine gM (ι:=Option Addr × Nat) [] [1000,1001] (fun x=>[]) (fun x=>[(1001,.var (some bo) [.lit (.slice x.1 (byR (bs (l++keyP op nm so))).length x.2)]),(1000,.buf (some (x.1,x.2)) 5 1 (byR (bs (l++keyP op nm so))))]) (fun x=>True) ?_ (fun x hx=>Exists.intro _ (ai (Wk.refl _) ?_))
 ·by_cases ho:op < 0
  ·have q1:(op < 0)=True:=eq_true ho;rw [if_pos ho] at hP;obtain ⟨_,s0,s8⟩:=k2 om;have hnm:(bs (l++decB op++[58]))++nm=bs (l++decB op++[58]++nm.toList):=by rw [<- Zpm nm,Znp,Zpm]
   have e2:bs (l++decB op++[58]++nm.toList++[58])++decS so=bs (l++keyP op nm so):=by
    rw [hP];refine (Znp _ _).trans ?_;simp [Tbf]
   have hpl:=congrArg List.length hP;simp only [Tae,Tag] at hpl;have c2:=fun a cap=>Zlw (i:=so) om om (bs (l++decB op++[58]++nm.toList++[58])) (by rw [Zk4];simp only [Tae,Tag,Tak];omega) a cap;rw [e2] at c2;have m1:=ml (l++decB op) (by simp only [Tae];omega);have m2:=ml (l++decB op++[58]++nm.toList) (by simp only [Tae,Tag,Tak];omega);have m3:(byR (bs (l++decB op++[58]))).length+(byR nm).length<=maxApp:=by
    rw [Zeu,Zeu,Zk4];have:nm.size=nm.toList.length:=by rw [ByteArray.toList_eq];exact Array.length_toList.symm
    simp only [Tae,Tag,Tak];unfold maxApp;omega
   have b1:=rb (l++decB op);have b2:=rb (l++decB op++[58]++nm.toList);have p1:=ap (l++decB op) 58 58 rfl;have p2:=ap (l++decB op++[58]++nm.toList) 58 58 rfl;clear hP hpl ap ml rb;rw [decide_eq_true ho];refine fN 3 (ai @hc @tmz) ?_;refine gB ?_;have F:=aj6 @m1 @b1 @p1 @hn1 @hn2 @tmz;refine gP 3 ?_;clear F;refine gS 15 fun a2 cap2=>?_;refine fR (aj3 @hn1 @hn2 @tmz) ?_;refine fN 4 @tmz ?_;refine gB ?_
   have F:=aj4 @hc @hn1 @hn2 @tmz;refine gP 3 ?_;clear F;refine gK 16 ?_;refine (have F:=tmz;gSt m3 Zvw ?_);rw [Zk3,hnm];refine gS 19 fun a3 cap3=>?_;refine fR (aj3 @hn1 @hn2 @tmz) ?_;refine fN 5 @tmz ?_;refine gB ?_;have F:=aj6 @m2 @b2 @p2 @hn1 @hn2 @tmz;refine gP 3 ?_;clear F;refine gS 22 fun a4 cap4=>?_;refine fR (aj3 @hn1 @hn2 @tmz) ?_;refine fN 6 @tmz ?_;refine gB ?_;have F:=aj4 @hc @hn1 @hn2 @tmz;refine gCP [22] [1000] (c2 a4 cap4) ?_;clear F
   rintro r pm ⟨a5,cap5,rfl,rfl⟩;simp only [setA,retA,zipM,Taf,Tah];refine fR (aj3 @hn1 @hn2 @tmz) ?_;exact (have F:=tmz;⟨(a5,cap5),trivial,gw,gw⟩)
  ·have q1:(op < 0)=False:=eq_false ho;rw [if_neg ho,List.append_nil] at hP;rw [hP,decide_eq_false ho];have F:=ai @hc @tmz;refine gG ?_;exact ⟨(a1,cap1),trivial,gw,gw⟩
 obtain ⟨a2,cap2⟩:=x;dsimp only;have m1:=ml (l++keyP op nm so) (by simp only [Tae];omega);have b1:=rb (l++keyP op nm so);have p1:=ap (l++keyP op nm so) 40 40 rfl;have e3:l++(keyP op nm so++[40]++Zbi args++[41])=l++keyP op nm so++[40]++Zbi args++[41]:=by simp [Tbf]
 rw [e3];have hP2:(l++keyP op nm so++[40]).length=l.length+(keyP op nm so).length+1:=by simp only [Tae,Tag,Tak]
 have hal:=Zpo args;refine fN 7 @tmz ?_;refine gB ?_;have F:=aj6 @m1 @b1 @p1 @hn1 @hn2 @tmz;refine gP 3 ?_;clear F;refine gS 29 fun a3 cap3=>?_;refine fR (aj3 @hn1 @hn2 @tmz) ?_;clear m1 b1 p1 e3 hP c1 e0';generalize l++keyP op nm so++[40]=q at hP2 ⊢;have hq0:q++Zbi []=q:=by simp [Zbi]
 refine fG (ai @hc @tmz) ?_;have F:=@hq0;refine gL (ι:=Nat × Option Addr × Nat) [5,33,34] [29,1001,1002] (fun x=>[(33,.d (.one (.lit (.int .i64 (x.1:Int)))))]) (fun x=>[(1001,.var (some bo) [.lit (.slice x.2.1 (byR (bs (q++Zbi (args.take x.1)))).length x.2.2)]),(29,.buf (some (x.2.1,x.2.2)) 5 1 (byR (bs (q++Zbi (args.take x.1))))),(1002,.var (some bv) [.fn 211 [.lit (.pointer (some ⟨bo,0,none⟩)),.lit (.pointer (some ⟨bv,0,none⟩))]])]) (fun x=>x.1<=args.length) (fun x=>args.length - x.1) ((0,a3,cap3)) (Taj _) (fun x hx=>?_);clear F
 obtain ⟨i,a4,cap4⟩:=x;simp only at hx;dsimp only;by_cases hlt:i < args.length
 ·obtain ⟨b,hg⟩:∃ b,args[i]?=some b:=⟨_,Taa hlt⟩;have q2:=lT i args.length;have q4:IntKind.i64.wrap ((i:Int)+1)=(i:Int)+1:=IntWalk.i64_in _ om;have hvt:=Ztg hg;have hle:=hal (i+1);rw [hvt,Tae] at hle;have hcon:=h b (Tac hg) (q++Zbi (args.take i)) a4 cap4 (by rw [Tae];omega);rw [Tbf,<- hvt] at hcon;refine fB (aj6 @q2 @hc @Zae @Zb1 @hg @tmz) ?_;have F:=aj4 @Zwy @hn1 @hn2 @tmz;refine gCP [1001,29,1002] [1001,29,1002] (hcon) ?_;clear F
  rintro r pm ⟨a5,cap5,rfl,rfl⟩;simp only [ptrB,setA,retA,zipM,Taf,Tah];refine fR @tmz ?_;have F:=@q4;refine gG ?_;exact ⟨(i+1,a5,cap5),hlt,gw,gw,om⟩
 ·obtain rfl:i=args.length:=by omega
  have q2:=lF args.length args.length;rw [Tap];have m1:=ml (q++Zbi args) (by rw [Tae];omega);have b1:=rb (q++Zbi args);have p1:=ap (q++Zbi args) 41 41 rfl;refine fN 13 @q2 ?_;refine gB ?_;have F:=aj6 @m1 @b1 @p1 @hn1 @hn2 @tmz;refine gP 3 ?_;clear F;refine gS 43 fun a5 cap5=>?_;refine fR (aj3 @hn1 @hn2 @tmz) ?_;exact (have F:=tmz;gTPk (R:=RKey bo bv 211 (bs (q++Zbi args++[41]))) [1001,43,1002] ⟨a5,cap5,rfl,rfl⟩)
theorem Zwz (bo bv:Nat) (hne:bo≠bv) (n:Nat):∀ (t:Tm),sizeTm t < n->ZeZ t->sizeTm t<=60->∀ (l:List UInt8) (a:Option Addr) (cap:Nat),l.length+(Zdn t).length<=90000->ConP e0 211 [.agg (Zab t),.one (.lit (ptrB bo)),.one (.lit (ptrB bv))] [.var (some bo) [.lit (.slice a (byR (bs l)).length cap)],.buf (some (a,cap)) 5 1 (byR (bs l)),.var (some bv) [.fn 211 [.lit (ptrB bo),.lit (ptrB bv)]]] (RKey bo bv 211 (bs (l++Zdn t))):=by
 induction n with
 | zero=>exact fun _ h=>om
 | succ n ih =>
  intro t hn hk hsz l a cap hl;refine Zth t hk hsz l a cap bo bv hne hl fun x hx l a cap hl2=>ih x ?_ ?_ ?_ l a cap hl2
  ·have:=ZbL hx;rw [Zbz] at hn;omega
  ·obtain ⟨op,nm,so,args⟩:=t;simp only [ZeZ] at hk;exact Znq hk.2.2.2.2 x hx
  ·have:=ZbL hx;rw [Zbz] at hsz;omega
theorem ZCd:Zk2 e0.P 227 9=true:=by kernel_rfl
theorem ZAt {g:Sgn} (hg:SgnOk g) {t:Tm} (hf:ZaF g t) (hsz:sizeTm t<=60):Con e0 131 [.agg (Zab t)] [.one (.lit (.string (keyS t)))]:=by
 have hks:=ZrU hg t hf;have hby0:byR (bs [])=[]:=rfl;refine gI (ts:=[.slot 2]) 31 Tryz.func131 ?_;refine fN 1 @tmz ?_;refine gB ?_;have F:=@tmz;refine gP 1 ?_;clear F;refine gO 5 5 1 ?_;refine gS 5 fun a cap=>?_;refine fR @tmz ?_;refine fN 3 (aj3 @ZF0 @ZDW @tmz) ?_;refine pV 3 fun b3 hb3=>?_;refine pV 4 fun b4 hb4=>?_;have hne:b3≠b4:=fun e=>hb4 3 b3 _ (by decide) rfl e.symm;clear hb3 hb4;have hn1:(b3=b4)=False:=eq_false hne
 have hn2:(b4=b3)=False:=eq_false (fun e=>hne e.symm);refine fN 4 (aj7 @Zwy @ZDW @ZFt @ZFu @hn1 @hn2 @tmz) ?_;refine gB ?_;have hcon:=Zwz b3 b4 hne _ t (Tan _) (Zhv hg t hf) hsz [] a cap (by simp only [Tak];omega);simp only [ptrB,hby0,Tak,Tah] at hcon;have F:=aj4 @Zwy @hn1 @hn2 @tmz;refine gCP [3,5,4] [3,5,4] (hcon) ?_;clear F;rintro r pm ⟨a2,cap2,rfl,rfl⟩;simp only [ptrB,setA,retA,zipM,Taf,Tah];refine fR @tmz ?_
 refine ZdU ?_;refine gB ?_;have F:=aj3 @hn1 @hn2 @tmz;refine gP 1 ?_;clear F;refine gK 10 ?_;refine (have F:=tmz;gTx (k:=5) (bs (Zdn t)) ZCd ?_);refine fR @tmz ?_;exact fD @tmz
end Go.Proofs.YtcgacanpeaiabaaGreatDoor
namespace Go.Proofs.YtcgacanpeaiabaaGreatDoor
open Go.RowKit Go.MapKept Go.ChangeMaps
theorem Znr {l:List (ByteArray × Value)} {k s:ByteArray} {v:Value}:Zb6 (l++[(k,v)]) s=(Zb6 l s).or (if s.toList=k.toList then some v else none):=by
 unfold Zb6;rw [List.find?_append]
 cases h:l.find? fun p=>s.toList==p.1.toList with
 | some p=>simp
 | none =>
  by_cases e:s.toList=k.toList
  ·simp [List.find?,e]
  ·have e2:(s.toList==k.toList)=false:=beq_eq_false_iff_ne.2 e;simp only [List.find?,e2,Option.or,if_neg e,Option.map_none]
def Memo (g:Sgn) (l:List (ByteArray × Value)):Prop:=∀ u,ZaF g u->∀ v,Zb6 l (keyS u)=some v->v=.int .i64 (sortsTm g u:Nat)
def Grew (g:Sgn) (n:Nat) (l l':List (ByteArray × Value)):Prop:=∀ u,ZaF g u->n < sizeTm u->Zb6 l (keyS u)=none->Zb6 l' (keyS u)=none
theorem Grew.refl {g:Sgn} {n:Nat} {l:List (ByteArray × Value)}:Grew g n l l:=fun _ _ _ h=>h
theorem Grew.trans {g:Sgn} {n:Nat} {l l' l'':List (ByteArray × Value)} (h:Grew g n l l') (h':Grew g n l' l''):Grew g n l l'':=fun u hu hs h0=>h' u hu hs (h u hu hs h0)
theorem Grew.mono {g:Sgn} {n m:Nat} {l l':List (ByteArray × Value)} (h:Grew g n l l') (hn:n<=m):Grew g m l l':=fun u hu hs h0=>h u hu om h0
theorem Memo.nil {g:Sgn}:Memo g []:=fun u _ v h=>by simp [Zb6] at h
theorem Memo.snoc {g:Sgn} (hg:SgnOk g) {l:List (ByteArray × Value)} (h:Memo g l) {t:Tm} (ht:ZaF g t):Memo g (l++[(keyS t,.int .i64 (sortsTm g t:Nat))]):=by
 intro u hu v hv;rw [Znr] at hv
 cases hl:Zb6 l (keyS u) with
 | some x =>
  rw [hl] at hv;simp only [Option.some_or,Taq] at hv;subst hv;exact h u hu _ hl
 | none =>
  rw [hl,Option.none_or] at hv;by_cases e:(keyS u).toList=(keyS t).toList
  ·rw [if_pos e] at hv;obtain rfl:=ZrS hg hu ht e;simpa using hv.symm
  ·rw [if_neg e] at hv;cases hv
theorem Grew.snoc {g:Sgn} (hg:SgnOk g) {l:List (ByteArray × Value)} {t:Tm} (ht:ZaF g t) {v:Value}:Grew g (sizeTm t) l (l++[(keyS t,v)]):=by
 intro u hu hs h0;rw [Znr,h0,Option.none_or,if_neg];intro e;obtain rfl:=ZrS hg hu ht e;omega
section
variable {e:Env} {K:St->Prop} {ds:List (Option Nat)} {os:List Oper} {s:List (Nat × A)} {m:List (Nat × Bk)}
theorem gLo {d t ty:Nat} {p:String} {ed:Array Edge} {x y:Operand} {b:Nat} {l:List (ByteArray × Value)} {k:ByteArray} {kt el:TypeId} {z v:Value} {f:Bool} (κ:Nat) (ht:e.P.underlying t=some (.map kt el)) (hk:e.P.underlying kt=some .string) (hz:∀ w,(zeroValue el).run e.P w=.ok z w) (hv:(Zb6 l k).getD z=v) (hf:(Zb6 l k).isSome=f)
  (hK:Runs e ds 0 os ⟨(d,.tup [.one (.lit v),.one (.lit (.bool f))])::s,m⟩ K) (hx:evA s x=.d (.one (.lit (.map (some b)))):=by exact sfx) (hy:evA s y=.d (.one (.lit (.string k))):=by exact sfx) (hm:gm m κ=some (mapB b l):=by exact snx):Runs e ds 0 (⟨some d,.lookup t x y true,ty,p,ed,none⟩::os) ⟨s,m⟩ K :=
 ZfD rfl (Zo1 rfl ht hk hz hx hy hm (α:=.tup [.one (.lit v),.one (.lit (.bool f))]) (fun w S L=>by
  rw [hv,hf];exact ⟨[v,.bool f],rfl,by simp [ZaL,DRel,Rep]⟩) hK)
theorem Zg4:e0.P.underlying 181=some (.map 9 3):=by kernel_rfl
theorem ZAu:∀ w,(zeroValue 3).run e0.P w=.ok (.int .i64 0) w:=fun w=>by kernel_rfl
end
end Go.Proofs.YtcgacanpeaiabaaGreatDoor
namespace Go.Proofs.YtcgacanpeaiabaaGreatDoor
open Go.RowKit
theorem Zgz {e:Env} {f:FuncId} {a b:D} {rows:List (List C)} {r:List D} (h:Con e f [a,b,.one (.sl rows)] r):Con e f [a,b,.clip rows] r :=
 ⟨h.1,fun w S vs hS hE hG hv=>h.2 w S vs hS hE hG (by
  match vs,hv with
  | [x,y,z],hv=>exact ⟨hv.1,hv.2.1,hv.2.2.1.1,trivial⟩)⟩
def FitN (d:Dcl) (sets:List Nat) (n:Nat):Prop:=∀ (i:Nat) k s,i < n->d.args[i]?=some k->sets[i]?=some s->s.testBit k.toNat=true
theorem FitN.zero {d:Dcl} {sets:List Nat}:FitN d sets 0:=fun i k s h=>absurd h (Nat.not_lt_zero i)
theorem FitN.succ {d:Dcl} {sets:List Nat} {n:Nat} {k:Int} {s:Nat} (hk:d.args[n]?=some k) (hs:sets[n]?=some s):FitN d sets (n+1) ↔ FitN d sets n∧s.testBit k.toNat=true:=by
 constructor
 ·exact fun h=>⟨fun i k s hi=>h i k s om,h n k s om hk hs⟩
 ·rintro ⟨h1,h2⟩ i k' s' hi hk' hs';by_cases e:i=n
  ·subst e;rw [hk] at hk';rw [hs] at hs';injection hk' with hk'
   injection hs' with hs'
   subst hk' hs';exact h2
  ·exact h1 i k' s' om hk' hs'
theorem FitN.full {d:Dcl} {sets:List Nat}:FitN d sets d.args.length ↔ ∀ (i:Nat) k s,d.args[i]?=some k->sets[i]?=some s->s.testBit k.toNat=true :=
 ⟨fun h i k s hk hs=>h i k s (Tad.1 hk).1 hk hs,fun h i k s _ hk hs=>h i k s hk hs⟩
def GvB (g:Sgn) (P:Dcl->Prop) (ds:List Dcl) (b:Nat):Prop:=∃ d∈ds,P d∧(upk g d.res).testBit b=true
theorem ZEJ {g:Sgn} {P:Dcl->Prop} {N:Nat}:ofB (GvB g P []) N=0:=Zhr fun b _ h=>by
 obtain ⟨d,hd,_⟩:=h
 cases hd
theorem ZFv {g:Sgn} {P:Dcl->Prop} {N:Nat} {ds:List Dcl} {d:Dcl} (h:P d) (hu:upk g d.res < 2 ^ N):ofB (GvB g P (ds++[d])) N=ofB (GvB g P ds) N ||| upk g d.res:=by
 rw [<- Zhs hu,Zgy];refine Za8 fun b _=>?_;constructor
 ·rintro ⟨x,hx,h1,h2⟩;rcases Tbh.1 hx with hx | hx
  ·exact .inl ⟨x,hx,h1,h2⟩
  ·rw [Tbj.1 hx] at h2;exact .inr h2
 ·rintro (⟨x,hx,h1,h2⟩ | h2)
  ·exact ⟨x,List.mem_append_left _ hx,h1,h2⟩
  ·exact ⟨d,List.mem_append_right _ (Tbj.2 rfl),h,h2⟩
theorem ZF1 {g:Sgn} {P:Dcl->Prop} {N:Nat} {ds:List Dcl} {d:Dcl} (h:¬ P d):ofB (GvB g P (ds++[d])) N=ofB (GvB g P ds) N:=by
 refine Za8 fun b _=>?_;constructor
 ·rintro ⟨x,hx,h1,h2⟩;rcases Tbh.1 hx with hx | hx
  ·exact ⟨x,hx,h1,h2⟩
  ·rw [Tbj.1 hx] at h1;exact absurd h1 h
 ·rintro ⟨x,hx,h1,h2⟩;exact ⟨x,List.mem_append_left _ hx,h1,h2⟩
theorem ZFw {g:Sgn} {o:Opr} {sets:List Nat} {N:Nat}:ofB (GvB g (fun d=>FitN d sets d.args.length∨(o.comm=true∧FitN d sets.reverse d.args.length)) o.decls) N=ofB (AnyB g o sets) N:=by
 refine Za8 fun b _=>?_;unfold AnyB ZdO;constructor
 ·rintro ⟨d,hd,h1,h2⟩;rcases h1 with h1 | ⟨h0,h1⟩
  ·exact .inl ⟨d,hd,FitN.full.1 h1,h2⟩
  ·exact .inr ⟨h0,d,hd,FitN.full.1 h1,h2⟩
 ·rintro (⟨d,hd,h1,h2⟩ | ⟨h0,d,hd,h1,h2⟩)
  ·exact ⟨d,hd,.inl (FitN.full.2 h1),h2⟩
  ·exact ⟨d,hd,.inr ⟨h0,FitN.full.2 h1⟩,h2⟩
theorem ZbX {v N:Nat} (h:v < 2 ^ N) (hN:N<=8):v < 4611686018427387904:=by
 have:2 ^ N<=2 ^ 8:=Tbs om hN;omega
section
variable {g:Sgn} {mc:C}
open Classical in
theorem Zih (hg:SgnOk g) {op:Int} {o:Opr} (h0:0<=op) (ho:g.ops[op.toNat]?=some o) (sets:List Nat) (hlen:∀ d∈o.decls,d.args.length=sets.length) (hsl:sets.length<=3) (hs:∀ s∈sets,s < 2 ^ g.sorts.names.length):Con e0 255 [.one (.ptr (encX g mc)),.one (.lit (.int .i64 op)),.one (.sl (nR sets))] [.one (.lit (.int .i64 ((ofB (AnyB g o sets) g.sorts.names.length:Nat):Int)))]:=by
 have hN:=hg.sorts.n8;have hD:=hg.decls o (Tac ho);have hdl:o.decls.length<=4:=hD.len4;rw [<- ZFw];generalize hPd:(fun d=>FitN d sets d.args.length∨(o.comm=true∧FitN d sets.reverse d.args.length))=P;have z0:ofB (GvB g P []) g.sorts.names.length=0:=ZEJ;have z1:((ofB (GvB g P []) g.sorts.names.length:Nat):Int)=0:=by rw [z0];rfl
 have hUl:(nR (up g.sorts)).length=g.sorts.names.length:=by rw [Za0,Zru hg.sorts]
 refine gI (ts:=[.slot 6]) 1180591620846512012743 Tryz.func255 ?_;refine fG (aj5 @Zba @h0 @ho @Zah @tmz) ?_;have F:=@tmz;refine gL (ι:=Nat × Nat) [8,10,11,12,13,14,26,27,33,34,35,36,70] [] (fun x=>[(26,A.d (.one (.lit (.int .i64 x.1)))),(8,A.d (.one (.lit (.int .i64 x.2))))]) (fun x=>[]) (fun x=>x.1<=o.decls.length∧x.2=ofB (GvB g P (o.decls.take x.1)) g.sorts.names.length) (fun x=>o.decls.length - x.1) ((0,0)) (⟨Taj _,z0.symm⟩) (fun x hx=>?_);clear F
 obtain ⟨i,out⟩:=x;obtain ⟨hi,hout⟩:=hx;simp only at hi hout;subst hout;dsimp only;have hob:ofB (GvB g P (o.decls.take i)) g.sorts.names.length < 2 ^ g.sorts.names.length:=Zcr _ _;have hob62:=ZbX hob hN;by_cases hlt:i < o.decls.length;rotate_left
 ·obtain rfl:i=o.decls.length:=by omega
  have q1:=lF o.decls.length o.decls.length;rw [Tap];exact fD (ai @q1 @tmz)
 obtain ⟨d,hdi⟩:∃ d,o.decls[i]?=some d:=⟨_,Taa hlt⟩;have hdm:=Tac hdi;have hdl2:=hlen d hdm;obtain ⟨f,hf,_⟩:=hg.first ho;have hdo:=hD.all f hf d hdm;have q1:=lT i o.decls.length;have hw1:=Zan (k:=i) om;have hsnoc:o.decls.take (i+1)=o.decls.take i++[d]:=by simp [List.take_add_one,hdi]
 refine fN 6 (aj3 @q1 @hdi @tmz) ?_;refine Zaq 4 (by decide +kernel) ?_;intro ds hds;simp only [List.map] at hds;subst hds;have F:=ai @Zah @tmz;refine gP 2 ?_;clear F;refine (have F:=tmz;gAq ?_);refine (have F:=tmz;gAq ?_);refine fR @tmz ?_;refine fG (ai @Za1 @tmz) ?_;have F:=@tmz;refine gL (ι:=Nat × Bool × Bool) [11,12,13,14,35,36] [] (fun y=>[(35,A.d (.one (.lit (.int .i64 y.1)))),(11,A.d (.one (.lit (.bool y.2.1)))),(12,A.d (.one (.lit (.bool y.2.2))))]) (fun y=>[]) (fun y=>y.1<=d.args.length∧y.2.1=decide (FitN d sets y.1)∧y.2.2=decide (o.comm=true∧FitN d sets.reverse y.1)) (fun y=>d.args.length - y.1) ((0,true,o.comm)) (⟨Taj _,(decide_eq_true FitN.zero).symm,by cases o.comm <;> simp [FitN.zero]⟩) (fun y hy=>?_);clear F
 obtain ⟨j,b1,b2⟩:=y;obtain ⟨hj,hb1,hb2⟩:=hy;simp only at hj hb1 hb2;dsimp only;by_cases hjl:j < d.args.length
 ·obtain ⟨k,hk⟩:∃ k,d.args[j]?=some k:=⟨_,Taa hjl⟩;have hkr:=hdo.args k (Tac hk);obtain ⟨kn,rfl⟩:∃ kn:Nat,k=kn:=⟨k.toNat,om⟩;obtain ⟨s,hsj⟩:∃ s,sets[j]?=some s:=⟨_,Taa om⟩;obtain ⟨s',hsj'⟩:∃ s,sets[sets.length - 1 - j]?=some s:=⟨_,Taa om⟩;have hrv:sets.reverse[j]?=some s':=by rw [List.getElem?_reverse om];exact hsj'
  have b62:=ZbX (hs s (Tac hsj)) hN;have b62':=ZbX (hs s' (Tac hsj')) hN;have q2:=lT j d.args.length;have hwj:=Zan (k:=j) om;have r1:=ZaZ hsj;have r2:=ZaZ hsj';have rl:=Za0 (l:=sets);have rr:=ZaX (l:=sets);have h1:=ZgR (k:=kn) om;have h2:=Zm1 (x:=s) (k:=kn) b62 om;have h3:=Zm1 (x:=s') (k:=kn) b62' om;have w1:IntKind.i64.wrap ((sets.length:Int) - 1)=((sets.length - 1:Nat):Int):=ZaM om om om;have w2:IntKind.i64.wrap (((sets.length - 1:Nat):Int) - (j:Int))=((sets.length - 1 - j:Nat):Int):=ZaM om om om
  have i1:(j < sets.length)=True:=eq_true om;have i2:(sets.length - 1 - j < sets.length)=True:=eq_true om;have hf1:=FitN.succ (n:=j) hk hsj;have hf2:=FitN.succ (sets:=sets.reverse) (n:=j) hk hrv;rw [show (kn:Int).toNat=kn from rfl] at hf1 hf2;refine fN 10 (aj4 @q2 @hk @ZaU @tmz) ?_;refine gM (ι:=Bool) [11] [] (fun b=>[(11,A.d (.one (.lit (.bool b))))]) (fun b=>[]) (fun b=>b=decide (FitN d sets (j+1))) ?_ (fun b hb=>Exists.intro _ (ai (Wk.refl _) ?_))
  ·cases b1 with
   | false =>
    have e:false=decide (FitN d sets (j+1)):=(decide_eq_false fun h=>by
     have:=hf1.1 h;rw [decide_eq_true this.1] at hb1
     cases hb1).symm
    have F:=@tmz;refine gG ?_;exact ⟨false,e,gw,gw⟩
   | true =>
    have hb1':=of_decide_eq_true hb1.symm
    cases ht:tbit s kn with
    | false =>
     rw [ht] at h2;have e:false=decide (FitN d sets (j+1)):=(decide_eq_false fun h=>by
      have:=(hf1.1 h).2;rw [show s.testBit kn=false from ht] at this
      cases this).symm
     have F:=aj8 @r1 @rl @rr @h1 @h2 @i1 @Zal @tmz;refine gG ?_;exact ⟨false,e,gw,gw⟩
    | true =>
     rw [ht] at h2;have e:true=decide (FitN d sets (j+1)):=(decide_eq_true (hf1.2 ⟨hb1',ht⟩)).symm;have F:=aj8 @r1 @rl @rr @h1 @h2 @i1 @Zal @tmz;refine gG ?_;exact ⟨true,e,gw,gw⟩
  clear hb1;refine fN 11 @tmz ?_;refine gM (ι:=Bool) [12] [] (fun c=>[(12,A.d (.one (.lit (.bool c))))]) (fun c=>[]) (fun c=>c=decide (o.comm=true∧FitN d sets.reverse (j+1))) ?_ (fun c hc=>Exists.intro _ (ai (Wk.refl _) ?_))
  ·cases b2 with
   | false =>
    have e:false=decide (o.comm=true∧FitN d sets.reverse (j+1)):=(decide_eq_false fun h=>by
     have:=hf2.1 h.2;rw [decide_eq_true ⟨h.1,this.1⟩] at hb2
     cases hb2).symm
    have F:=@tmz;refine gG ?_;exact ⟨false,e,gw,gw⟩
   | true =>
    have hb2':=of_decide_eq_true hb2.symm
    cases ht:tbit s' kn with
    | false =>
     rw [ht] at h3;have e:false=decide (o.comm=true∧FitN d sets.reverse (j+1)):=(decide_eq_false fun h=>by
      have:=(hf2.1 h.2).2;rw [show s'.testBit kn=false from ht] at this
      cases this).symm
     have F:=aj10 @r2 @rl @rr @w1 @w2 @h1 @h3 @i2 @Zal @tmz;refine gG ?_;exact ⟨false,e,gw,gw⟩
    | true =>
     rw [ht] at h3;have e:true=decide (o.comm=true∧FitN d sets.reverse (j+1)):=(decide_eq_true ⟨hb2'.1,hf2.2 ⟨hb2'.2,ht⟩⟩).symm;have F:=aj10 @r2 @rl @rr @w1 @w2 @h1 @h3 @i2 @Zal @tmz;refine gG ?_;exact ⟨true,e,gw,gw⟩
  have F:=ai @hwj @tmz;refine gG ?_;exact ⟨(j+1,b,c),⟨hjl,hb,hc⟩,gw,gw,om⟩
 ·obtain rfl:j=d.args.length:=by omega
  have q2:=lF d.args.length d.args.length;have hPi:P d ↔ FitN d sets d.args.length∨(o.comm=true∧FitN d sets.reverse d.args.length):=by rw [<- hPd]
  have hres:=Ziu hg.sorts hdo.res.1 hdo.res.2;have ru:=ZoU hres.1;have rr:=ZaX (l:=up g.sorts);have ho2:=Zd3 hob62 (ZbX hres.2 hN);have hr0:=hdo.res.1;have hr1:=hdo.res.2;have hrl:(d.res.toNat < g.sorts.names.length)=True:=eq_true om;by_cases hp:P d
  ·have hor:(b1 || b2)=true:=by
    rcases hPi.1 hp with h | h
    ·rw [hb1,decide_eq_true h];rfl
    ·rw [hb2,decide_eq_true h,Bool.or_true]
   have e:=ZFv (N:=g.sorts.names.length) (ds:=o.decls.take i) hp hres.2;rw [<- hsnoc] at e;rw [<- e] at ho2
   cases b1 with
   | true => 
    have F:=aj8 @q2 @Zba @ru @ZaU @hr0 @ho2 @hw1 @tmz;refine gG ?_;exact ⟨(i+1,ofB (GvB g P (o.decls.take (i+1))) g.sorts.names.length),⟨hlt,rfl⟩,gw,gw,om⟩
   | false =>
    rw [Bool.false_or] at hor;subst hor;have F:=aj8 @q2 @Zba @ru @ZaU @hr0 @ho2 @hw1 @tmz;refine gG ?_;exact ⟨(i+1,ofB (GvB g P (o.decls.take (i+1))) g.sorts.names.length),⟨hlt,rfl⟩,gw,gw,om⟩
  ·have h1:b1=false:=by rw [hb1];exact decide_eq_false fun h=>hp (hPi.2 (.inl h))
   have h2:b2=false:=by rw [hb2];exact decide_eq_false fun h=>hp (hPi.2 (.inr h))
   subst h1 h2;have e:=ZF1 (g:=g) (N:=g.sorts.names.length) (ds:=o.decls.take i) hp;rw [<- hsnoc] at e;rw [<- e];have F:=aj3 @q2 @hw1 @tmz;refine gG ?_;exact ⟨(i+1,ofB (GvB g P (o.decls.take (i+1))) g.sorts.names.length),⟨hlt,rfl⟩,gw,gw,om⟩
def ClB (g:Sgn) (v n b:Nat):Prop:=∃ k,k < n∧v.testBit k=true∧((up g.sorts).getD k 0).testBit b=true
theorem ZEK {v n N:Nat} (h:tbit v n=true) (hu:(up g.sorts).getD n 0 < 2 ^ N):ofB (ClB g v (n+1)) N=ofB (ClB g v n) N ||| (up g.sorts).getD n 0:=by
 rw [<- Zhs hu,Zgy];refine Za8 fun b _=>?_;constructor
 ·rintro ⟨k,h1,h2,h3⟩;by_cases e:k=n
  ·subst e;exact .inr h3
  ·exact .inl ⟨k,om,h2,h3⟩
 ·rintro (⟨k,h1,h2,h3⟩ | h3)
  ·exact ⟨k,om,h2,h3⟩
  ·exact ⟨n,om,h,h3⟩
theorem ZEL {v n N:Nat} (h:tbit v n=false):ofB (ClB g v (n+1)) N=ofB (ClB g v n) N:=by
 refine Za8 fun b _=>?_;constructor
 ·rintro ⟨k,h1,h2,h3⟩;by_cases e:k=n
  ·subst e;rw [show v.testBit k=false from h] at h2
   cases h2
  ·exact ⟨k,om,h2,h3⟩
 ·rintro ⟨k,h1,h2,h3⟩;exact ⟨k,om,h2,h3⟩
theorem ZEM {v N:Nat}:ofB (ClB g v 0) N=0:=Zhr fun b _ h=>by
 obtain ⟨k,h1,_⟩:=h;omega
theorem Zti (hg:SgnOk g) {v:Nat} (hv:v < 2 ^ g.sorts.names.length):Con e0 308 [.one (.sl (nR (up g.sorts))),.one (.lit (.int .i64 (v:Int)))] [.one (.lit (.int .i64 ((ofB (ClB g v g.sorts.names.length) g.sorts.names.length:Nat):Int)))]:=by
 have hN:=hg.sorts.n8;have hv62:=ZbX hv hN;have hUl:(nR (up g.sorts)).length=g.sorts.names.length:=by rw [Za0,Zru hg.sorts]
 have z0:ofB (ClB g v 0) g.sorts.names.length=0:=ZEM;have rr:=ZaX (l:=up g.sorts);refine gI (ts:=[.slot 4]) 33907 Tryz.func308 ?_;refine fG @tmz ?_;have F:=@tmz;refine gL (ι:=Nat × Nat) [5,6,10,15] [] (fun x=>[(6,A.d (.one (.lit (.int .i64 x.1)))),(5,A.d (.one (.lit (.int .i64 x.2))))]) (fun x=>[]) (fun x=>x.1<=g.sorts.names.length∧x.2=ofB (ClB g v x.1) g.sorts.names.length) (fun x=>g.sorts.names.length - x.1) ((0,0)) (⟨Taj _,z0.symm⟩) (fun x hx=>?_);clear F
 obtain ⟨i,out⟩:=x;obtain ⟨hi,hout⟩:=hx;simp only at hi hout;subst hout;dsimp only;by_cases hlt:i < g.sorts.names.length;rotate_left
 ·obtain rfl:i=g.sorts.names.length:=by omega
  have q1:=lF g.sorts.names.length g.sorts.names.length;exact fD (aj3 @q1 @hUl @tmz)
 have q1:=lT i g.sorts.names.length;have hw1:=Zan (k:=i) om;have hu:=(Zf6 (SortsOk.subsIn hg.sorts.subs)).get hlt;have ru:=ZaZ hu.1;have ho2:=Zd3 (ZbX (Zcr (ClB g v i) g.sorts.names.length) hN) (ZbX hu.2 hN);refine fN 5 (aj3 @q1 @hUl @tmz) ?_;refine gB ?_;refine fC @tmz (Zgv (a:=v) (k:=i) hv62 om) ?_
 cases ht:tbit v i with
 | false =>
  have e:=ZEL (g:=g) (N:=g.sorts.names.length) ht;rw [<- e];refine fR @tmz ?_;have F:=ai @hw1 @tmz;refine gG ?_;exact ⟨(i+1,ofB (ClB g v (i+1)) g.sorts.names.length),⟨hlt,rfl⟩,gw,gw,om⟩
 | true =>
  have e:=ZEK ht hu.2;rw [<- e] at ho2;refine fR @tmz ?_;have F:=aj8 @ru @rr @hUl @hlt @ho2 @hw1 @Zal @tmz;refine gG ?_;exact ⟨(i+1,ofB (ClB g v (i+1)) g.sorts.names.length),⟨hlt,rfl⟩,gw,gw,om⟩
def RsB (P:Dcl->Prop) (ds:List Dcl) (b:Nat):Prop:=∃ d∈ds,P d∧d.res.toNat=b
theorem ZEN {P:Dcl->Prop} {N:Nat}:ofB (RsB P []) N=0:=Zhr fun b _ h=>by
 obtain ⟨d,hd,_⟩:=h
 cases hd
theorem ZFx {P:Dcl->Prop} {N:Nat} {ds:List Dcl} {d:Dcl} (h:P d) (hu:d.res.toNat < N):ofB (RsB P (ds++[d])) N=ofB (RsB P ds) N ||| 2 ^ d.res.toNat:=by
 have h2:2 ^ d.res.toNat < 2 ^ N:=Nat.pow_lt_pow_right om hu;rw [<- Zhs h2,Zgy];refine Za8 fun b _=>?_;rw [Zvn];constructor
 ·rintro ⟨x,hx,h1,h2⟩;rcases Tbh.1 hx with hx | hx
  ·exact .inl ⟨x,hx,h1,h2⟩
  ·rw [Tbj.1 hx] at h2;exact .inr h2
 ·rintro (⟨x,hx,h1,h2⟩ | h2)
  ·exact ⟨x,List.mem_append_left _ hx,h1,h2⟩
  ·exact ⟨d,List.mem_append_right _ (Tbj.2 rfl),h,h2⟩
theorem ZF2 {P:Dcl->Prop} {N:Nat} {ds:List Dcl} {d:Dcl} (h:¬ P d):ofB (RsB P (ds++[d])) N=ofB (RsB P ds) N:=by
 refine Za8 fun b _=>?_;constructor
 ·rintro ⟨x,hx,h1,h2⟩;rcases Tbh.1 hx with hx | hx
  ·exact ⟨x,hx,h1,h2⟩
  ·rw [Tbj.1 hx] at h1;exact absurd h1 h
 ·rintro ⟨x,hx,h1,h2⟩;exact ⟨x,List.mem_append_left _ hx,h1,h2⟩
theorem ZEO (hg:SgnOk g) {o:Opr} (hD:∀ d∈o.decls,0<=d.res∧d.res < g.sorts.names.length) (sets:List Nat):ofB (ClB g (ofB (RsB (fun d=>FitN d sets d.args.length) o.decls) g.sorts.names.length) g.sorts.names.length) g.sorts.names.length=ofB (ZdO g o sets) g.sorts.names.length:=by
 refine Za8 fun b _=>?_;unfold ClB ZdO;constructor
 ·rintro ⟨k,h1,h2,h3⟩;obtain ⟨h4,d,hd,h5,h6⟩:=(ZdC _ _ _).1 h2;refine ⟨d,hd,FitN.full.1 h5,?_⟩;unfold upk;rw [h6];exact h3
 ·rintro ⟨d,hd,h1,h2⟩;have hr:=hD d hd;exact ⟨d.res.toNat,om,(ZdC _ _ _).2 ⟨om,d,hd,FitN.full.2 h1,rfl⟩,h2⟩
open Classical in
theorem Zja (hg:SgnOk g) {o:Opr} (hm:o∈g.ops) (sets:List Nat) (hlen:∀ d∈o.decls,d.args.length=sets.length) (hsl:sets.length<=3) (hs:∀ s∈sets,s < 2 ^ g.sorts.names.length):Con e0 292 [.one (.sl (nR (up g.sorts))),.one (.sl (o.decls.map Zhd)),.one (.sl (nR sets))] [.one (.lit (.int .i64 ((ofB (ZdO g o sets) g.sorts.names.length:Nat):Int)))]:=by
 have hN:=hg.sorts.n8;have hD:=hg.decls o hm;have hdl:o.decls.length<=4:=hD.len4;obtain ⟨f,hf⟩:∃ f,o.decls[0]?=some f:=⟨_,Taa (by have:=hD.len1;omega)⟩;have hres:=fun d hd=>(hD.all f hf d hd).res;rw [<- ZEO hg hres sets];generalize hPd:(fun d=>FitN d sets d.args.length)=P;have z0:ofB (RsB P []) g.sorts.names.length=0:=ZEN;have cC:=Zti hg (Zcr (RsB P o.decls) g.sorts.names.length);refine gI (ts:=[.slot 6]) 549756880839 Tryz.func292 ?_
 refine fG @tmz ?_;have F:=@tmz;refine gL (ι:=Nat × Nat) [7,8,9,10,14,20,39] [] (fun x=>[(8,A.d (.one (.lit (.int .i64 x.1)))),(7,A.d (.one (.lit (.int .i64 x.2))))]) (fun x=>[]) (fun x=>x.1<=o.decls.length∧x.2=ofB (RsB P (o.decls.take x.1)) g.sorts.names.length) (fun x=>o.decls.length - x.1) ((0,0)) (⟨Taj _,z0.symm⟩) (fun x hx=>?_);clear F;obtain ⟨i,out⟩:=x;obtain ⟨hi,hout⟩:=hx;simp only at hi hout
 subst hout;dsimp only;by_cases hlt:i < o.decls.length;rotate_left
 ·obtain rfl:i=o.decls.length:=by omega
  have q1:=lF o.decls.length o.decls.length;rw [Tap];refine fN 12 (ai @q1 @tmz) ?_;refine gB ?_;refine fC @tmz (cC) ?_;refine fR @tmz ?_;exact fD @tmz
 obtain ⟨d,hdi⟩:∃ d,o.decls[i]?=some d:=⟨_,Taa hlt⟩;have hdm:=Tac hdi;have hdl2:=hlen d hdm;have hdo:=hD.all f hf d hdm;have q1:=lT i o.decls.length;have hw1:=Zan (k:=i) om;have hsnoc:o.decls.take (i+1)=o.decls.take i++[d]:=by simp [List.take_add_one,hdi]
 have rl:=Za0 (l:=sets);have rr:=ZaX (l:=sets);refine fG (ai @q1 @tmz) ?_;have F:=@tmz;refine gL (ι:=Nat × Bool) [9,10,20] [] (fun y=>[(10,A.d (.one (.lit (.int .i64 y.1)))),(9,A.d (.one (.lit (.bool y.2))))]) (fun y=>[]) (fun y=>y.1<=sets.length∧y.2=decide (FitN d sets y.1)) (fun y=>sets.length - y.1) ((0,true)) (⟨Taj _,(decide_eq_true FitN.zero).symm⟩) (fun y hy=>?_);clear F;obtain ⟨j,b1⟩:=y;obtain ⟨hj,hb1⟩:=hy
 simp only at hj hb1;dsimp only;by_cases hjl:j < sets.length
 ·obtain ⟨k,hk⟩:∃ k,d.args[j]?=some k:=⟨_,Taa om⟩;have hkr:=hdo.args k (Tac hk);obtain ⟨kn,rfl⟩:∃ kn:Nat,k=kn:=⟨k.toNat,om⟩;obtain ⟨s,hsj⟩:∃ s,sets[j]?=some s:=⟨_,Taa om⟩;have b62:=ZbX (hs s (Tac hsj)) hN;have q2:=lT j sets.length;have hwj:=Zan (k:=j) om;have r1:=ZaZ hsj;have i1:(j < sets.length)=True:=eq_true om;have i3:(j < d.args.length)=True:=eq_true om;have hf1:=FitN.succ (n:=j) hk hsj;rw [show (kn:Int).toNat=kn from rfl] at hf1
  refine fN 9 (aj3 @q2 @rl @tmz) ?_;refine gM (ι:=Bool) [9] [] (fun b=>[(9,A.d (.one (.lit (.bool b))))]) (fun b=>[]) (fun b=>b=decide (FitN d sets (j+1))) ?_ (fun b hb=>Exists.intro _ (ai (Wk.refl _) ?_))
  ·cases b1 with
   | false =>
    have e:false=decide (FitN d sets (j+1)):=(decide_eq_false fun h=>by
     have:=hf1.1 h;rw [decide_eq_true this.1] at hb1
     cases hb1).symm
    have F:=@tmz;refine gG ?_;exact ⟨false,e,gw,gw⟩
   | true =>
    have hb1':=of_decide_eq_true hb1.symm;have e:tbit s kn=decide (FitN d sets (j+1)):=by
     cases ht:tbit s kn with
     | false=>exact (decide_eq_false fun h=>by
       have:=(hf1.1 h).2;rw [show s.testBit kn=false from ht] at this
       cases this).symm
     | true=>exact (decide_eq_true (hf1.2 ⟨hb1',ht⟩)).symm
    refine gB ?_;refine fC (aj11 @r1 @rl @rr @i1 @i3 @hdi @hk @Za1 @ZaU @Zal @tmz) (Zgv (a:=s) (k:=kn) b62 om) ?_;refine fR @tmz ?_;have F:=@tmz;refine gG ?_;exact ⟨tbit s kn,e,gw,gw⟩
  have F:=ai @hwj @tmz;refine gG ?_;exact ⟨(j+1,b),⟨hjl,hb⟩,gw,gw,om⟩
 ·obtain rfl:j=sets.length:=by omega
  have q2:=lF sets.length sets.length;have hPi:P d ↔ FitN d sets sets.length:=by rw [<- hPd,<- hdl2]
  have hr0:=hdo.res.1;have hr1:=hdo.res.2;obtain ⟨rn,hrn⟩:∃ rn:Nat,d.res=rn:=⟨d.res.toNat,om⟩;have cB:=ZhP (k:=rn) om;rw [<- hrn] at cB;have ho2:=Zd3 (ZbX (Zcr (RsB P (o.decls.take i)) g.sorts.names.length) hN) (ZbX (v:=2 ^ rn) (N:=g.sorts.names.length) (Nat.pow_lt_pow_right om om) hN)
  cases b1 with
  | true =>
   have hp:P d:=hPi.2 (of_decide_eq_true hb1.symm);have e:=ZFx (N:=g.sorts.names.length) (ds:=o.decls.take i) hp om;rw [<- hsnoc,show d.res.toNat=rn by omega] at e;rw [<- e] at ho2;refine fN 11 (aj3 @q2 @rl @tmz) ?_;refine gB ?_;refine fC (aj3 @hdi @Za1 @tmz) (cB) ?_;refine fR (ai @ho2 @tmz) ?_;have F:=ai @hw1 @tmz;refine gG ?_;exact ⟨(i+1,ofB (RsB P (o.decls.take (i+1))) g.sorts.names.length),⟨hlt,rfl⟩,gw,gw,om⟩
  | false =>
   have hp:¬ P d:=fun h=>by rw [decide_eq_true (hPi.1 h)] at hb1;cases hb1
   have e:=ZF2 (N:=g.sorts.names.length) (ds:=o.decls.take i) hp;rw [<- hsnoc] at e;rw [<- e];have F:=aj4 @q2 @rl @hw1 @tmz;refine gG ?_;exact ⟨(i+1,ofB (RsB P (o.decls.take (i+1))) g.sorts.names.length),⟨hlt,rfl⟩,gw,gw,om⟩
theorem Zlx (hg:SgnOk g) {op:Int} {o:Opr} (h0:0<=op) (ho:g.ops[op.toNat]?=some o) (sets:List Nat) (hlen:∀ d∈o.decls,d.args.length=sets.length) (hsl:sets.length<=3) (hs:∀ s∈sets,s < 2 ^ g.sorts.names.length):Con e0 246 [.agg (Zas g),.one (.lit (.int .i64 op)),.one (.sl (nR sets))] [.one (.lit (.int .i64 ((ofB (ZdO g o sets) g.sorts.names.length:Nat):Int)))]:=by
 have cU:=Zhj hg.sorts.n8 hg.sorts.m16 (SortsOk.subsIn hg.sorts.subs);have cG:=Zja hg (Tac ho) sets hlen hsl hs;rw [Zbh] at cU;rw [Zas];refine gI (ts:=[.slot 6]) 79 Tryz.func246 ?_;refine fN 1 @tmz ?_;refine gB ?_;refine fC @tmz (cU) ?_;refine fC (aj4 @h0 @ho @Zah @tmz) (cG) ?_;refine fR @tmz ?_;exact fD @tmz
end
theorem ZrV {a b:Nat} (ha:a < 4611686018427387904) (hb:b < 4611686018427387904):bits .xor .i64 (a:Int) (b:Int)=((a ^^^ b:Nat):Int):=by
 have h:a ^^^ b < 2 ^ 62:=Nat.xor_lt_two_pow om om;have e:(BitVec.ofInt IntKind.i64.bits (a:Int) ^^^ BitVec.ofInt IntKind.i64.bits (b:Int)).toNat=a ^^^ b:=by
  rw [BitVec.toNat_xor];show (BitVec.ofInt 64 (a:Int)).toNat ^^^ (BitVec.ofInt 64 (b:Int)).toNat=_;rw [Zin om,Zin om]
 unfold bits;show IntKind.i64.wrap _=_;rw [e];exact ZlS om om
def Eith (R:Nat->Nat->Nat->Prop) (a c b:Nat):Prop:=R a c b∨R c a b
theorem ZCe {R:Nat->Nat->Nat->Prop} {sets:List Nat} {m b:Nat}:BagB (Eith R) sets m b ↔ BagB R sets m b:=by
 constructor
 ·intro h
  induction h with
  | leaf h1 h2=>exact .leaf h1 h2
  | node h1 h2 h3 _ _ h6 i1 i2 =>
   rcases h6 with h6 | h6
   ·exact .node h1 h2 h3 i1 i2 h6
   ·rw [Nat.or_comm];exact .node h2 h1 (by rw [Nat.and_comm];exact h3) i2 i1 h6
 ·intro h
  induction h with
  | leaf h1 h2=>exact .leaf h1 h2
  | node h1 h2 h3 _ _ h6 i1 i2=>exact .node h1 h2 h3 i1 i2 (.inl h6)
theorem ZCf {R:Nat->Nat->Nat->Prop} {s t b:Nat}:Two (Eith R) s t b ↔ Two R s t b∨Two R t s b:=by
 unfold Two Eith;constructor
 ·rintro ⟨a,c,h1,h2,h3 | h3⟩
  ·exact .inl ⟨a,c,h1,h2,h3⟩
  ·exact .inr ⟨c,a,h2,h1,h3⟩
 ·rintro (⟨a,c,h1,h2,h3⟩ | ⟨a,c,h1,h2,h3⟩)
  ·exact ⟨a,c,h1,h2,.inl h3⟩
  ·exact ⟨c,a,h2,h1,.inr h3⟩
noncomputable def bvN (g:Sgn) (R:Nat->Nat->Nat->Prop) (sets:List Nat) (m:Nat):Nat:=ofB (BagB R sets m) g.sorts.names.length
theorem ZCg {g:Sgn} {R:Nat->Nat->Nat->Prop} {sets:List Nat} {m:Nat}:bvN g (Eith R) sets m=bvN g R sets m:=Za8 fun b _=>ZCe
def BagT (g:Sgn) (R:Nat->Nat->Nat->Prop) (sets:List Nat) (M:Nat) (T:List Nat):Prop:=T.length=2 ^ sets.length∧∀ m,1<=m->m < 2 ^ sets.length->(m < M->T[m]?=some (bvN g R sets m))∧(M<=m->T[m]?=some 0)
section
variable {g:Sgn} {R:Nat->Nat->Nat->Prop} {sets:List Nat}
theorem BagT.start:BagT g R sets 1 (List.replicate (2 ^ sets.length) 0):=⟨by simp,fun m h1 h2=>⟨fun h=>om,fun _=>by rw [Tbr,if_pos h2]⟩⟩
theorem BagT.next {M:Nat} {T:List Nat} (h:BagT g R sets M T) (hM:M < 2 ^ sets.length):BagT g R sets (M+1) (T.set M (bvN g R sets M)):=by
 refine ⟨by rw [Taz,h.1],fun m h1 h2=>?_⟩;by_cases e:m=M
 ·subst e;exact ⟨fun _=>Tbn (by rw [h.1];exact h2),fun q=>om⟩
 ·rw [Tbo (Ne.symm e)];exact ⟨fun q=>(h.2 m h1 h2).1 om,fun q=>(h.2 m h1 h2).2 om⟩
theorem BagT.zero {M:Nat} {T:List Nat} (h:BagT g R sets M T) (h1:1<=M) (hM:M < 2 ^ sets.length):T.set M 0=T:=by
 have h2:=(h.2 M h1 hM).2 (Tai _);refine List.ext_getElem? fun q=>?_;by_cases e:q=M
 ·subst e;rw [Tbn (by rw [h.1];exact hM),h2]
 ·rw [Tbo (Ne.symm e)]
theorem Zvy:∀ (q:Nat),(2 ^ q - 1) &&& 2 ^ q=0:=fun q=>by
 refine Nat.eq_of_testBit_eq fun i=>?_;rw [Nat.testBit_and,Nat.testBit_two_pow_sub_one,Nat.testBit_two_pow,Nat.zero_testBit];by_cases h:i < q
 ·simp [h];omega
 ·simp [h]
theorem Zvz {m:Nat} (hm:m≠0) (h:(m - 1) &&& m=0):∃ q,m=2 ^ q:=by
 refine ⟨Nat.log2 m,?_⟩;have h1:=Nat.log2_self_le hm;have h2:m < 2 ^ (Nat.log2 m+1):=(Nat.log2_lt hm).1 (Tan _);refine Classical.byContradiction fun hne=>?_;have h3:(m - 1).testBit (Nat.log2 m)=true:=by
  have:=Tbt (x:=m - 1) (i:=Nat.log2 m)
  cases ht:(m - 1).testBit (Nat.log2 m) with
  | true=>rfl
  | false =>
   have h4:m - 1 < 2 ^ Nat.log2 m:=Nat.lt_pow_two_of_testBit _ fun i hi=>by
    rcases Nat.lt_or_eq_of_le hi with hi | hi
    ·exact Tbt (Tbd (by omega:m - 1 < 2 ^ (Nat.log2 m+1)) (Tbs om hi))
    ·rw [<- hi];exact ht
   omega
 have h5:m.testBit (Nat.log2 m)=true:=by
  cases ht:m.testBit (Nat.log2 m) with
  | true=>rfl
  | false =>
   have h4:m < 2 ^ Nat.log2 m:=Nat.lt_pow_two_of_testBit _ fun i hi=>by
    rcases Nat.lt_or_eq_of_le hi with hi | hi
    ·exact Tbt (Tbd h2 (Tbs om hi))
    ·rw [<- hi];exact ht
   omega
 have h6:=Nat.testBit_and (m - 1) m (Nat.log2 m);rw [h,h3,h5] at h6;simp at h6
end
section
variable {w:World} {S:Nat->Prop} {a:Option Addr} {n cap:Nat} {rows:List (List C)}
def ZfG (a:Option Addr) (n cap:Nat) (rows:List (List C)) (R:List (List C)):List (List C):=R.map fun r=>r.map (datC a n cap rows)
theorem Zkp {R:List (List C)}:(ZfG a n cap rows R).length=R.length:=by simp [ZfG]
theorem ZwA {c:C} (h:ZaB c=true):ZaB (datC a n cap rows c)=true:=by
 unfold datC;split
 ·split
  ·rfl
  ·exact h
 ·exact h
theorem ZCi {sz:Nat} {R:List (List C)} (h:rowsLen sz R):rowsLen sz (ZfG a n cap rows R):=fun r hr=>by
 obtain ⟨r',hr',rfl⟩:=Tbi.1 hr;obtain ⟨h1,h2⟩:=h r' hr';refine ⟨by rw [Tay];exact h1,?_⟩;rw [List.all_map,List.all_eq_true];exact fun c hc=>ZwA (List.all_eq_true.1 h2 c hc)
theorem Zpp (hr:Rep w S (.sl rows) (.slice a n cap)) {b:Nat}:∀ {R:List (List C)} {off:Nat},Zap w S b off R->Zap w S b off (ZfG a n cap rows R)
 | [],_,h=>h
 | r::R,off,h=>by
  simp only [ZfG,Tbu,Zap,Tay] at h ⊢;exact ⟨ZlP hr h.1,Zpp hr h.2⟩
theorem ZCj (hr:Rep w S (.sl rows) (.slice a n cap)) {ety sz:Nat} {R:List (List C)} {v:Value} (h:ZaV w S ety sz R v):ZaV w S ety sz (ZfG a n cap rows R) v:=by
 obtain ⟨h1,h2,h3⟩:=h;refine ⟨h1,ZCi h2,?_⟩;rcases h3 with ⟨h4,h5⟩ | ⟨g,cap',cur,h4,h5⟩
 ·exact .inl ⟨by rw [h4];rfl,h5⟩
 ·refine .inr ⟨g,cap',cur,by rw [Zkp];exact h4,?_⟩;obtain ⟨q1,q2,q3,q4,q5,q6,q7,q8⟩:=h5;exact ⟨q1,q2,q3,q4,by rw [Zkp];exact q5,q6,q7,Zpp hr q8⟩
end
section
variable {e:Env} {σ:St} {mask:Nat} {Q:PX->St->Prop}
theorem ZAw (k kb:Nat) (hne:kb≠k) {a:Option Addr} {cap ety sz ety' sz':Nat} {rows R:List (List C)} {o':Option (Option Addr × Nat)} (hm:gm σ.m k=some (.buf (some (a,cap)) ety sz rows)) (hb:gm σ.m kb=some (.buf o' ety' sz' R)) :
  Turn e σ (fun σ'=>σ'=⟨frzS k (.buf (some (a,cap)) ety sz rows) σ.s,(kb,.buf o' ety' sz' (ZfG a rows.length cap rows R))::remM kb (remM k σ.m)⟩):=by
 intro he U w0 S0 nt ac w ⟨S,L,h⟩;have ho:=h.cls.own k _ hm;have hv:L.v k=.slice a rows.length cap:=ho.1 (a,cap) rfl;have hrep:=ZaV.rep ho.2;rw [hv] at hrep;obtain ⟨S',L',h',hS'⟩:=h.freeze2 he hm;have hr:Rep w S' (.sl rows) (.slice a rows.length cap):=hrep.mono fun b hb=>(hS' b).2 (hb.imp id (fun q=>by show vblk (L.v k)=some b;rw [hv];exact q));have hb':gm (remM k σ.m) kb=some (.buf o' ety' sz' R):=by rw [Zbe,if_neg hne];exact hb
 have hob:=h'.cls.own kb _ hb';exact ⟨_,rfl,S',L',h'.cls.swap hb' (bk':=.buf o' ety' sz' (ZfG a rows.length cap rows R)) ⟨fun p hp=>by rw [Zkp];exact hob.1 p hp,ZCj hr hob.2⟩ (fun g hg=>hg),h'.rel,h'.size,h'.defers,h'.kept⟩
theorem pDb {c:Code} {s s2:List (Nat × A)} {m m2:List (Nat × Bk)} {a:Option Addr} {cap ety sz ety' sz':Nat} {rows R:List (List C)} {o':Option (Option Addr × Nat)} (k kb:Nat) (hne:kb≠k) (hK:pwp e mask c ⟨s2,(kb,.buf o' ety' sz' (ZfG a rows.length cap rows R))::m2⟩ Q)
  (hm:gm m k=some (.buf (some (a,cap)) ety sz rows):=by exact snv) (hb:gm m kb=some (.buf o' ety' sz' R):=by exact snv) (hs:frzS k (.buf (some (a,cap)) ety sz rows) s=s2:=by exact snv) (hr:remM kb (remM k m)=m2:=by exact snv):pwp e mask c ⟨s,m⟩ Q :=
 Zda (ZAw k kb hne hm hb) fun σ' hσ=>by subst hσ;simp only [hs,hr];exact hK
end
section
variable {g:Sgn} {mc:C}
noncomputable def cvN (g:Sgn) (o:Opr) (sets:List Nat) (i j:Nat):Nat:=ofB (ChB (Rel2 g o) sets i j) g.sorts.names.length
noncomputable def chL (g:Sgn) (o:Opr) (sets:List Nat) (r:Nat):List Nat:=(List.range sets.length).map fun k=>if k < r then 0 else cvN g o sets r (k+1)
theorem Zk5 {o:Opr} {sets:List Nat} {r:Nat}:(chL g o sets r).length=sets.length:=by simp [chL]
theorem ZvB {o:Opr} {sets:List Nat} {r k:Nat} (h1:r<=k) (h2:k < sets.length):(chL g o sets r)[k]?=some (cvN g o sets r (k+1)):=by
 unfold chL;rw [Tba,List.getElem?_range h2,Option.map_some,if_neg om]
def FilB (g:Sgn) (o:Opr) (sets:List Nat) (p k:Nat) (L:List Nat):Prop:=L.length=sets.length∧∀ j,j < sets.length->L[j]?=some (if j < p then 0 else if j < k then cvN g o sets p (j+1) else 0)
theorem FilB.all {o:Opr} {sets:List Nat} {p:Nat} {L:List Nat} (h:FilB g o sets p sets.length L):L=chL g o sets p:=by
 refine List.ext_getElem? fun j=>?_;by_cases hj:j < sets.length
 ·rw [h.2 j hj];unfold chL;rw [Tba,List.getElem?_range hj,Option.map_some];by_cases h1:j < p
  ·rw [if_pos h1,if_pos h1]
  ·rw [if_neg h1,if_neg h1,if_pos hj]
 ·rw [List.getElem?_eq_none (by rw [h.1];omega),List.getElem?_eq_none (by rw [Zk5];omega)]
theorem FilB.next {o:Opr} {sets:List Nat} {p k:Nat} {L:List Nat} (h:FilB g o sets p k L) (hp:p<=k) (hk:k < sets.length):FilB g o sets p (k+1) (L.set k (cvN g o sets p (k+1))):=by
 refine ⟨by rw [Taz,h.1],fun j hj=>?_⟩;by_cases e:j=k
 ·subst e;rw [Tbn (by rw [h.1];exact hj),if_neg om,if_pos om]
 ·rw [Tbo (Ne.symm e),h.2 j hj];by_cases h1:j < p
  ·rw [if_pos h1,if_pos h1]
  ·rw [if_neg h1,if_neg h1];by_cases h2:j < k
   ·rw [if_pos h2,if_pos om]
   ·rw [if_neg h2,if_neg om]
theorem FilB.zero {o:Opr} {sets:List Nat} {p k:Nat} {L:List Nat} (h:FilB g o sets p k L) (hp:p<=k) (hk:k < sets.length):L.set k 0=L:=by
 have h1:=h.2 k hk;rw [if_neg om,if_neg om] at h1;refine List.ext_getElem? fun j=>?_;by_cases e:j=k
 ·subst e;rw [Tbn (by rw [h.1];exact hk),h1]
 ·rw [Tbo (Ne.symm e)]
theorem FilB.start {o:Opr} {sets:List Nat} {p s:Nat} (hs:sets[p]?=some s) (h:s < 2 ^ g.sorts.names.length):FilB g o sets p (p+1) ((List.replicate sets.length 0).set p s):=by
 have hp:=(Tad.1 hs).1;refine ⟨by simp,fun j hj=>?_⟩;by_cases e:j=p
 ·subst e;rw [Tbn (by simpa using hj),if_neg om,if_pos om];unfold cvN;rw [ZAf hs h]
 ·rw [Tbo (Ne.symm e),Tbr,if_pos hj];by_cases h1:j < p
  ·rw [if_pos h1]
  ·rw [if_neg h1,if_neg om]
theorem ZER (hg:SgnOk g) {i:Nat} {o:Opr} (ho:g.ops[i]?=some o) (ha:o.assoc=true) (hc:o.comm=false) {s t N:Nat}:ofB (AnyB g o [s,t]) N=ofB (fun b=>Two (Rel2 g o) s t b) N:=by
 refine Za8 fun b _=>?_;unfold AnyB;rw [Zfp (Opr.deg2 hg ho (.inl ha)),hc];simp
def dRow (d:List Nat):List C:=[.sl (nR d)]
theorem ZAx:∀ d,dRow d=[.sl (nR d)]:=fun _=>rfl
theorem ZFz (n:Nat):(List.replicate n ([]:List Nat)).map dRow=List.replicate n [C.sl []]:=by
 rw [List.map_replicate];rfl
theorem ZAy (Ds:List (List Nat)):Zav 1 (Ds.map dRow)=true:=ZdH (e:=dRow) (n:=1) (fun _=>rfl) Ds
theorem ZCk {a:Option Addr} {n cap:Nat} {L:List Nat} {Ds:List (List Nat)} {p:Nat}:ZfG a n cap (nR L) ((Ds.map dRow).set p [.lit (.slice a n cap)])=(Ds.set p L).map dRow:=by
 have h1:∀ d,(dRow d).map (datC a n cap (nR L))=dRow d:=fun d=>rfl;have h2:[C.lit (.slice a n cap)].map (datC a n cap (nR L))=dRow L:=by simp [datC,dRow]
 unfold ZfG;rw [List.map_set,h2,List.map_set,List.map_map];congr 1
theorem ZF3 {a:Option Addr} {n cap:Nat} {Ds:List (List Nat)} {p:Nat} (hok:ZaB (.lit (.slice a n cap))=true):Zav 1 ((Ds.map dRow).set p [.lit (.slice a n cap)])=true:=by
 have h:=ZAy Ds;unfold Zav at h ⊢;rw [List.all_eq_true] at h ⊢;intro r hr;rcases List.mem_or_eq_of_mem_set hr with h1 | h1
 ·exact h r h1
 ·subst h1;simp [hok]
theorem Zon (hg:SgnOk g) {op:Int} {o:Opr} (h0:0<=op) (ho:g.ops[op.toNat]?=some o) (ha:o.assoc=true) (hc:o.comm=false) (sets:List Nat) (hn1:1<=sets.length) (hn7:sets.length<=7) (hs:∀ s∈sets,s < 2 ^ g.sorts.names.length):Con e0 257 [.one (.ptr (encX g mc)),.one (.lit (.int .i64 op)),.one (.sl (nR sets))] [.one (.lit (.int .i64 ((cvN g o sets 0 sets.length:Nat):Int)))]:=by
 have hN:=hg.sorts.n8;have rl:=Za0 (l:=sets);have rr:=ZaX (l:=sets);have hmx:((sets.length:Int)<=(maxApp:Int))=True:=eq_true (by unfold maxApp;omega);have hdeg:=Opr.deg2 hg ho (.inl ha);have hcv:∀ i j,cvN g o sets i j < 2 ^ g.sorts.names.length:=fun i j=>Zcr _ _;have hRlt:=fun a c b (h:Rel2 g o a c b)=>Rel2.lt hg (Tac ho) h;have w0:IntKind.i64.wrap ((sets.length:Int) - 1)=(sets.length:Int) - 1:=IntWalk.i64_in _ om
 refine gI (ts:=[.slot 6]) 142936512139207 Tryz.func257 ?_;refine fG (aj5 @rl @hmx @Tbx @w0 @tmz) ?_;have hR0:=ZFz sets.length;have F:=ai @hR0 @tmz;refine gL (ι:=Nat × List (List Nat)) [8,9,10,11,19,41,47] [8] (fun x=>[(9,.d (.one (.lit (.int .i64 ((x.1:Int) - 1))))),(8,.buf 8)]) (fun x=>[(8,.buf none 29 1 (x.2.map dRow))]) (fun x=>x.1<=sets.length∧x.2.length=sets.length∧∀ r,x.1<=r->r < sets.length->x.2[r]?=some (chL g o sets r)) (fun x=>x.1) ((sets.length,List.replicate sets.length [])) (⟨Tai _,by simp,fun r h1 h2=>absurd h1 om⟩) (fun x hx=>?_);clear F
 obtain ⟨x,Ds⟩:=x;obtain ⟨hx,hDl,hD⟩:=hx;simp only at hx hDl hD;dsimp only;have hDB:=ZAy Ds;have hRl:(Ds.map dRow).length=sets.length:=by rw [Tay,hDl]
 cases x with
 | zero =>
  have q1:((0:Int)<=((0:Nat):Int) - 1)=False:=eq_false om;have r0:=hD 0 (Tai _) om;have cg:=ZaZ (ZvB (g:=g) (o:=o) (sets:=sets) (r:=0) (k:=sets.length - 1) om om);rw [show sets.length - 1+1=sets.length by omega] at cg;have w1:IntKind.i64.wrap ((sets.length:Int) - 1)=((sets.length - 1:Nat):Int):=ZaM om om om;have cl:=Za0 (l:=chL g o sets 0);have cr:=ZaX (l:=chL g o sets 0);rw [Zk5] at cl;have i1:(0 < sets.length)=True:=eq_true om
  have i2:(sets.length - 1 < sets.length)=True:=eq_true om;exact fD (aj13 @q1 @r0 @hDl @hDB @ZAx @cg @cl @cr @i1 @i2 @w1 @Zal @tmz)
 | succ p =>
 have hp:p < sets.length:=om;have q1:((0:Int)<=((p+1:Nat):Int) - 1)=True:=eq_true om;have hpc:((p+1:Nat):Int) - 1=(p:Int):=om;rw [hpc] at q1 ⊢;obtain ⟨s,hsp⟩:∃ s,sets[p]?=some s:=⟨_,Taa hp⟩;have r1:=ZaZ hsp;have hw1:=Zan (k:=p) om;have hwm:IntKind.i64.wrap ((p:Int) - 1)=(p:Int) - 1:=IntWalk.i64_in _ om;have i1:(p < sets.length)=True:=eq_true hp;have hFs:=FilB.start (g:=g) (o:=o) hsp (hs s (Tac hsp))
 have nl0:(nR (List.replicate sets.length 0)).length=sets.length:=by rw [Za0,List.length_replicate]
 have nr0:=ZaX (l:=List.replicate sets.length 0);have ns0:=ZcZ (l:=List.replicate sets.length 0) p s;obtain ⟨z0,hz0⟩:∃ z,(List.replicate sets.length 0)[p]?=some z:=⟨_,Taa (by simpa using hp)⟩;have ng0:=ZaZ hz0;refine fN 6 (ai @q1 @tmz) ?_;refine gB ?_;have F:=aj4 @hmx @Tbx @nR_0 @tmz;refine gP 4 ?_;clear F;generalize List.replicate sets.length 0=L0 at nl0 nr0 ns0 ng0 hFs ⊢;refine gS 25 fun a cap=>?_
 rw [nl0];have hB8:=ZF3 (a:=a) (n:=sets.length) (cap:=cap) (Ds:=Ds) (p:=p) rfl;have hl8:((Ds.map dRow).set p [.lit (.slice a sets.length cap)]).length=sets.length:=by rw [Taz,hRl]
 have hg8:((Ds.map dRow).set p [.lit (.slice a sets.length cap)])[p]?=some [.lit (.slice a sets.length cap)]:=Tbn (by rw [hRl];exact hp);have hr8:∀ r,p+1<=r->r < sets.length->((Ds.map dRow).set p [.lit (.slice a sets.length cap)])[r]?=some [.sl (nR (chL g o sets r))]:=fun r h1 h2=>by
  rw [Tbo om,Tba,hD r h1 h2];rfl
 have hd8:=fun L=>ZCk (a:=a) (n:=sets.length) (cap:=cap) (L:=L) (Ds:=Ds) (p:=p);obtain ⟨z,hz⟩:∃ z,Ds[p]?=some z:=⟨_,Taa om⟩;refine fR (aj7 @hDl @hDB @hz @ZAx @i1 @Zal @tmz) ?_;generalize (Ds.map dRow).set p [.lit (.slice a sets.length cap)]=R8 at hB8 hl8 hg8 hr8 hd8 ⊢;refine fN 9 (aj14 @hB8 @hl8 @hg8 @nl0 @nr0 @ns0 @ng0 @r1 @rl @rr @i1 @hw1 @Zal @tmz) ?_;generalize L0.set p s=L1 at hFs ⊢;clear nl0 nr0 ns0 ng0 hz0 hz
 have F:=@tmz;refine gL (ι:=Nat × List Nat) [10,11,41,47] [25] (fun y=>[(10,A.d (.one (.lit (.int .i64 y.1))))]) (fun y=>[(25,.buf (some (a,cap)) 3 1 (nR y.2))]) (fun y=>p+1<=y.1∧y.1<=sets.length∧FilB g o sets p y.1 y.2) (fun y=>sets.length - y.1) ((p+1,L1)) (⟨Tai _,hp,hFs⟩) (fun y hy=>?_);clear F;clear hFs L1;obtain ⟨k,L⟩:=y;obtain ⟨hk1,hk2,hF⟩:=hy;simp only at hk1 hk2 hF;dsimp only;by_cases hkl:k < sets.length
 rotate_left
 ·obtain rfl:k=sets.length:=by omega
  have hL:=hF.all;subst hL;have q2:=lF sets.length sets.length;have cl:=Za0 (l:=chL g o sets p);rw [Zk5] at cl;have hd:=hd8 (chL g o sets p);refine fN 5 (ai @q2 @tmz) ?_;refine pDb 25 8 (by decide) ?_;rw [cl,hd];have hfin:p<=sets.length∧(Ds.set p (chL g o sets p)).length=sets.length∧∀ r,p<=r->r < sets.length->(Ds.set p (chL g o sets p))[r]?=some (chL g o sets r):=⟨om,by rw [Taz,hDl],fun r h1 h2=>by
   by_cases e:r=p
   ·subst e;exact Tbn om
   ·rw [Tbo om];exact hD r om h2⟩
  have F:=ai @hwm @tmz;refine gG ?_;exact ⟨(p,Ds.set p (chL g o sets p)),hfin,gw,gw,om⟩
 have q2:=lT k sets.length;have hwk:=Zan (k:=k) om;have hz:=hF.zero om hkl;have hzz:nR (L.set k 0)=nR L:=by rw [hz]
 refine fG (ai @q2 @tmz) ?_;have F:=ai @hzz @tmz;refine gL (ι:=Nat × Nat) [11,47] [25] (fun z=>[(11,A.d (.one (.lit (.int .i64 z.1))))]) (fun z=>[(25,.buf (some (a,cap)) 3 1 (nR (L.set k z.2)))]) (fun z=>p<=z.1∧z.1<=k∧z.2=ofB (CutB (Rel2 g o) sets g.sorts.names.length p (k+1) (z.1+1)) g.sorts.names.length) (fun z=>k - z.1) ((p,0)) (⟨Tai _,om,Zpd.symm⟩) (fun z hz=>?_);clear F;obtain ⟨m,v⟩:=z;obtain ⟨hm1,hm2,hv⟩:=hz
 simp only at hm1 hm2 hv;subst hv;dsimp only;by_cases hmk:m < k;rotate_left
 ·obtain rfl:m=k:=by omega
  have q3:=lF m m;have e:ofB (CutB (Rel2 g o) sets g.sorts.names.length p (m+1) (m+1)) g.sorts.names.length=cvN g o sets p (m+1):=Zvr hs hRlt om;rw [e];have F:=aj3 @q3 @hwk @tmz;refine gG ?_;exact ⟨(m+1,L.set m (cvN g o sets p (m+1))),⟨om,hkl,hF.next om hkl⟩,gw,gw,om⟩
 have q3:=lT m k;have hwm1:=Zan (k:=m) om;have hLm:=hF.2 m om;rw [if_neg om,if_pos hmk] at hLm;have e:=fun b=>ZrH (R:=Rel2 g o) (sets:=sets) (N:=g.sorts.names.length) (i:=p) (j:=k+1) (k:=m+1) (b:=b) om om;have e:ofB (CutB (Rel2 g o) sets g.sorts.names.length p (k+1) (m+1)) g.sorts.names.length ||| ofB (fun b=>Two (Rel2 g o) (cvN g o sets p (m+1)) (cvN g o sets (m+1) (k+1)) b) g.sorts.names.length=ofB (CutB (Rel2 g o) sets g.sorts.names.length p (k+1) (m+1+1)) g.sorts.names.length:=by
  rw [Zgy];exact Za8 fun b _=>(e b).symm
 have cR:=Zih (mc:=mc) hg h0 ho [cvN g o sets p (m+1),cvN g o sets (m+1) (k+1)] (fun d hd=>hdeg d hd) (by simp) (fun s hs=>by
  simp only [Tbg,List.not_mem_nil,or_false] at hs;rcases hs with rfl | rfl <;> exact hcv _ _)
 rw [ZER hg ho ha hc] at cR;have cR:=Zgz cR;have hor:=Zd3 (ZbX (Zcr (CutB (Rel2 g o) sets g.sorts.names.length p (k+1) (m+1)) g.sorts.names.length) hN) (ZbX (Zcr (fun b=>Two (Rel2 g o) (cvN g o sets p (m+1)) (cvN g o sets (m+1) (k+1)) b) g.sorts.names.length) hN);rw [e] at hor;have hv62:=ZbX (Zcr (CutB (Rel2 g o) sets g.sorts.names.length p (k+1) (m+1)) g.sorts.names.length) hN;clear e;generalize ofB (fun b=>Two (Rel2 g o) (cvN g o sets p (m+1)) (cvN g o sets (m+1) (k+1)) b) g.sorts.names.length=tw at cR hor
 generalize ofB (CutB (Rel2 g o) sets g.sorts.names.length p (k+1) (m+1)) g.sorts.names.length=v at hor ⊢;have nl:=Za0 (l:=L.set k v);rw [Taz,hF.1] at nl;have nr:=ZaX (l:=L.set k v);have g1:(nR (L.set k v))[k]?=some [.lit (.int .i64 v)]:=ZaZ (Tbn (by rw [hF.1];exact hkl));have g2:(nR (L.set k v))[m]?=some [.lit (.int .i64 (cvN g o sets p (m+1)))]:=ZaZ (by rw [Tbo om];exact hLm);have g3:=hr8 (m+1) om om
 have g4:=ZaZ (ZvB (g:=g) (o:=o) (sets:=sets) (r:=m+1) (k:=k) om hkl);have cl:=Za0 (l:=chL g o sets (m+1));rw [Zk5] at cl;have cr:=ZaX (l:=chL g o sets (m+1));have ns:=fun x=>ZcZ (l:=L.set k v) k x;simp only [List.set_set] at ns;have i2:(k < sets.length)=True:=eq_true hkl;have i3:(m < sets.length)=True:=eq_true om;have i4:(m+1 < sets.length)=True:=eq_true om;refine fN 14 (ai @q3 @tmz) ?_;refine gB ?_
 refine fC (aj16 @hB8 @hl8 @hg8 @nl @nr @g1 @g2 @g3 @g4 @cl @cr @i1 @i2 @i3 @i4 (aj3 @hwm1 @Zal @tmz)) (cR) ?_;refine fR (aj8 @nl @nr @g1 @hor @ns @i2 @Zal @tmz) ?_;have F:=ai @hwm1 @tmz;refine gG ?_;exact ⟨(m+1,ofB (CutB (Rel2 g o) sets g.sorts.names.length p (k+1) (m+1+1)) g.sorts.names.length),⟨om,hmk,rfl⟩,gw,gw,om⟩
end
theorem ZvC {n i j i' j':Nat} (hj:j < n) (hj':j' < n) (h:i * n+j=i' * n+j'):i=i'∧j=j':=by
 have h1:(i * n+j) / n=i:=by rw [Nat.mul_comm,Nat.mul_add_div om,Nat.div_eq_of_lt hj,Nat.add_zero]
 have h2:(i' * n+j') / n=i':=by rw [Nat.mul_comm,Nat.mul_add_div om,Nat.div_eq_of_lt hj',Nat.add_zero]
 rw [h] at h1;have e:i=i':=by rw [<- h1,h2]
 subst e;exact ⟨rfl,om⟩
theorem ZfH {n i j:Nat} (hi:i < n) (hj:j < n):i * n+j < n * n:=by
 have:(i+1) * n<=n * n:=Nat.mul_le_mul_right n hi;rw [Nat.succ_mul] at this;omega
section
variable {g:Sgn}
def TabB (g:Sgn) (o:Opr) (sets:List Nat) (P:Nat->Nat->Prop) (T:List Nat):Prop:=T.length=sets.length * sets.length∧∀ i j,i<=j->j < sets.length->(P i j->T[i * sets.length+j]?=some (cvN g o sets i (j+1)))∧(¬ P i j->T[i * sets.length+j]?=some 0)
theorem TabB.start {o:Opr} {sets:List Nat} {P:Nat->Nat->Prop} (h:∀ i j,i<=j->¬ P i j):TabB g o sets P (List.replicate (sets.length * sets.length) 0):=⟨by simp,fun i j h1 h2=>⟨fun hp=>absurd hp (h i j h1),fun _=>by
 rw [Tbr,if_pos (ZfH om h2)]⟩⟩
theorem TabB.next {o:Opr} {sets:List Nat} {P P':Nat->Nat->Prop} {T:List Nat} (h:TabB g o sets P T) {i j:Nat} (hij:i<=j) (hj:j < sets.length) (h1:∀ i' j',i'<=j'->j' < sets.length->(P' i' j' ↔ P i' j'∨(i'=i∧j'=j))):TabB g o sets P' (T.set (i * sets.length+j) (cvN g o sets i (j+1))):=by
 refine ⟨by rw [Taz,h.1],fun i' j' q1 q2=>?_⟩;have hl:=ZfH (n:=sets.length) (i:=i) (j:=j) om hj;by_cases e:i'=i∧j'=j
 ·obtain ⟨rfl,rfl⟩:=e;exact ⟨fun _=>Tbn (by rw [h.1];exact hl),fun hn=>absurd ((h1 _ _ q1 q2).2 (.inr ⟨rfl,rfl⟩)) hn⟩
 ·have hne:i * sets.length+j≠i' * sets.length+j':=fun q=>e (by have:=ZvC hj q2 q;exact ⟨this.1.symm,this.2.symm⟩);rw [Tbo hne];have h2:=h.2 i' j' q1 q2;exact ⟨fun hp=>h2.1 (((h1 _ _ q1 q2).1 hp).resolve_right e),fun hn=>h2.2 fun hp=>hn ((h1 _ _ q1 q2).2 (.inl hp))⟩
theorem TabB.mono {o:Opr} {sets:List Nat} {P P':Nat->Nat->Prop} {T:List Nat} (h:TabB g o sets P T) (h1:∀ i j,i<=j->j < sets.length->(P' i j ↔ P i j)):TabB g o sets P' T:=⟨h.1,fun i j q1 q2=>by
 have h2:=h.2 i j q1 q2;rw [h1 i j q1 q2];exact h2⟩
theorem TabB.zero {o:Opr} {sets:List Nat} {P:Nat->Nat->Prop} {T:List Nat} (h:TabB g o sets P T) {i j:Nat} (hij:i<=j) (hj:j < sets.length) (hn:¬ P i j):T.set (i * sets.length+j) 0=T:=by
 have h1:=(h.2 i j hij hj).2 hn;have hl:=ZfH (n:=sets.length) (i:=i) (j:=j) om hj;refine List.ext_getElem? fun q=>?_;by_cases e:q=i * sets.length+j
 ·subst e;rw [Tbn (by rw [h.1];exact hl),h1]
 ·rw [Tbo (Ne.symm e)]
def szP (size i0:Nat) (i j:Nat):Prop:=j+1 < i+size∨(j+1=i+size∧i < i0)
theorem wmul {i n:Nat} (hi:i<=10) (hn:n<=10):IntKind.i64.wrap ((i:Int) * (n:Int))=((i * n:Nat):Int):=by
 have:i * n<=10 * 10:=Nat.mul_le_mul hi hn;exact ZaM (by simp) om om
theorem wadd {i n:Nat} (hi:i<=1000) (hn:n<=1000):IntKind.i64.wrap ((i:Int)+(n:Int))=((i+n:Nat):Int):=ZaM (by simp) om om
theorem Ztj (hg:SgnOk g) {op:Int} {o:Opr} (h0:0<=op) (ho:g.ops[op.toNat]?=some o) (ha:o.assoc=true) (sets:List Nat) (hn1:1<=sets.length) (hn7:sets.length<=7) (hs:∀ s∈sets,s < 2 ^ g.sorts.names.length):Con e0 245 [.agg (Zas g),.one (.lit (.int .i64 op)),.one (.sl (nR sets))] [.one (.lit (.int .i64 ((cvN g o sets 0 sets.length:Nat):Int)))]:=by
 have hN:=hg.sorts.n8;have rl:=Za0 (l:=sets);have rr:=ZaX (l:=sets);have hnn:sets.length * sets.length<=7 * 7:=Nat.mul_le_mul hn7 hn7;have hmx:(((sets.length * sets.length:Nat):Int)<=(maxApp:Int))=True:=eq_true (by unfold maxApp;omega);have hdeg:=Opr.deg2 hg ho (.inl ha);have hcv:∀ i j,cvN g o sets i j < 2 ^ g.sorts.names.length:=fun i j=>Zcr _ _;have hRlt:=fun a c b (h:Rel2 g o a c b)=>Rel2.lt hg (Tac ho) h
 have wnn:=wmul (i:=sets.length) (n:=sets.length) om om;have cU:=Zhj hg.sorts.n8 hg.sorts.m16 (SortsOk.subsIn hg.sorts.subs);have hT0:=TabB.start (g:=g) (o:=o) (sets:=sets) (P:=szP 1 0) fun i j h q=>by unfold szP at q;omega
 rw [Zbh] at cU;rw [Zas];refine gI (ts:=[.slot 6]) 36028870066978767 Tryz.func245 ?_;refine fN 2 (ai @rl @tmz) ?_;refine gB ?_;refine fC @tmz (cU) ?_;refine fR @tmz ?_;refine fG (aj6 @rl @wnn @hmx @Tbx @nR_0 @tmz) ?_;generalize List.replicate (sets.length * sets.length) 0=T0 at hT0 ⊢;have F:=@tmz;refine gL (ι:=Nat × List Nat) [9,10,11,12,13,25,32,36,55] [9] (fun x=>[(10,A.d (.one (.lit (.int .i64 x.1)))),(9,.buf 9)]) (fun x=>[(9,.buf none 3 1 (nR x.2))]) (fun x=>1<=x.1∧x.1<=sets.length+1∧TabB g o sets (szP x.1 0) x.2) (fun x=>sets.length+1 - x.1) ((1,T0)) (⟨Tai _,om,hT0⟩) (fun x hx=>?_);clear F
 clear hT0 T0;obtain ⟨size,T⟩:=x;obtain ⟨hz1,hz2,hT⟩:=hx;simp only at hz1 hz2 hT;dsimp only;have nl:=Za0 (l:=T);rw [hT.1] at nl;have nr:=ZaX (l:=T);by_cases hzl:size<=sets.length;rotate_left
 ·obtain rfl:size=sets.length+1:=by omega
  have q1:(((sets.length+1:Nat):Int)<=(sets.length:Int))=False:=eq_false om;have hg1:=((hT.2 0 (sets.length - 1) om om).1 (.inl om));rw [show 0 * sets.length+(sets.length - 1)=sets.length - 1 by omega,show sets.length - 1+1=sets.length by omega] at hg1;have hg2:=ZaZ hg1;have w1:IntKind.i64.wrap ((sets.length:Int) - 1)=((sets.length - 1:Nat):Int):=ZaM om om om;have hle:sets.length * 1<=sets.length * sets.length:=Nat.mul_le_mul_left _ hn1
  have i1:(sets.length - 1 < sets.length * sets.length)=True:=eq_true om;exact fD (aj8 @q1 @nl @nr @hg2 @w1 @i1 @Zal @tmz)
 have q1:((size:Int)<=(sets.length:Int))=True:=eq_true om;have hws:=Zan (k:=size) om;clear nl nr;refine fG (ai @q1 @tmz) ?_;have F:=@tmz;refine gL (ι:=Nat × List Nat) [9,11,12,13,32,36,55] [9] (fun y=>[(11,A.d (.one (.lit (.int .i64 y.1)))),(9,.buf 9)]) (fun y=>[(9,.buf none 3 1 (nR y.2))]) (fun y=>y.1+size<=sets.length+1∧TabB g o sets (szP size y.1) y.2) (fun y=>sets.length+1 - y.1) ((0,T)) (⟨om,hT⟩) (fun y hy=>?_);clear F
 clear hT T;obtain ⟨i,T⟩:=y;obtain ⟨hi,hT⟩:=hy;simp only at hi hT;dsimp only;have nl:=Za0 (l:=T);rw [hT.1] at nl;have nr:=ZaX (l:=T);have wis:=wadd (i:=i) (n:=size) om om;by_cases hil:i+size<=sets.length;rotate_left
 ·have q2:(((i+size:Nat):Int)<=(sets.length:Int))=False:=eq_false om;have hT2:TabB g o sets (szP (size+1) 0) T:=hT.mono fun i' j' h1 h2=>by
   unfold szP;omega
  have F:=aj4 @q2 @wis @hws @tmz;refine gG ?_;exact ⟨(size+1,T),⟨om,om,hT2⟩,gw,gw,om⟩
 have q2:(((i+size:Nat):Int)<=(sets.length:Int))=True:=eq_true om;have hwi:=Zan (k:=i) om;have wii:=wmul (i:=i) (n:=sets.length) om om;have hlt:=ZfH (n:=sets.length) (i:=i) (j:=i+size - 1) om om;by_cases hs1:size=1
 ·subst hs1;have q3:(((1:Nat):Int)=1)=True:=eq_true rfl;obtain ⟨s,hsi⟩:∃ s,sets[i]?=some s:=⟨_,Taa om⟩;have r1:=ZaZ hsi;have e:cvN g o sets i (i+1)=s:=by unfold cvN;exact ZAf hsi (hs s (Tac hsi))
  have hT2:TabB g o sets (szP 1 (i+1)) (T.set (i * sets.length+i) (cvN g o sets i (i+1))):=hT.next (Tai _) om fun i' j' h1 h2=>by
   unfold szP;omega
  rw [e] at hT2;have wa:=wadd (i:=i * sets.length) (n:=i) om om;have ns:=ZcZ (l:=T) (i * sets.length+i) s;obtain ⟨z,hz⟩:∃ z,T[i * sets.length+i]?=some z:=⟨_,Taa (by rw [hT.1];exact ZfH om om)⟩;have ng:=ZaZ hz;have i1:(i < sets.length)=True:=eq_true om;have i2:(i * sets.length+i < sets.length * sets.length)=True:=eq_true (ZfH om om);have F:=aj15 @q2 @wis @q3 @wii @wa @r1 @rl @rr @nl @nr @ns @ng @i1 @i2 (aj3 @hwi @Zal @tmz);refine gG ?_;exact ⟨(i+1,T.set (i * sets.length+i) s),⟨om,hT2⟩,gw,gw,om⟩
 have q3:((size:Int)=1)=False:=eq_false om;obtain ⟨j,hj⟩:∃ j,j+1=i+size:=⟨i+size - 1,om⟩;have wj:IntKind.i64.wrap (((i+size:Nat):Int) - 1)=(j:Int):=ZaM om om om;have hij:i < j:=om;have hjn:j < sets.length:=om;have hij2:i<=j:=om;have hlt:=ZfH (n:=sets.length) (i:=i) (j:=j) om hjn;have waj:=wadd (i:=i * sets.length) (n:=j) om om;have hz0:=hT.zero hij2 hjn (by unfold szP;omega);have hzz:nR (T.set (i * sets.length+j) 0)=nR T:=by rw [hz0]
 have hnx:TabB g o sets (szP size (i+1)) (T.set (i * sets.length+j) (cvN g o sets i (j+1))):=hT.next hij2 hjn fun i' j' h1 h2=>by
  unfold szP;omega
 refine fN 13 (aj5 @q2 @wis @q3 @wj @tmz) ?_;refine fG @tmz ?_;have F:=ai @hzz @tmz;refine gL (ι:=Nat × Nat) [9,13,55] [9] (fun z=>[(13,A.d (.one (.lit (.int .i64 z.1)))),(9,.buf 9)]) (fun z=>[(9,.buf none 3 1 (nR (T.set (i * sets.length+j) z.2)))]) (fun z=>i<=z.1∧z.1<=j∧z.2=ofB (CutB (Rel2 g o) sets g.sorts.names.length i (j+1) (z.1+1)) g.sorts.names.length) (fun z=>j - z.1) ((i,0)) (⟨Tai _,om,Zpd.symm⟩) (fun z hz=>?_);clear F
 obtain ⟨k,v⟩:=z;obtain ⟨hk1,hk2,hv⟩:=hz;simp only at hk1 hk2 hv;subst hv;dsimp only;by_cases hkj:k < j;rotate_left
 ·obtain rfl:k=j:=by omega
  have q4:=lF k k;have e:ofB (CutB (Rel2 g o) sets g.sorts.names.length i (k+1) (k+1)) g.sorts.names.length=cvN g o sets i (k+1):=Zvr hs hRlt om;rw [e];have F:=aj3 @q4 @hwi @tmz;refine gG ?_;exact ⟨(i+1,T.set (i * sets.length+k) (cvN g o sets i (k+1))),⟨om,hnx⟩,gw,gw,om⟩
 have q4:=lT k j;have hwk:=Zan (k:=k) om;have hTk:=(hT.2 i k hk1 om).1 (by unfold szP;omega);have hTj:=(hT.2 (k+1) j om hjn).1 (by unfold szP;omega);have hltk:=ZfH (n:=sets.length) (i:=i) (j:=k) om om;have hltj:=ZfH (n:=sets.length) (i:=k+1) (j:=j) om hjn;have wak:=wadd (i:=i * sets.length) (n:=k) om om;have wm2:=wmul (i:=k+1) (n:=sets.length) om om;have wa2:=wadd (i:=(k+1) * sets.length) (n:=j) om om
 have e:=fun b=>ZrH (R:=Rel2 g o) (sets:=sets) (N:=g.sorts.names.length) (i:=i) (j:=j+1) (k:=k+1) (b:=b) om om;have e:ofB (CutB (Rel2 g o) sets g.sorts.names.length i (j+1) (k+1)) g.sorts.names.length ||| ofB (fun b=>Two (Rel2 g o) (cvN g o sets i (k+1)) (cvN g o sets (k+1) (j+1)) b) g.sorts.names.length=ofB (CutB (Rel2 g o) sets g.sorts.names.length i (j+1) (k+1+1)) g.sorts.names.length:=by
  rw [Zgy];exact Za8 fun b _=>(e b).symm
 have cR:=Zja hg (Tac ho) [cvN g o sets i (k+1),cvN g o sets (k+1) (j+1)] (fun d hd=>hdeg d hd) (by simp) (fun s hs=>by
  simp only [Tbg,List.not_mem_nil,or_false] at hs;rcases hs with rfl | rfl <;> exact hcv _ _)
 rw [show ofB (ZdO g o [cvN g o sets i (k+1),cvN g o sets (k+1) (j+1)]) g.sorts.names.length=ofB (fun b=>Two (Rel2 g o) (cvN g o sets i (k+1)) (cvN g o sets (k+1) (j+1)) b) g.sorts.names.length from Za8 fun b _=>Zfp hdeg] at cR;have cR:=Zgz cR;have hor:=Zd3 (ZbX (Zcr (CutB (Rel2 g o) sets g.sorts.names.length i (j+1) (k+1)) g.sorts.names.length) hN) (ZbX (Zcr (fun b=>Two (Rel2 g o) (cvN g o sets i (k+1)) (cvN g o sets (k+1) (j+1)) b) g.sorts.names.length) hN)
 rw [e] at hor;clear e;generalize ofB (fun b=>Two (Rel2 g o) (cvN g o sets i (k+1)) (cvN g o sets (k+1) (j+1)) b) g.sorts.names.length=tw at cR hor;generalize ofB (CutB (Rel2 g o) sets g.sorts.names.length i (j+1) (k+1)) g.sorts.names.length=v at hor ⊢;have nl2:=Za0 (l:=T.set (i * sets.length+j) v);rw [Taz,hT.1] at nl2;have nr2:=ZaX (l:=T.set (i * sets.length+j) v);have ne1:i * sets.length+j≠i * sets.length+k:=om
 have ne2:i * sets.length+j≠(k+1) * sets.length+j:=fun q=>by have:=ZvC hjn hjn q;omega
 have g1:(nR (T.set (i * sets.length+j) v))[i * sets.length+j]?=some [.lit (.int .i64 v)]:=ZaZ (Tbn (by rw [hT.1];exact hlt));have g2:(nR (T.set (i * sets.length+j) v))[i * sets.length+k]?=some [.lit (.int .i64 (cvN g o sets i (k+1)))]:=ZaZ (by rw [Tbo ne1];exact hTk);have g3:(nR (T.set (i * sets.length+j) v))[(k+1) * sets.length+j]?=some [.lit (.int .i64 (cvN g o sets (k+1) (j+1)))]:=ZaZ (by rw [Tbo ne2];exact hTj)
 have ns:=fun x=>ZcZ (l:=T.set (i * sets.length+j) v) (i * sets.length+j) x;simp only [List.set_set] at ns;have i1:(i * sets.length+j < sets.length * sets.length)=True:=eq_true hlt;have i2:(i * sets.length+k < sets.length * sets.length)=True:=eq_true hltk;have i3:((k+1) * sets.length+j < sets.length * sets.length)=True:=eq_true hltj;clear nl nr;refine fN 16 (ai @q4 @tmz) ?_;refine gB ?_;refine fC (aj16 @wii @waj @wak @hwk @wm2 @wa2 @nl2 @nr2 @g1 @g2 @g3 @i1 @i2 @i3 @h0 (aj4 @ho @Zah @Zal @tmz)) (cR) ?_
 refine fR (aj8 @nl2 @nr2 @g1 @hor @ns @i1 @Zal @tmz) ?_;have F:=ai @hwk @tmz;refine gG ?_;exact ⟨(k+1,ofB (CutB (Rel2 g o) sets g.sorts.names.length i (j+1) (k+1+1)) g.sorts.names.length),⟨om,hkj,rfl⟩,gw,gw,om⟩
end
def Env.plus (e:Env) (E2:Nat->Prop) (G2:World->Prop):Env:=⟨e.P,fun b=>e.E b∨E2 b,fun w=>e.G w∧G2 w,e.D⟩
structure Fits (e:Env) (E2:Nat->Prop) (G2:World->Prop):Prop where
 st:Zdv E2 G2
 dj:∀ w,G2 w->∀ b,E2 b->¬ e.E b
section
variable {e:Env} {E2:Nat->Prop} {G2:World->Prop}
theorem Fits.ok (h:Fits e E2 G2) (he:e.Ok):(e.plus E2 G2).Ok:=⟨fun w w' hz hb ⟨h1,h2⟩=>⟨he.keep w w' hz (fun b hb'=>hb b (.inl hb')) h1,h.st w w' hz (fun b hb'=>hb b (.inr hb')) h2⟩,he.mixed⟩
theorem Kept.up {D:Prop} {E E':Nat->Prop} {B:Nat} {w w':World} (h:Kept D E B w w') (hE:∀ b,E b->E' b):Kept D E' B w w':=⟨h.os,h.tape,h.output,h.drawn,h.size,fun k hk hn=>h.block k hk fun q=>hn (hE k q)⟩
theorem Fits.keep (h:Fits e E2 G2) {E:Nat->Prop} {w w':World} (hk:Kept e.D E w.heap.size w w') (hE:∀ b,(e.plus E2 G2).E b->b < w.heap.size) (hG:G2 w) (hn:∀ b,E2 b->¬ E b):G2 w':=h.st w w' hk.size (fun b hb=>hk.block b (hE b (.inr hb)) (hn b hb)) hG
theorem Con.up (h2:Fits e E2 G2) {f:FuncId} {args r:List D} (h:Con e f args r):Con (e.plus E2 G2) f args r :=
 ⟨h.1,fun w S vs hS hE hG hvs=>(h.2 w S vs (fun b hb=>⟨(hS b hb).1,fun q=>(hS b hb).2 (.inl q)⟩) (fun b hb=>hE b (.inl hb)) hG.1 hvs).mono fun en w' ⟨v,h1,hk,hg,ha⟩=>⟨v,h1,hk.up fun _=>.inl,⟨hg,h2.keep hk hE hG.2 (h2.dj w hG.2)⟩,ha⟩⟩
theorem ConE.up (h2:Fits e E2 G2) {f:FuncId} {args:List D} {R:List D->Prop} (h:ConE e f args R):ConE (e.plus E2 G2) f args R :=
 ⟨h.1,fun w S vs hS hE hG hvs=>(h.2 w S vs (fun b hb=>⟨(hS b hb).1,fun q=>(hS b hb).2 (.inl q)⟩) (fun b hb=>hE b (.inl hb)) hG.1 hvs).mono fun en w' ⟨v,r,h1,hr,hk,hg,ha⟩=>⟨v,r,h1,hr,hk.up fun _=>.inl,⟨hg,h2.keep hk hE hG.2 (h2.dj w hG.2)⟩,ha⟩⟩
theorem ConR.up (h2:Fits e E2 G2) {f:FuncId} {args:List D} {ty sz:Nat} {rows:List (List C)} (h:ConR e f args ty sz rows):ConR (e.plus E2 G2) f args ty sz rows :=
 ⟨h.1,fun w S vs hS hE hG hvs=>(h.2 w S vs (fun b hb=>⟨(hS b hb).1,fun q=>(hS b hb).2 (.inl q)⟩) (fun b hb=>hE b (.inl hb)) hG.1 hvs).mono fun en w' ⟨v,h1,hk,hg,ha⟩=>⟨v,h1,hk.up fun _=>.inl,⟨hg,h2.keep hk hE hG.2 (h2.dj w hG.2)⟩,ha⟩⟩
theorem ConI.up (h2:Fits e E2 G2) {f:FuncId} {ty sz:Nat} {rows rows':List (List C)} {args r:List D} (h:ConI e f ty sz rows args rows' r):ConI (e.plus E2 G2) f ty sz rows args rows' r :=
 ⟨h.1,fun w S v0 vs hS hE h0 hG hb hvs=>(h.2 w S v0 vs (fun b hb=>⟨(hS b hb).1,fun q=>(hS b hb).2 (.inl q)⟩) (fun b hb=>hE b (.inl hb)) (fun g hg q=>h0 g hg (.inl q)) hG.1 hb hvs).mono fun en w' ⟨v,h1,hk,hg,ha⟩=>⟨v,h1,hk.up fun _ q=>q.elim (fun q=>.inl (.inl q)) .inr,⟨hg,h2.keep hk hE hG.2 fun b hb q=>q.elim (h2.dj w hG.2 b hb) fun q=>h0 b q (.inr hb)⟩,ha⟩⟩
theorem ConT.up (h2:Fits e E2 G2) {f:FuncId} {ty sz:Nat} {rows rows':List (List C)} {args:List D} (h:ConT e f ty sz rows args rows'):ConT (e.plus E2 G2) f ty sz rows args rows' :=
 ⟨h.1,fun w S v0 vs hS hE h0 hG hb hvs=>(h.2 w S v0 vs (fun b hb=>⟨(hS b hb).1,fun q=>(hS b hb).2 (.inl q)⟩) (fun b hb=>hE b (.inl hb)) (fun g hg q=>h0 g hg (.inl q)) hG.1 hb hvs).mono fun en w' ⟨v,h1,hk,hg,ha⟩=>⟨v,h1,hk.up fun _ q=>q.elim (fun q=>.inl (.inl q)) .inr,⟨hg,h2.keep hk hE hG.2 fun b hb q=>q.elim (h2.dj w hG.2 b hb) fun q=>h0 b q (.inr hb)⟩,ha⟩⟩
theorem ConP.up (h2:Fits e E2 G2) {f:FuncId} {args:List D} {pm:List Bk} {R:List D->List Bk->Prop} (h:ConP e f args pm R):ConP (e.plus E2 G2) f args pm R :=
 ⟨h.1,fun w S vs hS hE hG hpm hap hvs=>(h.2 w S vs (fun b hb=>⟨(hS b hb).1,fun q=>(hS b hb).2 (.inl q)⟩) (fun b hb=>hE b (.inl hb)) hG.1 (fun x hx=>⟨(hpm x hx).1,fun g hg q=>(hpm x hx).2 g hg (.inl q)⟩) hap hvs).mono fun en w' ⟨v,r,pm',h1,hr,hk,hg,ha⟩=>⟨v,r,pm',h1,hr,hk.up fun _ q=>q.elim (fun q=>.inl (.inl q)) .inr,⟨hg,h2.keep hk hE hG.2 fun b hb q=>q.elim (h2.dj w hG.2 b hb) fun ⟨x,hx,hxg⟩=>(hpm x hx).2 b hxg (.inr hb)⟩,ha⟩⟩
theorem ZCm {ι:Type} {G:ι->World->Prop} {ok:ι->Prop} (h2:Fits e E2 G2) (hst:∀ i,Zdv E2 (G i)) (ho:∀ w,G2 w->∃ i,ok i∧G i w) (hi:∀ w i,(∀ b,E2 b->¬ e.E b)->ok i->G i w->G2 w) {f:FuncId} {xs r:List D} (hb:Zcs e.P f=true)
  (h:∀ i,ok i->ConP e f xs [.set E2 (G i)] (fun r' pm=>r'=r∧∃ i',ok i'∧pm=[.set E2 (G i')])):Con (e.plus E2 G2) f xs r:=by
 refine ⟨hb,fun w S vs hS hE hG hvs=>?_⟩;obtain ⟨i,hi1,hi2⟩:=ho w hG.2;have hdj:=h2.dj w hG.2;refine ((h i hi1).2 w S vs (fun b hb=>⟨(hS b hb).1,fun q=>(hS b hb).2 (.inl q)⟩) (fun b hb=>hE b (.inl hb)) hG.1 (fun x hx=>?_) ⟨fun y hy=>(by cases hy),trivial⟩ hvs).mono fun en w' ⟨v,r',pm,h1,⟨hr,i',hi1',hpm⟩,hk,hg,hp,_,ha⟩=>?_
 ·obtain rfl:=Tbj.1 hx;exact ⟨⟨fun b hb=>⟨hE b (.inr hb),fun q=>(hS b q).2 (.inr hb)⟩,hi2,hst i⟩,fun g hg=>hdj g hg⟩
 ·subst hr hpm;have hpb:∀ (G:World->Prop) (b:Nat),Zbp [.set E2 G] b ↔ E2 b:=fun G b=>⟨fun ⟨x,hx,hg⟩=>by obtain rfl:=Tbj.1 hx;exact hg,fun q=>⟨_,Tbj.2 rfl,q⟩⟩;refine ⟨v,h1,hk.up fun b q=>q.elim .inl fun q=>.inr ((hpb _ b).1 q),⟨hg,hi w' i' hdj hi1' (hp _ (Tbj.2 rfl)).1.2.1⟩,ha.keep (Tai _) (fun _ _ _=>rfl) fun b hb=>?_⟩;rcases hb.1 with q | q | q
  ·exact .inl q
  ·exact absurd ((hpb _ b).2 ((hpb _ b).1 q)) hb.2
  ·exact .inr q
theorem ZET {mask:Nat} {c:Code} {s:List (Nat × A)} {m:List (Nat × Bk)} {Q:PX->St->Prop} {G1:World->Prop} (k:Nat) (hst:Zdv E2 G2) (hm:gm m k=some (.set E2 G1)) (h2:(∀ b,E2 b->¬ e.E b)->Fits e E2 G2∧∀ w,G1 w->G2 w) (h:Fits e E2 G2->pwp (e.plus E2 G2) mask c ⟨s,remM k m⟩ Q):pwp e mask c ⟨s,m⟩ Q:=by
 intro he U w0 S0 nt a w hok ⟨S,L,hs⟩;have hc:=hs.cls;have ho:=hc.own k _ hm;obtain ⟨hF,hG⟩:=h2 fun b hb=>hc.notE hm (show ZaJ L k (.set E2 G1) b from hb);have hlt:∀ b,e.E b∨E2 b->b < w.heap.size:=fun b hb=>hb.elim (fun q=>Tbd (hc.ein b q) hc.bsz) fun q=>(ho.1 b q).1;have hsub:∀ k' bk,gm (remM k m) k'=some bk->k'≠k∧gm m k'=some bk:=fun k' bk hk'=>by
  rw [Zbe] at hk';by_cases e:k'=k
  ·rw [if_pos e] at hk';cases hk'
  ·rw [if_neg e] at hk';exact ⟨e,hk'⟩
 have hs2:SimE (e.plus E2 G2) (fun g=>∃ k' bk,gm (remM k m) k'=some bk∧ZaJ L k' bk g) w S nt ⟨s,remM k m⟩ a w:=by
  refine ⟨S,L,⟨fun b hb=>⟨(hc.sin b hb).1,fun q=>q.elim (hc.sin b hb).2 fun q=>(ho.1 b q).2 hb⟩,fun b hb=>.inl hb,hlt,?_,Tai _,fun k' bk g h1 h2=>.inr ⟨k',bk,h1,h2⟩,fun k' bk hk'=>hc.own k' bk (hsub k' bk hk').2,fun k1 k2 x1 x2 g h1 h2=>hc.inj k1 k2 x1 x2 g (hsub k1 x1 h1).2 (hsub k2 x2 h2).2,⟨hc.g,hG w ho.2.1⟩⟩,hs.rel,hs.size,hs.defers,Kept.refl _ _ _ _⟩;rintro b ⟨k',bk,h1,h3⟩ q;obtain ⟨hne,h1⟩:=hsub k' bk h1
  rcases q with q | q
  ·exact hc.notE h1 h3 q
  ·exact hne (hc.inj k' k bk _ b h1 hm h3 q)
 refine wp_mono (h hF (hF.ok he) _ _ _ _ _ w hok hs2) fun ex a' w' hq=>?_;have back:∀ σ',SimE (e.plus E2 G2) (fun g=>∃ k' bk,gm (remM k m) k'=some bk∧ZaJ L k' bk g) w S nt σ' a' w'->SimE e U w0 S0 nt σ' a' w':=fun σ' ⟨S1,L1,h1⟩=>by
  have c1:=h1.cls;have hU:∀ b,(∃ k' bk,gm (remM k m) k'=some bk∧ZaJ L k' bk b)->w0.heap.size<=b∨U b:=fun b ⟨k',bk,q1,q2⟩=>hc.mine k' bk b (hsub k' bk q1).2 q2;refine ⟨S1,L1,⟨fun b hb=>⟨(c1.sin b hb).1,fun q=>(c1.sin b hb).2 (.inl q)⟩,fun b hb=>?_,hc.ein,hc.uin,Tbe hc.bsz c1.bsz,fun k' bk g q1 q2=>?_,c1.own,c1.inj,c1.g.1⟩,h1.rel,h1.size,h1.defers,⟨h1.kept.os.trans hs.kept.os,h1.kept.tape.trans hs.kept.tape,h1.kept.output.trans hs.kept.output,fun d=>Tbe (hs.kept.drawn d) (h1.kept.drawn d),Tbe hs.kept.size h1.kept.size,fun b hb hn=>?_⟩⟩
  ·rcases c1.sfr b hb with q | q | q
   ·exact hc.sfr b q
   ·exact .inr (.inl (Tbe hc.bsz q))
   ·exact .inr (hU b q)
  ·rcases c1.mine k' bk g q1 q2 with q | q
   ·exact .inl (Tbe hc.bsz q)
   ·exact hU g q
  ·refine (h1.kept.block b (Tbd hb hs.kept.size) fun q=>?_).trans (hs.kept.block b hb hn);rcases q with (q | q) | q
   ·exact hn (.inl q)
   ·rcases hc.mine k _ b hm (show ZaJ L k (.set E2 G1) b from q) with q | q
    ·omega
    ·exact hn (.inr q)
   ·rcases hU b q with q | q
    ·omega
    ·exact hn (.inr q)
 cases ex with
 | normal=>exact hq.elim fun σ' hq=>⟨σ',hq.1,back σ' hq.2⟩
 | exit id=>exact hq.elim fun σ' hq=>⟨σ',hq.1,back σ' hq.2⟩
 | ret=>exact hq.elim fun σ' hq=>⟨σ',hq.1,back σ' hq.2⟩
 | goto l=>exact hq
 | panic ch=>exact hq
 | outgrown=>exact hq
end
mutual
theorem Zpr:∀ t:Tm,sizeTm t<=bulkRow (Zab t)+1
 | .mk _ _ _ args=>by
  have:=Znv args;simp only [sizeTm,Zab,bulkRow,ZaS];omega
theorem Znv:∀ ts:List Tm,sizeTms ts<=(Zaa ts).length+bulkRows (Zaa ts)
 | []=>by simp [sizeTms]
 | t::ts=>by
  have h1:=Zpr t;have h2:=Znv ts;simp only [sizeTms,Zaa,Tag,bulkRows];omega
end
theorem ZbM {t:Tm} (h:bulkRow (Zab t)<=1048576):sizeTm t<=big:=by
 have:=Zpr t;unfold big;omega
theorem ZfX (a b:List C):bulkRow (a++b)=bulkRow a+bulkRow b:=by
 induction a with
 | nil=>simp [bulkRow]
 | cons x xs ih=>simp only [Taf,bulkRow,ih];omega
theorem ZfI {r:List C}:∀ {rows:List (List C)},r∈rows->bulkRow r<=bulkRows rows
 | x::rs,h=>by
  simp only [bulkRows];rcases Tbg.1 h with rfl | h
  ·omega
  ·have:=ZfI h;omega
theorem Kept.all1 {D:Prop} {B:Nat} {w w':World} (h:Kept D e1.E B w w') (h1:e1.G w) (h2:e1.G w'):Kept D (fun _=>False) B w w':=⟨h.os,h.tape,h.output,h.drawn,h.size,fun k hk _=>by
 by_cases e:k=2
 ·have k1:Zc6 w:=h1;have k2:Zc6 w':=h2;subst e;unfold Zc6 at k1 k2;exact k2.trans k1.symm
 ·exact h.block k hk e⟩
theorem Con.weaken {e:Env} {f:FuncId} {args args' r:List D} (h:Con e f args' r) (ha:∀ (w:World) (S:Nat->Prop) (vs:List Value),ZaL w S args vs->ZaL w S args' vs):Con e f args r :=
 ⟨h.1,fun w S vs h1 h2 h3 h4=>h.2 w S vs h1 h2 h3 (ha w S vs h4)⟩
theorem ZF6 {P:Nat->Prop} (h:∃ n,P n):∃ n,P n∧∀ m,m < n->¬ P m:=by
 obtain ⟨n,hn⟩:=h
 induction n using Nat.strongRecOn with
 | _ n ih =>
  by_cases hx:∃ m,m < n∧P m
  ·obtain ⟨m,hm,hp⟩:=hx;exact ih m hm hp
  ·exact ⟨n,hn,fun m hm hp=>hx ⟨m,hm,hp⟩⟩
theorem ZpV {ts:List Tm} {f:FuncId} {caps:List C} {P:Tm->Bool} (hl:ts.length<=big) (h:∀ a∈ts,Con e0 f (.agg (Zab a)::caps.map .one) [.one (.lit (.bool (P a)))]) :
  ∃ r:Int,(0<=r ↔ ts.any P=true)∧Con e0 277 [.one (.sl (Zaa ts)),.one (.fn f caps)] [.one (.lit (.int .i64 r))]:=by
 unfold big at hl;by_cases hA:ts.any P=true
 ·obtain ⟨k,hk,hbef⟩:∃ k:Nat,(∃ a,ts[k]?=some a∧P a=true)∧∀ (j:Nat) a,j < k->ts[j]?=some a->P a=false:=by
   have hex:∃ k:Nat,∃ a,ts[k]?=some a∧P a=true:=by
    obtain ⟨a,ha,hp⟩:=List.any_eq_true.1 hA;obtain ⟨k,hk⟩:=Tbk ha;exact ⟨k,a,hk,hp⟩
   obtain ⟨k,hk,hmin⟩:=ZF6 hex;refine ⟨k,hk,fun j a hj ha=>?_⟩
   cases hp:P a with
   | false=>rfl
   | true=>exact absurd ⟨a,ha,hp⟩ (hmin j hj)
  obtain ⟨a0,ha0,hp0⟩:=hk;have hkl:=(Tad.1 ha0).1;refine ⟨(k:Int),⟨fun _=>hA,fun _=>om⟩,?_⟩;refine gI 66483 Tryz.func277 ?_;refine fG @tmz ?_;have F:=@e0P;refine gL (ι:=Nat) [4,5,8,9,16] [] (fun i=>[(8,A.d (.one (.lit (.int .i64 i))))]) (fun i=>[]) (fun i=>i<=k) (fun i=>k+1 - i) (0) om (fun i hi=>?_);clear F;have hl':(i:Int) < (ts.length:Int):=om;obtain ⟨a,ha⟩:∃ a,ts[i]?=some a:=⟨_,Taa om⟩;have hw1:=Zan (k:=i) om
  refine fB (ai @tmz @hl') ?_;refine fC (ai @tmz @ha) (h a (Tac ha)) ?_;by_cases hik:i=k
  ·subst hik;rw [ha] at ha0;injection ha0 with ha0
   subst ha0;refine fR (ai @tmz @hp0) ?_;exact fT @tmz
  ·have hpf:=hbef i a om ha;refine fR (ai @tmz @hpf) ?_;have F:=ai @hw1 @tmz;refine gG ?_;exact ⟨i+1,om,gw,gw,om⟩
 ·have hbef:∀ (j:Nat) a,ts[j]?=some a->P a=false:=fun j a ha=>by
   cases hp:P a with
   | false=>rfl
   | true=>exact absurd (List.any_eq_true.2 ⟨a,Tac ha,hp⟩) hA
  refine ⟨-1,⟨fun h=>om,fun h=>absurd h hA⟩,?_⟩;refine gI 66483 Tryz.func277 ?_;refine fG @tmz ?_;have F:=@e0P;refine gL (ι:=Nat) [4,5,8,9,16] [] (fun i=>[(8,A.d (.one (.lit (.int .i64 i))))]) (fun i=>[]) (fun i=>i<=ts.length) (fun i=>ts.length - i) (0) om (fun i hi=>?_);clear F;by_cases hi':i < ts.length;rotate_left
  ·have hl':¬ ((i:Int) < (ts.length:Int)):=om;exact fT (ai @tmz @hl')
  have hl':(i:Int) < (ts.length:Int):=om;obtain ⟨a,ha⟩:∃ a,ts[i]?=some a:=⟨_,Taa om⟩;have hw1:=Zan (k:=i) om;have hpf:=hbef i a ha;refine fB (ai @tmz @hl') ?_;refine fC (ai @tmz @ha) (h a (Tac ha)) ?_;refine fR (ai @tmz @hpf) ?_;have F:=ai @hw1 @tmz;refine gG ?_;exact ⟨i+1,om,gw,gw,om⟩
theorem Zmc {ts:List Tm} {f:FuncId} {caps:List C} {P:Tm->Bool} (hl:ts.length<=big) (h:∀ a∈ts,Con e0 f (.agg (Zab a)::caps.map .one) [.one (.lit (.bool (P a)))]) :
  Con e0 219 [.one (.sl (Zaa ts)),.one (.fn f caps)] [.one (.lit (.bool (ts.any P)))]:=by
 obtain ⟨r,hr,c⟩:=ZpV hl h;refine gI 19 Tryz.func219 ?_;refine fB @tmz ?_;refine fC @tmz (c) ?_;have e:decide (0<=r)=ts.any P:=by
  rw [Bool.eq_iff_iff,decide_eq_true_iff];exact hr
 refine fR @tmz ?_;exact fT @e
theorem ZEW {w:World} {E:Nat->Prop}:Own w (.sl []) E (.slice none 0 0):=by
 simp only [Own];exact ⟨none,0,0,rfl,rfl,Tai _,by decide,fun h=>absurd h (by decide)⟩
theorem ZAN:Zgq [] [.set (fun _=>False) (fun w=>Zam w (Zab zTm) (fun _=>False) [.int .i64 0,.string ByteArray.empty,.int .i64 0,.slice none 0 0])]:=fun w S _ _ =>
 ⟨fun x hx=>by simp at hx;subst hx;exact ⟨fun b h=>h.elim,ZAj (args:=[]) (by simp only [Zaa];exact ZEW),Zam.stable _ _ _⟩,Ziw _,fun g ⟨x,hx,hg⟩=>by simp at hx;subst hx;exact hg.elim⟩
def ZaP:Tm->List Int->Tm × Bool
 | t,[]=>(t,true)
 | t,p::ps=>if p < 0 then (zTm,false) else match t.args[p.toNat]? with
  | some a=>ZaP a ps
  | none=>(zTm,false)
def Zhz (x:Tm × Bool) (r:List D) (pm:List Bk):Prop:=∃ us E,r=[.agg (Za5 us),.one (.lit (.bool x.2))]∧us.length=4∧(Za5 us).all ZaB=true∧pm=[.set E (fun w=>Zam w (Zab x.1) E us)]
theorem Zhz.mk {x:Tm × Bool} {b:Bool} {u0 u1 u2 u3:Value} {E:Nat->Prop} (hok:(Za5 [u0,u1,u2,u3]).all ZaB=true) (hb:b=x.2):Zhz x [.agg [.lit u0,.lit u1,.lit u2,.lit u3],.one (.lit (.bool b))] [.set E (fun w=>Zam w (Zab x.1) E [u0,u1,u2,u3])]:=⟨[u0,u1,u2,u3],E,by rw [hb];rfl,rfl,hok,rfl⟩
theorem Ze1 {t:Tm} {ps:List Int} {i:Nat} {p:Int} (h:ps[i]?=some p):ZaP t (ps.drop i)=if p < 0 then (zTm,false) else match t.args[p.toNat]? with
  | some a=>ZaP a (ps.drop (i+1))
  | none=>(zTm,false):=by
 obtain ⟨hl,rfl⟩:=Tad.1 h;rw [List.drop_eq_getElem_cons hl,ZaP]
theorem Zmd {a b:Tm} {i:Nat} (h:a.args[i]?=some b):bulkRow (Zab b)<=bulkRow (Zab a):=by
 obtain ⟨op,nm,so,args⟩:=a;have hi':(Zaa args)[i]?=some (Zab b):=by rw [Zb1];simp only [Tm.args] at h;rw [h];rfl
 have h2:=Zck hi';simp only [Zab,bulkRow,ZaS];omega
theorem Znz (t:Tm) (ps:List Int) (hl:ps.length<=1048576) (hb:bulkRow (Zab t)<=1048576):ConP e0 236 [.agg (Zab t),.one (.sl (ps.map ZaK))] [] (Zhz (ZaP t ps)):=by
 refine gIP (ts:=[.cell 4 46,.slot 5]) [] 4198327 Tryz.func236 ?_;refine fG @tmz ?_;have F:=@tmz;refine gL (ι:=Nat × Tm) [5,7,10,11,22] [2] (fun x=>[(10,.d (.one (.lit (.int .i64 (x.1:Int)))))]) (fun x=>[(2,.var none (Zab x.2))]) (fun x=>x.1<=ps.length∧ZaP t ps=ZaP x.2 (ps.drop x.1)∧bulkRow (Zab x.2)<=1048576) (fun x=>ps.length - x.1) ((0,t)) (⟨Taj _,rfl,hb⟩) (fun x hx=>?_);clear F;obtain ⟨i,a⟩:=x
 obtain ⟨hi,hs,ha⟩:=hx;simp only at hi hs ha;rw [hs];clear hs;by_cases hlt:i < ps.length
 ·obtain ⟨p,hp⟩:∃ p,ps[i]?=some p:=⟨_,Taa hlt⟩;have q1:=lT i ps.length;rw [Ze1 hp];by_cases hp0:p < 0
  ·have q2:(p < 0)=True:=eq_true hp0;rw [if_pos hp0];refine fN 5 (aj4 @q1 @hp @ZaU @q2) ?_;refine gB ?_;refine gX ?_;refine fR @e0P ?_;refine fG @tmz ?_;refine pE [] [1001] ZAN ?_;exact (have F:=@e0P;gTP [1001] (Zhz.mk (x:=(zTm,false)) rfl rfl))
  ·have q2:(p < 0)=False:=eq_false hp0;rw [if_neg hp0]
   cases hg:a.args[p.toNat]? with
   | none =>
    have hle:=List.getElem?_eq_none_iff.1 hg;have q3:(p ≥ (a.args.length:Int))=True:=eq_true om;refine fN 5 (aj6 @q1 @hp @ZaU @q2 @tmz @q3) ?_;refine gB ?_;refine gX ?_;refine fR @e0P ?_;refine fG @tmz ?_;refine pE [] [1001] ZAN ?_;exact (have F:=@e0P;gTP [1001] (Zhz.mk (x:=(zTm,false)) rfl rfl))
   | some b =>
    have hlt2:=(Tad.1 hg).1;have q3:(p ≥ (a.args.length:Int))=False:=eq_false om;have q5:(0<=p)=True:=eq_true om;refine fG (aj8 @q1 @hp @ZaU @q2 @tmz @q3 @hg @q5) ?_;have hbb:bulkRow (Zab b)<=1048576:=Tbe (Zmd hg) ha;have q4:IntKind.i64.wrap ((i:Int)+1)=(i:Int)+1:=IntWalk.i64_in _ om;have F:=@q4;refine gG ?_;exact ⟨(i+1,b),⟨hlt,rfl,hbb⟩,gw,gw,om⟩
 ·obtain rfl:i=ps.length:=by omega
  have q1:=lF ps.length ps.length;rw [List.drop_length,ZaP];refine fB @q1 ?_;have F:=@tmz;refine gCP [] [1001] (ZrO a ha) ?_;clear F;rintro r pm ⟨us,E2,rfl,hu,hok,rfl⟩;rw [Zj0] at hu;obtain ⟨u0,u1,u2,u3,rfl⟩:=len4 hu;obtain ⟨k0,k1,k2,k3⟩:=okc4 hok;simp only [Ziy,setA,retA,zipM,Taf,Tah];refine fR (aj5 @tmz @k0 @k1 @k2 @k3) ?_;refine fG @tmz ?_;exact (have F:=@e0P;gTP [1001] (Zhz.mk hok rfl))
theorem Zkt (x lo hi:Int):Con e0 158 [.one (.lit (.int .i64 x)),.one (.lit (.int .i64 lo)),.one (.lit (.int .i64 hi))] [.one (.lit (.bool (decide (lo<=x∧x<=hi))))]:=by
 refine gI 71 Tryz.func158 ?_;by_cases h1:lo<=x
 ·by_cases h2:x<=hi
  ·exact fT (ai @h1 @h2)
  ·exact fT (ai @h1 @h2)
 ·exact fT @h1
theorem ZAO {t:Tm} {ps:List Int} {i:Nat} {p:Int} (h:ps[i]?=some p) (hin:¬ (0<=p∧p<=(t.args.length:Int) - 1)):ZaP t (ps.drop i)=(zTm,false):=by
 rw [Ze1 h];split
 ·rfl
 ·rw [List.getElem?_eq_none om]
theorem ZEX {a:Tm} (ha:bulkRow (Zab a)<=1048576):a.args.length<=1048576:=by
 obtain ⟨op,nm,so,args⟩:=a;simp only [Zab,bulkRow,ZaS,Zae] at ha;simp only [Tm.args];omega
theorem Zku (t:Tm) (ps:List Int) (hl:ps.length<=1048576) (hb:bulkRow (Zab t)<=1048576):Con e0 231 [.agg (Zab t),.one (.sl (ps.map ZaK))] [.agg (Zab (ZaP t ps).1),.one (.lit (.bool (ZaP t ps).2))]:=by
 refine gI (ts:=[.cell 4 46,.slot 5]) 4195447 Tryz.func231 ?_;refine fG @tmz ?_;have F:=@tmz;refine gL (ι:=Nat × Tm) [5,6,10,22] [2] (fun x=>[(6,.d (.one (.lit (.int .i64 (x.1:Int)))))]) (fun x=>[(2,.var none (Zab x.2))]) (fun x=>x.1<=ps.length∧ZaP t ps=ZaP x.2 (ps.drop x.1)∧bulkRow (Zab x.2)<=1048576) (fun x=>ps.length - x.1) ((0,t)) (⟨Taj _,rfl,hb⟩) (fun x hx=>?_);clear F;obtain ⟨i,a⟩:=x;obtain ⟨hi,hs,ha⟩:=hx
 simp only at hi hs ha;rw [hs];clear hs;by_cases hlt:i < ps.length
 ·obtain ⟨p,hp⟩:∃ p,ps[i]?=some p:=⟨_,Taa hlt⟩;have q1:=lT i ps.length;have hal:=ZEX ha;have q2:IntKind.i64.wrap ((a.args.length:Int) - 1)=(a.args.length:Int) - 1:=IntWalk.i64_in _ om;have q4:IntKind.i64.wrap ((i:Int)+1)=(i:Int)+1:=IntWalk.i64_in _ om;by_cases hin:0<=p∧p<=(a.args.length:Int) - 1
  ·obtain ⟨b,hg⟩:∃ b,a.args[p.toNat]?=some b:=⟨_,Taa om⟩;have q3:decide (0<=p∧p<=(a.args.length:Int) - 1)=true:=decide_eq_true hin;have q5:(0<=p)=True:=eq_true hin.1;rw [Ze1 hp,if_neg om,hg];refine fB (aj5 @q1 @hp @ZaU @q2 @tmz) ?_;refine fC (aj5 @q1 @hp @ZaU @q2 @tmz) (Zkt p 0 _) ?_;refine fR @q3 ?_;refine fG (aj8 @q1 @hp @ZaU @q2 @tmz @q3 @q5 @hg) ?_;have hbb:bulkRow (Zab b)<=1048576:=Tbe (Zmd hg) ha
   have F:=@q4;refine gG ?_;exact ⟨(i+1,b),⟨hlt,rfl,hbb⟩,gw,gw,om⟩
  ·have q3:decide (0<=p∧p<=(a.args.length:Int) - 1)=false:=decide_eq_false hin;rw [ZAO hp hin];refine fB (aj5 @q1 @hp @ZaU @q2 @tmz) ?_;refine fC (aj5 @q1 @hp @ZaU @q2 @tmz) (Zkt p 0 _) ?_;refine fR @q3 ?_;exact fD (aj7 @q1 @hp @ZaU @q2 @tmz @q3 @Zc9)
 ·obtain rfl:i=ps.length:=by omega
  have q1:=lF ps.length ps.length;rw [List.drop_length,ZaP];exact fD (ai @q1 @tmz)
section
variable {e:Env} {mask:Nat} {Q:PX->St->Prop} {ds:List (Option Nat)}
def ancN (L:List Oper):Nat->Nat->List Nat
 | 0,_=>[]
 | n+1,j=>Zcc L j++(Zcc L j).flatMap (ancN L n)
theorem Zje {L:List Oper} {listed:Array Bool} (h:∀ j,listed.getD j false=true->∀ q∈Zcc L j,listed.getD q false=true):∀ (n j:Nat),(∀ q∈Zcc L j,listed.getD q false=true)->∀ q∈ancN L n j,listed.getD q false=true
 | 0,_,_,q,hq=>by cases hq
 | n+1,j,hj,q,hq=>by
  rcases Tbh.1 hq with hq | hq
  ·exact hj q hq
  ·obtain ⟨r,hr,hq⟩:=List.mem_flatMap.1 hq;exact Zje h n r (h r (hj r hr)) q hq
def ZhA (e:Env) (ds:List (Option Nat)) (L:List Oper) (cons:Nat->Option Nat) (ini:List Nat) (B:St->Prop) (P:Nat->St->Prop):Nat->List Oper->Prop
 | _,[]=>True
 | i,o::os=>(∀ s m,B ⟨s,m⟩->(∀ j∈Zcc L i,(cons j=none∨cons j=some i)->P j ⟨s,m⟩)->(∀ j∈ini,cons j=some i->P j ⟨s,m⟩)->(∀ j∈ini,∀ k,cons j=some k->i∈Zcc L k->P j ⟨s,m⟩)->Runs e ds 0 [o] ⟨s,m⟩ (fun σ'=>B σ'∧P i σ'∧∀ j,j≠i->i ∉ ancN L 6 j->cons j≠some i->(∀ k,cons j=some k->k ∉ ancN L 6 i)->P j ⟨s,m⟩->P j σ'))∧ZhA e ds L cons ini B P (i+1) os
theorem ZhA.get {L:List Oper} {cons:Nat->Option Nat} {ini:List Nat} {B:St->Prop} {P:Nat->St->Prop}:∀ {l:List Oper} {k i:Nat} {o:Oper},ZhA e ds L cons ini B P k l->l[i]?=some o->∀ s m,B ⟨s,m⟩->(∀ j∈Zcc L (k+i),(cons j=none∨cons j=some (k+i))->P j ⟨s,m⟩)->(∀ j∈ini,cons j=some (k+i)->P j ⟨s,m⟩)->(∀ j∈ini,∀ k',cons j=some k'->k+i∈Zcc L k'->P j ⟨s,m⟩)->Runs e ds 0 [o] ⟨s,m⟩ (fun σ'=>B σ'∧P (k+i) σ'∧∀ j,j≠k+i->k+i ∉ ancN L 6 j->cons j≠some (k+i)->(∀ k',cons j=some k'->k' ∉ ancN L 6 (k+i))->P j ⟨s,m⟩->P j σ')
 | [],k,i,o,_,h=>by simp at h
 | x::l,k,0,o,h,ho=>by
  simp only [Tat,Taq] at ho;subst ho;exact h.1
 | x::l,k,i+1,o,h,ho=>by
  have:=ZhA.get (l:=l) (k:=k+1) (i:=i) (o:=o) h.2 (by simpa using ho);rw [show k+1+i=k+(i+1) by omega] at this;exact this
theorem Ztp {l:List Oper} {cons:Nat->Option Nat} {ini:List Nat} {K B:St->Prop} {P:Nat->St->Prop} (hb:Zqp l=true) (hini:ini.all (fun j=>decide (l.length<=j))=true) (hstep:ZhA e ds l cons ini B P 0 l) (hK:∀ s m,B ⟨s,m⟩->(∀ i,i < l.length∨i∈ini->(∀ k,cons i=some k->l.length<=k)->P i ⟨s,m⟩)->K ⟨s,m⟩) :
  ∀ (f:Nat) (listed:Array Bool) (σ:St),listed.size=l.length->(List.range l.length).countP (fun i=>!listed.getD i true)=f->B σ->(∀ j,listed.getD j false=true->(P j σ∨∃ k,cons j=some k∧listed.getD k false=true)∧∀ q∈Zcc l j,listed.getD q false=true)->(∀ j∈ini,P j σ∨∃ k,cons j=some k∧listed.getD k false=true)->ZcT e ds l.toArray K f listed σ:=by
 have hback:∀ i o,l[i]?=some o->o.guard=none∧∀ e∈o.after,Region.binds .any e=true->e.on < i:=fun i o ho=>by
  have h1:=List.all_eq_true.1 hb i (List.mem_range.2 (Tad.1 ho).1);rw [ho] at h1;simp only [Tar,Option.isNone_iff_eq_none,List.all_eq_true,Bool.or_eq_true,Bool.not_eq_true',decide_eq_true_eq] at h1;refine ⟨h1.1,fun e he hbe=>?_⟩;rcases h1.2 e (Array.mem_toList_iff.2 he) with h2 | h2
  ·rw [hbe] at h2;cases h2
  ·exact h2
 have hfirst:∀ (listed:Array Bool),listed.size=l.length->Region.ready .any l.toArray listed=[]->∀ i,i < l.length->listed.getD i false=true:=fun listed hsz h0 i=>by
  induction i using Nat.strongRecOn with
  | _ i ih =>
   intro hi;rw [<- ZbP (by omega:i < listed.size)]
   cases hun:listed.getD i true with
   | true=>rfl
   | false =>
   obtain ⟨o,ho⟩:∃ o,l[i]?=some o:=⟨_,Taa hi⟩;have:=(mem_ready (ops:=l.toArray) (md:=.any)).2 ⟨hun,o,by simpa using ho,fun e he hbe=>ih e.on ((hback i o ho).2 e he hbe) (by have:=(hback i o ho).2 e he hbe;omega)⟩;rw [h0] at this
   cases this
 have hlt:∀ (listed:Array Bool) (k:Nat),listed.getD k false=true->k < listed.size:=fun listed k h=>Classical.byContradiction fun hn=>by
  rw [Array.getD_eq_getD_getElem?,Array.getElem?_eq_none om] at h
  cases h
 intro f
 induction f with
 | zero =>
  intro listed σ hsz hc hB hP hI;have hall:∀ i,i < l.length->listed.getD i true=true:=fun i hi=>by
   have:=List.countP_eq_zero.1 hc i (List.mem_range.2 hi);simpa using this
  refine ⟨?_,hK σ.s σ.m hB fun i hio hk=>?_⟩
  ·cases hr:Region.ready .any l.toArray listed with
   | nil=>rfl
   | cons i r =>
    have hi:i∈Region.ready .any l.toArray listed:=by rw [hr];simp
    obtain ⟨hun,oi,hoi,_⟩:=mem_ready.1 hi;have hil:i < l.length:=by
     have:=(Tbl.1 hoi).1;simpa using this
    rw [hall i hil] at hun
    cases hun
  ·have hno:¬ ∃ k,cons i=some k∧listed.getD k false=true:=fun ⟨k,h1,h2⟩=>by
    have:=hlt listed k h2;have:=hk k h1;omega
   rcases hio with hi | hi
   ·exact (hP i (by rw [<- ZbP om];exact hall i hi)).1.resolve_right hno
   ·exact (hI i hi).resolve_right hno
 | succ f ih =>
  intro listed σ hsz hc hB hP hI;refine ⟨fun h0=>hK σ.s σ.m hB fun i hio hk=>?_,fun i hi=>?_⟩
  ·have hno:¬ ∃ k,cons i=some k∧listed.getD k false=true:=fun ⟨k,h1,h2⟩=>by
    have:=hlt listed k h2;have:=hk k h1;omega
   rcases hio with hi | hi
   ·exact (hP i (hfirst listed hsz h0 i hi)).1.resolve_right hno
   ·exact (hI i hi).resolve_right hno
  obtain ⟨hun,o,hoi,hall⟩:=mem_ready.1 hi;have ho:l[i]?=some o:=by simpa using hoi
  have hil:i < l.length:=(Tad.1 ho).1;have hls:i < listed.size:=om;have hda:Zcc l i=Zfa o:=by unfold Zcc;rw [ho]
  have hunf:listed.getD i false=false:=by rw [<- ZbP hls];exact hun
  have hanc:∀ q∈ancN l 6 i,listed.getD q false=true:=Zje (fun j hj=>(hP j hj).2) 6 i fun q hq=>by
   rw [hda] at hq;simp only [Zfa,Tbi,List.mem_filter] at hq;obtain ⟨e,⟨he,hbe⟩,rfl⟩:=hq;exact hall e (Array.mem_toList_iff.1 he) hbe
  refine ⟨o,hoi,(hback i o ho).1,Zdt (hback i o ho).1 ?_⟩;have h1:=ZhA.get hstep ho σ.s σ.m hB (fun j hj hcj=>by
   rw [Nat.zero_add] at hj hcj;have hj':=hj;rw [hda] at hj';simp only [Zfa,Tbi,List.mem_filter] at hj';obtain ⟨e,⟨he,hbe⟩,rfl⟩:=hj';refine (hP e.on (hall e (Array.mem_toList_iff.1 he) hbe)).1.resolve_right ?_;rintro ⟨k,hk1,hk2⟩;rcases hcj with hcj | hcj
   ·rw [hcj] at hk1;cases hk1
   ·rw [hcj] at hk1;injection hk1 with hk1
    subst hk1;rw [hunf] at hk2
    cases hk2) (fun j hj hc=>by
   rw [Nat.zero_add] at hc;refine (hI j hj).resolve_right ?_;rintro ⟨k,hk1,hk2⟩;rw [hc] at hk1;injection hk1 with hk1
   subst hk1;rw [hunf] at hk2
   cases hk2) (fun j hj k' hc hd=>by
   rw [Nat.zero_add] at hd;refine (hI j hj).resolve_right ?_;rintro ⟨k,hk1,hk2⟩;rw [hc] at hk1;injection hk1 with hk1
   subst hk1;have h2:=(hP _ hk2).2 i hd;rw [hunf] at h2
   cases h2)
  rw [Nat.zero_add] at h1;refine Zm7 h1 fun σ' ⟨k1,k2,k3⟩=>ih _ σ' (by simpa using hsz) ?_ k1 (fun j hj=>?_) fun j hj=>?_
  ·have h1:(List.range l.length).countP (fun j=>!(listed.setIfInBounds i true).getD j true)+1=(List.range l.length).countP (fun j=>!listed.getD j true):=by
    have hperm:=List.perm_cons_erase (List.mem_range.2 hil);rw [hperm.countP_eq,hperm.countP_eq,List.countP_cons,List.countP_cons];have hcong:((List.range l.length).erase i).countP (fun j=>!(listed.setIfInBounds i true).getD j true)=((List.range l.length).erase i).countP (fun j=>!listed.getD j true):=by
     refine List.countP_congr fun j hj=>?_;have hne:j≠i:=fun e=>by
      subst e;exact List.Nodup.not_mem_erase (List.nodup_range) hj
     rw [getD_set_ne true (Ne.symm hne)]
    rw [hcong,hun];simp [hls]
   omega
  ·by_cases hji:j=i
   ·subst hji;refine ⟨.inl k2,fun q hq=>?_⟩;rw [hda] at hq;simp only [Zfa,Tbi,List.mem_filter] at hq;obtain ⟨e,⟨he,hbe⟩,rfl⟩:=hq;have hlt:=(hback j o ho).2 e (Array.mem_toList_iff.1 he) hbe;rw [getD_set_ne false om];exact hall e (Array.mem_toList_iff.1 he) hbe
   ·rw [getD_set_ne false (Ne.symm hji)] at hj;obtain ⟨p1,p2⟩:=hP j hj;have hni:i ∉ ancN l 6 j:=fun hm=>by
     have h2:=Zje (fun j hj=>(hP j hj).2) 6 j p2 i hm;rw [hunf] at h2
     cases h2
    refine ⟨?_,fun q hq=>?_⟩
    ·rcases p1 with p1 | ⟨k,hk1,hk2⟩
     ·by_cases hci:cons j=some i
      ·refine .inr ⟨i,hci,?_⟩;rw [<- ZbP (by simpa using hls)];simp [Array.getD_eq_getD_getElem?,hls]
      ·by_cases hdep:∃ k,cons j=some k∧k∈ancN l 6 i
       ·obtain ⟨k,hk1,hk2⟩:=hdep;refine .inr ⟨k,hk1,?_⟩;have hk3:=hanc k hk2;have hki:i≠k:=fun e=>by subst e;rw [hunf] at hk3;cases hk3
        rw [getD_set_ne false hki];exact hk3
       ·exact .inl (k3 j hji hni hci (fun k hk1 hk2=>hdep ⟨k,hk1,hk2⟩) p1)
     ·refine .inr ⟨k,hk1,?_⟩;by_cases hki:k=i
      ·subst hki;rw [hunf] at hk2;cases hk2
      ·rw [getD_set_ne false (Ne.symm hki)];exact hk2
    ·by_cases hqi:q=i
     ·subst hqi;have h2:=p2 q hq;rw [hunf] at h2
      cases h2
     ·rw [getD_set_ne false (Ne.symm hqi)];exact p2 q hq
  ·have hjl:l.length<=j:=by have:=List.all_eq_true.1 hini j hj;simpa using this
   have hji:j≠i:=om;have hni:i ∉ ancN l 6 j:=fun hm=>by
    have hd:Zcc l j=[]:=by unfold Zcc;rw [List.getElem?_eq_none hjl]
    simp [ancN,hd] at hm
   rcases hI j hj with p1 | ⟨k,hk1,hk2⟩
   ·by_cases hci:cons j=some i
    ·refine .inr ⟨i,hci,?_⟩;rw [<- ZbP (by simpa using hls)];simp [Array.getD_eq_getD_getElem?,hls]
    ·by_cases hdep:∃ k,cons j=some k∧k∈ancN l 6 i
     ·obtain ⟨k,hk1,hk2⟩:=hdep;refine .inr ⟨k,hk1,?_⟩;have hk3:=hanc k hk2;have hki:i≠k:=fun e=>by subst e;rw [hunf] at hk3;cases hk3
      rw [getD_set_ne false hki];exact hk3
     ·exact .inl (k3 j hji hni hci (fun k hk1 hk2=>hdep ⟨k,hk1,hk2⟩) p1)
   ·refine .inr ⟨k,hk1,?_⟩;by_cases hki:k=i
    ·subst hki;rw [hunf] at hk2;cases hk2
    ·rw [getD_set_ne false (Ne.symm hki)];exact hk2
def lkS:List (Nat × A)->List (Nat × A)->Prop
 | [],_=>True
 | (t,x)::r,s=>gs s t=x∧lkS r s
def lkM:List (Nat × Bk)->List (Nat × Bk)->Prop
 | [],_=>True
 | (t,x)::r,m=>gm m t=some x∧lkM r m
theorem ZD3 {s:List (Nat × A)}:∀ {sb:List (Nat × A)},(∀ p∈sb,gs s p.1=p.2) ↔ lkS sb s
 | []=>by simp [lkS]
 | (t,x)::r=>by simp only [List.forall_mem_cons,lkS,ZD3 (sb:=r)]
theorem ZD4 {m:List (Nat × Bk)}:∀ {mb:List (Nat × Bk)},(∀ p∈mb,gm m p.1=some p.2) ↔ lkM mb m
 | []=>by simp [lkM]
 | (t,x)::r=>by simp only [List.forall_mem_cons,lkM,ZD4 (mb:=r)]
theorem Zcj {sb:List (Nat × A)} {mb:List (Nat × Bk)} {s:List (Nat × A)} {m:List (Nat × Bk)}:Lks sb mb ⟨s,m⟩ ↔ lkS sb s∧lkM mb m:=and_congr ZD3 ZD4
abbrev Tab:=List (List (Nat × A) × List (Nat × Bk))
def tabP (T:Tab) (i:Nat) (σ:St):Prop:=Lks (T.getD i ([],[])).1 (T.getD i ([],[])).2 σ
theorem Zao {T:Tab} {i:Nat} {s:List (Nat × A)} {m:List (Nat × Bk)}:tabP T i ⟨s,m⟩ ↔ lkS (T.getD i ([],[])).1 s∧lkM (T.getD i ([],[])).2 m:=Zcj
def Zk6 (L:List Oper) (cons:Nat->Option Nat) (T:Tab) (i:Nat) (f:List (Nat × A)->List (Nat × Bk)->Bool):Bool:=(List.range T.length).all fun j=>j==i || ((ancN L 6 j).contains i || (cons j==some i || ((match cons j with | some k=>(ancN L 6 i).contains k | none=>false) || f (T.getD j ([],[])).1 (T.getD j ([],[])).2)))
theorem ZiA {L:List Oper} {cons:Nat->Option Nat} {T:Tab} {i:Nat} {f:List (Nat × A)->List (Nat × Bk)->Bool} {σ σ':St} (h:Zk6 L cons T i f=true) (hf:∀ sb mb,f sb mb=true->Lks sb mb σ->Lks sb mb σ'):∀ j,j≠i->i ∉ ancN L 6 j->cons j≠some i->(∀ k,cons j=some k->k ∉ ancN L 6 i)->tabP T j σ->tabP T j σ':=fun j h1 h2 h3 h4 hp=>by
 unfold tabP at hp ⊢;by_cases hj:j < T.length
 ·have:=List.all_eq_true.1 h j (List.mem_range.2 hj);simp only [Bool.or_eq_true,beq_iff_eq,List.contains_eq_mem,decide_eq_true_eq] at this;rcases this with q | q | q | q | q
  ·exact absurd q h1
  ·exact absurd q h2
  ·exact absurd q h3
  ·cases hc:cons j with
   | none=>rw [hc] at q;cases q
   | some k=>rw [hc] at q;exact absurd (by simpa using q) (h4 k hc)
  ·exact hf _ _ q hp
 ·have e:T.getD j ([],[])=([],[]):=by rw [List.getD_eq_getElem?_getD,List.getElem?_eq_none om];rfl
  rw [e];exact ⟨fun p hp=>(by cases hp),fun p hp=>by cases hp⟩
section
variable {sb:List (Nat × A)} {mb:List (Nat × Bk)} {s:List (Nat × A)} {m:List (Nat × Bk)} {d k:Nat} {α:A} {bk:Bk}
theorem Lks.kill (h:Lks sb mb ⟨s,m⟩) (hf:sb.all (fun p=>!keyB k p.2)=true):Lks sb mb ⟨Zau k s,m⟩:=⟨fun p hp=>by
 have h1:=List.all_eq_true.1 hf p hp;have h2:=h.1 p hp;show gs (Zau k s) p.1=p.2;rw [Zfk _ _ _ (by rw [h2];simpa using h1)];exact h2,h.2⟩
theorem Lks.mrem (h:Lks sb mb ⟨s,m⟩) (hf:mb.all (fun p=>p.1 != k)=true):Lks sb mb ⟨s,remM k m⟩:=⟨h.1,fun p hp=>by
 have h1:=List.all_eq_true.1 hf p hp;simp only [bne_iff_ne,ne_eq] at h1;show gm (remM k m) p.1=some p.2;rw [Zbe,if_neg h1];exact h.2 p hp⟩
theorem ZAP {x:A} (h:keyB k x=false):frzA k bk x=x:=by
 cases x <;> simp_all [frzA,keyB]
theorem Lks.frz (h:Lks sb mb ⟨s,m⟩) (hf:sb.all (fun p=>!keyB k p.2)=true) (hm:mb.all (fun p=>p.1 != k)=true):Lks sb mb ⟨frzS k bk s,remM k m⟩:=by
 refine Lks.mrem (m:=m) ⟨fun p hp=>?_,h.2⟩ hm;have h1:=List.all_eq_true.1 hf p hp;have h2:=h.1 p hp;show gs (frzS k bk s) p.1=p.2;rw [Zn5,h2];exact ZAP (by simpa using h1)
def ZD5 (d:Nat) (sb:List (Nat × A)) (_:List (Nat × Bk)):Bool:=sb.all fun p=>p.1 != d
def ZD6 (d:Nat) (_:List (Nat × A)) (mb:List (Nat × Bk)):Bool:=mb.all fun p=>p.1 != d
def ZhX (d k:Nat) (sb:List (Nat × A)) (mb:List (Nat × Bk)):Bool:=ZeT d sb mb && ZeT k sb mb
theorem Lks.ownE (h:Lks sb mb ⟨s,m⟩) (hf:ZhX d k sb mb=true):Lks sb mb ⟨(d,α)::Zau d (Zau k s),(d,bk)::remM d (remM k m)⟩:=by
 simp only [ZhX,ZeT,Tar,List.all_eq_true,bne_iff_ne,ne_eq,Bool.not_eq_true'] at hf;refine Lks.born (Lks.mrem (Lks.kill h ?_) ?_) ?_
 ·simp only [List.all_eq_true,Bool.not_eq_true'];exact fun p hp=>(hf.2.1 p hp).2
 ·simp only [List.all_eq_true,bne_iff_ne,ne_eq];exact fun p hp=>hf.2.2 p hp
 ·simp only [ZeT,Tar,List.all_eq_true,bne_iff_ne,ne_eq,Bool.not_eq_true'];exact hf.1
theorem Lks.ownF (h:Lks sb mb ⟨s,m⟩) (hf:ZhX d k sb mb=true):Lks sb mb ⟨frzS d bk ((d,α)::Zau d (Zau k s)),remM d ((d,bk)::remM d (remM k m))⟩:=by
 have h1:=Lks.ownE (α:=α) (bk:=bk) h hf;simp only [ZhX,ZeT,Tar,List.all_eq_true,bne_iff_ne,ne_eq,Bool.not_eq_true'] at hf;refine Lks.frz h1 ?_ ?_
 ·simp only [List.all_eq_true,Bool.not_eq_true'];exact fun p hp=>(hf.1.1 p hp).2
 ·simp only [List.all_eq_true,bne_iff_ne,ne_eq];exact fun p hp=>hf.1.2 p hp
end
section
variable {L:List Oper} {cons:Nat->Option Nat} {T:Tab} {i:Nat} {sb:List (Nat × A)} {mb:List (Nat × Bk)} {s s2:List (Nat × A)} {m m2:List (Nat × Bk)} {d k:Nat} {α:A} {bk:Bk}
abbrev Did (L:List Oper) (cons:Nat->Option Nat) (T:Tab) (i:Nat) (sb:List (Nat × A)) (mb:List (Nat × Bk)) (s:List (Nat × A)) (m:List (Nat × Bk)) (σ':St):Prop:=Lks sb mb σ'∧tabP T i σ'∧∀ j,j≠i->i ∉ ancN L 6 j->cons j≠some i->(∀ k,cons j=some k->k ∉ ancN L 6 i)->tabP T j ⟨s,m⟩->tabP T j σ'
theorem kS (hB:Lks sb mb ⟨s,m⟩) (hp:tabP T i ⟨(d,α)::s,m⟩) (h1:ZD5 d sb mb=true:=by rfl) (h2:Zk6 L cons T i (ZD5 d)=true:=by rfl):Did L cons T i sb mb s m ⟨(d,α)::s,m⟩:=⟨hB.slot h1,hp,ZiA h2 fun _ _ h hl=>hl.slot h⟩
theorem kM (hB:Lks sb mb ⟨s,m⟩) (hp:tabP T i ⟨s,(d,bk)::remM d m⟩) (h1:ZD6 d sb mb=true:=by rfl) (h2:Zk6 L cons T i (ZD6 d)=true:=by rfl):Did L cons T i sb mb s m ⟨s,(d,bk)::remM d m⟩:=⟨hB.own h1,hp,ZiA h2 fun _ _ h hl=>hl.own h⟩
theorem kB (hB:Lks sb mb ⟨s,m⟩) (hp:tabP T i ⟨(d,α)::Zau d s,(d,bk)::remM d m⟩) (h1:ZeT d sb mb=true:=by rfl) (h2:Zk6 L cons T i (ZeT d)=true:=by rfl):Did L cons T i sb mb s m ⟨(d,α)::Zau d s,(d,bk)::remM d m⟩:=⟨hB.born h1,hp,ZiA h2 fun _ _ h hl=>hl.born h⟩
theorem kE (hB:Lks sb mb ⟨s,m⟩) (hp:tabP T i ⟨(d,α)::Zau d (Zau k s),(d,bk)::remM d (remM k m)⟩) (h1:ZhX d k sb mb=true:=by rfl) (h2:Zk6 L cons T i (ZhX d k)=true:=by rfl):Did L cons T i sb mb s m ⟨(d,α)::Zau d (Zau k s),(d,bk)::remM d (remM k m)⟩:=⟨hB.ownE h1,hp,ZiA h2 fun _ _ h hl=>hl.ownE h⟩
theorem kF (hB:Lks sb mb ⟨s,m⟩) (hp:tabP T i ⟨frzS d bk ((d,α)::Zau d (Zau k s)),remM d ((d,bk)::remM d (remM k m))⟩) (h1:ZhX d k sb mb=true:=by rfl) (h2:Zk6 L cons T i (ZhX d k)=true:=by rfl):Did L cons T i sb mb s m ⟨frzS d bk ((d,α)::Zau d (Zau k s)),remM d ((d,bk)::remM d (remM k m))⟩:=⟨hB.ownF h1,hp,ZiA h2 fun _ _ h hl=>hl.ownF h⟩
end
theorem gFz {os:List Oper} {K:St->Prop} {s:List (Nat × A)} {m:List (Nat × Bk)} {bk:Bk} (k:Nat) (hK:Runs e ds 0 os ⟨frzS k bk s,remM k m⟩ K) (hm:gm m k=some bk:=by exact snx):Runs e ds 0 os ⟨s,m⟩ K :=
 Zfs (ZdF [k] rfl) fun σ' hσ=>by subst hσ;simp only [frzs,frz,hm,frzB];exact hK
theorem gGk {id:Nat} {l:List Oper} {s:List (Nat × A)} {m:List (Nat × Bk)} (sb:List (Nat × A)) (mb:List (Nat × Bk)) (T:Tab) (cons:Nat->Option Nat) (ini:List Nat) (hB:Lks sb mb ⟨s,m⟩) (hI:∀ j∈ini,tabP T j ⟨s,m⟩) (hS:ZhA e (l.map (·.dst)) l cons ini (Lks sb mb) (tabP T) 0 l) (hK:∀ s' m',Lks sb mb ⟨s',m'⟩->(∀ i,i < l.length∨i∈ini->(∀ k,cons i=some k->l.length<=k)->tabP T i ⟨s',m'⟩)->∃ sf mf,Lks sf mf ⟨s',m'⟩∧Q .normal ⟨sf,mf⟩)
  (hb:Zqp l=true:=by decide +kernel) (hini:ini.all (fun j=>decide (l.length<=j))=true:=by decide +kernel) (hT:regT l.toArray 0=true:=by decide +kernel):pwp e mask (.region id l.toArray true) ⟨s,m⟩ Q:=fun he U w0 S0 nt a w hok hs=>by
 refine ZlU he hT (K:=fun σ'=>∃ sf mf,Lks sf mf σ'∧Q .normal ⟨sf,mf⟩) (fun a w σ' ⟨sf,mf,h1,h2⟩ h3=>⟨⟨sf,mf⟩,h2,h3.weak (fun t=>Zrs t h1.1) (fun t bk=>Zrt t bk h1.2)⟩) (ZmZ hok) hs ?_;simp only [List.take_zero,Runs]
 have:=Ztp (K:=fun σ'=>∃ sf mf,Lks sf mf σ'∧Q .normal ⟨sf,mf⟩) hb hini hS hK l.length (Zb3 l.length 0) ⟨s,m⟩ (by simp [Zb3]) (by
  rw [List.countP_eq_length.2]
  ·simp
  ·intro i hi;have hi':=List.mem_range.1 hi;simp [Zb3,hi']) hB (fun j hj=>by
   have h0:(Zb3 l.length 0).getD j false=false:=by
    by_cases hjl:j < l.length
    ·simp [Zb3,hjl]
    ·simp [Zb3,hjl]
   rw [h0] at hj
   cases hj) (fun j hj=>.inl (hI j hj))
 simpa using this
end
def ZAQ (rows:List (List C)) (r:List D) (pm:List Bk):Prop:=∃ v E,r=[.one (.lit v)]∧ZaB (.lit v)=true∧pm=[.set E (fun w=>Own w (.sl rows) E v)]
def Zqv:Bk->Bool
 | .set _ _=>true
 | _=>false
def litC:C->Bool
 | .lit _=>true
 | _=>false
def litD:D->Bool
 | .one c=>litC c
 | .agg cs=>cs.all litC
 | _=>false
theorem ZhB {w:World} {S:Nat->Prop}:∀ {us vs:List Value},Zad w S (Za5 us) vs->vs=us
 | [],[],_=>rfl
 | u::us,v::vs,h=>by
  obtain ⟨h1,h2⟩:=h;have h1:v=u:=h1;rw [h1,ZhB h2]
 | [],_::_,h=>h.elim
 | _::_,[],h=>h.elim
theorem Kept.noPin {D:Prop} {E:Nat->Prop} {B:Nat} {w w':World} (h:Kept D (fun b=>E b∨Zbp [] b) B w w'):Kept D E B w w' :=
 ⟨h.os,h.tape,h.output,h.drawn,h.size,fun k hk hn=>h.block k hk fun h=>h.elim hn fun ⟨x,hx,_⟩=>by cases hx⟩
theorem Zpv {e:Env} {f:FuncId} {args:List D} {x:Tm × Bool} (h:ConP e f args [] (Zhz x)):Con e f args [.agg (Zab x.1),.one (.lit (.bool x.2))]:=by
 refine ⟨h.1,fun w S vs hS hE hG hv=>(h.2 w S vs hS hE hG (fun x hx=>by cases hx) trivial hv).mono ?_⟩;rintro en w' ⟨v,r,pm',h1,⟨us,E,rfl,hl,hok,rfl⟩,h3,h4,h5,h6,h7⟩;obtain ⟨⟨q1,q2,q3⟩,p2⟩:=h5 _ Tas;obtain ⟨vs',hvs,hd⟩:=h7
 match vs',hd with
 | [u0,u1],⟨⟨us0,hu0,hr⟩,hb,_⟩ =>
  have e1:=ZhB hr;subst e1;refine ⟨v,h1,h3.noPin,h4,[u0,u1],hvs,⟨us0,hu0,Zam.rep _ _ _ _ (fun g hg=>.inr ⟨?_,(q1 g hg).1⟩) q2⟩,hb,trivial⟩;exact (p2 g hg).elim (fun ⟨x,hx,_⟩=>by cases hx) id
def wo:List Tm->List Tm->List Tm × Bool
 | l,[]=>(l,true)
 | [],_::_=>([],false)
 | a::l,o::os=>if Zag a o=0 then wo l os else (a::(wo l (o::os)).1,(wo l (o::os)).2)
theorem Zkv (l:List Tm):wo l []=(l,true):=by cases l <;> rfl
def rmT (s:Tm):List Tm->Option (List Tm)
 | []=>none
 | a::l=>if Zag a s=0 then some l else (rmT s l).map (a::·)
def ZbN:List Tm->List Tm->Option (List Tm)
 | l,[]=>some l
 | l,s::ss=>(rmT s l).bind fun l'=>ZbN l' ss
theorem Zme {s:Tm} {l:List Tm} (h:∀ a∈l,Zag a s≠0):rmT s l=none:=by
 induction l with
 | nil=>rfl
 | cons a l ih =>
  simp only [rmT,if_neg (h a Tas),ih fun x hx=>h x (Tal _ hx),Option.map_none]
theorem ZAR {s:Tm}:∀ {l:List Tm} {i:Nat} {x:Tm},l[i]?=some x->Zag x s=0->(∀ (j:Nat) a,j < i->l[j]?=some a->Zag a s≠0)->rmT s l=some (l.take i++l.drop (i+1))
 | [],i,x,h,_,_=>by simp at h
 | a::l,0,x,h,hx,_=>by
  simp at h;subst h;simp [rmT,hx]
 | a::l,i+1,x,h,hx,hb=>by
  have h0:=hb 0 a om (by simp);have:=ZAR (l:=l) (i:=i) (by simpa using h) hx fun j b hj hjb=>hb (j+1) b om (by simpa using hjb);simp [rmT,h0,this]
theorem Zop {s:Tm}:∀ {l l':List Tm},rmT s l=some l'->l'.length+1=l.length
 | [],l',h=>by simp [rmT] at h
 | a::l,l',h=>by
  simp only [rmT] at h;split at h
  ·injection h with h;subst h;simp
  ·cases hr:rmT s l with
   | none=>rw [hr] at h;cases h
   | some r =>
    rw [hr] at h;injection h with h
    subst h;have:=Zop hr;simp;omega
theorem ZhY:∀ {ss l l':List Tm},ZbN l ss=some l'->l'.length+ss.length=l.length
 | [],l,l',h=>by simp only [ZbN] at h;injection h with h;subst h;simp
 | s::ss,l,l',h=>by
  simp only [ZbN] at h
  cases hr:rmT s l with
  | none=>rw [hr] at h;cases h
  | some r =>
   rw [hr] at h;have h1:=ZhY (ss:=ss) h;have h2:=Zop hr;simp only [Tag];omega
def AscE (l:List Tm):Prop:=l.Pairwise fun a b=>Zag a b<=0
theorem ZCs {a s:Tm} {l:List Tm} (h:Zag a s≠0):rmT s (a::l)=(rmT s l).map (a::·):=by simp [rmT,h]
theorem ZnA {a:Tm}:∀ {ss l:List Tm},(∀ s∈ss,Zag a s≠0)->ZbN (a::l) ss=(ZbN l ss).map (a::·)
 | [],l,_=>rfl
 | s::ss,l,h=>by
  simp only [ZbN,ZCs (h s Tas)]
  cases hr:rmT s l with
  | none=>rfl
  | some r =>
   simp only [Option.map_some,Option.bind_some];exact ZnA fun x hx=>h x (Tal _ hx)
theorem ZiB:∀ {l os:List Tm},AscE l->AscE os->((wo l os).2=true ↔ (ZbN l os).isSome=true)∧((wo l os).2=true->ZbN l os=some (wo l os).1)
 | l,[],_,_=>by rw [Zkv];simp [ZbN]
 | [],o::os,_,_=>by simp [wo,ZbN,rmT]
 | a::l,o::os,hl,ho=>by
  have hl':=List.pairwise_cons.1 hl;have ho':=List.pairwise_cons.1 ho;by_cases h:Zag a o=0
  ·have ih:=ZiB (l:=l) (os:=os) hl'.2 ho'.2;simp only [wo,if_pos h,ZbN,rmT,Option.bind_some];exact ih
  ·have ih:=ZiB (l:=l) (os:=o::os) hl'.2 ho;simp only [wo,if_neg h];by_cases hlt:Zag a o < 0
   ·have hne:∀ s∈o::os,Zag a s≠0:=fun s hs e=>by
     rcases Tbg.1 hs with rfl | hs
     ·omega
     ·have h1:=ho'.1 s hs;have h2:=(ZhR a o s).1.2.1 hlt h1;omega
    rw [ZnA hne];refine ⟨by rw [ih.1];cases ZbN l (o::os) <;> simp,fun hw=>?_⟩;rw [ih.2 hw];rfl
   ·have hgt:∀ x∈a::l,Zag x o≠0:=fun x hx e=>by
     rcases Tbg.1 hx with rfl | hx
     ·exact h e
     ·have h1:=hl'.1 x hx;have h2:=ZcU e;subst h2;omega
    have hn:ZbN (a::l) (o::os)=none:=by simp only [ZbN,Zme hgt,Option.bind_none]
    have hn2:ZbN l (o::os)=none:=by simp only [ZbN,Zme fun x hx=>hgt x (Tal _ hx),Option.bind_none]
    rw [hn2] at ih;rw [hn];refine ⟨by rw [ih.1],fun hw=>?_⟩;have:=ih.1.1 hw
    cases this
theorem Zkw:∀ {l os:List Tm},AscE l->(wo l os).2=true->AscE os
 | l,[],_,_=>List.Pairwise.nil
 | [],o::os,_,h=>by simp [wo] at h
 | a::l,o::os,hl,h=>by
  have hl':=List.pairwise_cons.1 hl;by_cases hc:Zag a o=0
  ·simp only [wo,if_pos hc] at h;have:=Zkw hl'.2 h;have e:=ZcU hc;subst e;refine List.pairwise_cons.2 ⟨fun s hs=>?_,this⟩;exact hl'.1 s (wo_mem h s hs)
  ·simp only [wo,if_neg hc] at h;exact Zkw hl'.2 h
where wo_mem:∀ {l os:List Tm},(wo l os).2=true->∀ s∈os,s∈l
 | l,[],_,s,hs=>by cases hs
 | [],o::os,h,s,hs=>by simp [wo] at h
 | a::l,o::os,h,s,hs=>by
  by_cases hc:Zag a o=0
  ·simp only [wo,if_pos hc] at h;have e:=ZcU hc;subst e;rcases Tbg.1 hs with rfl | hs
   ·exact Tas
   ·exact Tal _ (wo_mem h s hs)
  ·simp only [wo,if_neg hc] at h;exact Tal _ (wo_mem h s hs)
theorem Zd6 {α:Type} {l:List α} {i:Nat} {x:α} (h:l[i]?=some x):l.drop i=x::l.drop (i+1):=by
 obtain ⟨hl,hx⟩:=Tad.1 h;rw [<- hx];exact List.drop_eq_getElem_cons hl
theorem Ztq (l os:List Tm) (hll:l.length<=1048576) (hol:os.length<=1048576):Con e0 237 [.one (.sl (Zaa l)),.one (.sl (Zaa os))] [.one (.sl (Zaa (wo l os).1)),.one (.lit (.bool (wo l os).2))]:=by
 refine gI (ts:=[.slot 4,.slot 5]) 268466931 Tryz.func237 ?_;refine fG @tmz ?_;have F:=@Zdm;refine gL (ι:=Nat × Nat × List Tm) [6,7,9,13,14,28] [6] (fun x=>[(13,A.d (.one (.lit (.int .i64 x.1)))),(7,A.d (.one (.lit (.int .i64 x.2.1)))),(6,.buf 6)]) (fun x=>[(6,.buf none 46 4 (Zaa x.2.2))]) (fun x=>x.1<=l.length∧x.2.1<=os.length∧x.2.2.length<=x.1∧(wo l os)=(x.2.2++(wo (l.drop x.1) (os.drop x.2.1)).1,(wo (l.drop x.1) (os.drop x.2.1)).2)) (fun x=>l.length - x.1) ((0,0,[])) (⟨Taj _,Taj _,Tai _,rfl⟩) (fun x hx=>?_);clear F
 obtain ⟨i,k,out⟩:=x;obtain ⟨hi,hk,hol2,hw⟩:=hx;simp only at hi hk hol2 hw;by_cases hlt:i < l.length;rotate_left
 ·obtain rfl:i=l.length:=by omega
  have q1:=lF l.length l.length;rw [hw];dsimp only;rw [List.drop_length] at hw ⊢;by_cases hke:k=os.length
  ·subst hke;have q2:((os.length:Int)=(os.length:Int))=True:=eq_true rfl;rw [List.drop_length,Zkv,List.append_nil];refine fG (aj3 @q1 @q2 @tmz) ?_;have F:=aj3 @q1 @q2 @tmz;refine gG ?_;exact gTz [4]
  ·have q2:((k:Int)=(os.length:Int))=False:=eq_false om;obtain ⟨o,ho⟩:∃ o,os[k]?=some o:=⟨_,Taa om⟩;have e:wo [] (os.drop k)=([],false):=by rw [Zd6 ho];rfl
   rw [e,List.append_nil];refine fG (aj3 @q1 @q2 @tmz) ?_;have F:=aj3 @q1 @q2 @tmz;refine gG ?_;exact gTz [4]
 obtain ⟨a,ha⟩:∃ a,l[i]?=some a:=⟨_,Taa hlt⟩;have q1:=lT i l.length;have hwi:=Zan (k:=i) om;have l1:Zav 4 (Zaa out)=true:=Zc7 _;have l3:(out.length+1<=maxApp)=True:=eq_true (by unfold maxApp;omega);have l4:Zaa out++[Zab a]=Zaa (out++[a]):=by rw [ZbT,Zeg]
 have hla:(out++[a]).length<=i+1:=by simp;omega
 by_cases hko:k < os.length;rotate_left
 ·have q2:=lF k os.length;have hst:wo l os=(out++[a]++(wo (l.drop (i+1)) (os.drop k)).1,(wo (l.drop (i+1)) (os.drop k)).2):=by
   have hd:os.drop k=[]:=List.drop_eq_nil_of_le om;rw [hw,Zd6 ha,hd,Zkv,Zkv];simp
  have F:=aj8 @q1 @q2 @ha @tmz @l1 @l3 @l4 @hwi;refine gG ?_;exact ⟨(i+1,k,out++[a]),⟨hlt,hk,hla,hst⟩,gw,gw,om⟩
 obtain ⟨o,ho⟩:∃ o,os[k]?=some o:=⟨_,Taa hko⟩;have q2:=lT k os.length;have hwk:=Zan (k:=k) om;refine fB (aj3 @q1 @ha @tmz) ?_;refine fC (aj6 @q1 @q2 @ha @ho @Zal @tmz) (Zcq a o) ?_;by_cases hc:Zag a o=0
 ·have z:=decide_eq_true hc;have hst:wo l os=(out++(wo (l.drop (i+1)) (os.drop (k+1))).1,(wo (l.drop (i+1)) (os.drop (k+1))).2):=by
   rw [hw,Zd6 ha,Zd6 ho,wo,if_pos hc]
  refine fR @z ?_;have F:=aj3 @z @hwk @hwi;refine gG ?_;exact ⟨(i+1,k+1,out),⟨hlt,hko,Nat.le_succ_of_le hol2,hst⟩,gw,gw,om⟩
 ·have z:=decide_eq_false hc;have hst:wo l os=(out++[a]++(wo (l.drop (i+1)) (os.drop k)).1,(wo (l.drop (i+1)) (os.drop k)).2):=by
   rw [hw,Zd6 ha,Zd6 ho,wo,if_neg hc,<- Zd6 ho];simp
  refine fR @z ?_;have F:=aj6 @z @tmz @l1 @l3 @l4 @hwi;refine gG ?_;exact ⟨(i+1,k,out++[a]),⟨hlt,hk,hla,hst⟩,gw,gw,om⟩
open Classical in
noncomputable def Zcu (a b:List Tm):Bool:=decide (a=b)
theorem Zjz (a b:List Tm) (ha:a.length<=1048576) (hb:b.length<=1048576):Con e0 238 [.one (.sl (Zaa a)),.one (.sl (Zaa b)),.one (.fn 104 [])] [.one (.lit (.bool (Zcu a b)))]:=by
 refine gI 1074250695 Tryz.func238 ?_;by_cases hl:a.length=b.length;rotate_left
 ·have q1:((a.length:Int)=(b.length:Int))=False:=eq_false om;have e:Zcu a b=false:=by simp only [Zcu,decide_eq_false_iff_not];intro h;rw [h] at hl;exact hl rfl
  exact fT (aj3 @q1 @tmz @e)
 have q1:((a.length:Int)=(b.length:Int))=True:=eq_true om;refine fG (ai @q1 @tmz) ?_;have F:=@e0P;refine gL (ι:=Nat) [6,7,8,9,17,18,30] [] (fun i=>[(17,A.d (.one (.lit (.int .i64 i))))]) (fun i=>[]) (fun i=>i<=a.length∧∀ (j:Nat) x y,j < i->a[j]?=some x->b[j]?=some y->x=y) (fun i=>a.length - i) (0) (⟨Taj _,fun j x y h=>absurd h om⟩) (fun i hi=>?_);clear F;obtain ⟨hi,hall⟩:=hi;by_cases hlt:i < a.length
 rotate_left
 ·have q2:=lF i a.length;have e:Zcu a b=true:=by
   simp only [Zcu,decide_eq_true_eq];refine List.ext_getElem hl fun j h1 h2=>hall j _ _ om (Taa h1) (Taa h2)
  exact fT (aj3 @q2 @tmz @e)
 obtain ⟨x,hx⟩:∃ x,a[i]?=some x:=⟨_,Taa hlt⟩;obtain ⟨y,hy⟩:∃ y,b[i]?=some y:=⟨_,Taa om⟩;have q2:=lT i a.length;have hwi:=Zan (k:=i) om;refine fB (aj5 @q2 @hx @hy @Zal @tmz) ?_;refine fC @tmz (Zcq x y) ?_;by_cases hc:Zag x y=0
 ·have z:=decide_eq_true hc;have hst:∀ (j:Nat) x y,j < i+1->a[j]?=some x->b[j]?=some y->x=y:=fun j u v hj hu hv=>by
   by_cases e:j=i
   ·subst e;rw [hx] at hu;rw [hy] at hv;injection hu with hu;injection hv with hv
    subst hu hv;exact ZcU hc
   ·exact hall j u v om hu hv
  refine fR @z ?_;have F:=ai @z @hwi;refine gG ?_;exact ⟨i+1,⟨hlt,hst⟩,gw,gw,om⟩
 ·have z:=decide_eq_false hc;have e:Zcu a b=false:=by
   simp only [Zcu,decide_eq_false_iff_not];intro h;subst h;rw [hx] at hy;injection hy with hy
   subst hy;exact hc (ZdL x)
  refine fR @z ?_;exact fT (ai @z @e)
def ZfY:List C->List Value->(Nat->Nat->Prop)->List Bk
 | .sl rows::cs,u::us,Es=>.set (Es 0) (fun w=>Own w (.sl rows) (Es 0) u)::ZfY cs us (fun k=>Es (k+1))
 | .lit _::cs,_::us,Es=>ZfY cs us Es
 | _,_,_=>[]
def ZiC:List C->List Value->Prop
 | [],[]=>True
 | .lit x::cs,u::us=>u=x∧ZiC cs us
 | .sl _::cs,_::us=>ZiC cs us
 | _,_=>False
def Zr7:C->Bool
 | .lit _=>true
 | .sl _=>true
 | _=>false
theorem Zam.of_cells {w:World} {S:Nat->Prop}:∀ {cs:List C} {us:List Value} {Es:Nat->Nat->Prop},cs.all Zr7=true->ZiC cs us->(∀ x∈ZfY cs us Es,ZdD w S x)->ZeN (ZfY cs us Es)->Zam w cs (Zbp (ZfY cs us Es)) us
 | [],[],Es,_,_,_,_=>Zam.nil
 | .lit x::cs,u::us,Es,hp,hl,h,ha=>by
  obtain ⟨rfl,hl⟩:=hl;simp only [List.all_cons,Tar] at hp;simp only [Zam];exact ⟨fun _=>False,_,fun _ h=>h.elim,fun _ h=>h,fun _ h _=>h,by simp [Own],Zam.of_cells (Es:=Es) hp.2 hl h ha⟩
 | .sl rows::cs,u::us,Es,hp,hl,h,ha=>by
  simp only [List.all_cons,Tar] at hp;simp only [Zam];obtain ⟨a1,a2⟩:=ha;have hE:=h (.set (Es 0) (fun w=>Own w (.sl rows) (Es 0) u)) Tas;refine ⟨Es 0,Zbp (ZfY cs us (fun k=>Es (k+1))),fun b hb=>⟨_,Tas,hb⟩,fun b ⟨x,hx,hb⟩=>⟨x,Tal _ hx,hb⟩,fun b hb ⟨x,hx,hb2⟩=>a1 x hx b hb hb2,hE.2.1,Zam.of_cells hp.2 hl (fun x hx=>h x (Tal _ hx)) a2⟩
 | .ptr _::_,_::_,_,hp,_,_,_=>by simp [Zr7] at hp
 | .fn _ _::_,_::_,_,hp,_,_,_=>by simp [Zr7] at hp
 | [],_::_,_,_,hl,_,_=>by simp [ZiC] at hl
 | .lit _::_,[],_,_,hl,_,_=>by simp [ZiC] at hl
 | .sl _::_,[],_,_,hl,_,_=>by simp [ZiC] at hl
theorem ZfJ:∀ (ps:List Int) (t:Tm),bulkRow (Zab (ZaP t ps).1)<=bulkRow (Zab t)
 | [],t=>Tai _
 | p::ps,t=>by
  rw [ZaP];split
  ·rw [Zc9];simp [bulkRow,ZaS,bulkRows]
  ·split
   ·rename_i a h;exact Tbe (ZfJ ps a) (Zmd h)
   ·rw [Zc9];simp [bulkRow,ZaS,bulkRows]
theorem Zlz:∀ (ps:List Int) (t:Tm),(ZaP t ps).2=false->(ZaP t ps).1=zTm
 | [],t,h=>by simp [ZaP] at h
 | p::ps,t,h=>by
  rw [ZaP] at h ⊢;split at h
  ·rename_i h1;rw [if_pos h1]
  ·rename_i h1;rw [if_neg h1];split at h
   ·rename_i a h2;exact Zlz ps a h
   ·rfl
def ZwI (pm:List Bk) (l d:D):Prop:=l=d∨(∃ us row E,l=.agg (Za5 us)∧d=.agg row∧.set E (fun w=>Zam w row E us)∈pm)∨(∃ v rows E,l=.one (.lit v)∧d=.one (.sl rows)∧.set E (fun w=>Own w (.sl rows) E v)∈pm)
def Zqw (pm:List Bk):List D->List D->Prop
 | [],[]=>True
 | l::ls,d::ds=>ZwI pm l d∧Zqw pm ls ds
 | _,_=>False
theorem ZwI.same {pm:List Bk} {d:D}:ZwI pm d d:=.inl rfl
theorem Zqw.rel {pm:List Bk}:∀ {lits data:List D},Zqw pm lits data->∀ (w:World) (S:Nat->Prop) (vs:List Value),(∀ x∈pm,ZdD w S x)->ZaL w S lits vs->ZaL w (fun b=>S b∨Zbp pm b) data vs
 | [],[],_,w,S,[],_,_=>trivial
 | [],[],_,w,S,_::_,_,h=>h.elim
 | l::ls,d::ds,hr,w,S,[],_,h=>h.elim
 | l::ls,d::ds,⟨h1,h2⟩,w,S,v::vs,hp,⟨hv,hvs⟩=>by
  refine ⟨?_,Zqw.rel h2 w S vs hp hvs⟩;rcases h1 with rfl | ⟨us,row,E,rfl,rfl,hm⟩ | ⟨u,rows,E,rfl,rfl,hm⟩
  ·exact DRel.keep (Tai _) (fun _ _ _=>rfl) (fun b hb=>.inl hb) hv
  ·obtain ⟨vs',rfl,hr⟩:=hv;rw [Zif hr];obtain ⟨_,h3,_⟩:=hp _ hm;exact ⟨us,rfl,Zam.rep row E _ us (fun b hb=>.inr ⟨_,hm,hb⟩) h3⟩
  ·have hv:v=u:=hv;subst hv;obtain ⟨_,h3,_⟩:=hp _ hm;exact (Own.rep _ E v h3).mono fun b hb=>.inr ⟨_,hm,hb⟩
 | [],_::_,h,_,_,_,_,_=>h.elim
 | _::_,[],h,_,_,_,_,_=>h.elim
theorem ZlA (us:List Value):(Za5 us).all litC=true:=by
 induction us with
 | nil=>rfl
 | cons u us ih=>simp only [Za5,Tbu,List.all_cons,litC,Bool.true_and];exact ih
theorem ZgV.lits {row:List C} {r:List D} {q:List Bk} (h:ZgV row r q):r.all litD=true∧q.all Zqv=true:=by
 obtain ⟨us,E,rfl,_,_,rfl⟩:=h;exact ⟨by simp only [List.all_cons,List.all_nil,litD,ZlA];rfl,rfl⟩
theorem ZAQ.lits {rows:List (List C)} {r:List D} {q:List Bk} (h:ZAQ rows r q):r.all litD=true∧q.all Zqv=true:=by
 obtain ⟨v,E,rfl,_,rfl⟩:=h;exact ⟨rfl,rfl⟩
def ZAS (row:List C) (b:Bool) (r:List D) (pm:List Bk):Prop:=∃ us E,r=[.agg (Za5 us),.one (.lit (.bool b))]∧us.length=row.length∧(Za5 us).all ZaB=true∧pm=[.set E (fun w=>Zam w row E us)]
theorem ZAS.lits {row:List C} {b:Bool} {r:List D} {q:List Bk} (h:ZAS row b r q):r.all litD=true∧q.all Zqv=true:=by
 obtain ⟨us,E,rfl,_,_,rfl⟩:=h;exact ⟨by simp only [List.all_cons,List.all_nil,litD,ZlA];rfl,rfl⟩
def ZvI (rows:List (List C)) (b:Bool) (r:List D) (pm:List Bk):Prop:=∃ v E,r=[.one (.lit v),.one (.lit (.bool b))]∧ZaB (.lit v)=true∧pm=[.set E (fun w=>Own w (.sl rows) E v)]
theorem ZvI.lits {rows:List (List C)} {b:Bool} {r:List D} {q:List Bk} (h:ZvI rows b r q):r.all litD=true∧q.all Zqv=true:=by
 obtain ⟨v,E,rfl,_,rfl⟩:=h;exact ⟨rfl,rfl⟩
end Go.Proofs.YtcgacanpeaiabaaGreatDoor
namespace Go.Proofs.YtcgacanpeaiabaaGreatDoor
open Go.RowKit
open Classical in
noncomputable def Zce (g:Sgn) (p:Tm) (o:Occ):Option (List Tm):=if p.op < 0 then none else match g.ops[p.op.toNat]? with
 | none=>none
 | some x=>if x.assoc=false∨p.args.length < o.left.length+o.right.length+2 then none
  else if x.comm=true then (if o.right.length=0∧(wo p.args o.left).2=true then some (wo p.args o.left).1 else none)
  else if Zcu (p.args.take o.left.length) o.left=true∧Zcu (p.args.drop (p.args.length - o.right.length)) o.right=true then some ((p.args.take (p.args.length - o.right.length)).drop o.left.length) else none
noncomputable def tkIn (g:Sgn) (t:Tm) (o:Occ):Tm × Bool:=if (ZaP t o.path).2=false then (zTm,false) else if o.left.length+o.right.length=0 then ((ZaP t o.path).1,true) else match Zce g (ZaP t o.path).1 o with
 | none=>(zTm,false)
 | some r=>(.mk (ZaP t o.path).1.op ByteArray.empty 0 r,true)
open Classical in
noncomputable def tkT (g:Sgn) (t:Tm) (o:Occ):Tm × Bool:=if SgnOk g∧TermOk g t then tkIn g t o else (zTm,false)
theorem Zjf {g:Sgn}:∀ (ps:List Int) (t:Tm),ZaF g t->(ZaP t ps).2=true->ZaF g (ZaP t ps).1
 | [],t,h,_=>h
 | p::ps,t,h,hs=>by
  have e:=Ze1 (t:=t) (ps:=p::ps) (i:=0) (p:=p) rfl;simp only [List.drop_zero,Nat.zero_add,List.drop_succ_cons] at e;rw [e] at hs ⊢;by_cases hp:p < 0
  ·rw [if_pos hp] at hs;cases hs
  rw [if_neg hp] at hs ⊢
  cases ha:t.args[p.toNat]? with
  | none=>rw [ha] at hs;cases hs
  | some a =>
   rw [ha] at hs;exact Zjf ps a ((Zbm.1 h).2.1 a (Tac ha)) hs
theorem mk_u (op:Int) (l:List Tm):Zab (.mk op ByteArray.empty 0 l)=[.lit (.int .i64 op),.lit (.string ByteArray.empty),.lit (.int .i64 0),.sl (Zaa l)]:=by simp only [Zab]
theorem Zmf {a:Tm} (ha:bulkRow (Zab a)<=1048576):a.args.length<=1048576:=by
 obtain ⟨op,nm,so,args⟩:=a;simp only [Zab,bulkRow,ZaS,Zae] at ha;simp only [Tm.args];omega
theorem ZcQ (o:Occ):Zcb o=[.sl (o.path.map ZaK),.sl (Zaa o.left),.sl (Zaa o.right),.sl (o.mat.map Zbt)]:=rfl
theorem Zpw {g:Sgn} {mc:C} (hg:SgnOk g) {t:Tm} (ht:okTm t) (hb:bulkRow (Zab t)<=1048576) {o:Occ} (hop:o.path.length<=1048576) (hol:o.left.length<=1048576) (hor:o.right.length<=1048576):Con e0 163 [.one (.ptr (encX g mc)),.agg (Zab t),.agg (Zcb o)] [.agg (Zab (if ZaQ g t=true then tkIn g t o else (zTm,false)).1),.one (.lit (.bool (if ZaQ g t=true then tkIn g t o else (zTm,false)).2))]:=by
 have c1:=Zer (mc:=mc) hg ht (ZbM hb);have c2:=Zpv (Znz t o.path hop hb);have hz:=Zc9;rw [ZcQ];refine gI (ts:=[.cell 6 46,.slot 7]) 170141183618927975792446829016171823095 Tryz.func163 ?_;refine fB @tmz ?_;refine fC @tmz (c1) ?_
 cases h1:ZaQ g t with
 | false =>
  rw [if_neg (by simp)];refine fR @tmz ?_;exact fD (ai @tmz @hz)
 | true =>
 rw [if_pos rfl];have hT:=Zbx.1 h1;refine fR @tmz ?_;refine fB @tmz ?_;refine fC @tmz (c2) ?_;have hform:=Zjf (g:=g) o.path t hT.form;have hbs:=ZfJ o.path t;have hfalse:=Zlz o.path t
 have hdef:tkIn g t o=if (ZaP t o.path).2=false then (zTm,false) else if o.left.length+o.right.length=0 then ((ZaP t o.path).1,true) else match Zce g (ZaP t o.path).1 o with
  | none=>(zTm,false)
  | some r=>(.mk (ZaP t o.path).1.op ByteArray.empty 0 r,true):=rfl
 rw [hdef];clear hdef c2;generalize hsub:ZaP t o.path=px at hform hbs hfalse ⊢;obtain ⟨p,ok⟩:=px;simp only at hform hbs hfalse ⊢
 cases ok with
 | false =>
  have e:=hfalse rfl;subst e;rw [if_pos rfl];refine fR @tmz ?_;exact fD @tmz
 | true =>
 rw [if_neg (by simp)];have hws:IntKind.i64.wrap ((o.left.length:Int)+(o.right.length:Int))=(o.left.length:Int)+(o.right.length:Int):=IntWalk.i64_in _ om;by_cases hn0:o.left.length+o.right.length=0
 ·have z0:((o.left.length:Int)+(o.right.length:Int)=0)=True:=eq_true om;rw [if_pos hn0];refine fR @tmz ?_;exact fD (aj3 @z0 @hws @tmz)
 have z0:((o.left.length:Int)+(o.right.length:Int)=0)=False:=eq_false om;rw [if_neg hn0];have hpf:=hform rfl;have hpb:bulkRow (Zab p)<=1048576:=om;have hal:=Zmf hpb;have w1:IntKind.i64.wrap ((p.args.length:Int) - (o.left.length:Int))=(p.args.length:Int) - (o.left.length:Int):=IntWalk.i64_in _ om;have w2:IntKind.i64.wrap ((p.args.length:Int) - (o.left.length:Int) - (o.right.length:Int))=(p.args.length:Int) - (o.left.length:Int) - (o.right.length:Int):=IntWalk.i64_in _ om
 refine fR @tmz ?_;rcases hpf.node with hv | ⟨x,d,hA⟩
 ·have hop1:p.op=-1:=hv.1;have q1:(p.op < 0)=True:=eq_true om;have e:Zce g p o=none:=by unfold Zce;rw [if_pos om]
  rw [e];exact fD (aj7 @z0 @hws @w1 @w2 @q1 @tmz @hz)
 have h0:0<=p.op:=hA.lo;have hat:g.ops[p.op.toNat]?=some x:=hA.at';have hneg:¬ (p.op < 0):=om
 have e0':Zce g p o=if x.assoc=false∨p.args.length < o.left.length+o.right.length+2 then none
  else if x.comm=true then (if o.right.length=0∧(wo p.args o.left).2=true then some (wo p.args o.left).1 else none)
  else if Zcu (p.args.take o.left.length) o.left=true∧Zcu (p.args.drop (p.args.length - o.right.length)) o.right=true then some ((p.args.take (p.args.length - o.right.length)).drop o.left.length) else none:=by
  simp only [Zce,if_neg hneg,hat]
 rw [e0'];clear e0'
 cases ha:x.assoc with
 | false =>
  rw [if_pos (.inl rfl)];exact fD (aj12 @z0 @hws @w1 @w2 @hneg @Zba @h0 @hat @Zah @ha @tmz @hz)
 | true =>
 by_cases hn2:p.args.length < o.left.length+o.right.length+2
 ·have q2:((p.args.length:Int) - (o.left.length:Int) - (o.right.length:Int) < 2)=True:=eq_true om;rw [if_pos (.inr hn2)];exact fD (aj13 @z0 @hws @w1 @w2 @hneg @Zba @h0 @hat @Zah @ha @q2 @tmz @hz)
 have q2:((p.args.length:Int) - (o.left.length:Int) - (o.right.length:Int) < 2)=False:=eq_false om;rw [if_neg (fun h=>h.elim (fun h=>by cases h) hn2)]
 cases hc:x.comm with
 | true =>
  rw [if_pos rfl];have cW:=Ztq p.args o.left hal hol;refine fB (aj13 @z0 @hws @w1 @w2 @hneg @Zba @h0 @hat @Zah @ha @hc @q2 @tmz) ?_;refine fC @tmz (cW) ?_;refine fR @tmz ?_;by_cases hr0:o.right.length=0;rotate_left
  ·have q3:=lT 0 o.right.length;rw [if_neg fun h=>hr0 h.1];exact fD (aj3 @q3 @tmz @hz)
  have q3:=lF 0 o.right.length
  cases hw:(wo p.args o.left).2 with
  | false =>
   rw [if_neg fun h=>by cases h.2];exact fD (aj4 @q3 @hw @tmz @hz)
  | true =>
   rw [if_pos ⟨hr0,rfl⟩];have em:=mk_u p.op (wo p.args o.left).1;exact fD (aj4 @q3 @hw @tmz @em)
 | false =>
  rw [if_neg (by simp)];have wE:IntKind.i64.wrap ((o.left.length:Int)+((p.args.length:Int) - (o.left.length:Int) - (o.right.length:Int)))=((p.args.length - o.right.length:Nat):Int):=by
   rw [IntWalk.i64_in _ om];omega
  have sll:((p.args.length:Int)<=(p.args.length:Int))=True:=eq_true (Int.le_refl _);have stk:p.args.take p.args.length=p.args:=Tap;have s1:((o.left.length:Int)<=(p.args.length:Int))=True:=eq_true om;have s2:(((p.args.length - o.right.length:Nat):Int)<=(p.args.length:Int))=True:=eq_true om;have s3:((o.left.length:Int)<=((p.args.length - o.right.length:Nat):Int))=True:=eq_true om;have cA:=Zjz (p.args.take o.left.length) o.left (by rw [Taw];omega) hol
  have cB:=Zjz (p.args.drop (p.args.length - o.right.length)) o.right (by rw [Tax];omega) hor;refine fB (aj14 @z0 @hws @w1 @w2 @hneg @Zba @h0 @hat @Zah @ha @hc @q2 @wE @tmz) ?_;refine fC (aj5 @tmz @s1 @Zal @ZbV @Zb8) (cA) ?_
  cases h3:Zcu (p.args.take o.left.length) o.left with
  | false =>
   rw [if_neg fun h=>by cases h.1];refine fR @tmz ?_;exact fD (ai @tmz @hz)
  | true =>
   refine fC (aj7 @tmz @s2 @sll @stk @Zal @ZbV @Zb8) (cB) ?_
   cases h4:Zcu (p.args.drop (p.args.length - o.right.length)) o.right with
   | false =>
    rw [if_neg fun h=>by cases h.2];refine fR @tmz ?_;exact fD (ai @tmz @hz)
   | true =>
    rw [if_pos ⟨rfl,rfl⟩];have em:=mk_u p.op ((p.args.take (p.args.length - o.right.length)).drop o.left.length);refine fR @tmz ?_;exact fD (aj8 @tmz @s1 @s2 @s3 @Zal @ZbV @Zb8 @em)
theorem ZwJ {g:Sgn} {p:Tm} {o:Occ} {r:List Tm} (h:Zce g p o=some r):r.Sublist p.args:=by
 unfold Zce at h;split at h
 ·cases h
 ·split at h
  ·cases h
  ·split at h
   ·cases h
   ·split at h
    ·split at h
     ·injection h with h;subst h;exact wo_sub _ _
     ·cases h
    ·split at h
     ·injection h with h;subst h;exact (List.drop_sublist _ _).trans (List.take_sublist _ _)
     ·cases h
where wo_sub:∀ (l os:List Tm),((wo l os).1).Sublist l
 | l,[]=>by rw [Zkv];exact List.Sublist.refl _
 | [],o::os=>by simp [wo]
 | a::l,o::os=>by
  simp only [wo];split
  ·exact (wo_sub l os).cons _
  ·exact (wo_sub l (o::os)).cons_cons _
theorem ZAT {a b:List Tm} (h:a.Sublist b):a.length+bulkRows (Zaa a)<=b.length+bulkRows (Zaa b):=by
 induction h with
 | slnil=>exact Tai _
 | cons x h ih=>simp only [Zaa,bulkRows,Tag];omega
 | cons_cons x h ih=>simp only [Zaa,bulkRows,Tag];omega
theorem Zpx (op so:Int) (nm:ByteArray) (args:List Tm):bulkRow (Zab (.mk op nm so args))=nm.size+(args.length+bulkRows (Zaa args)):=by
 simp only [Zab,bulkRow,ZaS,Zae];omega
theorem ZgB {ts:List Tm}:Zay ts ↔ ∀ t∈ts,okTm t:=by
 induction ts with
 | nil=>simp [Zay]
 | cons t ts ih=>simp [Zay,ih]
theorem Zr8:bulkRow (Zab zTm)=0:=by rw [zTm,Zpx];rfl
theorem ZnB:okTm zTm:=by simp only [zTm,okTm,Zay,and_true];exact ⟨⟨by decide,by decide⟩,by simp [maxLen],⟨by decide,by decide⟩⟩
theorem ZnC:∀ (ps:List Int) (t:Tm),okTm t->okTm (ZaP t ps).1
 | [],t,h=>h
 | p::ps,t,h=>by
  rw [ZaP];by_cases hp:p < 0
  ·rw [if_pos hp];exact ZnB
  ·rw [if_neg hp]
   cases ha:t.args[p.toNat]? with
   | none=>exact ZnB
   | some a =>
    refine ZnC ps a ?_;obtain ⟨op,nm,so,args⟩:=t;simp only [okTm] at h;exact h.2.2.2.mem (Tac ha)
theorem ZnD {g:Sgn} {t:Tm} {o:Occ} (ht:okTm t) {B:Nat} (hb:bulkRow (Zab t)<=B):okTm (tkIn g t o).1∧bulkRow (Zab (tkIn g t o).1)<=B∧((tkIn g t o).2=false->(tkIn g t o).1=zTm):=by
 have h1:=ZnC o.path t ht;have h2:=ZfJ o.path t;unfold tkIn;generalize ZaP t o.path=px at h1 h2 ⊢;obtain ⟨p,ok⟩:=px;simp only at h1 h2 ⊢;have hz:okTm zTm∧bulkRow (Zab zTm)<=B:=⟨ZnB,by rw [Zr8];exact Taj _⟩;split
 ·exact ⟨hz.1,hz.2,fun _=>rfl⟩
 ·split
  ·exact ⟨h1,Tbe h2 hb,fun h=>by cases h⟩
  ·split
   ·exact ⟨hz.1,hz.2,fun _=>rfl⟩
   ·rename_i r hr;have hs:=ZwJ hr;obtain ⟨op,nm,so,args⟩:=p;have hbs:=ZAT hs;simp only [Tm.args,Tm.op] at hs hbs ⊢;rw [Zpx] at h2 ⊢;simp only [okTm] at h1 ⊢;refine ⟨⟨h1.1,by simp [maxLen],⟨by decide,by decide⟩,ZgB.2 fun a ha=>ZgB.1 h1.2.2.2 a (hs.subset ha)⟩,?_,fun h=>by cases h⟩;have:ByteArray.empty.size=0:=rfl;omega
theorem Zoq {g:Sgn} {t:Tm} {o:Occ} (h1:SgnOk g) (h2:TermOk g t):tkT g t o=tkIn g t o:=if_pos ⟨h1,h2⟩
theorem ZAU {g:Sgn} {t:Tm} {o:Occ} (h:¬ (SgnOk g∧TermOk g t)):tkT g t o=(zTm,false):=if_neg h
theorem Zpy {g:Sgn} {t:Tm} {o:Occ} (ht:okTm t) {B:Nat} (hb:bulkRow (Zab t)<=B):okTm (tkT g t o).1∧bulkRow (Zab (tkT g t o).1)<=B:=by
 by_cases h:SgnOk g∧TermOk g t
 ·rw [Zoq h.1 h.2];have:=ZnD (g:=g) (o:=o) ht hb;exact ⟨this.1,this.2.1⟩
 ·rw [ZAU h];exact ⟨ZnB,by rw [Zr8];exact Taj _⟩
end Go.Proofs.YtcgacanpeaiabaaGreatDoor
namespace Go.Proofs.YtcgacanpeaiabaaGreatDoor
open Go.RowKit
noncomputable def rbT (g:Sgn):Tm->List Int->Tm->Option Tm
 | _,[],u=>some u
 | t,p::ps,u=>match t.args[p.toNat]? with
  | none=>none
  | some a=>(rbT g a ps u).bind fun x=>mkT g t.op (t.args.set p.toNat x)
open Classical in
noncomputable def rpT (g:Sgn) (t:Tm) (o:Occ) (u:Tm):Option Tm:=if SgnOk g∧TermOk g t∧TermOk g u∧(tkIn g t o).2=true then (if o.left.length+o.right.length=0 then rbT g t o.path u else (mkT g (ZaP t o.path).1.op (o.left++[u]++o.right)).bind fun c=>rbT g t o.path c) else none
theorem Zkx {g:Sgn} (hg:SgnOk g):∀ (ps:List Int) {t u x:Tm},TermOk g t->TermOk g u->rbT g t ps u=some x->TermOk g x
 | [],t,u,x,ht,hu,h=>by simp only [rbT,Taq] at h;subst h;exact hu
 | p::ps,t,u,x,ht,hu,h=>by
  simp only [rbT] at h
  cases ha:t.args[p.toNat]? with
  | none=>rw [ha] at h;cases h
  | some a =>
   rw [ha] at h;simp only at h;have hm:=Tac ha
   cases hr:rbT g a ps u with
   | none=>rw [hr] at h;cases h
   | some y =>
    rw [hr] at h;simp only [Option.bind_some] at h;obtain ⟨o,d,hA⟩:=ht.app hm;exact Zkc hg hA.lo (Zoh (fun b hb=>ht.arg hb) (Zkx hg ps (ht.arg hm) hu hr)) h
theorem Zjg {g:Sgn}:∀ (ps:List Int) (t:Tm),TermOk g t->(ZaP t ps).2=true->TermOk g (ZaP t ps).1
 | [],t,h,_=>h
 | p::ps,t,h,hs=>by
  have e:=Ze1 (t:=t) (ps:=p::ps) (i:=0) (p:=p) rfl;simp only [List.drop_zero,Nat.zero_add,List.drop_succ_cons] at e;rw [e] at hs ⊢;by_cases hp:p < 0
  ·rw [if_pos hp] at hs;cases hs
  rw [if_neg hp] at hs ⊢
  cases ha:t.args[p.toNat]? with
  | none=>rw [ha] at hs;cases hs
  | some a =>
   rw [ha] at hs;exact Zjg ps a (h.arg (Tac ha)) hs
theorem ZwK {g:Sgn} {t:Tm} {o:Occ} (h:(tkIn g t o).2=true):(ZaP t o.path).2=true:=by
 unfold tkIn at h
 cases hs:(ZaP t o.path).2 with
 | true=>rfl
 | false=>rw [if_pos hs] at h;cases h
theorem Zky {g:Sgn} {t:Tm} {o:Occ} (ht:TermOk g t) (h:(tkIn g t o).2=true) (hn:¬ (o.left.length+o.right.length=0)):∃ x d,AppOk g (ZaP t o.path).1 x d∧x.assoc=true∧o.left.length+o.right.length+2<=(ZaP t o.path).1.args.length∧(∀ b∈o.left,TermOk g b)∧∀ b∈o.right,TermOk g b:=by
 have hs:=ZwK h;have hT:=Zjg o.path t ht hs;unfold tkIn at h;rw [if_neg (by rw [hs];simp),if_neg hn] at h
 cases hr:Zce g (ZaP t o.path).1 o with
 | none=>rw [hr] at h;cases h
 | some r =>
 clear h;generalize (ZaP t o.path).1=p at hT hr ⊢;rcases hT.form.node with hv | ⟨x,d,hA⟩
 ·have hop1:p.op=-1:=hv.1;have e:Zce g p o=none:=by unfold Zce;rw [if_pos om]
  rw [e] at hr;cases hr
 have h0:0<=p.op:=hA.lo;have hat:g.ops[p.op.toNat]?=some x:=hA.at';have hneg:¬ (p.op < 0):=om
 have e0':Zce g p o=if x.assoc=false∨p.args.length < o.left.length+o.right.length+2 then none
  else if x.comm=true then (if o.right.length=0∧(wo p.args o.left).2=true then some (wo p.args o.left).1 else none)
  else if Zcu (p.args.take o.left.length) o.left=true∧Zcu (p.args.drop (p.args.length - o.right.length)) o.right=true then some ((p.args.take (p.args.length - o.right.length)).drop o.left.length) else none:=by
  simp only [Zce,if_neg hneg,hat]
 rw [e0'] at hr;clear e0';have hn2:¬ (x.assoc=false∨p.args.length < o.left.length+o.right.length+2):=fun hh=>by rw [if_pos hh] at hr;cases hr
 rw [if_neg hn2] at hr;refine ⟨x,d,hA,by cases e:x.assoc with | true=>rfl | false=>exact absurd (.inl e) hn2,by have:=fun q=>hn2 (.inr q);omega,?_⟩;by_cases hc:x.comm=true
 ·rw [if_pos hc] at hr;have hw:o.right.length=0∧(wo p.args o.left).2=true:=Classical.byContradiction fun hh=>by rw [if_neg hh] at hr;cases hr
  refine ⟨fun b hb=>hT.arg (Zkw.wo_mem hw.2 b hb),fun b hb=>?_⟩;have:=Tao hw.1;rw [this] at hb;cases hb
 ·rw [if_neg hc] at hr;have hw:Zcu (p.args.take o.left.length) o.left=true∧Zcu (p.args.drop (p.args.length - o.right.length)) o.right=true:=Classical.byContradiction fun hh=>by rw [if_neg hh] at hr;cases hr
  simp only [Zcu,decide_eq_true_eq] at hw;refine ⟨fun b hb=>hT.arg ?_,fun b hb=>hT.arg ?_⟩
  ·rw [<- hw.1] at hb;exact List.mem_of_mem_take hb
  ·rw [<- hw.2] at hb;exact List.mem_of_mem_drop hb
theorem ZAV {g:Sgn} {t u x:Tm} {o:Occ} (h:rpT g t o u=some x):TermOk g x:=by
 unfold rpT at h;split at h;rotate_left
 ·cases h
 rename_i hh;obtain ⟨hg,ht,hu,hk⟩:=hh;split at h
 ·exact Zkx hg o.path ht hu h
 ·rename_i hn;obtain ⟨x',d,hA,hac,hle,hL,hR⟩:=Zky ht hk hn
  cases hm:mkT g (ZaP t o.path).1.op (o.left++[u]++o.right) with
  | none=>rw [hm] at h;cases h
  | some c =>
   rw [hm] at h;refine Zkx hg o.path ht (Zkc hg hA.lo (fun a ha=>?_) hm) h;simp only [Tbh,Tbj] at ha;rcases ha with (ha | rfl) | ha
   ·exact hL a ha
   ·exact hu
   ·exact hR a ha
theorem Zr9 {t:Tm} {p:Int} {ps:List Int} (h:(ZaP t (p::ps)).2=true):0<=p∧∃ a,t.args[p.toNat]?=some a∧(ZaP a ps).2=true:=by
 have e:=Ze1 (t:=t) (ps:=p::ps) (i:=0) (p:=p) rfl;simp only [List.drop_zero,Nat.zero_add,List.drop_succ_cons] at e;rw [e] at h;by_cases hp:p < 0
 ·rw [if_pos hp] at h;cases h
 rw [if_neg hp] at h
 cases ha:t.args[p.toNat]? with
 | none=>rw [ha] at h;cases h
 | some a =>
  rw [ha] at h;exact ⟨om,a,rfl,h⟩
theorem Zor (ts:List Tm) (i:Nat) (hi:i < ts.length) (hl:ts.length<=1048576):Con e0 273 [.one (.sl (Zaa ts)),.one (.lit (.int .i64 i))] [.one (.sl (Zaa (ts.take i++ts.drop (i+1))))]:=by
 rw [ZbT,<- ZbV,<- Zb8];have hxl:((i:Int)<=(ts.length:Int))=True:=eq_true om;have hxl2:(((i+1:Nat):Int)<=(ts.length:Int))=True:=eq_true om;have hw:=Zan (k:=i) om;have r1:Zav 4 ((Zaa ts).take i)=true:=by rw [ZbV];exact Zc7 _
 have r2:Zav 4 ((Zaa ts).drop (i+1))=true:=by rw [Zb8];exact Zc7 _
 have n1:((Zaa ts).take i).length<=1048576:=by rw [Taw,Zae];omega
 have n2:((Zaa ts).drop (i+1)).length<=1048576:=by rw [Tax,Zae];omega
 have n3:((Zaa ts).take i).length+((Zaa ts).drop (i+1)).length<=maxApp:=by unfold maxApp;omega
 have tkA:(Zaa ts).take ts.length=Zaa ts:=by rw [<- Zae ts,Tap]
 have hll:((ts.length:Int)<=(ts.length:Int))=True:=eq_true (Int.le_refl _);refine gI (ts:=[.slot 4]) 19 Tryz.func273 ?_;refine fN 1 @tmz ?_;have F:=aj10 r1 r2 hxl hxl2 hw n3 tkA hll @Zal tmz;refine gA 9 4 ?_ (.inl rfl) ?_
 ·show 0+_<=maxApp;unfold maxApp;omega
 clear F;refine fR (aj10 @r1 @r2 @hxl @hxl2 @hw @n3 @tkA @hll @Zal @tmz) ?_;have F:=aj4 @r1 @r2 @n3 @tmz;refine gG ?_;exact gTz [4]
theorem ZwL {l:List Tm}:(some l).getD []=l:=rfl
theorem ZlB (l ss:List Tm) (hl:Zay l) (hs:Zay ss) (hll:l.length<=1048576) (hsl:ss.length<=1048576):Con e0 232 [.one (.sl (Zaa l)),.one (.sl (Zaa ss))] [.one (.sl (Zaa ((ZbN l ss).getD []))),.one (.lit (.bool (ZbN l ss).isSome))]:=by
 refine gI (ts:=[.slot 4,.slot 5]) 34896611571 Tryz.func232 ?_;refine fG @tmz ?_;have F:=@tmz;refine gL (ι:=Nat × List Tm) [0,4,5,6,7,11,29,35] [] (fun x=>[(6,A.d (.one (.lit (.int .i64 x.1)))),(0,.d (.one (.sl (Zaa x.2))))]) (fun x=>[]) (fun x=>x.1<=ss.length∧ZbN l ss=ZbN x.2 (ss.drop x.1)∧Zay x.2∧x.2.length<=1048576) (fun x=>ss.length - x.1) ((0,l)) (⟨Taj _,rfl,hl,hll⟩) (fun x hx=>?_);clear F;obtain ⟨i,cur⟩:=x
 obtain ⟨hi,hf,hco,hcl⟩:=hx;simp only at hi hf hco hcl;rw [hf];by_cases hlt:i < ss.length;rotate_left
 ·obtain rfl:i=ss.length:=by omega
  have q1:=lF ss.length ss.length;rw [List.drop_length];have e:ZbN cur []=some cur:=by cases cur <;> rfl
  rw [e,ZwL,show (some cur:Option (List Tm)).isSome=true from rfl];exact fD (ai @q1 @tmz)
 obtain ⟨s,hss⟩:∃ s,ss[i]?=some s:=⟨_,Taa hlt⟩;have q1:=lT i ss.length;have hwi:=Zan (k:=i) om;have hso:=hs.mem (Tac hss);have hstep:ZbN cur (ss.drop i)=(rmT s cur).bind fun l'=>ZbN l' (ss.drop (i+1)):=by rw [Zd6 hss];rfl
 refine fG (ai @q1 @tmz) ?_;have F:=@e0P;refine gL (ι:=Nat) [7,29] [] (fun k=>[(7,A.d (.one (.lit (.int .i64 k))))]) (fun k=>[]) (fun k=>k<=cur.length∧∀ (j:Nat) a,j < k->cur[j]?=some a->Zag a s≠0) (fun k=>cur.length - k) (0) (⟨Taj _,fun j a h=>absurd h om⟩) (fun k hk=>?_);clear F;obtain ⟨hk,hbef⟩:=hk;by_cases hkl:k < cur.length;rotate_left
 ·obtain rfl:k=cur.length:=by omega
  have q2:=lF cur.length cur.length;have q3:((cur.length:Int)=(cur.length:Int))=True:=eq_true rfl;have hn:rmT s cur=none:=Zme fun a ha=>by
   obtain ⟨j,hj⟩:=Tbk ha;exact hbef j a (Tad.1 hj).1 hj
  rw [hstep,hn,show ((none:Option (List Tm)).bind fun l'=>ZbN l' (ss.drop (i+1)))=none from rfl,show (none:Option (List Tm)).getD []=[] from rfl,show (none:Option (List Tm)).isSome=false from rfl,Zdm];have F:=aj3 @q2 @q3 @tmz;refine gG ?_;exact gTz [4]
 obtain ⟨a,ha⟩:∃ a,cur[k]?=some a:=⟨_,Taa hkl⟩;have q2:=lT k cur.length;have q4:((k:Int)=(cur.length:Int))=False:=eq_false om;have hwk:=Zan (k:=k) om;refine fB (ai @q2 @tmz) ?_;refine fC (aj5 @q2 @ha @hss @Zal @tmz) (ZcC (hco.mem (Tac ha)) hso) ?_;by_cases hc:Zag a s=0
 ·have z:=decide_eq_true hc;have hrm:=ZAR ha hc hbef;have hlen:=Zop hrm;have hcw:=Zor cur k hkl hcl;have hok2:Zay (cur.take k++cur.drop (k+1)):=ZgB.2 fun x hx=>by
   rcases Tbh.1 hx with h | h
   ·exact hco.mem (List.mem_of_mem_take h)
   ·exact hco.mem (List.mem_of_mem_drop h)
  rw [hstep,hrm,show ((some (cur.take k++cur.drop (k+1)):Option (List Tm)).bind fun l'=>ZbN l' (ss.drop (i+1)))=ZbN (cur.take k++cur.drop (k+1)) (ss.drop (i+1)) from rfl] at hf ⊢;refine fR @z ?_;refine fB (aj3 @z @q4 @tmz) ?_;refine fC @tmz (hcw) ?_;refine fR @tmz ?_;have F:=@hwi;refine gG ?_;exact ⟨(i+1,cur.take k++cur.drop (k+1)),⟨hlt,rfl,hok2,by simp only at hlen ⊢;omega⟩,gw,gw,om⟩
 ·have z:=decide_eq_false hc;have hb2:∀ (j:Nat) b,j < k+1->cur[j]?=some b->Zag b s≠0:=fun j b hj hjb=>by
   by_cases e:j=k
   ·subst e;rw [ha] at hjb;injection hjb with hjb
    subst hjb;exact hc
   ·exact hbef j b om hjb
  refine fR @z ?_;have F:=ai @z @hwk;refine gG ?_;exact ⟨k+1,⟨hkl,hb2⟩,gw,gw,om⟩
theorem Zpz {a b:List Tm}:Zag (.mk 0 ByteArray.empty 0 a) (.mk 0 ByteArray.empty 0 b)=0 ↔ a=b:=by
 constructor
 ·intro h;have:=ZcU h;injection this
 ·rintro rfl;exact ZdL _
theorem ZD7 {l:List Tm} (h:Zay l):okTm (.mk 0 ByteArray.empty 0 l):=by
 simp only [okTm];exact ⟨⟨by decide,by decide⟩,by simp [maxLen],⟨by decide,by decide⟩,h⟩
theorem ZhC (a b:List Tm) (ha:Zay a) (hb:Zay b):Con e0 288 [.one (.sl (Zaa a)),.one (.sl (Zaa b))] [.one (.lit (.int .i64 (Zag (.mk 0 ByteArray.empty 0 a) (.mk 0 ByteArray.empty 0 b))))]:=by
 have hc:=Zep (ZD7 ha) (ZD7 hb);simp only [mk_u] at hc;refine gI 19 Tryz.func288 ?_;refine fB @tmz ?_;refine fC @tmz (hc) ?_;refine fR @tmz ?_;exact fT @tmz
theorem ZvJ:∀ {l:List Tm},(∀ (j:Nat) p a,l[j]?=some p->l[j+1]?=some a->Zag p a<=0)->AscE l
 | [],_=>List.Pairwise.nil
 | [a],_=>List.pairwise_singleton _ _
 | a::b::l,h=>by
  have ih:=ZvJ (l:=b::l) fun j p x hp hx=>h (j+1) p x (by simpa using hp) (by simpa using hx);have hab:=h 0 a b (by simp) (by simp);refine List.Pairwise.cons (fun x hx=>?_) ih;rcases Tbg.1 hx with rfl | hx
  ·exact hab
  ·exact Zci hab ((List.pairwise_cons.1 ih).1 x hx)
theorem Zsa {g:Sgn} {p:Tm} (hF:ZaF g p) {x:Opr} {d:Dcl} (hA:AppOk g p x d) (hc:x.comm=true):AscE p.args:=by
 have h3:=(Zbm.1 hF).2.2;have h0:=hA.lo;have hR:=h3.resolve_left om;exact ZvJ fun j q a hq ha=>(hR x d hA.at' hA.fst (j+1) a ha).ord hc j q rfl hq
theorem ZCt {args left:List Tm} {r:Nat} (hA:AscE args) (hn:left.length+r+2<=args.length):((ZbN args left).isSome=true∧r=0∧1 < ((ZbN args left).getD []).length∧left=Zax left) ↔ (r=0∧(wo args left).2=true):=by
 constructor
 ·rintro ⟨h1,h2,h3,h4⟩;have hL:AscE left:=by rw [h4];exact Zcx left
  exact ⟨h2,(ZiB hA hL).1.2 h1⟩
 ·rintro ⟨h1,h2⟩;have hL:=Zkw hA h2;have e:=(ZiB hA hL).2 h2;have hl:=ZhY e;rw [e];refine ⟨rfl,h1,?_,(Zes hL).symm⟩;simp only [Option.getD_some];omega
theorem ZCu {args left:List Tm} (hA:AscE args) (h2:(wo args left).2=true):ZbN args left=some (wo args left).1:=(ZiB hA (Zkw hA h2)).2 h2
theorem ZwM {l:List Tm} (h:Zay l) (k:Nat):Zay (l.drop k):=ZgB.2 fun a ha=>ZgB.1 h a (List.mem_of_mem_drop ha)
open Classical in
theorem Zmg {a b:List Tm}:decide (Zag (.mk 0 ByteArray.empty 0 a) (.mk 0 ByteArray.empty 0 b)=0)=decide (a=b):=by
 by_cases h:a=b
 ·rw [decide_eq_true h,decide_eq_true (Zpz.2 h)]
 ·rw [decide_eq_false h,decide_eq_false fun e=>h (Zpz.1 e)]
open Classical in
theorem ZlC {g:Sgn} (hg:SgnOk g) {t:Tm} (hT:TermOk g t) (ht:okTm t) (hb:bulkRow (Zab t)<=1048576) {o:Occ} (hop:o.path.length<=1048576) (hol:o.left.length<=1048576) (hor:o.right.length<=1048576) (hL:Zay o.left) (hR:Zay o.right) (hLb:tmsB o.left):Con e0 230 [.agg (Zas g),.agg (Zab t),.agg (Zcb o)] [.one (.lit (.bool (tkIn g t o).2))]:=by
 have c2:=Zku t o.path hop hb;rw [ZcQ,Zas];refine gI (ts:=[.slot 6]) 145241088653791231 Tryz.func230 ?_;refine fB @tmz ?_;refine fC @tmz (c2) ?_;have hform:=Zjf (g:=g) o.path t hT.form;have hbs:=ZfJ o.path t;have hoks:=ZnC o.path t ht;have hdef:(tkIn g t o).2=if (ZaP t o.path).2=false then false else if o.left.length+o.right.length=0 then true else (Zce g (ZaP t o.path).1 o).isSome:=by
  unfold tkIn;split
  ·rfl
  ·split
   ·rfl
   ·cases Zce g (ZaP t o.path).1 o <;> rfl
 rw [hdef];clear hdef c2;generalize hsub:ZaP t o.path=px at hform hbs hoks ⊢;obtain ⟨p,ok⟩:=px;simp only at hform hbs hoks ⊢;have hws:IntKind.i64.wrap ((o.left.length:Int)+(o.right.length:Int))=(o.left.length:Int)+(o.right.length:Int):=IntWalk.i64_in _ om
 cases ok with
 | false =>
  rw [if_pos rfl];refine fR @tmz ?_;exact fD (ai @tmz @hws)
 | true =>
 rw [if_neg (by simp)];refine fR @tmz ?_;by_cases hn0:o.left.length+o.right.length=0
 ·have z0:((o.left.length:Int)+(o.right.length:Int)=0)=True:=eq_true om;rw [if_pos hn0];exact fD (aj3 @z0 @hws @tmz)
 have z0:((o.left.length:Int)+(o.right.length:Int)=0)=False:=eq_false om;rw [if_neg hn0];have hpf:=hform rfl;have hpb:bulkRow (Zab p)<=1048576:=om;have hal:=Zmf hpb;have w1:IntKind.i64.wrap ((p.args.length:Int) - 2)=(p.args.length:Int) - 2:=IntWalk.i64_in _ om;rcases hpf.node with hv | ⟨x,d,hA⟩
 ·have hop1:p.op=-1:=hv.1;have q1:(p.op=-1)=True:=eq_true hop1;have e:Zce g p o=none:=by unfold Zce;rw [if_pos om]
  rw [e];exact fD (aj5 @z0 @hws @w1 @q1 @tmz)
 have h0:0<=p.op:=hA.lo;have hat:g.ops[p.op.toNat]?=some x:=hA.at';have hneg:¬ (p.op < 0):=om;have q1:(p.op=-1)=False:=eq_false om
 have e0':Zce g p o=if x.assoc=false∨p.args.length < o.left.length+o.right.length+2 then none
  else if x.comm=true then (if o.right.length=0∧(wo p.args o.left).2=true then some (wo p.args o.left).1 else none)
  else if Zcu (p.args.take o.left.length) o.left=true∧Zcu (p.args.drop (p.args.length - o.right.length)) o.right=true then some ((p.args.take (p.args.length - o.right.length)).drop o.left.length) else none:=by
  simp only [Zce,if_neg hneg,hat]
 rw [e0'];clear e0'
 cases ha:x.assoc with
 | false =>
  rw [if_pos (.inl rfl)];exact fD (aj9 @z0 @hws @w1 @q1 @h0 @hat @Zah @ha @tmz)
 | true =>
 by_cases hn2:p.args.length < o.left.length+o.right.length+2
 ·have q2:((p.args.length:Int) - 2 < (o.left.length:Int)+(o.right.length:Int))=True:=eq_true om;rw [if_pos (.inr hn2)];exact fD (aj10 @z0 @hws @w1 @q1 @h0 @hat @Zah @ha @q2 @tmz)
 have q2:((p.args.length:Int) - 2 < (o.left.length:Int)+(o.right.length:Int))=False:=eq_false om;rw [if_neg (fun h=>h.elim (fun h=>by cases h) hn2)];have hoka:Zay p.args:=(ZeI.1 hoks).2.2.2
 cases hc:x.comm with
 | true =>
  rw [if_pos rfl];have hAs:=Zsa hpf hA hc;have cW:=ZlB p.args o.left hoka hL hal hol;have hfit:=ZCt (left:=o.left) (r:=o.right.length) hAs om;have hres:(if o.right.length=0∧(wo p.args o.left).2=true then some (wo p.args o.left).1 else none:Option (List Tm)).isSome=decide ((ZbN p.args o.left).isSome=true∧o.right.length=0∧1 < ((ZbN p.args o.left).getD []).length∧o.left=Zax o.left):=by
   by_cases h:o.right.length=0∧(wo p.args o.left).2=true
   ·rw [if_pos h,decide_eq_true (hfit.2 h)];rfl
   ·rw [if_neg h,decide_eq_false fun q=>h (hfit.1 q)];rfl
  rw [hres];clear hres hfit;have hsl:(ZbN p.args o.left).getD []=[]∨((ZbN p.args o.left).getD []).length<=1048576:=by
   cases e:ZbN p.args o.left with
   | none=>exact .inl rfl
   | some r=>have:=ZhY e;exact .inr (by simp only [Option.getD_some];omega)
  refine fB (aj11 @z0 @hws @w1 @q1 @h0 @hat @Zah @ha @hc @q2 @tmz) ?_;refine fC @tmz (cW) ?_;generalize ZbN p.args o.left=tk at hsl ⊢
  cases tk with
  | none =>
   rw [decide_eq_false (by simp)];refine fR @tmz ?_;exact fD @tmz
  | some r =>
  simp only [Option.getD_some,Option.isSome_some,true_and] at hsl ⊢;refine fR @tmz ?_;by_cases hr0:o.right.length=0;rotate_left
  ·have q3:((o.right.length:Int)=0)=False:=eq_false om;rw [decide_eq_false fun h=>hr0 h.1];exact fD (ai @q3 @tmz)
  have q3:((o.right.length:Int)=0)=True:=eq_true om;by_cases hr1:1 < r.length;rotate_left
  ·have q4:=lF 1 r.length;rw [decide_eq_false fun h=>hr1 h.2.1];exact fD (aj3 @q3 @q4 @tmz)
  have q4:=lT 1 r.length;have cS:=Zkm o.left hL hLb;have cC:=ZhC o.left (Zax o.left) hL (Znm hL);have e:decide (o.right.length=0∧1 < r.length∧o.left=Zax o.left)=decide (Zag (.mk 0 ByteArray.empty 0 o.left) (.mk 0 ByteArray.empty 0 (Zax o.left))=0):=by
   rw [Zmg];simp only [hr0,hr1,true_and]
  rw [e];refine fB (aj3 @q3 @q4 @tmz) ?_;refine fC (aj3 @q3 @q4 @tmz) (cS) ?_;refine fC (aj3 @q3 @q4 @tmz) (cC) ?_;refine fR (aj3 @q3 @q4 @tmz) ?_;exact fD (aj3 @q3 @q4 @tmz)
 | false =>
  rw [if_neg (by simp)];have wE:IntKind.i64.wrap ((p.args.length:Int) - (o.right.length:Int))=((p.args.length - o.right.length:Nat):Int):=by
   rw [IntWalk.i64_in _ om];omega
  have s1:((o.left.length:Int)<=(p.args.length:Int))=True:=eq_true om;have s2:(((p.args.length - o.right.length:Nat):Int)<=(p.args.length:Int))=True:=eq_true om;have sll:((p.args.length:Int)<=(p.args.length:Int))=True:=eq_true (Int.le_refl _);have stk:p.args.take p.args.length=p.args:=Tap;have cA:=ZhC o.left (p.args.take o.left.length) hL (Zlv hoka _);have cB:=ZhC o.right (p.args.drop (p.args.length - o.right.length)) hR (ZwM hoka _)
  have e:(if Zcu (p.args.take o.left.length) o.left=true∧Zcu (p.args.drop (p.args.length - o.right.length)) o.right=true then some ((p.args.take (p.args.length - o.right.length)).drop o.left.length) else none:Option (List Tm)).isSome=(decide (Zag (.mk 0 ByteArray.empty 0 o.left) (.mk 0 ByteArray.empty 0 (p.args.take o.left.length))=0) && decide (Zag (.mk 0 ByteArray.empty 0 o.right) (.mk 0 ByteArray.empty 0 (p.args.drop (p.args.length - o.right.length)))=0)):=by
   rw [Zmg,Zmg];simp only [Zcu,decide_eq_true_eq];by_cases hx:p.args.take o.left.length=o.left
   ·by_cases hy:p.args.drop (p.args.length - o.right.length)=o.right
    ·rw [if_pos ⟨hx,hy⟩,decide_eq_true hx.symm,decide_eq_true hy.symm];rfl
    ·rw [if_neg fun h=>hy h.2,decide_eq_true hx.symm,decide_eq_false fun h=>hy h.symm];rfl
   ·rw [if_neg fun h=>hx h.1,decide_eq_false fun h=>hx h.symm];rfl
  rw [e];clear e;refine fB (aj12 @z0 @hws @w1 @q1 @h0 @hat @Zah @ha @hc @q2 @wE @tmz) ?_;refine fC (aj5 @tmz @s1 @Zal @ZbV @Zb8) (cA) ?_;by_cases h3:Zag (.mk 0 ByteArray.empty 0 o.left) (.mk 0 ByteArray.empty 0 (p.args.take o.left.length))=0;rotate_left
  ·have z3:=eq_false h3;rw [decide_eq_false h3,Bool.false_and];refine fR (ai @z3 @tmz) ?_;exact fD (ai @z3 @tmz)
  have z3:=eq_true h3;rw [decide_eq_true h3,Bool.true_and];refine fC (aj9 @z3 @wE @tmz @s2 @sll @stk @Zal @ZbV @Zb8) (cB) ?_;refine fR @tmz ?_;exact fD @tmz
theorem Zkz (op:Int) (l:List Tm) (h2:2<=l.length) (hl:l.length<=1048576):Con e0 233 [.one (.lit (.int .i64 op)),.one (.sl (Zaa l))] [.agg (Zab (.mk op ByteArray.empty 0 l))]:=by
 have q1:((l.length:Int)=1)=False:=eq_false om;have l1:(l.length<=maxApp)=True:=eq_true (by unfold maxApp;omega);have em:=mk_u op l;refine gI (ts:=[.cell 4 46]) 147 Tryz.func233 ?_;refine fN 3 (ai @q1 @tmz) ?_;refine gB ?_;have F:=ai @l1 @tmz;refine gP 4 ?_;clear F;refine gS 14 fun a cap=>?_;refine gD 14 [14] [] ?_;refine fR (ai @em @tmz) ?_;exact fD (ai @em @tmz)
theorem Zp0 {g:Sgn} (hok:Zcg g) {t:Tm} (ht:okTm t) (hb:bulkRow (Zab t)<=1048576) {o:Occ} (hop:o.path.length<=1048576) (hol:o.left.length<=1048576) (hor:o.right.length<=1048576) (hL:Zay o.left) (hR:Zay o.right) (hLb:tmsB o.left):Con e0 159 [.agg (Zas g),.agg (Zab t),.agg (Zcb o)] [.agg (Zab (tkT g t o).1),.one (.lit (.bool (tkT g t o).2))]:=by
 have cT:=ZcG hok ht (ZbM hb);have hz:=Zc9;by_cases h:SgnOk g∧TermOk g t;rotate_left
 ·have h1:(Zbl g && ZaQ g t)=false:=by
   rcases Classical.not_and_iff_not_or_not.1 h with h | h
   ·rw [Zeq h,Bool.false_and]
   ·rw [Zc0 h,Bool.and_false]
  rw [ZAU h];rw [ZcQ,Zas];rw [Zas] at cT;refine gI (ts:=[.cell 6 46,.slot 7]) 576460889744475647 Tryz.func159 ?_;refine fB @tmz ?_;refine fC @tmz (cT) ?_;refine fR (ai @h1 @tmz) ?_;exact fD (aj3 @h1 @tmz @hz)
 have h1:(Zbl g && ZaQ g t)=true:=by rw [ZcH h.1,ZcB h.2];rfl
 obtain ⟨hg,hT⟩:=h;rw [Zoq hg hT];have cF:=ZlC hg hT ht hb hop hol hor hL hR hLb;have c2:=Zku t o.path hop hb;have hfacts:=ZnD (g:=g) (o:=o) ht hb;have hform:=Zjf (g:=g) o.path t hT.form;have hbs:=ZfJ o.path t;have hoks:=ZnC o.path t ht;rw [ZcQ] at cF ⊢;rw [Zas] at cT cF ⊢;refine gI (ts:=[.cell 6 46,.slot 7]) 576460889744475647 Tryz.func159 ?_;refine fB @tmz ?_;refine fC @tmz (cT) ?_;refine fC (ai @h1 @tmz) (cF) ?_
 cases hf:(tkIn g t o).2 with
 | false =>
  have e:=hfacts.2.2 hf;rw [e];refine fR (ai @h1 @tmz) ?_;exact fD (aj3 @h1 @tmz @hz)
 | true =>
 refine fR (ai @h1 @tmz) ?_;refine fB (ai @h1 @tmz) ?_;refine fC @tmz (c2) ?_
 have hdef:tkIn g t o=if (ZaP t o.path).2=false then (zTm,false) else if o.left.length+o.right.length=0 then ((ZaP t o.path).1,true) else match Zce g (ZaP t o.path).1 o with
  | none=>(zTm,false)
  | some r=>(.mk (ZaP t o.path).1.op ByteArray.empty 0 r,true):=rfl
 rw [hdef] at hf hfacts ⊢;clear hdef c2 cF cT;generalize hsub:ZaP t o.path=px at hform hbs hoks hf hfacts ⊢;obtain ⟨p,ok⟩:=px;simp only at hform hbs hoks hf hfacts ⊢
 cases ok with
 | false=>rw [if_pos rfl] at hf;cases hf
 | true =>
 rw [if_neg (by simp)] at hf hfacts ⊢;have hws:IntKind.i64.wrap ((o.left.length:Int)+(o.right.length:Int))=(o.left.length:Int)+(o.right.length:Int):=IntWalk.i64_in _ om;have hpb:bulkRow (Zab p)<=1048576:=om;refine fR @tmz ?_;by_cases hn0:o.left.length+o.right.length=0
 ·have z0:((o.left.length:Int)+(o.right.length:Int)=0)=True:=eq_true om;rw [if_pos hn0];have cC:=ZeY p hpb;refine fB (aj3 @z0 @hws @tmz) ?_;refine fC @tmz (cC) ?_;refine fR @tmz ?_;exact fD @tmz
 have z0:((o.left.length:Int)+(o.right.length:Int)=0)=False:=eq_false om;rw [if_neg hn0] at hf hfacts ⊢;have hpf:=hform rfl;have hal:=Zmf hpb
 cases hr:Zce g p o with
 | none=>rw [hr] at hf;cases hf
 | some r =>
 rw [hr] at hfacts;simp only at hfacts ⊢;have hrb:=hfacts.2.1;clear hfacts hf;rcases hpf.node with hv | ⟨x,d,hA⟩
 ·have hop1:p.op=-1:=hv.1;have e:Zce g p o=none:=by unfold Zce;rw [if_pos om]
  rw [e] at hr;cases hr
 have h0:0<=p.op:=hA.lo;have hat:g.ops[p.op.toNat]?=some x:=hA.at';have hneg:¬ (p.op < 0):=om
 have e0':Zce g p o=if x.assoc=false∨p.args.length < o.left.length+o.right.length+2 then none
  else if x.comm=true then (if o.right.length=0∧(wo p.args o.left).2=true then some (wo p.args o.left).1 else none)
  else if Zcu (p.args.take o.left.length) o.left=true∧Zcu (p.args.drop (p.args.length - o.right.length)) o.right=true then some ((p.args.take (p.args.length - o.right.length)).drop o.left.length) else none:=by
  simp only [Zce,if_neg hneg,hat]
 rw [e0'] at hr;clear e0';have hn2:¬ (x.assoc=false∨p.args.length < o.left.length+o.right.length+2):=fun hh=>by rw [if_pos hh] at hr;cases hr
 rw [if_neg hn2] at hr;have hn3:¬ (p.args.length < o.left.length+o.right.length+2):=fun hh=>hn2 (.inr hh);have hoka:Zay p.args:=(ZeI.1 hoks).2.2.2;have wE:IntKind.i64.wrap ((p.args.length:Int) - (o.right.length:Int))=((p.args.length - o.right.length:Nat):Int):=by
  rw [IntWalk.i64_in _ om];omega
 have s2:(((p.args.length - o.right.length:Nat):Int)<=(p.args.length:Int))=True:=eq_true om;have s3:((o.left.length:Int)<=((p.args.length - o.right.length:Nat):Int))=True:=eq_true om;have cC:=ZeY (.mk p.op ByteArray.empty 0 r) hrb
 cases hc:x.comm with
 | true =>
  rw [if_pos hc] at hr;have hw:o.right.length=0∧(wo p.args o.left).2=true:=Classical.byContradiction fun hh=>by rw [if_neg hh] at hr;cases hr
  rw [if_pos hw] at hr;injection hr with hr
  have hAs:=Zsa hpf hA hc;have cW:=ZlB p.args o.left hoka hL hal hol;have etk:=ZCu hAs hw.2;have hln:=ZhY etk;rw [etk,hr] at cW;rw [hr] at hln;have cV:=Zkz p.op r om om;rw [Option.getD_some,Option.isSome_some] at cW;refine fB (aj13 @z0 @hws @wE @s2 @s3 @h0 @hat @Zah @hc @Zal @ZbV @Zb8 @tmz) ?_;refine fC @tmz (cW) ?_;refine fR @tmz ?_;refine fB @tmz ?_;refine fC @tmz (cV) ?_;refine fC @tmz (cC) ?_;refine fR @tmz ?_
  exact fD @tmz
 | false =>
  rw [if_neg (by rw [hc];simp)] at hr;have hw:Zcu (p.args.take o.left.length) o.left=true∧Zcu (p.args.drop (p.args.length - o.right.length)) o.right=true:=Classical.byContradiction fun hh=>by rw [if_neg hh] at hr;cases hr
  rw [if_pos hw] at hr;injection hr with hr
  have hln:r.length=p.args.length - o.right.length - o.left.length:=by rw [<- hr,Tax,Taw];omega
  have cV:=Zkz p.op r om om;rw [<- hr] at cV cC ⊢;refine fB (aj13 @z0 @hws @wE @s2 @s3 @h0 @hat @Zah @hc @Zal @ZbV @Zb8 @tmz) ?_;refine fC @tmz (cV) ?_;refine fC @tmz (cC) ?_;refine fR @tmz ?_;exact fD @tmz
noncomputable def mk6T (g:Sgn) (op:Int) (xs:List Tm):Tm:=match g.ops[op.toNat]? with
 | none=>zTm
 | some o=>match o.decls[0]? with
  | none=>zTm
  | some d=>mk6 g o d op xs
noncomputable def rb6 (g:Sgn):Tm->List Int->Tm->Tm
 | t,[],u=>u
 | t,p::ps,u=>match t.args[p.toNat]? with
  | none=>zTm
  | some a=>match rbT g a ps u with
   | none=>zTm
   | some x=>mk6T g t.op (t.args.set p.toNat x)
section
variable {g:Sgn}
theorem Ztr {op:Int} {o:Occ} {u:Tm} (hn:o.left.length+o.right.length=0):Con e0 290 [.agg (Zas g),.one (.lit (.int .i64 op)),.agg (Zcb o),.agg (Zab u)] [.agg (Zab u),.one (.lit (.bool true))]:=by
 have z0:((o.left.length:Int)+(o.right.length:Int)=0)=True:=eq_true om;have hws:IntKind.i64.wrap ((o.left.length:Int)+(o.right.length:Int))=(o.left.length:Int)+(o.right.length:Int):=IntWalk.i64_in _ om;rw [ZcQ,Zat];refine gI (ts:=[.cell 8 46,.slot 9]) 132063 Tryz.func290 ?_;exact fD (aj3 @z0 @hws @tmz)
theorem ZwN {op:Int} {o:Occ} {u r:Tm} {b:Bool} (hn:¬ (o.left.length+o.right.length=0)) (hl:o.left.length<=1048576) (hr:o.right.length<=1048576) (cM:Con e0 218 [.agg (Zas g),.one (.lit (.int .i64 op)),.one (.sl (Zaa (o.left++[u]++o.right)))] [.agg (Zab r),.one (.lit (.bool b))]):Con e0 290 [.agg (Zas g),.one (.lit (.int .i64 op)),.agg (Zcb o),.agg (Zab u)] [.agg (Zab r),.one (.lit (.bool b))]:=by
 have z0:((o.left.length:Int)+(o.right.length:Int)=0)=False:=eq_false om;have hws:IntKind.i64.wrap ((o.left.length:Int)+(o.right.length:Int))=(o.left.length:Int)+(o.right.length:Int):=IntWalk.i64_in _ om;have l1:∀ l:List Tm,Zav 4 (Zaa l)=true:=fun l=>Zc7 l;have l2:(o.left.length+1<=maxApp)=True:=eq_true (by unfold maxApp;omega);have l3:Zaa o.left++[Zab u]=Zaa (o.left++[u]):=by rw [ZbT,Zeg]
 have l4:((o.left++[u]).length+o.right.length<=maxApp)=True:=eq_true (by rw [Tae,Tag,Tak];unfold maxApp;omega);have l5:Zaa (o.left++[u])++Zaa o.right=Zaa (o.left++[u]++o.right):=(ZbT _ _).symm;have l6:(0+o.left.length<=maxApp)=True:=eq_true (by unfold maxApp;omega);have l7:(o.left.length<=maxApp)=True:=eq_true (by unfold maxApp;omega);have l8:∀ t:Tm,Zav 4 [Zab t]=true:=fun t=>Zc7 [t];generalize o.left++[u]++o.right=L2 at l5 cM
 generalize o.left++[u]=L1 at l3 l4 l5;rw [Zat] at cM;rw [ZcQ,Zat];refine gI (ts:=[.cell 8 46,.slot 9]) 132063 Tryz.func290 ?_;refine fN 3 (aj3 @z0 @hws @tmz) ?_
 /- gk around -/
 refine gGk [(1,.d (.one (.lit (.int .i64 op)))),(4,.ref 4 0),(6,.ref 6 0),(7,.ref 7 0),(8,.ref 8 0)] [(4,.var none [.sl (g.sorts.names.map ZbY),.sl (g.sorts.subs.map Zb4),.sl (g.ops.map Zbf)]),(6,.var none [.sl (o.path.map ZaK),.sl (Zaa o.left),.sl (Zaa o.right),.sl (o.mat.map Zbt)]),(7,.var none (Zab u))] [([(19,.d (.agg [.sl (g.sorts.names.map ZbY),.sl (g.sorts.subs.map Zb4),.sl (g.ops.map Zbf)]))],[]),([(20,.d (.one (.lit (.int .i64 op))))],[]),([(21,.d (.clip []))],[]),([(22,.ref 6 1)],[]),([(23,.d (.one (.sl (Zaa o.left))))],[]),([(24,.buf 24)],[(24,.buf none 46 4 (Zaa o.left))]),([(25,.d (.agg (Zab u)))],[]),([(26,.d (.clip [Zab u]))],[]),([(27,.buf 27)],[(27,.buf none 46 4 (Zaa L1))]),([(28,.ref 6 2)],[]),([(29,.d (.one (.sl (Zaa o.right))))],[]),([(30,.d (.one (.sl (Zaa L2))))],[]),([(31,.tup [.agg (Zab r),.one (.lit (.bool b))])],[]),([(32,.d (.agg (Zab r)))],[]),([(33,.d (.one (.lit (.bool b))))],[]),([],[(8,.var none (Zab r))]),([(9,.d (.one (.lit (.bool b))))],[]),([],[(8,.var none [.lit (.int .i64 0),.lit (.string ByteArray.empty),.lit (.int .i64 0),.sl []])])] (fun j=>([(5,8),(8,11),(17,15)]:List (Nat × Nat)).lookup j) [17] (⟨by simp [gs],by simp [gm]⟩) (fun j hj=>by simp only [Tbg,List.not_mem_nil,or_false] at hj;subst hj;exact ⟨by simp [gs],by simp [gm]⟩) ⟨?_,?_,?_,?_,?_,?_,?_,?_,?_,?_,?_,?_,?_,?_,?_,?_,?_,trivial⟩ ?_
 ·intro s' m' hB hD hI hJ;have F:=(Zcj.1 hB);simp only [lkS,lkM,List.getD_cons_zero,List.getD_cons_succ,and_true,true_and] at F;have F:=ai F (tmz);refine gO3 ?_;exact kS hB (Zao.2 (by simp [lkS,lkM,gs,gm]))
 ·intro s' m' hB hD hI hJ;have F:=(Zcj.1 hB);simp only [lkS,lkM,List.getD_cons_zero,List.getD_cons_succ,and_true,true_and] at F;have F:=ai F (tmz);refine gO3 ?_;exact kS hB (Zao.2 (by simp [lkS,lkM,gs,gm]))
 ·intro s' m' hB hD hI hJ;have F:=(Zcj.1 hB);simp only [lkS,lkM,List.getD_cons_zero,List.getD_cons_succ,and_true,true_and] at F;have F:=ai F (tmz);refine gO3 ?_;exact kS hB (Zao.2 (by simp [lkS,lkM,gs,gm]))
 ·intro s' m' hB hD hI hJ;have F:=(Zcj.1 hB);simp only [lkS,lkM,List.getD_cons_zero,List.getD_cons_succ,and_true,true_and] at F;have F:=ai F (tmz);refine gO3 ?_;exact kS hB (Zao.2 (by simp [lkS,lkM,gs,gm]))
 ·intro s' m' hB hD hI hJ;have F:=ai (Zcj.1 hB) (Zao.1 (hD 3 (by decide) (.inl rfl)));simp only [lkS,lkM,List.getD_cons_zero,List.getD_cons_succ,and_true,true_and] at F;have F:=ai F (tmz);refine gO3 ?_;exact kS hB (Zao.2 (by simp [lkS,lkM,gs,gm]))
 ·intro s' m' hB hD hI hJ;have F:=aj3 (Zcj.1 hB) (Zao.1 (hD 2 (by decide) (.inl rfl))) (Zao.1 (hD 4 (by decide) (.inl rfl)));simp only [lkS,lkM,List.getD_cons_zero,List.getD_cons_succ,and_true,true_and] at F;have F:=aj5 F @l1 l6 l7 tmz;refine gO3 ?_;exact kB hB (Zao.2 (by simp [lkS,lkM,gs,gm]))
 ·intro s' m' hB hD hI hJ;have F:=(Zcj.1 hB);simp only [lkS,lkM,List.getD_cons_zero,List.getD_cons_succ,and_true,true_and] at F;have F:=ai F (tmz);refine gO3 ?_;exact kS hB (Zao.2 (by simp [lkS,lkM,gs,gm]))
 ·intro s' m' hB hD hI hJ;have F:=ai (Zcj.1 hB) (Zao.1 (hD 6 (by decide) (.inl rfl)));simp only [lkS,lkM,List.getD_cons_zero,List.getD_cons_succ,and_true,true_and] at F;have F:=aj3 F @l8 tmz;refine gO3 ?_;exact kS hB (Zao.2 (by simp [lkS,lkM,gs,gm]))
 ·intro s' m' hB hD hI hJ;have F:=aj3 (Zcj.1 hB) (Zao.1 (hD 5 (by decide) (.inr rfl))) (Zao.1 (hD 7 (by decide) (.inl rfl)));simp only [lkS,lkM,List.getD_cons_zero,List.getD_cons_succ,and_true,true_and] at F;have F:=aj6 F @l1 l2 l3 @l8 tmz;refine gO3 ?_;exact kE hB (Zao.2 (by simp [lkS,lkM,gs,gm]))
 ·intro s' m' hB hD hI hJ;have F:=(Zcj.1 hB);simp only [lkS,lkM,List.getD_cons_zero,List.getD_cons_succ,and_true,true_and] at F;have F:=ai F (tmz);refine gO3 ?_;exact kS hB (Zao.2 (by simp [lkS,lkM,gs,gm]))
 ·intro s' m' hB hD hI hJ;have F:=ai (Zcj.1 hB) (Zao.1 (hD 9 (by decide) (.inl rfl)));simp only [lkS,lkM,List.getD_cons_zero,List.getD_cons_succ,and_true,true_and] at F;have F:=ai F (tmz);refine gO3 ?_;exact kS hB (Zao.2 (by simp [lkS,lkM,gs,gm]))
 ·intro s' m' hB hD hI hJ;have F:=aj3 (Zcj.1 hB) (Zao.1 (hD 8 (by decide) (.inr rfl))) (Zao.1 (hD 10 (by decide) (.inl rfl)));simp only [lkS,lkM,List.getD_cons_zero,List.getD_cons_succ,and_true,true_and] at F;have F:=aj5 F @l1 l4 l5 tmz;refine gP 1 ?_;refine gFz 30 ?_;refine ZaT ?_;exact kF hB (Zao.2 (by simp [lkS,lkM,gs,gm,frzS,frzA]))
 ·intro s' m' hB hD hI hJ;have F:=aj4 (Zcj.1 hB) (Zao.1 (hD 0 (by decide) (.inl rfl))) (Zao.1 (hD 1 (by decide) (.inl rfl))) (Zao.1 (hD 11 (by decide) (.inl rfl)));simp only [lkS,lkM,List.getD_cons_zero,List.getD_cons_succ,and_true,true_and] at F;have F:=ai F (tmz);refine gC (cM) ?_;refine ZaT ?_;exact kS hB (Zao.2 (by simp [lkS,lkM,gs,gm]))
 ·intro s' m' hB hD hI hJ;have F:=ai (Zcj.1 hB) (Zao.1 (hD 12 (by decide) (.inl rfl)));simp only [lkS,lkM,List.getD_cons_zero,List.getD_cons_succ,and_true,true_and] at F;have F:=ai F (tmz);refine gO3 ?_;exact kS hB (Zao.2 (by simp [lkS,lkM,gs,gm]))
 ·intro s' m' hB hD hI hJ;have F:=ai (Zcj.1 hB) (Zao.1 (hD 12 (by decide) (.inl rfl)));simp only [lkS,lkM,List.getD_cons_zero,List.getD_cons_succ,and_true,true_and] at F;have F:=ai F (tmz);refine gO3 ?_;exact kS hB (Zao.2 (by simp [lkS,lkM,gs,gm]))
 ·intro s' m' hB hD hI hJ;have F:=aj3 (Zcj.1 hB) (Zao.1 (hD 13 (by decide) (.inl rfl))) (Zao.1 (hI 17 (by decide) (by decide)));simp only [lkS,lkM,List.getD_cons_zero,List.getD_cons_succ,and_true,true_and] at F;have F:=ai F (tmz);refine gO3 ?_;exact kM hB (Zao.2 (by simp [lkS,lkM,gs,gm]))
 ·intro s' m' hB hD hI hJ;have F:=ai (Zcj.1 hB) (Zao.1 (hD 14 (by decide) (.inl rfl)));simp only [lkS,lkM,List.getD_cons_zero,List.getD_cons_succ,and_true,true_and] at F;have F:=ai F (tmz);refine gO3 ?_;exact kS hB (Zao.2 (by simp [lkS,lkM,gs,gm]))
 intro s' m' hB hP;refine ⟨_,_,(hB.app (hP 15 (.inl (by decide)) (fun k h=>by simp [List.lookup] at h))).app (hP 16 (.inl (by decide)) (fun k h=>by simp [List.lookup] at h)),?_⟩;simp only [Taf,Tah,List.append_nil,List.getD_cons_zero,List.getD_cons_succ]
 /- gk end around -/
 refine ⟨_,Wk.refl _,?_⟩;exact fD @tmz
theorem ZlD (hokg:Zcg g) (hg:SgnOk g) {op:Int} {o:Opr} (h0:0<=op) (ho:g.ops[op.toNat]?=some o) (xs:List Tm) (ha:∀ a∈xs,TermOk g a) (hl:xs.length<=1000):Con e0 218 [.agg (Zas g),.one (.lit (.int .i64 op)),.one (.sl (Zaa xs))] [.agg (Zab (mk6T g op xs)),.one (.lit (.bool (mkT g op xs).isSome))]:=by
 obtain ⟨d,hd,_⟩:=hg.first ho;have e:mk6T g op xs=mk6 g o d op xs:=by simp only [mk6T,ho,hd]
 rw [Zng ho hd,e];exact Zno hokg hg h0 ho hd xs ha hl
theorem ZvK {op:Int} {xs:List Tm} {t:Tm} (h:mkT g op xs=some t):mk6T g op xs=t:=by
 unfold mkT at h;unfold mk6T
 cases ho:g.ops[op.toNat]? with
 | none=>rw [ho] at h;cases h
 | some o =>
  rw [ho] at h;simp only at h ⊢
  cases hd:o.decls[0]? with
  | none=>rw [hd] at h;cases h
  | some d =>
   rw [hd] at h;simp only at h ⊢;simp only [mk6,h,Option.getD_some]
theorem Zsb {u:Tm}:∀ (ps:List Int) {t x:Tm},rbT g t ps u=some x->rb6 g t ps u=x
 | [],t,x,h=>by simp only [rbT,Taq] at h;simp only [rb6,h]
 | p::ps,t,x,h=>by
  simp only [rbT] at h;simp only [rb6]
  cases ha:t.args[p.toNat]? with
  | none=>rw [ha] at h;cases h
  | some a =>
   rw [ha] at h;simp only at h ⊢
   cases hr:rbT g a ps u with
   | none=>rw [hr] at h;cases h
   | some y =>
    rw [hr] at h;exact ZvK h
theorem ZiD (hokg:Zcg g) (hg:SgnOk g) {u:Tm} (hu:TermOk g u):∀ (ps:List Int) {t:Tm},TermOk g t->(ZaP t ps).2=true->ps.length<=1048576->Con e0 291 [.agg (Zas g),.agg (Zab t),.one (.sl (ps.map ZaK)),.agg (Zab u)] [.agg (Zab (rb6 g t ps u)),.one (.lit (.bool (rbT g t ps u).isSome))]:=by
 intro ps
 induction ps with
 | nil =>
  intro t ht hs hl;have hz:=Zc9;have e:rbT g t [] u=some u:=rfl;have e2:rb6 g t [] u=u:=rfl;rw [e,e2,Zat];have z1:((([]:List (List C)).length:Int)=0)=True:=eq_true rfl;have z2:(((0:Nat):Int)=0)=True:=eq_true rfl;rw [List.map_nil];refine gI (ts:=[.cell 8 46,.slot 9]) 8589975487 Tryz.func291 ?_;exact fD (aj3 @z1 @z2 @tmz)
 | cons p ps ih =>
  intro t ht hs hl;have hz:=Zc9;obtain ⟨hp0,a,hpa,hs'⟩:=Zr9 hs;have hm:=Tac hpa;obtain ⟨o,d,hA⟩:=ht.app hm;have hal:=ZfV ht;have hlt:=(Tad.1 hpa).1;have hc:=ih (ht.arg hm) hs' (by simp only [Tag] at hl;omega);have e:rbT g t (p::ps) u=(rbT g a ps u).bind fun x=>mkT g t.op (t.args.set p.toNat x):=by simp only [rbT,hpa]
  have e2:rb6 g t (p::ps) u=match rbT g a ps u with | none=>zTm | some x=>mk6T g t.op (t.args.set p.toNat x):=by simp only [rb6,hpa]
  have hok:=fun x=>Zkx hg ps (x:=x) (ht.arg hm) hu;have hof:=fun x=>Zsb (g:=g) (u:=u) ps (t:=a) (x:=x);rw [e,e2];clear ih hs hs' e e2;generalize hr:rbT g a ps u=r at hc hok hof ⊢;generalize rb6 g a ps u=q at hc hof;have l0:((p::ps).map ZaK).length=ps.length+1:=by simp
  have l1:((((p::ps).map ZaK).length:Int)=0)=False:=eq_false (by rw [l0];omega);have l2:((p::ps).map ZaK)[0]?=some [.lit (.int .i64 p)]:=rfl;have l3:Zav 1 ((p::ps).map ZaK)=true:=ZjY _;have l4:((p::ps).map ZaK).drop 1=ps.map ZaK:=rfl;have l5:((p::ps).map ZaK).take ((p::ps).map ZaK).length=(p::ps).map ZaK:=Tap;have l6:((1:Int)<=(((p::ps).map ZaK).length:Int))=True:=eq_true (by rw [l0];omega);generalize (p::ps).map ZaK=rows at l0 l1 l2 l3 l4 l5 l6 ⊢
  have l7:((rows.length:Int)<=(rows.length:Int))=True:=eq_true (Int.le_refl _);have l8:(0 < rows.length)=True:=eq_true om;have t0:Int.toNat 0=0:=rfl;have t1:Int.toNat 1=1:=rfl;have m1:(0+t.args.length<=maxApp)=True:=eq_true (by unfold maxApp;omega);have m2:(t.args.length<=maxApp)=True:=eq_true (by unfold maxApp;omega);rw [Zat] at hc ⊢;refine gI (ts:=[.cell 8 46,.slot 9]) 8589975487 Tryz.func291 ?_
  refine fG (ai @l1 @tmz) ?_;refine gLt 15 14 16 ?_;refine fC (aj13 @l2 @l3 @l4 @l5 @l6 @l7 @l8 @t0 @t1 @hp0 @hpa @Zal @tmz) (hc) ?_
  cases r with
  | none =>
   refine fR @tmz ?_;exact fD (ai @hz @tmz)
  | some x =>
   have hx:=hok x rfl;have hqx:=hof x rfl;subst hqx;simp only [Option.isSome_some,Option.bind_some];refine fR @tmz ?_;refine fN 7 (aj3 @tmz @m1 @m2) ?_;refine gB ?_;refine fR (aj11 @hp0 @l2 @l3 @l8 @t0 @hlt @hpa @Zae @Zaw @Zal @tmz) ?_;have cB:=ZlD hokg hg hA.lo hA.at' (t.args.set p.toNat q) (Zoh (fun b hb=>ht.arg hb) hx) (by rw [Taz];omega);rw [Zat] at cB;refine fN 8 @tmz ?_;refine Zda (ZdF [12] (by simp only [pz,↓reduceIte,Nat.reduceEqDiff,Nat.reduceAdd,Nat.reduceSub,Nat.reduceMul,Nat.reduceLeDiff,Nat.reduceBEq,Tam,decide_true,decide_false,Int.reduceLE,Int.reduceToNat,Int.reduceLT,Int.reduceEq,eq_self,Nat.reduceShiftRight,Nat.reduceAnd,Nat.reduceBneDiff,tmz];exact rfl)) fun σ' hσ=>?_
   subst hσ;refine gB ?_;refine fC @tmz (cB) ?_;refine fR @tmz ?_;exact fD @tmz
end
section
variable {e:Env} {σ:St} {o:Oper} {K:St->Prop}
theorem ZwO {t t' el:TypeId} {x:Operand} (ho:o.op=.binOp .eql t x (.const (.slice none 0 0)) t') (ht:e.P.underlying t=some (.slice el)) {rows:List (List C)} (hx:evA σ.s x=.d (.one (.sl rows))) (hK:∀ b:Bool,(b=true->rows=[])->K ⟨setA σ.s o.dst (.d (.one (.lit (.bool b)))),σ.m⟩):ZbG e o σ K:=by
 intro he U w0 S0 nt a w Q hd ⟨S,L,h1⟩;have hx':=h1.eval x;rw [hx] at hx';simp only [ARel,DRel,Rep] at hx';obtain ⟨A,n,cap,hv,hn,_,_,hp⟩:=hx';unfold Oper.wp;have hrun:(execOp a.eval o).run e.P w=.ok (.value (.bool A.isNone)) w:=by
  have hc:a.eval (.const (.slice none 0 0))=.slice none 0 0:=rfl;simp only [execOp,ho,hv,hc,eqGuard];simp [Result.andThen];rw [Lib.run_eql_slice_nil w t el A n cap 0 0 ht]
 rw [hrun,Oper.upon_value];refine ⟨_,hK A.isNone (fun hb=>?_),S,L,h1.put (by simp [ARel,DRel,Rep]) hd⟩;rcases Nat.eq_zero_or_pos n with h0 | h0
 ·exact Tao om
 ·obtain ⟨b,off,rfl,_⟩:=hp h0
  cases hb
end
section
variable {e:Env} {K:St->Prop} {ds:List (Option Nat)} {os:List Oper} {s:List (Nat × A)} {m:List (Nat × Bk)}
theorem gNil {d t t' ty:Nat} {p:String} {ed:Array Edge} {x:Operand} {rows:List (List C)} {el:TypeId} (ht:e.P.underlying t=some (.slice el)) (hK:∀ b:Bool,(b=true->rows=[])->Runs e ds 0 os ⟨(d,.d (.one (.lit (.bool b))))::s,m⟩ K)
  (hx:evA s x=.d (.one (.sl rows)):=by exact sfx):Runs e ds 0 (⟨some d,.binOp .eql t x (.const (.slice none 0 0)) t',ty,p,ed,none⟩::os) ⟨s,m⟩ K :=
 ZfD rfl (ZwO rfl ht hx hK)
end
def RNew (ty sz:Nat) (rows:List (List C)) (r:List D) (pm:List Bk):Prop:=∃ a cap,r=[.one (.lit (.slice a rows.length cap))]∧pm=[.buf (some (a,cap)) ty sz rows]
theorem Zts {ts:List Tm} (h:Zaa ts=[]):ts=[]:=by
 cases ts with
 | nil=>rfl
 | cons t ts=>simp [Zaa] at h
theorem Zei (ts:List Tm) (hl:ts.length<=1048576):ConP e0 239 [.one (.sl (Zaa ts))] [] (RNew 46 4 (Zaa ts)):=by
 have l1:(ts.length<=maxApp)=True:=eq_true (by unfold maxApp;omega);refine gIP (ts:=[.slot 2]) [] 21 Tryz.func239 ?_;refine fN 1 @tmz ?_;refine gB ?_;have F:=@tmz;refine gP 1 ?_;clear F;refine (have F:=tmz;gNil (rows:=Zaa ts) (el:=46) (by kernel_rfl) fun b hb=>?_)
 cases b with
 | true =>
  have hb:=Zts (hb rfl);subst hb;refine fR @tmz ?_;refine fG @tmz ?_;refine pS 2 fun a cap=>?_;exact (have F:=Zae;gTP (R:=RNew 46 4 (Zaa [])) [2] ⟨a,cap,rfl,rfl⟩)
 | false =>
  refine fR @tmz ?_;refine fN 3 @tmz ?_;refine gB ?_;have F:=@tmz;refine gP 1 ?_;clear F;refine gO 5 46 4 ?_;have F:=ai @l1 @tmz;refine gP 2 ?_;clear F;refine gS 7 fun a cap=>?_;refine fR @tmz ?_;refine fG @tmz ?_;exact (have F:=Zae;gTP (R:=RNew 46 4 (Zaa ts)) [7] ⟨a,cap,rfl,rfl⟩)
end Go.Proofs.YtcgacanpeaiabaaGreatDoor
