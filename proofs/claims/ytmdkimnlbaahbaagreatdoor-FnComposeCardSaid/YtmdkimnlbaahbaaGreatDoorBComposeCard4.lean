/-
  Part of a proof.
-/
import Derived.Test.YtmdkimnlbaahbaaGreatDoorBComposeCard0
import Derived.Test.YtmdkimnlbaahbaaGreatDoorBComposeCard1
import Derived.Test.YtmdkimnlbaahbaaGreatDoorBComposeCard2
import Derived.Test.YtmdkimnlbaahbaaGreatDoorBComposeCard3
set_option linter.unusedSimpArgs false
set_option linter.unusedVariables false
set_option maxHeartbeats 400000000
set_option maxRecDepth 100000
namespace Go.Proofs.YtmdkimnlbaahbaaGreatDoor
open Go.RowKit
def RelB (a:Option Addr) (cap ety sz:Nat) (rows:List (List C)) (lits data:List D):Prop:=∀ (w:World) (S:Nat->Prop) (vs:List Value),ZaE w S ety sz rows (.slice a rows.length cap)->Zav w S lits vs->Zav w (fun b=>S b∨vblk (.slice a rows.length cap)=some b) data vs
section
variable {a:Option Addr} {cap ety sz:Nat} {rows:List (List C)} {lits data:List D}
theorem RelB.nil:RelB a cap ety sz rows [] []:=fun w S vs _ h=>by cases vs <;> exact h
theorem RelB.same {d:D} (h:RelB a cap ety sz rows lits data):RelB a cap ety sz rows (d::lits) (d::data):=fun w S vs hb hv=>by
 cases vs with
 | nil=>exact hv.elim
 | cons v vs=>exact ⟨DRel.keep (Tai _) (fun _ _ _=>rfl) (fun b hb=>.inl hb) hv.1,h w S vs hb hv.2⟩
theorem RelB.tm {c0 c1 c2:C} (h:RelB a cap ety sz rows lits data):RelB a cap ety sz rows (.agg [c0,c1,c2,.lit (.slice a rows.length cap)]::lits) (.agg [c0,c1,c2,.sl rows]::data):=fun w S vs hb hv=>by
 cases vs with
 | nil=>exact hv.elim
 | cons v vs =>
  obtain ⟨⟨us,hv1,hr⟩,hv2⟩:=hv;refine ⟨⟨us,hv1,?_⟩,h w S vs hb hv2⟩
  match us,hr with
  | [u0,u1,u2,u3],hr =>
   simp only [Zad,and_true] at hr ⊢;obtain ⟨h0,h1,h2,h3⟩:=hr;have k:∀ {c u},Rep w S c u->Rep w (fun b=>S b∨vblk (.slice a rows.length cap)=some b) c u:=fun h=>Rep.mono h fun b hb=>.inl hb;refine ⟨k h0,k h1,k h2,?_⟩;simp only [Rep] at h3;subst h3;exact hb.rep
end
section
variable {e:Env} {U:Nat->Prop} {S0:Nat->Prop} {o:Oper}
theorem ZqB {m:List (Nat × Bk)} {base:Nat} {ρ:Operand->A} {c:Operand} {args:Array Operand} {ts:Array TypeId} (ho:o.op=.call ⟨.value c,args,ts⟩) {f:FuncId} {xs data r:List D} (hc:Zcu (ρ c)=some (f,[])) (hx:dsA (args.toList.map ρ)=some xs)
  {k cap ety sz:Nat} {a:Option Addr} {rows:List (List C)} (hm:gm m k=some (.buf (some (a,cap)) ety sz rows)) (hrd:RelB a cap ety sz rows xs data) (hcon:Con e f data r) (hl:r.all litD=true):ZaW e U base S0 m o ρ (retA r):=by
 intro w S L ρv hC hr;obtain ⟨m1,m2⟩:=ZhW ho;obtain ⟨us,hv,hus⟩:=Zc2 hc (hr c m1);have hds:Zav w S xs (args.toList.map ρv):=ZdY hx (by simp) (mapx (fun p hp=>hr p (m2 p hp)));obtain ⟨hbody,hcon⟩:=hcon;obtain ⟨hva,hb⟩:=hC.own k _ hm;have hva:L.v k=.slice a rows.length cap:=hva (a,cap) rfl;rw [hva] at hb;have hlt:∀ g,vblk (.slice a rows.length cap)=some g->g < w.heap.size∧¬ S g∧¬ e.E g:=fun g hg=>by
  have hE:¬ e.E g:=hC.notE hm (by simp only [Zay];rw [hva];exact hg);obtain ⟨_,_,h3⟩:=hb;rcases h3 with ⟨hn,b,hv⟩ | ⟨g',cap',cur,hv,hc,hg',hs,_⟩
  ·injection hv with e1 e2 e3
   rw [e3] at hg
   cases a <;> simp [vblk] at hg
  ·rw [hv] at hg;simp only [vblk] at hg;split at hg
   ·cases hg
   ·injection hg with hg
    subst hg;exact ⟨hg',hs,hE⟩
 have hus0:us=[]:=by cases us with | nil=>rfl | cons u us=>exact hus.elim
 subst hus0;have hcl:=hcon w (fun b=>S b∨vblk (.slice a rows.length cap)=some b) _ (fun b hb=>hb.elim (hC.sin b) fun q=>⟨(hlt b q).1,(hlt b q).2.2⟩) (fun b hb=>Tbd (hC.ein b hb) hC.bsz) hC.g (hrd w S _ hb hds);unfold gives;rw [Zd1 ho hv hbody];simp only [List.append_nil];exact hcl.mono fun en w' ⟨v,h1,h2,h3,h4⟩=>⟨v,h1,S,⟨fun _ h=>h,fun _ h=>.inl h⟩,hC.later h2 h3 (fun _ h=>h) (fun _ h=>.inl h),h2,Zyj hl (ZeF h4)⟩
end
section
variable {e:Env} {ds:List (Option Nat)} {K:St->Prop} {n n':Nat} {os os':List Oper} {σ:St}
theorem gCN {c:Operand} {args:List Operand} {f:FuncId} {xs data r:List D} {d:Option Nat} {s1 s2 s3:List (Nat × A)} {m1 m2:List (Nat × Bk)} {cap ety sz:Nat} {a:Option Addr} {rows:List (List C)} (k:Nat) (hc:Con e f data r) (hrd:RelB a cap ety sz rows xs data) (hK:Runs e ds n' os' ⟨s3,m2⟩ K) (h:Zbh e.P ds n os σ=.call true c args d n' os' ⟨s1,m1⟩:=by exact sfv) (h1:Zjr c args (some ⟨s1,m1⟩)=some (f,xs,⟨s2,m2⟩):=by exact sfv) (hcap:Zcu (evA s1 c)=some (f,[]):=by exact sfx)
  (hm:gm m2 k=some (.buf (some (a,cap)) ety sz rows):=by exact snv) (hl:r.all litD=true:=by rfl) (h2:setA s2 d (retA r)=s3:=by simp only [setA,retA];exact rfl):Runs e ds n os σ K:=by
 refine ZeO os n σ ?_;rw [h];intro o ts ho hd;simp only [Zjr,ZkY,hcap] at h1;split at h1
 ·rename_i f' caps xs' e1 e2;injection e1 with e1
  injection e1 with e1 e3
  subst e1 e3;injection h1 with h1
  injection h1 with h3 h4
  injection h4 with h4 h5
  injection h5 with h5 h6
  subst h5 h6;simp only [List.map_nil,List.append_nil] at h4;subst h4;show ZkU e true o _ _;intro he;exact ⟨retA r,by rw [hd,h2];exact hK,fun U base S0=>ZqB ho hcap e2 hm hrd hc hl⟩
 ·cases h1
end
def topC (u:Tm) (a:Option Addr) (cap:Nat):List C:=[.lit (.int .i64 u.op),.lit (.string u.name),.lit (.int .i64 u.sort),.lit (.slice a (Zac u.args).length cap)]
abbrev topB (u:Tm) (a:Option Addr) (cap:Nat):Bk:=.buf (some (a,cap)) 36 4 (Zac u.args)
def RTop (u:Tm) (r:List D) (pm:List Bk):Prop:=∃ (a:Option Addr) (cap:Nat),r=[.agg (topC u a cap)]∧pm=[topB u a cap]
def Ze8 (u:Tm) (b:Bool) (r:List D) (pm:List Bk):Prop:=∃ (a:Option Addr) (cap:Nat),r=[.agg (topC u a cap),.one (.lit (.bool b))]∧pm=[topB u a cap]
theorem Zjc:∀ u a cap,topC u a cap=[.lit (.int .i64 u.op),.lit (.string u.name),.lit (.int .i64 u.sort),.lit (.slice a (Zac u.args).length cap)]:=fun _ _ _=>rfl
theorem ZqC (t:Tm) (hb:Zan (Zab t)<=1048576):ConP e0 70 [.agg (Zab t)] [] (RTop t):=by
 obtain ⟨op,nm,so,args⟩:=t;have hc:Zab (.mk op nm so args)=[.lit (.int .i64 op),.lit (.string nm),.lit (.int .i64 so),.sl (Zac args)]:=by simp only [Zab]
 have hl:args.length<=1048576:=by have:=Zae args;simp only [Zab,Zan,Zdm] at hb;omega
 have h:∀ a∈args,Con e0 70 [.agg (Zab a)] [.agg (Zab a)]:=fun a ha=>by
  obtain ⟨i,hi⟩:=Tbk ha;have hi':(Zac args)[i]?=some (Zab a):=by rw [ZbH,hi];rfl
  have h2:=ZeD hi';refine Zeh a ?_;simp only [Zab,Zan,Zdm] at hb;omega
 refine gIP (ts:=[.cell 2 36]) [] 65567 Tryz.func70 ?_;refine fN 1 @hc ?_;refine gB ?_;refine gP 6 ?_;refine gX ?_;refine fR @hc ?_;refine pN 1000 36 4 ?_;refine fG @hc ?_;have F:=ai @Zcn @hc;refine gL (ι:=Nat × Option Addr × Nat) [4,16] [3,1000] (fun x=>[(4,.d (.one (.lit (.int .i64 (x.1:Int)))))]) (fun x=>[(1000,.buf (some (x.2.1,x.2.2)) 36 4 (Zac (args.take x.1))),(3,.var none [.lit (.int .i64 op),.lit (.string nm),.lit (.int .i64 so),.lit (.slice x.2.1 x.1 x.2.2)])]) (fun x=>x.1<=args.length) (fun x=>args.length - x.1) ((0,none,0)) (Taj _) (fun x hx=>?_);clear F
 obtain ⟨i,p,cap⟩:=x;simp only at hx;by_cases hlt:i < args.length
 ·have hg:args[i]?=some args[i]:=Taa hlt;have hcon:=h args[i] (List.getElem_mem hlt);generalize args[i]=a at hg hcon;have q1:=lT i args.length;have q4:IntKind.i64.wrap ((i:Int)+1)=(i:Int)+1:=IntWalk.i64_in _ om;have q2:i+1<=maxApp:=by unfold maxApp;omega
  have q3:=Zpa hx;have q5:(args.take i).length=i:=by rw [Taw];omega
  refine fB (aj6 @hc @Zae @ZbH @q1 @hg @tmz) ?_;refine fC (aj3 @tmz @ZbH @hg) (hcon) ?_;have F:=aj4 @tmz @q2 @q3 @q5;refine gP 3 ?_;clear F;refine gS 28 fun p2 cap2=>?_;refine fR (aj3 @tmz @q3 @q5) ?_;refine pE [28] [1000] (Zsm _) ?_;rw [<- ZfA args hg];have F:=ai @hc @q4;refine gG ?_;exact ⟨(i+1,p2,cap2),hlt,gw,gw,om⟩
 ·obtain rfl:i=args.length:=by omega
  have q1:=lF args.length args.length;rw [Tap];refine fG (aj3 @hc @Zae @q1) ?_;rw [show args.length=(Zac args).length from (Zae args).symm];exact (have F:=e0P;gTP (R:=RTop (.mk op nm so args)) [1000] ⟨p,cap,rfl,rfl⟩)
def ZAl (ts:List Tm) (r:List D) (pm:List Bk):Prop:=∃ (a:Option Addr) (cap:Nat),r=[.one (.lit (.slice a (Zac ts).length cap))]∧pm=[.buf (some (a,cap)) 36 4 (Zac ts)]
theorem ZnL (ts:List Tm) (hB:tmsB ts):ConP e0 119 [.one (.sl (Zac ts))] [] (ZAl ts):=by
 unfold tmsB at hB;refine gIP (ts:=[.slot 2]) [] 541 Tryz.func119 ?_;refine fG @tmz ?_;have F:=@Zcn;refine gL (ι:=Nat) [3,4,9] [3] (fun i=>[(4,A.d (.one (.lit (.int .i64 i)))),(3,.buf 3)]) (fun i=>[(3,.buf none 36 4 (Zac (ts.take i)))]) (fun i=>i<=ts.length) (fun i=>ts.length - i) (0) (Taj _) (fun i hi=>?_);clear F;by_cases hlt:i < ts.length;rotate_left
 ·obtain rfl:i=ts.length:=by omega
  have q2:=lF ts.length ts.length;rw [Tap];refine fG (ai @q2 @tmz) ?_;refine pS 2 fun a cap=>?_;exact (have F:=tmz;gTP (R:=ZAl ts) [2] ⟨a,cap,rfl,rfl⟩)
 obtain ⟨t,ht⟩:∃ b,ts[i]?=some b:=⟨_,Taa hlt⟩;have q2:=lT i ts.length;have q4:=Zat (k:=i) om;have hi':(Zac ts)[i]?=some (Zab t):=by rw [ZbH,ht];rfl
 have hbt:=ZeD hi';have cc:=Zeh t om;have l1:ZaI 4 (Zac (ts.take i))=true:=Zcy _;have l2:((Zac (ts.take i)).length+1<=maxApp)=True:=eq_true (by rw [Zae,Taw];unfold maxApp;omega);have l3:((ts.take i).length+1<=maxApp)=True:=eq_true (by rw [Taw];unfold maxApp;omega);have e:=ZlG ht;refine fB (ai @q2 @tmz) ?_;refine fC (aj3 @q2 @ht @tmz) (cc) ?_;refine fR (aj4 @l1 @l2 @l3 @tmz) ?_;have F:=ai @q4 @e;refine gG ?_;exact ⟨i+1,hlt,gw,gw,om⟩
def Ztx (u:Tm) (b:Bool):List D:=[.agg [.lit (.int .i64 u.op),.lit (.string u.name),.lit (.int .i64 u.sort),.lit (.slice none 0 0)],.one (.lit (.bool b))]
def nilC (op:Int) (nm:ByteArray) (so:Int):List C:=[.lit (.int .i64 op),.lit (.string nm),.lit (.int .i64 so),.lit (.slice none 0 0)]
theorem Zty (nm:ByteArray) (so:Int):Con e0 52 [.one (.lit (.string nm)),.one (.lit (.int .i64 so))] [.agg (nilC (-1) nm so)]:=by
 rw [nilC];refine gI (ts:=[.cell 4 36]) 19 Tryz.func52 ?_;refine fN 1 @tmz ?_;refine gB ?_;have F:=@tmz;refine gP 2 ?_;clear F;have F:=tmz;refine gX ?_;clear F;refine fR @tmz ?_;exact fD @tmz
section
variable {g:Sgn}
theorem ZqD (hg:SgnOk g) {op:Int} {o:Opr} (h0:0<=op) (ho:g.ops[op.toNat]?=some o):Con e0 116 [.agg (Zak g),.one (.lit (.int .i64 op))] (Ztx (ZaB o) (!decide (o.unit=0))):=by
 have hax:=hg.axs o (Tac ho);have hlo:=hax.lo;have hhi:=hax.hi;have hln:=hg.len;have hw:IntKind.i64.wrap (o.unit - 1)=o.unit - 1:=ZaJ rfl om om;rw [Ztx];rw [Zak];refine gI (ts:=[.cell 4 36,.slot 5]) 4151 Tryz.func116 ?_;by_cases hu:o.unit=0
 ·have hb:(!decide (o.unit=0))=false:=by simp [hu]
  have u0:(ZaB o).op=0:=by simp [ZaB,Tm.op,hu]
  have u1:(ZaB o).name=ByteArray.empty:=rfl;have u2:(ZaB o).sort=0:=rfl;rw [hb,u0,u1,u2];refine fN 2 (aj5 @h0 @ho @Zag @hu @tmz) ?_;refine gB ?_;have F:=tmz;refine gX ?_;clear F;refine fR @tmz ?_;exact fD @tmz
 ·have hb:(!decide (o.unit=0))=true:=by simp [hu]
  have u0:(ZaB o).op=o.unit - 1:=by simp [ZaB,Tm.op,hu]
  have u1:(ZaB o).name=ByteArray.empty:=rfl;have u2:(ZaB o).sort=0:=rfl;rw [hb,u0,u1,u2];refine fN 3 (aj6 @h0 @ho @Zag @hu @hw @tmz) ?_;refine gB ?_;have F:=aj6 @h0 @ho @Zag @hu @hw @tmz;refine gP 7 ?_;clear F;have F:=tmz;refine gX ?_;clear F;refine fR @tmz ?_;exact fD @tmz
end
theorem Con.args {e:Env} {f:FuncId} {lits data r:List D} (h:Con e f data r) (hd:∀ (w:World) (S:Nat->Prop) (vs:List Value),Zav w S lits vs->Zav w S data vs):Con e f lits r:=⟨h.1,fun w S vs hS hE hG hvs=>h.2 w S vs hS hE hG (hd w S vs hvs)⟩
theorem Zav.nilTm {x:D} {op so:Int} {nm:ByteArray} {w:World} {S:Nat->Prop} {vs:List Value} (h:Zav w S [x,.agg [.lit (.int .i64 op),.lit (.string nm),.lit (.int .i64 so),.lit (.slice none 0 0)]] vs):Zav w S [x,.agg (Zab (.mk op nm so []))] vs:=by
 match vs,h with
 | [v1,v2],⟨h1,⟨us,hu,hr⟩,_⟩ =>
  refine ⟨h1,⟨us,hu,?_⟩,trivial⟩
  match us,hr with
  | [u0,u1,u2,u3],hr =>
   simp only [Zad,Rep,and_true] at hr;obtain ⟨rfl,rfl,rfl,rfl⟩:=hr;simp only [Zab,Zac,Zad,Rep,and_true,true_and];exact ⟨none,0,0,rfl,rfl,Tai _,by decide,fun h=>absurd h (by decide)⟩
section
variable {g:Sgn}
open Classical in
theorem Zpx (hokg:ZbY g) (hg:SgnOk g) {op:Int} {o:Opr} {d:Dcl} (h0:0<=op) (ho:g.ops[op.toNat]?=some o) (hd:o.decls[0]?=some d) (xs:List Tm) (ha:∀ a∈xs,TermOk g a) (hl:xs.length<=1048576) (hfb:tmsB (Zah o op xs)):ConP e0 68 [.agg (Zak g),.one (.lit (.int .i64 op)),.one (.sl (Zac xs))] [] (Ze8 (mk6 g o d op xs) (mkO g o d op xs).isSome):=by
 have hz:=ZeC;have hfo:ZaF (Zah o op xs):=Zna.2 fun b hb=>ZaH.ok hg _ b (Tan _) (ZkE ha b hb);have hfs:=Zie (o:=o) (op:=op) ha;have hax:=hg.axs o (Tac ho);have hlo:=hax.lo;have hhi:=hax.hi;have hln:=hg.len;obtain ⟨d',hd',hr0,hr1,hargs⟩:=hg.first ho;rw [hd] at hd';injection hd' with hd'
 subst hd';have cK:=ZdP hg.sorts;rw [Za9] at cK;have cUn:=ZqD hg h0 ho;rw [Zak,Ztx] at cUn;have cA:=Zeo hd;rw [Zax] at cA;have hB:mkO g o d op xs=if ArB o d xs.length then none else if ∀ (i:Nat) a,xs[i]?=some a->KArg g o d i a then mkL o op (Zah o op xs) else none:=rfl
 have hM:mk6 g o d op xs=(mkO g o d op xs).getD (if ¬ ArB o d xs.length∧∀ (i:Nat) a,xs[i]?=some a->KArg g o d i a then appT op (srtO o (Zah o op xs)) else zTm):=rfl;have har2:o.assoc=true->d.args.length=2:=fun h=>by
  obtain ⟨k1,k2,hk,_⟩:=Opr.two hg ho hd (.inl h);rw [hk];rfl
 refine gIP (ts:=[.cell 6 36,.slot 7]) [] 691281634562849416457226259614436229071 Tryz.func68 ?_;refine fN 2 (aj5 @tmz @Zb6 @h0 @ho @Zag) ?_;refine gB ?_;refine fC @tmz (cK) ?_;refine fR @tmz ?_;refine fN 3 @tmz ?_;refine gM (ι:=Bool) [38] [] (fun b=>[(38,A.d (.one (.lit (.bool b))))]) (fun b=>[]) (fun b=>b=decide (ArB o d xs.length)) ?_ (fun b hb=>Exists.intro _ (ai (Wk.refl _) ?_))
 ·refine gB ?_;refine fC (ai @tmz @Zag) (cA) ?_;by_cases q:xs.length=d.args.length
  ·have q1:((xs.length:Int)=(d.args.length:Int))=True:=eq_true om;have hA:¬ ArB o d xs.length:=fun h=>h.elim (fun h=>by have:=har2 h.1;omega) fun h=>h.2 q;refine fR (ai @q1 @tmz) ?_;have F:=@tmz;refine gG ?_;exact ⟨false,(decide_eq_false hA).symm,gw,gw⟩
  have q1:((xs.length:Int)=(d.args.length:Int))=False:=eq_false om
  cases hac:o.assoc with
  | false =>
   have hA:ArB o d xs.length:=.inr ⟨hac,q⟩;refine fR (aj3 @q1 @hac @tmz) ?_;have F:=@tmz;refine gG ?_;exact ⟨true,(decide_eq_true hA).symm,gw,gw⟩
  | true =>
  by_cases q2:xs.length < 2
  ·have hA:ArB o d xs.length:=.inl ⟨hac,q2⟩;have q3:((2:Int)<=(xs.length:Int))=False:=eq_false om;refine fR (aj4 @q1 @hac @q3 @tmz) ?_;have F:=@tmz;refine gG ?_;exact ⟨true,(decide_eq_true hA).symm,gw,gw⟩
  ·have hA:¬ ArB o d xs.length:=fun h=>h.elim (fun h=>q2 h.2) fun h=>by rw [hac] at h;cases h.1
   have q3:((2:Int)<=(xs.length:Int))=True:=eq_true om;refine fR (aj4 @q1 @hac @q3 @tmz) ?_;have F:=@tmz;refine gG ?_;exact ⟨false,(decide_eq_false hA).symm,gw,gw⟩
 by_cases hAr:ArB o d xs.length
 ·rw [decide_eq_true hAr] at hb;subst hb;rw [if_pos hAr] at hB;rw [hB,if_neg fun h=>h.1 hAr] at hM;rw [hM,hB];refine fN 4 @tmz ?_;refine gB ?_;have F:=tmz;refine gX ?_;clear F;refine fR @tmz ?_;refine pN 1000 36 4 ?_;exact (have F:=e0P;gTP (R:=Ze8 zTm false) [1000] ⟨none,0,rfl,rfl⟩)
 rw [decide_eq_false hAr] at hb;subst hb;rw [if_neg hAr] at hB;have hnas:o.assoc=false->xs.length=d.args.length:=fun h=>Classical.byContradiction fun c=>hAr (.inr ⟨h,c⟩);have hfl0:Zah o op []=[]:=rfl;refine fN 5 @tmz ?_;refine gB ?_;refine fC @tmz (cUn) ?_;refine fR @tmz ?_;refine fG @tmz ?_;have F:=aj3 @hfl0 @Zcn @tmz;refine gL (ι:=Nat) [7,12,13,14,50,55,73,82,92] [12] (fun i=>[(13,A.d (.one (.lit (.int .i64 i)))),(12,.buf 12)]) (fun i=>[(12,.buf none 36 4 (Zac (Zah o op (xs.take i))))]) (fun i=>i<=xs.length∧∀ (j:Nat) a,j < i->xs[j]?=some a->KArg g o d j a) (fun i=>xs.length - i) (0) (⟨Taj _,fun j a h=>absurd h om⟩) (fun i hi=>?_);clear F
 obtain ⟨hi,hall⟩:=hi;by_cases hlt:i < xs.length
 ·obtain ⟨a,hai⟩:∃ a,xs[i]?=some a:=⟨_,Taa hlt⟩;have hT:=ha a (Tac hai);have q1:=lT i xs.length;have hw1:=Zat (k:=i) om;obtain ⟨k,hk⟩:=ZfL hg ho hd hnas hlt;obtain ⟨hk0,hk1⟩:=hargs k (Tac hk);have hkd:=ZfK hg.sorts hk0 hk1;have hkN:d.args[(argAt o i:Nat)]?=some k:=hk;have cKa:=Zh5 hokg hg hT.form.node;rw [Zak] at cKa;have cU:Con e0 69 [.agg (Zab a),.agg [.lit (.int .i64 (ZaB o).op),.lit (.string (ZaB o).name),.lit (.int .i64 (ZaB o).sort),.lit (.slice none 0 0)]] _:=(Ze1 (hT.ok hg) (ZiT (o:=o) hlo om)).args fun w S vs h=>Zav.nilTm h
  have hUiff:o.unit≠0->(Zai a (ZaB o)=0 ↔ a.op=o.unit - 1):=fun hu=>by
   rw [Zdz];constructor
   ·rintro h;rw [h];simp [ZaB,Tm.op,hu]
   ·exact ZfN hg ho hu hT.form
  generalize hU:decide (Zai a (ZaB o)=0)=U at cU;have hst:=Zhk (o:=o) (op:=op) hai;have hle:=Ze2 o op xs (i+1);rw [hst,Tae] at hle;have hfl:=Zbq (Zah o op xs);have hnext:ZbK g a=((kd g.sorts k:Nat):Int)->i+1<=xs.length∧∀ (j:Nat) a,j < i+1->xs[j]?=some a->KArg g o d j a:=fun hkk=>⟨hlt,fun j a' hj ha'=>by
   by_cases e:j=i
   ·subst e;rw [hai] at ha';injection ha' with ha'
    subst ha';exact ⟨k,hk,hkk⟩
   ·exact hall j a' om ha'⟩
  refine fG (ai @q1 @tmz) ?_;refine gM (ι:=Unit) [14] [] (fun u=>[(14,A.d (.one (.lit (.int .i64 (argAt o i:Nat)))))]) (fun u=>[]) (fun u=>True) ?_ (fun u hu=>Exists.intro _ (ai (Wk.refl _) ?_))
  ·rcases Bool.eq_false_or_eq_true o.assoc with hac | hac
   ·have F:=aj3 @Zag @hac @Zgg;refine gG ?_;exact ⟨(),trivial,gw,gw⟩
   ·have F:=aj4 @Zag @hac @Zgg @if_false.{1};refine gG ?_;exact ⟨(),trivial,gw,gw⟩
  refine fN 13 @tmz ?_;refine gB ?_;refine fC (ai @hai @tmz) (cKa) ?_;by_cases hkk:ZbK g a=((kd g.sorts k:Nat):Int);rotate_left
  ·have hno:¬ ∀ (i:Nat) a,xs[i]?=some a->KArg g o d i a:=fun h=>by
    obtain ⟨k',hk',he⟩:=h i a hai;rw [hk] at hk';injection hk' with hk'
    subst hk';exact hkk he
   rw [if_neg hno] at hB;rw [hB,if_neg fun h=>hno h.2] at hM;rw [hM,hB];refine fR (aj9 @tmz @Zag @hd @ZaN @hkN @hk0 @hkd @Zaz @hkk) ?_;refine fN 14 @tmz ?_;refine gB ?_;have F:=tmz;refine gX ?_;clear F;refine fR @tmz ?_;refine pN 1000 36 4 ?_;exact (have F:=e0P;gTP (R:=Ze8 zTm false) [1000] ⟨none,0,rfl,rfl⟩)
  have hnext:=hnext hkk;have l1:ZaI 4 (Zac (Zah o op (xs.take i)))=true:=Zcy _;have l5:ZaI 4 (Zac a.args)=true:=Zcy _;refine fR (aj9 @tmz @Zag @hd @ZaN @hkN @hk0 @hkd @Zaz @hkk) ?_;refine fN 16 @tmz ?_;refine gM (ι:=Bool) [82] [] (fun b=>[(82,A.d (.one (.lit (.bool b))))]) (fun b=>[]) (fun b=>b=decide (o.unit≠0∧a.op=o.unit - 1)) ?_ (fun b hb=>Exists.intro _ (ai (Wk.refl _) ?_))
  ·by_cases hu:o.unit=0
   ·have F:=ai @hu @tmz;refine gG ?_;exact ⟨false,(decide_eq_false fun h=>h.1 hu).symm,gw,gw⟩
   ·refine gB ?_;refine fC (aj3 @hu @hai @tmz) (cU) ?_;refine fR @tmz ?_;have e:U=decide (o.unit≠0∧a.op=o.unit - 1):=by
     rw [<- hU];exact decide_eq_decide.2 ⟨fun h=>⟨hu,(hUiff hu).1 h⟩,fun h=>(hUiff hu).2 h.2⟩
    have F:=ai @hu @tmz;refine gG ?_;exact ⟨U,e,gw,gw⟩
  by_cases hUn:o.unit≠0∧a.op=o.unit - 1
  ·rw [decide_eq_true hUn] at hb;subst hb;have hN:¬ (o.assoc=true∧a.op=op):=fun h=>by
    have e:(ZaB o).args=[]:=by unfold ZaB;rfl
    have e2:=ZfN hg ho hUn.1 hT.form hUn.2;obtain ⟨o',d',hA⟩:=hT.form.node.app om;have:o'=o:=by have:=hA.at';rw [h.2,ho] at this;injection this with this;exact this.symm
    subst this;have:=(hA.asc h.1).1;rw [e2,e] at this;simp at this
   have e:ZaA o op a=[]:=by unfold ZaA;rw [if_neg hN,if_pos hUn]
   rw [e,List.append_nil] at hst;rw [<- hst];have F:=ai @tmz @hw1;refine gG ?_;exact ⟨i+1,hnext,gw,gw,om⟩
  rw [decide_eq_false hUn] at hb;subst hb;by_cases hN:o.assoc=true∧a.op=op
  ·have e:ZaA o op a=a.args:=by unfold ZaA;rw [if_pos hN]
   rw [e] at hst hle;have l3:((Zah o op (xs.take i)).length+a.args.length<=maxApp)=True:=eq_true (by unfold maxApp;omega);have l4:Zac (Zah o op (xs.take i))++Zac a.args=Zac (Zah o op (xs.take (i+1))):=by rw [hst,ZbI]
   obtain ⟨hN1,hN2⟩:=hN;have q2:(a.op=op)=True:=eq_true hN2;have F:=aj10 @tmz @hai @Zag @hN1 @q2 @l1 @l5 @l3 @l4 @hw1;refine gG ?_;exact ⟨i+1,hnext,gw,gw,om⟩
  ·have e:ZaA o op a=[a]:=by unfold ZaA;rw [if_neg hN,if_neg hUn]
   rw [e] at hst hle;have l3:((Zah o op (xs.take i)).length+1<=maxApp)=True:=eq_true (by simp only [Tag,Tak] at hle;unfold maxApp;omega);have l4:Zac (Zah o op (xs.take i))++[Zab a]=Zac (Zah o op (xs.take (i+1))):=by rw [hst,ZbI,Zcl]
   rcases Bool.eq_false_or_eq_true o.assoc with hac | hac
   ·have hq:(a.op=op)=False:=eq_false fun h=>hN ⟨hac,h⟩;have F:=aj9 @tmz @hai @Zag @hac @hq @l1 @l3 @l4 @hw1;refine gG ?_;exact ⟨i+1,hnext,gw,gw,om⟩
   ·have F:=aj8 @tmz @hai @Zag @hac @l1 @l3 @l4 @hw1;refine gG ?_;exact ⟨i+1,hnext,gw,gw,om⟩
 ·obtain rfl:i=xs.length:=by omega
  have q1:=lF xs.length xs.length;rw [Tap];have hAll:∀ (i:Nat) a,xs[i]?=some a->KArg g o d i a:=fun j a h=>hall j a (Tad.1 h).1 h;rw [if_pos hAll] at hB;rw [hB,if_pos ⟨hAr,hAll⟩] at hM;rw [hM,hB];clear hM hB hall hAll hnas;generalize hL:Zah o op xs=L at hfb hfo hfs ⊢;have hLb:L.length+Zam (Zac L)<=1048576:=hfb;refine fN 19 (ai @q1 @tmz) ?_;refine pS 12 fun a cap=>?_;refine pD 12 [12] [] ?_;by_cases hu:o.unit≠0∧L.length < 2
  ·have e:mkL o op L=some (L.headD (ZaB o)):=by unfold mkL;rw [if_pos hu]
   rw [e];obtain ⟨hu1,hu2⟩:=hu;have q2:(o.unit=0)=False:=eq_false hu1
   cases L with
   | nil =>
    have z2:(((0:Nat):Int)=0)=True:=eq_true om;refine fN 20 (aj5 @q1 @Zag @q2 @z2 @tmz) ?_;refine gB ?_;refine fR @tmz ?_;refine pN 1000 36 4 ?_;exact (have F:=e0P;gTP (R:=Ze8 (ZaB o) true) [1000] ⟨none,0,rfl,rfl⟩)
   | cons b bs =>
    have hbs:bs=[]:=Tao (by simp only [Tag] at hu2;omega);subst hbs;have hbb:Zan (Zab b)<=1048576:=by simp only [Zac,Zam] at hLb;omega
    have z1:(((0+1:Nat):Int)=0)=False:=eq_false om;have z2:(((0+1:Nat):Int)=1)=True:=eq_true om;have z3:(((1:Nat):Int)=0)=False:=eq_false om;have z4:(((1:Nat):Int)=1)=True:=eq_true om;have q5:([b]:List Tm)[0]?=some b:=rfl;have z5:(0 < 0+1)=True:=eq_true om;have z6:((0:Nat) < 1)=True:=eq_true om;have z7:Int.toNat 0=0:=rfl;refine fN 22 (aj12 @q1 @Zag @q2 @z1 @z2 @z3 @z4 @z5 @z6 @z7 @q5 @tmz) ?_;refine gB ?_
    have F:=aj5 @z5 @z6 @z7 @q5 @tmz;refine gCP [] [1000] (ZqC b hbb) ?_;clear F;rintro r pm ⟨a1,k1,rfl,rfl⟩;simp only [setA,retA,zipM,Taf,Tah];refine fR @tmz ?_;exact (have F:=e0P;gTP (R:=Ze8 b true) [1000] ⟨a1,k1,rfl,rfl⟩)
  ·have hml:mkL o op L=if BigT o op (srtO o L) then none else some (appT op (srtO o L)):=by unfold mkL;rw [if_neg hu]
   rw [hml];clear hml cUn cK cA;have hSl:=ZgE o L;have hSp:=ZcI o L;have sz1:=Zd8 hSp;have dz1:=Zc7 hSp;have sl1:=Zbq L;have cSo:=Zi6 L hfo hfb;refine gM (ι:=Unit) [116] [] (fun v=>[(116,A.d (.one (.lit (.bool false))))]) (fun v=>[]) (fun v=>True) ?_ (fun v hv=>Exists.intro _ (ai (Wk.refl _) ?_))
   ·by_cases hu0:o.unit=0
    ·have q2:(o.unit=0)=True:=eq_true hu0;have F:=ai @q2 @tmz;refine gG ?_;exact ⟨(),trivial,gw,gw⟩
    ·have q2:(o.unit=0)=False:=eq_false hu0;have q3:((L.length:Int)=0)=False:=eq_false fun h=>hu ⟨hu0,om⟩;have F:=aj3 @q2 @q3 @tmz;refine gG ?_;exact ⟨(),trivial,gw,gw⟩
   refine fN 21 @tmz ?_;refine gM (ι:=Unit) [123] [] (fun v=>[(123,A.d (.one (.lit (.bool false))))]) (fun v=>[]) (fun v=>True) ?_ (fun v hv=>Exists.intro _ (ai (Wk.refl _) ?_))
   ·by_cases hu0:o.unit=0
    ·have q2:(o.unit=0)=True:=eq_true hu0;have F:=ai @q2 @tmz;refine gG ?_;exact ⟨(),trivial,gw,gw⟩
    ·have q2:(o.unit=0)=False:=eq_false hu0;have q3:((L.length:Int)=1)=False:=eq_false fun h=>hu ⟨hu0,om⟩;have F:=aj3 @q2 @q3 @tmz;refine gG ?_;exact ⟨(),trivial,gw,gw⟩
   refine fN 23 @tmz ?_;refine gB ?_;refine fR (ai @Zag @tmz) ?_;refine gM (ι:=Unit) [12] [] (fun v=>[(12,.d (.one (.sl (Zac (srtO o L)))))]) (fun v=>[]) (fun v=>True) ?_ (fun v hv=>Exists.intro _ (ai (Wk.refl _) ?_))
   ·cases hcm:o.comm with
    | true =>
     rw [show srtO o L=Zaw L by unfold srtO;rw [if_pos hcm]];refine fN 24 (ai @hcm @tmz) ?_;refine gB ?_;refine fC @tmz (cSo) ?_;refine fR @tmz ?_;have F:=@tmz;refine gG ?_;exact ⟨(),trivial,gw,gw⟩
    | false =>
     rw [show srtO o L=L by unfold srtO;rw [if_neg (by rw [hcm];simp)]];have F:=ai @hcm @tmz;refine gG ?_;exact ⟨(),trivial,gw,gw⟩
   have hSB:tmsB (srtO o L):=by
    unfold tmsB at hfb ⊢;rw [ZlM hSp,hSl];exact hfb
   generalize srtO o L=S at hSl sz1 dz1 hSB ⊢;have em:Zab (appT op S)=[.lit (.int .i64 op),.lit (.string ByteArray.empty),.lit (.int .i64 0),.sl (Zac S)]:=by simp only [appT,Zab]
   have zs:sizeTm (appT op S)=1+sizeTms S:=by rw [ZaM];rfl
   have c1:=Zhj (t:=appT op S) (by unfold big;omega);rw [em] at c1;refine fN 25 @tmz ?_;refine gB ?_;have F:=@tmz;refine gCP [] [1000] (ZnL S hSB) ?_;clear F;rintro r pm ⟨a1,k1,rfl,rfl⟩;simp only [setA,retA,zipM,Taf,Tah];refine fR @e0P ?_;refine fN 26 @tmz ?_;by_cases h7:o.assoc=true∧7 < S.length
   ·rw [if_pos (show BigT o op S from .inl h7)];obtain ⟨hac,h7⟩:=h7;have q2:((S.length:Int)<=7)=False:=eq_false om;have q2':(((Zac S).length:Int)<=7)=False:=by rw [Zae];exact q2
    refine gLp 13 12 13 ?_;refine fR (ai @hac @q2') ?_;exact (have F:=e0P;gTP (R:=Ze8 (appT op S) false) [1000] ⟨a1,k1,rfl,rfl⟩)
   have hac:o.assoc=true->((S.length:Int)<=7)=True:=fun h=>eq_true (Int.not_lt.1 fun q=>h7 ⟨h,om⟩);have hres:(if BigT o op S then none else some (appT op S)).isSome=decide (sizeTm (appT op S)<=60∧depthTm (appT op S)<=20):=by
    by_cases hbg:BigT o op S
    ·rw [if_pos hbg];refine (decide_eq_false fun h=>?_).symm;rcases hbg with h | h | h
     ·exact h7 h
     ·omega
     ·omega
    ·rw [if_neg hbg];refine (decide_eq_true ⟨?_,?_⟩).symm
     ·exact Nat.not_lt.1 fun h=>hbg (.inr (.inl h))
     ·exact Nat.not_lt.1 fun h=>hbg (.inr (.inr h))
   have hgd:(if BigT o op S then none else some (appT op S)).getD (appT op S)=appT op S:=by
    split <;> rfl
   rw [hres,hgd];rcases Bool.eq_false_or_eq_true o.assoc with ha' | ha'
   ·have q2:(((Zac S).length:Int)<=7)=True:=by rw [Zae];exact hac ha'
    refine gLp 13 12 13 ?_;have F:=ai ha' q2;refine gCN 1000 c1 (RelB.tm RelB.nil) ?_;clear F;refine fR @e0P ?_;exact (have F:=e0P;gTP (R:=Ze8 (appT op S) _) [1000] ⟨a1,k1,rfl,rfl⟩)
   ·refine gLp 13 12 13 ?_;have F:=ha';refine gCN 1000 c1 (RelB.tm RelB.nil) ?_;clear F;refine fR @e0P ?_;exact (have F:=e0P;gTP (R:=Ze8 (appT op S) _) [1000] ⟨a1,k1,rfl,rfl⟩)
end
end Go.Proofs.YtmdkimnlbaahbaaGreatDoor
namespace Go.Proofs.YtmdkimnlbaahbaaGreatDoor
open Go.RowKit
open Classical in
noncomputable def cntT (x:Tm):List Tm->Nat
 | []=>0
 | y::l=>(if y=x then 1 else 0)+cntT x l
theorem ZgP {x:Tm}:∀ {l:List Tm},0 < cntT x l ↔ x∈l
 | []=>by simp [cntT]
 | y::l=>by
  simp only [cntT,Tbg];by_cases h:y=x
  ·subst h;simp only [if_true];exact ⟨fun _=>.inl trivial,fun _=>om⟩
  ·simp only [if_neg h,Nat.zero_add,ZgP (l:=l)];exact ⟨.inr,fun h'=>h'.resolve_left fun e=>h e.symm⟩
section
variable (rk:Int->Int) (cm:Int->Bool)
inductive Gr:Tm->Tm->Prop
 | same {a t:Tm} (h:t∈a.args):Gr a t
 | sub {a b t:Tm} (h:t∈a.args) (hg:Gr t b):Gr a b
 | rank {a b:Tm} (ha:a.op≠-1) (hb:b.op≠-1) (hall:∀ u,u∈b.args->Gr a u) (hr:rk b.op < rk a.op):Gr a b
 | bag {a b:Tm} (ha:a.op≠-1) (he:a.op=b.op) (hc:cm a.op=true) (hall:∀ u,u∈b.args->Gr a u) (f:Tm->Tm) (hf:∀ y,cntT y a.args < cntT y b.args->cntT (f y) b.args < cntT (f y) a.args) (hg:∀ y,cntT y a.args < cntT y b.args->Gr (f y) y) (x:Tm) (hx:cntT x b.args < cntT x a.args):Gr a b
 | lex {a b:Tm} (ha:a.op≠-1) (he:a.op=b.op) (hc:cm a.op=false) (hall:∀ u,u∈b.args->Gr a u) (i:Nat) (x y:Tm) (hx:a.args[i]?=some x) (hy:b.args[i]?=some y) (hj:∀ j,j < i->a.args[j]?=b.args[j]?) (hg:Gr x y):Gr a b
variable {rk:Int->Int} {cm:Int->Bool}
def BagG (rk:Int->Int) (cm:Int->Bool) (l m:List Tm):Prop:=(∀ y,cntT y l < cntT y m->∃ x,cntT x m < cntT x l∧Gr rk cm x y)∧∃ x,cntT x m < cntT x l
def LexG (rk:Int->Int) (cm:Int->Bool) (l m:List Tm):Prop:=∃ (i:Nat) (x y:Tm),l[i]?=some x∧m[i]?=some y∧(∀ j,j < i->l[j]?=m[j]?)∧Gr rk cm x y
def ZB1 (rk:Int->Int) (cm:Int->Bool) (a b:Tm):Prop:=a.op≠-1∧b.op≠-1∧(∀ u,u∈b.args->Gr rk cm a u)∧(rk b.op < rk a.op∨(a.op=b.op∧cm a.op=true∧BagG rk cm a.args b.args)∨(a.op=b.op∧cm a.op=false∧LexG rk cm a.args b.args))
theorem ZlW {a b:Tm}:Gr rk cm a b ↔ (∃ t,t∈a.args∧(t=b∨Gr rk cm t b))∨ZB1 rk cm a b:=by
 constructor
 ·intro h
  cases h with
  | same h=>exact .inl ⟨_,h,.inl rfl⟩
  | sub h hg=>exact .inl ⟨_,h,.inr hg⟩
  | rank ha hb hall hr=>exact .inr ⟨ha,hb,hall,.inl hr⟩
  | bag ha he hc hall f hf hg x hx=>exact .inr ⟨ha,he ▸ ha,hall,.inr (.inl ⟨he,hc,fun y hy=>⟨f y,hf y hy,hg y hy⟩,x,hx⟩)⟩
  | lex ha he hc hall i x y hx hy hj hg=>exact .inr ⟨ha,he ▸ ha,hall,.inr (.inr ⟨he,hc,i,x,y,hx,hy,hj,hg⟩)⟩
 ·rintro (⟨t,ht,rfl | hg⟩ | ⟨ha,hb,hall,hr | ⟨he,hc,hf,x,hx⟩ | ⟨he,hc,i,x,y,hx,hy,hj,hg⟩⟩)
  ·exact .same ht
  ·exact .sub ht hg
  ·exact .rank ha hb hall hr
  ·refine .bag ha he hc hall (fun y=>if h:cntT y a.args < cntT y b.args then Classical.choose (hf y h) else y) (fun y h=>?_) (fun y h=>?_) x hx
   ·simp only [h,dite_true];exact (Classical.choose_spec (hf y h)).1
   ·simp only [h,dite_true];exact (Classical.choose_spec (hf y h)).2
  ·exact .lex ha he hc hall i x y hx hy hj hg
theorem ZeJ {t a:Tm} (h:t∈a.args):sizeTm t < sizeTm a:=by
 have:=Za5 h;rw [ZaM a];omega
theorem ZlX {p q:Tm->Bool}:∀ {E:List Tm},(∀ x,x∈E->p x=true->q x=true)->(∃ z,z∈E∧q z=true∧p z=false)->E.countP p < E.countP q
 | [],_,⟨z,hz,_⟩=>by cases hz
 | e::E,h1,⟨z,hz,hq,hp⟩=>by
  have hle:E.countP p<=E.countP q:=List.countP_mono_left fun x hx=>h1 x (Tal _ hx);rw [List.countP_cons,List.countP_cons];rcases Tbg.1 hz with rfl | hz
  ·rw [hq,hp];simp;omega
  ·have ih:=ZlX (p:=p) (q:=q) (E:=E) (fun x hx=>h1 x (Tal _ hx)) ⟨z,hz,hq,hp⟩;have:=h1 e Tas
   cases h3:p e
   ·cases h4:q e <;> simp <;> omega
   ·rw [this h3];simp;omega
open Classical in
theorem Zxc {R:Tm->Tm->Prop} {Q:Tm->Prop} {E:List Tm} (hE:∀ x,Q x->x∈E) (hir:∀ x,Q x->¬ R x x) (htr:∀ x y z,Q x->Q y->Q z->R x y->R y z->R x z):∀ (n:Nat) (x0:Tm),Q x0->E.countP (fun z=>decide (Q z∧R z x0)) < n->∃ x,Q x∧(x=x0∨R x x0)∧∀ z,Q z->¬ R z x
 | 0,x0,_,h=>om
 | n+1,x0,hq,h=>by
  by_cases hz:∃ z,Q z∧R z x0
  ·obtain ⟨z,hz1,hz2⟩:=hz;have hlt:E.countP (fun y=>decide (Q y∧R y z)) < E.countP (fun y=>decide (Q y∧R y x0)):=by
    refine ZlX (fun x _ hx=>?_) ⟨z,hE z hz1,by simp [hz1,hz2],by simp [hir z hz1]⟩;simp only [decide_eq_true_eq] at hx ⊢;exact ⟨hx.1,htr x z x0 hx.1 hz1 hq hx.2 hz2⟩
   obtain ⟨x,h1,h2,h3⟩:=Zxc hE hir htr n z hz1 om;refine ⟨x,h1,.inr ?_,h3⟩;rcases h2 with rfl | h2
   ·exact hz2
   ·exact htr x z x0 h1 hz1 hq h2 hz2
  ·exact ⟨x0,hq,.inl rfl,fun z h1 h2=>hz ⟨z,h1,h2⟩⟩
theorem Zxd {l m p:List Tm} (hir:∀ x,(x∈l∨x∈m∨x∈p)->¬ Gr rk cm x x) (htr:∀ x y z,(x∈l∨x∈m∨x∈p)->(y∈l∨y∈m∨y∈p)->(z∈l∨z∈m∨z∈p)->Gr rk cm x y->Gr rk cm y z->Gr rk cm x z) (h1:BagG rk cm l m) (h2:BagG rk cm m p):BagG rk cm l p:=by
 have hin:∀ x,(cntT x m < cntT x l∨cntT x p < cntT x m)->x∈l∨x∈m∨x∈p:=fun x hx=>by
  rcases hx with h | h
  ·exact .inl (ZgP.1 om)
  ·exact .inr (.inl (ZgP.1 om))
 have key:∀ x0,(cntT x0 m < cntT x0 l∨cntT x0 p < cntT x0 m)->∃ x,(cntT x p < cntT x l)∧(x=x0∨Gr rk cm x x0):=fun x0 hx0=>by
  obtain ⟨x,q1,q2,q3⟩:=Zxc (R:=Gr rk cm) (Q:=fun x=>cntT x m < cntT x l∨cntT x p < cntT x m) (E:=l++(m++p)) (fun x hx=>by simpa using hin x hx) (fun x hx=>hir x (hin x hx)) (fun x y z hx hy hz=>htr x y z (hin x hx) (hin y hy) (hin z hz)) _ x0 hx0 (Tan _)
  ·refine ⟨x,?_,q2⟩;rcases q1 with q1 | q1
   ·by_cases h:cntT x m < cntT x p
    ·obtain ⟨z,h3,h4⟩:=h2.1 x h;exact absurd h4 (q3 z (.inr h3))
    ·omega
   ·by_cases h:cntT x l < cntT x m
    ·obtain ⟨z,h3,h4⟩:=h1.1 x h;exact absurd h4 (q3 z (.inl h3))
    ·omega
 refine ⟨fun y hy=>?_,?_⟩
 ·have step:∃ x0,(cntT x0 m < cntT x0 l∨cntT x0 p < cntT x0 m)∧Gr rk cm x0 y:=by
   by_cases h:cntT y m < cntT y p
   ·obtain ⟨x0,h3,h4⟩:=h2.1 y h;exact ⟨x0,.inr h3,h4⟩
   ·obtain ⟨x0,h3,h4⟩:=h1.1 y om;exact ⟨x0,.inl h3,h4⟩
  obtain ⟨x0,hx0,hg⟩:=step;obtain ⟨x,hx,hxx⟩:=key x0 hx0;refine ⟨x,hx,?_⟩;rcases hxx with rfl | hxx
  ·exact hg
  ·exact htr x x0 y (.inl (ZgP.1 om)) (hin x0 hx0) (.inr (.inr (ZgP.1 om))) hxx hg
 ·obtain ⟨x0,hx0⟩:=h1.2;obtain ⟨x,hx,_⟩:=key x0 (.inl hx0);exact ⟨x,hx⟩
theorem Zxe {l m p:List Tm} (htr:∀ x y z,x∈l->y∈m->z∈p->Gr rk cm x y->Gr rk cm y z->Gr rk cm x z) (h1:LexG rk cm l m) (h2:LexG rk cm m p):LexG rk cm l p:=by
 obtain ⟨i,x,y,hx,hy,hj,hg⟩:=h1;obtain ⟨k,u,v,hu,hv,hk,hh⟩:=h2;rcases Nat.lt_trichotomy i k with h | h | h
 ·exact ⟨i,x,y,hx,by rw [<- hk i h];exact hy,fun j hji=>(hj j hji).trans (hk j om),hg⟩
 ·subst h;obtain rfl:y=u:=by rw [hy] at hu;injection hu
  exact ⟨i,x,v,hx,hv,fun j hji=>(hj j hji).trans (hk j hji),htr x y v (Tac hx) (Tac hy) (Tac hv) hg hh⟩
 ·exact ⟨k,u,v,by rw [hj k h];exact hu,hv,fun j hji=>(hj j om).trans (hk j hji),hh⟩
def TrOn (rk:Int->Int) (cm:Int->Bool) (k:Nat):Prop:=∀ a b c,sizeTm a<=k->sizeTm b<=k->sizeTm c<=k->Gr rk cm a b->Gr rk cm b c->Gr rk cm a c
def IrOn (rk:Int->Int) (cm:Int->Bool) (k:Nat):Prop:=∀ a,sizeTm a<=k->¬ Gr rk cm a a
theorem ZsG {k:Nat} (hI:IrOn rk cm k) (hT:TrOn rk cm k):∀ (n:Nat) (a b c:Tm),sizeTm a+sizeTm b+sizeTm c < n->sizeTm a<=k+1->sizeTm b<=k+1->sizeTm c<=k+1->Gr rk cm a b->Gr rk cm b c->Gr rk cm a c
 | 0,_,_,_,h,_,_,_,_,_=>om
 | n+1,a,b,c,hn,ka,kb,kc,hab,hbc=>by
  have ih:=ZsG hI hT n;rcases ZlW.1 hab with ⟨t,ht,rfl | hg⟩ | ⟨ha,hb,hall,hr⟩
  ·exact .sub ht hbc
  ·have:=ZeJ ht;exact .sub ht (ih t b c om om kb kc hg hbc)
  ·rcases ZlW.1 hbc with ⟨u,hu,rfl | hg⟩ | ⟨_,hc,hall2,hr2⟩
   ·exact hall u hu
   ·have:=ZeJ hu;exact ih a u c om ka om kc (hall u hu) hg
   ·refine ZlW.2 (.inr ⟨ha,hc,fun v hv=>by
     have:=ZeJ hv;exact ih a b v om ka kb om hab (hall2 v hv),?_⟩)
    have el:∀ x,(x∈a.args∨x∈b.args∨x∈c.args)->sizeTm x<=k:=fun x hx=>by
     rcases hx with h | h | h <;> (have:=ZeJ h;omega)
    rcases hr with hr | ⟨e1,c1,hr⟩ | ⟨e1,c1,hr⟩
    ·rcases hr2 with hr2 | ⟨e2,_⟩ | ⟨e2,_⟩
     ·exact .inl om
     ·exact .inl (by rw [<- e2];exact hr)
     ·exact .inl (by rw [<- e2];exact hr)
    ·rcases hr2 with hr2 | ⟨e2,c2,hr2⟩ | ⟨e2,c2,hr2⟩
     ·exact .inl (by rw [e1];exact hr2)
     ·refine .inr (.inl ⟨e1.trans e2,c1,Zxd (fun x hx=>hI x (el x hx)) (fun x y z hx hy hz=>hT x y z (el x hx) (el y hy) (el z hz)) hr hr2⟩)
     ·rw [e1,c2] at c1;cases c1
    ·rcases hr2 with hr2 | ⟨e2,c2,hr2⟩ | ⟨e2,c2,hr2⟩
     ·exact .inl (by rw [e1];exact hr2)
     ·rw [e1,c2] at c1;cases c1
     ·refine .inr (.inr ⟨e1.trans e2,c1,Zxe (fun x y z hx hy hz=>?_) hr hr2⟩);exact hT x y z (el x (.inl hx)) (el y (.inr (.inl hy))) (el z (.inr (.inr hz)))
theorem Zxf:∀ (k:Nat),IrOn rk cm k∧TrOn rk cm k
 | 0=>⟨fun a h=>by rw [ZaM] at h;omega,fun a _ _ h=>by rw [ZaM] at h;omega⟩
 | k+1=>by
  obtain ⟨hI,hT⟩:=Zxf k;have hT1:TrOn rk cm (k+1):=fun a b c ha hb hc=>ZsG hI hT _ a b c (Tan _) ha hb hc;refine ⟨fun a ha h=>?_,hT1⟩;rcases ZlW.1 h with ⟨t,ht,rfl | hg⟩ | ⟨_,_,hall,hr⟩
  ·have:=ZeJ ht;omega
  ·have:=ZeJ ht;exact hI t om (hT1 t a t om ha om hg (.same ht))
  ·rcases hr with hr | ⟨_,_,_,x,hx⟩ | ⟨_,_,i,x,y,hx,hy,_,hg⟩
   ·omega
   ·omega
   ·obtain rfl:x=y:=by rw [hx] at hy;injection hy
    have:=ZeJ (Tac hx);exact hI x om hg
theorem Gr.trans {a b c:Tm} (h:Gr rk cm a b) (h':Gr rk cm b c):Gr rk cm a c:=(Zxf (sizeTm a+sizeTm b+sizeTm c)).2 a b c om om om h h'
end
end Go.Proofs.YtmdkimnlbaahbaaGreatDoor
namespace Go.Proofs.YtmdkimnlbaahbaaGreatDoor
open Go.RowKit
section
variable {rk:Int->Int} {cm:Int->Bool}
end
theorem okA {t a:Tm} (h:okTm t) (ha:a∈t.args):okTm a:=by
 obtain ⟨op,nm,so,args⟩:=t;simp only [okTm] at h;exact h.2.2.2.mem ha
section
variable {e:Env} {mask:Nat} {Q:PX->St->Prop} {ds:List (Option Nat)}
def ancN (L:List Oper):Nat->Nat->List Nat
 | 0,_=>[]
 | n+1,j=>ZbT L j++(ZbT L j).flatMap (ancN L n)
theorem Zih {L:List Oper} {listed:Array Bool} (h:∀ j,listed.getD j false=true->∀ q∈ZbT L j,listed.getD q false=true):∀ (n j:Nat),(∀ q∈ZbT L j,listed.getD q false=true)->∀ q∈ancN L n j,listed.getD q false=true
 | 0,_,_,q,hq=>by cases hq
 | n+1,j,hj,q,hq=>by
  rcases Tbh.1 hq with hq | hq
  ·exact hj q hq
  ·obtain ⟨r,hr,hq⟩:=List.mem_flatMap.1 hq;exact Zih h n r (h r (hj r hr)) q hq
def Ze9 (e:Env) (ds:List (Option Nat)) (L:List Oper) (cons:Nat->Option Nat) (ini:List Nat) (B:St->Prop) (P:Nat->St->Prop):Nat->List Oper->Prop
 | _,[]=>True
 | i,o::os=>(∀ s m,B ⟨s,m⟩->(∀ j∈ZbT L i,(cons j=none∨cons j=some i)->P j ⟨s,m⟩)->(∀ j∈ini,cons j=some i->P j ⟨s,m⟩)->(∀ j∈ini,∀ k,cons j=some k->i∈ZbT L k->P j ⟨s,m⟩)->Runs e ds 0 [o] ⟨s,m⟩ (fun σ'=>B σ'∧P i σ'∧∀ j,j≠i->i ∉ ancN L 6 j->cons j≠some i->(∀ k,cons j=some k->k ∉ ancN L 6 i)->P j ⟨s,m⟩->P j σ'))∧Ze9 e ds L cons ini B P (i+1) os
theorem Ze9.get {L:List Oper} {cons:Nat->Option Nat} {ini:List Nat} {B:St->Prop} {P:Nat->St->Prop}:∀ {l:List Oper} {k i:Nat} {o:Oper},Ze9 e ds L cons ini B P k l->l[i]?=some o->∀ s m,B ⟨s,m⟩->(∀ j∈ZbT L (k+i),(cons j=none∨cons j=some (k+i))->P j ⟨s,m⟩)->(∀ j∈ini,cons j=some (k+i)->P j ⟨s,m⟩)->(∀ j∈ini,∀ k',cons j=some k'->k+i∈ZbT L k'->P j ⟨s,m⟩)->Runs e ds 0 [o] ⟨s,m⟩ (fun σ'=>B σ'∧P (k+i) σ'∧∀ j,j≠k+i->k+i ∉ ancN L 6 j->cons j≠some (k+i)->(∀ k',cons j=some k'->k' ∉ ancN L 6 (k+i))->P j ⟨s,m⟩->P j σ')
 | [],k,i,o,_,h=>by simp at h
 | x::l,k,0,o,h,ho=>by
  simp only [Tat,Taq] at ho;subst ho;exact h.1
 | x::l,k,i+1,o,h,ho=>by
  have:=Ze9.get (l:=l) (k:=k+1) (i:=i) (o:=o) h.2 (by simpa using ho);rw [show k+1+i=k+(i+1) by omega] at this;exact this
theorem Zkf {l:List Oper} {cons:Nat->Option Nat} {ini:List Nat} {K B:St->Prop} {P:Nat->St->Prop} (hb:Zjw l=true) (hini:ini.all (fun j=>decide (l.length<=j))=true) (hstep:Ze9 e ds l cons ini B P 0 l) (hK:∀ s m,B ⟨s,m⟩->(∀ i,i < l.length∨i∈ini->(∀ k,cons i=some k->l.length<=k)->P i ⟨s,m⟩)->K ⟨s,m⟩) :
  ∀ (f:Nat) (listed:Array Bool) (σ:St),listed.size=l.length->(List.range l.length).countP (fun i=>!listed.getD i true)=f->B σ->(∀ j,listed.getD j false=true->(P j σ∨∃ k,cons j=some k∧listed.getD k false=true)∧∀ q∈ZbT l j,listed.getD q false=true)->(∀ j∈ini,P j σ∨∃ k,cons j=some k∧listed.getD k false=true)->ZdV e ds l.toArray K f listed σ:=by
 have hback:∀ i o,l[i]?=some o->o.guard=none∧∀ e∈o.after,Region.binds .any e=true->e.on < i:=fun i o ho=>by
  have h1:=List.all_eq_true.1 hb i (List.mem_range.2 (Tad.1 ho).1);rw [ho] at h1;simp only [Tar,Option.isNone_iff_eq_none,List.all_eq_true,Bool.or_eq_true,Bool.not_eq_true',decide_eq_true_eq] at h1;refine ⟨h1.1,fun e he hbe=>?_⟩;rcases h1.2 e (Array.mem_toList_iff.2 he) with h2 | h2
  ·rw [hbe] at h2;cases h2
  ·exact h2
 have hfirst:∀ (listed:Array Bool),listed.size=l.length->Region.ready .any l.toArray listed=[]->∀ i,i < l.length->listed.getD i false=true:=fun listed hsz h0 i=>by
  induction i using Nat.strongRecOn with
  | _ i ih =>
   intro hi;rw [<- Zbf (by omega:i < listed.size)]
   cases hun:listed.getD i true with
   | true=>rfl
   | false =>
   obtain ⟨o,ho⟩:∃ o,l[i]?=some o:=⟨_,Taa hi⟩;have:=(mem_ready (ops:=l.toArray) (md:=.any)).2 ⟨hun,o,by simpa using ho,fun e he hbe=>ih e.on ((hback i o ho).2 e he hbe) (by have:=(hback i o ho).2 e he hbe;omega)⟩;rw [h0] at this
   cases this
 have hlt:∀ (listed:Array Bool) (k:Nat),listed.getD k false=true->k < listed.size:=fun listed k h=>Classical.byContradiction fun hn=>by
  rw [Array.getD_eq_getD_getElem?,Array.getElem?_eq_none om] at h
  cases h
 intro f
 induction f with
 | zero =>
  intro listed σ hsz hc hB hP hI;have hall:∀ i,i < l.length->listed.getD i true=true:=fun i hi=>by
   have:=List.countP_eq_zero.1 hc i (List.mem_range.2 hi);simpa using this
  refine ⟨?_,hK σ.s σ.m hB fun i hio hk=>?_⟩
  ·cases hr:Region.ready .any l.toArray listed with
   | nil=>rfl
   | cons i r =>
    have hi:i∈Region.ready .any l.toArray listed:=by rw [hr];simp
    obtain ⟨hun,oi,hoi,_⟩:=mem_ready.1 hi;have hil:i < l.length:=by
     have:=(Tbl.1 hoi).1;simpa using this
    rw [hall i hil] at hun
    cases hun
  ·have hno:¬ ∃ k,cons i=some k∧listed.getD k false=true:=fun ⟨k,h1,h2⟩=>by
    have:=hlt listed k h2;have:=hk k h1;omega
   rcases hio with hi | hi
   ·exact (hP i (by rw [<- Zbf om];exact hall i hi)).1.resolve_right hno
   ·exact (hI i hi).resolve_right hno
 | succ f ih =>
  intro listed σ hsz hc hB hP hI;refine ⟨fun h0=>hK σ.s σ.m hB fun i hio hk=>?_,fun i hi=>?_⟩
  ·have hno:¬ ∃ k,cons i=some k∧listed.getD k false=true:=fun ⟨k,h1,h2⟩=>by
    have:=hlt listed k h2;have:=hk k h1;omega
   rcases hio with hi | hi
   ·exact (hP i (hfirst listed hsz h0 i hi)).1.resolve_right hno
   ·exact (hI i hi).resolve_right hno
  obtain ⟨hun,o,hoi,hall⟩:=mem_ready.1 hi;have ho:l[i]?=some o:=by simpa using hoi
  have hil:i < l.length:=(Tad.1 ho).1;have hls:i < listed.size:=om;have hda:ZbT l i=Zep o:=by unfold ZbT;rw [ho]
  have hunf:listed.getD i false=false:=by rw [<- Zbf hls];exact hun
  have hanc:∀ q∈ancN l 6 i,listed.getD q false=true:=Zih (fun j hj=>(hP j hj).2) 6 i fun q hq=>by
   rw [hda] at hq;simp only [Zep,Tbi,List.mem_filter] at hq;obtain ⟨e,⟨he,hbe⟩,rfl⟩:=hq;exact hall e (Array.mem_toList_iff.1 he) hbe
  refine ⟨o,hoi,(hback i o ho).1,Zdt (hback i o ho).1 ?_⟩;have h1:=Ze9.get hstep ho σ.s σ.m hB (fun j hj hcj=>by
   rw [Nat.zero_add] at hj hcj;have hj':=hj;rw [hda] at hj';simp only [Zep,Tbi,List.mem_filter] at hj';obtain ⟨e,⟨he,hbe⟩,rfl⟩:=hj';refine (hP e.on (hall e (Array.mem_toList_iff.1 he) hbe)).1.resolve_right ?_;rintro ⟨k,hk1,hk2⟩;rcases hcj with hcj | hcj
   ·rw [hcj] at hk1;cases hk1
   ·rw [hcj] at hk1;injection hk1 with hk1
    subst hk1;rw [hunf] at hk2
    cases hk2) (fun j hj hc=>by
   rw [Nat.zero_add] at hc;refine (hI j hj).resolve_right ?_;rintro ⟨k,hk1,hk2⟩;rw [hc] at hk1;injection hk1 with hk1
   subst hk1;rw [hunf] at hk2
   cases hk2) (fun j hj k' hc hd=>by
   rw [Nat.zero_add] at hd;refine (hI j hj).resolve_right ?_;rintro ⟨k,hk1,hk2⟩;rw [hc] at hk1;injection hk1 with hk1
   subst hk1;have h2:=(hP _ hk2).2 i hd;rw [hunf] at h2
   cases h2)
  rw [Nat.zero_add] at h1;refine Zlm h1 fun σ' ⟨k1,k2,k3⟩=>ih _ σ' (by simpa using hsz) ?_ k1 (fun j hj=>?_) fun j hj=>?_
  ·have h1:(List.range l.length).countP (fun j=>!(listed.setIfInBounds i true).getD j true)+1=(List.range l.length).countP (fun j=>!listed.getD j true):=by
    have hperm:=List.perm_cons_erase (List.mem_range.2 hil);rw [hperm.countP_eq,hperm.countP_eq,List.countP_cons,List.countP_cons];have hcong:((List.range l.length).erase i).countP (fun j=>!(listed.setIfInBounds i true).getD j true)=((List.range l.length).erase i).countP (fun j=>!listed.getD j true):=by
     refine List.countP_congr fun j hj=>?_;have hne:j≠i:=fun e=>by
      subst e;exact List.Nodup.not_mem_erase (List.nodup_range) hj
     rw [getD_set_ne true (Ne.symm hne)]
    rw [hcong,hun];simp [hls]
   omega
  ·by_cases hji:j=i
   ·subst hji;refine ⟨.inl k2,fun q hq=>?_⟩;rw [hda] at hq;simp only [Zep,Tbi,List.mem_filter] at hq;obtain ⟨e,⟨he,hbe⟩,rfl⟩:=hq;have hlt:=(hback j o ho).2 e (Array.mem_toList_iff.1 he) hbe;rw [getD_set_ne false om];exact hall e (Array.mem_toList_iff.1 he) hbe
   ·rw [getD_set_ne false (Ne.symm hji)] at hj;obtain ⟨p1,p2⟩:=hP j hj;have hni:i ∉ ancN l 6 j:=fun hm=>by
     have h2:=Zih (fun j hj=>(hP j hj).2) 6 j p2 i hm;rw [hunf] at h2
     cases h2
    refine ⟨?_,fun q hq=>?_⟩
    ·rcases p1 with p1 | ⟨k,hk1,hk2⟩
     ·by_cases hci:cons j=some i
      ·refine .inr ⟨i,hci,?_⟩;rw [<- Zbf (by simpa using hls)];simp [Array.getD_eq_getD_getElem?,hls]
      ·by_cases hdep:∃ k,cons j=some k∧k∈ancN l 6 i
       ·obtain ⟨k,hk1,hk2⟩:=hdep;refine .inr ⟨k,hk1,?_⟩;have hk3:=hanc k hk2;have hki:i≠k:=fun e=>by subst e;rw [hunf] at hk3;cases hk3
        rw [getD_set_ne false hki];exact hk3
       ·exact .inl (k3 j hji hni hci (fun k hk1 hk2=>hdep ⟨k,hk1,hk2⟩) p1)
     ·refine .inr ⟨k,hk1,?_⟩;by_cases hki:k=i
      ·subst hki;rw [hunf] at hk2;cases hk2
      ·rw [getD_set_ne false (Ne.symm hki)];exact hk2
    ·by_cases hqi:q=i
     ·subst hqi;have h2:=p2 q hq;rw [hunf] at h2
      cases h2
     ·rw [getD_set_ne false (Ne.symm hqi)];exact p2 q hq
  ·have hjl:l.length<=j:=by have:=List.all_eq_true.1 hini j hj;simpa using this
   have hji:j≠i:=om;have hni:i ∉ ancN l 6 j:=fun hm=>by
    have hd:ZbT l j=[]:=by unfold ZbT;rw [List.getElem?_eq_none hjl]
    simp [ancN,hd] at hm
   rcases hI j hj with p1 | ⟨k,hk1,hk2⟩
   ·by_cases hci:cons j=some i
    ·refine .inr ⟨i,hci,?_⟩;rw [<- Zbf (by simpa using hls)];simp [Array.getD_eq_getD_getElem?,hls]
    ·by_cases hdep:∃ k,cons j=some k∧k∈ancN l 6 i
     ·obtain ⟨k,hk1,hk2⟩:=hdep;refine .inr ⟨k,hk1,?_⟩;have hk3:=hanc k hk2;have hki:i≠k:=fun e=>by subst e;rw [hunf] at hk3;cases hk3
      rw [getD_set_ne false hki];exact hk3
     ·exact .inl (k3 j hji hni hci (fun k hk1 hk2=>hdep ⟨k,hk1,hk2⟩) p1)
   ·refine .inr ⟨k,hk1,?_⟩;by_cases hki:k=i
    ·subst hki;rw [hunf] at hk2;cases hk2
    ·rw [getD_set_ne false (Ne.symm hki)];exact hk2
def lkS:List (Nat × A)->List (Nat × A)->Prop
 | [],_=>True
 | (t,x)::r,s=>gs s t=x∧lkS r s
def lkM:List (Nat × Bk)->List (Nat × Bk)->Prop
 | [],_=>True
 | (t,x)::r,m=>gm m t=some x∧lkM r m
theorem ZAm {s:List (Nat × A)}:∀ {sb:List (Nat × A)},(∀ p∈sb,gs s p.1=p.2) ↔ lkS sb s
 | []=>by simp [lkS]
 | (t,x)::r=>by simp only [List.forall_mem_cons,lkS,ZAm (sb:=r)]
theorem ZAn {m:List (Nat × Bk)}:∀ {mb:List (Nat × Bk)},(∀ p∈mb,gm m p.1=some p.2) ↔ lkM mb m
 | []=>by simp [lkM]
 | (t,x)::r=>by simp only [List.forall_mem_cons,lkM,ZAn (mb:=r)]
theorem Za6 {sb:List (Nat × A)} {mb:List (Nat × Bk)} {s:List (Nat × A)} {m:List (Nat × Bk)}:Lks sb mb ⟨s,m⟩ ↔ lkS sb s∧lkM mb m:=and_congr ZAm ZAn
abbrev Tab:=List (List (Nat × A) × List (Nat × Bk))
def tabP (T:Tab) (i:Nat) (σ:St):Prop:=Lks (T.getD i ([],[])).1 (T.getD i ([],[])).2 σ
theorem Zby {T:Tab} {i:Nat} {s:List (Nat × A)} {m:List (Nat × Bk)}:tabP T i ⟨s,m⟩ ↔ lkS (T.getD i ([],[])).1 s∧lkM (T.getD i ([],[])).2 m:=Za6
def ZfD (L:List Oper) (cons:Nat->Option Nat) (T:Tab) (i:Nat) (f:List (Nat × A)->List (Nat × Bk)->Bool):Bool:=(List.range T.length).all fun j=>j==i || ((ancN L 6 j).contains i || (cons j==some i || ((match cons j with | some k=>(ancN L 6 i).contains k | none=>false) || f (T.getD j ([],[])).1 (T.getD j ([],[])).2)))
theorem ZjH {L:List Oper} {cons:Nat->Option Nat} {T:Tab} {i:Nat} {f:List (Nat × A)->List (Nat × Bk)->Bool} {σ σ':St} (h:ZfD L cons T i f=true) (hf:∀ sb mb,f sb mb=true->Lks sb mb σ->Lks sb mb σ'):∀ j,j≠i->i ∉ ancN L 6 j->cons j≠some i->(∀ k,cons j=some k->k ∉ ancN L 6 i)->tabP T j σ->tabP T j σ':=fun j h1 h2 h3 h4 hp=>by
 unfold tabP at hp ⊢;by_cases hj:j < T.length
 ·have:=List.all_eq_true.1 h j (List.mem_range.2 hj);simp only [Bool.or_eq_true,beq_iff_eq,List.contains_eq_mem,decide_eq_true_eq] at this;rcases this with q | q | q | q | q
  ·exact absurd q h1
  ·exact absurd q h2
  ·exact absurd q h3
  ·cases hc:cons j with
   | none=>rw [hc] at q;cases q
   | some k=>rw [hc] at q;exact absurd (by simpa using q) (h4 k hc)
  ·exact hf _ _ q hp
 ·have e:T.getD j ([],[])=([],[]):=by rw [List.getD_eq_getElem?_getD,List.getElem?_eq_none om];rfl
  rw [e];exact ⟨fun p hp=>(by cases hp),fun p hp=>by cases hp⟩
section
variable {sb:List (Nat × A)} {mb:List (Nat × Bk)} {s:List (Nat × A)} {m:List (Nat × Bk)} {d k:Nat} {α:A} {bk:Bk}
theorem Lks.kill (h:Lks sb mb ⟨s,m⟩) (hf:sb.all (fun p=>!keyB k p.2)=true):Lks sb mb ⟨Zaq k s,m⟩:=⟨fun p hp=>by
 have h1:=List.all_eq_true.1 hf p hp;have h2:=h.1 p hp;show gs (Zaq k s) p.1=p.2;rw [ZeB _ _ _ (by rw [h2];simpa using h1)];exact h2,h.2⟩
theorem Lks.mrem (h:Lks sb mb ⟨s,m⟩) (hf:mb.all (fun p=>p.1 != k)=true):Lks sb mb ⟨s,remM k m⟩:=⟨h.1,fun p hp=>by
 have h1:=List.all_eq_true.1 hf p hp;simp only [bne_iff_ne,ne_eq] at h1;show gm (remM k m) p.1=some p.2;rw [ZaC,if_neg h1];exact h.2 p hp⟩
theorem Zxg {x:A} (h:keyB k x=false):frzA k bk x=x:=by
 cases x <;> simp_all [frzA,keyB]
theorem Lks.frz (h:Lks sb mb ⟨s,m⟩) (hf:sb.all (fun p=>!keyB k p.2)=true) (hm:mb.all (fun p=>p.1 != k)=true):Lks sb mb ⟨frzS k bk s,remM k m⟩:=by
 refine Lks.mrem (m:=m) ⟨fun p hp=>?_,h.2⟩ hm;have h1:=List.all_eq_true.1 hf p hp;have h2:=h.1 p hp;show gs (frzS k bk s) p.1=p.2;rw [Zmc,h2];exact Zxg (by simpa using h1)
def Zoa (d:Nat) (sb:List (Nat × A)) (_:List (Nat × Bk)):Bool:=sb.all fun p=>p.1 != d
def ZAo (d:Nat) (_:List (Nat × A)) (mb:List (Nat × Bk)):Bool:=mb.all fun p=>p.1 != d
def ZjI (d k:Nat) (sb:List (Nat × A)) (mb:List (Nat × Bk)):Bool:=ZeA d sb mb && ZeA k sb mb
theorem Lks.ownE (h:Lks sb mb ⟨s,m⟩) (hf:ZjI d k sb mb=true):Lks sb mb ⟨(d,α)::Zaq d (Zaq k s),(d,bk)::remM d (remM k m)⟩:=by
 simp only [ZjI,ZeA,Tar,List.all_eq_true,bne_iff_ne,ne_eq,Bool.not_eq_true'] at hf;refine Lks.born (Lks.mrem (Lks.kill h ?_) ?_) ?_
 ·simp only [List.all_eq_true,Bool.not_eq_true'];exact fun p hp=>(hf.2.1 p hp).2
 ·simp only [List.all_eq_true,bne_iff_ne,ne_eq];exact fun p hp=>hf.2.2 p hp
 ·simp only [ZeA,Tar,List.all_eq_true,bne_iff_ne,ne_eq,Bool.not_eq_true'];exact hf.1
end
section
variable {L:List Oper} {cons:Nat->Option Nat} {T:Tab} {i:Nat} {sb:List (Nat × A)} {mb:List (Nat × Bk)} {s s2:List (Nat × A)} {m m2:List (Nat × Bk)} {d k:Nat} {α:A} {bk:Bk}
abbrev Did (L:List Oper) (cons:Nat->Option Nat) (T:Tab) (i:Nat) (sb:List (Nat × A)) (mb:List (Nat × Bk)) (s:List (Nat × A)) (m:List (Nat × Bk)) (σ':St):Prop:=Lks sb mb σ'∧tabP T i σ'∧∀ j,j≠i->i ∉ ancN L 6 j->cons j≠some i->(∀ k,cons j=some k->k ∉ ancN L 6 i)->tabP T j ⟨s,m⟩->tabP T j σ'
theorem kS (hB:Lks sb mb ⟨s,m⟩) (hp:tabP T i ⟨(d,α)::s,m⟩) (h1:Zoa d sb mb=true:=by rfl) (h2:ZfD L cons T i (Zoa d)=true:=by rfl):Did L cons T i sb mb s m ⟨(d,α)::s,m⟩:=⟨hB.slot h1,hp,ZjH h2 fun _ _ h hl=>hl.slot h⟩
theorem kB (hB:Lks sb mb ⟨s,m⟩) (hp:tabP T i ⟨(d,α)::Zaq d s,(d,bk)::remM d m⟩) (h1:ZeA d sb mb=true:=by rfl) (h2:ZfD L cons T i (ZeA d)=true:=by rfl):Did L cons T i sb mb s m ⟨(d,α)::Zaq d s,(d,bk)::remM d m⟩:=⟨hB.born h1,hp,ZjH h2 fun _ _ h hl=>hl.born h⟩
theorem kE (hB:Lks sb mb ⟨s,m⟩) (hp:tabP T i ⟨(d,α)::Zaq d (Zaq k s),(d,bk)::remM d (remM k m)⟩) (h1:ZjI d k sb mb=true:=by rfl) (h2:ZfD L cons T i (ZjI d k)=true:=by rfl):Did L cons T i sb mb s m ⟨(d,α)::Zaq d (Zaq k s),(d,bk)::remM d (remM k m)⟩:=⟨hB.ownE h1,hp,ZjH h2 fun _ _ h hl=>hl.ownE h⟩
end
theorem gGk {id:Nat} {l:List Oper} {s:List (Nat × A)} {m:List (Nat × Bk)} (sb:List (Nat × A)) (mb:List (Nat × Bk)) (T:Tab) (cons:Nat->Option Nat) (ini:List Nat) (hB:Lks sb mb ⟨s,m⟩) (hI:∀ j∈ini,tabP T j ⟨s,m⟩) (hS:Ze9 e (l.map (·.dst)) l cons ini (Lks sb mb) (tabP T) 0 l) (hK:∀ s' m',Lks sb mb ⟨s',m'⟩->(∀ i,i < l.length∨i∈ini->(∀ k,cons i=some k->l.length<=k)->tabP T i ⟨s',m'⟩)->∃ sf mf,Lks sf mf ⟨s',m'⟩∧Q .normal ⟨sf,mf⟩)
  (hb:Zjw l=true:=by decide +kernel) (hini:ini.all (fun j=>decide (l.length<=j))=true:=by decide +kernel) (hT:regT l.toArray 0=true:=by decide +kernel):pwp e mask (.region id l.toArray true) ⟨s,m⟩ Q:=fun he U w0 S0 nt a w hok hs=>by
 refine Zkq he hT (K:=fun σ'=>∃ sf mf,Lks sf mf σ'∧Q .normal ⟨sf,mf⟩) (fun a w σ' ⟨sf,mf,h1,h2⟩ h3=>⟨⟨sf,mf⟩,h2,h3.weak (fun t=>Zlk t h1.1) (fun t bk=>Zll t bk h1.2)⟩) (Zlc hok) hs ?_;simp only [List.take_zero,Runs]
 have:=Zkf (K:=fun σ'=>∃ sf mf,Lks sf mf σ'∧Q .normal ⟨sf,mf⟩) hb hini hS hK l.length (Zbp l.length 0) ⟨s,m⟩ (by simp [Zbp]) (by
  rw [List.countP_eq_length.2]
  ·simp
  ·intro i hi;have hi':=List.mem_range.1 hi;simp [Zbp,hi']) hB (fun j hj=>by
   have h0:(Zbp l.length 0).getD j false=false:=by
    by_cases hjl:j < l.length
    ·simp [Zbp,hjl]
    ·simp [Zbp,hjl]
   rw [h0] at hj
   cases hj) (fun j hj=>.inl (hI j hj))
 simpa using this
end
noncomputable def mk6T (g:Sgn) (op:Int) (xs:List Tm):Tm:=match g.ops[op.toNat]? with
 | none=>zTm
 | some o=>match o.decls[0]? with
  | none=>zTm
  | some d=>mk6 g o d op xs
section
variable {g:Sgn}
theorem ZA1 {op:Int} {xs:List Tm} {t:Tm} (h:mkT g op xs=some t):mk6T g op xs=t:=by
 unfold mkT at h;unfold mk6T
 cases ho:g.ops[op.toNat]? with
 | none=>rw [ho] at h;cases h
 | some o =>
  rw [ho] at h;simp only at h ⊢
  cases hd:o.decls[0]? with
  | none=>rw [hd] at h;cases h
  | some d =>
   rw [hd] at h;simp only at h ⊢;simp only [mk6,h,Option.getD_some]
end
theorem ZqE {e:Env} {f:FuncId} {xs:List D} {P:Tm->Bool->Prop} (h:ConP e f xs [] (fun r pm=>∃ u b,P u b∧Ze8 u b r pm)):ConE e f xs (fun r=>∃ u b,P u b∧r=[.agg (Zab u),.one (.lit (.bool b))]):=by
 refine ⟨h.1,fun w S vs hS hE hG hvs=>(h.2 w S vs hS hE hG (fun x hx=>by cases hx) trivial hvs).mono fun en w' ⟨v,r,pm,h1,⟨u,b,hP,a,cap,hr,hpm⟩,hk,hg,hp,_,ha⟩=>?_⟩;subst hr hpm;refine ⟨v,_,h1,⟨u,b,hP,rfl⟩,hk.up fun c q=>q.elim id fun ⟨x,hx,_⟩=>(by cases hx),hg,?_⟩;obtain ⟨q1,q2⟩:=hp _ Tas;have q1:ZaE w' _ _ 4 (Zac u.args) (.slice a (Zac u.args).length cap):=q1;obtain ⟨us,hv,hr⟩:=ha;refine ⟨us,hv,?_⟩
 match us,hr with
 | [v1,v2],⟨⟨vs1,e1,hr1⟩,e2,_⟩ =>
  refine ⟨⟨vs1,e1,?_⟩,e2,trivial⟩
  match vs1,hr1 with
  | [u0,u1,u2,u3],hr1 =>
   simp only [topC,Zad,and_true] at hr1;obtain ⟨k0,k1,k2,k3⟩:=hr1;have hec:Zab u=[.lit (.int .i64 u.op),.lit (.string u.name),.lit (.int .i64 u.sort),.sl (Zac u.args)]:=by cases u;simp only [Zab,Tm.op,Tm.name,Tm.sort,Tm.args]
   rw [hec];simp only [Zad,and_true];refine ⟨k0,k1,k2,?_⟩;simp only [Rep] at k3;subst k3;refine Rep.mono q1.rep fun c hc=>?_;rcases hc with ⟨hc,_⟩ | hc
   ·rcases hc with hc | ⟨x,hx,_⟩ | hc
    ·exact .inl hc
    ·cases hx
    ·exact .inr hc
   ·rcases q2 c hc with ⟨x,hx,_⟩ | hc'
    ·cases hx
    ·refine .inr ⟨hc',?_⟩;rcases q1.2.2 with ⟨_,a',e'⟩ | ⟨g,cap',cur,e',hc0,hg',_⟩
     ·injection e' with _ _ e3
      rw [e3] at hc
      cases a <;> simp [vblk] at hc
     ·rw [e'] at hc;simp only [vblk] at hc;split at hc
      ·cases hc
      ·injection hc with hc
       subst hc;exact hg'
section
variable {g:Sgn}
theorem Zjd {o:Opr} {op:Int}:∀ xs:List Tm,depthTms (Zah o op xs)<=depthTms xs
 | []=>Tai _
 | a::xs=>by
  have e:Zah o op (a::xs)=ZaA o op a++Zah o op xs:=rfl;have h:=Zjd (o:=o) (op:=op) xs;have h2:depthTms (ZaA o op a)<=depthTm a:=by
   unfold ZaA;split
   ·rw [ZcB];omega
   ·split <;> simp [depthTms]
  rw [e,Zgz,depthTms];omega
theorem Ztz {op:Int} {xs:List Tm} {t:Tm} (h:mkT g op xs=some t):depthTm t<=1+depthTms xs:=by
 unfold mkT at h
 cases ho:g.ops[op.toNat]? with
 | none=>rw [ho] at h;cases h
 | some o =>
  rw [ho] at h;simp only at h
  cases hd:o.decls[0]? with
  | none=>rw [hd] at h;cases h
  | some d =>
   rw [hd] at h;simp only [mkO] at h;have hf:=Zjd (o:=o) (op:=op) xs;split at h
   ·cases h
   split at h
   ·unfold mkL at h;split at h
    ·injection h with h
     subst h
     cases hl:Zah o op xs with
     | nil=>simp only [List.headD_nil,ZaB];rw [ZcB];simp [Tm.args,depthTms]
     | cons m l =>
      have:depthTm m<=depthTms (Zah o op xs):=ZeZ (by rw [hl];exact Tas);simp only [List.headD_cons];omega
    ·split at h
     ·cases h
     ·injection h with h
      subst h;have hp:=Zc7 (ZcI o (Zah o op xs));rw [ZcB];show 1+depthTms (srtO o (Zah o op xs))<=_;omega
   ·cases h
theorem Zhs {k:Nat}:∀ {ts:List Tm},(∀ t∈ts,depthTm t<=k)->depthTms ts<=k
 | [],_=>Taj _
 | t::ts,h=>by
  have h1:=h t Tas;have h2:=Zhs (ts:=ts) fun u hu=>h u (Tal _ hu);rw [depthTms];omega
theorem ZBD:∀ op nm so,nilC op nm so=[.lit (.int .i64 op),.lit (.string nm),.lit (.int .i64 so),.lit (.slice none 0 0)]:=fun _ _ _=>rfl
def RCan (g:Sgn) (k:Nat) (u:Tm) (b:Bool):Prop:=b=true->TermOk g u∧depthTm u<=k
def ZjJ (g:Sgn) (k:Nat) (r:List D) (pm:List Bk):Prop:=∃ u b,RCan g k u b∧Ze8 u b r pm
def ZB2 (g:Sgn) (k:Nat) (r:List D):Prop:=∃ u b,RCan g k u b∧r=[.agg (Zab u),.one (.lit (.bool b))]
theorem Zpy (hokg:ZbY g) (hg:SgnOk g) {op:Int} {o:Opr} (h0:0<=op) (ho:g.ops[op.toNat]?=some o) (xs:List Tm) (ha:∀ a∈xs,TermOk g a) (hl:xs.length<=1000):ConP e0 68 [.agg (Zak g),.one (.lit (.int .i64 op)),.one (.sl (Zac xs))] [] (Ze8 (mk6T g op xs) (mkT g op xs).isSome):=by
 obtain ⟨d,hd,_⟩:=hg.first ho;have e:mk6T g op xs=mk6 g o d op xs:=by simp only [mk6T,ho,hd]
 rw [Zd7 ho hd,e];exact Zpx hokg hg h0 ho hd xs ha om (Zsr (o:=o) (op:=op) ha hl)
theorem ZlY (hok:ZbY g) (hg:SgnOk g):∀ (n:Nat) {t:Tm},sizeTm t < n->okTm t->sizeTm t<=1000->ConP e0 43 [.agg (Zak g),.agg (Zab t)] [] (ZjJ g (depthTm t))
 | 0,t,hn,_,_=>om
 | n+1,t,hn,ht,hb=>by
  have ih:∀ a∈t.args,ConE e0 43 [.agg (Zak g),.agg (Zab a)] (ZB2 g (depthTm a)):=fun a ha=>by
   have h1:=Za5 ha;have h2:=ZaM t;exact ZqE (ZlY hok hg n om (okA ht ha) om)
  rw [Zak] at ih ⊢;have cN:=Zlx hg ht (Tbe hb (by decide));have cV:=Zty t.name t.sort;rw [Zak] at cN;by_cases hv:t.op=-1
  ·refine gIP (ts:=[.cell 4 36,.slot 5]) [] 576496211553424383 Tryz.func43 ?_;refine fN 2 (ai @hv @tmz) ?_;refine gB ?_;refine fC @tmz (cV) ?_;refine fC @tmz (cN) ?_;refine fR (ai @ZBD @tmz) ?_;refine pN 1000 36 4 ?_;refine (have F:=e0P;gTP (R:=ZjJ g (depthTm t)) [1000] ⟨.mk (-1) t.name t.sort [],Zd6 g t,fun h=>?_,none,0,rfl,rfl⟩);have hN:=Zlw.1 h;rcases hN with hN | ⟨o,d,hA⟩
   ·have e:t=.mk (-1) t.name t.sort []:=by cases t;simp only [Tm.op,Tm.args,Zcg,Tm.name,Tm.sort] at hv hN ⊢;rw [hv,hN.2.2.2.2]
    rw [<- e];exact ⟨⟨by rw [ZaM,hN.2.2.2.2];simp [sizeTms],by rw [ZcB,hN.2.2.2.2];simp [depthTms],ZaY.2 ⟨.inl hN,(fun a ha=>(by rw [hN.2.2.2.2] at ha;cases ha)),.inl hv⟩⟩,Tai _⟩
   ·have:=hA.lo;omega
  have cI:=ZdH t.op 0 ((g.ops.length:Int) - 1);have wl:IntKind.i64.wrap ((g.ops.length:Int) - 1)=(g.ops.length:Int) - 1:=IntWalk.i64_in _ (by have:=hg.len;omega);refine gIP (ts:=[.cell 4 36,.slot 5]) [] 576496211553424383 Tryz.func43 ?_;refine fN 3 (ai @hv @tmz) ?_;refine gM (ι:=Bool) [38] [] (fun b=>[(38,A.d (.one (.lit (.bool b))))]) (fun b=>[]) (fun b=>b=false->0<=t.op∧t.op < (g.ops.length:Int)) ?_ (fun b hb=>Exists.intro _ (ai (Wk.refl _) ?_))
  ·refine gB ?_;refine fC (aj3 @hv @wl @tmz) (cI) ?_;by_cases q:0<=t.op∧t.op<=(g.ops.length:Int) - 1
   ·have qd:decide (0<=t.op∧t.op<=(g.ops.length:Int) - 1)=true:=decide_eq_true q;rcases Bool.eq_false_or_eq_true (t.name.toList==(⟨#[]⟩:ByteArray).toList) with e | e
    ·by_cases q0:t.sort=0
     ·refine fR (aj4 @qd @e @q0 @tmz) ?_;have F:=@tmz;refine gG ?_;exact ⟨false,fun _=>⟨q.1,om⟩,gw,gw⟩
     ·refine fR (aj4 @qd @e @q0 @tmz) ?_;have F:=@tmz;refine gG ?_;exact ⟨true,(by simp),gw,gw⟩
    ·refine fR (aj3 @qd @e @tmz) ?_;have F:=@tmz;refine gG ?_;exact ⟨true,(by simp),gw,gw⟩
   ·have qd:decide (0<=t.op∧t.op<=(g.ops.length:Int) - 1)=false:=decide_eq_false q;refine fR (ai @qd @tmz) ?_;have F:=@tmz;refine gG ?_;exact ⟨true,(by simp),gw,gw⟩
  cases b with
  | true =>
   refine fN 4 @tmz ?_;refine gB ?_;have F:=tmz;refine gX ?_;clear F;refine fR @tmz ?_;refine pN 1000 36 4 ?_;exact (have F:=e0P;gTP (R:=ZjJ g (depthTm t)) [1000] ⟨zTm,false,(by simp [RCan]),none,0,rfl,rfl⟩)
  | false =>
  obtain ⟨hlo,hhi⟩:=hb rfl;have hal:t.args.length<=1000:=by have:=Zbq t.args;have:=ZaM t;omega
  obtain ⟨o,ho⟩:∃ o,g.ops[t.op.toNat]?=some o:=⟨_,Taa om⟩;clear cN cV cI;refine fG @tmz ?_;have F:=ai @Zcn @tmz;refine gL (ι:=List Tm) [5,6,7,8,9,45,59] [6] (fun us=>[(7,A.d (.one (.lit (.int .i64 us.length)))),(6,.buf 6)]) (fun us=>[(6,.buf none 36 4 (Zac us))]) (fun us=>us.length<=t.args.length∧∀ u∈us,TermOk g u∧depthTm u<=depthTms t.args) (fun us=>t.args.length - us.length) ([]) (⟨Taj _,fun u hu=>(by cases hu)⟩) (fun us hus=>?_);clear F
  obtain ⟨hul,huo⟩:=hus;by_cases hlt:us.length < t.args.length
  ·have q1:=lT us.length t.args.length;have wi:=Zat (k:=us.length) om;have hm:(us.length+1<=maxApp)=True:=eq_true (by unfold maxApp;omega);have hg1:t.args[us.length]?=some t.args[us.length]:=Taa hlt;have cI:=ih t.args[us.length] (List.getElem_mem hlt);have hdp:=ZeZ (List.getElem_mem hlt);generalize t.args[us.length]=a at hg1 cI hdp;refine fN 9 (ai @q1 @tmz) ?_;refine gF0 ?_;refine gLa 8 9 ?_;refine gLa 9 11 ?_
   have F:=tmz;refine gNa 10 [0,1,2,3,4,5] [6,7,8,9] ?_;clear F;have F:=ai hg1 tmz;refine gNd ?_;clear F;have F:=tmz;refine gNE cI ?_;clear F;rintro r ⟨u,b,hub,rfl⟩;have F:=tmz;refine gNr ?_;clear F;refine fR @tmz ?_
   cases b with
   | false =>
    refine fN 11 @tmz ?_;refine gB ?_;have F:=tmz;refine gX ?_;clear F;refine fR @tmz ?_;refine pN 1000 36 4 ?_;exact (have F:=e0P;gTP (R:=ZjJ g (depthTm t)) [1000] ⟨zTm,false,(by simp [RCan]),none,0,rfl,rfl⟩)
   | true =>
    have hl:(us++[u]).length=us.length+1:=by simp
    have hsn:Zac us++[Zab u]=Zac (us++[u]):=by rw [ZbI,Zcl]
    have F:=aj5 @wi @hl @hm @hsn @tmz;refine gG ?_;exact ⟨us++[u],⟨om,fun v hv=>(Tbh.1 hv).elim (huo v) fun hv=>by rw [Tbj.1 hv];exact ⟨(hub rfl).1,Tbe (hub rfl).2 hdp⟩⟩,gw,gw,om⟩
  ·have q1:=lF us.length t.args.length;have cM:=Zpy hok hg hlo ho us (fun u hu=>(huo u hu).1) om;rw [Zak] at cM;refine fN 13 (ai @q1 @tmz) ?_;refine pS 6 fun a1 k1=>?_;refine pD 6 [6] [] ?_;refine gB ?_;have F:=@tmz;refine gCP [] [1000] (cM) ?_;clear F;rintro r pm ⟨a2,k2,rfl,rfl⟩;simp only [setA,retA,zipM,Taf,Tah];refine fR @e0P ?_;exact (have F:=e0P;gTP (R:=ZjJ g (depthTm t)) [1000] ⟨mk6T g t.op us,(mkT g t.op us).isSome,fun h=>by
    obtain ⟨v,hv⟩:=Option.isSome_iff_exists.1 h;rw [ZA1 hv];exact ⟨ZwH hg hlo (fun u hu=>(huo u hu).1) hv,by have:=Ztz hv;have:=Zhs fun u hu=>(huo u hu).2;have:=ZcB t;omega⟩,a2,k2,rfl,rfl⟩)
end
section
variable {g:Sgn}
end
def nm1 (c:UInt8):ByteArray:=⟨#[c]⟩
theorem ZkF (c:UInt8):(nm1 c).toList=[c]:=strL [c]
def letB (c:UInt8):Bool:=decide (65<=c.toNat∧c.toNat<=90) || decide (97<=c.toNat∧c.toNat<=122)
theorem ZtA {c:UInt8} (h:letB c=true):Zba (nm1 c)=true:=by
 have hb:ZfI (nm1 c) 0=(c.toNat:Int):=rfl;have hs:(nm1 c).size=1:=rfl;unfold Zba Za4;rw [ZkF,hs];simp only [letB,Bool.or_eq_true,decide_eq_true_eq] at h;have h1:Zcz (ZfI (nm1 c) 0)=true:=by
  rw [hb];simp only [Zcz,Bool.or_eq_true,decide_eq_true_eq];omega
 have h2:¬ ZfI (nm1 c) 0<=57:=by rw [hb];omega
 simp [List.range',h1,h2]
theorem Znp {l:List UInt8} (h:l.all letB=true) (hn:l.Nodup):∀ (i:Nat) (x:ByteArray),(l.map nm1)[i]?=some x->Zba x=true∧Zbe ((l.map nm1).take i) x=false:=by
 intro i x hx;rw [Tba,Tav] at hx;obtain ⟨c,hc,rfl⟩:=hx;refine ⟨ZtA (List.all_eq_true.1 h c (Tac hc)),?_⟩;unfold Zbe;rw [List.any_eq_false];intro t ht;rw [<- List.map_take] at ht;obtain ⟨d,hd,rfl⟩:=Tbi.1 ht;rw [ZkF,ZkF];simp only [beq_iff_eq,List.cons.injEq,and_true];rintro rfl;obtain ⟨hi,rfl⟩:=Tad.1 hc;obtain ⟨j,hj,e⟩:=List.getElem_of_mem hd;rw [Taw] at hj;rw [List.getElem_take] at e;exact absurd e (List.pairwise_iff_getElem.1 hn j i om hi om)
def ZtB (s:Srt) (f d:Dcl):Bool:=decide (d.args.length=f.args.length) && decide (0<=d.res∧d.res < s.names.length) && d.args.all (fun k=>decide (0<=k∧k < s.names.length)) && decide (kd s d.res=kd s f.res) && (d.args.zip f.args).all (fun p=>decide (kd s p.1=kd s p.2))
theorem ZyL {s:Srt} {f d:Dcl} (h:ZtB s f d=true):DeclOk s f d:=by
 simp only [ZtB,Tar,decide_eq_true_eq,List.all_eq_true] at h;obtain ⟨⟨⟨⟨h1,h2⟩,h3⟩,h4⟩,h5⟩:=h;refine ⟨h1,h2,h3,h4,fun i a b ha hb=>?_⟩;exact h5 (a,b) (Tac (i:=i) (List.getElem?_zip_eq_some.2 ⟨ha,hb⟩))
def opB (g:Sgn) (o:Opr):Bool:=match o.decls with
 | []=>false
 | f::r=>decide (o.decls.length<=4) && decide (f.args.length<=3) && o.decls.all (ZtB g.sorts f) && decide (0<=o.unit∧o.unit<=g.ops.length) && (!(o.assoc || o.comm || o.unit != 0) || match f.args with
  | [a,b]=>decide (kd g.sorts a=kd g.sorts b) && (!(o.assoc || o.unit != 0) || decide (kd g.sorts a=kd g.sorts f.res)) && (o.unit==0 || match g.ops[o.unit.toNat - 1]? with
   | none=>true
   | some p=>match p.decls with
    | []=>true
    | u::_=>decide (u.args.length=0) && decide (kd g.sorts u.res=kd g.sorts f.res))
  | _=>false)
theorem Zxh {g:Sgn} {o:Opr} (h:opB g o=true):DeclsOk g.sorts o∧AxOk g o:=by
 unfold opB at h;split at h
 ·cases h
 ·next f r hd =>
  simp only [Tar,decide_eq_true_eq,List.all_eq_true] at h;obtain ⟨⟨⟨⟨h1,h2⟩,h3⟩,h4⟩,h5⟩:=h;have hf:o.decls[0]?=some f:=by rw [hd];rfl
  refine ⟨⟨by rw [hd];simp,h1,fun f' hf'=>?_,fun f' hf' d hdm=>?_⟩,⟨h4.1,h4.2,fun hor d hd0=>?_⟩⟩
  ·rw [hf] at hf';injection hf' with hf';subst hf';exact h2
  ·rw [hf] at hf';injection hf' with hf';subst hf';exact ZyL (h3 d hdm)
  ·rw [hf] at hd0;injection hd0 with hd0
   subst hd0;have hor':(o.assoc || o.comm || o.unit != 0)=true:=by
    simp only [Bool.or_eq_true,bne_iff_ne,ne_eq];rcases hor with q | q | q
    ·exact .inl (.inl q)
    ·exact .inl (.inr q)
    ·exact .inr q
   rw [hor'] at h5;simp only [Bool.not_true,Bool.false_or] at h5;split at h5
   ·next a b hab =>
    simp only [Tar,decide_eq_true_eq,Bool.or_eq_true,Bool.not_eq_true',Bool.or_eq_false_iff,bne_eq_false_iff_eq,beq_iff_eq] at h5;obtain ⟨⟨k1,k2⟩,k3⟩:=h5;refine ⟨by rw [hab];rfl,fun a' b' ha' hb'=>?_⟩;rw [hab] at ha' hb';simp only [Tat,Tau,Taq] at ha' hb';subst ha' hb';refine ⟨k1,fun q=>?_,fun q p u hp hu=>?_⟩
    ·rcases k2 with k2 | k2
     ·rcases q with q | q
      ·rw [k2.1] at q;cases q
      ·exact absurd k2.2 q
     ·exact k2
    ·rcases k3 with k3 | k3
     ·exact absurd k3 q
     ·rw [hp] at k3;simp only at k3;split at k3
      ·next e=>rw [e] at hu;simp at hu
      ·next u' _ e =>
       rw [e] at hu;simp only [Tat,Taq] at hu;subst hu;simpa using k3
   ·cases h5
theorem ZyM {g:Sgn} {l:List UInt8} (hs:SortsOk g.sorts) (hl:g.ops.length<=14) (hn:g.ops.map (·.name)=l.map nm1) (h1:l.all letB=true) (h2:l.Nodup) (h3:g.ops.all (opB g)=true):SgnOk g:=by
 refine ⟨hs,hl,fun i o ho=>?_,fun o ho=>(Zxh (List.all_eq_true.1 h3 o ho)).1,fun o ho=>(Zxh (List.all_eq_true.1 h3 o ho)).2⟩;have:=Znp h1 h2 i o.name (by rw [<- hn,Tba,ho];rfl)
 rwa [<- hn,<- List.map_take] at this
def gD0 (u:Bool):Opr:=⟨nm1 103,⟨[0],1⟩::if u then [⟨[1],1⟩] else [],false,false,0⟩
def fD0 (z fa fc fu:Bool):Opr:=⟨nm1 102,if z then [⟨[2,2],2⟩,⟨[1,1],1⟩] else [⟨[0,2],2⟩],fa,fc,if fu then 3 else 0⟩
def mD0 (w:Bool):Opr:=⟨nm1 109,[⟨[0,0],0⟩],true,true,if w then 1 else 0⟩
def opsD (z u hc fa fc fu:Bool) (w:Option Bool):List Opr:=[⟨nm1 97,[⟨[],0⟩],false,false,0⟩,⟨nm1 98,[⟨[],1⟩],false,false,0⟩,⟨nm1 101,[⟨[],2⟩],false,false,0⟩,gD0 u,⟨nm1 104,[⟨[0,0],0⟩],false,hc,0⟩,fD0 z fa fc fu]++(match w with
 | none=>[]
 | some w=>[mD0 w])
def srtD (z:Bool):Srt:=⟨[78,80,76].map nm1,if z then [(1,0),(0,2)] else [(1,0)]⟩
def sigD (z u hc fa fc fu:Bool) (w:Option Bool):Sgn:=⟨srtD z,opsD z u hc fa fc fu w⟩
theorem ZA2 (z:Bool):SortsOk (srtD z):=by
 have hn:(srtD z).names=[78,80,76].map nm1:=by cases z <;> rfl
 have hl:(srtD z).names.length=3:=by rw [hn];rfl
 refine ⟨by rw [hl];decide,by rw [hl];decide,by cases z <;> decide,fun i _ x hx=>?_,?_,?_⟩
 ·rw [hn] at hx ⊢;exact Znp (by decide) (by decide) i x hx
 ·rw [hl];intro p hp
  cases z <;> simp [srtD] at hp
  ·subst hp;simp [Zez]
  ·rcases hp with rfl | rfl <;> simp [Zez]
 ·rw [hl];intro i k hi hk;have h:∀ i,i < 3->∀ k,k < 3->¬ (i≠k∧((up (srtD z)).getD i 0).testBit k=true∧((up (srtD z)).getD k 0).testBit i=true):=by cases z <;> decide +kernel
  exact h i hi k hk
theorem Zii (z u hc fa fc fu:Bool) (w:Option Bool):ZfT=(sigD z u hc fa fc fu w).sorts.names.map ZbR∧ZdJ z=(sigD z u hc fa fc fu w).sorts.subs.map ZbS∧opsR z u hc fa fc fu w=(sigD z u hc fa fc fu w).ops.map Zax:=by
 refine ⟨by cases z <;> rfl,by cases z <;> rfl,?_⟩
 cases w <;> cases z <;> cases u <;> cases fu <;> first | rfl | (rename_i w;cases w <;> rfl)
def Zpz:Option Bool->List UInt8
 | none=>[97,98,101,103,104,102]
 | some _=>[97,98,101,103,104,102,109]
theorem ZA3 {z u hc fa fc fu:Bool} {w:Option Bool} (h:z=true∨(fa=false∧fc=false∧fu=false)):SgnOk (sigD z u hc fa fc fu w):=by
 refine ZyM (l:=Zpz w) (ZA2 z) (by cases w <;> exact Nat.le_of_ble_eq_true rfl) (by cases w <;> rfl) (by cases w <;> rfl) (by cases w <;> (show List.Nodup _;simp only [Zpz];decide)) ?_;have H:∀ z u hc fa fc fu w',(z=true∨(fa=false∧fc=false∧fu=false))->(sigD z u hc fa fc fu none).ops.all (opB (sigD z u hc fa fc fu none))=true∧(sigD z u hc fa fc fu (some w')).ops.all (opB (sigD z u hc fa fc fu (some w')))=true:=by decide +kernel
 cases w with
 | none=>exact (H z u hc fa fc fu true h).1
 | some w=>exact (H z u hc fa fc fu w h).2
section
variable {x:Src} {b:Nat}
end
theorem Kept.all1 {D:Prop} {B:Nat} {w w':World} (h:Kept D e1.E B w w') (h1:e1.G w) (h2:e1.G w'):Kept D (fun _=>False) B w w':=⟨h.os,h.tape,h.output,h.drawn,h.size,fun k hk _=>by
 by_cases e:k=2
 ·have k1:ZcR w:=h1;have k2:ZcR w':=h2;subst e;unfold ZcR at k1 k2;exact k2.trans k1.symm
 ·exact h.block k hk e⟩
section
variable {e:Env} {U:Nat->Prop} {base:Nat} {S0:Nat->Prop} {σ:St} {o:Oper} {K:St->Prop}
theorem ZA6 {P:Program} {w:World} (ts:Array TypeId) (t ty e:TypeId) (i:TypeInfo) (h0:ts[0]?=some t) (h1:ts[1]?=some t) (ht:P.underlying t=some (.slice e)) (hi:P.info? e=some i) (b:Option Addr) (n cap:Nat) (hc:n<=cap) (x:Value)
  (hln:(Builtin.lenOf x).run P w=.ok 0 w) (hf:(Builtin.firstCells i.size 0 x).run P w=.ok #[] w) :
  (Builtin.append_ ts ty #[.slice b n cap,x]).run P w=.ok (.slice b n cap) w:=by
 cases b <;> simp [Builtin.append_,h0,h1,run_underlying ht,sizeOf,typeInfo,hi,hln,hf,storeCells,hc]
theorem Zxt {x y:Operand} {t ety sz by':Nat} {rows:List (List C)} (ho:o.op=.call ⟨.builtin .append,#[x,y],#[t,t]⟩) (hb:Zbj e.P t=some (ety,sz,by')) (hx:evA σ.s x=.d (.clip rows)) (hy:evA σ.s y=.d (.one (.sl []))):ZaW e U base S0 σ.m o (evA σ.s) (.d (.clip rows)):=by
 refine ZaD fun w S L ρv hC hr=>?_;have hx':=hr x (by simp [ho,Op.operands,Call.operands]);have hy':=hr y (by simp [ho,Op.operands,Call.operands]);rw [hx] at hx';rw [hy] at hy';obtain ⟨i,z,hu,hi,hz,hsz,hby,hzs,hs0,hb4⟩:=ZcV hb;obtain ⟨b,cap,news,hv,_,_,hn,hf⟩:=ZfF (sz:=sz) (rows:=[]) (fun r hr=>by cases hr) hy';have hx2:=hx'.1;simp only [Rep] at hx2;obtain ⟨A',n,cap',hw,h1,h2,h3,h4⟩:=hx2;refine ⟨ρv x,?_,hx'⟩
 have hne:news=[]:=by simpa [Zad] using hn.len
 subst hne;have hln:(Builtin.lenOf (ρv y)).run e.P w=.ok 0 w:=by rw [hv];simp [Builtin.lenOf]
 have hff:(Builtin.firstCells i.size 0 (ρv y)).run e.P w=.ok #[] w:=by rw [hsz];exact hf _ _ fun _=>rfl
 have:=ZA6 (P:=e.P) (w:=w) #[t,t] t o.type ety i rfl rfl hu hi A' n cap' h2 (ρv y) hln hff;rw [<- hw] at this;simp [execOp,ho,resolve,invoke,builtin,this,Result.andThen]
end
section
variable {e:Env} {K:St->Prop} {ds:List (Option Nat)} {os:List Oper} {d t ty q:Nat} {p:String} {ed:Array Edge} {x y:Operand} {s:List (Nat × A)} {m:List (Nat × Bk)}
theorem gAe {rows:List (List C)} {ety sz by':Nat} (hK:Runs e ds (q - 1) os ⟨(d,.d (.clip rows))::s,m⟩ K) (hx:evA s x=.d (.clip rows):=by exact sfx) (hy:evA s y=.d (.one (.sl [])):=by exact sfx)
  (hb:Zbj e.P t=some (ety,sz,by'):=by exact sfx):Runs e ds q (⟨some d,.call ⟨.builtin .append,#[x,y],#[t,t]⟩,ty,p,ed,none⟩::os) ⟨s,m⟩ K :=
 Zig rfl rfl rfl (fun U base S0=>Zxt (σ:=⟨s,m⟩) rfl hb hx hy) hK
end
section
variable {e:Env} {mask:Nat} {Q:PX->St->Prop} {ds:List (Option Nat)} {X:Type}
def tabX (ok:Nat->X->Prop) (T:X->Tab) (j:Nat) (σ:St):Prop:=∃ x,ok j x∧tabP (T x) j σ
abbrev DidX (L:List Oper) (cons:Nat->Option Nat) (ok:Nat->X->Prop) (T:X->Tab) (i:Nat) (sb:List (Nat × A)) (mb:List (Nat × Bk)) (s:List (Nat × A)) (m:List (Nat × Bk)) (σ':St):Prop:=Lks sb mb σ'∧tabX ok T i σ'∧∀ j,j≠i->i ∉ ancN L 6 j->cons j≠some i->(∀ k,cons j=some k->k ∉ ancN L 6 i)->tabX ok T j ⟨s,m⟩->tabX ok T j σ'
section
variable {L:List Oper} {cons:Nat->Option Nat} {ok:Nat->X->Prop} {T:X->Tab} {i:Nat} {sb:List (Nat × A)} {mb:List (Nat × Bk)} {s s2:List (Nat × A)} {m m2:List (Nat × Bk)} {d k:Nat} {α:A} {bk:Bk}
theorem ZgQ {f:List (Nat × A)->List (Nat × Bk)->Bool} {σ σ':St} (h:∀ x,ZfD L cons (T x) i f=true) (hf:∀ sb mb,f sb mb=true->Lks sb mb σ->Lks sb mb σ'):∀ j,j≠i->i ∉ ancN L 6 j->cons j≠some i->(∀ k,cons j=some k->k ∉ ancN L 6 i)->tabX ok T j σ->tabX ok T j σ':=fun j h1 h2 h3 h4 ⟨x,hx,hp⟩=>⟨x,hx,ZjH (h x) hf j h1 h2 h3 h4 hp⟩
theorem xS (hB:Lks sb mb ⟨s,m⟩) (hp:tabX ok T i ⟨(d,α)::s,m⟩) (h1:Zoa d sb mb=true:=by rfl) (h2:∀ x,ZfD L cons (T x) i (Zoa d)=true:=by intro x;rfl):DidX L cons ok T i sb mb s m ⟨(d,α)::s,m⟩:=⟨hB.slot h1,hp,ZgQ h2 fun _ _ h hl=>hl.slot h⟩
theorem xM (hB:Lks sb mb ⟨s,m⟩) (hp:tabX ok T i ⟨s,(d,bk)::remM d m⟩) (h1:ZAo d sb mb=true:=by rfl) (h2:∀ x,ZfD L cons (T x) i (ZAo d)=true:=by intro x;rfl):DidX L cons ok T i sb mb s m ⟨s,(d,bk)::remM d m⟩:=⟨hB.own h1,hp,ZgQ h2 fun _ _ h hl=>hl.own h⟩
theorem xE (hB:Lks sb mb ⟨s,m⟩) (hp:tabX ok T i ⟨(d,α)::Zaq d (Zaq k s),(d,bk)::remM d (remM k m)⟩) (h1:ZjI d k sb mb=true:=by rfl) (h2:∀ x,ZfD L cons (T x) i (ZjI d k)=true:=by intro x;rfl):DidX L cons ok T i sb mb s m ⟨(d,α)::Zaq d (Zaq k s),(d,bk)::remM d (remM k m)⟩:=⟨hB.ownE h1,hp,ZgQ h2 fun _ _ h hl=>hl.ownE h⟩
theorem Lks.bornC {κ:Nat} (h:Lks sb mb ⟨s,m⟩) (hf:(sb.all (fun p=>p.1 != d && !keyB κ p.2) && mb.all (fun p=>p.1 != κ))=true):Lks sb mb ⟨(d,α)::Zaq κ s,(κ,bk)::remM κ m⟩:=by
 simp only [Tar,List.all_eq_true,bne_iff_ne,ne_eq,Bool.not_eq_true'] at hf;refine Lks.slot (Lks.own (Lks.kill h ?_) ?_) ?_
 ·simp only [List.all_eq_true,Bool.not_eq_true'];exact fun p hp=>(hf.1 p hp).2
 ·simp only [List.all_eq_true,bne_iff_ne,ne_eq];exact hf.2
 ·simp only [List.all_eq_true,bne_iff_ne,ne_eq];exact fun p hp=>(hf.1 p hp).1
def Zg8 (d κ:Nat) (sb:List (Nat × A)) (mb:List (Nat × Bk)):Bool:=sb.all (fun p=>p.1 != d && !keyB κ p.2) && mb.all (fun p=>p.1 != κ)
theorem xP {κ:Nat} (hB:Lks sb mb ⟨s,m⟩) (hp:tabX ok T i ⟨(d,α)::Zaq κ s,(κ,bk)::remM κ m⟩) (h1:Zg8 d κ sb mb=true:=by rfl) (h2:∀ x,ZfD L cons (T x) i (Zg8 d κ)=true:=by intro x;rfl):DidX L cons ok T i sb mb s m ⟨(d,α)::Zaq κ s,(κ,bk)::remM κ m⟩:=⟨hB.bornC h1,hp,ZgQ h2 fun _ _ h hl=>hl.bornC h⟩
end
theorem gGp {id:Nat} {l:List Oper} {s:List (Nat × A)} {m:List (Nat × Bk)} (sb:List (Nat × A)) (mb:List (Nat × Bk)) (P:Nat->St->Prop) (cons:Nat->Option Nat) (ini:List Nat) (hB:Lks sb mb ⟨s,m⟩) (hI:∀ j∈ini,P j ⟨s,m⟩) (hS:Ze9 e (l.map (·.dst)) l cons ini (Lks sb mb) P 0 l) (hK:∀ s' m',Lks sb mb ⟨s',m'⟩->(∀ i,i < l.length∨i∈ini->(∀ k,cons i=some k->l.length<=k)->P i ⟨s',m'⟩)->∃ sf mf,Lks sf mf ⟨s',m'⟩∧Q .normal ⟨sf,mf⟩)
  (hb:Zjw l=true:=by decide +kernel) (hini:ini.all (fun j=>decide (l.length<=j))=true:=by decide +kernel) (hT:regT l.toArray 0=true:=by decide +kernel):pwp e mask (.region id l.toArray true) ⟨s,m⟩ Q:=fun he U w0 S0 nt a w hok hs=>by
 refine Zkq he hT (K:=fun σ'=>∃ sf mf,Lks sf mf σ'∧Q .normal ⟨sf,mf⟩) (fun a w σ' ⟨sf,mf,h1,h2⟩ h3=>⟨⟨sf,mf⟩,h2,h3.weak (fun t=>Zlk t h1.1) (fun t bk=>Zll t bk h1.2)⟩) (Zlc hok) hs ?_;simp only [List.take_zero,Runs]
 have:=Zkf (K:=fun σ'=>∃ sf mf,Lks sf mf σ'∧Q .normal ⟨sf,mf⟩) hb hini hS hK l.length (Zbp l.length 0) ⟨s,m⟩ (by simp [Zbp]) (by
  rw [List.countP_eq_length.2]
  ·simp
  ·intro i hi;have hi':=List.mem_range.1 hi;simp [Zbp,hi']) hB (fun j hj=>by
   have h0:(Zbp l.length 0).getD j false=false:=by
    by_cases hjl:j < l.length
    ·simp [Zbp,hjl]
    ·simp [Zbp,hjl]
   rw [h0] at hj
   cases hj) (fun j hj=>.inl (hI j hj))
 simpa using this
theorem gGx {id:Nat} {l:List Oper} {s:List (Nat × A)} {m:List (Nat × Bk)} (sb:List (Nat × A)) (mb:List (Nat × Bk)) (ok:Nat->X->Prop) (T:X->Tab) (cons:Nat->Option Nat) (ini:List Nat) (hB:Lks sb mb ⟨s,m⟩) (hI:∀ j∈ini,tabX ok T j ⟨s,m⟩) (hS:Ze9 e (l.map (·.dst)) l cons ini (Lks sb mb) (tabX ok T) 0 l) (hK:∀ s' m',Lks sb mb ⟨s',m'⟩->(∀ i,i < l.length∨i∈ini->(∀ k,cons i=some k->l.length<=k)->tabX ok T i ⟨s',m'⟩)->∃ sf mf,Lks sf mf ⟨s',m'⟩∧Q .normal ⟨sf,mf⟩)
  (hb:Zjw l=true:=by decide +kernel) (hini:ini.all (fun j=>decide (l.length<=j))=true:=by decide +kernel) (hT:regT l.toArray 0=true:=by decide +kernel):pwp e mask (.region id l.toArray true) ⟨s,m⟩ Q:=gGp sb mb (tabX ok T) cons ini hB hI hS hK hb hini hT
theorem ZaG {ok:Nat->X->Prop} {T:X->Tab} {i:Nat} {s:List (Nat × A)} {m:List (Nat × Bk)}:tabX ok T i ⟨s,m⟩ ↔ ∃ x,ok i x∧lkS ((T x).getD i ([],[])).1 s∧lkM ((T x).getD i ([],[])).2 m:=exists_congr fun x=>and_congr_right fun _=>Zby
end
theorem Zxx {e:Env} {f:FuncId} {args:List D} {row:List C} {b:Bool} (h:ConP e f args [] (Zd9 row b)):Con e f args [.agg row,.one (.lit (.bool b))]:=by
 refine ⟨h.1,fun w S vs hS hE hG hv=>(h.2 w S vs hS hE hG (fun x hx=>by cases hx) trivial hv).mono ?_⟩;rintro en w' ⟨v,r,pm',h1,⟨us,E,rfl,hl,hok,rfl⟩,h3,h4,h5,h6,h7⟩;obtain ⟨⟨q1,q2,q3⟩,p2⟩:=h5 _ Tas;obtain ⟨vs',hvs,hd⟩:=h7
 match vs',hd with
 | [u0,u1],⟨⟨us0,hu0,hr⟩,hb,_⟩ =>
  have e1:=ZgI hr;subst e1;refine ⟨v,h1,h3.noPin,h4,[u0,u1],hvs,⟨us0,hu0,Zal.rep _ _ _ _ (fun g hg=>.inr ⟨?_,(q1 g hg).1⟩) q2⟩,hb,trivial⟩;exact (p2 g hg).elim (fun ⟨x,hx,_⟩=>by cases hx) id
end Go.Proofs.YtmdkimnlbaahbaaGreatDoor
