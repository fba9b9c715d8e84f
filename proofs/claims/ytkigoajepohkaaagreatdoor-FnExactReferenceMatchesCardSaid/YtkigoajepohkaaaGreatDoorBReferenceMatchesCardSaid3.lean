/-
  Part of a proof.
-/
import Derived.Test.YtkigoajepohkaaaGreatDoorBReferenceMatchesCardSaid0
import Derived.Test.YtkigoajepohkaaaGreatDoorBReferenceMatchesCardSaid1
import Derived.Test.YtkigoajepohkaaaGreatDoorBReferenceMatchesCardSaid2
import Derived.Lib.AppendStr
import Derived.Laws.BytesString
import Derived.Lib.LazyBuf
import Derived.Test.YtkigoajepohkaaaGreatDoorRows
set_option linter.unusedSimpArgs false
set_option linter.unusedVariables false
set_option maxHeartbeats 400000000
set_option maxRecDepth 100000
namespace Go.Proofs.YtkigoajepohkaaaGreatDoor
open Go.RowKit
section
variable {w:World} {S:Nat->Prop}
theorem ZvX {rows:List (List C)} {ety sz cap l h:Nat} {a:Option Addr} (hb:ZaO w S ety sz rows (.slice a rows.length cap)) (hl:l<=h∧h<=rows.length):∃ (b:Option Addr) (c:Nat) (news:List Value),sliced a l h cap sz=.slice b ((rows.take h).drop l).length c∧Zab w S ((rows.take h).drop l).flatten news∧∀ (P:Program) (w':World),(∀ p,w'.cell? p=w.cell? p)->(Builtin.firstCells sz ((rows.take h).drop l).length (sliced a l h cap sz)).run P w'=.ok news.toArray w':=by
 have hln:((rows.take h).drop l).length=h - l:=by rw [Tax,Taw];omega
 obtain ⟨h1,hrl,h3⟩:=hb;by_cases he:h=l
 ·have e0:((rows.take h).drop l).length=0:=om;have e1:(rows.take h).drop l=[]:=Tao e0;refine ⟨_,_,[],by rw [hln];exact rfl,by rw [e1];simp [Zab],fun P w' _=>?_⟩;rw [e0];simp only [sliced,he,Nat.sub_self];split
  ·cases a <;> simp [Builtin.firstCells,loadCells,loadCellsFrom]
  ·cases a <;> simp [Builtin.firstCells,loadCells,loadCellsFrom]
 ·rcases h3 with ⟨h4,p,h5⟩ | ⟨g,cap',cur,h4,h5,h6,h7,h8,h9,h10,h11,h12⟩
  ·rw [h4] at hl;simp only [Tak] at hl;omega
  ·injection h4 with e1 e2 e3
   subst e1 e3;have hlc:¬ cap=l:=om;have hval:sliced (some ⟨g,0,none⟩) l h cap sz=.slice (some ⟨g,l * sz,none⟩) (h - l) (cap - l):=by
    simp only [sliced,hlc,if_false,Option.map_some,Addr.add_at,Nat.zero_add]
   have hr:=Zaq.sub hrl h12 l h;rw [Nat.zero_add] at hr;obtain ⟨news,q5,q6⟩:=hr.flat.vals;have hsl:rowsLen sz ((rows.take h).drop l):=fun r hr=>hrl r (List.mem_of_mem_take (List.mem_of_mem_drop hr));rw [hval];refine ⟨_,_,news,by rw [hln],q5,fun P w' hw=>?_⟩;exact run_firstCells_some w' sz _ _ _ _ news (by rw [q5.len,Zb5 hsl]) (fun j u hj=>by rw [hw,Addr.add_at];exact q6 j u hj)
end
section
variable {e:Env} {K:St->Prop} {ds:List (Option Nat)} {os:List Oper} {s:List (Nat × A)} {m:List (Nat × Bk)}
theorem ZsF {σ:St} {o:Oper} {x y:Operand} {t ety ety' sz by' k j d l h cap:Nat} {a0:Option Addr} {rows rj:List (List C)} {oa:Option (Option Addr × Nat)} (ho:o.op=.call ⟨.builtin .append,#[x,y],#[t,t]⟩) (hdd:o.dst=some d) (hb:Zbj e.P t=some (ety,sz,by'))
  (hx:evA σ.s x=.buf k) (hm:gm σ.m k=some (.buf oa ety sz rows)) (hy:evA σ.s y=.d (.one (.lit (sliced a0 l h cap sz)))) (hj:gm σ.m j=some (.buf (some (a0,cap)) ety' sz rj)) (hlh:l<=h∧h<=rj.length) (hle:rows.length+rj.length<=maxApp)
  (hK:K ⟨(d,.buf d)::Zav d (Zav k σ.s),(d,.buf none ety sz (rows++(rj.take h).drop l))::remM d (remM k σ.m)⟩):ZbP e o σ K:=by
 intro he U w0 S0 nt a w Q hd ⟨S,L,h0⟩;have hx':a.eval x=L.v k:=by have:=h0.eval x;rw [hx] at this;exact this
 have hy':=h0.eval y;rw [hy] at hy';have hy':=Zbw hy';have ho':ZaO w S ety sz rows (L.v k):=(h0.cls.own k _ hm).2;obtain ⟨hpl,hbj⟩:=h0.cls.own j _ hj;have hvj:L.v j=.slice a0 rj.length cap:=hpl (a0,cap) rfl;rw [hvj] at hbj;obtain ⟨yb,yc,news,y1,y2,y3⟩:=ZvX hbj hlh;have hln:((rj.take h).drop l).length=h - l:=by rw [Tax,Taw];omega
 have hsl:rowsLen sz ((rj.take h).drop l):=fun r hr=>hbj.2.1 r (List.mem_of_mem_take (List.mem_of_mem_drop hr));obtain ⟨v',w',hrun,hbuf,τ,hk,hτ,hblk⟩:=Zgy (ty:=o.type) (ts:=#[t,t]) (v:=L.v k) (u:=sliced a0 l h cap sz) he h0.cls rfl rfl hb (.inl ho') ho'.2.1 hsl om ⟨yb,yc,news,y1,y2,y3⟩;unfold Oper.wp;have hr2:(execOp a.eval o).run e.P w=.ok (.value v') w':=by
  simp [execOp,ho,resolve,invoke,builtin,hx',hy',hrun,Result.andThen]
 rw [hr2,Oper.upon_value,hdd];refine ⟨_,hK,h0.born he (hd d hdd) (τ:=τ) (b':=0) (v':=v') (s1:=Zav k σ.s) (m1:=remM k σ.m) (fun _ h=>h) (fun _ h=>.inl h) (fun t=>?_) (fun k' x hx=>?_) (fun g hg=>?_) (fun k' x g hkd hx hg hb'=>?_) hk ?_ (fun g hg=>?_) (by simp [ARel])⟩
 ·rcases Zew k t σ.s with ⟨h1,_⟩ | h1
  ·exact .inl h1
  ·exact .inr h1
 ·rw [ZaG] at hx;split at hx
  ·cases hx
  ·exact hx
 ·have hg':=(hτ g hg).1;exact ⟨(Own1.lt (k:=k) (L:=L) (bk:=.buf none ety sz rows) ⟨by simp,ho'⟩ hg').2,h0.cls.notE hm hg',h0.cls.mine k _ g hm hg'⟩
 ·have hg':=(hτ g hg).1;rw [ZaG] at hx;split at hx
  ·cases hx
  ·rename_i hne';exact hne' (h0.cls.inj k' k x _ g hx hm hb' hg')
 ·simp only [Own1,if_true];exact ⟨by simp,hbuf⟩
 ·simp only [ZaK,if_true] at hg;exact hblk g hg
theorem gAps {d t ty ety ety' by' sz l h cap:Nat} {p:String} {ed:Array Edge} {x y:Operand} {rows rj:List (List C)} {oa:Option (Option Addr × Nat)} {a0:Option Addr} {s2:List (Nat × A)} {m2:List (Nat × Bk)} (k j:Nat) (hlh:l<=h∧h<=rj.length) (hle:rows.length+rj.length<=maxApp) (hK:Runs e ds 0 os ⟨(d,.buf d)::s2,(d,.buf none ety sz (rows++(rj.take h).drop l))::m2⟩ K)
  (hb:Zbj e.P t=some (ety,sz,by'):=by exact sfx) (hx:evA s x=.buf k:=by exact sfx) (hm:gm m k=some (.buf oa ety sz rows):=by exact snx) (hy:evA s y=.d (.one (.lit (sliced a0 l h cap sz))):=by exact snx) (hj:gm m j=some (.buf (some (a0,cap)) ety' sz rj):=by exact snx)
  (hs:Zav d (Zav k s)=s2:=by exact snv) (hr:remM d (remM k m)=m2:=by exact snv):Runs e ds 0 (⟨some d,.call ⟨.builtin .append,#[x,y],#[t,t]⟩,ty,p,ed,none⟩::os) ⟨s,m⟩ K:=by
 subst hs hr;simp only [Runs] at hK ⊢;exact ZcG rfl (ZsF rfl rfl hb hx hm hy hj hlh hle hK)
end
theorem okc4 {u0 u1 u2 u3:Value} (h:(Zah [u0,u1,u2,u3]).all Zas=true):Zas (.lit u0)=true∧Zas (.lit u1)=true∧Zas (.lit u2)=true∧Zas (.lit u3)=true:=by
 simpa [Zah,Tar,and_assoc] using h
theorem ZhY (ts:List Tm) {i:Nat} {t:Tm} (h:ts[i]?=some t):Zaa (ts.take (i+1))=Zaa (ts.take i)++[Zac t]:=by
 simp only [ZbB,List.take_add_one,h,Option.toList,Tbw,Tbv,List.map_nil]
theorem Zel (u0 u1 u2 u3:Value):Zah [u0,u1,u2,u3]=[.lit u0,.lit u1,.lit u2,.lit u3]:=rfl
theorem ZaH (uss:List (List Value)):(uss.map Zah).length=uss.length:=Tay ..
def tmsB (ts:List Tm):Prop:=ts.length+bulkRows (Zaa ts)<=1048576
theorem ZlY (ts:List Tm) (hB:tmsB ts) (h:∀ t∈ts,ConP e0 150 [.agg (Zac t)] [] (Zb2 (Zac t))):ConP e0 179 [.one (.sl (Zaa ts))] [] (Zj5 46 4 (Zaa ts)):=by
 have hl:ts.length<=1048576:=Tbe (Nat.le_add_right _ _) hB;refine gIP (ts:=[.slot 2]) [] 1005 Tryz.func179 ?_;refine fG @e0P ?_;refine pE [] [1000] Zb4 ?_;have F:=ai @Zad @Zec;refine gL (ι:=Nat × List (List Value) × (Nat->Prop)) [3,5,8,9] [3,1000] (fun x=>[(8,.d (.one (.lit (.int .i64 (x.1:Int))))),(3,.buf 3)]) (fun x=>[(3,.buf none 46 4 (x.2.1.map Zah)),(1000,.set x.2.2 (fun w=>Zao w (Zaa (ts.take x.1)) x.2.2 x.2.1))]) (fun x=>x.1<=ts.length∧x.2.1.length=x.1) (fun x=>ts.length - x.1) ((0,[],fun _=>False)) (⟨Taj _,rfl⟩) (fun x hx=>?_);clear F
 obtain ⟨i,uss,E⟩:=x;obtain ⟨hi,hn⟩:=hx;simp only at hi hn;by_cases hlt:i < ts.length
 ·have hg:ts[i]?=some ts[i]:=Taa hlt;have hc:=h ts[i] (List.getElem_mem hlt);generalize ts[i]=t at hg hc;have q1:=lT i ts.length;refine fB (aj5 @Zad @Zbq @q1 @hg @tmz) ?_;have F:=@tmz;refine gCP [] [1001] (hc) ?_;clear F;rintro r pm ⟨us,E2,rfl,hu,hok,rfl⟩;rw [Zia] at hu;obtain ⟨u0,u1,u2,u3,rfl⟩:=len4 hu;obtain ⟨k0,k1,k2,k3⟩:=okc4 hok;have q3:IntKind.i64.wrap ((i:Int)+1)=(i:Int)+1:=IntWalk.i64_in _ om
  have q2:i+1<=maxApp:=by unfold maxApp;omega
  simp only [Zel,setA,retA,zipM,Taf,Tah];refine fR (aj8 @Zel @ZaH @hn @q2 @k0 @k1 @k2 @k3) ?_;refine pE [1000,1001] [1000] (Zgm (G':=fun w=>Zao w (Zaa (ts.take (i+1))) (fun b=>E b∨E2 b) (uss++[[u0,u1,u2,u3]])) (fun w h1 h2 hd=>?_) (Zao.stable _ _ _)) ?_
  ·rw [ZhY ts hg];exact Zao.snoc h1 h2 (fun _ h=>.inl h) (fun _ h=>.inr h) hd
  have F:=aj4 @Zel @q3 @Zad ((@Tbw.{0,0}));refine gG ?_;exact ⟨(i+1,uss++[[u0,u1,u2,u3]],fun b=>E b∨E2 b),⟨hlt,by simp [hn]⟩,gw,gw,om⟩
 ·obtain rfl:i=ts.length:=by omega
  have q1:=lF ts.length ts.length;refine fG (ai @Zad @q1) ?_;rw [Tap];refine pS 2 fun a cap=>?_;refine gTP [2,1000] (Zj5.mk (by rw [hn,Zad]))
theorem ZFs {w:World} {op so:Int} {nm:ByteArray} {args:List Tm} {E:Nat->Prop} {v:Value} (h:Own w (.sl (Zaa args)) E v):Zaf w (Zac (.mk op nm so args)) E [.int .i64 op,.string nm,.int .i64 so,v]:=by
 simp only [Zac,Zaf];refine ⟨fun _=>False,E,fun _ h=>h.elim,fun _ h=>h,fun _ h _=>h,by simp [Own],fun _=>False,E,fun _ h=>h.elim,fun _ h=>h,fun _ h _=>h,by simp [Own],fun _=>False,E,fun _ h=>h.elim,fun _ h=>h,fun _ h _=>h,by simp [Own],E,fun _=>False,fun _ h=>h,fun _ h=>h.elim,fun _ _ h=>h,h,trivial⟩
theorem Znb (t:Tm) (h:ConP e0 179 [.one (.sl (Zaa t.args))] [] (Zj5 46 4 (Zaa t.args))):ConP e0 150 [.agg (Zac t)] [] (Zb2 (Zac t)):=by
 obtain ⟨op,nm,so,args⟩:=t;have hc:Zac (.mk op nm so args)=[.lit (.int .i64 op),.lit (.string nm),.lit (.int .i64 so),.sl (Zaa args)]:=by simp only [Zac]
 simp only [Tm.args] at h;refine gIP (ts:=[.cell 2 46]) [] 7 Tryz.func150 ?_;refine fB @hc ?_;have F:=@hc;refine gCP [] [1000,1001] (h) ?_;clear F;rintro r pm ⟨a,cap,uss,E,rfl,hu,rfl⟩;simp only [setA,retA,zipM,Taf,Tah];refine fR @hc ?_;refine fG @hc ?_;refine pE [1000,1001] [1000] (Zb6 (G':=fun w=>Zaf w (Zac (.mk op nm so args)) (fun b=>vblk (.slice a uss.length cap)=some b∨E b) [.int .i64 op,.string nm,.int .i64 so,.slice a uss.length cap]) (fun w h=>ZFs h) (Zaf.stable _ _ _)) ?_
 have hm:=Zb2.mk (row:=Zac (.mk op nm so args)) (us:=[.int .i64 op,.string nm,.int .i64 so,.slice a uss.length cap]) (E:=fun b=>vblk (.slice a uss.length cap)=some b∨E b) (by rw [hc];rfl) rfl;rw [Zel] at hm;exact (have F:=hc;gTP [1000] hm)
theorem ZBV (n:Nat):(∀ t:Tm,Za7 (Zac t) < n->bulkRow (Zac t)<=1048576->ConP e0 150 [.agg (Zac t)] [] (Zb2 (Zac t))):=by
 induction n with
 | zero=>exact fun _ h=>om
 | succ n ih =>
  intro t hn hb;obtain ⟨op,nm,so,args⟩:=t;simp only [Zac,Za7,Zc3,bulkRow,ZbG] at hn hb;refine Znb _ (ZlY args (by unfold tmsB;have:=Zad args;omega) fun a ha=>?_);obtain ⟨i,hi⟩:=Tbk ha;have hi':(Zaa args)[i]?=some (Zac a):=by rw [Zbq,hi];rfl
  have h1:=Zcb hi';have h2:=Zco hi';exact ih a om om
theorem Zj8 (t:Tm) (hb:bulkRow (Zac t)<=1048576):ConP e0 150 [.agg (Zac t)] [] (Zb2 (Zac t)):=ZBV _ t (Tan _) hb
theorem ZkR (pm:List Bk):Zbe pm pm:=fun w S h1 h2=>⟨h1,h2,fun _ h=>h⟩
theorem ZBW {ts:List Tm} {i:Nat} (h:i<=ts.length):(Zaa (ts.take i)).length=i:=by rw [Zad,Taw];omega
theorem ZpA (t:Tm) (hB:tmsB t.args) (h:∀ a∈t.args,Con e0 64 [.agg (Zac a)] [.agg (Zac a)]):Con e0 64 [.agg (Zac t)] [.agg (Zac t)]:=by
 obtain ⟨op,nm,so,args⟩:=t;have hc:Zac (.mk op nm so args)=[.lit (.int .i64 op),.lit (.string nm),.lit (.int .i64 so),.sl (Zaa args)]:=by simp only [Zac]
 simp only [Tm.args] at h hB;have hl:args.length<=1048576:=Tbe (Nat.le_add_right _ _) hB;refine gI (ts:=[.cell 2 46]) 65567 Tryz.func64 ?_;refine fN 1 @hc ?_;refine gB ?_;refine gP 6 ?_;refine gX ?_;refine fR @hc ?_;refine pN 1000 46 4 ?_;refine fG @hc ?_;have F:=ai @hc @Zec;refine gL (ι:=Nat × Option Addr × Nat) [4,16] [3,1000] (fun x=>[(4,.d (.one (.lit (.int .i64 (x.1:Int)))))]) (fun x=>[(1000,.buf (some (x.2.1,x.2.2)) 46 4 (Zaa (args.take x.1))),(3,.var none [.lit (.int .i64 op),.lit (.string nm),.lit (.int .i64 so),.lit (.slice x.2.1 x.1 x.2.2)])]) (fun x=>x.1<=args.length) (fun x=>args.length - x.1) ((0,none,0)) (Taj _) (fun x hx=>?_);clear F
 obtain ⟨i,p,cap⟩:=x;simp only at hx;by_cases hlt:i < args.length
 ·have hg:args[i]?=some args[i]:=Taa hlt;have hcon:=h args[i] (List.getElem_mem hlt);generalize args[i]=a at hg hcon;have q1:=lT i args.length;have q4:IntKind.i64.wrap ((i:Int)+1)=(i:Int)+1:=IntWalk.i64_in _ om;have q2:i+1<=maxApp:=by unfold maxApp;omega
  have q3:=ZBW hx;have q5:(args.take i).length=i:=by rw [Taw];omega
  refine fB (aj6 @hc @Zad @Zbq @q1 @hg @tmz) ?_;refine fC (aj3 @tmz @Zbq @hg) (hcon) ?_;have F:=aj4 @tmz @q2 @q3 @q5;refine gP 3 ?_;clear F;refine gS 28 fun p2 cap2=>?_;refine fR (aj3 @tmz @q3 @q5) ?_;refine pE [28] [1000] (ZkR _) ?_;rw [<- ZhY args hg];have F:=ai @hc @q4;refine gG ?_;exact ⟨(i+1,p2,cap2),hlt,gw,gw,om⟩
 ·obtain rfl:i=args.length:=by omega
  have q1:=lF args.length args.length;rw [Tap];refine fG (aj3 @hc @Zad @q1) ?_;refine pD 1000 [] [2] ?_ (hs:=by exact snv);exact fD (ai @hc @Zad)
theorem ZzQ (n:Nat):(∀ t:Tm,Za7 (Zac t) < n->bulkRow (Zac t)<=1048576->Con e0 64 [.agg (Zac t)] [.agg (Zac t)]):=by
 induction n with
 | zero=>exact fun _ h=>om
 | succ n ih =>
  intro t hn hb;obtain ⟨op,nm,so,args⟩:=t;simp only [Zac,Za7,Zc3,bulkRow,ZbG] at hn hb;refine ZpA _ (by unfold tmsB;simp only [Tm.args];have:=Zad args;omega) fun a ha=>?_;simp only [Tm.args] at ha;obtain ⟨i,hi⟩:=Tbk ha;have hi':(Zaa args)[i]?=some (Zac a):=by rw [Zbq,hi];rfl
  have h1:=Zcb hi';have h2:=Zco hi';exact ih a om om
theorem ZgF (t:Tm) (hb:bulkRow (Zac t)<=1048576):Con e0 64 [.agg (Zac t)] [.agg (Zac t)]:=ZzQ _ t (Tan _) hb
theorem ZvY {ts:List Tm} {i:Nat} {t:Tm} (h:ts[i]?=some t):Zaa (ts.take i)++[Zac t]=Zaa (ts.take (i+1)):=(ZhY ts h).symm
theorem Zj9 (ts:List Tm) (hB:tmsB ts):Con e0 162 [.one (.sl (Zaa ts))] [.one (.sl (Zaa ts))]:=by
 unfold tmsB at hB;refine gI (ts:=[.slot 2]) 541 Tryz.func162 ?_;refine fG @tmz ?_;have F:=@Zec;refine gL (ι:=Nat) [3,4,9] [3] (fun i=>[(4,A.d (.one (.lit (.int .i64 i)))),(3,.buf 3)]) (fun i=>[(3,.buf none 46 4 (Zaa (ts.take i)))]) (fun i=>i<=ts.length) (fun i=>ts.length - i) (0) (Taj _) (fun i hi=>?_);clear F;by_cases hlt:i < ts.length;rotate_left
 ·obtain rfl:i=ts.length:=by omega
  have q2:=lF ts.length ts.length;rw [Tap];refine fG (ai @q2 @tmz) ?_;have F:=@tmz;refine gG ?_;exact gTz [2]
 obtain ⟨t,ht⟩:∃ b,ts[i]?=some b:=⟨_,Taa hlt⟩;have q2:=lT i ts.length;have q4:=Zau (k:=i) om;have hi':(Zaa ts)[i]?=some (Zac t):=by rw [Zbq,ht];rfl
 have hbt:=Zco hi';have cc:=ZgF t om;have l1:ZaC 4 (Zaa (ts.take i))=true:=ZdR _;have l2:((Zaa (ts.take i)).length+1<=maxApp)=True:=eq_true (by rw [Zad,Taw];unfold maxApp;omega);have l3:((ts.take i).length+1<=maxApp)=True:=eq_true (by rw [Taw];unfold maxApp;omega);have l4:min i ts.length+1<=maxApp:=by unfold maxApp;omega
 have e:=ZvY ht;refine fB (ai @q2 @tmz) ?_;refine fC (aj3 @q2 @ht @tmz) (cc) ?_;refine fR (aj4 @l1 @l2 @l3 @tmz) ?_;have F:=ai @q4 @e;refine gG ?_;exact ⟨i+1,hlt,gw,gw,om⟩
theorem ZBX:Zaa (ZaA [])=[]:=by simp [ZaA,Zaa]
theorem ZvZ {l:List Tm} (h:ZaD l):ZaD (ZaA l):=by
 have:∀ {ts:List Tm},ZaD ts ↔ ∀ t∈ts,okTm t:=fun {ts}=>by
  induction ts with
  | nil=>simp [ZaD]
  | cons t ts ih=>simp [ZaD,ih]
 exact this.2 fun a ha=>this.1 h a ((Zbg l).mem_iff.1 ha)
theorem ZsG {l:List Tm} (h:ZaD l) (k:Nat):ZaD (l.take k):=by
 have:∀ {ts:List Tm},ZaD ts ↔ ∀ t∈ts,okTm t:=fun {ts}=>by
  induction ts with
  | nil=>simp [ZaD]
  | cons t ts ih=>simp [ZaD,ih]
 exact this.2 fun a ha=>this.1 h a (List.mem_of_mem_take ha)
theorem Zri (ts:List Tm) (hok:ZaD ts) (hB:tmsB ts):Con e0 161 [.one (.sl (Zaa ts))] [.one (.sl (Zaa (ZaA ts)))]:=by
 have hB0:=hB;unfold tmsB at hB
 have hcc:=Zj9 (ZaA ts) (by
  have h1:=(Zbg ts).length_eq;have h2:bulkRows (Zaa (ZaA ts))=bulkRows (Zaa ts):=by
   have:∀ {l m:List Tm},l.Perm m->bulkRows (Zaa l)=bulkRows (Zaa m):=fun h=>by
    induction h with
    | nil=>rfl
    | cons x h ih=>simp only [Zaa,bulkRows,ih]
    | swap x y l=>simp only [Zaa,bulkRows];omega
    | trans h1 h2 a b=>rw [a,b]
   exact this (Zbg ts)
  unfold tmsB;omega)
 refine gI (ts:=[.slot 2]) 1073743997 Tryz.func161 ?_;refine fG @tmz ?_;have F:=ai @ZBX @tmz;refine gL (ι:=Nat) [3,4,5,6,11,30] [3] (fun i=>[(4,A.d (.one (.lit (.int .i64 i)))),(3,.buf 3)]) (fun i=>[(3,.buf none 46 4 (Zaa (ZaA (ts.take i))))]) (fun i=>i<=ts.length) (fun i=>ts.length - i) (0) (Taj _) (fun i hi=>?_);clear F;by_cases hlt:i < ts.length;rotate_left
 ·obtain rfl:i=ts.length:=by omega
  have q2:=lF ts.length ts.length;rw [Tap];refine fN 10 (ai @q2 @tmz) ?_;refine pS 3 fun a cap=>?_;refine pD 3 [3] [] ?_;refine gB ?_;refine fC @tmz (hcc) ?_;refine fR @tmz ?_;exact fD @tmz
 obtain ⟨x,hx⟩:∃ b,ts[i]?=some b:=⟨_,Taa hlt⟩;have q2:=lT i ts.length;have q4:=Zau (k:=i) om;have hxo:=hok.mem (Tac hx);obtain ⟨M,hM⟩:∃ M,M=ZaA (ts.take i):=⟨_,rfl⟩;have hMl:M.length=i:=by rw [hM,Zdf,Taw];omega
 have hMo:ZaD M:=by rw [hM];exact ZvZ (ZsG hok i)
 have hMr:ts.take (i+1)=ts.take i++[x]:=Zcw hx;rw [<- hM];refine fN 5 (aj3 @q2 @hMl @tmz) ?_;refine gB ?_;refine fR (ai @hMl @tmz) ?_;refine ZdK ?_;refine gM (ι:=Nat) [5] [] (fun k=>[(5,A.d (.one (.lit (.int .i64 k))))]) (fun k=>[]) (fun k=>k<=i∧(∀ y∈M.drop k,Zai x y<=0)∧(0 < k->∃ y,M[k - 1]?=some y∧Zai y x<=0)) ?_ (fun k hk=>Exists.intro _ (ai (Wk.refl _) ?_))
 ·refine fG @tmz ?_;have F:=@tmz;refine gL (ι:=Nat) [5,30] [] (fun k=>[(5,A.d (.one (.lit (.int .i64 k))))]) (fun k=>[]) (fun k=>k<=i∧∀ y∈M.drop k,Zai x y<=0) (fun k=>k) (i) (⟨Tai _,by rw [<- hMl,List.drop_length];intro y hy;cases hy⟩) (fun k hk=>?_);clear F;obtain ⟨hk,h2⟩:=hk;by_cases hk0:k=0
  ·have q0:=lF 0 k;have F:=ai @q0 @tmz;refine gG ?_;exact ⟨k,⟨hk,h2,fun h=>om⟩,gw,gw⟩
  obtain ⟨j,rfl⟩:∃ j,k=j+1:=⟨k - 1,om⟩;obtain ⟨y,hy⟩:∃ y,M[j]?=some y:=⟨_,Taa om⟩;have q5:=lT 0 (j+1:Nat);have wj:IntKind.i64.wrap (((j+1:Nat):Int) - 1)=(j:Int):=ZaM om om om;have lj:j < i:=om;have hdr:M.drop j=y::M.drop (j+1):=ZdZ hy;generalize hk1:j+1=k1 at q5 wj h2 hk hdr ⊢;refine fB @tmz ?_;refine fC (aj8 @q5 @wj @hy @hx @hMl @lj @Zap @tmz) (ZdL (hMo.mem (Tac hy)) hxo) ?_;by_cases hc:0 < Zai y x
  ·have z:=eq_true hc;refine fR @z ?_;have h2':∀ u∈M.drop j,Zai x u<=0:=fun u hu=>by
    rw [hdr] at hu;rcases Tbg.1 hu with rfl | hu
    ·rw [Zci u x];omega
    ·exact h2 u hu
   have F:=ai @z @wj;refine gG ?_;exact ⟨j,⟨om,h2'⟩,gw,gw,om⟩
  have z:=eq_false hc;refine fR @z ?_;have F:=ai @z @tmz;refine gG ?_;exact ⟨k1,⟨hk,h2,fun _=>⟨y,by rw [<- hk1,Nat.add_sub_cancel];exact hy,om⟩⟩,gw,gw⟩
 obtain ⟨hk,h2,h1⟩:=hk;have hMs:M.take k++x::M.drop k=ZaA (ts.take (i+1)):=by
  rw [hMr];refine Zq1 (by rw [Tbm,hM]) h2 fun y hy=>?_;have hk0:0 < k:=by
   rcases Nat.eq_zero_or_pos k with h | h
   ·subst h;simp at hy
   ·exact h
  obtain ⟨z,hz,hc⟩:=h1 hk0;rw [List.getLast?_eq_getElem?,Taw,hMl,Nat.min_eq_left hk,List.getElem?_take,if_pos om,hz] at hy;injection hy with hy
  subst hy;exact hc
 have hdl:((Zaa M).take (Zaa M).length).drop k=Zaa (M.drop k):=by rw [Tap,Zek]
 refine fN 8 @tmz ?_;refine pS 3 fun a cap=>?_;refine gB ?_;have F:=@tmz;refine gP 3 ?_;clear F;have hkl:k<=(Zaa M).length:=by rw [Zad];omega
 refine (have F:=ai hMl tmz;gSub 3 k (Zaa M).length ⟨hkl,Tai _⟩ ?_);refine gO 33 46 4 ?_;refine (have F:=tmz;gAps (rows:=[]) (rj:=Zaa M) 33 3 ⟨hkl,Tai _⟩ (by rw [Zad];simp only [Tak,maxApp];omega) ?_);rw [hdl,Tah];refine fR @tmz ?_;refine fN 9 @tmz ?_;have hcl:(Zaa M).take k=Zaa (M.take k):=ZdN _ _;have htl:(M.take k).length=k:=by rw [Taw];omega
 refine gF0 ?_;refine gFm 0 ?_;refine gFm 1 ?_;refine (have F:=ai hMl tmz;gFs 2 3 0 k ⟨Taj _,hkl⟩ ?_);rw [Zlx];refine gFm 3 ?_;refine gFm 4 ?_;refine gFm 9 ?_;refine gFT ?_;have l1:(k+1<=maxApp)=True:=eq_true (by unfold maxApp;omega);have l2:((M.take k).length+1+(M.drop k).length<=maxApp)=True:=eq_true (by rw [htl,Tax];unfold maxApp;omega);have e1:Zaa (M.take k)++[Zac x]=Zaa (M.take k++[x]):=by rw [Zb8];rfl
 have e2:Zaa (M.take k++[x])++Zaa (M.drop k)=Zaa (ZaA (ts.take (i+1))):=by rw [<- Zb8,<- hMs];simp
 refine gO1 5 ?_;refine (have F:=aj4 q2 hx Zap tmz;gO3 ?_);refine gO1 6 ?_;refine (have F:=ai hx tmz;gO3 ?_);refine gO1 7 ?_;refine (have F:=tmz;gO3 ?_);refine gO1 8 ?_;refine gE [3] [3] (ZzN k hkl) ?_;rw [hcl];refine (have F:=aj4 htl l1 e1 tmz;gO3 ?_);refine gO1 10 ?_;refine (have F:=aj3 l2 e2 tmz;gO3 ?_);refine gO1 11 ?_;refine (have F:=tmz;gO3 ?_);refine (have F:=tmz;gT0 ?_);refine Exists.intro _ (ai (Wk.refl _) ?_)
 have F:=@q4;refine gG ?_;exact ⟨i+1,hlt,gw,gw,om⟩
theorem ZcS {ts:List Tm}:ZaD ts ↔ ∀ t∈ts,okTm t:=by
 induction ts with
 | nil=>simp [ZaD]
 | cons t ts ih=>simp [ZaD,ih]
theorem ZkS (op so:Int) (nm:ByteArray) (args:List Tm):bulkRow (Zac (.mk op nm so args))=nm.size+(args.length+bulkRows (Zaa args)):=by
 simp only [Zac,bulkRow,ZbG,Zad];omega
section
variable {g:Sgn}
mutual
theorem ZeB:∀ {t:Tm},ZaF g t->bulkRow (Zac t)+1<=13 * sizeTm t
 | .mk op nm so args,h=>by
  have h1:=ZiX (ZeY.2 (ZaY.1 h).2.1);simp only [Tm.args] at h1;rw [ZkS];simp only [sizeTm];rcases h.node with hv | ⟨o,d,hA⟩
  ·have h2:ZbF nm=true:=hv.2.1;have h3:args=[]:=hv.2.2.2.2;subst h3;have h4:¬ 12 < nm.size:=fun h=>by rw [ZcH (.inr (.inl h))] at h2;cases h2
   simp only [Zaa,bulkRows,sizeTms,Tak];omega
  ·have h2:nm=ByteArray.empty:=hA.nm;subst h2;have:ByteArray.empty.size=0:=rfl;omega
theorem ZiX:∀ {ts:List Tm},ZcA g ts->bulkRows (Zaa ts)+ts.length<=13 * sizeTms ts
 | [],_=>by simp [Zaa,bulkRows]
 | t::ts,h=>by
  simp only [ZcA] at h;have h1:=ZeB h.1;have h2:=ZiX h.2;simp only [Zaa,bulkRows,sizeTms,Tag];omega
end
end
def addL (i:Nat):Nat->List Oper->List Oper
 | _,[]=>[]
 | 0,o::l=>{ o with after:=o.after.push ⟨i,.data⟩ }::l
 | k+1,o::l=>o::addL i k l
theorem Zhm (i:Nat):∀ (k:Nat) (l:List Oper) (j:Nat),(addL i k l)[j]?=if j=k then l[j]?.map fun o=>{ o with after:=o.after.push ⟨i,.data⟩ } else l[j]?
 | k,[],j=>by simp [addL]
 | 0,o::l,0=>by simp [addL]
 | 0,o::l,j+1=>by simp [addL]
 | k+1,o::l,0=>by simp [addL]
 | k+1,o::l,j+1=>by simp [addL,Zhm i k l j]
theorem ZiY (i:Nat):∀ (k:Nat) (l:List Oper),(addL i k l).length=l.length
 | k,[]=>by simp [addL]
 | 0,o::l=>by simp [addL]
 | k+1,o::l=>by simp [addL,ZiY i k l]
theorem ZlZ (i:Nat):∀ (k:Nat) (l:List Oper),(addL i k l).map (·.dst)=l.map (·.dst)
 | k,[]=>by simp [addL]
 | 0,o::l=>by simp [addL]
 | k+1,o::l=>by simp [addL,ZlZ i k l]
section
variable {P:Program} {l:List Oper} {i k:Nat} {oi ok:Oper}
theorem ZhM {Q:Exit->Act->World->Prop} {j:Nat} {K:Act->World->Prop} {a:Act} {w:World}:wpOp P (addL i k l).toArray Q j K a w ↔ wpOp P l.toArray Q j K a w:=by
 have hb:∀ g:Nat,((addL i k l)[g]?).bind (fun x=>x.dst)=(l[g]?).bind fun x=>x.dst:=fun g=>by
  rw [Zhm];by_cases h:g=k
  ·rw [if_pos h];cases l[g]? <;> rfl
  ·rw [if_neg h]
 have hy:yielded (addL i k l).toArray a.tmps=yielded l.toArray a.tmps:=by
  funext g;unfold yielded;simp only [List.getElem?_toArray,hb]
 unfold wpOp;rw [hy];simp only [List.getElem?_toArray,Zhm];by_cases hjk:j=k
 ·rw [if_pos hjk]
  cases hj:l[j]? with
  | none=>exact Iff.rfl
  | some o=>exact Iff.rfl
 ·rw [if_neg hjk]
def ZzR (ops:Array Oper) (i:Nat):Bool:=(List.range ops.size).all fun j=>j==i || match ops[i]?,ops[j]? with
 | some oi,some oj=>oi.after.any (fun e=>Region.binds .any e && e.on==j) || (oj.after.any (fun e=>Region.binds .any e && e.on==i) || oi.apart ops oj)
 | _,_=>true
def Znc (ops:Array Oper) (i k:Nat):Bool:=ZiV ops && ZzR ops i && i != k && match ops[i]?,ops[k]? with
 | some oi,some ok=>(match oi with
  | ⟨some _,.extract _ _,_,_,_,none⟩=>true
  | _=>false) && oi.after.all fun e=>!Region.binds .any e || ok.after.any fun e'=>Region.binds .any e' && e'.on==e.on
 | _,_=>false
theorem Zv0 {Q:Exit->Act->World->Prop} (hQ:∀ ex a w,Q ex a w->ex=.normal) (hB:Znc l.toArray i k=true) :
  ∀ (f:Nat) (listed:Array Bool) (a:Act) (w:World),listed.size=l.length->wpAny P .any (addL i k l).toArray Q f listed a w->wpAny P .any l.toArray Q f listed a w:=by
 simp only [Znc,Tar,bne_iff_ne,ne_eq] at hB;obtain ⟨⟨⟨hsel,hap⟩,hik⟩,h4⟩:=hB;split at h4;rotate_left
 ·cases h4
 rename_i oi ok hoi hok;simp only [Tar] at h4;obtain ⟨h5,h6⟩:=h4;have hpre:∀ e∈oi.after,Region.binds .any e=true->∃ e'∈ok.after,Region.binds .any e'=true∧e'.on=e.on:=fun e he hb=>by
  have:=Array.all_eq_true_iff_forall_mem.1 h6 e he;simp only [hb,Bool.not_true,Bool.false_or,Array.any_eq_true',Tar,beq_iff_eq] at this;obtain ⟨e',q1,q2,q3⟩:=this;exact ⟨e',q1,q2,q3⟩
 have hrdy:∀ (listed:Array Bool) (j:Nat),j∈Region.ready .any (addL i k l).toArray listed ↔ j∈Region.ready .any l.toArray listed∧(j=k->listed.getD i false=true):=fun listed j=>by
  rw [mem_ready,mem_ready];simp only [List.getElem?_toArray,Zhm];by_cases hj:j=k
  ·subst hj;simp only [if_true,true_implies];constructor
   ·rintro ⟨q1,o,q2,q3⟩
    cases hl:l[j]? with
    | none=>rw [hl] at q2;cases q2
    | some o' =>
     rw [hl] at q2;injection q2 with q2
     subst q2;exact ⟨⟨q1,o',rfl,fun e he hb=>q3 e (by simp [he]) hb⟩,q3 ⟨i,.data⟩ (by simp) rfl⟩
   ·rintro ⟨⟨q1,o,q2,q3⟩,q4⟩;refine ⟨q1,_,by rw [q2];rfl,fun e he hb=>?_⟩;rcases Array.mem_push.1 he with he | he
    ·exact q3 e he hb
    ·subst he;exact q4
  ·simp [hj]
 have hun:∀ (listed:Array Bool),listed.size=l.length->k∈Region.ready .any l.toArray listed->i∈Region.ready .any l.toArray listed∨listed.getD i false=true:=fun listed hs hk=>by
  by_cases h:listed.getD i false=true
  ·exact .inr h
  ·left;rw [mem_ready] at hk ⊢;obtain ⟨_,o,q2,q3⟩:=hk;have:o=ok:=by rw [hok] at q2;injection q2 with q2;exact q2.symm
   subst this;have hlt:i < l.length:=by have:=(Tbl.1 hoi).1;simpa using this
   refine ⟨?_,oi,hoi,fun e he hb=>?_⟩
   ·have hl:i < listed.size:=om;rw [ZbL hl];simpa using h
   ·obtain ⟨e',r1,r2,r3⟩:=hpre e he hb;rw [<- r3];exact q3 e' r1 r2
 have hap':=hap;intro f
 induction f with
 | zero =>
  intro listed a w hs h;refine ⟨?_,h.2⟩;by_cases hk:k∈Region.ready .any l.toArray listed
  ·rcases hun listed hs hk with h1 | h1
   ·have:=(hrdy listed i).2 ⟨h1,fun e=>absurd e hik⟩;rw [h.1] at this
    cases this
   ·have:=(hrdy listed k).2 ⟨hk,fun _=>h1⟩;rw [h.1] at this
    cases this
  ·refine List.eq_nil_iff_forall_not_mem.2 fun j hj=>?_;have:=(hrdy listed j).2 ⟨hj,fun e=>absurd (e ▸ hj) hk⟩;rw [h.1] at this
   cases this
 | succ f ih =>
  intro listed a w hs h;by_cases hi:i∈Region.ready .any l.toArray listed
  ·have h1:=h.2 i ((hrdy listed i).2 ⟨hi,fun e=>absurd e hik⟩);rw [ZhM] at h1;have h1':∃ v,Yields P l.toArray oi v a∧wpAny P .any (addL i k l).toArray Q f (listed.setIfInBounds i true) (a.put oi.dst v) w:=by
    unfold wpOp at h1;simp only [hoi] at h1;split at h5;rotate_left
    ·cases h5
    rename_i d x n ty pos af;have hw:Region.wanted ⟨some d,.extract x n,ty,pos,af,none⟩ (yielded l.toArray a.tmps)=true:=by simp [Region.wanted]
    rw [if_pos hw] at h1;rcases h1 with h1 | ⟨_,b,w',h1⟩
    rotate_left
    ·have:=hQ _ _ _ h1;cases this
    unfold Oper.wp at h1
    cases hx:a.eval x with
    | tuple vs =>
     cases hv:vs[n]? with
     | some v =>
      have hrun:∀ w',(execOp a.eval ⟨some d,.extract x n,ty,pos,af,none⟩).run P w'=.ok (.value v) w':=fun w'=>by
       simp [execOp,Instr.extract,hx,hv]
      rw [hrun,Oper.upon_value] at h1;exact ⟨v,.inl ⟨hw,hrun⟩,h1⟩
     | none =>
      simp [execOp,Instr.extract,hx,hv,stuck,Oper.upon] at h1
    | _=>simp [execOp,Instr.extract,hx,stuck,Oper.upon] at h1
   obtain ⟨v,hv,h2⟩:=h1';refine wpAny_first (oi:=oi) (v:=v) hoi (fun j oj cs b hj hsl=>?_) (fun c a w hq=>?_) f listed a w (fun j oj hj hne hl hno=>?_) hi hv (ih _ _ _ (by simpa using hs) h2)
   ·have:=List.all_eq_true.1 hsel oj (Tac (by simpa using hj));rw [hsl] at this
    cases this
   ·have:=hQ _ _ _ hq;cases this
   ·have hjs:=(Tbl.1 hj).1;have:=List.all_eq_true.1 hap j (List.mem_range.2 hjs);simp only [hoi,hj,Bool.or_eq_true,beq_iff_eq,List.any_eq_true,Array.any_eq_true',Tar] at this;rcases this with h1 | h1 | h1 | h1
    ·exact absurd h1 hne
    ·obtain ⟨ed,h2,h3,h4⟩:=h1;obtain ⟨_,o,q2,q3⟩:=mem_ready.1 hi;rw [hoi] at q2;injection q2 with q2
     subst q2;have q4:=q3 ed h2 h3;rw [h4,<- ZbL (by simpa [hs] using hjs)] at q4;rw [hl] at q4
     cases q4
    ·obtain ⟨ed,h2,h3,h4⟩:=h1;exact absurd h4 (hno ed h2 h3)
    ·exact h1
  ·refine ⟨fun h0=>h.1 ?_,fun j hj=>?_⟩
   ·refine List.eq_nil_iff_forall_not_mem.2 fun j hj=>?_;have:=((hrdy listed j).1 hj).1;rw [h0] at this
    cases this
   ·have hj':j∈Region.ready .any (addL i k l).toArray listed:=(hrdy listed j).2 ⟨hj,fun e=>by
     subst e;rcases hun listed hs hj with h1 | h1
     ·exact absurd h1 hi
     ·exact h1⟩
    have h1:=h.2 j hj';rw [ZhM] at h1;exact wpOp_mono (fun a w h=>ih _ a w (by simpa using hs) h) h1
end
section
variable {e:Env} {K:St->Prop} {mask:Nat} {Q:PX->St->Prop} {s:List (Nat × A)} {m:List (Nat × Bk)}
theorem Znd {l:List Oper} {i k:Nat} {σ:St} (hB:Znc l.toArray i k=true) (h:ZcK e (addL i k l).toArray K l.length (Array.replicate l.length false) σ):ZcK e l.toArray K l.length (Array.replicate l.length false) σ:=by
 intro he U w0 S0 nt a w hd hs;refine Zv0 (fun ex a w hq=>hq.1) hB _ _ _ _ (by simp) (h he U w0 S0 nt a w (fun o ho d hdd=>?_) hs);have:some d∈(addL i k l).map (·.dst):=Tbi.2 ⟨o,by simpa using ho,hdd⟩;rw [ZlZ] at this;obtain ⟨o',h1,h2⟩:=Tbi.1 this;exact hd o' (by simpa using h1) d h2
theorem ZsH {l:List Oper} {p:Nat} {σ:St} (hAl:Ze9 l.toArray p=true) (hB:regB l.toArray (p+1)=true) (hp:Runs e (l.map (·.dst)) (p+1) l σ K):ZcK e l.toArray K l.length (Array.replicate l.length false) σ:=by
 intro he U w0 S0 nt a w hd hs;have:=Zg2 (ops:=l.toArray) he hAl hB (K:=K) (Q:=QN e U w0 S0 nt K) (fun a w σ' hK hs'=>⟨rfl,σ',hK,hs'⟩) hd hs (by simpa using hp);simpa using this
theorem gLt {id:Nat} {l l':List Oper} {ds:List (Option Nat)} (p i k:Nat) (hK:Runs e ds (p+1) l' ⟨s,m⟩ (ZcX mask Q)) (hl:addL i k l=l':=by simp only [addL];exact rfl) (hds:l'.map (·.dst)=ds:=by simp only [Tbv,List.map_nil];exact rfl) (hc:Znc l.toArray i k=true:=by decide +kernel) (hA:Ze9 l'.toArray p=true:=by decide +kernel) (hr:regB l'.toArray (p+1)=true:=by decide +kernel):pwp e mask (.region id l.toArray true) ⟨s,m⟩ Q:=by
 subst hl hds;have h1:=Znd hc (by have:=ZsH hA hr hK;rwa [ZiY] at this);exact ZhL (ops:=l.toArray) (by simpa using h1)
end
def ZD2 (ops:Array Oper) (ok:Oper):List Nat:=(ok.after.toList.filter fun e=>Region.binds .any e).flatMap fun e=>e.on::match ops[e.on]? with
 | some o=>(o.after.toList.filter fun e=>Region.binds .any e).map (·.on)
 | none=>[]
def Zp0 (ops:Array Oper) (i k:Nat):Bool:=ZiV ops && ZzR ops i && i != k && match ops[i]?,ops[k]? with
 | some oi,some ok=>(match oi with
  | ⟨some _,.pick _ _ _,_,_,_,none⟩=>true
  | _=>false) && oi.after.all fun e=>!Region.binds .any e || (ZD2 ops ok).contains e.on
 | _,_=>false
section
variable {P:Program} {l:List Oper} {i k:Nat}
def Zim (l:List Oper) (listed:Array Bool):Prop:=∀ (j:Nat) o,listed.getD j false=true->l[j]?=some o->∀ e∈o.after,Region.binds .any e=true->listed.getD e.on false=true
theorem Zim.put {listed:Array Bool} {j:Nat} (hc:Zim l listed) (hj:j∈Region.ready .any l.toArray listed):Zim l (listed.setIfInBounds j true):=by
 intro q o hq ho e he hb;obtain ⟨_,o',h2,h3⟩:=mem_ready.1 hj;have hmono:∀ t,listed.getD t false=true->(listed.setIfInBounds j true).getD t false=true:=fun t ht=>by
  by_cases htj:t=j
  ·subst htj;simp only [Array.getD_eq_getD_getElem?,Array.getElem?_setIfInBounds] at ht ⊢
   cases hl:listed[t]? with
   | none=>rw [hl] at ht;cases ht
   | some b =>
    have:t < listed.size:=(Tbl.1 hl).1;simp [this]
  ·rw [getD_set_ne false (Ne.symm htj)];exact ht
 by_cases hqj:q=j
 ·subst hqj;have:o'=o:=by
   rw [List.getElem?_toArray,ho] at h2;injection h2 with h2
   exact h2.symm
  subst this;exact hmono _ (h3 e he hb)
 ·rw [getD_set_ne false (Ne.symm hqj)] at hq;exact hmono _ (hc q o hq ho e he hb)
theorem ZsI {Q:Exit->Act->World->Prop} (hQ:∀ ex a w,Q ex a w->ex=.normal) (hB:Zp0 l.toArray i k=true) :
  ∀ (f:Nat) (listed:Array Bool) (a:Act) (w:World),listed.size=l.length->Zim l listed->wpAny P .any (addL i k l).toArray Q f listed a w->wpAny P .any l.toArray Q f listed a w:=by
 simp only [Zp0,Tar,bne_iff_ne,ne_eq] at hB;obtain ⟨⟨⟨hsel,hap⟩,hik⟩,h4⟩:=hB;split at h4;rotate_left
 ·cases h4
 rename_i oi ok hoi hok;simp only [Tar] at h4;obtain ⟨h5,h6⟩:=h4;have hrdy:∀ (listed:Array Bool) (j:Nat),j∈Region.ready .any (addL i k l).toArray listed ↔ j∈Region.ready .any l.toArray listed∧(j=k->listed.getD i false=true):=fun listed j=>by
  rw [mem_ready,mem_ready];simp only [List.getElem?_toArray,Zhm];by_cases hj:j=k
  ·subst hj;simp only [if_true,true_implies];constructor
   ·rintro ⟨q1,o,q2,q3⟩
    cases hl:l[j]? with
    | none=>rw [hl] at q2;cases q2
    | some o' =>
     rw [hl] at q2;injection q2 with q2
     subst q2;exact ⟨⟨q1,o',rfl,fun e he hb=>q3 e (by simp [he]) hb⟩,q3 ⟨i,.data⟩ (by simp) rfl⟩
   ·rintro ⟨⟨q1,o,q2,q3⟩,q4⟩;refine ⟨q1,_,by rw [q2];rfl,fun e he hb=>?_⟩;rcases Array.mem_push.1 he with he | he
    ·exact q3 e he hb
    ·subst he;exact q4
  ·simp [hj]
 have hun:∀ (listed:Array Bool),listed.size=l.length->Zim l listed->k∈Region.ready .any l.toArray listed->i∈Region.ready .any l.toArray listed∨listed.getD i false=true:=fun listed hs hcl hk=>by
  by_cases h:listed.getD i false=true
  ·exact .inr h
  ·left;rw [mem_ready] at hk ⊢;obtain ⟨_,o,q2,q3⟩:=hk;have:o=ok:=by rw [hok] at q2;injection q2 with q2;exact q2.symm
   subst this;have hlt:i < l.length:=by have:=(Tbl.1 hoi).1;simpa using this
   refine ⟨?_,oi,hoi,fun e he hb=>?_⟩
   ·have hl:i < listed.size:=om;rw [ZbL hl];simpa using h
   ·have:=Array.all_eq_true_iff_forall_mem.1 h6 e he;simp only [hb,Bool.not_true,Bool.false_or,List.contains_eq_mem,decide_eq_true_eq,ZD2,List.mem_flatMap,List.mem_filter,Tbg] at this;obtain ⟨e',⟨r1,r2⟩,r3⟩:=this;have hl':=q3 e' (Array.mem_toList_iff.1 r1) r2;rcases r3 with r3 | r3
    ·rw [r3];exact hl'
    ·cases ho':l.toArray[e'.on]? with
     | none=>rw [ho'] at r3;simp at r3
     | some o' =>
      rw [ho'] at r3;simp only [Tbi,List.mem_filter] at r3;obtain ⟨e2,⟨r4,r5⟩,r6⟩:=r3;rw [<- r6];exact hcl e'.on o' hl' (by simpa using ho') e2 (Array.mem_toList_iff.1 r4) r5
 intro f
 induction f with
 | zero =>
  intro listed a w hs hcl h;refine ⟨?_,h.2⟩;by_cases hk:k∈Region.ready .any l.toArray listed
  ·rcases hun listed hs hcl hk with h1 | h1
   ·have:=(hrdy listed i).2 ⟨h1,fun e=>absurd e hik⟩;rw [h.1] at this
    cases this
   ·have:=(hrdy listed k).2 ⟨hk,fun _=>h1⟩;rw [h.1] at this
    cases this
  ·refine List.eq_nil_iff_forall_not_mem.2 fun j hj=>?_;have:=(hrdy listed j).2 ⟨hj,fun e=>absurd (e ▸ hj) hk⟩;rw [h.1] at this
   cases this
 | succ f ih =>
  intro listed a w hs hcl h;by_cases hi:i∈Region.ready .any l.toArray listed
  ·have h1:=h.2 i ((hrdy listed i).2 ⟨hi,fun e=>absurd e hik⟩);rw [ZhM] at h1;have h1':∃ v,Yields P l.toArray oi v a∧wpAny P .any (addL i k l).toArray Q f (listed.setIfInBounds i true) (a.put oi.dst v) w:=by
    unfold wpOp at h1;simp only [hoi] at h1;split at h5;rotate_left
    ·cases h5
    rename_i d x y z ty pos af;have hw:Region.wanted ⟨some d,.pick x y z,ty,pos,af,none⟩ (yielded l.toArray a.tmps)=true:=by simp [Region.wanted]
    rw [if_pos hw] at h1;rcases h1 with h1 | ⟨_,b,w',h1⟩
    rotate_left
    ·have:=hQ _ _ _ h1;cases this
    unfold Oper.wp at h1
    cases hx:a.eval x with
    | bool b =>
     have hrun:∀ w',(execOp a.eval ⟨some d,.pick x y z,ty,pos,af,none⟩).run P w'=.ok (.value (if b then a.eval y else a.eval z)) w':=fun w'=>by
      cases b <;> simp [execOp,hx,asBool]
     rw [hrun,Oper.upon_value] at h1;exact ⟨_,.inl ⟨hw,hrun⟩,h1⟩
    | _=>simp [execOp,hx,asBool,stuck,Oper.upon,Result.andThen] at h1
   obtain ⟨v,hv,h2⟩:=h1';refine wpAny_first (oi:=oi) (v:=v) hoi (fun j oj cs b hj hsl=>?_) (fun c a w hq=>?_) f listed a w (fun j oj hj hne hl hno=>?_) hi hv (ih _ _ _ (by simpa using hs) (hcl.put hi) h2)
   ·have:=List.all_eq_true.1 hsel oj (Tac (by simpa using hj));rw [hsl] at this
    cases this
   ·have:=hQ _ _ _ hq;cases this
   ·have hjs:=(Tbl.1 hj).1;have:=List.all_eq_true.1 hap j (List.mem_range.2 hjs);simp only [hoi,hj,Bool.or_eq_true,beq_iff_eq,List.any_eq_true,Array.any_eq_true',Tar] at this;rcases this with h1 | h1 | h1 | h1
    ·exact absurd h1 hne
    ·obtain ⟨ed,h2,h3,h4⟩:=h1;obtain ⟨_,o,q2,q3⟩:=mem_ready.1 hi;rw [hoi] at q2;injection q2 with q2
     subst q2;have q4:=q3 ed h2 h3;rw [h4,<- ZbL (by simpa [hs] using hjs)] at q4;rw [hl] at q4
     cases q4
    ·obtain ⟨ed,h2,h3,h4⟩:=h1;exact absurd h4 (hno ed h2 h3)
    ·exact h1
  ·refine ⟨fun h0=>h.1 ?_,fun j hj=>?_⟩
   ·refine List.eq_nil_iff_forall_not_mem.2 fun j hj=>?_;have:=((hrdy listed j).1 hj).1;rw [h0] at this
    cases this
   ·have hj':j∈Region.ready .any (addL i k l).toArray listed:=(hrdy listed j).2 ⟨hj,fun e=>by
     subst e;rcases hun listed hs hcl hj with h1 | h1
     ·exact absurd h1 hi
     ·exact h1⟩
    have h1:=h.2 j hj';rw [ZhM] at h1;exact wpOp_mono (fun a w h=>ih _ a w (by simpa using hs) (hcl.put hj) h) h1
end
section
variable {e:Env} {K:St->Prop} {mask:Nat} {Q:PX->St->Prop} {s:List (Nat × A)} {m:List (Nat × Bk)}
theorem ZsJ {l:List Oper} {i k:Nat} {σ:St} (hB:Zp0 l.toArray i k=true) (h:ZcK e (addL i k l).toArray K l.length (Array.replicate l.length false) σ):ZcK e l.toArray K l.length (Array.replicate l.length false) σ:=by
 intro he U w0 S0 nt a w hd hs;refine ZsI (fun ex a w hq=>hq.1) hB _ _ _ _ (by simp) (fun j o hj=>by rw [getD_replicate_false] at hj;cases hj) (h he U w0 S0 nt a w (fun o ho d hdd=>?_) hs);have:some d∈(addL i k l).map (·.dst):=Tbi.2 ⟨o,by simpa using ho,hdd⟩;rw [ZlZ] at this;obtain ⟨o',h1,h2⟩:=Tbi.1 this;exact hd o' (by simpa using h1) d h2
theorem ZhN (he:e.Ok) {U:Nat->Prop} {w0:World} {S0:Nat->Prop} {nt:Nat} {ops:Array Oper} {n:Nat} (hB:regB ops n=true) (hna:∀ o,(ops.toList.take n).getLast?=some o->isAl o=false) {Q:Exit->Act->World->Prop} (hQ:∀ a w σ',K σ'->SimE e U w0 S0 nt σ' a w->Q .normal a w) {σ:St} {a:Act} {w:World}
  (hd:∀ o∈ops.toList,∀ d,o.dst=some d->d < nt) (h:SimE e U w0 S0 nt σ a w) (hp:Runs e (ops.toList.map (·.dst)) n ops.toList σ K):wpAny e.P .any ops Q ops.size (Array.replicate ops.size false) a w:=by
 simp only [regB,Tar,Bool.or_eq_true,decide_eq_true_eq] at hB;obtain ⟨⟨⟨hH,hn⟩,hs⟩,hsq⟩:=hB;obtain ⟨S,L,h1⟩:=h;have hsplit:ops.toList=ops.toList.take n++ops.toList.drop n:=(Tbm n _).symm;have hlen:(ops.toList.take n).length=n:=by simp;omega
 have hp':Runs e (ops.toList.map (·.dst)) ((ops.toList.take n).length+0) (ops.toList.take n++ops.toList.drop n) σ K:=by rw [<- hsplit,hlen];exact hp
 obtain ⟨αs,hal,hch,hrest⟩:=ZeK (U:=U) he w0.heap.size S0 ops.toList (ops.toList.drop n) 0 (ops.toList.take n) σ (fun _=>hna) hp';rw [hlen] at hal
 have inv0:InvA e U w0 S0 nt σ.m ops n σ.s αs L (Array.replicate ops.size false) a w S :=
  ⟨⟨by simp,fun j oj _ hl=>(by rw [getD_replicate_false] at hl;cases hl),fun t _ ht=>getD_in (by simpa using ht) (getD_replicate_false _ _)⟩,h1.size,h1.defers,h1.cls,h1.kept,fun t _=>h1.rel t,fun i o d α _ hl=>(by rw [getD_replicate_false] at hl;cases hl)⟩
 have H:=ZdJ (e:=e) (L:=L) (Q:=Q) he hH hn (fun hlt=>by
   rcases hs with hs | hs
   ·omega
   ·exact hs) hsq (fun i o d hi ho hdd=>hd o (List.mem_iff_getElem?.2 ⟨i,by simpa using ho⟩) d hdd) hal hch (ZhR hH Q) (fun _ _ _ _ _ _ _ _ _ _ _ _ _ _=>trivial) (fun listed a' w' S' hI _ hall=>?_) n _ a _ S inv0 trivial ?_
 ·rw [show n+(ops.size - n)=ops.size by omega] at H;exact H
 ·have hsim:SimE e U w0 S0 nt ⟨after σ.s (ops.toList.take n) αs,σ.m⟩ a' w':=by
   refine ⟨S',L,hI.cls,fun t=>?_,hI.size,hI.defers,hI.kept⟩;by_cases hex:∃ (j:Nat) (p:Oper),j < n∧ops[j]?=some p∧p.dst=some t
   ·obtain ⟨j,p,hj,hp,hpt⟩:=hex;obtain ⟨p',d',hP⟩:=ZcF.get hH hj;have hpp:p'=p:=by have:=hP.op;rw [hp] at this;injection this with this;exact this.symm
    subst hpp;have hdt:d'=t:=by have:=hP.dst;rw [hpt] at this;injection this with this;exact this.symm
    subst hdt;obtain ⟨α,hα⟩:∃ α,αs[j]?=some α:=⟨αs[j],Taa om⟩;show ARel w' S' L (gs (after σ.s (ops.toList.take n) αs) d') _;rw [Zei (ops.toList.take n) αs σ.s j p' α (by rw [List.getElem?_take,if_pos hj];simpa using hp) hα hpt (fun k q hk hq=>by
     rw [List.getElem?_take] at hq;split at hq
     ·exact (hP.dep k q om (by simpa using hq)).1 hk
     ·cases hq)]
    exact hI.done j p' d' α hj (hall j hj) hp hpt hα
   ·have hno:∀ (j:Nat) (p:Oper),j < n->ops[j]?=some p->p.dst≠some t:=fun j p hj hp hd=>hex ⟨j,p,hj,hp,hd⟩;show ARel w' S' L (gs (after σ.s (ops.toList.take n) αs) t) _;rw [Zdl _ _ _ (fun p hp=>by
     obtain ⟨j,hj⟩:=List.mem_iff_getElem?.1 hp;rw [List.getElem?_take] at hj;split at hj
     ·exact hno j p om (by simpa using hj)
     ·cases hj)]
    exact hI.out t hno
  have:=ZnQ he ops.toList hQ (ops.toList.drop n) _ a' w' (fun o ho=>hd o (List.mem_of_mem_drop ho)) hsim hrest;simpa using this
 ·rw [List.countP_eq_length.2]
  ·simp
  ·intro i hi;have hi':=List.mem_range.1 hi;have hsz:i < (Array.replicate ops.size false).size:=by simp;omega
   rw [ZbL hsz,getD_replicate_false];rfl
theorem Zv1 {l:List Oper} {n:Nat} {σ:St} (hB:regB l.toArray n=true) (hna:∀ o,(l.take n).getLast?=some o->isAl o=false) (hp:Runs e (l.map (·.dst)) n l σ K):ZcK e l.toArray K l.length (Array.replicate l.length false) σ:=by
 intro he U w0 S0 nt a w hd hs;have:=ZhN (ops:=l.toArray) (n:=n) he hB (by simpa using hna) (K:=K) (Q:=QN e U w0 S0 nt K) (fun a w σ' hK hs'=>⟨rfl,σ',hK,hs'⟩) hd hs (by simpa using hp);simpa using this
def ZzS (l:List Oper) (n:Nat):Bool:=match (l.take n).getLast? with
 | some o=>!isAl o
 | none=>true
theorem gLp {id:Nat} {l l':List Oper} {ds:List (Option Nat)} (n i k:Nat) (hK:Runs e ds n l' ⟨s,m⟩ (ZcX mask Q)) (hl:addL i k l=l':=by simp only [addL];exact rfl) (hds:l'.map (·.dst)=ds:=by simp only [Tbv,List.map_nil];exact rfl) (hc:Zp0 l.toArray i k=true:=by decide +kernel) (hA:ZzS l' n=true:=by decide +kernel) (hr:regB l'.toArray n=true:=by decide +kernel):pwp e mask (.region id l.toArray true) ⟨s,m⟩ Q:=by
 subst hl hds;have h1:=ZsJ hc (by have:=Zv1 hr (fun o ho=>by unfold ZzS at hA;rw [ho] at hA;simpa using hA) hK;rwa [ZiY] at this);exact ZhL (ops:=l.toArray) (by simpa using h1)
end
end Go.Proofs.YtkigoajepohkaaaGreatDoor
namespace Go.Proofs.YtkigoajepohkaaaGreatDoor
open Go.RowKit
open Classical in
noncomputable def mk6 (g:Sgn) (o:Opr) (d:Dcl) (op:Int) (xs:List Tm):Tm:=(mkO g o d op xs).getD (if ¬ ArB o d xs.length∧∀ (i:Nat) a,xs[i]?=some a->KArg g o d i a then appT op (srtO o (Zax o op xs)) else zTm)
theorem Zrj {g:Sgn} {o:Opr} {op:Int} {xs:List Tm} (h:∀ a∈xs,TermOk g a):∀ b∈Zax o op xs,ZaF g b:=by
 intro b hb;obtain ⟨a,h1,h2⟩:=List.mem_flatMap.1 hb;have hf:=(h a h1).form;unfold ZbH at h2;split at h2
 ·exact (ZaY.1 hf).2.1 b h2
 ·split at h2
  ·cases h2
  ·rw [Tbj.1 h2];exact hf
theorem ZoY:∀ (l m:List Tm),sizeTms (l++m)=sizeTms l+sizeTms m
 | [],m=>by simp [sizeTms]
 | x::l,m=>by simp only [Taf,sizeTms,ZoY l m];omega
theorem Zl0 {g:Sgn} {o:Opr} {op:Int}:∀ {xs:List Tm},(∀ a∈xs,TermOk g a)->sizeTms (Zax o op xs)<=60 * xs.length
 | [],_=>by simp [Zax,sizeTms]
 | a::xs,h=>by
  have ih:=Zl0 (o:=o) (op:=op) (xs:=xs) fun x hx=>h x (Tal _ hx);have ha:=(h a Tas).size;have e:Zax o op (a::xs)=ZbH o op a++Zax o op xs:=rfl;have hz:=Zbt a;have hf:sizeTms (ZbH o op a)<=sizeTm a:=by
   unfold ZbH;split
   ·omega
   ·split
    ·simp [sizeTms]
    ·simp [sizeTms]
  rw [e,ZoY,Tag];omega
theorem ZEC {g:Sgn} {o:Opr} {op:Int} {xs:List Tm} (h:∀ a∈xs,TermOk g a) (hl:xs.length<=1000):tmsB (Zax o op xs):=by
 have h1:=ZiX (ZeY.2 (Zrj (o:=o) (op:=op) h));have h2:=Zl0 (o:=o) (op:=op) h;unfold tmsB;omega
theorem Zv2 {l m:List Tm} (h:l.Perm m):bulkRows (Zaa l)=bulkRows (Zaa m):=by
 induction h with
 | nil=>rfl
 | cons x h ih=>simp only [Zaa,bulkRows,ih]
 | swap x y l=>simp only [Zaa,bulkRows];omega
 | trans h1 h2 a b=>rw [a,b]
section
variable {g:Sgn}
open Classical in
theorem ZsK (hokg:ZdQ g) (hg:SgnOk g) {op:Int} {o:Opr} {d:Dcl} (h0:0<=op) (ho:g.ops[op.toNat]?=some o) (hd:o.decls[0]?=some d) (xs:List Tm) (ha:∀ a∈xs,TermOk g a) (hl:xs.length<=1048576) (hfb:tmsB (Zax o op xs)):Con e0 111 [.agg (ZaB g),.one (.lit (.int .i64 op)),.one (.sl (Zaa xs))] [.agg (Zac (mk6 g o d op xs)),.one (.lit (.bool (mkO g o d op xs).isSome))]:=by
 have hz:=Zna;have hfo:ZaD (Zax o op xs):=ZcS.2 fun b hb=>ZaF.ok hg _ b (Tan _) (Zrj ha b hb);have hfs:=Zl0 (o:=o) (op:=op) ha;have hax:=hg.axs o (Tac ho);have hlo:=hax.lo;have hhi:=hax.hi;have hln:=hg.len;obtain ⟨d',hd',hr0,hr1,hargs⟩:=hg.first ho;rw [hd] at hd';injection hd' with hd'
 subst hd';have cK:=ZeW hg.sorts;rw [Zbo] at cK;have cUn:=ZiS hg h0 ho;rw [ZaB] at cUn;have cA:=Zf1 hd;rw [ZbZ] at cA;have hB:mkO g o d op xs=if ArB o d xs.length then none else if ∀ (i:Nat) a,xs[i]?=some a->KArg g o d i a then mkL o op (Zax o op xs) else none:=rfl
 have hM:mk6 g o d op xs=(mkO g o d op xs).getD (if ¬ ArB o d xs.length∧∀ (i:Nat) a,xs[i]?=some a->KArg g o d i a then appT op (srtO o (Zax o op xs)) else zTm):=rfl;have har2:o.assoc=true->d.args.length=2:=fun h=>by
  obtain ⟨k1,k2,hk,_⟩:=Opr.two hg ho hd (.inl h);rw [hk];rfl
 refine gI (ts:=[.cell 6 46,.slot 7]) 691281634562849416457226259614436229071 Tryz.func111 ?_;refine fN 2 (aj5 @tmz @Zcq @h0 @ho @Zaj) ?_;refine gB ?_;refine fC @tmz (cK) ?_;refine fR @tmz ?_;refine fN 3 @tmz ?_;refine gM (ι:=Bool) [38] [] (fun b=>[(38,A.d (.one (.lit (.bool b))))]) (fun b=>[]) (fun b=>b=decide (ArB o d xs.length)) ?_ (fun b hb=>Exists.intro _ (ai (Wk.refl _) ?_))
 ·refine gB ?_;refine fC (ai @tmz @Zaj) (cA) ?_;by_cases q:xs.length=d.args.length
  ·have q1:((xs.length:Int)=(d.args.length:Int))=True:=eq_true om;have hA:¬ ArB o d xs.length:=fun h=>h.elim (fun h=>by have:=har2 h.1;omega) fun h=>h.2 q;refine fR (ai @q1 @tmz) ?_;have F:=@tmz;refine gG ?_;exact ⟨false,(decide_eq_false hA).symm,gw,gw⟩
  have q1:((xs.length:Int)=(d.args.length:Int))=False:=eq_false om
  cases hac:o.assoc with
  | false =>
   have hA:ArB o d xs.length:=.inr ⟨hac,q⟩;refine fR (aj3 @q1 @hac @tmz) ?_;have F:=@tmz;refine gG ?_;exact ⟨true,(decide_eq_true hA).symm,gw,gw⟩
  | true =>
  by_cases q2:xs.length < 2
  ·have hA:ArB o d xs.length:=.inl ⟨hac,q2⟩;have q3:((2:Int)<=(xs.length:Int))=False:=eq_false om;refine fR (aj4 @q1 @hac @q3 @tmz) ?_;have F:=@tmz;refine gG ?_;exact ⟨true,(decide_eq_true hA).symm,gw,gw⟩
  ·have hA:¬ ArB o d xs.length:=fun h=>h.elim (fun h=>q2 h.2) fun h=>by rw [hac] at h;cases h.1
   have q3:((2:Int)<=(xs.length:Int))=True:=eq_true om;refine fR (aj4 @q1 @hac @q3 @tmz) ?_;have F:=@tmz;refine gG ?_;exact ⟨false,(decide_eq_false hA).symm,gw,gw⟩
 by_cases hAr:ArB o d xs.length
 ·rw [decide_eq_true hAr] at hb;subst hb;rw [if_pos hAr] at hB;rw [hB,if_neg fun h=>h.1 hAr] at hM;rw [hM,hB];exact fD (ai @hz @tmz)
 rw [decide_eq_false hAr] at hb;subst hb;rw [if_neg hAr] at hB;have hnas:o.assoc=false->xs.length=d.args.length:=fun h=>Classical.byContradiction fun c=>hAr (.inr ⟨h,c⟩);have hfl0:Zax o op []=[]:=rfl;refine fN 5 @tmz ?_;refine gB ?_;refine fC @tmz (cUn) ?_;refine fR @tmz ?_;refine fG @tmz ?_;have F:=aj3 @hfl0 @Zec @tmz;refine gL (ι:=Nat) [7,12,13,14,50,55,73,82,92] [12] (fun i=>[(13,A.d (.one (.lit (.int .i64 i)))),(12,.buf 12)]) (fun i=>[(12,.buf none 46 4 (Zaa (Zax o op (xs.take i))))]) (fun i=>i<=xs.length∧∀ (j:Nat) a,j < i->xs[j]?=some a->KArg g o d j a) (fun i=>xs.length - i) (0) (⟨Taj _,fun j a h=>absurd h om⟩) (fun i hi=>?_);clear F
 obtain ⟨hi,hall⟩:=hi;by_cases hlt:i < xs.length
 ·obtain ⟨a,hai⟩:∃ a,xs[i]?=some a:=⟨_,Taa hlt⟩;have hT:=ha a (Tac hai);have q1:=lT i xs.length;have hw1:=Zau (k:=i) om;obtain ⟨k,hk⟩:=ZhH hg ho hd hnas hlt;obtain ⟨hk0,hk1⟩:=hargs k (Tac hk);have hkd:=Zhe hg.sorts hk0 hk1;have hkN:d.args[(argAt o i:Nat)]?=some k:=hk;have cKa:=Zm1 hokg hg hT.form.node;rw [ZaB] at cKa;have cU:=Zfn (hT.ok hg) (ZhJ (o:=o) hlo om);have hUiff:o.unit≠0->(Zai a (Zbd o)=0 ↔ a.op=o.unit - 1):=fun hu=>by
   rw [ZjO];constructor
   ·rintro h;rw [h];simp [Zbd,Tm.op,hu]
   ·exact ZjY hg ho hu hT.form
  generalize hU:decide (Zai a (Zbd o)=0)=U at cU;have hst:=Zlt (o:=o) (op:=op) hai;have hle:=ZhK o op xs (i+1);rw [hst,Tae] at hle;have hfl:=ZbX (Zax o op xs);have hnext:Zb1 g a=((kd g.sorts k:Nat):Int)->i+1<=xs.length∧∀ (j:Nat) a,j < i+1->xs[j]?=some a->KArg g o d j a:=fun hkk=>⟨hlt,fun j a' hj ha'=>by
   by_cases e:j=i
   ·subst e;rw [hai] at ha';injection ha' with ha'
    subst ha';exact ⟨k,hk,hkk⟩
   ·exact hall j a' om ha'⟩
  refine fG (ai @q1 @tmz) ?_;refine gM (ι:=Unit) [14] [] (fun u=>[(14,A.d (.one (.lit (.int .i64 (argAt o i:Nat)))))]) (fun u=>[]) (fun u=>True) ?_ (fun u hu=>Exists.intro _ (ai (Wk.refl _) ?_))
  ·rcases Bool.eq_false_or_eq_true o.assoc with hac | hac
   ·have F:=aj3 @Zaj @hac @ZkK;refine gG ?_;exact ⟨(),trivial,gw,gw⟩
   ·have F:=aj4 @Zaj @hac @ZkK @if_false.{1};refine gG ?_;exact ⟨(),trivial,gw,gw⟩
  refine fN 13 @tmz ?_;refine gB ?_;refine fC (ai @hai @tmz) (cKa) ?_;by_cases hkk:Zb1 g a=((kd g.sorts k:Nat):Int);rotate_left
  ·have hno:¬ ∀ (i:Nat) a,xs[i]?=some a->KArg g o d i a:=fun h=>by
    obtain ⟨k',hk',he⟩:=h i a hai;rw [hk] at hk';injection hk' with hk'
    subst hk';exact hkk he
   rw [if_neg hno] at hB;rw [hB,if_neg fun h=>hno h.2] at hM;rw [hM,hB];refine fR (aj9 @tmz @Zaj @hd @ZaV @hkN @hk0 @hkd @Zbb @hkk) ?_;exact fD (ai @hz @tmz)
  have hnext:=hnext hkk;have l1:ZaC 4 (Zaa (Zax o op (xs.take i)))=true:=ZdR _;have l5:ZaC 4 (Zaa a.args)=true:=ZdR _;refine fR (aj9 @tmz @Zaj @hd @ZaV @hkN @hk0 @hkd @Zbb @hkk) ?_;refine fN 16 @tmz ?_;refine gM (ι:=Bool) [82] [] (fun b=>[(82,A.d (.one (.lit (.bool b))))]) (fun b=>[]) (fun b=>b=decide (o.unit≠0∧a.op=o.unit - 1)) ?_ (fun b hb=>Exists.intro _ (ai (Wk.refl _) ?_))
  ·by_cases hu:o.unit=0
   ·have F:=ai @hu @tmz;refine gG ?_;exact ⟨false,(decide_eq_false fun h=>h.1 hu).symm,gw,gw⟩
   ·refine gB ?_;refine fC (aj3 @hu @hai @tmz) (cU) ?_;refine fR @tmz ?_;have e:U=decide (o.unit≠0∧a.op=o.unit - 1):=by
     rw [<- hU];exact decide_eq_decide.2 ⟨fun h=>⟨hu,(hUiff hu).1 h⟩,fun h=>(hUiff hu).2 h.2⟩
    have F:=ai @hu @tmz;refine gG ?_;exact ⟨U,e,gw,gw⟩
  by_cases hUn:o.unit≠0∧a.op=o.unit - 1
  ·rw [decide_eq_true hUn] at hb;subst hb;have hN:¬ (o.assoc=true∧a.op=op):=fun h=>by
    have e:(Zbd o).args=[]:=by unfold Zbd;rfl
    have e2:=ZjY hg ho hUn.1 hT.form hUn.2;obtain ⟨o',d',hA⟩:=hT.form.node.app om;have:o'=o:=by have:=hA.at';rw [h.2,ho] at this;injection this with this;exact this.symm
    subst this;have:=(hA.asc h.1).1;rw [e2,e] at this;simp at this
   have e:ZbH o op a=[]:=by unfold ZbH;rw [if_neg hN,if_pos hUn]
   rw [e,List.append_nil] at hst;rw [<- hst];have F:=ai @tmz @hw1;refine gG ?_;exact ⟨i+1,hnext,gw,gw,om⟩
  rw [decide_eq_false hUn] at hb;subst hb;by_cases hN:o.assoc=true∧a.op=op
  ·have e:ZbH o op a=a.args:=by unfold ZbH;rw [if_pos hN]
   rw [e] at hst hle;have l3:((Zax o op (xs.take i)).length+a.args.length<=maxApp)=True:=eq_true (by unfold maxApp;omega);have l4:Zaa (Zax o op (xs.take i))++Zaa a.args=Zaa (Zax o op (xs.take (i+1))):=by rw [hst,Zb8]
   obtain ⟨hN1,hN2⟩:=hN;have q2:(a.op=op)=True:=eq_true hN2;have F:=aj10 @tmz @hai @Zaj @hN1 @q2 @l1 @l5 @l3 @l4 @hw1;refine gG ?_;exact ⟨i+1,hnext,gw,gw,om⟩
  ·have e:ZbH o op a=[a]:=by unfold ZbH;rw [if_neg hN,if_neg hUn]
   rw [e] at hst hle;have l3:((Zax o op (xs.take i)).length+1<=maxApp)=True:=eq_true (by simp only [Tag,Tak] at hle;unfold maxApp;omega);have l4:Zaa (Zax o op (xs.take i))++[Zac a]=Zaa (Zax o op (xs.take (i+1))):=by rw [hst,Zb8,ZdE]
   rcases Bool.eq_false_or_eq_true o.assoc with hac | hac
   ·have hq:(a.op=op)=False:=eq_false fun h=>hN ⟨hac,h⟩;have F:=aj9 @tmz @hai @Zaj @hac @hq @l1 @l3 @l4 @hw1;refine gG ?_;exact ⟨i+1,hnext,gw,gw,om⟩
   ·have F:=aj8 @tmz @hai @Zaj @hac @l1 @l3 @l4 @hw1;refine gG ?_;exact ⟨i+1,hnext,gw,gw,om⟩
 ·obtain rfl:i=xs.length:=by omega
  have q1:=lF xs.length xs.length;rw [Tap];have hAll:∀ (i:Nat) a,xs[i]?=some a->KArg g o d i a:=fun j a h=>hall j a (Tad.1 h).1 h;rw [if_pos hAll] at hB;rw [hB,if_pos ⟨hAr,hAll⟩] at hM;rw [hM,hB];clear hM hB hall hAll hnas;generalize hL:Zax o op xs=L at hfb hfo hfs ⊢;have hLb:L.length+bulkRows (Zaa L)<=1048576:=hfb;refine fN 19 (ai @q1 @tmz) ?_;refine pS 12 fun a cap=>?_;refine pD 12 [12] [] ?_;by_cases hu:o.unit≠0∧L.length < 2
  ·have e:mkL o op L=some (L.headD (Zbd o)):=by unfold mkL;rw [if_pos hu]
   rw [e];obtain ⟨hu1,hu2⟩:=hu;have q2:(o.unit=0)=False:=eq_false hu1
   cases L with
   | nil =>
    have z2:(((0:Nat):Int)=0)=True:=eq_true om;exact fD (aj5 @q1 @Zaj @q2 @z2 @tmz)
   | cons b bs =>
    have hbs:bs=[]:=Tao (by simp only [Tag] at hu2;omega);subst hbs;have hbb:bulkRow (Zac b)<=1048576:=by simp only [Zaa,bulkRows] at hLb;omega
    have z1:(((0+1:Nat):Int)=0)=False:=eq_false om;have z2:(((0+1:Nat):Int)=1)=True:=eq_true om;have z3:(((1:Nat):Int)=0)=False:=eq_false om;have z4:(((1:Nat):Int)=1)=True:=eq_true om;have q5:([b]:List Tm)[0]?=some b:=rfl;have z5:(0 < 0+1)=True:=eq_true om;have z6:((0:Nat) < 1)=True:=eq_true om;have z7:Int.toNat 0=0:=rfl;refine fN 22 (aj12 @q1 @Zaj @q2 @z1 @z2 @z3 @z4 @z5 @z6 @z7 @q5 @tmz) ?_;refine gB ?_
    refine fC (aj5 @z5 @z6 @z7 @q5 @tmz) (ZgF b hbb) ?_;refine fR @tmz ?_;exact fD @tmz
  ·have hml:mkL o op L=if BigT o op (srtO o L) then none else some (appT op (srtO o L)):=by unfold mkL;rw [if_neg hu]
   rw [hml];clear hml cUn cK cA;have hSl:=Zq5 o L;have hSp:=Zgk o L;have sz1:=ZjZ hSp;have dz1:=Zjp hSp;have sl1:=ZbX L;have cSo:=Zri L hfo hfb;refine gM (ι:=Unit) [116] [] (fun v=>[(116,A.d (.one (.lit (.bool false))))]) (fun v=>[]) (fun v=>True) ?_ (fun v hv=>Exists.intro _ (ai (Wk.refl _) ?_))
   ·by_cases hu0:o.unit=0
    ·have q2:(o.unit=0)=True:=eq_true hu0;have F:=ai @q2 @tmz;refine gG ?_;exact ⟨(),trivial,gw,gw⟩
    ·have q2:(o.unit=0)=False:=eq_false hu0;have q3:((L.length:Int)=0)=False:=eq_false fun h=>hu ⟨hu0,om⟩;have F:=aj3 @q2 @q3 @tmz;refine gG ?_;exact ⟨(),trivial,gw,gw⟩
   refine fN 21 @tmz ?_;refine gM (ι:=Unit) [123] [] (fun v=>[(123,A.d (.one (.lit (.bool false))))]) (fun v=>[]) (fun v=>True) ?_ (fun v hv=>Exists.intro _ (ai (Wk.refl _) ?_))
   ·by_cases hu0:o.unit=0
    ·have q2:(o.unit=0)=True:=eq_true hu0;have F:=ai @q2 @tmz;refine gG ?_;exact ⟨(),trivial,gw,gw⟩
    ·have q2:(o.unit=0)=False:=eq_false hu0;have q3:((L.length:Int)=1)=False:=eq_false fun h=>hu ⟨hu0,om⟩;have F:=aj3 @q2 @q3 @tmz;refine gG ?_;exact ⟨(),trivial,gw,gw⟩
   refine fN 23 @tmz ?_;refine gB ?_;refine fR (ai @Zaj @tmz) ?_;refine gM (ι:=Unit) [12] [] (fun v=>[(12,.d (.one (.sl (Zaa (srtO o L)))))]) (fun v=>[]) (fun v=>True) ?_ (fun v hv=>Exists.intro _ (ai (Wk.refl _) ?_))
   ·cases hcm:o.comm with
    | true =>
     rw [show srtO o L=ZaA L by unfold srtO;rw [if_pos hcm]];refine fN 24 (ai @hcm @tmz) ?_;refine gB ?_;refine fC @tmz (cSo) ?_;refine fR @tmz ?_;have F:=@tmz;refine gG ?_;exact ⟨(),trivial,gw,gw⟩
    | false =>
     rw [show srtO o L=L by unfold srtO;rw [if_neg (by rw [hcm];simp)]];have F:=ai @hcm @tmz;refine gG ?_;exact ⟨(),trivial,gw,gw⟩
   have hSB:tmsB (srtO o L):=by
    unfold tmsB at hfb ⊢;rw [Zv2 hSp,hSl];exact hfb
   generalize srtO o L=S at hSl sz1 dz1 hSB ⊢;have em:Zac (appT op S)=[.lit (.int .i64 op),.lit (.string ByteArray.empty),.lit (.int .i64 0),.sl (Zaa S)]:=by simp only [appT,Zac]
   have zs:sizeTm (appT op S)=1+sizeTms S:=by rw [Zbt];rfl
   have c1:=Zls (t:=appT op S) (by unfold big;omega);rw [em] at c1;refine fN 25 @tmz ?_;refine gB ?_;refine fC @tmz (Zj9 S hSB) ?_;refine fR @tmz ?_;refine fN 26 @tmz ?_;by_cases h7:o.assoc=true∧7 < S.length
   ·rw [if_pos (show BigT o op S from .inl h7)];obtain ⟨hac,h7⟩:=h7;have q2:((S.length:Int)<=7)=False:=eq_false om;refine gLp 13 12 13 ?_;refine fR (aj3 @hac @q2 @tmz) ?_;exact fD (aj3 @hz @em @tmz)
   have hac:o.assoc=true->((S.length:Int)<=7)=True:=fun h=>eq_true (Int.not_lt.1 fun q=>h7 ⟨h,om⟩);have hres:(if BigT o op S then none else some (appT op S)).isSome=decide (sizeTm (appT op S)<=60∧depthTm (appT op S)<=20):=by
    by_cases hbg:BigT o op S
    ·rw [if_pos hbg];refine (decide_eq_false fun h=>?_).symm;rcases hbg with h | h | h
     ·exact h7 h
     ·omega
     ·omega
    ·rw [if_neg hbg];refine (decide_eq_true ⟨?_,?_⟩).symm
     ·exact Nat.not_lt.1 fun h=>hbg (.inr (.inl h))
     ·exact Nat.not_lt.1 fun h=>hbg (.inr (.inr h))
   have hgd:(if BigT o op S then none else some (appT op S)).getD (appT op S)=appT op S:=by
    split <;> rfl
   rw [hres,hgd,em];rcases Bool.eq_false_or_eq_true o.assoc with ha' | ha'
   ·have q2:=hac ha';refine gLp 13 12 13 ?_;refine fC (aj3 @ha' @q2 @tmz) (c1) ?_;refine fR @tmz ?_;exact fD @tmz
   ·refine gLp 13 12 13 ?_;refine fC (ai @ha' @tmz) (c1) ?_;refine fR @tmz ?_;exact fD @tmz
open Classical in
theorem Zv3 (hokg:ZdQ g) (hg:SgnOk g) {op:Int} {o:Opr} {d:Dcl} (h0:0<=op) (ho:g.ops[op.toNat]?=some o) (hd:o.decls[0]?=some d) (xs:List Tm) (ha:∀ a∈xs,TermOk g a) (hl:xs.length<=1000):Con e0 111 [.agg (ZaB g),.one (.lit (.int .i64 op)),.one (.sl (Zaa xs))] [.agg (Zac (mk6 g o d op xs)),.one (.lit (.bool (mkO g o d op xs).isSome))]:=ZsK hokg hg h0 ho hd xs ha om (ZEC (o:=o) (op:=op) ha hl)
end
end Go.Proofs.YtkigoajepohkaaaGreatDoor
namespace Go.Proofs.YtkigoajepohkaaaGreatDoor
open Go.RowKit
def decN (n:Nat):List UInt8:=if n < 10 then [UInt8.ofNat (48+n)] else [UInt8.ofNat (48+n / 10),UInt8.ofNat (48+n % 10)]
def decB (i:Int):List UInt8:=if i < 0 then 45::decN (-i).toNat else decN i.toNat
mutual
def Zdg:Tm->List UInt8
 | .mk op nm so args=>decB op++((if op < 0 then 58::(nm.toList++58::decB so) else [])++40::(Zbk args++[41]))
def Zbk:List Tm->List UInt8
 | []=>[]
 | t::ts=>Zdg t++Zbk ts
end
theorem Zv4 (a b:List Tm):Zbk (a++b)=Zbk a++Zbk b:=by
 induction a with
 | nil=>rfl
 | cons t ts ih=>simp only [Taf,Zbk,ih,Tbf]
theorem ZfI {P:UInt8->Prop}:∀ {l m:List UInt8} {c d:UInt8} {x y:List UInt8},(∀ b∈l,P b)->(∀ b∈m,P b)->¬ P c->¬ P d->l++c::x=m++d::y->l=m∧c=d∧x=y
 | [],[],c,d,x,y,_,_,_,_,h=>by simpa using h
 | [],b::m,c,d,x,y,_,hm,hc,_,h=>by
  simp only [Tah,Taf,List.cons.injEq] at h;exact absurd (hm b Tas) (h.1 ▸ hc)
 | a::l,[],c,d,x,y,hl,_,_,hd,h=>by
  simp only [Tah,Taf,List.cons.injEq] at h;exact absurd (hl a Tas) (h.1 ▸ hd)
 | a::l,b::m,c,d,x,y,hl,hm,hc,hd,h=>by
  simp only [Taf,List.cons.injEq] at h;obtain ⟨h1,h2⟩:=ZfI (fun b hb=>hl b (Tal _ hb)) (fun b hb=>hm b (Tal _ hb)) hc hd h.2;exact ⟨by rw [h.1,h1],h2⟩
def NumB (b:UInt8):Prop:=b=45∨(48<=b.toNat∧b.toNat<=57)
instance (b:UInt8):Decidable (NumB b):=by unfold NumB;infer_instance
theorem ZED:∀ i:Fin 15,∀ b∈decB ((i.val:Int) - 1),NumB b:=by decide
theorem ZEE:∀ i j:Fin 15,decB ((i.val:Int) - 1)=decB ((j.val:Int) - 1)->i=j:=by decide
theorem ZkT {i:Int} (h0:-1<=i) (h1:i < 14):∀ b∈decB i,NumB b:=by
 have:=ZED ⟨(i+1).toNat,om⟩
 rwa [show (((i+1).toNat:Nat):Int) - 1=i by omega] at this
theorem Zn4 {i j:Int} (h0:-1<=i) (h1:i < 14) (h2:-1<=j) (h3:j < 14) (h:decB i=decB j):i=j:=by
 have:=ZEE ⟨(i+1).toNat,om⟩ ⟨(j+1).toNat,om⟩ (by
  simp only;rw [show (((i+1).toNat:Nat):Int) - 1=i by omega,show (((j+1).toNat:Nat):Int) - 1=j by omega];exact h)
 have:=congrArg Fin.val this;simp only at this;omega
theorem Zrk:∀ i:Fin 15,(decB ((i.val:Int) - 1)).head?≠some 41∧decB ((i.val:Int) - 1)≠[]:=by decide
def NamB (s:ByteArray):Prop:=∀ b∈s.toList,Zde (b.toNat:Int)=true
mutual
def ZeR:Tm->Prop
 | .mk op nm so args=>-1<=op∧op < 14∧(op=-1->NamB nm∧0<=so∧so < 8)∧(op≠-1->nm=ByteArray.empty∧so=0)∧Ze1 args
def Ze1:List Tm->Prop
 | []=>True
 | t::ts=>ZeR t∧Ze1 ts
end
theorem toList_inj {a b:ByteArray} (h:a.toList=b.toList):a=b:=by
 rw [ByteArray.toList_eq,ByteArray.toList_eq] at h;obtain ⟨x⟩:=a;obtain ⟨y⟩:=b;simp only at h;rw [Array.toList_inj.1 h]
theorem Zff:¬ NumB 40:=by decide
theorem ZhO:¬ NumB 58:=by decide
mutual
theorem ZuO:∀ (a b:Tm) (x y:List UInt8),ZeR a->ZeR b->Zdg a++x=Zdg b++y->a=b∧x=y
 | .mk op nm so args,.mk op' nm' so' args',x,y,ha,hb,h=>by
  simp only [ZeR] at ha hb;obtain ⟨a1,a2,a3,a4,a5⟩:=ha;obtain ⟨b1,b2,b3,b4,b5⟩:=hb;simp only [Zdg,Tbf,Taf] at h;have n1:=ZkT a1 a2;have n2:=ZkT b1 b2;have hfst:op=op'∧nm=nm'∧so=so'∧Zbk args++([41]++x)=Zbk args'++([41]++y):=by
   by_cases h1:op < 0
   ·rw [if_pos h1] at h;by_cases h2:op' < 0
    ·rw [if_pos h2] at h;simp only [Taf,Tbf] at h;obtain ⟨e1,_,e2⟩:=ZfI n1 n2 ZhO ZhO h;have e1:=Zn4 a1 a2 b1 b2 e1;have o1:op=-1:=om;have o2:op'=-1:=om;obtain ⟨p1,p2,p3⟩:=a3 o1;obtain ⟨q1,q2,q3⟩:=b3 o2;obtain ⟨f1,_,f2⟩:=ZfI (P:=fun b=>Zde (b.toNat:Int)=true) p1 q1 (by decide) (by decide) e2;obtain ⟨g1,_,g2⟩:=ZfI (ZkT om om) (ZkT om om) Zff Zff f2;exact ⟨e1,toList_inj f1,Zn4 om om om om g1,g2⟩
    ·rw [if_neg h2] at h;simp only [Taf,Tah] at h;obtain ⟨_,e,_⟩:=ZfI n1 n2 ZhO Zff h;exact absurd e (by decide)
   ·rw [if_neg h1] at h;by_cases h2:op' < 0
    ·rw [if_pos h2] at h;simp only [Taf,Tah] at h;obtain ⟨_,e,_⟩:=ZfI n1 n2 Zff ZhO h;exact absurd e (by decide)
    ·rw [if_neg h2] at h;simp only [Tah] at h;obtain ⟨e1,_,e2⟩:=ZfI n1 n2 Zff Zff h;have e1:=Zn4 a1 a2 b1 b2 e1;obtain ⟨p1,p2⟩:=a4 om;obtain ⟨q1,q2⟩:=b4 om;exact ⟨e1,by rw [p1,q1],by rw [p2,q2],e2⟩
  obtain ⟨rfl,rfl,rfl,he⟩:=hfst;obtain ⟨i1,i2⟩:=Zrl args args' x y a5 b5 he;exact ⟨by rw [i1],i2⟩
theorem Zrl:∀ (xs bs:List Tm) (x y:List UInt8),Ze1 xs->Ze1 bs->Zbk xs++([41]++x)=Zbk bs++([41]++y)->xs=bs∧x=y
 | [],[],x,y,_,_,h=>by simpa [Zbk] using h
 | [],.mk op nm so args::bs,x,y,_,hb,h=>by
  exfalso;simp only [Ze1,ZeR] at hb;have:=Zrk ⟨(op+1).toNat,om⟩;rw [show (((op+1).toNat:Nat):Int) - 1=op by omega] at this;simp only [Zbk,Zdg,Tah,Tbf] at h
  cases hd:decB op with
  | nil=>exact this.2 hd
  | cons c l =>
   rw [hd] at h this;simp only [Taf,List.cons.injEq] at h;exact this.1 (by rw [<- h.1];rfl)
 | .mk op nm so args::xs,[],x,y,ha,_,h=>by
  exfalso;simp only [Ze1,ZeR] at ha;have:=Zrk ⟨(op+1).toNat,om⟩;rw [show (((op+1).toNat:Nat):Int) - 1=op by omega] at this;simp only [Zbk,Zdg,Tah,Tbf] at h
  cases hd:decB op with
  | nil=>exact this.2 hd
  | cons c l =>
   rw [hd] at h this;simp only [Taf,List.cons.injEq] at h;exact this.1 (by rw [h.1];rfl)
 | a::xs,b::bs,x,y,ha,hb,h=>by
  simp only [Ze1] at ha hb;simp only [Zbk,Tbf] at h;obtain ⟨e1,e2⟩:=ZuO a b _ _ ha.1 hb.1 h;obtain ⟨f1,f2⟩:=Zrl xs bs x y ha.2 hb.2 e2;exact ⟨by rw [e1,f1],f2⟩
end
theorem ZBY {s:ByteArray} (h:ZbF s=true):NamB s:=by
 unfold ZbF at h;simp only [Tar] at h;have hn:=h.2;unfold Zbm at hn;rw [List.all_eq_true] at hn;intro b hb;rw [ByteArray.toList_eq] at hb;obtain ⟨i,hi,rfl⟩:=List.getElem_of_mem hb;have hi':i < s.size:=by simpa using hi
 have:=hn i (List.mem_range'_1.2 ⟨Taj _,om⟩);simp only [Tar,ZjR,dif_pos hi'] at this;exact this.1
mutual
theorem Zhn {g:Sgn} (hg:SgnOk g):∀ (t:Tm),ZaF g t->ZeR t
 | .mk op nm so args,h=>by
  have h2:ZcA g args:=by simp only [ZaF] at h;exact h.2.1
  have h1:Zc6 g (.mk op nm so args):=by simp only [ZaF] at h;exact h.1
  have hl:=hg.len;have hn:=hg.sorts.n8;refine ⟨?_,?_,?_,?_,ZoZ hg args h2⟩
  ·rcases h1 with h | ⟨o,d,h⟩
   ·have:op=-1:=h.1;omega
   ·have:0<=op:=h.lo;omega
  ·rcases h1 with h | ⟨o,d,h⟩
   ·have:op=-1:=h.1;omega
   ·have h0:0<=op:=h.lo;have:g.ops[op.toNat]?=some o:=h.at';have:=(Tad.1 this).1;omega
  ·intro ho;rcases h1 with h | ⟨o,d,h⟩
   ·have h4:0<=so:=h.2.2.1;have h5:so < g.sorts.names.length:=h.2.2.2.1;exact ⟨ZBY h.2.1,h4,om⟩
   ·have:0<=op:=h.lo;omega
  ·intro ho;rcases h1 with h | ⟨o,d,h⟩
   ·have:op=-1:=h.1;omega
   ·exact ⟨h.nm,h.so⟩
theorem ZoZ {g:Sgn} (hg:SgnOk g):∀ (ts:List Tm),ZcA g ts->Ze1 ts
 | [],_=>trivial
 | t::ts,h=>by
  simp only [ZcA] at h;exact ⟨Zhn hg t h.1,ZoZ hg ts h.2⟩
end
def keyS (t:Tm):ByteArray:=⟨(Zdg t).toArray⟩
theorem Zrm {g:Sgn} (hg:SgnOk g) {a b:Tm} (ha:ZaF g a) (hb:ZaF g b) (h:(keyS a).toList=(keyS b).toList):a=b:=by
 rw [ByteArray.toList_eq,ByteArray.toList_eq] at h;simp only [keyS] at h;exact (ZuO a b [] [] (Zhn hg a ha) (Zhn hg b hb) (by rw [List.append_nil,List.append_nil];exact h)).1
def ZfJ (P:Program) (s d:TypeId):Bool:=match P.underlying s,P.underlying d with
 | some (.slice e),some .string=>match P.underlying e with
  | some (.int .u8)=>true
  | _=>false
 | _,_=>false
def Zin (b:Int):ByteArray:=ByteArray.empty.push (UInt8.ofNat b.toNat)
section
variable {e:Env} {σ:St} {o:Oper} {K:St->Prop}
theorem ZzT {s d:TypeId} {x:Operand} {b:Int} (ho:o.op=.convert s d x) (hx:evA σ.s x=.d (.clip [[.lit (.int .u8 b)]])) (ht:ZfJ e.P s d=true) (hK:K ⟨setA σ.s o.dst (.d (.one (.lit (.string (Zin b))))),σ.m⟩):ZbP e o σ K:=by
 intro he U w0 S0 nt a w Q hd ⟨S,L,h⟩;refine Oper.wp_mono (fun a' w' hs=>⟨_,hK,hs⟩) (ZeI h hd (ZaL fun w S L ρv hC hr=>?_));have hx':=hr x (by simp [ho,Op.operands]);rw [hx] at hx';obtain ⟨⟨A,n,cap,hv,hn,_,_,hb⟩,_⟩:=hx';simp only [Tag,Tak,Nat.zero_add] at hn;subst hn;obtain ⟨g,off,rfl,_,_,hrow⟩:=hb (by decide);simp only [Zaq,Zak,Rep,and_true] at hrow;obtain ⟨u,hc,rfl⟩:=hrow;have hl:=run_loadCells_list (P:=e.P) w ⟨g,off,none⟩ [.int .u8 b] (fun j u hj=>by
  cases j with
  | zero=>simp at hj;subst hj;rw [Addr.add_at];exact hc
  | succ j=>simp at hj)
 unfold ZfJ at ht;split at ht
 ·rename_i e1 h1 h2;split at ht
  ·rename_i h3;refine ⟨.string (Zin b),?_,by simp [ARel,DRel,Rep]⟩;simp only [Tag,Tak,Nat.zero_add] at hl;simp [execOp,ho,hv,convert,underlying,h1,h2,h3,Conv.bytesToString,hl,Zin,Result.andThen]
  ·cases ht
 ·cases ht
end
theorem gY {e:Env} {K:St->Prop} {ds:List (Option Nat)} {os:List Oper} {d t1 t2 ty:Nat} {p:String} {ed:Array Edge} {x:Operand} {s:List (Nat × A)} {m:List (Nat × Bk)} {b:Int} (hK:Runs e ds 0 os ⟨(d,.d (.one (.lit (.string (Zin b)))))::s,m⟩ K)
  (hx:evA s x=.d (.clip [[.lit (.int .u8 b)]]):=by exact snx) (ht:ZfJ e.P t1 t2=true:=by kernel_rfl):Runs e ds 0 (⟨some d,.convert t1 t2 x,ty,p,ed,none⟩::os) ⟨s,m⟩ K:=by
 simp only [Runs] at hK ⊢;exact ZcG rfl (ZzT (o:=⟨some d,.convert t1 t2 x,ty,p,ed,none⟩) rfl hx ht hK)
section
variable {P:Program} {w:World}
theorem ZzU (ts:Array TypeId) (t ty e:TypeId) (i:TypeInfo) (z:Value) (h0:ts[0]?=some t) {t2:TypeId} (h1:ts[1]?=some t2) (ht2:P.underlying t2=some .string) (ht:P.underlying t=some (.slice e)) (hi:P.info? e=some i) (hz:i.zero=some z) (b:Option Addr) (sLen sCap:Nat) (olds:List Value) (x:Value) (n:Nat) (news:List Value)
  (hln:(Builtin.lenOf x).run P w=.ok n w) (hfo:(Builtin.firstCells i.size sLen (.slice b sLen sCap)).run P w.drew=.ok olds.toArray w.drew) (hf:(Builtin.firstCells i.size n x).run P w.drew=.ok news.toArray w.drew) (hg:sCap < sLen+n) (h63:((sLen+n:Nat):Int)<=9223372036854775807) (hfit:Builtin.nextslicecap (sLen+n) sCap * i.bytes<=281474976710656) :
  (Builtin.append_ ts ty #[.slice b sLen sCap,x]).run P w=.ok (.slice (some ⟨w.heap.size,0,none⟩) (sLen+n) (grownCap w (sLen+n) sCap e)) (w.drew.alloc (.cells (olds.toArray++news.toArray++Builtin.zeroCells z.cells (grownCap w (sLen+n) sCap e - (sLen+n))) e)):=by
 have hn:¬ (sLen+n<=sCap):=om;have h63':¬ (9223372036854775807 < ((sLen:Int)+(n:Int))):=om;have h48':¬ (281474976710656 < Builtin.nextslicecap (sLen+n) sCap * i.bytes):=om;have e1:olds.toArray++(news.toArray++Builtin.zeroCells z.cells (grownCap w (sLen+n) sCap e - (sLen+n)))=(olds++news).toArray++Builtin.zeroCells z.cells (grownCap w (sLen+n) sCap e - (sLen+n)):=by
  apply Array.toList_inj.1;simp
 unfold grownCap at e1;simp [Builtin.append_,h0,h1,run_underlying ht,run_underlying ht2,sizeOf,typeInfo,zeroValue,hi,hz,hln,hn,h63',h48',Question.forced,hf,hfo,newRow,grownCap,e1]
theorem ZzV (ts:Array TypeId) (t ty e:TypeId) (i:TypeInfo) (h0:ts[0]?=some t) {t2:TypeId} (h1:ts[1]?=some t2) (ht2:P.underlying t2=some .string) (ht:P.underlying t=some (.slice e)) (hi:P.info? e=some i) (g sLen sCap:Nat) (cur:Array Value) (hg:w.heap[g]?=some (.cells cur e (0,0))) (x:Value) (n:Nat) (news:List Value)
  (hln:(Builtin.lenOf x).run P w=.ok n w) (hf:(Builtin.firstCells i.size n x).run P w=.ok news.toArray w) (hone:∀ u∈news,u.oneCell'=true) (hroom:sLen+n<=sCap) (hfit:sLen * i.size+news.length<=cur.size) :
  (Builtin.append_ ts ty #[.slice (some ⟨g,0,none⟩) sLen sCap,x]).run P w=.ok (.slice (some ⟨g,0,none⟩) (sLen+n) sCap) (w.setRow g (cur.toList.take (sLen * i.size)++news++cur.toList.drop (sLen * i.size+news.length)).toArray):=by
 have hst:=run_storeCells_at P g (sLen * i.size) e news 0 cur w hg (by simpa using hfit) hone;simp only [Nat.add_zero] at hst;simp [Builtin.append_,h0,h1,run_underlying ht,run_underlying ht2,sizeOf,typeInfo,hi,hln,hroom,hf,Addr.add_lit,hst]
theorem ZzW (ts:Array TypeId) (t ty e:TypeId) (i:TypeInfo) (h0:ts[0]?=some t) {t2:TypeId} (h1:ts[1]?=some t2) (ht2:P.underlying t2=some .string) (ht:P.underlying t=some (.slice e)) (hi:P.info? e=some i) (b:Option Addr) (x:Value)
  (hln:(Builtin.lenOf x).run P w=.ok 0 w) (hf:(Builtin.firstCells i.size 0 x).run P w=.ok #[] w) :
  (Builtin.append_ ts ty #[.slice b 0 0,x]).run P w=.ok (.slice b 0 0) w:=by
 cases b <;> simp [Builtin.append_,h0,h1,run_underlying ht,run_underlying ht2,sizeOf,typeInfo,hi,hln,hf,storeCells]
end
section
variable {e:Env} {U:Nat->Prop} {w0:World} {S0:Nat->Prop} {nt:Nat} {σ:St} {a:Act} {w:World} {S:Nat->Prop} {L:Lay} {o:Oper}
theorem ZsL (he:e.Ok) (hC:Cls e U w0.heap.size S0 σ.m w S L) {ts:Array TypeId} {t ty:TypeId} {ety sz by':Nat} (h0:ts[0]?=some t) {t2:TypeId} (h1:ts[1]?=some t2) (ht2:e.P.underlying t2=some .string) (hb:Zbj e.P t=some (ety,sz,by')) {rows ys:List (List C)} {v u:Value}
  (hv:ZaO w S ety sz rows v∨(DRel w S (.clip rows) v∧(rows=[]∨ys≠[]))) (hrl:rowsLen sz rows) (hyl:rowsLen sz ys) (hle:rows.length+ys.length<=maxApp)
  (hy:∃ (news:List Value),(∀ w',(Builtin.lenOf u).run e.P w'=.ok ys.length w')∧Zab w S ys.flatten news∧∀ (P:Program) (w':World),(∀ p,w'.cell? p=w.cell? p)->(Builtin.firstCells sz ys.length u).run P w'=.ok news.toArray w') :
  ∃ v' w',(Builtin.append_ ts ty #[v,u]).run e.P w=.ok v' w'∧ZaO w' S ety sz (rows++ys) v'∧∃ τ:Option Nat,Kept e.D (fun b=>τ=some b) w.heap.size w w'∧(∀ g,τ=some g->vblk v=some g∧ZaO w S ety sz rows v)∧(∀ g,vblk v'=some g->τ=some g∨w.heap.size<=g):=by
 obtain ⟨i,z,hu,hi,hz,hsz,hby,hzs,hs0,hb4⟩:=ZdI hb;obtain ⟨news,hln,hnews,hf⟩:=hy;have hnl:news.length=ys.length * sz:=by rw [hnews.len,Zb5 hyl]
 have hone:=ZeH (Zkz hyl) hnews;have hm30:rows.length+ys.length<=1073741824:=hle;have hbytes:(rows.length+ys.length) * i.bytes<=140737488355328:=by
  have h2:(rows.length+ys.length) * i.bytes<=1073741824 * 4096:=Nat.mul_le_mul hm30 om;omega
 have hrl2:rowsLen sz (rows++ys):=hrl.append hyl
 have grow:∀ (b:Option Addr) (cap:Nat) (olds:List Value),v=.slice b rows.length cap->cap < rows.length+ys.length->Zab w S rows.flatten olds->(∀ (P:Program) (w':World),(∀ p,w'.cell? p=w.cell? p)->(Builtin.firstCells sz rows.length v).run P w'=.ok olds.toArray w') ->
   ∃ v' w',(Builtin.append_ ts ty #[v,u]).run e.P w=.ok v' w'∧ZaO w' S ety sz (rows++ys) v'∧∃ τ:Option Nat,Kept e.D (fun b=>τ=some b) w.heap.size w w'∧(∀ g,τ=some g->vblk v=some g∧ZaO w S ety sz rows v)∧(∀ g,vblk v'=some g->τ=some g∨w.heap.size<=g):=by
  intro b cap olds hv hlt hol hfo;have h63:rows.length+ys.length<=maxLen:=by unfold maxLen;omega
  have hrun:=ZzU ts t ty ety i z h0 h1 ht2 hu hi hz b rows.length cap olds u ys.length news (hln w) (by rw [hsz,<- hv];exact hfo _ _ (ZhC w)) (by rw [hsz];exact hf _ _ (ZhC w)) hlt om (growslice_fits om hbytes);rw [<- hv] at hrun;have hge:=grownCap_ge w (rows.length+ys.length) cap ety;have hcm:=grownCap_le_maxLen w (rows.length+ys.length) cap ety h63;generalize hcap:grownCap w (rows.length+ys.length) cap ety=nc at hrun hge hcm
  have hcl:olds.length=rows.length * sz:=by rw [hol.len,Zb5 hrl]
  have hk:Kept e.D (fun b=>(none:Option Nat)=some b) w.heap.size w (w.drew.alloc (.cells (olds.toArray++news.toArray++Builtin.zeroCells z.cells (nc - (rows.length+ys.length))) ety)) :=
   ⟨rfl,rfl,rfl,fun _=>Nat.le_succ _,by simp,fun k hk _=>heap_alloc_old w.drew _ hk⟩
  have hheap:=heap_alloc_new w.drew (.cells (olds.toArray++news.toArray++Builtin.zeroCells z.cells (nc - (rows.length+ys.length))) ety);have hsW:(w.drew.alloc (.cells (olds.toArray++news.toArray++Builtin.zeroCells z.cells (nc - (rows.length+ys.length))) ety)).heap.size=w.heap.size+1:=by simp
  have e1:olds.toArray++news.toArray++Builtin.zeroCells z.cells (nc - (rows.length+ys.length))=((olds++news)++(Builtin.zeroCells z.cells (nc - (rows.length+ys.length))).toList).toArray:=by
   apply Array.toList_inj.1;simp
  rw [e1] at hrun hk hheap hsW;generalize w.drew.alloc (.cells ((olds++news)++(Builtin.zeroCells z.cells (nc - (rows.length+ys.length))).toList).toArray ety)=W at hrun hk hheap hsW;refine ⟨_,_,hrun,?_,none,hk,by simp,fun g hg=>?_⟩
  ·have hlen:rows.length+ys.length=(rows++ys).length:=by simp
   rw [hlen];refine ZjA (w:=w) (cells:=olds++news) (rest:=(Builtin.zeroCells z.cells (nc - (rows.length+ys.length))).toList) (n:=0) hs0 hrl2 hk.size (fun b o hs=>ZbD (hk.block b (hC.sin b hs).1 (by simp)) o) ?_ (by simp;omega) hcm om (g:=w.heap.size) om (fun hs=>by have:=(hC.sin _ hs).1;omega) ?_ ?_
   ·rw [List.flatten_append];exact Zab.app hol hnews
   ·exact hheap
   ·simp only [Tae,Array.length_toList,size_zeroCells,hzs,hcl,hnl,<- Nat.add_mul];congr 1;omega
  ·simp only [vblk] at hg;split at hg
   ·cases hg
   ·injection hg with hg;exact .inr om
 have stay:∀ (b:Option Addr),rows=[]->ys=[]->v=.slice b 0 0->∃ v' w',(Builtin.append_ ts ty #[v,u]).run e.P w=.ok v' w'∧ZaO w' S ety sz (rows++ys) v'∧∃ τ:Option Nat,Kept e.D (fun b=>τ=some b) w.heap.size w w'∧(∀ g,τ=some g->vblk v=some g∧ZaO w S ety sz rows v)∧(∀ g,vblk v'=some g->τ=some g∨w.heap.size<=g):=by
  intro b hr hy hvb;subst hr hy;have hn0:news=[]:=Tao (by simpa using hnl);have hrun:=ZzW (P:=e.P) (w:=w) ts t ty ety i h0 h1 ht2 hu hi b u (hln w) (by rw [hsz];have:=hf e.P w (fun _=>rfl);rw [hn0] at this;simpa using this);rw [hvb];refine ⟨_,_,hrun,⟨hs0,by simpa using rowsLen.nil,.inl ⟨by simp,b,rfl⟩⟩,none,Kept.refl _ _ _ _,by simp,fun g hg=>?_⟩
  cases b <;> simp [vblk] at hg
 rcases hv with hv | ⟨hv,hne⟩
 ·have hv0:=hv;obtain ⟨_,_,h3⟩:=hv;rcases h3 with ⟨hr,b,hvb⟩ | ⟨g,cap,cur,hvb,hc,hg,hs,hh,hlc,hm,hcs,hr⟩
  ·by_cases hy0:ys=[]
   ·exact stay b hr hy0 hvb
   ·have hyl0:0 < ys.length:=List.length_pos_iff.2 hy0;subst hr;refine grow b 0 [] hvb (by simpa using hyl0) (by simp [Zab]) (fun P w' _=>?_);rw [hvb]
    cases b <;> simp [Builtin.firstCells,loadCells,loadCellsFrom]
  ·by_cases hroom:rows.length+ys.length<=cap
   ·have hfit:rows.length * i.size+news.length<=cur.size:=by rw [hnl,hsz,hcs,<- Nat.add_mul];exact Nat.mul_le_mul_right _ hroom
    have hrun:=ZzV (P:=e.P) (w:=w) ts t ty ety i h0 h1 ht2 hu hi g rows.length cap cur hh u ys.length news (hln w) (by rw [hsz];exact hf _ _ (fun _=>rfl)) hone hroom hfit;rw [<- hvb] at hrun;rw [hsz] at hrun hfit;have hput:=Zfi w g (rows.length * sz) ety news cur hh hfit;have hheap:=setRow_heap w g cur (cur.toList.take (rows.length * sz)++news++cur.toList.drop (rows.length * sz+news.length)).toArray ety _ hh
    have hdr:(w.setRow g (cur.toList.take (rows.length * sz)++news++cur.toList.drop (rows.length * sz+news.length)).toArray).drawn=w.drawn:=Zev _ _ _;generalize hW:w.setRow g (cur.toList.take (rows.length * sz)++news++cur.toList.drop (rows.length * sz+news.length)).toArray=W at hrun hput hheap hdr;have hszW:W.heap.size=w.heap.size:=hput.size;have hkc:∀ b o,S b->W.cell? ⟨b,o,none⟩=w.cell? ⟨b,o,none⟩:=fun b o hsb=>ZbD (hput.other b (fun e=>hs (e ▸ hsb))) o
    refine ⟨_,_,hrun,⟨hs0,hrl2,.inr ⟨g,cap,_,by simp,hc,om,hs,hheap,by simpa using hroom,hm,by simp;omega,?_⟩⟩,some g,⟨hput.os,hput.tape,hput.output,fun _=>Nat.le_of_eq hdr.symm,om,fun b hb hE=>hput.other b (fun eq=>hE (by rw [eq]))⟩,fun q hq=>?_,fun q hq=>?_⟩
    ·apply Zaq.of_flat;rw [List.flatten_append];have r1:=Zak.keepAt (S':=S) om hkc (fun _ h=>h) g 0 rows.flatten (fun j hj=>hput.old _ (.inl (by rw [Zb5 hrl] at hj;omega))) hr.flat;refine Zak.append _ _ 0 r1 ?_;rw [Zb5 hrl,Nat.zero_add];exact Zak.of_vals _ news _ (Zab.keep2 om hkc (fun _ h=>h) hnews) hput.new
    ·injection hq with hq;subst hq
     exact ⟨by rw [hvb];simp only [vblk];rw [if_neg om],hv0⟩
    ·simp only [vblk] at hq;rw [if_neg om] at hq;exact .inl hq
   ·obtain ⟨b',cap',olds,q1,_,_,q2,q3⟩:=Zjz hv0;rw [hvb] at q1;injection q1 with e1 e2 e3
    exact grow _ _ olds hvb om q2 q3
 ·obtain ⟨hrep,b,n,hvb⟩:=hv;obtain ⟨b',cap',olds,q1,q2,q3,q4,q5⟩:=ZhB hrl hrep;rw [hvb] at q1;injection q1 with e1 e2 e3
  by_cases hy0:ys=[]
  ·have hr:rows=[]:=by
    rcases hne with h | h
    ·exact h
    ·exact absurd hy0 h
   refine stay b hr hy0 ?_;rw [hvb];have:n=0:=by rw [e2,hr];rfl
   rw [this]
  ·have hyl0:0 < ys.length:=List.length_pos_iff.2 hy0;exact grow b n olds (by rw [hvb,e2]) om q4 q5
end
def byR (s:ByteArray):List (List C):=s.data.toList.map fun b=>[.lit (.int .u8 b.toNat)]
theorem Zem (s:ByteArray):(byR s).length=s.size:=by rw [byR,Tay,Array.length_toList];rfl
theorem Zrn (s:ByteArray):rowsLen 1 (byR s):=fun r hr=>by
 obtain ⟨b,_,rfl⟩:=Tbi.1 hr;exact ⟨rfl,rfl⟩
theorem ZkU (s t:ByteArray):byR s++byR t=byR (s++t):=by
 rw [byR,byR,byR,<- Tbw];congr 1
theorem ZBZ (s:ByteArray):(byR s).flatten=(Lib.strCells s).map C.lit:=by
 rw [byR,Lib.strCells,List.map_map]
 induction s.data.toList with
 | nil=>rfl
 | cons b l ih=>simp only [Tbv,List.flatten_cons,ih,Taf,Tah];rfl
theorem Zka {w:World} {S:Nat->Prop}:∀ vs:List Value,Zab w S (vs.map C.lit) vs
 | []=>by simp [Zab]
 | v::vs=>by simp only [Tbv,Zab,Rep];exact ⟨trivial,Zka vs⟩
section
variable {e:Env} {K:St->Prop} {ds:List (Option Nat)} {os:List Oper} {s:List (Nat × A)} {m:List (Nat × Bk)}
theorem ZzX {σ:St} {o:Oper} {x y:Operand} {t t2 ety by' k d:Nat} {rows:List (List C)} {oa:Option (Option Addr × Nat)} {str:ByteArray} (ho:o.op=.call ⟨.builtin .append,#[x,y],#[t,t2]⟩) (hdd:o.dst=some d) (hb:Zbj e.P t=some (ety,1,by')) (ht2:e.P.underlying t2=some .string)
  (hx:evA σ.s x=.buf k) (hm:gm σ.m k=some (.buf oa ety 1 rows)) (hy:evA σ.s y=.d (.one (.lit (.string str)))) (hle:rows.length+(byR str).length<=maxApp) (hK:K ⟨(d,.buf d)::Zav d (Zav k σ.s),(d,.buf none ety 1 (rows++byR str))::remM d (remM k σ.m)⟩):ZbP e o σ K:=by
 intro he U w0 S0 nt a w Q hd ⟨S,L,h⟩;have hx':a.eval x=L.v k:=by have:=h.eval x;rw [hx] at this;exact this
 have hy':a.eval y=.string str:=by have:=h.eval y;rw [hy] at this;simpa [ARel,DRel,Rep] using this
 have ho':ZaO w S ety 1 rows (L.v k):=(h.cls.own k _ hm).2
 obtain ⟨v',w',hrun,hbuf,τ,hk,hτ,hblk⟩:=ZsL (ty:=o.type) (ts:=#[t,t2]) (v:=L.v k) (u:=.string str) he h.cls rfl rfl ht2 hb (.inl ho') ho'.2.1 (Zrn str) hle
  ⟨Lib.strCells str,fun w'=>by simp [Builtin.lenOf,Zem],by rw [ZBZ];exact Zka _,fun P w' _=>by rw [Zem];exact Lib.run_firstCells_string w' 1 str⟩
 unfold Oper.wp;have hr2:(execOp a.eval o).run e.P w=.ok (.value v') w':=by
  simp [execOp,ho,resolve,invoke,builtin,hx',hy',hrun,Result.andThen]
 rw [hr2,Oper.upon_value,hdd];refine ⟨_,hK,h.born he (hd d hdd) (τ:=τ) (b':=0) (v':=v') (s1:=Zav k σ.s) (m1:=remM k σ.m) (fun _ h=>h) (fun _ h=>.inl h) (fun t=>?_) (fun k' x hx=>?_) (fun g hg=>?_) (fun k' x g hkd hx hg hb'=>?_) hk ?_ (fun g hg=>?_) (by simp [ARel])⟩
 ·rcases Zew k t σ.s with ⟨h1,_⟩ | h1
  ·exact .inl h1
  ·exact .inr h1
 ·rw [ZaG] at hx;split at hx
  ·cases hx
  ·exact hx
 ·have hg':=(hτ g hg).1;exact ⟨(Own1.lt (k:=k) (L:=L) (bk:=.buf none ety 1 rows) ⟨by simp,ho'⟩ hg').2,h.cls.notE hm hg',h.cls.mine k _ g hm hg'⟩
 ·have hg':=(hτ g hg).1;rw [ZaG] at hx;split at hx
  ·cases hx
  ·rename_i hne';exact hne' (h.cls.inj k' k x _ g hx hm hb' hg')
 ·simp only [Own1,if_true];exact ⟨by simp,hbuf⟩
 ·simp only [ZaK,if_true] at hg;exact hblk g hg
theorem Zo0:∀ (l:List UInt8) (acc:ByteArray),(l.map fun b=>(b.toNat:Int)).foldl (fun r n=>r.push (UInt8.ofNat n.toNat)) acc=⟨acc.data++l.toArray⟩
 | [],acc=>by simp
 | b::l,acc=>by
  rw [Tbv,List.foldl_cons,Zo0 l];have hb:UInt8.ofNat ((b.toNat:Int)).toNat=b:=by simp
  rw [hb];simp [ByteArray.push]
theorem ZB0 (s:ByteArray):(s.data.toList.map fun b=>(b.toNat:Int)).foldl (fun r n=>r.push (UInt8.ofNat n.toNat)) ByteArray.empty=s:=by
 rw [Zo0];show (⟨#[]++s.data.toList.toArray⟩:ByteArray)=s;simp
theorem ZsM {σ:St} {o:Oper} {t d:TypeId} {x:Operand} {k ety:Nat} {oa:Option (Option Addr × Nat)} {str:ByteArray} (ho:o.op=.convert t d x) (hx:evA σ.s x=.buf k) (hm:gm σ.m k=some (.buf oa ety 1 (byR str))) (ht:ZfJ e.P t d=true) (hK:K ⟨setA σ.s o.dst (.d (.one (.lit (.string str)))),σ.m⟩):ZbP e o σ K:=by
 intro he U w0 S0 nt a w Q hd ⟨S,L,h⟩;have hx':a.eval x=L.v k:=by have:=h.eval x;rw [hx] at this;exact this
 have ho':ZaO w S ety 1 (byR str) (L.v k):=(h.cls.own k _ hm).2;have hrun:(convert t d (L.v k)).run e.P w=.ok (.string str) w:=by
  unfold ZfJ at ht;split at ht
  ·rename_i e1 h1 h2;split at ht
   ·rename_i h3;have key:∀ (b:Option Addr) (cap:Nat),L.v k=.slice b str.size cap->(∀ ad,b=some ad->(loadCells ad str.size).run e.P w=.ok ((str.data.toList.map fun b=>(b.toNat:Int)).map (Value.int .u8)).toArray w)->(b=none->str.size=0)->(convert t d (L.v k)).run e.P w=.ok (.string str) w:=fun b cap hv hl hn=>by
     rw [hv,run_convert_bytes_string w t d e1 b _ cap h1 h3 h2]
     cases b with
     | none =>
      have h0:=hn rfl;have:str=ByteArray.empty:=by
       cases str with
       | mk data=>simp only [ByteArray.size] at h0;rw [Array.eq_empty_of_size_eq_zero h0];rfl
      rw [this];simp [Conv.bytesToString]
     | some ad =>
      rw [run_bytesToString w ad _ cap _ (hl ad rfl),ZB0]
    rcases ho'.2.2 with ⟨hr,b,hv⟩ | ⟨g,cap,cur,hv,hc,hg,hs,hh,hlc,hmx,hcs,hr⟩
    ·have h0:str.size=0:=by rw [<- Zem,hr];rfl
     have hd0:str.data.toList=[]:=Tao (by rw [Array.length_toList];exact h0);refine key b 0 (by rw [hv,h0]) (fun ad _=>?_) (fun _=>h0);rw [h0,hd0];simp [loadCells,loadCellsFrom]
    ·rw [Zem] at hv;refine key _ cap hv (fun ad had=>?_) (fun hb=>by cases hb);injection had with had
     subst had;have hl:=run_loadCells_list (P:=e.P) w ⟨g,0,none⟩ ((str.data.toList.map fun b=>(b.toNat:Int)).map (Value.int .u8)) (fun j u hj=>by
      rw [Tba,Tba] at hj;obtain ⟨b,hb,rfl⟩:∃ b,str.data.toList[j]?=some b∧u=.int .u8 b.toNat:=by
       cases hq:str.data.toList[j]? with
       | none=>rw [hq] at hj;cases hj
       | some b=>rw [hq] at hj;injection hj with hj;exact ⟨b,rfl,hj.symm⟩
      have h1:=Zaq.get (byR str) 0 j [.lit (.int .u8 b.toNat)] (k:=1) (fun z hz=>(Zrn str z hz).1) hr (by rw [byR,Tba,hb];rfl);rw [Addr.add_at];simpa [Zak,Rep] using h1)
     rw [Tay,Tay,Array.length_toList] at hl;exact hl
   ·cases ht
  ·cases ht
 unfold Oper.wp;have hr2:(execOp a.eval o).run e.P w=.ok (.value (.string str)) w:=by
  simp [execOp,ho,hx',hrun,Result.andThen]
 rw [hr2,Oper.upon_value];exact ⟨_,hK,S,L,h.put (α:=.d (.one (.lit (.string str)))) (by simp [ARel,DRel,Rep]) hd⟩
theorem gSt {d t t2 ty ety by' k:Nat} {p:String} {ed:Array Edge} {x y:Operand} {rows:List (List C)} {oa:Option (Option Addr × Nat)} {str:ByteArray} {s2:List (Nat × A)} {m2:List (Nat × Bk)} (hle:rows.length+(byR str).length<=maxApp) (ht2:e.P.underlying t2=some .string) (hK:Runs e ds 0 os ⟨(d,.buf d)::s2,(d,.buf none ety 1 (rows++byR str))::m2⟩ K)
  (hb:Zbj e.P t=some (ety,1,by'):=by exact sfx) (hx:evA s x=.buf k:=by exact sfx) (hm:gm m k=some (.buf oa ety 1 rows):=by exact snx) (hy:evA s y=.d (.one (.lit (.string str))):=by exact sfx)
  (hs:Zav d (Zav k s)=s2:=by exact snv) (hr:remM d (remM k m)=m2:=by exact snv):Runs e ds 0 (⟨some d,.call ⟨.builtin .append,#[x,y],#[t,t2]⟩,ty,p,ed,none⟩::os) ⟨s,m⟩ K:=by
 subst hs hr;simp only [Runs] at hK ⊢;exact ZcG rfl (ZzX rfl rfl hb ht2 hx hm hy hle hK)
theorem gTx {d t1 t2 ty ety k:Nat} {p:String} {ed:Array Edge} {x:Operand} {oa:Option (Option Addr × Nat)} (str:ByteArray) (ht:ZfJ e.P t1 t2=true) (hK:Runs e ds 0 os ⟨(d,.d (.one (.lit (.string str))))::s,m⟩ K) (hx:evA s x=.buf k:=by exact sfx) (hm:gm m k=some (.buf oa ety 1 (byR str)):=by exact snx):Runs e ds 0 (⟨some d,.convert t1 t2 x,ty,p,ed,none⟩::os) ⟨s,m⟩ K:=by
 simp only [Runs] at hK ⊢;exact ZcG rfl (ZsM (o:=⟨some d,.convert t1 t2 x,ty,p,ed,none⟩) rfl hx hm ht hK)
end
def decS (i:Int):ByteArray:=⟨(decB i).toArray⟩
theorem ZzY {i:Int} (h0:0<=i) (h1:i < 14):Con e0 207 [.one (.lit (.int .i64 i))] [.one (.lit (.string (decS i)))]:=by
 have h:i=0∨i=1∨i=2∨i=3∨i=4∨i=5∨i=6∨i=7∨i=8∨i=9∨i=10∨i=11∨i=12∨i=13:=om;rcases h with rfl | rfl | rfl | rfl | rfl | rfl | rfl | rfl | rfl | rfl | rfl | rfl | rfl | rfl
 all_goals (
  have w1:IntKind.i64.wrap (0+1)=1:=by decide
  have w2:IntKind.i64.wrap (1+1)=2:=by decide
  have w3:IntKind.i64.wrap (2+1)=3:=by decide
  have w4:IntKind.i64.wrap (3+1)=4:=by decide
  have w5:IntKind.i64.wrap (4+1)=5:=by decide
  have w6:IntKind.i64.wrap (5+1)=6:=by decide
  have w7:IntKind.i64.wrap (6+1)=7:=by decide
  have w8:IntKind.i64.wrap (7+1)=8:=by decide
  have w9:IntKind.i64.wrap (8+1)=9:=by decide
  have wa:IntKind.i64.wrap (9+1)=10:=by decide
  have u0:IntKind.i64.wrap (10 * 2)=20:=by decide
  have u1:IntKind.i64.wrap (11 * 2)=22:=by decide
  have u2:IntKind.i64.wrap (12 * 2)=24:=by decide
  have u3:IntKind.i64.wrap (13 * 2)=26:=by decide
  have v0:IntKind.i64.wrap (20+2)=22:=by decide
  have v1:IntKind.i64.wrap (22+2)=24:=by decide
  have v2:IntKind.i64.wrap (24+2)=26:=by decide
  have v3:IntKind.i64.wrap (26+2)=28:=by decide
  refine gI (ts:=[.slot 2]) 21 Tryz.func207 ?_
  (exact fD (aj16 @w1 @w2 @w3 @w4 @w5 @w6 @w7 @w8 @w9 @wa @u0 @u1 @u2 @u3 @v0 (aj3 @v1 @v2 @v3))))
theorem ZD3 (s:ByteArray):ZaC 1 (byR s)=true:=by
 unfold byR
 induction s.data.toList with
 | nil=>rfl
 | cons b l ih=>simp only [Tbv,ZiF,ih,Bool.and_true];rfl
def RBy (s:ByteArray) (r:List D) (pm:List Bk):Prop:=∃ a cap,r=[.one (.lit (.slice a (byR s).length cap))]∧pm=[.buf (some (a,cap)) 5 1 (byR s)]
theorem ZFt {P:Program} {t:TypeId} {a b:Int}:binT P .lss t (.int .u64 a) (.int .u64 b)=some (.bool (decide (a < b))):=rfl
theorem Zn5:Zd4 (Tryz.prog.underlying 180)=some .u64:=by kernel_rfl
theorem ZFu:Tryz.prog.underlying 180=some (.int .u64):=by kernel_rfl
theorem ZuP:Zd4 (Tryz.prog.underlying 2)=some .i64:=by kernel_rfl
theorem ZuQ:e0.P.underlying 9=some .string:=by kernel_rfl
theorem Zo1 {i:Int} (h0:0<=i) (h1:i < 14) (s:ByteArray) (hl:s.size<=1000000) (a:Option Addr) (cap:Nat):ConP e0 204 [.one (.lit (.slice a (byR s).length cap)),.one (.lit (.int .u64 i)),.one (.lit (.int .i64 10))] [.buf (some (a,cap)) 5 1 (byR s)] (RBy (s++decS i)):=by
 have q1:(i < 100)=True:=eq_true om;have w1:IntKind.i64.wrap i=i:=IntWalk.i64_in _ om;have l1:(byR s).length+(byR (decS i)).length<=maxApp:=by
  rw [Zem,Zem];have:(decS i).size<=3:=by unfold decS decB decN;show (List.toArray _).size<=3;rw [List.size_toArray];split <;> split <;> simp
  unfold maxApp;omega
 refine gIP (ts:=[.slot 6]) [1000] 5575 Tryz.func204 ?_;refine fN 3 (aj3 @q1 @ZFt @tmz) ?_;refine gB ?_;refine fC (aj6 @w1 @Zn5 @ZFu @Zgh @Zil @tmz) (ZzY h0 h1) ?_;refine gK 13 ?_;refine (have F:=tmz;gSt l1 ZuQ ?_);rw [ZkU];refine gS 17 fun a2 cap2=>?_;refine fR @tmz ?_;refine fG @tmz ?_;exact (have F:=tmz;gTP (R:=RBy (s++decS i)) [17] ⟨a2,cap2,rfl,rfl⟩)
theorem ZzZ {i:Int} (h0:-1<=i) (h1:i < 14) (s:ByteArray) (hl:s.size<=100000) (a:Option Addr) (cap:Nat):ConP e0 195 [.one (.lit (.slice a (byR s).length cap)),.one (.lit (.int .i64 i)),.one (.lit (.int .i64 10))] [.buf (some (a,cap)) 5 1 (byR s)] (RBy (s++decS i)):=by
 refine gIP (ts:=[.slot 6]) [1000] 2247 Tryz.func195 ?_;by_cases hn:i < 0
 ·obtain rfl:i=-1:=by omega
  have q1:=lT (-1) 0;have w1:IntKind.u64.wrap (-1)=18446744073709551615:=by decide
  have w2:IntKind.u64.wrap (0 - 18446744073709551615)=1:=by decide
  have l1:(byR s).length+1<=maxApp:=by rw [Zem];unfold maxApp;omega
  have l2:ZaC 1 (byR s)=true:=ZD3 s;have e1:byR s++[[.lit (.int .u8 45)]]=byR (s++⟨#[45]⟩):=by rw [<- ZkU];rfl
  have e2:s++⟨#[45]⟩++decS 1=s++decS (-1):=by rw [ByteArray.append_assoc];rfl
  have cU:=fun a cap=>Zo1 (i:=1) om om (s++⟨#[45]⟩) (by rw [ByteArray.size_append];show s.size+1<=_;omega) a cap;rw [e2] at cU;refine fN 3 (aj6 @q1 @w1 @Zn5 @ZuP @ZeM @tmz) ?_;refine gB ?_;refine fR (aj4 @l1 @l2 @e1 @tmz) ?_;refine fN 5 (aj3 @w2 @ZFb @tmz) ?_;refine pS 0 fun a2 cap2=>?_;refine gB ?_;have F:=@tmz;refine gCP [0] [1001] (cU a2 cap2) ?_;clear F;rintro r pm ⟨a3,cap3,rfl,rfl⟩;simp only [setA,retA,zipM,Taf,Tah]
  refine fR @tmz ?_;refine fG @tmz ?_;exact (have F:=tmz;gTP (R:=RBy (s++decS (-1))) [1001] ⟨a3,cap3,rfl,rfl⟩)
 ·have q1:(i < 0)=False:=eq_false hn;have w1:IntKind.u64.wrap i=i:=by
   have h:=@Int.emod_eq_of_lt;unfold IntKind.wrap;simp only [IntKind.signed,IntKind.bits];exact Int.emod_eq_of_lt om om
  have cU:=Zo1 om h1 s om a cap;refine fN 5 (aj6 @q1 @w1 @Zn5 @ZuP @ZeM @tmz) ?_;refine gB ?_;have F:=@tmz;refine gCP [1000] [1001] (cU) ?_;clear F;rintro r pm ⟨a3,cap3,rfl,rfl⟩;simp only [setA,retA,zipM,Taf,Tah];refine fR @tmz ?_;refine fG @tmz ?_;exact (have F:=tmz;gTP (R:=RBy (s++decS i)) [1001] ⟨a3,cap3,rfl,rfl⟩)
theorem Zly {i:Int} (h0:-1<=i) (h1:i < 14) (s:ByteArray) (hl:s.size<=100000) (a:Option Addr) (cap:Nat):ConP e0 172 [.one (.lit (.slice a (byR s).length cap)),.one (.lit (.int .i64 i)),.one (.lit (.int .i64 10))] [.buf (some (a,cap)) 5 1 (byR s)] (RBy (s++decS i)):=by
 refine gIP (ts:=[.slot 6]) [1000] 71 Tryz.func172 ?_;refine fN 1 @tmz ?_;refine gB ?_;have F:=@tmz;refine gCP [1000] [1001] (ZzZ h0 h1 s hl a cap) ?_;clear F;rintro r pm ⟨a3,cap3,rfl,rfl⟩;simp only [setA,retA,zipM,Taf,Tah];refine fR @tmz ?_;refine fG @tmz ?_;exact (have F:=tmz;gTP (R:=RBy (s++decS i)) [1001] ⟨a3,cap3,rfl,rfl⟩)
def bs (l:List UInt8):ByteArray:=⟨l.toArray⟩
theorem Zne (l m:List UInt8):bs l++bs m=bs (l++m):=by
 apply ByteArray.ext;rw [ByteArray.data_append];simp [bs]
theorem ZkV (l:List UInt8):(bs l).size=l.length:=by show (List.toArray l).size=_;simp
theorem Zo2 (s:ByteArray):bs s.toList=s:=by
 rw [ByteArray.toList_eq];unfold bs;simp
theorem ZuR {i:Int} (h1:i < 100):(decB i).length<=3:=by
 unfold decB decN;split <;> split <;> simp
mutual
theorem Zro {g:Sgn} (hg:SgnOk g):∀ (t:Tm),ZaF g t->(Zdg t).length<=22 * sizeTm t
 | .mk op nm so args,h=>by
  have h1:=Zo3 hg args (by simp only [ZaF] at h;exact h.2.1);have hk:=Zhn hg _ h;simp only [ZeR] at hk;obtain ⟨k0,k1,k2,k3,_⟩:=hk;have d1:=ZuR (i:=op) om;simp only [Zdg,sizeTm,Tae,Tag,Tak];split
  ·have d2:=ZuR (i:=so) (by have:=(k2 om).2.2;omega);have hn:ZbF nm=true:=by
    rcases h.node with hv | ⟨o,d,hA⟩
    ·exact hv.2.1
    ·have:=hA.lo;have:(Tm.mk op nm so args).op=op:=rfl;omega
   have h4:¬ 12 < nm.size:=fun h=>by rw [ZcH (.inr (.inl h))] at hn;cases hn
   have h5:nm.toList.length=nm.size:=by rw [ByteArray.toList_eq];exact Array.length_toList
   simp only [Tag,Tae];omega
  ·simp only [Tak];omega
theorem Zo3 {g:Sgn} (hg:SgnOk g):∀ (ts:List Tm),ZcA g ts->(Zbk ts).length<=22 * sizeTms ts
 | [],_=>by simp [Zbk,sizeTms]
 | t::ts,h=>by
  simp only [ZcA] at h;have h1:=Zro hg t h.1;have h2:=Zo3 hg ts h.2;simp only [Zbk,sizeTms,Tae];omega
end
theorem ZsN {l:List Tm} {i:Nat} {t:Tm} (h:l[i]?=some t):Zbk (l.take (i+1))=Zbk (l.take i)++Zdg t:=by
 rw [show l.take (i+1)=l.take i++[t] by simp [List.take_add_one,h],Zv4];simp [Zbk]
theorem Zo4:∀ (l:List Tm) (i:Nat),(Zbk (l.take i)).length<=(Zbk l).length
 | [],i=>by simp [Zbk]
 | x::xs,0=>by simp [Zbk]
 | x::xs,i+1=>by have:=Zo4 xs i;simp only [Tbc,Zbk,Tae];omega
theorem Znf:∀ {ts:List Tm},Ze1 ts->∀ t∈ts,ZeR t
 | _::_,h,t,ht=>by
  simp only [Ze1] at h;rcases Tbg.1 ht with rfl | ht
  ·exact h.1
  ·exact Znf h.2 t ht
def keyP (op:Int) (nm:ByteArray) (so:Int):List UInt8:=decB op++(if op < 0 then 58::(nm.toList++58::decB so) else [])
theorem ZEF (op:Int) (nm:ByteArray) (so:Int) (args:List Tm):Zdg (.mk op nm so args)=keyP op nm so++[40]++Zbk args++[41]:=by
 simp [Zdg,keyP,Tbf]
theorem Zv5:Za1 Tryz.prog 120=some .one:=by kernel_rfl
theorem ZD4:Za3 Tryz.prog 120=some 1:=by kernel_rfl
theorem ZF3:ZaX Tryz.prog 120=some [.lit .nilFunc]:=by kernel_rfl
theorem ZFv:Zas (.lit .nilFunc)=true:=rfl
theorem ZFw {f:FuncId} {cs:List C}:Zas (.fn f cs)=true:=rfl
def ptrB (b:Nat):Value:=.pointer (some ⟨b,0,none⟩)
def RKey (bo bv:Nat) (f:FuncId) (s:ByteArray) (r:List D) (pm:List Bk):Prop:=∃ a cap,r=[]∧pm=[.var (some bo) [.lit (.slice a (byR s).length cap)],.buf (some (a,cap)) 5 1 (byR s),.var (some bv) [.fn f [.lit (ptrB bo),.lit (ptrB bv)]]]
theorem gTPk {X:Prop} {P:Program} {ts:List RS} {R:List D->List Bk->Prop} {σ:St} {r:List D} {pm:List Bk} (ks:List Nat) (hR:R r pm) (hx:ZkB P ts R .normal σ->X:=by first | exact fun h=>h | exact fun h=>⟨_,Wk.refl _,h⟩) (hr:resD P σ ts=some r:=by exact sfy) (hg:getM σ.m ks=some pm:=by exact sny) (hn:ks.Nodup:=by decide) (hp:pm.all pinned=true:=by exact sny):X :=
 hx ⟨r,ks,pm,hg,hn,hp,hR,ZfE hr⟩
theorem ZsO (t:Tm) (hk:ZeR t) (hsz:sizeTm t<=60) (l:List UInt8) (a:Option Addr) (cap bo bv:Nat) (hne:bo≠bv) (hl:l.length+(Zdg t).length<=90000)
  (h:∀ x∈t.args,∀ (l:List UInt8) (a:Option Addr) (cap:Nat),l.length+(Zdg x).length<=90000->ConP e0 171 [.agg (Zac x),.one (.lit (ptrB bo)),.one (.lit (ptrB bv))] [.var (some bo) [.lit (.slice a (byR (bs l)).length cap)],.buf (some (a,cap)) 5 1 (byR (bs l)),.var (some bv) [.fn 171 [.lit (ptrB bo),.lit (ptrB bv)]]] (RKey bo bv 171 (bs (l++Zdg x)))) :
  ConP e0 171 [.agg (Zac t),.one (.lit (ptrB bo)),.one (.lit (ptrB bv))] [.var (some bo) [.lit (.slice a (byR (bs l)).length cap)],.buf (some (a,cap)) 5 1 (byR (bs l)),.var (some bv) [.fn 171 [.lit (ptrB bo),.lit (ptrB bv)]]] (RKey bo bv 171 (bs (l++Zdg t))):=by
 obtain ⟨op,nm,so,args⟩:=t;have hc:Zac (.mk op nm so args)=[.lit (.int .i64 op),.lit (.string nm),.lit (.int .i64 so),.sl (Zaa args)]:=by simp only [Zac]
 have hn1:(bo=bv)=False:=eq_false hne;have hn2:(bv=bo)=False:=eq_false (fun e=>hne e.symm);simp only [Tm.args] at h;have hsl:=ZbX args;simp only [sizeTm] at hsz;simp only [ptrB] at h ⊢;simp only [ZeR] at hk;obtain ⟨k0,k1,k2,k3,k4⟩:=hk;rw [ZEF] at hl ⊢;simp only [Tae,Tag,Tak] at hl;have rb:=fun l=>ZD3 (bs l);have e0':bs l++decS op=bs (l++decB op):=Zne _ _;have c1:=Zly k0 k1 (bs l) (by rw [ZkV];omega) a cap
 rw [e0'] at c1;have hP:keyP op nm so=decB op++(if op < 0 then 58::(nm.toList++58::decB so) else []):=rfl;have ap:=fun (l:List UInt8) (b:UInt8) (b':Int) (hb:b'=b.toNat)=>show byR (bs l)++[[.lit (.int .u8 b')]]=byR (bs (l++[b])) by rw [<- Zne,<- ZkU,hb];rfl
 have ml:=fun (l:List UInt8) (hl:l.length<=90000)=>show ((byR (bs l)).length+1<=maxApp)=True from eq_true (by rw [Zem,ZkV];unfold maxApp;omega)
 refine gIP (ts:=[]) [1001,1000,1002] 32212258863 Tryz.func171 ?_;refine fN 1 @tmz ?_;refine gB ?_;have F:=aj4 @hc @hn1 @hn2 @tmz;refine gCP [1000] [1000] (c1) ?_;clear F;rintro r pm ⟨a1,cap1,rfl,rfl⟩;simp only [setA,retA,zipM,Taf,Tah];refine fR (aj4 @hc @hn1 @hn2 @tmz) ?_;refine fG (ai @hc @tmz) ?_;refine gM (ι:=Option Addr × Nat) [] [1000,1001] (fun x=>[]) (fun x=>[(1001,.var (some bo) [.lit (.slice x.1 (byR (bs (l++keyP op nm so))).length x.2)]),(1000,.buf (some (x.1,x.2)) 5 1 (byR (bs (l++keyP op nm so))))]) (fun x=>True) ?_ (fun x hx=>Exists.intro _ (ai (Wk.refl _) ?_))
 ·by_cases ho:op < 0
  ·have q1:(op < 0)=True:=eq_true ho;rw [if_pos ho] at hP;obtain ⟨_,s0,s8⟩:=k2 om;have hnm:(bs (l++decB op++[58]))++nm=bs (l++decB op++[58]++nm.toList):=by rw [<- Zo2 nm,Zne,Zo2]
   have e2:bs (l++decB op++[58]++nm.toList++[58])++decS so=bs (l++keyP op nm so):=by
    rw [hP];refine (Zne _ _).trans ?_;simp [Tbf]
   have hpl:=congrArg List.length hP;simp only [Tae,Tag] at hpl;have c2:=fun a cap=>Zly (i:=so) om om (bs (l++decB op++[58]++nm.toList++[58])) (by rw [ZkV];simp only [Tae,Tag,Tak];omega) a cap;rw [e2] at c2;have m1:=ml (l++decB op) (by simp only [Tae];omega);have m2:=ml (l++decB op++[58]++nm.toList) (by simp only [Tae,Tag,Tak];omega);have m3:(byR (bs (l++decB op++[58]))).length+(byR nm).length<=maxApp:=by
    rw [Zem,Zem,ZkV];have:nm.size=nm.toList.length:=by rw [ByteArray.toList_eq];exact Array.length_toList.symm
    simp only [Tae,Tag,Tak];unfold maxApp;omega
   have b1:=rb (l++decB op);have b2:=rb (l++decB op++[58]++nm.toList);have p1:=ap (l++decB op) 58 58 rfl;have p2:=ap (l++decB op++[58]++nm.toList) 58 58 rfl;clear hP hpl ap ml rb;rw [decide_eq_true ho];refine fN 3 (ai @hc @tmz) ?_;refine gB ?_;have F:=aj6 @m1 @b1 @p1 @hn1 @hn2 @tmz;refine gP 3 ?_;clear F;refine gS 15 fun a2 cap2=>?_;refine fR (aj3 @hn1 @hn2 @tmz) ?_;refine fN 4 @tmz ?_;refine gB ?_
   have F:=aj4 @hc @hn1 @hn2 @tmz;refine gP 3 ?_;clear F;refine gK 16 ?_;refine (have F:=tmz;gSt m3 ZuQ ?_);rw [ZkU,hnm];refine gS 19 fun a3 cap3=>?_;refine fR (aj3 @hn1 @hn2 @tmz) ?_;refine fN 5 @tmz ?_;refine gB ?_;have F:=aj6 @m2 @b2 @p2 @hn1 @hn2 @tmz;refine gP 3 ?_;clear F;refine gS 22 fun a4 cap4=>?_;refine fR (aj3 @hn1 @hn2 @tmz) ?_;refine fN 6 @tmz ?_;refine gB ?_;have F:=aj4 @hc @hn1 @hn2 @tmz;refine gCP [22] [1000] (c2 a4 cap4) ?_;clear F
   rintro r pm ⟨a5,cap5,rfl,rfl⟩;simp only [setA,retA,zipM,Taf,Tah];refine fR (aj3 @hn1 @hn2 @tmz) ?_;exact (have F:=tmz;⟨(a5,cap5),trivial,gw,gw⟩)
  ·have q1:(op < 0)=False:=eq_false ho;rw [if_neg ho,List.append_nil] at hP;rw [hP,decide_eq_false ho];have F:=ai @hc @tmz;refine gG ?_;exact ⟨(a1,cap1),trivial,gw,gw⟩
 obtain ⟨a2,cap2⟩:=x;dsimp only;have m1:=ml (l++keyP op nm so) (by simp only [Tae];omega);have b1:=rb (l++keyP op nm so);have p1:=ap (l++keyP op nm so) 40 40 rfl;have e3:l++(keyP op nm so++[40]++Zbk args++[41])=l++keyP op nm so++[40]++Zbk args++[41]:=by simp [Tbf]
 rw [e3];have hP2:(l++keyP op nm so++[40]).length=l.length+(keyP op nm so).length+1:=by simp only [Tae,Tag,Tak]
 have hal:=Zo4 args;refine fN 7 @tmz ?_;refine gB ?_;have F:=aj6 @m1 @b1 @p1 @hn1 @hn2 @tmz;refine gP 3 ?_;clear F;refine gS 29 fun a3 cap3=>?_;refine fR (aj3 @hn1 @hn2 @tmz) ?_;clear m1 b1 p1 e3 hP c1 e0';generalize l++keyP op nm so++[40]=q at hP2 ⊢;have hq0:q++Zbk []=q:=by simp [Zbk]
 refine fG (ai @hc @tmz) ?_;have F:=@hq0;refine gL (ι:=Nat × Option Addr × Nat) [5,33,34] [29,1001,1002] (fun x=>[(33,.d (.one (.lit (.int .i64 (x.1:Int)))))]) (fun x=>[(1001,.var (some bo) [.lit (.slice x.2.1 (byR (bs (q++Zbk (args.take x.1)))).length x.2.2)]),(29,.buf (some (x.2.1,x.2.2)) 5 1 (byR (bs (q++Zbk (args.take x.1))))),(1002,.var (some bv) [.fn 171 [.lit (.pointer (some ⟨bo,0,none⟩)),.lit (.pointer (some ⟨bv,0,none⟩))]])]) (fun x=>x.1<=args.length) (fun x=>args.length - x.1) ((0,a3,cap3)) (Taj _) (fun x hx=>?_);clear F
 obtain ⟨i,a4,cap4⟩:=x;simp only at hx;dsimp only;by_cases hlt:i < args.length
 ·obtain ⟨b,hg⟩:∃ b,args[i]?=some b:=⟨_,Taa hlt⟩;have q2:=lT i args.length;have q4:IntKind.i64.wrap ((i:Int)+1)=(i:Int)+1:=IntWalk.i64_in _ om;have hvt:=ZsN hg;have hle:=hal (i+1);rw [hvt,Tae] at hle;have hcon:=h b (Tac hg) (q++Zbk (args.take i)) a4 cap4 (by rw [Tae];omega);rw [Tbf,<- hvt] at hcon;refine fB (aj6 @q2 @hc @Zad @Zbq @hg @tmz) ?_;have F:=aj4 @Zv5 @hn1 @hn2 @tmz;refine gCP [1001,29,1002] [1001,29,1002] (hcon) ?_;clear F
  rintro r pm ⟨a5,cap5,rfl,rfl⟩;simp only [ptrB,setA,retA,zipM,Taf,Tah];refine fR @tmz ?_;have F:=@q4;refine gG ?_;exact ⟨(i+1,a5,cap5),hlt,gw,gw,om⟩
 ·obtain rfl:i=args.length:=by omega
  have q2:=lF args.length args.length;rw [Tap];have m1:=ml (q++Zbk args) (by rw [Tae];omega);have b1:=rb (q++Zbk args);have p1:=ap (q++Zbk args) 41 41 rfl;refine fN 13 @q2 ?_;refine gB ?_;have F:=aj6 @m1 @b1 @p1 @hn1 @hn2 @tmz;refine gP 3 ?_;clear F;refine gS 43 fun a5 cap5=>?_;refine fR (aj3 @hn1 @hn2 @tmz) ?_;exact (have F:=tmz;gTPk (R:=RKey bo bv 171 (bs (q++Zbk args++[41]))) [1001,43,1002] ⟨a5,cap5,rfl,rfl⟩)
theorem Zv6 (bo bv:Nat) (hne:bo≠bv) (n:Nat):∀ (t:Tm),sizeTm t < n->ZeR t->sizeTm t<=60->∀ (l:List UInt8) (a:Option Addr) (cap:Nat),l.length+(Zdg t).length<=90000->ConP e0 171 [.agg (Zac t),.one (.lit (ptrB bo)),.one (.lit (ptrB bv))] [.var (some bo) [.lit (.slice a (byR (bs l)).length cap)],.buf (some (a,cap)) 5 1 (byR (bs l)),.var (some bv) [.fn 171 [.lit (ptrB bo),.lit (ptrB bv)]]] (RKey bo bv 171 (bs (l++Zdg t))):=by
 induction n with
 | zero=>exact fun _ h=>om
 | succ n ih =>
  intro t hn hk hsz l a cap hl;refine ZsO t hk hsz l a cap bo bv hne hl fun x hx l a cap hl2=>ih x ?_ ?_ ?_ l a cap hl2
  ·have:=ZbA hx;rw [Zbt] at hn;omega
  ·obtain ⟨op,nm,so,args⟩:=t;simp only [ZeR] at hk;exact Znf hk.2.2.2.2 x hx
  ·have:=ZbA hx;rw [Zbt] at hsz;omega
theorem ZB1:ZfJ e0.P 183 9=true:=by kernel_rfl
theorem Zz0 {g:Sgn} (hg:SgnOk g) {t:Tm} (hf:ZaF g t) (hsz:sizeTm t<=60):Con e0 136 [.agg (Zac t)] [.one (.lit (.string (keyS t)))]:=by
 have hks:=Zro hg t hf;have hby0:byR (bs [])=[]:=rfl;refine gI (ts:=[.slot 2]) 31 Tryz.func136 ?_;refine fN 1 @tmz ?_;refine gB ?_;have F:=@tmz;refine gP 1 ?_;clear F;refine gO 5 5 1 ?_;refine gS 5 fun a cap=>?_;refine fR @tmz ?_;refine fN 3 (aj3 @ZF3 @ZD4 @tmz) ?_;refine pV 3 fun b3 hb3=>?_;refine pV 4 fun b4 hb4=>?_;have hne:b3≠b4:=fun e=>hb4 3 b3 _ (by decide) rfl e.symm;clear hb3 hb4;have hn1:(b3=b4)=False:=eq_false hne
 have hn2:(b4=b3)=False:=eq_false (fun e=>hne e.symm);refine fN 4 (aj7 @Zv5 @ZD4 @ZFv @ZFw @hn1 @hn2 @tmz) ?_;refine gB ?_;have hcon:=Zv6 b3 b4 hne _ t (Tan _) (Zhn hg t hf) hsz [] a cap (by simp only [Tak];omega);simp only [ptrB,hby0,Tak,Tah] at hcon;have F:=aj4 @Zv5 @hn1 @hn2 @tmz;refine gCP [3,5,4] [3,5,4] (hcon) ?_;clear F;rintro r pm ⟨a2,cap2,rfl,rfl⟩;simp only [ptrB,setA,retA,zipM,Taf,Tah];refine fR @tmz ?_
 refine ZdK ?_;refine gB ?_;have F:=aj3 @hn1 @hn2 @tmz;refine gP 1 ?_;clear F;refine gK 10 ?_;refine (have F:=tmz;gTx (k:=5) (bs (Zdg t)) ZB1 ?_);refine fR @tmz ?_;exact fD @tmz
end Go.Proofs.YtkigoajepohkaaaGreatDoor
namespace Go.Proofs.YtkigoajepohkaaaGreatDoor
open Go.RowKit Go.MapKept Go.ChangeMaps
theorem Zng {l:List (ByteArray × Value)} {k s:ByteArray} {v:Value}:ZbW (l++[(k,v)]) s=(ZbW l s).or (if s.toList=k.toList then some v else none):=by
 unfold ZbW;rw [List.find?_append]
 cases h:l.find? fun p=>s.toList==p.1.toList with
 | some p=>simp
 | none =>
  by_cases e:s.toList=k.toList
  ·simp [List.find?,e]
  ·have e2:(s.toList==k.toList)=false:=beq_eq_false_iff_ne.2 e;simp only [List.find?,e2,Option.or,if_neg e,Option.map_none]
def Memo (g:Sgn) (l:List (ByteArray × Value)):Prop:=∀ u,ZaF g u->∀ v,ZbW l (keyS u)=some v->v=.int .i64 (sortsTm g u:Nat)
def Grew (g:Sgn) (n:Nat) (l l':List (ByteArray × Value)):Prop:=∀ u,ZaF g u->n < sizeTm u->ZbW l (keyS u)=none->ZbW l' (keyS u)=none
theorem Grew.refl {g:Sgn} {n:Nat} {l:List (ByteArray × Value)}:Grew g n l l:=fun _ _ _ h=>h
theorem Grew.trans {g:Sgn} {n:Nat} {l l' l'':List (ByteArray × Value)} (h:Grew g n l l') (h':Grew g n l' l''):Grew g n l l'':=fun u hu hs h0=>h' u hu hs (h u hu hs h0)
theorem Grew.mono {g:Sgn} {n m:Nat} {l l':List (ByteArray × Value)} (h:Grew g n l l') (hn:n<=m):Grew g m l l':=fun u hu hs h0=>h u hu om h0
theorem Memo.nil {g:Sgn}:Memo g []:=fun u _ v h=>by simp [ZbW] at h
theorem Memo.snoc {g:Sgn} (hg:SgnOk g) {l:List (ByteArray × Value)} (h:Memo g l) {t:Tm} (ht:ZaF g t):Memo g (l++[(keyS t,.int .i64 (sortsTm g t:Nat))]):=by
 intro u hu v hv;rw [Zng] at hv
 cases hl:ZbW l (keyS u) with
 | some x =>
  rw [hl] at hv;simp only [Option.some_or,Taq] at hv;subst hv;exact h u hu _ hl
 | none =>
  rw [hl,Option.none_or] at hv;by_cases e:(keyS u).toList=(keyS t).toList
  ·rw [if_pos e] at hv;obtain rfl:=Zrm hg hu ht e;simpa using hv.symm
  ·rw [if_neg e] at hv;cases hv
theorem Grew.snoc {g:Sgn} (hg:SgnOk g) {l:List (ByteArray × Value)} {t:Tm} (ht:ZaF g t) {v:Value}:Grew g (sizeTm t) l (l++[(keyS t,v)]):=by
 intro u hu hs h0;rw [Zng,h0,Option.none_or,if_neg];intro e;obtain rfl:=Zrm hg hu ht e;omega
section
variable {e:Env} {K:St->Prop} {ds:List (Option Nat)} {os:List Oper} {s:List (Nat × A)} {m:List (Nat × Bk)}
theorem gLo {d t ty:Nat} {p:String} {ed:Array Edge} {x y:Operand} {b:Nat} {l:List (ByteArray × Value)} {k:ByteArray} {kt el:TypeId} {z v:Value} {f:Bool} (κ:Nat) (ht:e.P.underlying t=some (.map kt el)) (hk:e.P.underlying kt=some .string) (hz:∀ w,(zeroValue el).run e.P w=.ok z w) (hv:(ZbW l k).getD z=v) (hf:(ZbW l k).isSome=f)
  (hK:Runs e ds 0 os ⟨(d,.tup [.one (.lit v),.one (.lit (.bool f))])::s,m⟩ K) (hx:evA s x=.d (.one (.lit (.map (some b)))):=by exact sfx) (hy:evA s y=.d (.one (.lit (.string k))):=by exact sfx) (hm:gm m κ=some (mapB b l):=by exact snx):Runs e ds 0 (⟨some d,.lookup t x y true,ty,p,ed,none⟩::os) ⟨s,m⟩ K :=
 ZgD rfl (ZoM rfl ht hk hz hx hy hm (α:=.tup [.one (.lit v),.one (.lit (.bool f))]) (fun w S L=>by
  rw [hv,hf];exact ⟨[v,.bool f],rfl,by simp [ZaI,DRel,Rep]⟩) hK)
theorem ZgR:e0.P.underlying 116=some (.map 9 3):=by kernel_rfl
theorem Zz1:∀ w,(zeroValue 3).run e0.P w=.ok (.int .i64 0) w:=fun w=>by kernel_rfl
end
end Go.Proofs.YtkigoajepohkaaaGreatDoor
namespace Go.Proofs.YtkigoajepohkaaaGreatDoor
open Go.RowKit
theorem Zgn {e:Env} {f:FuncId} {a b:D} {rows:List (List C)} {r:List D} (h:Con e f [a,b,.one (.sl rows)] r):Con e f [a,b,.clip rows] r :=
 ⟨h.1,fun w S vs hS hE hG hv=>h.2 w S vs hS hE hG (by
  match vs,hv with
  | [x,y,z],hv=>exact ⟨hv.1,hv.2.1,hv.2.2.1.1,trivial⟩)⟩
def FitN (d:Dcl) (sets:List Nat) (n:Nat):Prop:=∀ (i:Nat) k s,i < n->d.args[i]?=some k->sets[i]?=some s->s.testBit k.toNat=true
theorem FitN.zero {d:Dcl} {sets:List Nat}:FitN d sets 0:=fun i k s h=>absurd h (Nat.not_lt_zero i)
theorem FitN.succ {d:Dcl} {sets:List Nat} {n:Nat} {k:Int} {s:Nat} (hk:d.args[n]?=some k) (hs:sets[n]?=some s):FitN d sets (n+1) ↔ FitN d sets n∧s.testBit k.toNat=true:=by
 constructor
 ·exact fun h=>⟨fun i k s hi=>h i k s om,h n k s om hk hs⟩
 ·rintro ⟨h1,h2⟩ i k' s' hi hk' hs';by_cases e:i=n
  ·subst e;rw [hk] at hk';rw [hs] at hs';injection hk' with hk'
   injection hs' with hs'
   subst hk' hs';exact h2
  ·exact h1 i k' s' om hk' hs'
theorem FitN.full {d:Dcl} {sets:List Nat}:FitN d sets d.args.length ↔ ∀ (i:Nat) k s,d.args[i]?=some k->sets[i]?=some s->s.testBit k.toNat=true :=
 ⟨fun h i k s hk hs=>h i k s (Tad.1 hk).1 hk hs,fun h i k s _ hk hs=>h i k s hk hs⟩
def GvB (g:Sgn) (P:Dcl->Prop) (ds:List Dcl) (b:Nat):Prop:=∃ d∈ds,P d∧(upk g d.res).testBit b=true
theorem ZEG {g:Sgn} {P:Dcl->Prop} {N:Nat}:ofB (GvB g P []) N=0:=Zhj fun b _ h=>by
 obtain ⟨d,hd,_⟩:=h
 cases hd
theorem ZFx {g:Sgn} {P:Dcl->Prop} {N:Nat} {ds:List Dcl} {d:Dcl} (h:P d) (hu:upk g d.res < 2 ^ N):ofB (GvB g P (ds++[d])) N=ofB (GvB g P ds) N ||| upk g d.res:=by
 rw [<- Zhk hu,Zgl];refine Za5 fun b _=>?_;constructor
 ·rintro ⟨x,hx,h1,h2⟩;rcases Tbh.1 hx with hx | hx
  ·exact .inl ⟨x,hx,h1,h2⟩
  ·rw [Tbj.1 hx] at h2;exact .inr h2
 ·rintro (⟨x,hx,h1,h2⟩ | h2)
  ·exact ⟨x,List.mem_append_left _ hx,h1,h2⟩
  ·exact ⟨d,List.mem_append_right _ (Tbj.2 rfl),h,h2⟩
theorem ZF4 {g:Sgn} {P:Dcl->Prop} {N:Nat} {ds:List Dcl} {d:Dcl} (h:¬ P d):ofB (GvB g P (ds++[d])) N=ofB (GvB g P ds) N:=by
 refine Za5 fun b _=>?_;constructor
 ·rintro ⟨x,hx,h1,h2⟩;rcases Tbh.1 hx with hx | hx
  ·exact ⟨x,hx,h1,h2⟩
  ·rw [Tbj.1 hx] at h1;exact absurd h1 h
 ·rintro ⟨x,hx,h1,h2⟩;exact ⟨x,List.mem_append_left _ hx,h1,h2⟩
theorem ZFy {g:Sgn} {o:Opr} {sets:List Nat} {N:Nat}:ofB (GvB g (fun d=>FitN d sets d.args.length∨(o.comm=true∧FitN d sets.reverse d.args.length)) o.decls) N=ofB (AnyB g o sets) N:=by
 refine Za5 fun b _=>?_;unfold AnyB ZdG;constructor
 ·rintro ⟨d,hd,h1,h2⟩;rcases h1 with h1 | ⟨h0,h1⟩
  ·exact .inl ⟨d,hd,FitN.full.1 h1,h2⟩
  ·exact .inr ⟨h0,d,hd,FitN.full.1 h1,h2⟩
 ·rintro (⟨d,hd,h1,h2⟩ | ⟨h0,d,hd,h1,h2⟩)
  ·exact ⟨d,hd,.inl (FitN.full.2 h1),h2⟩
  ·exact ⟨d,hd,.inr ⟨h0,FitN.full.2 h1⟩,h2⟩
theorem ZbS {v N:Nat} (h:v < 2 ^ N) (hN:N<=8):v < 4611686018427387904:=by
 have:2 ^ N<=2 ^ 8:=Tbt om hN;omega
section
variable {g:Sgn} {mc:C}
open Classical in
theorem ZhZ (hg:SgnOk g) {op:Int} {o:Opr} (h0:0<=op) (ho:g.ops[op.toNat]?=some o) (sets:List Nat) (hlen:∀ d∈o.decls,d.args.length=sets.length) (hsl:sets.length<=3) (hs:∀ s∈sets,s < 2 ^ g.sorts.names.length):Con e0 137 [.one (.ptr (encX g mc)),.one (.lit (.int .i64 op)),.one (.sl (nR sets))] [.one (.lit (.int .i64 ((ofB (AnyB g o sets) g.sorts.names.length:Nat):Int)))]:=by
 have hN:=hg.sorts.n8;have hD:=hg.decls o (Tac ho);have hdl:o.decls.length<=4:=hD.len4;rw [<- ZFy];generalize hPd:(fun d=>FitN d sets d.args.length∨(o.comm=true∧FitN d sets.reverse d.args.length))=P;have z0:ofB (GvB g P []) g.sorts.names.length=0:=ZEG;have z1:((ofB (GvB g P []) g.sorts.names.length:Nat):Int)=0:=by rw [z0];rfl
 have hUl:(nR (up g.sorts)).length=g.sorts.names.length:=by rw [ZaT,ZqX hg.sorts]
 refine gI (ts:=[.slot 6]) 1180591620846512012743 Tryz.func137 ?_;refine fG (aj5 @Za4 @h0 @ho @Zaj @tmz) ?_;have F:=@tmz;refine gL (ι:=Nat × Nat) [8,10,11,12,13,14,26,27,33,34,35,36,70] [] (fun x=>[(26,A.d (.one (.lit (.int .i64 x.1)))),(8,A.d (.one (.lit (.int .i64 x.2))))]) (fun x=>[]) (fun x=>x.1<=o.decls.length∧x.2=ofB (GvB g P (o.decls.take x.1)) g.sorts.names.length) (fun x=>o.decls.length - x.1) ((0,0)) (⟨Taj _,z0.symm⟩) (fun x hx=>?_);clear F
 obtain ⟨i,out⟩:=x;obtain ⟨hi,hout⟩:=hx;simp only at hi hout;subst hout;dsimp only;have hob:ofB (GvB g P (o.decls.take i)) g.sorts.names.length < 2 ^ g.sorts.names.length:=Zcd _ _;have hob62:=ZbS hob hN;by_cases hlt:i < o.decls.length;rotate_left
 ·obtain rfl:i=o.decls.length:=by omega
  have q1:=lF o.decls.length o.decls.length;rw [Tap];exact fD (ai @q1 @tmz)
 obtain ⟨d,hdi⟩:∃ d,o.decls[i]?=some d:=⟨_,Taa hlt⟩;have hdm:=Tac hdi;have hdl2:=hlen d hdm;obtain ⟨f,hf,_⟩:=hg.first ho;have hdo:=hD.all f hf d hdm;have q1:=lT i o.decls.length;have hw1:=Zau (k:=i) om;have hsnoc:o.decls.take (i+1)=o.decls.take i++[d]:=by simp [List.take_add_one,hdi]
 refine fN 6 (aj3 @q1 @hdi @tmz) ?_;refine Zar 4 (by decide +kernel) ?_;intro ds hds;simp only [List.map] at hds;subst hds;have F:=ai @Zaj @tmz;refine gP 2 ?_;clear F;refine (have F:=tmz;gAq ?_);refine (have F:=tmz;gAq ?_);refine fR @tmz ?_;refine fG (ai @ZaV @tmz) ?_;have F:=@tmz;refine gL (ι:=Nat × Bool × Bool) [11,12,13,14,35,36] [] (fun y=>[(35,A.d (.one (.lit (.int .i64 y.1)))),(11,A.d (.one (.lit (.bool y.2.1)))),(12,A.d (.one (.lit (.bool y.2.2))))]) (fun y=>[]) (fun y=>y.1<=d.args.length∧y.2.1=decide (FitN d sets y.1)∧y.2.2=decide (o.comm=true∧FitN d sets.reverse y.1)) (fun y=>d.args.length - y.1) ((0,true,o.comm)) (⟨Taj _,(decide_eq_true FitN.zero).symm,by cases o.comm <;> simp [FitN.zero]⟩) (fun y hy=>?_);clear F
 obtain ⟨j,b1,b2⟩:=y;obtain ⟨hj,hb1,hb2⟩:=hy;simp only at hj hb1 hb2;dsimp only;by_cases hjl:j < d.args.length
 ·obtain ⟨k,hk⟩:∃ k,d.args[j]?=some k:=⟨_,Taa hjl⟩;have hkr:=hdo.args k (Tac hk);obtain ⟨kn,rfl⟩:∃ kn:Nat,k=kn:=⟨k.toNat,om⟩;obtain ⟨s,hsj⟩:∃ s,sets[j]?=some s:=⟨_,Taa om⟩;obtain ⟨s',hsj'⟩:∃ s,sets[sets.length - 1 - j]?=some s:=⟨_,Taa om⟩;have hrv:sets.reverse[j]?=some s':=by rw [List.getElem?_reverse om];exact hsj'
  have b62:=ZbS (hs s (Tac hsj)) hN;have b62':=ZbS (hs s' (Tac hsj')) hN;have q2:=lT j d.args.length;have hwj:=Zau (k:=j) om;have r1:=ZaR hsj;have r2:=ZaR hsj';have rl:=ZaT (l:=sets);have rr:=ZaP (l:=sets);have h1:=Zfq (k:=kn) om;have h2:=ZkG (x:=s) (k:=kn) b62 om;have h3:=ZkG (x:=s') (k:=kn) b62' om;have w1:IntKind.i64.wrap ((sets.length:Int) - 1)=((sets.length - 1:Nat):Int):=ZaM om om om;have w2:IntKind.i64.wrap (((sets.length - 1:Nat):Int) - (j:Int))=((sets.length - 1 - j:Nat):Int):=ZaM om om om
  have i1:(j < sets.length)=True:=eq_true om;have i2:(sets.length - 1 - j < sets.length)=True:=eq_true om;have hf1:=FitN.succ (n:=j) hk hsj;have hf2:=FitN.succ (sets:=sets.reverse) (n:=j) hk hrv;rw [show (kn:Int).toNat=kn from rfl] at hf1 hf2;refine fN 10 (aj4 @q2 @hk @Zbb @tmz) ?_;refine gM (ι:=Bool) [11] [] (fun b=>[(11,A.d (.one (.lit (.bool b))))]) (fun b=>[]) (fun b=>b=decide (FitN d sets (j+1))) ?_ (fun b hb=>Exists.intro _ (ai (Wk.refl _) ?_))
  ·cases b1 with
   | false =>
    have e:false=decide (FitN d sets (j+1)):=(decide_eq_false fun h=>by
     have:=hf1.1 h;rw [decide_eq_true this.1] at hb1
     cases hb1).symm
    have F:=@tmz;refine gG ?_;exact ⟨false,e,gw,gw⟩
   | true =>
    have hb1':=of_decide_eq_true hb1.symm
    cases ht:tbit s kn with
    | false =>
     rw [ht] at h2;have e:false=decide (FitN d sets (j+1)):=(decide_eq_false fun h=>by
      have:=(hf1.1 h).2;rw [show s.testBit kn=false from ht] at this
      cases this).symm
     have F:=aj8 @r1 @rl @rr @h1 @h2 @i1 @Zap @tmz;refine gG ?_;exact ⟨false,e,gw,gw⟩
    | true =>
     rw [ht] at h2;have e:true=decide (FitN d sets (j+1)):=(decide_eq_true (hf1.2 ⟨hb1',ht⟩)).symm;have F:=aj8 @r1 @rl @rr @h1 @h2 @i1 @Zap @tmz;refine gG ?_;exact ⟨true,e,gw,gw⟩
  clear hb1;refine fN 11 @tmz ?_;refine gM (ι:=Bool) [12] [] (fun c=>[(12,A.d (.one (.lit (.bool c))))]) (fun c=>[]) (fun c=>c=decide (o.comm=true∧FitN d sets.reverse (j+1))) ?_ (fun c hc=>Exists.intro _ (ai (Wk.refl _) ?_))
  ·cases b2 with
   | false =>
    have e:false=decide (o.comm=true∧FitN d sets.reverse (j+1)):=(decide_eq_false fun h=>by
     have:=hf2.1 h.2;rw [decide_eq_true ⟨h.1,this.1⟩] at hb2
     cases hb2).symm
    have F:=@tmz;refine gG ?_;exact ⟨false,e,gw,gw⟩
   | true =>
    have hb2':=of_decide_eq_true hb2.symm
    cases ht:tbit s' kn with
    | false =>
     rw [ht] at h3;have e:false=decide (o.comm=true∧FitN d sets.reverse (j+1)):=(decide_eq_false fun h=>by
      have:=(hf2.1 h.2).2;rw [show s'.testBit kn=false from ht] at this
      cases this).symm
     have F:=aj10 @r2 @rl @rr @w1 @w2 @h1 @h3 @i2 @Zap @tmz;refine gG ?_;exact ⟨false,e,gw,gw⟩
    | true =>
     rw [ht] at h3;have e:true=decide (o.comm=true∧FitN d sets.reverse (j+1)):=(decide_eq_true ⟨hb2'.1,hf2.2 ⟨hb2'.2,ht⟩⟩).symm;have F:=aj10 @r2 @rl @rr @w1 @w2 @h1 @h3 @i2 @Zap @tmz;refine gG ?_;exact ⟨true,e,gw,gw⟩
  have F:=ai @hwj @tmz;refine gG ?_;exact ⟨(j+1,b,c),⟨hjl,hb,hc⟩,gw,gw,om⟩
 ·obtain rfl:j=d.args.length:=by omega
  have q2:=lF d.args.length d.args.length;have hPi:P d ↔ FitN d sets d.args.length∨(o.comm=true∧FitN d sets.reverse d.args.length):=by rw [<- hPd]
  have hres:=Zik hg.sorts hdo.res.1 hdo.res.2;have ru:=ZoF hres.1;have rr:=ZaP (l:=up g.sorts);have ho2:=ZdW hob62 (ZbS hres.2 hN);have hr0:=hdo.res.1;have hr1:=hdo.res.2;have hrl:(d.res.toNat < g.sorts.names.length)=True:=eq_true om;by_cases hp:P d
  ·have hor:(b1 || b2)=true:=by
    rcases hPi.1 hp with h | h
    ·rw [hb1,decide_eq_true h];rfl
    ·rw [hb2,decide_eq_true h,Bool.or_true]
   have e:=ZFx (N:=g.sorts.names.length) (ds:=o.decls.take i) hp hres.2;rw [<- hsnoc] at e;rw [<- e] at ho2
   cases b1 with
   | true => 
    have F:=aj8 @q2 @Za4 @ru @Zbb @hr0 @ho2 @hw1 @tmz;refine gG ?_;exact ⟨(i+1,ofB (GvB g P (o.decls.take (i+1))) g.sorts.names.length),⟨hlt,rfl⟩,gw,gw,om⟩
   | false =>
    rw [Bool.false_or] at hor;subst hor;have F:=aj8 @q2 @Za4 @ru @Zbb @hr0 @ho2 @hw1 @tmz;refine gG ?_;exact ⟨(i+1,ofB (GvB g P (o.decls.take (i+1))) g.sorts.names.length),⟨hlt,rfl⟩,gw,gw,om⟩
  ·have h1:b1=false:=by rw [hb1];exact decide_eq_false fun h=>hp (hPi.2 (.inl h))
   have h2:b2=false:=by rw [hb2];exact decide_eq_false fun h=>hp (hPi.2 (.inr h))
   subst h1 h2;have e:=ZF4 (g:=g) (N:=g.sorts.names.length) (ds:=o.decls.take i) hp;rw [<- hsnoc] at e;rw [<- e];have F:=aj3 @q2 @hw1 @tmz;refine gG ?_;exact ⟨(i+1,ofB (GvB g P (o.decls.take (i+1))) g.sorts.names.length),⟨hlt,rfl⟩,gw,gw,om⟩
def ClB (g:Sgn) (v n b:Nat):Prop:=∃ k,k < n∧v.testBit k=true∧((up g.sorts).getD k 0).testBit b=true
theorem ZEH {v n N:Nat} (h:tbit v n=true) (hu:(up g.sorts).getD n 0 < 2 ^ N):ofB (ClB g v (n+1)) N=ofB (ClB g v n) N ||| (up g.sorts).getD n 0:=by
 rw [<- Zhk hu,Zgl];refine Za5 fun b _=>?_;constructor
 ·rintro ⟨k,h1,h2,h3⟩;by_cases e:k=n
  ·subst e;exact .inr h3
  ·exact .inl ⟨k,om,h2,h3⟩
 ·rintro (⟨k,h1,h2,h3⟩ | h3)
  ·exact ⟨k,om,h2,h3⟩
  ·exact ⟨n,om,h,h3⟩
theorem ZEI {v n N:Nat} (h:tbit v n=false):ofB (ClB g v (n+1)) N=ofB (ClB g v n) N:=by
 refine Za5 fun b _=>?_;constructor
 ·rintro ⟨k,h1,h2,h3⟩;by_cases e:k=n
  ·subst e;rw [show v.testBit k=false from h] at h2
   cases h2
  ·exact ⟨k,om,h2,h3⟩
 ·rintro ⟨k,h1,h2,h3⟩;exact ⟨k,om,h2,h3⟩
theorem ZEJ {v N:Nat}:ofB (ClB g v 0) N=0:=Zhj fun b _ h=>by
 obtain ⟨k,h1,_⟩:=h;omega
theorem ZsP (hg:SgnOk g) {v:Nat} (hv:v < 2 ^ g.sorts.names.length):Con e0 183 [.one (.sl (nR (up g.sorts))),.one (.lit (.int .i64 (v:Int)))] [.one (.lit (.int .i64 ((ofB (ClB g v g.sorts.names.length) g.sorts.names.length:Nat):Int)))]:=by
 have hN:=hg.sorts.n8;have hv62:=ZbS hv hN;have hUl:(nR (up g.sorts)).length=g.sorts.names.length:=by rw [ZaT,ZqX hg.sorts]
 have z0:ofB (ClB g v 0) g.sorts.names.length=0:=ZEJ;have rr:=ZaP (l:=up g.sorts);refine gI (ts:=[.slot 4]) 33907 Tryz.func183 ?_;refine fG @tmz ?_;have F:=@tmz;refine gL (ι:=Nat × Nat) [5,6,10,15] [] (fun x=>[(6,A.d (.one (.lit (.int .i64 x.1)))),(5,A.d (.one (.lit (.int .i64 x.2))))]) (fun x=>[]) (fun x=>x.1<=g.sorts.names.length∧x.2=ofB (ClB g v x.1) g.sorts.names.length) (fun x=>g.sorts.names.length - x.1) ((0,0)) (⟨Taj _,z0.symm⟩) (fun x hx=>?_);clear F
 obtain ⟨i,out⟩:=x;obtain ⟨hi,hout⟩:=hx;simp only at hi hout;subst hout;dsimp only;by_cases hlt:i < g.sorts.names.length;rotate_left
 ·obtain rfl:i=g.sorts.names.length:=by omega
  have q1:=lF g.sorts.names.length g.sorts.names.length;exact fD (aj3 @q1 @hUl @tmz)
 have q1:=lT i g.sorts.names.length;have hw1:=Zau (k:=i) om;have hu:=(ZfX (SortsOk.subsIn hg.sorts.subs)).get hlt;have ru:=ZaR hu.1;have ho2:=ZdW (ZbS (Zcd (ClB g v i) g.sorts.names.length) hN) (ZbS hu.2 hN);refine fN 5 (aj3 @q1 @hUl @tmz) ?_;refine gB ?_;refine fC @tmz (Zfe (a:=v) (k:=i) hv62 om) ?_
 cases ht:tbit v i with
 | false =>
  have e:=ZEI (g:=g) (N:=g.sorts.names.length) ht;rw [<- e];refine fR @tmz ?_;have F:=ai @hw1 @tmz;refine gG ?_;exact ⟨(i+1,ofB (ClB g v (i+1)) g.sorts.names.length),⟨hlt,rfl⟩,gw,gw,om⟩
 | true =>
  have e:=ZEH ht hu.2;rw [<- e] at ho2;refine fR @tmz ?_;have F:=aj8 @ru @rr @hUl @hlt @ho2 @hw1 @Zap @tmz;refine gG ?_;exact ⟨(i+1,ofB (ClB g v (i+1)) g.sorts.names.length),⟨hlt,rfl⟩,gw,gw,om⟩
def RsB (P:Dcl->Prop) (ds:List Dcl) (b:Nat):Prop:=∃ d∈ds,P d∧d.res.toNat=b
theorem ZEK {P:Dcl->Prop} {N:Nat}:ofB (RsB P []) N=0:=Zhj fun b _ h=>by
 obtain ⟨d,hd,_⟩:=h
 cases hd
theorem ZFz {P:Dcl->Prop} {N:Nat} {ds:List Dcl} {d:Dcl} (h:P d) (hu:d.res.toNat < N):ofB (RsB P (ds++[d])) N=ofB (RsB P ds) N ||| 2 ^ d.res.toNat:=by
 have h2:2 ^ d.res.toNat < 2 ^ N:=Nat.pow_lt_pow_right om hu;rw [<- Zhk h2,Zgl];refine Za5 fun b _=>?_;rw [ZuH];constructor
 ·rintro ⟨x,hx,h1,h2⟩;rcases Tbh.1 hx with hx | hx
  ·exact .inl ⟨x,hx,h1,h2⟩
  ·rw [Tbj.1 hx] at h2;exact .inr h2
 ·rintro (⟨x,hx,h1,h2⟩ | h2)
  ·exact ⟨x,List.mem_append_left _ hx,h1,h2⟩
  ·exact ⟨d,List.mem_append_right _ (Tbj.2 rfl),h,h2⟩
theorem ZF5 {P:Dcl->Prop} {N:Nat} {ds:List Dcl} {d:Dcl} (h:¬ P d):ofB (RsB P (ds++[d])) N=ofB (RsB P ds) N:=by
 refine Za5 fun b _=>?_;constructor
 ·rintro ⟨x,hx,h1,h2⟩;rcases Tbh.1 hx with hx | hx
  ·exact ⟨x,hx,h1,h2⟩
  ·rw [Tbj.1 hx] at h1;exact absurd h1 h
 ·rintro ⟨x,hx,h1,h2⟩;exact ⟨x,List.mem_append_left _ hx,h1,h2⟩
theorem ZEL (hg:SgnOk g) {o:Opr} (hD:∀ d∈o.decls,0<=d.res∧d.res < g.sorts.names.length) (sets:List Nat):ofB (ClB g (ofB (RsB (fun d=>FitN d sets d.args.length) o.decls) g.sorts.names.length) g.sorts.names.length) g.sorts.names.length=ofB (ZdG g o sets) g.sorts.names.length:=by
 refine Za5 fun b _=>?_;unfold ClB ZdG;constructor
 ·rintro ⟨k,h1,h2,h3⟩;obtain ⟨h4,d,hd,h5,h6⟩:=(Zdu _ _ _).1 h2;refine ⟨d,hd,FitN.full.1 h5,?_⟩;unfold upk;rw [h6];exact h3
 ·rintro ⟨d,hd,h1,h2⟩;have hr:=hD d hd;exact ⟨d.res.toNat,om,(Zdu _ _ _).2 ⟨om,d,hd,FitN.full.2 h1,rfl⟩,h2⟩
open Classical in
theorem ZiZ (hg:SgnOk g) {o:Opr} (hm:o∈g.ops) (sets:List Nat) (hlen:∀ d∈o.decls,d.args.length=sets.length) (hsl:sets.length<=3) (hs:∀ s∈sets,s < 2 ^ g.sorts.names.length):Con e0 163 [.one (.sl (nR (up g.sorts))),.one (.sl (o.decls.map Zg4)),.one (.sl (nR sets))] [.one (.lit (.int .i64 ((ofB (ZdG g o sets) g.sorts.names.length:Nat):Int)))]:=by
 have hN:=hg.sorts.n8;have hD:=hg.decls o hm;have hdl:o.decls.length<=4:=hD.len4;obtain ⟨f,hf⟩:∃ f,o.decls[0]?=some f:=⟨_,Taa (by have:=hD.len1;omega)⟩;have hres:=fun d hd=>(hD.all f hf d hd).res;rw [<- ZEL hg hres sets];generalize hPd:(fun d=>FitN d sets d.args.length)=P;have z0:ofB (RsB P []) g.sorts.names.length=0:=ZEK;have cC:=ZsP hg (Zcd (RsB P o.decls) g.sorts.names.length);refine gI (ts:=[.slot 6]) 549756880839 Tryz.func163 ?_
 refine fG @tmz ?_;have F:=@tmz;refine gL (ι:=Nat × Nat) [7,8,9,10,14,20,39] [] (fun x=>[(8,A.d (.one (.lit (.int .i64 x.1)))),(7,A.d (.one (.lit (.int .i64 x.2))))]) (fun x=>[]) (fun x=>x.1<=o.decls.length∧x.2=ofB (RsB P (o.decls.take x.1)) g.sorts.names.length) (fun x=>o.decls.length - x.1) ((0,0)) (⟨Taj _,z0.symm⟩) (fun x hx=>?_);clear F;obtain ⟨i,out⟩:=x;obtain ⟨hi,hout⟩:=hx;simp only at hi hout
 subst hout;dsimp only;by_cases hlt:i < o.decls.length;rotate_left
 ·obtain rfl:i=o.decls.length:=by omega
  have q1:=lF o.decls.length o.decls.length;rw [Tap];refine fN 12 (ai @q1 @tmz) ?_;refine gB ?_;refine fC @tmz (cC) ?_;refine fR @tmz ?_;exact fD @tmz
 obtain ⟨d,hdi⟩:∃ d,o.decls[i]?=some d:=⟨_,Taa hlt⟩;have hdm:=Tac hdi;have hdl2:=hlen d hdm;have hdo:=hD.all f hf d hdm;have q1:=lT i o.decls.length;have hw1:=Zau (k:=i) om;have hsnoc:o.decls.take (i+1)=o.decls.take i++[d]:=by simp [List.take_add_one,hdi]
 have rl:=ZaT (l:=sets);have rr:=ZaP (l:=sets);refine fG (ai @q1 @tmz) ?_;have F:=@tmz;refine gL (ι:=Nat × Bool) [9,10,20] [] (fun y=>[(10,A.d (.one (.lit (.int .i64 y.1)))),(9,A.d (.one (.lit (.bool y.2))))]) (fun y=>[]) (fun y=>y.1<=sets.length∧y.2=decide (FitN d sets y.1)) (fun y=>sets.length - y.1) ((0,true)) (⟨Taj _,(decide_eq_true FitN.zero).symm⟩) (fun y hy=>?_);clear F;obtain ⟨j,b1⟩:=y;obtain ⟨hj,hb1⟩:=hy
 simp only at hj hb1;dsimp only;by_cases hjl:j < sets.length
 ·obtain ⟨k,hk⟩:∃ k,d.args[j]?=some k:=⟨_,Taa om⟩;have hkr:=hdo.args k (Tac hk);obtain ⟨kn,rfl⟩:∃ kn:Nat,k=kn:=⟨k.toNat,om⟩;obtain ⟨s,hsj⟩:∃ s,sets[j]?=some s:=⟨_,Taa om⟩;have b62:=ZbS (hs s (Tac hsj)) hN;have q2:=lT j sets.length;have hwj:=Zau (k:=j) om;have r1:=ZaR hsj;have i1:(j < sets.length)=True:=eq_true om;have i3:(j < d.args.length)=True:=eq_true om;have hf1:=FitN.succ (n:=j) hk hsj;rw [show (kn:Int).toNat=kn from rfl] at hf1
  refine fN 9 (aj3 @q2 @rl @tmz) ?_;refine gM (ι:=Bool) [9] [] (fun b=>[(9,A.d (.one (.lit (.bool b))))]) (fun b=>[]) (fun b=>b=decide (FitN d sets (j+1))) ?_ (fun b hb=>Exists.intro _ (ai (Wk.refl _) ?_))
  ·cases b1 with
   | false =>
    have e:false=decide (FitN d sets (j+1)):=(decide_eq_false fun h=>by
     have:=hf1.1 h;rw [decide_eq_true this.1] at hb1
     cases hb1).symm
    have F:=@tmz;refine gG ?_;exact ⟨false,e,gw,gw⟩
   | true =>
    have hb1':=of_decide_eq_true hb1.symm;have e:tbit s kn=decide (FitN d sets (j+1)):=by
     cases ht:tbit s kn with
     | false=>exact (decide_eq_false fun h=>by
       have:=(hf1.1 h).2;rw [show s.testBit kn=false from ht] at this
       cases this).symm
     | true=>exact (decide_eq_true (hf1.2 ⟨hb1',ht⟩)).symm
    refine gB ?_;refine fC (aj11 @r1 @rl @rr @i1 @i3 @hdi @hk @ZaV @Zbb @Zap @tmz) (Zfe (a:=s) (k:=kn) b62 om) ?_;refine fR @tmz ?_;have F:=@tmz;refine gG ?_;exact ⟨tbit s kn,e,gw,gw⟩
  have F:=ai @hwj @tmz;refine gG ?_;exact ⟨(j+1,b),⟨hjl,hb⟩,gw,gw,om⟩
 ·obtain rfl:j=sets.length:=by omega
  have q2:=lF sets.length sets.length;have hPi:P d ↔ FitN d sets sets.length:=by rw [<- hPd,<- hdl2]
  have hr0:=hdo.res.1;have hr1:=hdo.res.2;obtain ⟨rn,hrn⟩:∃ rn:Nat,d.res=rn:=⟨d.res.toNat,om⟩;have cB:=Zgi (k:=rn) om;rw [<- hrn] at cB;have ho2:=ZdW (ZbS (Zcd (RsB P (o.decls.take i)) g.sorts.names.length) hN) (ZbS (v:=2 ^ rn) (N:=g.sorts.names.length) (Nat.pow_lt_pow_right om om) hN)
  cases b1 with
  | true =>
   have hp:P d:=hPi.2 (of_decide_eq_true hb1.symm);have e:=ZFz (N:=g.sorts.names.length) (ds:=o.decls.take i) hp om;rw [<- hsnoc,show d.res.toNat=rn by omega] at e;rw [<- e] at ho2;refine fN 11 (aj3 @q2 @rl @tmz) ?_;refine gB ?_;refine fC (aj3 @hdi @ZaV @tmz) (cB) ?_;refine fR (ai @ho2 @tmz) ?_;have F:=ai @hw1 @tmz;refine gG ?_;exact ⟨(i+1,ofB (RsB P (o.decls.take (i+1))) g.sorts.names.length),⟨hlt,rfl⟩,gw,gw,om⟩
  | false =>
   have hp:¬ P d:=fun h=>by rw [decide_eq_true (hPi.1 h)] at hb1;cases hb1
   have e:=ZF5 (N:=g.sorts.names.length) (ds:=o.decls.take i) hp;rw [<- hsnoc] at e;rw [<- e];have F:=aj4 @q2 @rl @hw1 @tmz;refine gG ?_;exact ⟨(i+1,ofB (RsB P (o.decls.take (i+1))) g.sorts.names.length),⟨hlt,rfl⟩,gw,gw,om⟩
theorem Zlz (hg:SgnOk g) {op:Int} {o:Opr} (h0:0<=op) (ho:g.ops[op.toNat]?=some o) (sets:List Nat) (hlen:∀ d∈o.decls,d.args.length=sets.length) (hsl:sets.length<=3) (hs:∀ s∈sets,s < 2 ^ g.sorts.names.length):Con e0 116 [.agg (ZaB g),.one (.lit (.int .i64 op)),.one (.sl (nR sets))] [.one (.lit (.int .i64 ((ofB (ZdG g o sets) g.sorts.names.length:Nat):Int)))]:=by
 have cU:=Zha hg.sorts.n8 hg.sorts.m16 (SortsOk.subsIn hg.sorts.subs);have cG:=ZiZ hg (Tac ho) sets hlen hsl hs;rw [Zbo] at cU;rw [ZaB];refine gI (ts:=[.slot 6]) 79 Tryz.func116 ?_;refine fN 1 @tmz ?_;refine gB ?_;refine fC @tmz (cU) ?_;refine fC (aj4 @h0 @ho @Zaj @tmz) (cG) ?_;refine fR @tmz ?_;exact fD @tmz
end
theorem Zrp {a b:Nat} (ha:a < 4611686018427387904) (hb:b < 4611686018427387904):bits .xor .i64 (a:Int) (b:Int)=((a ^^^ b:Nat):Int):=by
 have h:a ^^^ b < 2 ^ 62:=Nat.xor_lt_two_pow om om;have e:(BitVec.ofInt IntKind.i64.bits (a:Int) ^^^ BitVec.ofInt IntKind.i64.bits (b:Int)).toNat=a ^^^ b:=by
  rw [BitVec.toNat_xor];show (BitVec.ofInt 64 (a:Int)).toNat ^^^ (BitVec.ofInt 64 (b:Int)).toNat=_;rw [Zic om,Zic om]
 unfold bits;show IntKind.i64.wrap _=_;rw [e];exact ZlN om om
def Eith (R:Nat->Nat->Nat->Prop) (a c b:Nat):Prop:=R a c b∨R c a b
theorem ZB2 {R:Nat->Nat->Nat->Prop} {sets:List Nat} {m b:Nat}:BagB (Eith R) sets m b ↔ BagB R sets m b:=by
 constructor
 ·intro h
  induction h with
  | leaf h1 h2=>exact .leaf h1 h2
  | node h1 h2 h3 _ _ h6 i1 i2 =>
   rcases h6 with h6 | h6
   ·exact .node h1 h2 h3 i1 i2 h6
   ·rw [Nat.or_comm];exact .node h2 h1 (by rw [Nat.and_comm];exact h3) i2 i1 h6
 ·intro h
  induction h with
  | leaf h1 h2=>exact .leaf h1 h2
  | node h1 h2 h3 _ _ h6 i1 i2=>exact .node h1 h2 h3 i1 i2 (.inl h6)
theorem ZB3 {R:Nat->Nat->Nat->Prop} {s t b:Nat}:Two (Eith R) s t b ↔ Two R s t b∨Two R t s b:=by
 unfold Two Eith;constructor
 ·rintro ⟨a,c,h1,h2,h3 | h3⟩
  ·exact .inl ⟨a,c,h1,h2,h3⟩
  ·exact .inr ⟨c,a,h2,h1,h3⟩
 ·rintro (⟨a,c,h1,h2,h3⟩ | ⟨a,c,h1,h2,h3⟩)
  ·exact ⟨a,c,h1,h2,.inl h3⟩
  ·exact ⟨c,a,h2,h1,.inr h3⟩
noncomputable def bvN (g:Sgn) (R:Nat->Nat->Nat->Prop) (sets:List Nat) (m:Nat):Nat:=ofB (BagB R sets m) g.sorts.names.length
theorem ZB4 {g:Sgn} {R:Nat->Nat->Nat->Prop} {sets:List Nat} {m:Nat}:bvN g (Eith R) sets m=bvN g R sets m:=Za5 fun b _=>ZB2
def BagT (g:Sgn) (R:Nat->Nat->Nat->Prop) (sets:List Nat) (M:Nat) (T:List Nat):Prop:=T.length=2 ^ sets.length∧∀ m,1<=m->m < 2 ^ sets.length->(m < M->T[m]?=some (bvN g R sets m))∧(M<=m->T[m]?=some 0)
section
variable {g:Sgn} {R:Nat->Nat->Nat->Prop} {sets:List Nat}
theorem BagT.start:BagT g R sets 1 (List.replicate (2 ^ sets.length) 0):=⟨by simp,fun m h1 h2=>⟨fun h=>om,fun _=>by rw [Tbs,if_pos h2]⟩⟩
theorem BagT.next {M:Nat} {T:List Nat} (h:BagT g R sets M T) (hM:M < 2 ^ sets.length):BagT g R sets (M+1) (T.set M (bvN g R sets M)):=by
 refine ⟨by rw [Taz,h.1],fun m h1 h2=>?_⟩;by_cases e:m=M
 ·subst e;exact ⟨fun _=>Tbn (by rw [h.1];exact h2),fun q=>om⟩
 ·rw [Tbo (Ne.symm e)];exact ⟨fun q=>(h.2 m h1 h2).1 om,fun q=>(h.2 m h1 h2).2 om⟩
theorem BagT.zero {M:Nat} {T:List Nat} (h:BagT g R sets M T) (h1:1<=M) (hM:M < 2 ^ sets.length):T.set M 0=T:=by
 have h2:=(h.2 M h1 hM).2 (Tai _);refine List.ext_getElem? fun q=>?_;by_cases e:q=M
 ·subst e;rw [Tbn (by rw [h.1];exact hM),h2]
 ·rw [Tbo (Ne.symm e)]
theorem ZuS:∀ (q:Nat),(2 ^ q - 1) &&& 2 ^ q=0:=fun q=>by
 refine Nat.eq_of_testBit_eq fun i=>?_;rw [Nat.testBit_and,Nat.testBit_two_pow_sub_one,Nat.testBit_two_pow,Nat.zero_testBit];by_cases h:i < q
 ·simp [h];omega
 ·simp [h]
theorem ZuT {m:Nat} (hm:m≠0) (h:(m - 1) &&& m=0):∃ q,m=2 ^ q:=by
 refine ⟨Nat.log2 m,?_⟩;have h1:=Nat.log2_self_le hm;have h2:m < 2 ^ (Nat.log2 m+1):=(Nat.log2_lt hm).1 (Tan _);refine Classical.byContradiction fun hne=>?_;have h3:(m - 1).testBit (Nat.log2 m)=true:=by
  have:=Tbu (x:=m - 1) (i:=Nat.log2 m)
  cases ht:(m - 1).testBit (Nat.log2 m) with
  | true=>rfl
  | false =>
   have h4:m - 1 < 2 ^ Nat.log2 m:=Nat.lt_pow_two_of_testBit _ fun i hi=>by
    rcases Nat.lt_or_eq_of_le hi with hi | hi
    ·exact Tbu (Tbd (by omega:m - 1 < 2 ^ (Nat.log2 m+1)) (Tbt om hi))
    ·rw [<- hi];exact ht
   omega
 have h5:m.testBit (Nat.log2 m)=true:=by
  cases ht:m.testBit (Nat.log2 m) with
  | true=>rfl
  | false =>
   have h4:m < 2 ^ Nat.log2 m:=Nat.lt_pow_two_of_testBit _ fun i hi=>by
    rcases Nat.lt_or_eq_of_le hi with hi | hi
    ·exact Tbu (Tbd h2 (Tbt om hi))
    ·rw [<- hi];exact ht
   omega
 have h6:=Nat.testBit_and (m - 1) m (Nat.log2 m);rw [h,h3,h5] at h6;simp at h6
end
section
variable {w:World} {S:Nat->Prop} {a:Option Addr} {n cap:Nat} {rows:List (List C)}
def Zfu (a:Option Addr) (n cap:Nat) (rows:List (List C)) (R:List (List C)):List (List C):=R.map fun r=>r.map (datC a n cap rows)
theorem Zkb {R:List (List C)}:(Zfu a n cap rows R).length=R.length:=by simp [Zfu]
theorem Zv7 {c:C} (h:Zas c=true):Zas (datC a n cap rows c)=true:=by
 unfold datC;split
 ·split
  ·rfl
  ·exact h
 ·exact h
theorem ZB6 {sz:Nat} {R:List (List C)} (h:rowsLen sz R):rowsLen sz (Zfu a n cap rows R):=fun r hr=>by
 obtain ⟨r',hr',rfl⟩:=Tbi.1 hr;obtain ⟨h1,h2⟩:=h r' hr';refine ⟨by rw [Tay];exact h1,?_⟩;rw [List.all_map,List.all_eq_true];exact fun c hc=>Zv7 (List.all_eq_true.1 h2 c hc)
theorem Zo5 (hr:Rep w S (.sl rows) (.slice a n cap)) {b:Nat}:∀ {R:List (List C)} {off:Nat},Zaq w S b off R->Zaq w S b off (Zfu a n cap rows R)
 | [],_,h=>h
 | r::R,off,h=>by
  simp only [Zfu,Tbv,Zaq,Tay] at h ⊢;exact ⟨ZlL hr h.1,Zo5 hr h.2⟩
theorem ZB7 (hr:Rep w S (.sl rows) (.slice a n cap)) {ety sz:Nat} {R:List (List C)} {v:Value} (h:ZaO w S ety sz R v):ZaO w S ety sz (Zfu a n cap rows R) v:=by
 obtain ⟨h1,h2,h3⟩:=h;refine ⟨h1,ZB6 h2,?_⟩;rcases h3 with ⟨h4,h5⟩ | ⟨g,cap',cur,h4,h5⟩
 ·exact .inl ⟨by rw [h4];rfl,h5⟩
 ·refine .inr ⟨g,cap',cur,by rw [Zkb];exact h4,?_⟩;obtain ⟨q1,q2,q3,q4,q5,q6,q7,q8⟩:=h5;exact ⟨q1,q2,q3,q4,by rw [Zkb];exact q5,q6,q7,Zo5 hr q8⟩
end
section
variable {e:Env} {σ:St} {mask:Nat} {Q:PX->St->Prop}
theorem Zz3 (k kb:Nat) (hne:kb≠k) {a:Option Addr} {cap ety sz ety' sz':Nat} {rows R:List (List C)} {o':Option (Option Addr × Nat)} (hm:gm σ.m k=some (.buf (some (a,cap)) ety sz rows)) (hb:gm σ.m kb=some (.buf o' ety' sz' R)) :
  Turn e σ (fun σ'=>σ'=⟨frzS k (.buf (some (a,cap)) ety sz rows) σ.s,(kb,.buf o' ety' sz' (Zfu a rows.length cap rows R))::remM kb (remM k σ.m)⟩):=by
 intro he U w0 S0 nt ac w ⟨S,L,h⟩;have ho:=h.cls.own k _ hm;have hv:L.v k=.slice a rows.length cap:=ho.1 (a,cap) rfl;have hrep:=ZaO.rep ho.2;rw [hv] at hrep;obtain ⟨S',L',h',hS'⟩:=h.freeze2 he hm;have hr:Rep w S' (.sl rows) (.slice a rows.length cap):=hrep.mono fun b hb=>(hS' b).2 (hb.imp id (fun q=>by show vblk (L.v k)=some b;rw [hv];exact q));have hb':gm (remM k σ.m) kb=some (.buf o' ety' sz' R):=by rw [ZaG,if_neg hne];exact hb
 have hob:=h'.cls.own kb _ hb';exact ⟨_,rfl,S',L',h'.cls.swap hb' (bk':=.buf o' ety' sz' (Zfu a rows.length cap rows R)) ⟨fun p hp=>by rw [Zkb];exact hob.1 p hp,ZB7 hr hob.2⟩ (fun g hg=>hg),h'.rel,h'.size,h'.defers,h'.kept⟩
theorem pDb {c:Code} {s s2:List (Nat × A)} {m m2:List (Nat × Bk)} {a:Option Addr} {cap ety sz ety' sz':Nat} {rows R:List (List C)} {o':Option (Option Addr × Nat)} (k kb:Nat) (hne:kb≠k) (hK:pwp e mask c ⟨s2,(kb,.buf o' ety' sz' (Zfu a rows.length cap rows R))::m2⟩ Q)
  (hm:gm m k=some (.buf (some (a,cap)) ety sz rows):=by exact snv) (hb:gm m kb=some (.buf o' ety' sz' R):=by exact snv) (hs:frzS k (.buf (some (a,cap)) ety sz rows) s=s2:=by exact snv) (hr:remM kb (remM k m)=m2:=by exact snv):pwp e mask c ⟨s,m⟩ Q :=
 Zcp (Zz3 k kb hne hm hb) fun σ' hσ=>by subst hσ;simp only [hs,hr];exact hK
end
section
variable {g:Sgn} {mc:C}
noncomputable def cvN (g:Sgn) (o:Opr) (sets:List Nat) (i j:Nat):Nat:=ofB (ChB (Rel2 g o) sets i j) g.sorts.names.length
noncomputable def chL (g:Sgn) (o:Opr) (sets:List Nat) (r:Nat):List Nat:=(List.range sets.length).map fun k=>if k < r then 0 else cvN g o sets r (k+1)
theorem ZkW {o:Opr} {sets:List Nat} {r:Nat}:(chL g o sets r).length=sets.length:=by simp [chL]
theorem ZuV {o:Opr} {sets:List Nat} {r k:Nat} (h1:r<=k) (h2:k < sets.length):(chL g o sets r)[k]?=some (cvN g o sets r (k+1)):=by
 unfold chL;rw [Tba,List.getElem?_range h2,Option.map_some,if_neg om]
def FilB (g:Sgn) (o:Opr) (sets:List Nat) (p k:Nat) (L:List Nat):Prop:=L.length=sets.length∧∀ j,j < sets.length->L[j]?=some (if j < p then 0 else if j < k then cvN g o sets p (j+1) else 0)
theorem FilB.all {o:Opr} {sets:List Nat} {p:Nat} {L:List Nat} (h:FilB g o sets p sets.length L):L=chL g o sets p:=by
 refine List.ext_getElem? fun j=>?_;by_cases hj:j < sets.length
 ·rw [h.2 j hj];unfold chL;rw [Tba,List.getElem?_range hj,Option.map_some];by_cases h1:j < p
  ·rw [if_pos h1,if_pos h1]
  ·rw [if_neg h1,if_neg h1,if_pos hj]
 ·rw [List.getElem?_eq_none (by rw [h.1];omega),List.getElem?_eq_none (by rw [ZkW];omega)]
theorem FilB.next {o:Opr} {sets:List Nat} {p k:Nat} {L:List Nat} (h:FilB g o sets p k L) (hp:p<=k) (hk:k < sets.length):FilB g o sets p (k+1) (L.set k (cvN g o sets p (k+1))):=by
 refine ⟨by rw [Taz,h.1],fun j hj=>?_⟩;by_cases e:j=k
 ·subst e;rw [Tbn (by rw [h.1];exact hj),if_neg om,if_pos om]
 ·rw [Tbo (Ne.symm e),h.2 j hj];by_cases h1:j < p
  ·rw [if_pos h1,if_pos h1]
  ·rw [if_neg h1,if_neg h1];by_cases h2:j < k
   ·rw [if_pos h2,if_pos om]
   ·rw [if_neg h2,if_neg om]
theorem FilB.zero {o:Opr} {sets:List Nat} {p k:Nat} {L:List Nat} (h:FilB g o sets p k L) (hp:p<=k) (hk:k < sets.length):L.set k 0=L:=by
 have h1:=h.2 k hk;rw [if_neg om,if_neg om] at h1;refine List.ext_getElem? fun j=>?_;by_cases e:j=k
 ·subst e;rw [Tbn (by rw [h.1];exact hk),h1]
 ·rw [Tbo (Ne.symm e)]
theorem FilB.start {o:Opr} {sets:List Nat} {p s:Nat} (hs:sets[p]?=some s) (h:s < 2 ^ g.sorts.names.length):FilB g o sets p (p+1) ((List.replicate sets.length 0).set p s):=by
 have hp:=(Tad.1 hs).1;refine ⟨by simp,fun j hj=>?_⟩;by_cases e:j=p
 ·subst e;rw [Tbn (by simpa using hj),if_neg om,if_pos om];unfold cvN;rw [ZzK hs h]
 ·rw [Tbo (Ne.symm e),Tbs,if_pos hj];by_cases h1:j < p
  ·rw [if_pos h1]
  ·rw [if_neg h1,if_neg om]
theorem ZEO (hg:SgnOk g) {i:Nat} {o:Opr} (ho:g.ops[i]?=some o) (ha:o.assoc=true) (hc:o.comm=false) {s t N:Nat}:ofB (AnyB g o [s,t]) N=ofB (fun b=>Two (Rel2 g o) s t b) N:=by
 refine Za5 fun b _=>?_;unfold AnyB;rw [Zfa (Opr.deg2 hg ho (.inl ha)),hc];simp
def dRow (d:List Nat):List C:=[.sl (nR d)]
theorem Zz4:∀ d,dRow d=[.sl (nR d)]:=fun _=>rfl
theorem ZFB (n:Nat):(List.replicate n ([]:List Nat)).map dRow=List.replicate n [C.sl []]:=by
 rw [List.map_replicate];rfl
theorem Zz5 (Ds:List (List Nat)):ZaC 1 (Ds.map dRow)=true:=Zdh (e:=dRow) (n:=1) (fun _=>rfl) Ds
theorem ZB8 {a:Option Addr} {n cap:Nat} {L:List Nat} {Ds:List (List Nat)} {p:Nat}:Zfu a n cap (nR L) ((Ds.map dRow).set p [.lit (.slice a n cap)])=(Ds.set p L).map dRow:=by
 have h1:∀ d,(dRow d).map (datC a n cap (nR L))=dRow d:=fun d=>rfl;have h2:[C.lit (.slice a n cap)].map (datC a n cap (nR L))=dRow L:=by simp [datC,dRow]
 unfold Zfu;rw [List.map_set,h2,List.map_set,List.map_map];congr 1
theorem ZF6 {a:Option Addr} {n cap:Nat} {Ds:List (List Nat)} {p:Nat} (hok:Zas (.lit (.slice a n cap))=true):ZaC 1 ((Ds.map dRow).set p [.lit (.slice a n cap)])=true:=by
 have h:=Zz5 Ds;unfold ZaC at h ⊢;rw [List.all_eq_true] at h ⊢;intro r hr;rcases List.mem_or_eq_of_mem_set hr with h1 | h1
 ·exact h r h1
 ·subst h1;simp [hok]
theorem Zn7 (hg:SgnOk g) {op:Int} {o:Opr} (h0:0<=op) (ho:g.ops[op.toNat]?=some o) (ha:o.assoc=true) (hc:o.comm=false) (sets:List Nat) (hn1:1<=sets.length) (hn7:sets.length<=7) (hs:∀ s∈sets,s < 2 ^ g.sorts.names.length):Con e0 139 [.one (.ptr (encX g mc)),.one (.lit (.int .i64 op)),.one (.sl (nR sets))] [.one (.lit (.int .i64 ((cvN g o sets 0 sets.length:Nat):Int)))]:=by
 have hN:=hg.sorts.n8;have rl:=ZaT (l:=sets);have rr:=ZaP (l:=sets);have hmx:((sets.length:Int)<=(maxApp:Int))=True:=eq_true (by unfold maxApp;omega);have hdeg:=Opr.deg2 hg ho (.inl ha);have hcv:∀ i j,cvN g o sets i j < 2 ^ g.sorts.names.length:=fun i j=>Zcd _ _;have hRlt:=fun a c b (h:Rel2 g o a c b)=>Rel2.lt hg (Tac ho) h;have w0:IntKind.i64.wrap ((sets.length:Int) - 1)=(sets.length:Int) - 1:=IntWalk.i64_in _ om
 refine gI (ts:=[.slot 6]) 142936512139207 Tryz.func139 ?_;refine fG (aj5 @rl @hmx @Tby @w0 @tmz) ?_;have hR0:=ZFB sets.length;have F:=ai @hR0 @tmz;refine gL (ι:=Nat × List (List Nat)) [8,9,10,11,19,41,47] [8] (fun x=>[(9,.d (.one (.lit (.int .i64 ((x.1:Int) - 1))))),(8,.buf 8)]) (fun x=>[(8,.buf none 71 1 (x.2.map dRow))]) (fun x=>x.1<=sets.length∧x.2.length=sets.length∧∀ r,x.1<=r->r < sets.length->x.2[r]?=some (chL g o sets r)) (fun x=>x.1) ((sets.length,List.replicate sets.length [])) (⟨Tai _,by simp,fun r h1 h2=>absurd h1 om⟩) (fun x hx=>?_);clear F
 obtain ⟨x,Ds⟩:=x;obtain ⟨hx,hDl,hD⟩:=hx;simp only at hx hDl hD;dsimp only;have hDB:=Zz5 Ds;have hRl:(Ds.map dRow).length=sets.length:=by rw [Tay,hDl]
 cases x with
 | zero =>
  have q1:((0:Int)<=((0:Nat):Int) - 1)=False:=eq_false om;have r0:=hD 0 (Tai _) om;have cg:=ZaR (ZuV (g:=g) (o:=o) (sets:=sets) (r:=0) (k:=sets.length - 1) om om);rw [show sets.length - 1+1=sets.length by omega] at cg;have w1:IntKind.i64.wrap ((sets.length:Int) - 1)=((sets.length - 1:Nat):Int):=ZaM om om om;have cl:=ZaT (l:=chL g o sets 0);have cr:=ZaP (l:=chL g o sets 0);rw [ZkW] at cl;have i1:(0 < sets.length)=True:=eq_true om
  have i2:(sets.length - 1 < sets.length)=True:=eq_true om;exact fD (aj13 @q1 @r0 @hDl @hDB @Zz4 @cg @cl @cr @i1 @i2 @w1 @Zap @tmz)
 | succ p =>
 have hp:p < sets.length:=om;have q1:((0:Int)<=((p+1:Nat):Int) - 1)=True:=eq_true om;have hpc:((p+1:Nat):Int) - 1=(p:Int):=om;rw [hpc] at q1 ⊢;obtain ⟨s,hsp⟩:∃ s,sets[p]?=some s:=⟨_,Taa hp⟩;have r1:=ZaR hsp;have hw1:=Zau (k:=p) om;have hwm:IntKind.i64.wrap ((p:Int) - 1)=(p:Int) - 1:=IntWalk.i64_in _ om;have i1:(p < sets.length)=True:=eq_true hp;have hFs:=FilB.start (g:=g) (o:=o) hsp (hs s (Tac hsp))
 have nl0:(nR (List.replicate sets.length 0)).length=sets.length:=by rw [ZaT,Tbr]
 have nr0:=ZaP (l:=List.replicate sets.length 0);have ns0:=ZcR (l:=List.replicate sets.length 0) p s;obtain ⟨z0,hz0⟩:∃ z,(List.replicate sets.length 0)[p]?=some z:=⟨_,Taa (by simpa using hp)⟩;have ng0:=ZaR hz0;refine fN 6 (ai @q1 @tmz) ?_;refine gB ?_;have F:=aj4 @hmx @Tby @nR_0 @tmz;refine gP 4 ?_;clear F;generalize List.replicate sets.length 0=L0 at nl0 nr0 ns0 ng0 hFs ⊢;refine gS 25 fun a cap=>?_
 rw [nl0];have hB8:=ZF6 (a:=a) (n:=sets.length) (cap:=cap) (Ds:=Ds) (p:=p) rfl;have hl8:((Ds.map dRow).set p [.lit (.slice a sets.length cap)]).length=sets.length:=by rw [Taz,hRl]
 have hg8:((Ds.map dRow).set p [.lit (.slice a sets.length cap)])[p]?=some [.lit (.slice a sets.length cap)]:=Tbn (by rw [hRl];exact hp);have hr8:∀ r,p+1<=r->r < sets.length->((Ds.map dRow).set p [.lit (.slice a sets.length cap)])[r]?=some [.sl (nR (chL g o sets r))]:=fun r h1 h2=>by
  rw [Tbo om,Tba,hD r h1 h2];rfl
 have hd8:=fun L=>ZB8 (a:=a) (n:=sets.length) (cap:=cap) (L:=L) (Ds:=Ds) (p:=p);obtain ⟨z,hz⟩:∃ z,Ds[p]?=some z:=⟨_,Taa om⟩;refine fR (aj7 @hDl @hDB @hz @Zz4 @i1 @Zap @tmz) ?_;generalize (Ds.map dRow).set p [.lit (.slice a sets.length cap)]=R8 at hB8 hl8 hg8 hr8 hd8 ⊢;refine fN 9 (aj14 @hB8 @hl8 @hg8 @nl0 @nr0 @ns0 @ng0 @r1 @rl @rr @i1 @hw1 @Zap @tmz) ?_;generalize L0.set p s=L1 at hFs ⊢;clear nl0 nr0 ns0 ng0 hz0 hz
 have F:=@tmz;refine gL (ι:=Nat × List Nat) [10,11,41,47] [25] (fun y=>[(10,A.d (.one (.lit (.int .i64 y.1))))]) (fun y=>[(25,.buf (some (a,cap)) 3 1 (nR y.2))]) (fun y=>p+1<=y.1∧y.1<=sets.length∧FilB g o sets p y.1 y.2) (fun y=>sets.length - y.1) ((p+1,L1)) (⟨Tai _,hp,hFs⟩) (fun y hy=>?_);clear F;clear hFs L1;obtain ⟨k,L⟩:=y;obtain ⟨hk1,hk2,hF⟩:=hy;simp only at hk1 hk2 hF;dsimp only;by_cases hkl:k < sets.length
 rotate_left
 ·obtain rfl:k=sets.length:=by omega
  have hL:=hF.all;subst hL;have q2:=lF sets.length sets.length;have cl:=ZaT (l:=chL g o sets p);rw [ZkW] at cl;have hd:=hd8 (chL g o sets p);refine fN 5 (ai @q2 @tmz) ?_;refine pDb 25 8 (by decide) ?_;rw [cl,hd];have hfin:p<=sets.length∧(Ds.set p (chL g o sets p)).length=sets.length∧∀ r,p<=r->r < sets.length->(Ds.set p (chL g o sets p))[r]?=some (chL g o sets r):=⟨om,by rw [Taz,hDl],fun r h1 h2=>by
   by_cases e:r=p
   ·subst e;exact Tbn om
   ·rw [Tbo om];exact hD r om h2⟩
  have F:=ai @hwm @tmz;refine gG ?_;exact ⟨(p,Ds.set p (chL g o sets p)),hfin,gw,gw,om⟩
 have q2:=lT k sets.length;have hwk:=Zau (k:=k) om;have hz:=hF.zero om hkl;have hzz:nR (L.set k 0)=nR L:=by rw [hz]
 refine fG (ai @q2 @tmz) ?_;have F:=ai @hzz @tmz;refine gL (ι:=Nat × Nat) [11,47] [25] (fun z=>[(11,A.d (.one (.lit (.int .i64 z.1))))]) (fun z=>[(25,.buf (some (a,cap)) 3 1 (nR (L.set k z.2)))]) (fun z=>p<=z.1∧z.1<=k∧z.2=ofB (CutB (Rel2 g o) sets g.sorts.names.length p (k+1) (z.1+1)) g.sorts.names.length) (fun z=>k - z.1) ((p,0)) (⟨Tai _,om,ZoV.symm⟩) (fun z hz=>?_);clear F;obtain ⟨m,v⟩:=z;obtain ⟨hm1,hm2,hv⟩:=hz
 simp only at hm1 hm2 hv;subst hv;dsimp only;by_cases hmk:m < k;rotate_left
 ·obtain rfl:m=k:=by omega
  have q3:=lF m m;have e:ofB (CutB (Rel2 g o) sets g.sorts.names.length p (m+1) (m+1)) g.sorts.names.length=cvN g o sets p (m+1):=ZuL hs hRlt om;rw [e];have F:=aj3 @q3 @hwk @tmz;refine gG ?_;exact ⟨(m+1,L.set m (cvN g o sets p (m+1))),⟨om,hkl,hF.next om hkl⟩,gw,gw,om⟩
 have q3:=lT m k;have hwm1:=Zau (k:=m) om;have hLm:=hF.2 m om;rw [if_neg om,if_pos hmk] at hLm;have e:=fun b=>Zrb (R:=Rel2 g o) (sets:=sets) (N:=g.sorts.names.length) (i:=p) (j:=k+1) (k:=m+1) (b:=b) om om;have e:ofB (CutB (Rel2 g o) sets g.sorts.names.length p (k+1) (m+1)) g.sorts.names.length ||| ofB (fun b=>Two (Rel2 g o) (cvN g o sets p (m+1)) (cvN g o sets (m+1) (k+1)) b) g.sorts.names.length=ofB (CutB (Rel2 g o) sets g.sorts.names.length p (k+1) (m+1+1)) g.sorts.names.length:=by
  rw [Zgl];exact Za5 fun b _=>(e b).symm
 have cR:=ZhZ (mc:=mc) hg h0 ho [cvN g o sets p (m+1),cvN g o sets (m+1) (k+1)] (fun d hd=>hdeg d hd) (by simp) (fun s hs=>by
  simp only [Tbg,List.not_mem_nil,or_false] at hs;rcases hs with rfl | rfl <;> exact hcv _ _)
 rw [ZEO hg ho ha hc] at cR;have cR:=Zgn cR;have hor:=ZdW (ZbS (Zcd (CutB (Rel2 g o) sets g.sorts.names.length p (k+1) (m+1)) g.sorts.names.length) hN) (ZbS (Zcd (fun b=>Two (Rel2 g o) (cvN g o sets p (m+1)) (cvN g o sets (m+1) (k+1)) b) g.sorts.names.length) hN);rw [e] at hor;have hv62:=ZbS (Zcd (CutB (Rel2 g o) sets g.sorts.names.length p (k+1) (m+1)) g.sorts.names.length) hN;clear e;generalize ofB (fun b=>Two (Rel2 g o) (cvN g o sets p (m+1)) (cvN g o sets (m+1) (k+1)) b) g.sorts.names.length=tw at cR hor
 generalize ofB (CutB (Rel2 g o) sets g.sorts.names.length p (k+1) (m+1)) g.sorts.names.length=v at hor ⊢;have nl:=ZaT (l:=L.set k v);rw [Taz,hF.1] at nl;have nr:=ZaP (l:=L.set k v);have g1:(nR (L.set k v))[k]?=some [.lit (.int .i64 v)]:=ZaR (Tbn (by rw [hF.1];exact hkl));have g2:(nR (L.set k v))[m]?=some [.lit (.int .i64 (cvN g o sets p (m+1)))]:=ZaR (by rw [Tbo om];exact hLm);have g3:=hr8 (m+1) om om
 have g4:=ZaR (ZuV (g:=g) (o:=o) (sets:=sets) (r:=m+1) (k:=k) om hkl);have cl:=ZaT (l:=chL g o sets (m+1));rw [ZkW] at cl;have cr:=ZaP (l:=chL g o sets (m+1));have ns:=fun x=>ZcR (l:=L.set k v) k x;simp only [List.set_set] at ns;have i2:(k < sets.length)=True:=eq_true hkl;have i3:(m < sets.length)=True:=eq_true om;have i4:(m+1 < sets.length)=True:=eq_true om;refine fN 14 (ai @q3 @tmz) ?_;refine gB ?_
 refine fC (aj16 @hB8 @hl8 @hg8 @nl @nr @g1 @g2 @g3 @g4 @cl @cr @i1 @i2 @i3 @i4 (aj3 @hwm1 @Zap @tmz)) (cR) ?_;refine fR (aj8 @nl @nr @g1 @hor @ns @i2 @Zap @tmz) ?_;have F:=ai @hwm1 @tmz;refine gG ?_;exact ⟨(m+1,ofB (CutB (Rel2 g o) sets g.sorts.names.length p (k+1) (m+1+1)) g.sorts.names.length),⟨om,hmk,rfl⟩,gw,gw,om⟩
end
theorem ZuW {n i j i' j':Nat} (hj:j < n) (hj':j' < n) (h:i * n+j=i' * n+j'):i=i'∧j=j':=by
 have h1:(i * n+j) / n=i:=by rw [Nat.mul_comm,Nat.mul_add_div om,Nat.div_eq_of_lt hj,Nat.add_zero]
 have h2:(i' * n+j') / n=i':=by rw [Nat.mul_comm,Nat.mul_add_div om,Nat.div_eq_of_lt hj',Nat.add_zero]
 rw [h] at h1;have e:i=i':=by rw [<- h1,h2]
 subst e;exact ⟨rfl,om⟩
theorem Zfv {n i j:Nat} (hi:i < n) (hj:j < n):i * n+j < n * n:=by
 have:(i+1) * n<=n * n:=Nat.mul_le_mul_right n hi;rw [Nat.succ_mul] at this;omega
section
variable {g:Sgn}
def TabB (g:Sgn) (o:Opr) (sets:List Nat) (P:Nat->Nat->Prop) (T:List Nat):Prop:=T.length=sets.length * sets.length∧∀ i j,i<=j->j < sets.length->(P i j->T[i * sets.length+j]?=some (cvN g o sets i (j+1)))∧(¬ P i j->T[i * sets.length+j]?=some 0)
theorem TabB.start {o:Opr} {sets:List Nat} {P:Nat->Nat->Prop} (h:∀ i j,i<=j->¬ P i j):TabB g o sets P (List.replicate (sets.length * sets.length) 0):=⟨by simp,fun i j h1 h2=>⟨fun hp=>absurd hp (h i j h1),fun _=>by
 rw [Tbs,if_pos (Zfv om h2)]⟩⟩
theorem TabB.next {o:Opr} {sets:List Nat} {P P':Nat->Nat->Prop} {T:List Nat} (h:TabB g o sets P T) {i j:Nat} (hij:i<=j) (hj:j < sets.length) (h1:∀ i' j',i'<=j'->j' < sets.length->(P' i' j' ↔ P i' j'∨(i'=i∧j'=j))):TabB g o sets P' (T.set (i * sets.length+j) (cvN g o sets i (j+1))):=by
 refine ⟨by rw [Taz,h.1],fun i' j' q1 q2=>?_⟩;have hl:=Zfv (n:=sets.length) (i:=i) (j:=j) om hj;by_cases e:i'=i∧j'=j
 ·obtain ⟨rfl,rfl⟩:=e;exact ⟨fun _=>Tbn (by rw [h.1];exact hl),fun hn=>absurd ((h1 _ _ q1 q2).2 (.inr ⟨rfl,rfl⟩)) hn⟩
 ·have hne:i * sets.length+j≠i' * sets.length+j':=fun q=>e (by have:=ZuW hj q2 q;exact ⟨this.1.symm,this.2.symm⟩);rw [Tbo hne];have h2:=h.2 i' j' q1 q2;exact ⟨fun hp=>h2.1 (((h1 _ _ q1 q2).1 hp).resolve_right e),fun hn=>h2.2 fun hp=>hn ((h1 _ _ q1 q2).2 (.inl hp))⟩
theorem TabB.mono {o:Opr} {sets:List Nat} {P P':Nat->Nat->Prop} {T:List Nat} (h:TabB g o sets P T) (h1:∀ i j,i<=j->j < sets.length->(P' i j ↔ P i j)):TabB g o sets P' T:=⟨h.1,fun i j q1 q2=>by
 have h2:=h.2 i j q1 q2;rw [h1 i j q1 q2];exact h2⟩
theorem TabB.zero {o:Opr} {sets:List Nat} {P:Nat->Nat->Prop} {T:List Nat} (h:TabB g o sets P T) {i j:Nat} (hij:i<=j) (hj:j < sets.length) (hn:¬ P i j):T.set (i * sets.length+j) 0=T:=by
 have h1:=(h.2 i j hij hj).2 hn;have hl:=Zfv (n:=sets.length) (i:=i) (j:=j) om hj;refine List.ext_getElem? fun q=>?_;by_cases e:q=i * sets.length+j
 ·subst e;rw [Tbn (by rw [h.1];exact hl),h1]
 ·rw [Tbo (Ne.symm e)]
def szP (size i0:Nat) (i j:Nat):Prop:=j+1 < i+size∨(j+1=i+size∧i < i0)
theorem wmul {i n:Nat} (hi:i<=10) (hn:n<=10):IntKind.i64.wrap ((i:Int) * (n:Int))=((i * n:Nat):Int):=by
 have:i * n<=10 * 10:=Nat.mul_le_mul hi hn;exact ZaM (by simp) om om
theorem wadd {i n:Nat} (hi:i<=1000) (hn:n<=1000):IntKind.i64.wrap ((i:Int)+(n:Int))=((i+n:Nat):Int):=ZaM (by simp) om om
theorem ZsQ (hg:SgnOk g) {op:Int} {o:Opr} (h0:0<=op) (ho:g.ops[op.toNat]?=some o) (ha:o.assoc=true) (sets:List Nat) (hn1:1<=sets.length) (hn7:sets.length<=7) (hs:∀ s∈sets,s < 2 ^ g.sorts.names.length):Con e0 115 [.agg (ZaB g),.one (.lit (.int .i64 op)),.one (.sl (nR sets))] [.one (.lit (.int .i64 ((cvN g o sets 0 sets.length:Nat):Int)))]:=by
 have hN:=hg.sorts.n8;have rl:=ZaT (l:=sets);have rr:=ZaP (l:=sets);have hnn:sets.length * sets.length<=7 * 7:=Nat.mul_le_mul hn7 hn7;have hmx:(((sets.length * sets.length:Nat):Int)<=(maxApp:Int))=True:=eq_true (by unfold maxApp;omega);have hdeg:=Opr.deg2 hg ho (.inl ha);have hcv:∀ i j,cvN g o sets i j < 2 ^ g.sorts.names.length:=fun i j=>Zcd _ _;have hRlt:=fun a c b (h:Rel2 g o a c b)=>Rel2.lt hg (Tac ho) h
 have wnn:=wmul (i:=sets.length) (n:=sets.length) om om;have cU:=Zha hg.sorts.n8 hg.sorts.m16 (SortsOk.subsIn hg.sorts.subs);have hT0:=TabB.start (g:=g) (o:=o) (sets:=sets) (P:=szP 1 0) fun i j h q=>by unfold szP at q;omega
 rw [Zbo] at cU;rw [ZaB];refine gI (ts:=[.slot 6]) 36028870066978767 Tryz.func115 ?_;refine fN 2 (ai @rl @tmz) ?_;refine gB ?_;refine fC @tmz (cU) ?_;refine fR @tmz ?_;refine fG (aj6 @rl @wnn @hmx @Tby @nR_0 @tmz) ?_;generalize List.replicate (sets.length * sets.length) 0=T0 at hT0 ⊢;have F:=@tmz;refine gL (ι:=Nat × List Nat) [9,10,11,12,13,25,32,36,55] [9] (fun x=>[(10,A.d (.one (.lit (.int .i64 x.1)))),(9,.buf 9)]) (fun x=>[(9,.buf none 3 1 (nR x.2))]) (fun x=>1<=x.1∧x.1<=sets.length+1∧TabB g o sets (szP x.1 0) x.2) (fun x=>sets.length+1 - x.1) ((1,T0)) (⟨Tai _,om,hT0⟩) (fun x hx=>?_);clear F
 clear hT0 T0;obtain ⟨size,T⟩:=x;obtain ⟨hz1,hz2,hT⟩:=hx;simp only at hz1 hz2 hT;dsimp only;have nl:=ZaT (l:=T);rw [hT.1] at nl;have nr:=ZaP (l:=T);by_cases hzl:size<=sets.length;rotate_left
 ·obtain rfl:size=sets.length+1:=by omega
  have q1:(((sets.length+1:Nat):Int)<=(sets.length:Int))=False:=eq_false om;have hg1:=((hT.2 0 (sets.length - 1) om om).1 (.inl om));rw [show 0 * sets.length+(sets.length - 1)=sets.length - 1 by omega,show sets.length - 1+1=sets.length by omega] at hg1;have hg2:=ZaR hg1;have w1:IntKind.i64.wrap ((sets.length:Int) - 1)=((sets.length - 1:Nat):Int):=ZaM om om om;have hle:sets.length * 1<=sets.length * sets.length:=Nat.mul_le_mul_left _ hn1
  have i1:(sets.length - 1 < sets.length * sets.length)=True:=eq_true om;exact fD (aj8 @q1 @nl @nr @hg2 @w1 @i1 @Zap @tmz)
 have q1:((size:Int)<=(sets.length:Int))=True:=eq_true om;have hws:=Zau (k:=size) om;clear nl nr;refine fG (ai @q1 @tmz) ?_;have F:=@tmz;refine gL (ι:=Nat × List Nat) [9,11,12,13,32,36,55] [9] (fun y=>[(11,A.d (.one (.lit (.int .i64 y.1)))),(9,.buf 9)]) (fun y=>[(9,.buf none 3 1 (nR y.2))]) (fun y=>y.1+size<=sets.length+1∧TabB g o sets (szP size y.1) y.2) (fun y=>sets.length+1 - y.1) ((0,T)) (⟨om,hT⟩) (fun y hy=>?_);clear F
 clear hT T;obtain ⟨i,T⟩:=y;obtain ⟨hi,hT⟩:=hy;simp only at hi hT;dsimp only;have nl:=ZaT (l:=T);rw [hT.1] at nl;have nr:=ZaP (l:=T);have wis:=wadd (i:=i) (n:=size) om om;by_cases hil:i+size<=sets.length;rotate_left
 ·have q2:(((i+size:Nat):Int)<=(sets.length:Int))=False:=eq_false om;have hT2:TabB g o sets (szP (size+1) 0) T:=hT.mono fun i' j' h1 h2=>by
   unfold szP;omega
  have F:=aj4 @q2 @wis @hws @tmz;refine gG ?_;exact ⟨(size+1,T),⟨om,om,hT2⟩,gw,gw,om⟩
 have q2:(((i+size:Nat):Int)<=(sets.length:Int))=True:=eq_true om;have hwi:=Zau (k:=i) om;have wii:=wmul (i:=i) (n:=sets.length) om om;have hlt:=Zfv (n:=sets.length) (i:=i) (j:=i+size - 1) om om;by_cases hs1:size=1
 ·subst hs1;have q3:(((1:Nat):Int)=1)=True:=eq_true rfl;obtain ⟨s,hsi⟩:∃ s,sets[i]?=some s:=⟨_,Taa om⟩;have r1:=ZaR hsi;have e:cvN g o sets i (i+1)=s:=by unfold cvN;exact ZzK hsi (hs s (Tac hsi))
  have hT2:TabB g o sets (szP 1 (i+1)) (T.set (i * sets.length+i) (cvN g o sets i (i+1))):=hT.next (Tai _) om fun i' j' h1 h2=>by
   unfold szP;omega
  rw [e] at hT2;have wa:=wadd (i:=i * sets.length) (n:=i) om om;have ns:=ZcR (l:=T) (i * sets.length+i) s;obtain ⟨z,hz⟩:∃ z,T[i * sets.length+i]?=some z:=⟨_,Taa (by rw [hT.1];exact Zfv om om)⟩;have ng:=ZaR hz;have i1:(i < sets.length)=True:=eq_true om;have i2:(i * sets.length+i < sets.length * sets.length)=True:=eq_true (Zfv om om);have F:=aj15 @q2 @wis @q3 @wii @wa @r1 @rl @rr @nl @nr @ns @ng @i1 @i2 (aj3 @hwi @Zap @tmz);refine gG ?_;exact ⟨(i+1,T.set (i * sets.length+i) s),⟨om,hT2⟩,gw,gw,om⟩
 have q3:((size:Int)=1)=False:=eq_false om;obtain ⟨j,hj⟩:∃ j,j+1=i+size:=⟨i+size - 1,om⟩;have wj:IntKind.i64.wrap (((i+size:Nat):Int) - 1)=(j:Int):=ZaM om om om;have hij:i < j:=om;have hjn:j < sets.length:=om;have hij2:i<=j:=om;have hlt:=Zfv (n:=sets.length) (i:=i) (j:=j) om hjn;have waj:=wadd (i:=i * sets.length) (n:=j) om om;have hz0:=hT.zero hij2 hjn (by unfold szP;omega);have hzz:nR (T.set (i * sets.length+j) 0)=nR T:=by rw [hz0]
 have hnx:TabB g o sets (szP size (i+1)) (T.set (i * sets.length+j) (cvN g o sets i (j+1))):=hT.next hij2 hjn fun i' j' h1 h2=>by
  unfold szP;omega
 refine fN 13 (aj5 @q2 @wis @q3 @wj @tmz) ?_;refine fG @tmz ?_;have F:=ai @hzz @tmz;refine gL (ι:=Nat × Nat) [9,13,55] [9] (fun z=>[(13,A.d (.one (.lit (.int .i64 z.1)))),(9,.buf 9)]) (fun z=>[(9,.buf none 3 1 (nR (T.set (i * sets.length+j) z.2)))]) (fun z=>i<=z.1∧z.1<=j∧z.2=ofB (CutB (Rel2 g o) sets g.sorts.names.length i (j+1) (z.1+1)) g.sorts.names.length) (fun z=>j - z.1) ((i,0)) (⟨Tai _,om,ZoV.symm⟩) (fun z hz=>?_);clear F
 obtain ⟨k,v⟩:=z;obtain ⟨hk1,hk2,hv⟩:=hz;simp only at hk1 hk2 hv;subst hv;dsimp only;by_cases hkj:k < j;rotate_left
 ·obtain rfl:k=j:=by omega
  have q4:=lF k k;have e:ofB (CutB (Rel2 g o) sets g.sorts.names.length i (k+1) (k+1)) g.sorts.names.length=cvN g o sets i (k+1):=ZuL hs hRlt om;rw [e];have F:=aj3 @q4 @hwi @tmz;refine gG ?_;exact ⟨(i+1,T.set (i * sets.length+k) (cvN g o sets i (k+1))),⟨om,hnx⟩,gw,gw,om⟩
 have q4:=lT k j;have hwk:=Zau (k:=k) om;have hTk:=(hT.2 i k hk1 om).1 (by unfold szP;omega);have hTj:=(hT.2 (k+1) j om hjn).1 (by unfold szP;omega);have hltk:=Zfv (n:=sets.length) (i:=i) (j:=k) om om;have hltj:=Zfv (n:=sets.length) (i:=k+1) (j:=j) om hjn;have wak:=wadd (i:=i * sets.length) (n:=k) om om;have wm2:=wmul (i:=k+1) (n:=sets.length) om om;have wa2:=wadd (i:=(k+1) * sets.length) (n:=j) om om
 have e:=fun b=>Zrb (R:=Rel2 g o) (sets:=sets) (N:=g.sorts.names.length) (i:=i) (j:=j+1) (k:=k+1) (b:=b) om om;have e:ofB (CutB (Rel2 g o) sets g.sorts.names.length i (j+1) (k+1)) g.sorts.names.length ||| ofB (fun b=>Two (Rel2 g o) (cvN g o sets i (k+1)) (cvN g o sets (k+1) (j+1)) b) g.sorts.names.length=ofB (CutB (Rel2 g o) sets g.sorts.names.length i (j+1) (k+1+1)) g.sorts.names.length:=by
  rw [Zgl];exact Za5 fun b _=>(e b).symm
 have cR:=ZiZ hg (Tac ho) [cvN g o sets i (k+1),cvN g o sets (k+1) (j+1)] (fun d hd=>hdeg d hd) (by simp) (fun s hs=>by
  simp only [Tbg,List.not_mem_nil,or_false] at hs;rcases hs with rfl | rfl <;> exact hcv _ _)
 rw [show ofB (ZdG g o [cvN g o sets i (k+1),cvN g o sets (k+1) (j+1)]) g.sorts.names.length=ofB (fun b=>Two (Rel2 g o) (cvN g o sets i (k+1)) (cvN g o sets (k+1) (j+1)) b) g.sorts.names.length from Za5 fun b _=>Zfa hdeg] at cR;have cR:=Zgn cR;have hor:=ZdW (ZbS (Zcd (CutB (Rel2 g o) sets g.sorts.names.length i (j+1) (k+1)) g.sorts.names.length) hN) (ZbS (Zcd (fun b=>Two (Rel2 g o) (cvN g o sets i (k+1)) (cvN g o sets (k+1) (j+1)) b) g.sorts.names.length) hN)
 rw [e] at hor;clear e;generalize ofB (fun b=>Two (Rel2 g o) (cvN g o sets i (k+1)) (cvN g o sets (k+1) (j+1)) b) g.sorts.names.length=tw at cR hor;generalize ofB (CutB (Rel2 g o) sets g.sorts.names.length i (j+1) (k+1)) g.sorts.names.length=v at hor ⊢;have nl2:=ZaT (l:=T.set (i * sets.length+j) v);rw [Taz,hT.1] at nl2;have nr2:=ZaP (l:=T.set (i * sets.length+j) v);have ne1:i * sets.length+j≠i * sets.length+k:=om
 have ne2:i * sets.length+j≠(k+1) * sets.length+j:=fun q=>by have:=ZuW hjn hjn q;omega
 have g1:(nR (T.set (i * sets.length+j) v))[i * sets.length+j]?=some [.lit (.int .i64 v)]:=ZaR (Tbn (by rw [hT.1];exact hlt));have g2:(nR (T.set (i * sets.length+j) v))[i * sets.length+k]?=some [.lit (.int .i64 (cvN g o sets i (k+1)))]:=ZaR (by rw [Tbo ne1];exact hTk);have g3:(nR (T.set (i * sets.length+j) v))[(k+1) * sets.length+j]?=some [.lit (.int .i64 (cvN g o sets (k+1) (j+1)))]:=ZaR (by rw [Tbo ne2];exact hTj)
 have ns:=fun x=>ZcR (l:=T.set (i * sets.length+j) v) (i * sets.length+j) x;simp only [List.set_set] at ns;have i1:(i * sets.length+j < sets.length * sets.length)=True:=eq_true hlt;have i2:(i * sets.length+k < sets.length * sets.length)=True:=eq_true hltk;have i3:((k+1) * sets.length+j < sets.length * sets.length)=True:=eq_true hltj;clear nl nr;refine fN 16 (ai @q4 @tmz) ?_;refine gB ?_;refine fC (aj16 @wii @waj @wak @hwk @wm2 @wa2 @nl2 @nr2 @g1 @g2 @g3 @i1 @i2 @i3 @h0 (aj4 @ho @Zaj @Zap @tmz)) (cR) ?_
 refine fR (aj8 @nl2 @nr2 @g1 @hor @ns @i1 @Zap @tmz) ?_;have F:=ai @hwk @tmz;refine gG ?_;exact ⟨(k+1,ofB (CutB (Rel2 g o) sets g.sorts.names.length i (j+1) (k+1+1)) g.sorts.names.length),⟨om,hkj,rfl⟩,gw,gw,om⟩
end
def tw2 (a:Alg) (i:Nat) (x y:Int):Int:=(a.tables.getD i []).getD (x * a.size+y).toNat 0
def Inz (a:Alg) (x:Int):Prop:=0<=x∧x < a.size
structure Tab2 (a:Alg) (i:Nat):Prop where
 lo:1<=a.size
 hi:a.size<=4
 tab:∃ l,a.tables[i]?=some l∧l.length=a.size.toNat * a.size.toNat∧∀ x∈l,Inz a x
theorem Tab2.get {a:Alg} {i:Nat} (h:Tab2 a i) {x y:Int} (hx:Inz a x) (hy:Inz a y):∃ l,a.tables[i]?=some l∧IntKind.i64.wrap (x * a.size)=x * a.size∧IntKind.i64.wrap (x * a.size+y)=x * a.size+y∧0<=x * a.size+y∧l[(x * a.size+y).toNat]?=some (tw2 a i x y)∧Inz a (tw2 a i x y):=by
 obtain ⟨l,h1,h2,h3⟩:=h.tab;have hlo:=h.lo;have hhi:=h.hi;obtain ⟨x0,x1⟩:=hx;obtain ⟨y0,y1⟩:=hy;have m0:0<=x * a.size:=Int.mul_nonneg x0 om;have m1:x * a.size+a.size<=a.size * a.size:=by
  have:(x+1) * a.size<=a.size * a.size:=Int.mul_le_mul_of_nonneg_right om om;rw [Int.add_mul] at this;omega
 have m2:a.size * a.size<=16:=by
  have:=Int.mul_le_mul hhi hhi om om;omega
 have hl:(x * a.size+y).toNat < l.length:=by
  rw [h2];have e:((a.size.toNat * a.size.toNat:Nat):Int)=a.size * a.size:=by rw [Int.natCast_mul,Int.toNat_of_nonneg om]
  omega
 have e1:tw2 a i x y=l[(x * a.size+y).toNat]:=by
  unfold tw2;simp [List.getD_eq_getElem?_getD,h1,Taa hl]
 refine ⟨l,h1,ZaM rfl om om,ZaM rfl om om,om,?_,?_⟩
 ·rw [e1];exact Taa hl
 ·rw [e1];exact h3 _ (List.getElem_mem hl)
structure TabN (z:Int) (n:Nat) (ac:Bool) (l:List Int):Prop where
 lo:1<=z
 hi:z<=4
 len:l.length=z.toNat ^ n
 all:∀ x∈l,0<=x∧x < z
 le3:n<=3
 as2:ac=true->n=2
def In0 (z x:Int):Prop:=0<=x∧x < z
theorem ZEQ {z:Int} (h:1<=z) (n:Nat):((z.toNat ^ n:Nat):Int)=z ^ n:=by
 rw [Int.natCast_pow,Int.toNat_of_nonneg om]
theorem TabN.get {z:Int} {n:Nat} {ac:Bool} {l:List Int} (h:TabN z n ac l) {k:Int} (h0:0<=k) (h1:k < z ^ n):l[k.toNat]?=some (l.getD k.toNat 0)∧In0 z (l.getD k.toNat 0):=by
 have hl:k.toNat < l.length:=by
  have:=ZEQ h.lo n;have e:=h.len;omega
 rw [List.getD_eq_getElem?_getD,Taa hl];exact ⟨rfl,h.all _ (List.getElem_mem hl)⟩
def Zcn (z:Int) (xs:List Int):Prop:=∀ x∈xs,In0 z x
def digL (z:Int):Nat->Int->List Int
 | 0,_=>[]
 | n+1,k=>(k % z)::digL z n (k / z)
def numL (z:Int):List Int->Int
 | []=>0
 | x::xs=>x+z * numL z xs
theorem Zi0 (z:Int):∀ (n:Nat) (k:Int),(digL z n k).length=n
 | 0,_=>rfl
 | n+1,k=>by simp [digL,Zi0 z n]
theorem Zn8 {z:Int} (hz:1<=z):∀ (n:Nat) (k:Int),Zcn z (digL z n k)
 | 0,_=>by intro x hx;simp [digL] at hx
 | n+1,k=>by
  intro x hx;simp only [digL,Tbg] at hx;rcases hx with rfl | hx
  ·exact ⟨Int.emod_nonneg _ om,Int.emod_lt_of_pos _ om⟩
  ·exact Zn8 hz n _ x hx
theorem Zio {z:Int} (hz:1<=z):∀ {xs:List Int},Zcn z xs->0<=numL z xs∧numL z xs < z ^ xs.length
 | [],_=>by simp [numL]
 | x::xs,h=>by
  obtain ⟨h0,h1⟩:=Zio hz (xs:=xs) fun y hy=>h y (by simp [hy]);obtain ⟨x0,x1⟩:=h x (by simp);have m0:0<=z * numL z xs:=Int.mul_nonneg om h0;have m1:z * (numL z xs+1)<=z * z ^ xs.length:=Int.mul_le_mul_of_nonneg_left om om;rw [Int.mul_add] at m1;rw [Tag,Int.pow_succ,Int.mul_comm (z ^ xs.length) z,numL];omega
theorem Zl1 {z:Int} (hz:1<=z):∀ {xs:List Int},Zcn z xs->digL z xs.length (numL z xs)=xs
 | [],_=>rfl
 | x::xs,h=>by
  obtain ⟨x0,x1⟩:=h x (by simp);have ih:=Zl1 hz (xs:=xs) fun y hy=>h y (by simp [hy]);rw [Tag,digL,numL,Int.add_mul_emod_self_left,Int.emod_eq_of_lt x0 x1,Int.add_mul_ediv_left _ _ om,Int.ediv_eq_zero_of_lt x0 x1,Int.zero_add,ih]
def numB (z:Int) (xs:List Int):Int:=numL z xs.reverse
theorem Zz8 (z:Int) (xs:List Int) (x:Int):numB z (xs++[x])=x+z * numB z xs:=by simp [numB,numL]
theorem Zni (z:Int):∀ (k:Nat) (p:List Int),numB z (p++List.replicate k 0)=z ^ k * numB z p
 | 0,p=>by simp
 | k+1,p=>by
  have e:p++List.replicate (k+1) 0=(p++List.replicate k 0)++[0]:=by rw [List.replicate_succ',Tbf]
  rw [e,Zz8,Zni z k p,Int.zero_add,Int.pow_succ,<- Int.mul_assoc,Int.mul_comm z]
def Env.plus (e:Env) (E2:Nat->Prop) (G2:World->Prop):Env:=⟨e.P,fun b=>e.E b∨E2 b,fun w=>e.G w∧G2 w,e.D⟩
structure Fits (e:Env) (E2:Nat->Prop) (G2:World->Prop):Prop where
 st:Zc1 E2 G2
 dj:∀ w,G2 w->∀ b,E2 b->¬ e.E b
section
variable {e:Env} {E2:Nat->Prop} {G2:World->Prop}
theorem Fits.ok (h:Fits e E2 G2) (he:e.Ok):(e.plus E2 G2).Ok:=⟨fun w w' hz hb ⟨h1,h2⟩=>⟨he.keep w w' hz (fun b hb'=>hb b (.inl hb')) h1,h.st w w' hz (fun b hb'=>hb b (.inr hb')) h2⟩,he.mixed⟩
theorem Kept.up {D:Prop} {E E':Nat->Prop} {B:Nat} {w w':World} (h:Kept D E B w w') (hE:∀ b,E b->E' b):Kept D E' B w w':=⟨h.os,h.tape,h.output,h.drawn,h.size,fun k hk hn=>h.block k hk fun q=>hn (hE k q)⟩
theorem Fits.keep (h:Fits e E2 G2) {E:Nat->Prop} {w w':World} (hk:Kept e.D E w.heap.size w w') (hE:∀ b,(e.plus E2 G2).E b->b < w.heap.size) (hG:G2 w) (hn:∀ b,E2 b->¬ E b):G2 w':=h.st w w' hk.size (fun b hb=>hk.block b (hE b (.inr hb)) (hn b hb)) hG
theorem Con.up (h2:Fits e E2 G2) {f:FuncId} {args r:List D} (h:Con e f args r):Con (e.plus E2 G2) f args r :=
 ⟨h.1,fun w S vs hS hE hG hvs=>(h.2 w S vs (fun b hb=>⟨(hS b hb).1,fun q=>(hS b hb).2 (.inl q)⟩) (fun b hb=>hE b (.inl hb)) hG.1 hvs).mono fun en w' ⟨v,h1,hk,hg,ha⟩=>⟨v,h1,hk.up fun _=>.inl,⟨hg,h2.keep hk hE hG.2 (h2.dj w hG.2)⟩,ha⟩⟩
theorem ConE.up (h2:Fits e E2 G2) {f:FuncId} {args:List D} {R:List D->Prop} (h:ConE e f args R):ConE (e.plus E2 G2) f args R :=
 ⟨h.1,fun w S vs hS hE hG hvs=>(h.2 w S vs (fun b hb=>⟨(hS b hb).1,fun q=>(hS b hb).2 (.inl q)⟩) (fun b hb=>hE b (.inl hb)) hG.1 hvs).mono fun en w' ⟨v,r,h1,hr,hk,hg,ha⟩=>⟨v,r,h1,hr,hk.up fun _=>.inl,⟨hg,h2.keep hk hE hG.2 (h2.dj w hG.2)⟩,ha⟩⟩
theorem ConR.up (h2:Fits e E2 G2) {f:FuncId} {args:List D} {ty sz:Nat} {rows:List (List C)} (h:ConR e f args ty sz rows):ConR (e.plus E2 G2) f args ty sz rows :=
 ⟨h.1,fun w S vs hS hE hG hvs=>(h.2 w S vs (fun b hb=>⟨(hS b hb).1,fun q=>(hS b hb).2 (.inl q)⟩) (fun b hb=>hE b (.inl hb)) hG.1 hvs).mono fun en w' ⟨v,h1,hk,hg,ha⟩=>⟨v,h1,hk.up fun _=>.inl,⟨hg,h2.keep hk hE hG.2 (h2.dj w hG.2)⟩,ha⟩⟩
theorem ConI.up (h2:Fits e E2 G2) {f:FuncId} {ty sz:Nat} {rows rows':List (List C)} {args r:List D} (h:ConI e f ty sz rows args rows' r):ConI (e.plus E2 G2) f ty sz rows args rows' r :=
 ⟨h.1,fun w S v0 vs hS hE h0 hG hb hvs=>(h.2 w S v0 vs (fun b hb=>⟨(hS b hb).1,fun q=>(hS b hb).2 (.inl q)⟩) (fun b hb=>hE b (.inl hb)) (fun g hg q=>h0 g hg (.inl q)) hG.1 hb hvs).mono fun en w' ⟨v,h1,hk,hg,ha⟩=>⟨v,h1,hk.up fun _ q=>q.elim (fun q=>.inl (.inl q)) .inr,⟨hg,h2.keep hk hE hG.2 fun b hb q=>q.elim (h2.dj w hG.2 b hb) fun q=>h0 b q (.inr hb)⟩,ha⟩⟩
theorem ConT.up (h2:Fits e E2 G2) {f:FuncId} {ty sz:Nat} {rows rows':List (List C)} {args:List D} (h:ConT e f ty sz rows args rows'):ConT (e.plus E2 G2) f ty sz rows args rows' :=
 ⟨h.1,fun w S v0 vs hS hE h0 hG hb hvs=>(h.2 w S v0 vs (fun b hb=>⟨(hS b hb).1,fun q=>(hS b hb).2 (.inl q)⟩) (fun b hb=>hE b (.inl hb)) (fun g hg q=>h0 g hg (.inl q)) hG.1 hb hvs).mono fun en w' ⟨v,h1,hk,hg,ha⟩=>⟨v,h1,hk.up fun _ q=>q.elim (fun q=>.inl (.inl q)) .inr,⟨hg,h2.keep hk hE hG.2 fun b hb q=>q.elim (h2.dj w hG.2 b hb) fun q=>h0 b q (.inr hb)⟩,ha⟩⟩
theorem ConP.up (h2:Fits e E2 G2) {f:FuncId} {args:List D} {pm:List Bk} {R:List D->List Bk->Prop} (h:ConP e f args pm R):ConP (e.plus E2 G2) f args pm R :=
 ⟨h.1,fun w S vs hS hE hG hpm hap hvs=>(h.2 w S vs (fun b hb=>⟨(hS b hb).1,fun q=>(hS b hb).2 (.inl q)⟩) (fun b hb=>hE b (.inl hb)) hG.1 (fun x hx=>⟨(hpm x hx).1,fun g hg q=>(hpm x hx).2 g hg (.inl q)⟩) hap hvs).mono fun en w' ⟨v,r,pm',h1,hr,hk,hg,ha⟩=>⟨v,r,pm',h1,hr,hk.up fun _ q=>q.elim (fun q=>.inl (.inl q)) .inr,⟨hg,h2.keep hk hE hG.2 fun b hb q=>q.elim (h2.dj w hG.2 b hb) fun ⟨x,hx,hxg⟩=>(hpm x hx).2 b hxg (.inr hb)⟩,ha⟩⟩
theorem ZCd {ι:Type} {G:ι->World->Prop} {ok:ι->Prop} (h2:Fits e E2 G2) (hst:∀ i,Zc1 E2 (G i)) (ho:∀ w,G2 w->∃ i,ok i∧G i w) (hi:∀ w i,(∀ b,E2 b->¬ e.E b)->ok i->G i w->G2 w) {f:FuncId} {xs r:List D} (hb:Zcr e.P f=true)
  (h:∀ i,ok i->ConP e f xs [.set E2 (G i)] (fun r' pm=>r'=r∧∃ i',ok i'∧pm=[.set E2 (G i')])):Con (e.plus E2 G2) f xs r:=by
 refine ⟨hb,fun w S vs hS hE hG hvs=>?_⟩;obtain ⟨i,hi1,hi2⟩:=ho w hG.2;have hdj:=h2.dj w hG.2;refine ((h i hi1).2 w S vs (fun b hb=>⟨(hS b hb).1,fun q=>(hS b hb).2 (.inl q)⟩) (fun b hb=>hE b (.inl hb)) hG.1 (fun x hx=>?_) ⟨fun y hy=>(by cases hy),trivial⟩ hvs).mono fun en w' ⟨v,r',pm,h1,⟨hr,i',hi1',hpm⟩,hk,hg,hp,_,ha⟩=>?_
 ·obtain rfl:=Tbj.1 hx;exact ⟨⟨fun b hb=>⟨hE b (.inr hb),fun q=>(hS b q).2 (.inr hb)⟩,hi2,hst i⟩,fun g hg=>hdj g hg⟩
 ·subst hr hpm;have hpb:∀ (G:World->Prop) (b:Nat),ZaW [.set E2 G] b ↔ E2 b:=fun G b=>⟨fun ⟨x,hx,hg⟩=>by obtain rfl:=Tbj.1 hx;exact hg,fun q=>⟨_,Tbj.2 rfl,q⟩⟩;refine ⟨v,h1,hk.up fun b q=>q.elim .inl fun q=>.inr ((hpb _ b).1 q),⟨hg,hi w' i' hdj hi1' (hp _ (Tbj.2 rfl)).1.2.1⟩,ha.keep (Tai _) (fun _ _ _=>rfl) fun b hb=>?_⟩;rcases hb.1 with q | q | q
  ·exact .inl q
  ·exact absurd ((hpb _ b).2 ((hpb _ b).1 q)) hb.2
  ·exact .inr q
theorem ZET {mask:Nat} {c:Code} {s:List (Nat × A)} {m:List (Nat × Bk)} {Q:PX->St->Prop} {G1:World->Prop} (k:Nat) (hst:Zc1 E2 G2) (hm:gm m k=some (.set E2 G1)) (h2:(∀ b,E2 b->¬ e.E b)->Fits e E2 G2∧∀ w,G1 w->G2 w) (h:Fits e E2 G2->pwp (e.plus E2 G2) mask c ⟨s,remM k m⟩ Q):pwp e mask c ⟨s,m⟩ Q:=by
 intro he U w0 S0 nt a w hok ⟨S,L,hs⟩;have hc:=hs.cls;have ho:=hc.own k _ hm;obtain ⟨hF,hG⟩:=h2 fun b hb=>hc.notE hm (show ZaK L k (.set E2 G1) b from hb);have hlt:∀ b,e.E b∨E2 b->b < w.heap.size:=fun b hb=>hb.elim (fun q=>Tbd (hc.ein b q) hc.bsz) fun q=>(ho.1 b q).1;have hsub:∀ k' bk,gm (remM k m) k'=some bk->k'≠k∧gm m k'=some bk:=fun k' bk hk'=>by
  rw [ZaG] at hk';by_cases e:k'=k
  ·rw [if_pos e] at hk';cases hk'
  ·rw [if_neg e] at hk';exact ⟨e,hk'⟩
 have hs2:SimE (e.plus E2 G2) (fun g=>∃ k' bk,gm (remM k m) k'=some bk∧ZaK L k' bk g) w S nt ⟨s,remM k m⟩ a w:=by
  refine ⟨S,L,⟨fun b hb=>⟨(hc.sin b hb).1,fun q=>q.elim (hc.sin b hb).2 fun q=>(ho.1 b q).2 hb⟩,fun b hb=>.inl hb,hlt,?_,Tai _,fun k' bk g h1 h2=>.inr ⟨k',bk,h1,h2⟩,fun k' bk hk'=>hc.own k' bk (hsub k' bk hk').2,fun k1 k2 x1 x2 g h1 h2=>hc.inj k1 k2 x1 x2 g (hsub k1 x1 h1).2 (hsub k2 x2 h2).2,⟨hc.g,hG w ho.2.1⟩⟩,hs.rel,hs.size,hs.defers,Kept.refl _ _ _ _⟩;rintro b ⟨k',bk,h1,h3⟩ q;obtain ⟨hne,h1⟩:=hsub k' bk h1
  rcases q with q | q
  ·exact hc.notE h1 h3 q
  ·exact hne (hc.inj k' k bk _ b h1 hm h3 q)
 refine wp_mono (h hF (hF.ok he) _ _ _ _ _ w hok hs2) fun ex a' w' hq=>?_;have back:∀ σ',SimE (e.plus E2 G2) (fun g=>∃ k' bk,gm (remM k m) k'=some bk∧ZaK L k' bk g) w S nt σ' a' w'->SimE e U w0 S0 nt σ' a' w':=fun σ' ⟨S1,L1,h1⟩=>by
  have c1:=h1.cls;have hU:∀ b,(∃ k' bk,gm (remM k m) k'=some bk∧ZaK L k' bk b)->w0.heap.size<=b∨U b:=fun b ⟨k',bk,q1,q2⟩=>hc.mine k' bk b (hsub k' bk q1).2 q2;refine ⟨S1,L1,⟨fun b hb=>⟨(c1.sin b hb).1,fun q=>(c1.sin b hb).2 (.inl q)⟩,fun b hb=>?_,hc.ein,hc.uin,Tbe hc.bsz c1.bsz,fun k' bk g q1 q2=>?_,c1.own,c1.inj,c1.g.1⟩,h1.rel,h1.size,h1.defers,⟨h1.kept.os.trans hs.kept.os,h1.kept.tape.trans hs.kept.tape,h1.kept.output.trans hs.kept.output,fun d=>Tbe (hs.kept.drawn d) (h1.kept.drawn d),Tbe hs.kept.size h1.kept.size,fun b hb hn=>?_⟩⟩
  ·rcases c1.sfr b hb with q | q | q
   ·exact hc.sfr b q
   ·exact .inr (.inl (Tbe hc.bsz q))
   ·exact .inr (hU b q)
  ·rcases c1.mine k' bk g q1 q2 with q | q
   ·exact .inl (Tbe hc.bsz q)
   ·exact hU g q
  ·refine (h1.kept.block b (Tbd hb hs.kept.size) fun q=>?_).trans (hs.kept.block b hb hn);rcases q with (q | q) | q
   ·exact hn (.inl q)
   ·rcases hc.mine k _ b hm (show ZaK L k (.set E2 G1) b from q) with q | q
    ·omega
    ·exact hn (.inr q)
   ·rcases hU b q with q | q
    ·omega
    ·exact hn (.inr q)
 cases ex with
 | normal=>exact hq.elim fun σ' hq=>⟨σ',hq.1,back σ' hq.2⟩
 | exit id=>exact hq.elim fun σ' hq=>⟨σ',hq.1,back σ' hq.2⟩
 | ret=>exact hq.elim fun σ' hq=>⟨σ',hq.1,back σ' hq.2⟩
 | goto l=>exact hq
 | panic ch=>exact hq
 | outgrown=>exact hq
end
mutual
theorem Zo7:∀ t:Tm,sizeTm t<=bulkRow (Zac t)+1
 | .mk _ _ _ args=>by
  have:=Znk args;simp only [sizeTm,Zac,bulkRow,ZbG];omega
theorem Znk:∀ ts:List Tm,sizeTms ts<=(Zaa ts).length+bulkRows (Zaa ts)
 | []=>by simp [sizeTms]
 | t::ts=>by
  have h1:=Zo7 t;have h2:=Znk ts;simp only [sizeTms,Zaa,Tag,bulkRows];omega
end
theorem Zf7 {t:Tm} (h:bulkRow (Zac t)<=1048576):sizeTm t<=big:=by
 have:=Zo7 t;unfold big;omega
theorem ZCe (a b:List C):bulkRow (a++b)=bulkRow a+bulkRow b:=by
 induction a with
 | nil=>simp [bulkRow]
 | cons x xs ih=>simp only [Taf,bulkRow,ih];omega
def putB:List Bd->Bd->List Bd
 | [],y=>[y]
 | x::l,y=>if Zai x.var y.var < 0 then x::putB l y else y::x::l
def UpB (l:List Bd):Prop:=l.Pairwise fun x y=>Zai x.var y.var < 0
theorem Zu6 {y:Bd}:∀ {l:List Bd} {i:Nat},i<=l.length->(∀ (j:Nat) x,j < i->l[j]?=some x->Zai x.var y.var < 0)->(∀ x,l[i]?=some x->¬ Zai x.var y.var < 0)->putB l y=l.take i++y::l.drop i
 | [],i,hi,_,_=>by simp at hi;subst hi;rfl
 | x::l,0,_,_,h2=>by simp [putB,h2 x rfl]
 | x::l,i+1,hi,h1,h2=>by
  have h0:=h1 0 x om rfl;simp only [putB,if_pos h0,Tbc,List.drop_succ_cons,Taf];rw [Zu6 (by simpa using hi) (fun j z hj hz=>h1 (j+1) z om (by simpa using hz)) (fun z hz=>h2 z (by simpa using hz))]
section
variable {g:Sgn}
theorem SbsOk.up {l:List Bd} (h:SbsOk g l):UpB l:=by
 refine List.pairwise_iff_getElem.2 fun i j hi hj hij=>?_;have key:∀ (n:Nat) (i:Nat) (hi:i+(n+1) < l.length),Zai (l[i]'om).var (l[i+(n+1)]).var < 0:=fun n=>by
  induction n with
  | zero=>exact fun i hi=>(h.at' (i+1) _ (Taa hi)).ord i _ rfl (Taa om)
  | succ n ih=>exact fun i hi=>ZeL (ih i om) ((h.at' (i+(n+1+1)) _ (Taa hi)).ord (i+(n+1)) _ rfl (Taa om))
 have:=key (j - i - 1) i om;have e:i+(j - i - 1+1)=j:=om;simpa only [e] using this
end
def dig (n:Nat):ByteArray:=Zin (IntKind.u8.wrap (IntKind.i64.wrap (48+(n:Int).tmod 10)))
def txtL (n:Nat) (acc:ByteArray):ByteArray:=if h:n=0 then acc else txtL (n / 10) (dig n++acc)
termination_by n
decreasing_by omega
def txt (k:Int):ByteArray:=if k<=0 then ⟨#[109,48]⟩ else ⟨#[109]⟩++txtL k.toNat ByteArray.empty
theorem ZFD (acc:ByteArray):txtL 0 acc=acc:=by rw [txtL];simp
theorem ZFE {n:Nat} (h:n≠0) (acc:ByteArray):txtL n acc=txtL (n / 10) (dig n++acc):=by rw [txtL];simp [h]
theorem Zrv (n:Nat):(dig n).size=1:=rfl
theorem ZcT (k:Int) (hk:k<=1000000000) (hk0:0<=k):Con e0 95 [.one (.lit (.int .i64 k))] [.one (.lit (.string (txt k)))]:=by
 by_cases h0:k<=0
 ·have h:txt k=⟨#[109,48]⟩:=by unfold txt;rw [if_pos h0]
  have q1:(k<=0)=True:=eq_true h0;rw [h];refine gI (ts:=[.slot 2]) 173 Tryz.func95 ?_;exact fD @q1
 ·have h:txt k=⟨#[109]⟩++txtL k.toNat ByteArray.empty:=by unfold txt;rw [if_neg h0]
  have q1:(k<=0)=False:=eq_false h0;rw [h];obtain ⟨n,rfl⟩:∃ n:Nat,k=n:=⟨k.toNat,om⟩;rw [Tby];refine gI (ts:=[.slot 2]) 173 Tryz.func95 ?_;refine fG @q1 ?_;have F:=@q1;refine gL (ι:=Nat × ByteArray) [0,3,7] [] (fun x=>[(0,.d (.one (.lit (.int .i64 (x.1:Int))))),(3,.d (.one (.lit (.string x.2))))]) (fun x=>[]) (fun x=>txtL n ByteArray.empty=txtL x.1 x.2∧x.2.size+x.1<=n) (fun x=>x.1) ((n,⟨#[]⟩)) (⟨rfl,by show 0+n<=n;omega⟩) (fun x hx=>?_);clear F
  obtain ⟨j,acc⟩:=x;obtain ⟨h1,h2⟩:=hx;simp only at h1 h2;rw [h1];clear h1;by_cases hj:j=0
  ·subst hj;have q2:(((0:Nat):Int) > 0)=False:=eq_false om;rw [ZFD];have q5:((ByteArray.mk #[109]).size+acc.size<=9223372036854775807)=True:=eq_true (by show 1+acc.size<=_;omega);exact fD (ai @q2 @q5)
  ·have q2:((j:Int) > 0)=True:=eq_true om;rw [ZFE hj];have q3:IntKind.i64.wrap ((j:Int).tdiv 10)=((j / 10:Nat):Int):=by rw [show (j:Int).tdiv 10=((j / 10:Nat):Int) from by rw [Int.ofNat_tdiv];rfl];exact IntWalk.i64_in _ om
   refine fN 5 @q2 ?_;refine gB ?_;have F:=@q2;refine gP 5 ?_;clear F;refine gY ?_;have q5:((dig j).size+acc.size<=9223372036854775807)=True:=eq_true (by rw [Zrv];omega);change Runs _ _ _ _ ⟨(13,.d (.one (.lit (.string (dig j)))))::_,_⟩ _;refine fR (ai @q2 @q5) ?_;have hd:=Zrv j;have F:=ai @q2 @q3;refine gG ?_;exact ⟨(j / 10,dig j++acc),⟨rfl,by rw [ByteArray.size_append,hd];omega⟩,gw,gw,om⟩
def mkV (k:Int):Value->Value
 | .int i _=>.int i k
 | .string _=>.string (txt k)
 | .bool _=>.bool (k % 3==0)
 | v=>v
mutual
def mkC:Int->C->C
 | k,.lit v=>.lit (mkV k v)
 | k,.sl rows=>.sl (Zal k rows)
 | _,.ptr cs=>.ptr cs
 | _,.fn f cs=>.fn f cs
def ZcL:Int->List C->List C
 | _,[]=>[]
 | k,c::cs=>mkC k c::ZcL (k+cntC c) cs
def Zal:Int->List (List C)->List (List C)
 | _,[]=>[]
 | k,r::rs=>ZcL k r::Zal (k+ZbV r) rs
def cntC:C->Nat
 | .lit _=>1
 | .sl rows=>cntRows rows
 | .ptr _=>0
 | .fn _ _=>0
def ZbV:List C->Nat
 | []=>0
 | c::cs=>cntC c+ZbV cs
def cntRows:List (List C)->Nat
 | []=>0
 | r::rs=>ZbV r+cntRows rs
end
theorem Zo8:∀ (k:Int) (cs:List C),(ZcL k cs).length=cs.length
 | _,[]=>by simp [ZcL]
 | k,c::cs=>by simp [ZcL,Zo8 _ cs]
theorem ZgG:∀ (k:Int) (rs:List (List C)),(Zal k rs).length=rs.length
 | _,[]=>by simp [Zal]
 | k,c::cs=>by simp [Zal,ZgG _ cs]
theorem Zc2:∀ (rs:List (List C)) (r:List C),cntRows (rs++[r])=cntRows rs+ZbV r
 | [],r=>by simp [cntRows]
 | q::rs,r=>by simp [cntRows,Zc2 rs r];omega
theorem ZcM:∀ (rs:List (List C)) (r:List C) (k:Int),Zal k (rs++[r])=Zal k rs++[ZcL (k+cntRows rs) r]
 | [],r,k=>by simp [Zal,cntRows]
 | q::rs,r,k=>by simp [Zal,cntRows,ZcM rs r,Int.add_assoc]
theorem Zb9 {α:Type} {l:List α} {i:Nat} {x:α} (h:l[i]?=some x):l.take (i+1)=l.take i++[x]:=by simp [List.take_add_one,h]
theorem Zch {α:Type} {l:List α} {i:Nat} {x:α} (h:l[i]?=some x):l.drop i=x::l.drop (i+1):=by
 obtain ⟨h1,rfl⟩:=Tad.1 h;exact List.drop_eq_getElem_cons h1
theorem Zce:∀ (rs:List (List C)) (i:Nat),cntRows (rs.take i)<=cntRows rs
 | [],i=>by simp [cntRows]
 | r::rs,0=>by simp [cntRows]
 | r::rs,i+1=>by have:=Zce rs i;simp only [Tbc,cntRows];omega
theorem ZEU {x y:Bk} (h:∀ g,pblk x g->¬ pblk y g):ZcE [x,y]:=⟨fun z hz g hg=>by simp at hz;subst hz;exact h g hg,ZeQ _⟩
theorem Zgo {E:Nat->Prop} {v:Value}:ZiG (ι:=Option Addr × Nat) [.set E (fun w=>Own w (.sl []) E v)] (fun i=>v=.slice i.1 0 i.2) (fun _=>[.set E (fun w=>Own w (.sl []) E v)]):=fun w S h ha=>by
 obtain ⟨h1,h2,h3⟩:_∧Own w (.sl []) E v∧_:=h (.set E (fun w=>Own w (.sl []) E v)) (by simp);simp only [Own] at h2;obtain ⟨A,n,cap,hv,hn,_⟩:=h2;simp at hn;subst hn;exact ⟨(A,cap),hv,h,ha,fun _ h=>h⟩
theorem Zfg {E:Nat->Prop} {v:Value} {rows:List (List C)} {sz:Nat} (hne:rows≠[]) (hrl:rowsLen sz rows):ZiG (ι:=Option Addr × Nat × Nat × List (List Value) × (Nat->Prop)) [.set E (fun w=>Own w (.sl rows) E v)]
  (fun i=>v=.slice i.1 i.2.2.2.1.length i.2.1∧i.2.2.2.1.length=rows.length∧rows.length<=maxLen) (fun i=>[.buf (some (i.1,i.2.1)) i.2.2.1 sz (i.2.2.2.1.map Zah),.set i.2.2.2.2 (fun w=>Zao w rows i.2.2.2.2 i.2.2.2.1)]):=fun w S h ha=>by
 obtain ⟨h1,h2,h3⟩:(∀ b,E b->b < w.heap.size∧¬ S b)∧Own w (.sl rows) E v∧_:=h (.set E (fun w=>Own w (.sl rows) E v)) (by simp);obtain ⟨A,n,cap,rfl,hn1,hn2,hn3⟩:=(Own.rep _ _ _ h2).form;obtain ⟨uss,ety,E',rfl,k1,k2,k3,k4⟩:=Own.open (T:=S) (fun b hb=>(h1 b hb).2) hne hrl h2;refine ⟨(A,cap,ety,uss,E'),⟨rfl,k2.len,om⟩,fun x hx=>?_,ZEU fun g hg hg2=>?_,fun g ⟨x,hx,hg⟩=>⟨_,Tas,?_⟩⟩
 ·simp only [Tbg,List.not_mem_nil,or_false] at hx;rcases hx with rfl | rfl
  ·show ZaO w S ety sz (uss.map Zah) (.slice A (uss.map Zah).length cap);rw [Tay];exact k1
  ·exact ⟨fun b hb=>h1 b (k3 b hb).1,k2,Zao.stable _ _ _⟩
 ·simp only [pblk,Tay] at hg hg2;exact (k3 g hg2).2 hg
 ·simp only [Tbg,List.not_mem_nil,or_false] at hx;rcases hx with rfl | rfl
  ·simp only [pblk,Tay] at hg;exact k4 g hg
  ·exact (k3 g hg).1
def Zbn:List C->List Value->(Nat->Nat->Prop)->List Bk
 | .sl rows::cs,u::us,Es=>.set (Es 0) (fun w=>Own w (.sl rows) (Es 0) u)::Zbn cs us (fun k=>Es (k+1))
 | .lit _::cs,_::us,Es=>Zbn cs us Es
 | _,_,_=>[]
def ZeC:List C->List Value->Prop
 | [],[]=>True
 | .lit x::cs,u::us=>u=x∧ZeC cs us
 | .sl _::cs,_::us=>ZeC cs us
 | _,_=>False
def Zeg:C->Bool
 | .lit _=>true
 | .sl _=>true
 | _=>false
theorem Zhp {w:World} {S:Nat->Prop}:∀ {cs:List C} {us:List Value} {E:Nat->Prop},cs.all Zeg=true->Zaf w cs E us->(∀ b,E b->b < w.heap.size∧¬ S b)->∃ Es,ZeC cs us∧(∀ x∈Zbn cs us Es,Zcg w S x)∧ZcE (Zbn cs us Es)∧∀ g,ZaW (Zbn cs us Es) g->E g
 | [],[],E,_,_,_=>⟨fun _ _=>False,trivial,by simp [Zbn],trivial,fun g ⟨x,hx,_⟩=>by simp [Zbn] at hx⟩
 | c::cs,u::us,E,hp,h,hE=>by
  simp only [Zaf] at h;obtain ⟨S1,S2,i1,i2,hd,h1,h2⟩:=h;simp only [List.all_cons,Tar] at hp;obtain ⟨Es,k1,k2,k3,k4⟩:=Zhp hp.2 h2 (fun b hb=>hE b (i2 b hb))
  cases c with
  | lit x =>
   simp only [Own] at h1;exact ⟨Es,⟨h1,k1⟩,k2,k3,fun g hg=>i2 g (k4 g hg)⟩
  | sl rows =>
   refine ⟨fun k=>match k with | 0=>S1 | k+1=>Es k,k1,fun x hx=>?_,⟨fun y hy g hg hg2=>hd g hg (k4 g ⟨y,hy,hg2⟩),k3⟩,fun g ⟨x,hx,hg⟩=>?_⟩
   ·simp only [Zbn,Tbg] at hx;rcases hx with rfl | hx
    ·exact ⟨fun b hb=>hE b (i1 b hb),h1,Own.stable _ _ _⟩
    ·exact k2 x hx
   ·simp only [Zbn,Tbg] at hx;rcases hx with rfl | hx
    ·exact i1 g hg
    ·exact i2 g (k4 g ⟨x,hx,hg⟩)
  | ptr _=>simp [Zeg] at hp
  | fn _ _=>simp [Zeg] at hp
 | [],_::_,_,_,h,_=>by simp [Zaf] at h
 | _::_,[],_,_,h,_=>by simp [Zaf] at h
theorem Zaf.of_cells {w:World} {S:Nat->Prop}:∀ {cs:List C} {us:List Value} {Es:Nat->Nat->Prop},cs.all Zeg=true->ZeC cs us->(∀ x∈Zbn cs us Es,Zcg w S x)->ZcE (Zbn cs us Es)->Zaf w cs (ZaW (Zbn cs us Es)) us
 | [],[],Es,_,_,_,_=>Zaf.nil
 | .lit x::cs,u::us,Es,hp,hl,h,ha=>by
  obtain ⟨rfl,hl⟩:=hl;simp only [List.all_cons,Tar] at hp;simp only [Zaf];exact ⟨fun _=>False,_,fun _ h=>h.elim,fun _ h=>h,fun _ h _=>h,by simp [Own],Zaf.of_cells (Es:=Es) hp.2 hl h ha⟩
 | .sl rows::cs,u::us,Es,hp,hl,h,ha=>by
  simp only [List.all_cons,Tar] at hp;simp only [Zaf];obtain ⟨a1,a2⟩:=ha;have hE:=h (.set (Es 0) (fun w=>Own w (.sl rows) (Es 0) u)) Tas;refine ⟨Es 0,ZaW (Zbn cs us (fun k=>Es (k+1))),fun b hb=>⟨_,Tas,hb⟩,fun b ⟨x,hx,hb⟩=>⟨x,Tal _ hx,hb⟩,fun b hb ⟨x,hx,hb2⟩=>a1 x hx b hb hb2,hE.2.1,Zaf.of_cells hp.2 hl (fun x hx=>h x (Tal _ hx)) a2⟩
 | .ptr _::_,_::_,_,hp,_,_,_=>by simp [Zeg] at hp
 | .fn _ _::_,_::_,_,hp,_,_,_=>by simp [Zeg] at hp
 | [],_::_,_,_,hl,_,_=>by simp [ZeC] at hl
 | .lit _::_,[],_,_,hl,_,_=>by simp [ZeC] at hl
 | .sl _::_,[],_,_,hl,_,_=>by simp [ZeC] at hl
theorem Zfx:∀ {cs:List C} {us:List Value} {Es:Nat->Nat->Prop} (y:Bk),y∈Zbn cs us Es->∃ E G,y=.set E G
 | .sl rows::cs,u::us,Es,y,h=>by
  rcases Tbg.1 h with rfl | h
  ·exact ⟨_,_,rfl⟩
  ·exact Zfx y h
 | .lit _::cs,_::us,Es,y,h=>Zfx (cs:=cs) (us:=us) y h
 | .ptr _::_,_,_,y,h=>by simp [Zbn] at h
 | .fn _ _::_,_,_,y,h=>by simp [Zbn] at h
 | [],_,_,y,h=>by simp [Zbn] at h
 | .lit _::_,[],_,y,h=>by simp [Zbn] at h
 | .sl _::_,[],_,y,h=>by simp [Zbn] at h
theorem Zfh {E:Nat->Prop} {r:List C} {rest:List (List C)} {us:List Value} {urest:List (List Value)} (hp:r.all Zeg=true):ZiG (ι:=Unit) [.set E (fun w=>Zao w (r::rest) E (us::urest))] (fun _=>ZeC r us) (fun _=>[.set E (fun w=>Zao w (r::rest) E (us::urest))]):=fun w S h ha=>by
 obtain ⟨h1,h2,h3⟩:(∀ b,E b->b < w.heap.size∧¬ S b)∧Zao w (r::rest) E (us::urest)∧_:=h (.set E (fun w=>Zao w (r::rest) E (us::urest))) (by simp);obtain ⟨S1,S2,i1,i2,hd,k1,k2⟩:=h2;obtain ⟨Es,hl,_⟩:=Zhp (S:=S) hp k1 (fun b hb=>h1 b (i1 b hb));exact ⟨(),hl,h,ha,fun _ h=>h⟩
theorem Zgp {E:Nat->Prop} {r:List C} {rest:List (List C)} {us:List Value} {urest:List (List Value)} (hp:r.all Zeg=true):ZiG (ι:=(Nat->Prop) × (Nat->Nat->Prop)) [.set E (fun w=>Zao w (r::rest) E (us::urest))] (fun _=>True) (fun i=>.set i.1 (fun w=>Zao w rest i.1 urest)::Zbn r us i.2):=fun w S h ha=>by
 obtain ⟨h1,h2,h3⟩:(∀ b,E b->b < w.heap.size∧¬ S b)∧Zao w (r::rest) E (us::urest)∧_:=h (.set E (fun w=>Zao w (r::rest) E (us::urest))) (by simp);obtain ⟨S1,S2,i1,i2,hd,k1,k2⟩:=h2;obtain ⟨Es,hl,q1,q2,q3⟩:=Zhp (S:=S) hp k1 (fun b hb=>h1 b (i1 b hb));refine ⟨(S2,Es),trivial,fun x hx=>?_,⟨fun y hy g hg hg2=>hd g (q3 g ⟨y,hy,hg2⟩) hg,q2⟩,fun g ⟨x,hx,hg⟩=>⟨_,Tas,?_⟩⟩
 ·rcases Tbg.1 hx with rfl | hx
  ·exact ⟨fun b hb=>h1 b (i2 b hb),k2,Zao.stable _ _ _⟩
  ·exact q1 x hx
 ·rcases Tbg.1 hx with rfl | hx
  ·exact i2 g hg
  ·exact i1 g (q3 g ⟨x,hx,hg⟩)
theorem Zgq {E:Nat->Prop} {done:List (List C)} {ud:List (List Value)} {cs:List C} {us:List Value} {Es:Nat->Nat->Prop} (hp:cs.all Zeg=true) (hl:ZeC cs us):Zbe (.set E (fun w=>Zao w done E ud)::Zbn cs us Es) [.set (fun b=>E b∨ZaW (Zbn cs us Es) b) (fun w=>Zao w (done++[cs]) (fun b=>E b∨ZaW (Zbn cs us Es) b) (ud++[us]))]:=fun w S h ha=>by
 have hE:=h (.set E (fun w=>Zao w done E ud)) Tas;have hv:=Zaf.of_cells (w:=w) (S:=S) hp hl (fun x hx=>h x (Tal _ hx)) ha.2;refine ⟨fun x hx=>?_,ZeQ _,fun g ⟨x,hx,hg⟩=>?_⟩
 ·simp only [Tbg,List.not_mem_nil,or_false] at hx;subst hx;refine ⟨fun b hb=>?_,Zao.snoc hE.2.1 hv (fun _ h=>.inl h) (fun _ h=>.inr h) (fun b hb ⟨y,hy,hg⟩=>ha.1 y hy b hb hg),Zao.stable _ _ _⟩;rcases hb with hb | ⟨y,hy,hg⟩
  ·exact hE.1 b hb
  ·obtain ⟨E',G',rfl⟩:=Zfx y hy;exact (h _ (Tal _ hy)).1 b hg
 ·simp only [Tbg,List.not_mem_nil,or_false] at hx;subst hx;rcases hg with hg | ⟨y,hy,hg⟩
  ·exact ⟨_,Tas,hg⟩
  ·exact ⟨y,Tal _ hy,hg⟩
def Zct (rows:List (List C)) (r:List D) (pm:List Bk):Prop:=∃ v E,r=[.one (.lit v)]∧Zas (.lit v)=true∧pm=[.set E (fun w=>Own w (.sl rows) E v)]
def Zed:Bk->Bool
 | .set _ _=>true
 | _=>false
def litC:C->Bool
 | .lit _=>true
 | _=>false
def litD:D->Bool
 | .one c=>litC c
 | .agg cs=>cs.all litC
 | _=>false
theorem ZlA {w:World} {S S':Nat->Prop}:∀ {cs:List C} {vs:List Value},cs.all litC=true->Zab w S cs vs->Zab w S' cs vs
 | [],[],_,_=>trivial
 | .lit x::cs,v::vs,hl,h=>by
  simp only [List.all_cons,Tar] at hl;exact ⟨h.1,ZlA hl.2 h.2⟩
 | .sl _::_,_::_,hl,_=>by simp [litC] at hl
 | .ptr _::_,_::_,hl,_=>by simp [litC] at hl
 | .fn _ _::_,_::_,hl,_=>by simp [litC] at hl
 | [],_::_,_,h=>h.elim
 | _::_,[],_,h=>h.elim
theorem Zrw {w:World} {S S':Nat->Prop} {x:D} {v:Value} (hl:litD x=true) (h:DRel w S x v):DRel w S' x v:=by
 cases x with
 | one c=>cases c with
  | lit y=>exact h
  | _=>simp [litD,litC] at hl
 | agg cs=>obtain ⟨vs,h1,h2⟩:=h;exact ⟨vs,h1,ZlA hl h2⟩
 | clip _=>simp [litD] at hl
theorem Zke {w:World} {S S':Nat->Prop}:∀ {r:List D} {vs:List Value},r.all litD=true->ZaI w S r vs->ZaI w S' r vs
 | [],[],_,_=>trivial
 | x::r,v::vs,hl,h=>by
  simp only [List.all_cons,Tar] at hl;exact ⟨Zrw hl.1 h.1,Zke hl.2 h.2⟩
 | [],_::_,_,h=>h.elim
 | _::_,[],_,h=>h.elim
theorem ZCf {w:World} {S S':Nat->Prop} {L:Lay}:∀ {r:List D} {v:Value},r.all litD=true->ARel w S L (retA r) v->ARel w S' L (retA r) v
 | [],_,_,h=>by obtain ⟨vs,h1,h2⟩:=h;exact ⟨vs,h1,Zke rfl h2⟩
 | [x],v,hl,h=>by
  simp only [List.all_cons,List.all_nil,Bool.and_true] at hl;exact Zrw (x:=x) (v:=v) hl h
 | x::y::z,_,hl,h=>by obtain ⟨vs,h1,h2⟩:=h;exact ⟨vs,h1,Zke hl h2⟩
theorem ZF9 {e:Env} {f:FuncId} {args r:List D} (h:Con e f args r):ConP e f args [] (fun r' pm=>r'=r∧pm=[]):=by
 refine ⟨h.1,fun w S vs hS hE hG hpm ha hv=>(h.2 w S vs hS hE hG hv).mono ?_⟩;rintro en w' ⟨v,h1,h2,h3,h4⟩;refine ⟨v,r,[],h1,⟨rfl,rfl⟩,⟨h2.os,h2.tape,h2.output,h2.drawn,h2.size,fun k hk hn=>h2.block k hk (fun h=>hn (.inl h))⟩,h3,fun x hx=>by simp at hx,trivial,?_⟩;exact ARel.keep (Tai _) (fun _ _ _=>rfl) (fun b hb=>⟨hb.elim .inl (fun h=>.inr (.inr h)),fun ⟨x,hx,_⟩=>by simp at hx⟩) h4
theorem ZAe {w:World} {S:Nat->Prop} {x:Bk} (hs:Zed x=true) (h:Zcg w S x) {g:Nat} (hg:pblk x g):g < w.heap.size∧¬ S g:=by
 cases x with
 | set E G=>exact h.1 g hg
 | _=>simp [Zed] at hs
theorem Zrx {w w':World} {S S':Nat->Prop} {x:Bk} (hs:Zed x=true) (h:Zcg w S x) (hz:w.heap.size<=w'.heap.size) (hk:∀ b,pblk x b->w'.heap[b]?=w.heap[b]?) (hS:∀ b,pblk x b->¬ S' b):Zcg w' S' x:=by
 cases x with
 | set E G=>exact ⟨fun b hb=>⟨Tbd (h.1 b hb).1 hz,hS b hb⟩,h.2.2 w w' hz hk h.2.1,h.2.2⟩
 | _=>simp [Zed] at hs
theorem Zo9:∀ {a b:List Bk},ZcE a->ZcE b->(∀ x∈a,∀ y∈b,∀ g,pblk x g->¬ pblk y g)->ZcE (a++b)
 | [],_,_,h,_=>h
 | x::a,b,⟨h1,h2⟩,h,hd=>⟨fun y hy g hx hg=>(Tbh.1 hy).elim (fun q=>h1 y q g hx hg) (fun q=>hd x Tas y q g hx hg),Zo9 h2 h (fun z hz=>hd z (Tal _ hz))⟩
theorem ZAf {e:Env} {f:FuncId} {data lits:List D} {R:List D->List Bk->Prop} (pm:List Bk) (h:ConP e f data [] R) (hset:pm.all Zed=true) (hR:∀ r q,R r q->r.all litD=true∧q.all Zed=true)
  (hx:∀ (w:World) (S:Nat->Prop) (vs:List Value),(∀ x∈pm,Zcg w S x)->ZaI w S lits vs->ZaI w (fun b=>S b∨ZaW pm b) data vs):ConP e f lits pm (fun r q=>∃ q1,R r q1∧q=q1++pm):=by
 refine ⟨h.1,fun w S vs hS hE hG hpm ha hv=>?_⟩;have hset':∀ x∈pm,Zed x=true:=fun x hx=>List.all_eq_true.1 hset x hx;have hlt:∀ g,ZaW pm g->g < w.heap.size∧¬ S g∧¬ e.E g:=fun g ⟨x,hxm,hg⟩=>⟨(ZAe (hset' x hxm) (hpm x hxm).1 hg).1,(ZAe (hset' x hxm) (hpm x hxm).1 hg).2,(hpm x hxm).2 g hg⟩;refine (h.2 w (fun b=>S b∨ZaW pm b) vs (fun b hb=>hb.elim (hS b) (fun q=>⟨(hlt b q).1,(hlt b q).2.2⟩)) hE hG (fun x hx=>by simp at hx) trivial (hx w S vs (fun x hx=>(hpm x hx).1) hv)).mono ?_
 rintro en w' ⟨v,r,q1,h1,h2,h3,h4,h5,h6,h7⟩;obtain ⟨l1,l2⟩:=hR r q1 h2;have l2':∀ x∈q1,Zed x=true:=fun x hx=>List.all_eq_true.1 l2 x hx;have hnew:∀ x∈q1,∀ g,pblk x g->w.heap.size<=g:=fun x hx g hg=>((h5 x hx).2 g hg).elim (fun ⟨y,hy,_⟩=>by simp at hy) id;have hnil:∀ b,¬ ZaW [] b:=fun b ⟨y,hy,_⟩=>by simp at hy
 refine ⟨v,r,q1++pm,h1,⟨q1,h2,rfl⟩,⟨h3.os,h3.tape,h3.output,h3.drawn,h3.size,fun k hk hn=>h3.block k hk (fun q=>q.elim (fun q=>hn (.inl q)) (fun q=>hnil k q))⟩,h4,fun x hxm=>?_,Zo9 h6 ha (fun x hx y hy g hg hg2=>?_),ZCf l1 h7⟩
 ·rcases Tbh.1 hxm with hq | hq
  ·refine ⟨Zrx (l2' x hq) (h5 x hq).1 (Tai _) (fun _ _=>rfl) (fun b hb hn=>hn.2 ⟨x,Tbh.2 (.inl hq),hb⟩),fun g hg=>.inr (hnew x hq g hg)⟩
  ·refine ⟨Zrx (hset' x hq) (hpm x hq).1 h3.size (fun b hb=>h3.block b (hlt b ⟨x,hq,hb⟩).1 (fun q=>q.elim (hlt b ⟨x,hq,hb⟩).2.2 (hnil b))) (fun b hb hn=>hn.2 ⟨x,Tbh.2 (.inr hq),hb⟩),fun g hg=>.inl ⟨x,hq,hg⟩⟩
 ·have:=hnew x hx g hg;have:=(hlt g ⟨y,hy,hg2⟩).1;omega
section
variable {e:Env} {mask:Nat} {Q:PX->St->Prop} {ds:List (Option Nat)}
def ancN (L:List Oper):Nat->Nat->List Nat
 | 0,_=>[]
 | n+1,j=>Zb0 L j++(Zb0 L j).flatMap (ancN L n)
theorem Zi2 {L:List Oper} {listed:Array Bool} (h:∀ j,listed.getD j false=true->∀ q∈Zb0 L j,listed.getD q false=true):∀ (n j:Nat),(∀ q∈Zb0 L j,listed.getD q false=true)->∀ q∈ancN L n j,listed.getD q false=true
 | 0,_,_,q,hq=>by cases hq
 | n+1,j,hj,q,hq=>by
  rcases Tbh.1 hq with hq | hq
  ·exact hj q hq
  ·obtain ⟨r,hr,hq⟩:=List.mem_flatMap.1 hq;exact Zi2 h n r (h r (hj r hr)) q hq
def Zfy (e:Env) (ds:List (Option Nat)) (L:List Oper) (cons:Nat->Option Nat) (ini:List Nat) (B:St->Prop) (P:Nat->St->Prop):Nat->List Oper->Prop
 | _,[]=>True
 | i,o::os=>(∀ s m,B ⟨s,m⟩->(∀ j∈Zb0 L i,(cons j=none∨cons j=some i)->P j ⟨s,m⟩)->(∀ j∈ini,cons j=some i->P j ⟨s,m⟩)->(∀ j∈ini,∀ k,cons j=some k->i∈Zb0 L k->P j ⟨s,m⟩)->Runs e ds 0 [o] ⟨s,m⟩ (fun σ'=>B σ'∧P i σ'∧∀ j,j≠i->i ∉ ancN L 6 j->cons j≠some i->(∀ k,cons j=some k->k ∉ ancN L 6 i)->P j ⟨s,m⟩->P j σ'))∧Zfy e ds L cons ini B P (i+1) os
theorem Zfy.get {L:List Oper} {cons:Nat->Option Nat} {ini:List Nat} {B:St->Prop} {P:Nat->St->Prop}:∀ {l:List Oper} {k i:Nat} {o:Oper},Zfy e ds L cons ini B P k l->l[i]?=some o->∀ s m,B ⟨s,m⟩->(∀ j∈Zb0 L (k+i),(cons j=none∨cons j=some (k+i))->P j ⟨s,m⟩)->(∀ j∈ini,cons j=some (k+i)->P j ⟨s,m⟩)->(∀ j∈ini,∀ k',cons j=some k'->k+i∈Zb0 L k'->P j ⟨s,m⟩)->Runs e ds 0 [o] ⟨s,m⟩ (fun σ'=>B σ'∧P (k+i) σ'∧∀ j,j≠k+i->k+i ∉ ancN L 6 j->cons j≠some (k+i)->(∀ k',cons j=some k'->k' ∉ ancN L 6 (k+i))->P j ⟨s,m⟩->P j σ')
 | [],k,i,o,_,h=>by simp at h
 | x::l,k,0,o,h,ho=>by
  simp only [Tat,Taq] at ho;subst ho;exact h.1
 | x::l,k,i+1,o,h,ho=>by
  have:=Zfy.get (l:=l) (k:=k+1) (i:=i) (o:=o) h.2 (by simpa using ho);rw [show k+1+i=k+(i+1) by omega] at this;exact this
theorem ZlB {l:List Oper} {cons:Nat->Option Nat} {ini:List Nat} {K B:St->Prop} {P:Nat->St->Prop} (hb:ZkJ l=true) (hini:ini.all (fun j=>decide (l.length<=j))=true) (hstep:Zfy e ds l cons ini B P 0 l) (hK:∀ s m,B ⟨s,m⟩->(∀ i,i < l.length∨i∈ini->(∀ k,cons i=some k->l.length<=k)->P i ⟨s,m⟩)->K ⟨s,m⟩) :
  ∀ (f:Nat) (listed:Array Bool) (σ:St),listed.size=l.length->(List.range l.length).countP (fun i=>!listed.getD i true)=f->B σ->(∀ j,listed.getD j false=true->(P j σ∨∃ k,cons j=some k∧listed.getD k false=true)∧∀ q∈Zb0 l j,listed.getD q false=true)->(∀ j∈ini,P j σ∨∃ k,cons j=some k∧listed.getD k false=true)->ZcJ e ds l.toArray K f listed σ:=by
 have hback:∀ i o,l[i]?=some o->o.guard=none∧∀ e∈o.after,Region.binds .any e=true->e.on < i:=fun i o ho=>by
  have h1:=List.all_eq_true.1 hb i (List.mem_range.2 (Tad.1 ho).1);rw [ho] at h1;simp only [Tar,Option.isNone_iff_eq_none,List.all_eq_true,Bool.or_eq_true,Bool.not_eq_true',decide_eq_true_eq] at h1;refine ⟨h1.1,fun e he hbe=>?_⟩;rcases h1.2 e (Array.mem_toList_iff.2 he) with h2 | h2
  ·rw [hbe] at h2;cases h2
  ·exact h2
 have hfirst:∀ (listed:Array Bool),listed.size=l.length->Region.ready .any l.toArray listed=[]->∀ i,i < l.length->listed.getD i false=true:=fun listed hsz h0 i=>by
  induction i using Nat.strongRecOn with
  | _ i ih =>
   intro hi;rw [<- ZbL (by omega:i < listed.size)]
   cases hun:listed.getD i true with
   | true=>rfl
   | false =>
   obtain ⟨o,ho⟩:∃ o,l[i]?=some o:=⟨_,Taa hi⟩;have:=(mem_ready (ops:=l.toArray) (md:=.any)).2 ⟨hun,o,by simpa using ho,fun e he hbe=>ih e.on ((hback i o ho).2 e he hbe) (by have:=(hback i o ho).2 e he hbe;omega)⟩;rw [h0] at this
   cases this
 have hlt:∀ (listed:Array Bool) (k:Nat),listed.getD k false=true->k < listed.size:=fun listed k h=>Classical.byContradiction fun hn=>by
  rw [Array.getD_eq_getD_getElem?,Array.getElem?_eq_none om] at h
  cases h
 intro f
 induction f with
 | zero =>
  intro listed σ hsz hc hB hP hI;have hall:∀ i,i < l.length->listed.getD i true=true:=fun i hi=>by
   have:=List.countP_eq_zero.1 hc i (List.mem_range.2 hi);simpa using this
  refine ⟨?_,hK σ.s σ.m hB fun i hio hk=>?_⟩
  ·cases hr:Region.ready .any l.toArray listed with
   | nil=>rfl
   | cons i r =>
    have hi:i∈Region.ready .any l.toArray listed:=by rw [hr];simp
    obtain ⟨hun,oi,hoi,_⟩:=mem_ready.1 hi;have hil:i < l.length:=by
     have:=(Tbl.1 hoi).1;simpa using this
    rw [hall i hil] at hun
    cases hun
  ·have hno:¬ ∃ k,cons i=some k∧listed.getD k false=true:=fun ⟨k,h1,h2⟩=>by
    have:=hlt listed k h2;have:=hk k h1;omega
   rcases hio with hi | hi
   ·exact (hP i (by rw [<- ZbL om];exact hall i hi)).1.resolve_right hno
   ·exact (hI i hi).resolve_right hno
 | succ f ih =>
  intro listed σ hsz hc hB hP hI;refine ⟨fun h0=>hK σ.s σ.m hB fun i hio hk=>?_,fun i hi=>?_⟩
  ·have hno:¬ ∃ k,cons i=some k∧listed.getD k false=true:=fun ⟨k,h1,h2⟩=>by
    have:=hlt listed k h2;have:=hk k h1;omega
   rcases hio with hi | hi
   ·exact (hP i (hfirst listed hsz h0 i hi)).1.resolve_right hno
   ·exact (hI i hi).resolve_right hno
  obtain ⟨hun,o,hoi,hall⟩:=mem_ready.1 hi;have ho:l[i]?=some o:=by simpa using hoi
  have hil:i < l.length:=(Tad.1 ho).1;have hls:i < listed.size:=om;have hda:Zb0 l i=ZeX o:=by unfold Zb0;rw [ho]
  have hunf:listed.getD i false=false:=by rw [<- ZbL hls];exact hun
  have hanc:∀ q∈ancN l 6 i,listed.getD q false=true:=Zi2 (fun j hj=>(hP j hj).2) 6 i fun q hq=>by
   rw [hda] at hq;simp only [ZeX,Tbi,List.mem_filter] at hq;obtain ⟨e,⟨he,hbe⟩,rfl⟩:=hq;exact hall e (Array.mem_toList_iff.1 he) hbe
  refine ⟨o,hoi,(hback i o ho).1,ZdX (hback i o ho).1 ?_⟩;have h1:=Zfy.get hstep ho σ.s σ.m hB (fun j hj hcj=>by
   rw [Nat.zero_add] at hj hcj;have hj':=hj;rw [hda] at hj';simp only [ZeX,Tbi,List.mem_filter] at hj';obtain ⟨e,⟨he,hbe⟩,rfl⟩:=hj';refine (hP e.on (hall e (Array.mem_toList_iff.1 he) hbe)).1.resolve_right ?_;rintro ⟨k,hk1,hk2⟩;rcases hcj with hcj | hcj
   ·rw [hcj] at hk1;cases hk1
   ·rw [hcj] at hk1;injection hk1 with hk1
    subst hk1;rw [hunf] at hk2
    cases hk2) (fun j hj hc=>by
   rw [Nat.zero_add] at hc;refine (hI j hj).resolve_right ?_;rintro ⟨k,hk1,hk2⟩;rw [hc] at hk1;injection hk1 with hk1
   subst hk1;rw [hunf] at hk2
   cases hk2) (fun j hj k' hc hd=>by
   rw [Nat.zero_add] at hd;refine (hI j hj).resolve_right ?_;rintro ⟨k,hk1,hk2⟩;rw [hc] at hk1;injection hk1 with hk1
   subst hk1;have h2:=(hP _ hk2).2 i hd;rw [hunf] at h2
   cases h2)
  rw [Nat.zero_add] at h1;refine ZmV h1 fun σ' ⟨k1,k2,k3⟩=>ih _ σ' (by simpa using hsz) ?_ k1 (fun j hj=>?_) fun j hj=>?_
  ·have h1:(List.range l.length).countP (fun j=>!(listed.setIfInBounds i true).getD j true)+1=(List.range l.length).countP (fun j=>!listed.getD j true):=by
    have hperm:=List.perm_cons_erase (List.mem_range.2 hil);rw [hperm.countP_eq,hperm.countP_eq,List.countP_cons,List.countP_cons];have hcong:((List.range l.length).erase i).countP (fun j=>!(listed.setIfInBounds i true).getD j true)=((List.range l.length).erase i).countP (fun j=>!listed.getD j true):=by
     refine List.countP_congr fun j hj=>?_;have hne:j≠i:=fun e=>by
      subst e;exact List.Nodup.not_mem_erase (List.nodup_range) hj
     rw [getD_set_ne true (Ne.symm hne)]
    rw [hcong,hun];simp [hls]
   omega
  ·by_cases hji:j=i
   ·subst hji;refine ⟨.inl k2,fun q hq=>?_⟩;rw [hda] at hq;simp only [ZeX,Tbi,List.mem_filter] at hq;obtain ⟨e,⟨he,hbe⟩,rfl⟩:=hq;have hlt:=(hback j o ho).2 e (Array.mem_toList_iff.1 he) hbe;rw [getD_set_ne false om];exact hall e (Array.mem_toList_iff.1 he) hbe
   ·rw [getD_set_ne false (Ne.symm hji)] at hj;obtain ⟨p1,p2⟩:=hP j hj;have hni:i ∉ ancN l 6 j:=fun hm=>by
     have h2:=Zi2 (fun j hj=>(hP j hj).2) 6 j p2 i hm;rw [hunf] at h2
     cases h2
    refine ⟨?_,fun q hq=>?_⟩
    ·rcases p1 with p1 | ⟨k,hk1,hk2⟩
     ·by_cases hci:cons j=some i
      ·refine .inr ⟨i,hci,?_⟩;rw [<- ZbL (by simpa using hls)];simp [Array.getD_eq_getD_getElem?,hls]
      ·by_cases hdep:∃ k,cons j=some k∧k∈ancN l 6 i
       ·obtain ⟨k,hk1,hk2⟩:=hdep;refine .inr ⟨k,hk1,?_⟩;have hk3:=hanc k hk2;have hki:i≠k:=fun e=>by subst e;rw [hunf] at hk3;cases hk3
        rw [getD_set_ne false hki];exact hk3
       ·exact .inl (k3 j hji hni hci (fun k hk1 hk2=>hdep ⟨k,hk1,hk2⟩) p1)
     ·refine .inr ⟨k,hk1,?_⟩;by_cases hki:k=i
      ·subst hki;rw [hunf] at hk2;cases hk2
      ·rw [getD_set_ne false (Ne.symm hki)];exact hk2
    ·by_cases hqi:q=i
     ·subst hqi;have h2:=p2 q hq;rw [hunf] at h2
      cases h2
     ·rw [getD_set_ne false (Ne.symm hqi)];exact p2 q hq
  ·have hjl:l.length<=j:=by have:=List.all_eq_true.1 hini j hj;simpa using this
   have hji:j≠i:=om;have hni:i ∉ ancN l 6 j:=fun hm=>by
    have hd:Zb0 l j=[]:=by unfold Zb0;rw [List.getElem?_eq_none hjl]
    simp [ancN,hd] at hm
   rcases hI j hj with p1 | ⟨k,hk1,hk2⟩
   ·by_cases hci:cons j=some i
    ·refine .inr ⟨i,hci,?_⟩;rw [<- ZbL (by simpa using hls)];simp [Array.getD_eq_getD_getElem?,hls]
    ·by_cases hdep:∃ k,cons j=some k∧k∈ancN l 6 i
     ·obtain ⟨k,hk1,hk2⟩:=hdep;refine .inr ⟨k,hk1,?_⟩;have hk3:=hanc k hk2;have hki:i≠k:=fun e=>by subst e;rw [hunf] at hk3;cases hk3
      rw [getD_set_ne false hki];exact hk3
     ·exact .inl (k3 j hji hni hci (fun k hk1 hk2=>hdep ⟨k,hk1,hk2⟩) p1)
   ·refine .inr ⟨k,hk1,?_⟩;by_cases hki:k=i
    ·subst hki;rw [hunf] at hk2;cases hk2
    ·rw [getD_set_ne false (Ne.symm hki)];exact hk2
def lkS:List (Nat × A)->List (Nat × A)->Prop
 | [],_=>True
 | (t,x)::r,s=>gs s t=x∧lkS r s
def lkM:List (Nat × Bk)->List (Nat × Bk)->Prop
 | [],_=>True
 | (t,x)::r,m=>gm m t=some x∧lkM r m
theorem ZD6 {s:List (Nat × A)}:∀ {sb:List (Nat × A)},(∀ p∈sb,gs s p.1=p.2) ↔ lkS sb s
 | []=>by simp [lkS]
 | (t,x)::r=>by simp only [List.forall_mem_cons,lkS,ZD6 (sb:=r)]
theorem ZD7 {m:List (Nat × Bk)}:∀ {mb:List (Nat × Bk)},(∀ p∈mb,gm m p.1=some p.2) ↔ lkM mb m
 | []=>by simp [lkM]
 | (t,x)::r=>by simp only [List.forall_mem_cons,lkM,ZD7 (mb:=r)]
theorem Za6 {sb:List (Nat × A)} {mb:List (Nat × Bk)} {s:List (Nat × A)} {m:List (Nat × Bk)}:Lks sb mb ⟨s,m⟩ ↔ lkS sb s∧lkM mb m:=and_congr ZD6 ZD7
abbrev Tab:=List (List (Nat × A) × List (Nat × Bk))
def tabP (T:Tab) (i:Nat) (σ:St):Prop:=Lks (T.getD i ([],[])).1 (T.getD i ([],[])).2 σ
theorem ZbN {T:Tab} {i:Nat} {s:List (Nat × A)} {m:List (Nat × Bk)}:tabP T i ⟨s,m⟩ ↔ lkS (T.getD i ([],[])).1 s∧lkM (T.getD i ([],[])).2 m:=Za6
def ZgH (L:List Oper) (cons:Nat->Option Nat) (T:Tab) (i:Nat) (f:List (Nat × A)->List (Nat × Bk)->Bool):Bool:=(List.range T.length).all fun j=>j==i || ((ancN L 6 j).contains i || (cons j==some i || ((match cons j with | some k=>(ancN L 6 i).contains k | none=>false) || f (T.getD j ([],[])).1 (T.getD j ([],[])).2)))
theorem ZkX {L:List Oper} {cons:Nat->Option Nat} {T:Tab} {i:Nat} {f:List (Nat × A)->List (Nat × Bk)->Bool} {σ σ':St} (h:ZgH L cons T i f=true) (hf:∀ sb mb,f sb mb=true->Lks sb mb σ->Lks sb mb σ'):∀ j,j≠i->i ∉ ancN L 6 j->cons j≠some i->(∀ k,cons j=some k->k ∉ ancN L 6 i)->tabP T j σ->tabP T j σ':=fun j h1 h2 h3 h4 hp=>by
 unfold tabP at hp ⊢;by_cases hj:j < T.length
 ·have:=List.all_eq_true.1 h j (List.mem_range.2 hj);simp only [Bool.or_eq_true,beq_iff_eq,List.contains_eq_mem,decide_eq_true_eq] at this;rcases this with q | q | q | q | q
  ·exact absurd q h1
  ·exact absurd q h2
  ·exact absurd q h3
  ·cases hc:cons j with
   | none=>rw [hc] at q;cases q
   | some k=>rw [hc] at q;exact absurd (by simpa using q) (h4 k hc)
  ·exact hf _ _ q hp
 ·have e:T.getD j ([],[])=([],[]):=by rw [List.getD_eq_getElem?_getD,List.getElem?_eq_none om];rfl
  rw [e];exact ⟨fun p hp=>(by cases hp),fun p hp=>by cases hp⟩
section
variable {sb:List (Nat × A)} {mb:List (Nat × Bk)} {s:List (Nat × A)} {m:List (Nat × Bk)} {d k:Nat} {α:A} {bk:Bk}
theorem Lks.kill (h:Lks sb mb ⟨s,m⟩) (hf:sb.all (fun p=>!keyB k p.2)=true):Lks sb mb ⟨Zav k s,m⟩:=⟨fun p hp=>by
 have h1:=List.all_eq_true.1 hf p hp;have h2:=h.1 p hp;show gs (Zav k s) p.1=p.2;rw [Ze8 _ _ _ (by rw [h2];simpa using h1)];exact h2,h.2⟩
theorem Lks.mrem (h:Lks sb mb ⟨s,m⟩) (hf:mb.all (fun p=>p.1 != k)=true):Lks sb mb ⟨s,remM k m⟩:=⟨h.1,fun p hp=>by
 have h1:=List.all_eq_true.1 hf p hp;simp only [bne_iff_ne,ne_eq] at h1;show gm (remM k m) p.1=some p.2;rw [ZaG,if_neg h1];exact h.2 p hp⟩
theorem ZAg {x:A} (h:keyB k x=false):frzA k bk x=x:=by
 cases x <;> simp_all [frzA,keyB]
theorem Lks.frz (h:Lks sb mb ⟨s,m⟩) (hf:sb.all (fun p=>!keyB k p.2)=true) (hm:mb.all (fun p=>p.1 != k)=true):Lks sb mb ⟨frzS k bk s,remM k m⟩:=by
 refine Lks.mrem (m:=m) ⟨fun p hp=>?_,h.2⟩ hm;have h1:=List.all_eq_true.1 hf p hp;have h2:=h.1 p hp;show gs (frzS k bk s) p.1=p.2;rw [ZnO,h2];exact ZAg (by simpa using h1)
def Znl (d:Nat) (sb:List (Nat × A)) (_:List (Nat × Bk)):Bool:=sb.all fun p=>p.1 != d
def ZkY (d k:Nat) (sb:List (Nat × A)) (mb:List (Nat × Bk)):Bool:=Ze7 d sb mb && Ze7 k sb mb
theorem Lks.ownE (h:Lks sb mb ⟨s,m⟩) (hf:ZkY d k sb mb=true):Lks sb mb ⟨(d,α)::Zav d (Zav k s),(d,bk)::remM d (remM k m)⟩:=by
 simp only [ZkY,Ze7,Tar,List.all_eq_true,bne_iff_ne,ne_eq,Bool.not_eq_true'] at hf;refine Lks.born (Lks.mrem (Lks.kill h ?_) ?_) ?_
 ·simp only [List.all_eq_true,Bool.not_eq_true'];exact fun p hp=>(hf.2.1 p hp).2
 ·simp only [List.all_eq_true,bne_iff_ne,ne_eq];exact fun p hp=>hf.2.2 p hp
 ·simp only [Ze7,Tar,List.all_eq_true,bne_iff_ne,ne_eq,Bool.not_eq_true'];exact hf.1
end
section
variable {L:List Oper} {cons:Nat->Option Nat} {T:Tab} {i:Nat} {sb:List (Nat × A)} {mb:List (Nat × Bk)} {s s2:List (Nat × A)} {m m2:List (Nat × Bk)} {d k:Nat} {α:A} {bk:Bk}
abbrev Did (L:List Oper) (cons:Nat->Option Nat) (T:Tab) (i:Nat) (sb:List (Nat × A)) (mb:List (Nat × Bk)) (s:List (Nat × A)) (m:List (Nat × Bk)) (σ':St):Prop:=Lks sb mb σ'∧tabP T i σ'∧∀ j,j≠i->i ∉ ancN L 6 j->cons j≠some i->(∀ k,cons j=some k->k ∉ ancN L 6 i)->tabP T j ⟨s,m⟩->tabP T j σ'
theorem kS (hB:Lks sb mb ⟨s,m⟩) (hp:tabP T i ⟨(d,α)::s,m⟩) (h1:Znl d sb mb=true:=by rfl) (h2:ZgH L cons T i (Znl d)=true:=by rfl):Did L cons T i sb mb s m ⟨(d,α)::s,m⟩:=⟨hB.slot h1,hp,ZkX h2 fun _ _ h hl=>hl.slot h⟩
theorem kB (hB:Lks sb mb ⟨s,m⟩) (hp:tabP T i ⟨(d,α)::Zav d s,(d,bk)::remM d m⟩) (h1:Ze7 d sb mb=true:=by rfl) (h2:ZgH L cons T i (Ze7 d)=true:=by rfl):Did L cons T i sb mb s m ⟨(d,α)::Zav d s,(d,bk)::remM d m⟩:=⟨hB.born h1,hp,ZkX h2 fun _ _ h hl=>hl.born h⟩
theorem kE (hB:Lks sb mb ⟨s,m⟩) (hp:tabP T i ⟨(d,α)::Zav d (Zav k s),(d,bk)::remM d (remM k m)⟩) (h1:ZkY d k sb mb=true:=by rfl) (h2:ZgH L cons T i (ZkY d k)=true:=by rfl):Did L cons T i sb mb s m ⟨(d,α)::Zav d (Zav k s),(d,bk)::remM d (remM k m)⟩:=⟨hB.ownE h1,hp,ZkX h2 fun _ _ h hl=>hl.ownE h⟩
end
theorem gGk {id:Nat} {l:List Oper} {s:List (Nat × A)} {m:List (Nat × Bk)} (sb:List (Nat × A)) (mb:List (Nat × Bk)) (T:Tab) (cons:Nat->Option Nat) (ini:List Nat) (hB:Lks sb mb ⟨s,m⟩) (hI:∀ j∈ini,tabP T j ⟨s,m⟩) (hS:Zfy e (l.map (·.dst)) l cons ini (Lks sb mb) (tabP T) 0 l) (hK:∀ s' m',Lks sb mb ⟨s',m'⟩->(∀ i,i < l.length∨i∈ini->(∀ k,cons i=some k->l.length<=k)->tabP T i ⟨s',m'⟩)->∃ sf mf,Lks sf mf ⟨s',m'⟩∧Q .normal ⟨sf,mf⟩)
  (hb:ZkJ l=true:=by decide +kernel) (hini:ini.all (fun j=>decide (l.length<=j))=true:=by decide +kernel) (hT:regT l.toArray 0=true:=by decide +kernel):pwp e mask (.region id l.toArray true) ⟨s,m⟩ Q:=fun he U w0 S0 nt a w hok hs=>by
 refine ZiO he hT (K:=fun σ'=>∃ sf mf,Lks sf mf σ'∧Q .normal ⟨sf,mf⟩) (fun a w σ' ⟨sf,mf,h1,h2⟩ h3=>⟨⟨sf,mf⟩,h2,h3.weak (fun t=>ZmT t h1.1) (fun t bk=>ZmU t bk h1.2)⟩) (ZkF hok) hs ?_;simp only [List.take_zero,Runs]
 have:=ZlB (K:=fun σ'=>∃ sf mf,Lks sf mf σ'∧Q .normal ⟨sf,mf⟩) hb hini hS hK l.length (Zbu l.length 0) ⟨s,m⟩ (by simp [Zbu]) (by
  rw [List.countP_eq_length.2]
  ·simp
  ·intro i hi;have hi':=List.mem_range.1 hi;simp [Zbu,hi']) hB (fun j hj=>by
   have h0:(Zbu l.length 0).getD j false=false:=by
    by_cases hjl:j < l.length
    ·simp [Zbu,hjl]
    ·simp [Zbu,hjl]
   rw [h0] at hj
   cases hj) (fun j hj=>.inl (hI j hj))
 simpa using this
end
section
variable {e:Env} {mask:Nat} {Q:PX->St->Prop} {ds:List (Option Nat)} {X:Type}
def tabX (ok:Nat->X->Prop) (T:X->Tab) (j:Nat) (σ:St):Prop:=∃ x,ok j x∧tabP (T x) j σ
abbrev DidX (L:List Oper) (cons:Nat->Option Nat) (ok:Nat->X->Prop) (T:X->Tab) (i:Nat) (sb:List (Nat × A)) (mb:List (Nat × Bk)) (s:List (Nat × A)) (m:List (Nat × Bk)) (σ':St):Prop:=Lks sb mb σ'∧tabX ok T i σ'∧∀ j,j≠i->i ∉ ancN L 6 j->cons j≠some i->(∀ k,cons j=some k->k ∉ ancN L 6 i)->tabX ok T j ⟨s,m⟩->tabX ok T j σ'
section
variable {L:List Oper} {cons:Nat->Option Nat} {ok:Nat->X->Prop} {T:X->Tab} {i:Nat} {sb:List (Nat × A)} {mb:List (Nat × Bk)} {s s2:List (Nat × A)} {m m2:List (Nat × Bk)} {d k:Nat} {α:A} {bk:Bk}
theorem Zi3 {f:List (Nat × A)->List (Nat × Bk)->Bool} {σ σ':St} (h:∀ x,ZgH L cons (T x) i f=true) (hf:∀ sb mb,f sb mb=true->Lks sb mb σ->Lks sb mb σ'):∀ j,j≠i->i ∉ ancN L 6 j->cons j≠some i->(∀ k,cons j=some k->k ∉ ancN L 6 i)->tabX ok T j σ->tabX ok T j σ':=fun j h1 h2 h3 h4 ⟨x,hx,hp⟩=>⟨x,hx,ZkX (h x) hf j h1 h2 h3 h4 hp⟩
theorem xS (hB:Lks sb mb ⟨s,m⟩) (hp:tabX ok T i ⟨(d,α)::s,m⟩) (h1:Znl d sb mb=true:=by rfl) (h2:∀ x,ZgH L cons (T x) i (Znl d)=true:=by intro x;rfl):DidX L cons ok T i sb mb s m ⟨(d,α)::s,m⟩:=⟨hB.slot h1,hp,Zi3 h2 fun _ _ h hl=>hl.slot h⟩
theorem xE (hB:Lks sb mb ⟨s,m⟩) (hp:tabX ok T i ⟨(d,α)::Zav d (Zav k s),(d,bk)::remM d (remM k m)⟩) (h1:ZkY d k sb mb=true:=by rfl) (h2:∀ x,ZgH L cons (T x) i (ZkY d k)=true:=by intro x;rfl):DidX L cons ok T i sb mb s m ⟨(d,α)::Zav d (Zav k s),(d,bk)::remM d (remM k m)⟩:=⟨hB.ownE h1,hp,Zi3 h2 fun _ _ h hl=>hl.ownE h⟩
theorem Lks.bornC {κ:Nat} (h:Lks sb mb ⟨s,m⟩) (hf:(sb.all (fun p=>p.1 != d && !keyB κ p.2) && mb.all (fun p=>p.1 != κ))=true):Lks sb mb ⟨(d,α)::Zav κ s,(κ,bk)::remM κ m⟩:=by
 simp only [Tar,List.all_eq_true,bne_iff_ne,ne_eq,Bool.not_eq_true'] at hf;refine Lks.slot (Lks.own (Lks.kill h ?_) ?_) ?_
 ·simp only [List.all_eq_true,Bool.not_eq_true'];exact fun p hp=>(hf.1 p hp).2
 ·simp only [List.all_eq_true,bne_iff_ne,ne_eq];exact hf.2
 ·simp only [List.all_eq_true,bne_iff_ne,ne_eq];exact fun p hp=>(hf.1 p hp).1
def ZD8 (d κ:Nat) (sb:List (Nat × A)) (mb:List (Nat × Bk)):Bool:=sb.all (fun p=>p.1 != d && !keyB κ p.2) && mb.all (fun p=>p.1 != κ)
theorem xP {κ:Nat} (hB:Lks sb mb ⟨s,m⟩) (hp:tabX ok T i ⟨(d,α)::Zav κ s,(κ,bk)::remM κ m⟩) (h1:ZD8 d κ sb mb=true:=by rfl) (h2:∀ x,ZgH L cons (T x) i (ZD8 d κ)=true:=by intro x;rfl):DidX L cons ok T i sb mb s m ⟨(d,α)::Zav κ s,(κ,bk)::remM κ m⟩:=⟨hB.bornC h1,hp,Zi3 h2 fun _ _ h hl=>hl.bornC h⟩
end
theorem gGp {id:Nat} {l:List Oper} {s:List (Nat × A)} {m:List (Nat × Bk)} (sb:List (Nat × A)) (mb:List (Nat × Bk)) (P:Nat->St->Prop) (cons:Nat->Option Nat) (ini:List Nat) (hB:Lks sb mb ⟨s,m⟩) (hI:∀ j∈ini,P j ⟨s,m⟩) (hS:Zfy e (l.map (·.dst)) l cons ini (Lks sb mb) P 0 l) (hK:∀ s' m',Lks sb mb ⟨s',m'⟩->(∀ i,i < l.length∨i∈ini->(∀ k,cons i=some k->l.length<=k)->P i ⟨s',m'⟩)->∃ sf mf,Lks sf mf ⟨s',m'⟩∧Q .normal ⟨sf,mf⟩)
  (hb:ZkJ l=true:=by decide +kernel) (hini:ini.all (fun j=>decide (l.length<=j))=true:=by decide +kernel) (hT:regT l.toArray 0=true:=by decide +kernel):pwp e mask (.region id l.toArray true) ⟨s,m⟩ Q:=fun he U w0 S0 nt a w hok hs=>by
 refine ZiO he hT (K:=fun σ'=>∃ sf mf,Lks sf mf σ'∧Q .normal ⟨sf,mf⟩) (fun a w σ' ⟨sf,mf,h1,h2⟩ h3=>⟨⟨sf,mf⟩,h2,h3.weak (fun t=>ZmT t h1.1) (fun t bk=>ZmU t bk h1.2)⟩) (ZkF hok) hs ?_;simp only [List.take_zero,Runs]
 have:=ZlB (K:=fun σ'=>∃ sf mf,Lks sf mf σ'∧Q .normal ⟨sf,mf⟩) hb hini hS hK l.length (Zbu l.length 0) ⟨s,m⟩ (by simp [Zbu]) (by
  rw [List.countP_eq_length.2]
  ·simp
  ·intro i hi;have hi':=List.mem_range.1 hi;simp [Zbu,hi']) hB (fun j hj=>by
   have h0:(Zbu l.length 0).getD j false=false:=by
    by_cases hjl:j < l.length
    ·simp [Zbu,hjl]
    ·simp [Zbu,hjl]
   rw [h0] at hj
   cases hj) (fun j hj=>.inl (hI j hj))
 simpa using this
theorem gGx {id:Nat} {l:List Oper} {s:List (Nat × A)} {m:List (Nat × Bk)} (sb:List (Nat × A)) (mb:List (Nat × Bk)) (ok:Nat->X->Prop) (T:X->Tab) (cons:Nat->Option Nat) (ini:List Nat) (hB:Lks sb mb ⟨s,m⟩) (hI:∀ j∈ini,tabX ok T j ⟨s,m⟩) (hS:Zfy e (l.map (·.dst)) l cons ini (Lks sb mb) (tabX ok T) 0 l) (hK:∀ s' m',Lks sb mb ⟨s',m'⟩->(∀ i,i < l.length∨i∈ini->(∀ k,cons i=some k->l.length<=k)->tabX ok T i ⟨s',m'⟩)->∃ sf mf,Lks sf mf ⟨s',m'⟩∧Q .normal ⟨sf,mf⟩)
  (hb:ZkJ l=true:=by decide +kernel) (hini:ini.all (fun j=>decide (l.length<=j))=true:=by decide +kernel) (hT:regT l.toArray 0=true:=by decide +kernel):pwp e mask (.region id l.toArray true) ⟨s,m⟩ Q:=gGp sb mb (tabX ok T) cons ini hB hI hS hK hb hini hT
theorem ZaE {ok:Nat->X->Prop} {T:X->Tab} {i:Nat} {s:List (Nat × A)} {m:List (Nat × Bk)}:tabX ok T i ⟨s,m⟩ ↔ ∃ x,ok i x∧lkS ((T x).getD i ([],[])).1 s∧lkM ((T x).getD i ([],[])).2 m:=exists_congr fun x=>and_congr_right fun _=>ZbN
end
theorem Kept.all1 {D:Prop} {B:Nat} {w w':World} (h:Kept D e1.E B w w') (h1:e1.G w) (h2:e1.G w'):Kept D (fun _=>False) B w w':=⟨h.os,h.tape,h.output,h.drawn,h.size,fun k hk _=>by
 by_cases e:k=2
 ·have k1:ZcY w:=h1;have k2:ZcY w':=h2;subst e;unfold ZcY at k1 k2;exact k2.trans k1.symm
 ·exact h.block k hk e⟩
theorem Con.weaken {e:Env} {f:FuncId} {args args' r:List D} (h:Con e f args' r) (ha:∀ (w:World) (S:Nat->Prop) (vs:List Value),ZaI w S args vs->ZaI w S args' vs):Con e f args r :=
 ⟨h.1,fun w S vs h1 h2 h3 h4=>h.2 w S vs h1 h2 h3 (ha w S vs h4)⟩
theorem ZAG {e:Env} {f:FuncId} {a b:D} {rows:List (List C)} {r:List D} (h:Con e f [a,b,.one (.sl rows)] r):Con e f [a,b,.clip rows] r :=
 h.weaken fun w S vs hv=>by
  match vs,hv with
  | [x,y,z],hv=>exact ⟨hv.1,hv.2.1,hv.2.2.1.1,trivial⟩
structure UU where
 v:Nat->Nat->Value
 E:Nat->Nat->Prop
 s:Nat->List (List Value)
 a:Nat->Option Addr
 c:Nat->Nat
def UU.z:UU:=⟨fun _ _=>.bool true,fun _ _=>False,fun _=>[],fun _=>none,fun _=>0⟩
def UU.ok (x:UU):Prop:=(∀ c k,Zas (.lit (x.v c k))=true)∧∀ c,((x.s c).map Zah).all (fun r=>r.all Zas)=true
theorem UU.z_ok:UU.z.ok:=⟨fun _ _=>rfl,fun _=>rfl⟩
def UU.two (c:Nat) (a b:UU):UU:=⟨fun d=>if d=c then a.v d else b.v d,fun d=>if d=c then a.E d else b.E d,fun d=>if d=c then a.s d else b.s d,fun d=>if d=c then a.a d else b.a d,fun d=>if d=c then a.c d else b.c d⟩
theorem UU.two_ok {c:Nat} {a b:UU} (ha:a.ok) (hb:b.ok):(UU.two c a b).ok:=⟨fun d k=>by
 simp only [UU.two];split
 ·exact ha.1 d k
 ·exact hb.1 d k,fun d=>by
 simp only [UU.two];split
 ·exact ha.2 d
 ·exact hb.2 d⟩
def UU.vs (us:List Value) (E:Nat->Prop):UU:=⟨fun _ k=>us.getD k (.bool true),fun _=>E,fun _=>[],fun _=>none,fun _=>0⟩
theorem UU.vs_ok {us:List Value} {E:Nat->Prop} (h:(Zah us).all Zas=true):(UU.vs us E).ok:=⟨fun c k=>by
 show Zas (.lit (us.getD k (.bool true)))=true;rw [List.getD_eq_getElem?_getD]
 cases hk:us[k]? with
 | none=>rfl
 | some u=>exact List.all_eq_true.1 h (.lit u) (Tbi.2 ⟨u,Tac hk,rfl⟩),fun _=>rfl⟩
theorem UU.v_ok {x:UU} (h:x.ok) (c k:Nat):Zas (.lit (x.v c k))=true:=h.1 c k
def UU.sl (uss:List (List Value)) (a:Option Addr) (cap:Nat) (E:Nat->Prop):UU:=⟨fun _ _=>.bool true,fun _=>E,fun _=>uss,fun _=>a,fun _=>cap⟩
section
variable {X:Type} {L:List Oper} {cons:Nat->Option Nat} {ok:Nat->X->Prop} {T:X->Tab} {i:Nat} {sb:List (Nat × A)} {mb:List (Nat × Bk)} {s:List (Nat × A)} {m:List (Nat × Bk)} {d k:Nat} {α:A} {bk bk2:Bk}
theorem xG {f:List (Nat × A)->List (Nat × Bk)->Bool} {σ':St} (hB:Lks sb mb ⟨s,m⟩) (hm:∀ sb mb,f sb mb=true->Lks sb mb ⟨s,m⟩->Lks sb mb σ') (hp:tabX ok T i σ') (h1:f sb mb=true:=by rfl) (h2:∀ x,ZgH L cons (T x) i f=true:=by intro x;rfl):DidX L cons ok T i sb mb s m σ':=⟨hm _ _ h1 hB,hp,Zi3 h2 hm⟩
end
theorem Zwl {e:Env} {σ:St} {a0:Option Addr} {n cap ety sz:Nat} {rows:List (List C)} (t κ:Nat) (hs:gs σ.s t=.d (.one (.lit (.slice a0 n cap)))) (hm:gm σ.m κ=some (.buf (some (a0,cap)) ety sz rows)) (hn:n=rows.length):Turn e σ (fun σ'=>σ'=⟨(t,.buf κ)::σ.s,σ.m⟩):=by
 intro he U w0 S0 nt a w ⟨S,L,h⟩;refine ⟨_,rfl,S,L,h.cls,fun t'=>?_,h.size,h.defers,h.kept⟩;simp only [gs];split
 ·rename_i e;subst e;have hr:=h.rel t';rw [hs] at hr;have hv:a.tmps.getD t' undef=.slice a0 n cap:=by simpa [ARel,DRel,Rep] using hr
  have h2:=(h.cls.own κ _ hm).1 (a0,cap) rfl;show _=_;rw [hv,h2,hn]
 ·exact h.rel t'
theorem gKk {e:Env} {K:St->Prop} {ds:List (Option Nat)} {os:List Oper} {s:List (Nat × A)} {m:List (Nat × Bk)} {a0:Option Addr} {n cap ety sz:Nat} {rows:List (List C)} (t κ:Nat) (hm:gm m κ=some (.buf (some (a0,cap)) ety sz rows)) (hs:gs s t=.d (.one (.lit (.slice a0 n cap)))) (hn:n=rows.length) (hK:Runs e ds 0 os ⟨(t,.buf κ)::s,m⟩ K):Runs e ds 0 os ⟨s,m⟩ K :=
 Zge (Zwl t κ hs hm hn) fun σ' hσ=>by subst hσ;exact hK
section
variable {e:Env} {σ:St} {o:Oper} {K:St->Prop}
end
section
variable {e:Env} {K:St->Prop} {ds:List (Option Nat)} {os:List Oper} {s:List (Nat × A)} {m:List (Nat × Bk)}
end
structure Wt where
 const:Int
 coefs:List Int
section
variable {g:Sgn} {ws:List Wt} {vs:List Tm} {t:Tm} {o:Opr} {d:Dcl}
end
section
variable {g:Sgn} {ws:List Wt}
end
section
variable {f g:Tm->Int} {vs:List Tm}
end
theorem Zhr {w:World} {S:Nat->Prop}:∀ {us vs:List Value},Zab w S (Zah us) vs->vs=us
 | [],[],_=>rfl
 | u::us,v::vs,h=>by
  obtain ⟨h1,h2⟩:=h;have h1:v=u:=h1;rw [h1,Zhr h2]
 | [],_::_,h=>h.elim
 | _::_,[],h=>h.elim
theorem Kept.noPin {D:Prop} {E:Nat->Prop} {B:Nat} {w w':World} (h:Kept D (fun b=>E b∨ZaW [] b) B w w'):Kept D E B w w' :=
 ⟨h.os,h.tape,h.output,h.drawn,h.size,fun k hk hn=>h.block k hk fun h=>h.elim hn fun ⟨x,hx,_⟩=>by cases hx⟩
theorem ZrZ {e:Env} {f:FuncId} {args:List D} {row:List C} (h:ConP e f args [] (Zb2 row)):Con e f args [.agg row]:=by
 refine ⟨h.1,fun w S vs hS hE hG hv=>(h.2 w S vs hS hE hG (fun x hx=>by cases hx) trivial hv).mono ?_⟩;rintro en w' ⟨v,r,pm',h1,⟨us,E,rfl,hl,hok,rfl⟩,h3,h4,h5,h6,h7⟩;obtain ⟨⟨q1,q2,q3⟩,p2⟩:=h5 _ Tas;obtain ⟨us0,hu0,hr⟩:=h7;have e1:=Zhr hr;subst e1;refine ⟨v,h1,h3.noPin,h4,us0,hu0,Zaf.rep _ _ _ _ (fun g hg=>.inr ⟨?_,(q1 g hg).1⟩) q2⟩;exact (p2 g hg).elim (fun ⟨x,hx,_⟩=>by cases hx) id
inductive Seg
 | lits (us:List Value)
 | sl (E:Nat->Prop) (rows:List (List C)) (u:Value)
 | st (E:Nat->Prop) (cs:List C) (us:List Value)
def segB:List Seg->List Bk
 | []=>[]
 | .lits _::r=>segB r
 | .sl E rows u::r=>.set E (fun w=>Own w (.sl rows) E u)::segB r
 | .st E cs us::r=>.set E (fun w=>Zaf w cs E us)::segB r
def segC:List Seg->List C
 | []=>[]
 | .lits us::r=>Zah us++segC r
 | .sl _ rows _::r=>.sl rows::segC r
 | .st _ cs _::r=>cs++segC r
def segV:List Seg->List Value
 | []=>[]
 | .lits us::r=>us++segV r
 | .sl _ _ u::r=>u::segV r
 | .st _ _ us::r=>us++segV r
theorem Zaf.app {w:World} {S S1 S2:Nat->Prop} {ds:List C} {vs:List Value} (h2:Zaf w ds S2 vs) (i2:∀ x,S2 x->S x):∀ {cs:List C} {us:List Value} {S1:Nat->Prop},Zaf w cs S1 us->(∀ x,S1 x->S x)->(∀ x,S1 x->S2 x->False)->Zaf w (cs++ds) S (us++vs)
 | [],[],_,_,_,_=>Zaf.keep (Tai _) ds S2 S vs (fun _ _=>rfl) i2 h2
 | c::cs,u::us,T,h,i1,hd=>by
  simp only [Zaf] at h;obtain ⟨T1,T2,a1,a2,a3,a4,a5⟩:=h;have h3:Zaf w (cs++ds) (fun x=>T2 x∨S2 x) (us++vs):=Zaf.app (S:=fun x=>T2 x∨S2 x) (S1:=T2) h2 (fun _ h=>.inr h) a5 (fun _ h=>.inl h) fun x hx=>hd x (a2 x hx);exact Zaf.cons T1 (fun x=>T2 x∨S2 x) a4 h3 (fun x hx=>i1 x (a1 x hx)) (fun x hx=>hx.elim (fun q=>i1 x (a2 x q)) (i2 x)) fun x hx hy=>hy.elim (a3 x hx) (hd x (a1 x hx))
 | [],_::_,_,h,_,_=>by simp [Zaf] at h
 | _::_,[],_,h,_,_=>by simp [Zaf] at h
theorem Zaf.lits {w:World}:∀ {us:List Value},Zaf w (Zah us) (fun _=>False) us
 | []=>Zaf.nil
 | u::us=>Zaf.lit Zaf.lits
theorem Zja {w:World} {S:Nat->Prop}:∀ {ss:List Seg},(∀ x∈segB ss,Zcg w S x)->ZcE (segB ss)->Zaf w (segC ss) (ZaW (segB ss)) (segV ss)
 | [],_,_=>Zaf.nil
 | .lits us::r,h,ha=>Zaf.app (S1:=fun _=>False) (Zja (ss:=r) h ha) (fun _ q=>q) Zaf.lits (fun _ q=>q.elim) fun _ q=>q.elim
 | .sl E rows u::r,h,⟨a1,a2⟩=>Zaf.cons E (ZaW (segB r)) (h _ Tas).2.1 (Zja (fun x hx=>h x (Tal _ hx)) a2) (fun b q=>⟨_,Tas,q⟩) (fun b ⟨x,hx,q⟩=>⟨x,Tal _ hx,q⟩) fun b q ⟨x,hx,q2⟩=>a1 x hx b q q2
 | .st E cs us::r,h,⟨a1,a2⟩=>Zaf.app (S1:=E) (Zja (fun x hx=>h x (Tal _ hx)) a2) (fun b ⟨x,hx,q⟩=>⟨x,Tal _ hx,q⟩) (h _ Tas).2.1 (fun b q=>⟨_,Tas,q⟩) fun b q ⟨x,hx,q2⟩=>a1 x hx b q q2
theorem Zjb:∀ {ss:List Seg} {y:Bk},y∈segB ss->∃ E G,y=.set E G
 | .lits _::r,y,h=>Zjb (ss:=r) h
 | .sl _ _ _::r,y,h=>by
  rcases Tbg.1 h with rfl | h
  ·exact ⟨_,_,rfl⟩
  ·exact Zjb h
 | .st _ _ _::r,y,h=>by
  rcases Tbg.1 h with rfl | h
  ·exact ⟨_,_,rfl⟩
  ·exact Zjb h
 | [],_,h=>by cases h
theorem ZfO (ss:List Seg):Zbe (segB ss) [.set (ZaW (segB ss)) (fun w=>Zaf w (segC ss) (ZaW (segB ss)) (segV ss))]:=fun w S h ha=>by
 have hv:=Zja (w:=w) (S:=S) h ha;refine ⟨fun x hx=>?_,ZeQ _,fun g ⟨x,hx,hg⟩=>?_⟩
 ·simp only [Tbg,List.not_mem_nil,or_false] at hx;subst hx;refine ⟨fun b ⟨y,hy,hg⟩=>?_,hv,Zaf.stable _ _ _⟩;obtain ⟨E',G',rfl⟩:=Zjb hy;exact (h _ hy).1 b hg
 ·simp only [Tbg,List.not_mem_nil,or_false] at hx;subst hx;exact hg
theorem ZgT {α:Type} (A:List α) (z x:α) (k:Nat) (i:Nat) (hi:i=A.length):(A++List.replicate (k+1) z).set i x=(A++[x])++List.replicate k z:=by
 subst hi;rw [List.set_append_right _ _ (Tai _),Nat.sub_self,List.replicate_succ,List.set_cons_zero,Tbf];rfl
theorem tks {α:Type} {l:List α} {i:Nat} {x:α} (h:l[i]?=some x):l.take (i+1)=l.take i++[x]:=by simp [List.take_add_one,h]
theorem tk0 (l:List (List C)):l.take 0=[]:=rfl
theorem nla (l:List (List C)):[]++l=l:=rfl
theorem ZEb (u:Value):Zah [u]=[.lit u]:=rfl
theorem ZcZ {e:Env} {f:FuncId} {rows:List (List C)} {post r:List D} (hb:Zcr e.P f=true) (h:rows.length<=maxLen->Con e f (.one (.sl rows)::post) r):Con e f (.one (.sl rows)::post) r:=⟨hb,fun w S vs hS hE hG hv=>by
 match vs,hv with
 | v::vs,⟨h1,h2⟩ =>
  have h1':Rep w S (.sl rows) v:=h1;obtain ⟨A,n,cap,rfl,hn,hc,hm⟩:=h1'.form;exact (h om).2 w S _ hS hE hG ⟨h1,h2⟩⟩
theorem Zhs:bulkRows []=0:=by simp [bulkRows]
def Zp2:F->Bool
 | .int=>true
 | .bool=>true
 | _=>false
theorem ZFN {fs:List F}:∀ {r:List C},fs.all Zp2=true->Zan fs r->bulkRow r=0:=by
 induction fs with
 | nil=>intro r _ h;cases r with
  | nil=>simp [bulkRow]
  | cons _ _=>simp [Zan] at h
 | cons f fs ih =>
  intro r hf h
  cases r with
  | nil=>simp [Zan] at h
  | cons c cs =>
   simp only [Zan] at h;simp only [List.all_cons,Tar] at hf;have h2:=ih hf.2 h.2
   cases f with
   | int=>obtain ⟨n,rfl,_⟩:=Zds h.1;simp [bulkRow,ZbG,h2]
   | bool=>obtain ⟨n,rfl⟩:=ZlG h.1;simp [bulkRow,ZbG,h2]
   | str=>simp [Zp2] at hf
   | sl t=>simp [Zp2] at hf
theorem Zwq {fs:List F} (hf:fs.all Zp2=true):∀ {rows:List (List C)},Zam fs rows->bulkRows rows=0
 | [],_=>Zhs
 | r::rs,h=>by
  simp only [Zam] at h;simp [bulkRows,ZFN hf h.1,Zwq hf h.2]
def Znw (a:Option Addr) (cap:Nat) (rows:List (List C)):List D->List D->Prop
 | [],[]=>True
 | l::ls,d::ds=>(l=d∨(l=.one (.lit (.slice a rows.length cap))∧d=.one (.sl rows)))∧Znw a cap rows ls ds
 | _,_=>False
theorem Znw.rel {a:Option Addr} {cap ety sz:Nat} {rows:List (List C)}:∀ {lits data:List D},Znw a cap rows lits data->∀ (w:World) (S:Nat->Prop) (vs:List Value),ZaO w S ety sz rows (.slice a rows.length cap)->ZaI w S lits vs->ZaI w (fun b=>S b∨vblk (.slice a rows.length cap)=some b) data vs
 | [],[],_,w,S,[],_,_=>trivial
 | [],[],_,w,S,_::_,_,h=>h.elim
 | l::ls,d::ds,hr,w,S,[],_,h=>h.elim
 | l::ls,d::ds,⟨h1,h2⟩,w,S,v::vs,hp,⟨hv,hvs⟩=>by
  refine ⟨?_,Znw.rel h2 w S vs hp hvs⟩;rcases h1 with rfl | ⟨rfl,rfl⟩
  ·exact DRel.keep (Tai _) (fun _ _ _=>rfl) (fun b hb=>.inl hb) hv
  ·have hv:v=.slice a rows.length cap:=hv;subst hv;exact hp.rep
 | [],_::_,h,_,_,_,_,_=>h.elim
 | _::_,[],h,_,_,_,_,_=>h.elim
def nxR (z:Int):List Int->List Int × Bool
 | []=>([],false)
 | x::r=>if x+1 < z then ((x+1)::r,true) else (0::(nxR z r).1,(nxR z r).2)
def nxt (z:Int) (xs:List Int):List Int:=(nxR z xs.reverse).1.reverse
def nxB (z:Int) (xs:List Int):Bool:=(nxR z xs.reverse).2
theorem Zis {z:Int} (hz:1<=z):∀ {r:List Int},Zcn z r->(nxR z r).1.length=r.length∧Zcn z (nxR z r).1∧((nxR z r).2=true->numL z (nxR z r).1=numL z r+1)∧((nxR z r).2=false->numL z r+1=z ^ r.length)
 | [],_=>by simp [nxR,numL,Zcn]
 | x::r,h=>by
  obtain ⟨x0,x1⟩:=h x (by simp);have hr:Zcn z r:=fun y hy=>h y (by simp [hy]);obtain ⟨h1,h2,h3,h4⟩:=Zis hz hr;simp only [nxR];split
  ·rename_i hlt;refine ⟨by simp,fun y hy=>?_,fun _=>by simp only [numL];omega,fun h=>by cases h⟩;rcases Tbg.1 hy with rfl | hy
   ·exact ⟨om,hlt⟩
   ·exact hr y hy
  ·rename_i hge;have ex:x=z - 1:=om;refine ⟨by simp [h1],fun y hy=>?_,fun hb=>?_,fun hb=>?_⟩
   ·rcases Tbg.1 hy with rfl | hy
    ·exact ⟨Int.le_refl _,om⟩
    ·exact h2 y hy
   ·have:=h3 hb;simp only [numL] at this ⊢;rw [this,Int.mul_add,ex];omega
   ·have:=h4 hb;simp only [numL,Tag,Int.pow_succ];rw [<- this,Int.add_mul,ex,Int.mul_comm (numL z r) z];omega
theorem Zit {z:Int} (hz:1<=z) {xs:List Int} (h:Zcn z xs):(nxt z xs).length=xs.length:=by
 have:=(Zis hz (r:=xs.reverse) fun y hy=>h y (by simpa using hy)).1;simpa [nxt] using this
theorem Zkt {z:Int} (hz:1<=z) {xs:List Int} (h:Zcn z xs):Zcn z (nxt z xs):=by
 have:=(Zis hz (r:=xs.reverse) fun y hy=>h y (by simpa using hy)).2.1;exact fun y hy=>this y (by simpa [nxt] using hy)
theorem ZE1 {z:Int} (hz:1<=z) {xs:List Int} (h:Zcn z xs) (hb:nxB z xs=true):numB z (nxt z xs)=numB z xs+1:=by
 have:=(Zis hz (r:=xs.reverse) fun y hy=>h y (by simpa using hy)).2.2.1 hb;simpa [numB,nxt] using this
theorem ZCv {z:Int} (hz:1<=z) {xs:List Int} (h:Zcn z xs) (hb:nxB z xs=false):numB z xs+1=z ^ xs.length:=by
 have:=(Zis hz (r:=xs.reverse) fun y hy=>h y (by simpa using hy)).2.2.2 hb;simpa [numB] using this
theorem ZCw {z:Int} (p:List Int) (x:Int):nxt z (p++[x])=(if x+1 < z then p++[x+1] else nxt z p++[0])∧nxB z (p++[x])=(if x+1 < z then true else nxB z p):=by
 unfold nxt nxB;rw [List.reverse_append,List.reverse_singleton,List.singleton_append,nxR];split <;> simp
def oRow (xs:List Int) (m:Nat):List (List C):=(xs.take m++List.replicate (xs.length - m) 0).map encInt
def oMid (xs:List Int) (i:Nat) (y:Int):List (List C):=(xs.take i++y::List.replicate (xs.length - (i+1)) 0).map encInt
theorem ZFO (xs:List Int):oRow xs xs.length=xs.map encInt:=by simp [oRow]
theorem ZCx {xs:List Int} {i:Nat} {x:Int} (h:xs[i]?=some x):oRow xs (i+1)=oMid xs i x:=by
 simp [oRow,oMid,List.take_add_one,h]
theorem ZFP {xs:List Int} {i:Nat} (h:i < xs.length):oMid xs i 0=oRow xs i:=by
 rw [oRow,oMid,show xs.length - i=(xs.length - (i+1))+1 by omega,List.replicate_succ]
theorem ZCy {xs:List Int} {i:Nat} {y:Int} (h:i < xs.length):(oMid xs i y).length=xs.length:=by
 simp only [oMid,Tay,Tae,Taw,Tag,Tbr];omega
theorem ZCz {xs:List Int} {i:Nat} {y:Int} (h:i < xs.length):(oMid xs i y)[i]?=some [.lit (.int .i64 y)]:=by
 have hl:(xs.take i).length=i:=by rw [Taw];omega
 rw [oMid,Tba,Tbq om,hl,Nat.sub_self];rfl
theorem ZCA {xs:List Int} {i:Nat} {y y':Int} (h:i < xs.length):(oMid xs i y).set i [.lit (.int .i64 y')]=oMid xs i y':=by
 have hl:(xs.take i).length=i:=by rw [Taw];omega
 have e:∀ v:Int,oMid xs i v=(xs.take i).map encInt++(encInt v::(List.replicate (xs.length - (i+1)) (0:Int)).map encInt):=fun v=>by simp [oMid]
 rw [e,e,List.set_append_right _ _ (by simp;omega)];simp [hl,encInt,Nat.min_eq_left (Nat.le_of_lt h)]
theorem ZAT (xs:List Int) (i:Nat) (y:Int):ZaC 1 (oMid xs i y)=true:=Zh9 _
theorem ZCB {xs:List Int} {m:Nat} (h:m<=xs.length):(oRow xs m).length=xs.length:=by
 simp only [oRow,Tay,Tae,Taw,Tbr];omega
def RNx (a:Option Addr) (cap:Nat) (b:Bool) (ys:List Int) (r:List D) (pm:List Bk):Prop:=r=[.one (.lit (.bool b))]∧pm=[.buf (some (a,cap)) 3 1 (ys.map encInt)]
theorem ZgI {z:Int} {xs:List Int} (h1z:1<=z) (hz4:z<=1048576) (hx:Zcn z xs) (hl:xs.length<=1000) (a:Option Addr) (cap:Nat):ConP e0 32 [.one (.lit (.slice a xs.length cap)),.one (.lit (.int .i64 z))] [.buf (some (a,cap)) 3 1 (xs.map encInt)] (RNx a cap (nxB z xs) (nxt z xs)):=by
 have hw0:IntKind.i64.wrap ((xs.length:Int) - 1)=(xs.length:Int) - 1:=IntWalk.i64_in _ om;have hrow:=Zh9 xs;rw [<- ZFO xs] at hrow ⊢;have hln:=ZCB (Tai xs.length);refine gIP (ts:=[.slot 4]) [1000] 16778291 Tryz.func32 ?_;refine fG (aj3 @hrow @hln @hw0) ?_;have F:=@e0P;refine gL (ι:=Nat) [4,5,10,24] [1000] (fun m=>[(5,.d (.one (.lit (.int .i64 ((m:Int) - 1)))))]) (fun m=>[(1000,.buf (some (a,cap)) 3 1 (oRow xs m))]) (fun m=>m<=xs.length∧nxt z xs=nxt z (xs.take m)++List.replicate (xs.length - m) 0∧nxB z xs=nxB z (xs.take m)) (fun m=>m) (xs.length) (⟨Tai _,by simp,by simp⟩) (fun m hm=>?_);clear F
 obtain ⟨hmn,hnx,hnb⟩:=hm;rcases m with _ | i
 ·have hr0:(oRow xs 0)=(nxt z xs).map encInt:=by rw [hnx];simp [oRow,nxt,nxR]
  have hb0:nxB z xs=false:=by rw [hnb];simp [nxB,nxR]
  have e0':(((0:Nat):Int) - 1)=-1:=rfl;rw [e0',hb0];have q1:((0:Int)<=-1)=False:=eq_false (by decide);refine fG @q1 ?_;rw [hr0];exact (have F:=q1;gTP (R:=RNx a cap false (nxt z xs)) [1000] ⟨rfl,rfl⟩)
 ·obtain ⟨x,hxi⟩:∃ x,xs[i]?=some x:=⟨_,Taa om⟩;have hil:i < xs.length:=om;obtain ⟨x0,x1⟩:=hx x (Tac hxi);have e1:(((i+1:Nat):Int) - 1)=(i:Int):=om;rw [e1,ZCx hxi];have q1:((0:Int)<=(i:Int))=True:=eq_true om;have hlm:=fun y=>ZCy (xs:=xs) (y:=y) hil;have hgm:=fun y=>ZCz (xs:=xs) (y:=y) hil;have hsm:=fun y y'=>ZCA (xs:=xs) (y:=y) (y':=y') hil;have hrm:=ZAT xs i;have hw1:IntKind.i64.wrap (x+1)=x+1:=IntWalk.i64_in _ om
  have hw2:IntKind.i64.wrap ((i:Int) - 1)=(i:Int) - 1:=IntWalk.i64_in _ om;have htk:xs.take (i+1)=xs.take i++[x]:=by rw [List.take_add_one,hxi];rfl
  obtain ⟨s1,s2⟩:=ZCw (z:=z) (xs.take i) x;rw [htk,s1] at hnx;rw [htk,s2] at hnb;by_cases hlt:x+1 < z
  ·rw [if_pos hlt] at hnx hnb;have q2:(x+1 < z)=True:=eq_true hlt;have hfin:oMid xs i (x+1)=(nxt z xs).map encInt:=by rw [hnx,oMid,Tbf];rfl
   rw [hnb];refine fG (aj8 @q1 @q2 @hlm @hgm @hsm @hrm @hw1 @hil) ?_;rw [hfin];exact (have F:=q1;gTP (R:=RNx a cap true (nxt z xs)) [1000] ⟨rfl,rfl⟩)
  ·rw [if_neg hlt] at hnx hnb;have q2:(x+1 < z)=False:=eq_false hlt;have hrs:=ZFP hil;have hq:i<=xs.length∧nxt z xs=nxt z (xs.take i)++List.replicate (xs.length - i) 0∧nxB z xs=nxB z (xs.take i):=⟨om,by rw [hnx,Tbf,show xs.length - i=(xs.length - (i+1))+1 by omega,List.replicate_succ];rfl,hnb⟩;have F:=aj10 @q1 @q2 @hlm @hgm @hsm @hrm @hrs @hw1 @hw2 @hil;refine gG ?_;exact ⟨i,hq,gw,gw,om⟩
def Zjc (pm:List Bk) (l d:D):Prop:=l=d∨(∃ us row E,l=.agg (Zah us)∧d=.agg row∧.set E (fun w=>Zaf w row E us)∈pm)∨(∃ v rows E,l=.one (.lit v)∧d=.one (.sl rows)∧.set E (fun w=>Own w (.sl rows) E v)∈pm)
def Zk1 (pm:List Bk):List D->List D->Prop
 | [],[]=>True
 | l::ls,d::ds=>Zjc pm l d∧Zk1 pm ls ds
 | _,_=>False
theorem Zjc.same {pm:List Bk} {d:D}:Zjc pm d d:=.inl rfl
theorem Zjc.tree {pm:List Bk} {us:List Value} {row:List C} {E:Nat->Prop} (h:.set E (fun w=>Zaf w row E us)∈pm):Zjc pm (.agg (Zah us)) (.agg row):=.inr (.inl ⟨us,row,E,rfl,rfl,h⟩)
theorem Zjc.treeS {pm:List Bk} {v:Value} {rows:List (List C)} {E:Nat->Prop} (h:.set E (fun w=>Own w (.sl rows) E v)∈pm):Zjc pm (.one (.lit v)) (.one (.sl rows)):=.inr (.inr ⟨v,rows,E,rfl,rfl,h⟩)
theorem Zk1.rel {pm:List Bk}:∀ {lits data:List D},Zk1 pm lits data->∀ (w:World) (S:Nat->Prop) (vs:List Value),(∀ x∈pm,Zcg w S x)->ZaI w S lits vs->ZaI w (fun b=>S b∨ZaW pm b) data vs
 | [],[],_,w,S,[],_,_=>trivial
 | [],[],_,w,S,_::_,_,h=>h.elim
 | l::ls,d::ds,hr,w,S,[],_,h=>h.elim
 | l::ls,d::ds,⟨h1,h2⟩,w,S,v::vs,hp,⟨hv,hvs⟩=>by
  refine ⟨?_,Zk1.rel h2 w S vs hp hvs⟩;rcases h1 with rfl | ⟨us,row,E,rfl,rfl,hm⟩ | ⟨u,rows,E,rfl,rfl,hm⟩
  ·exact DRel.keep (Tai _) (fun _ _ _=>rfl) (fun b hb=>.inl hb) hv
  ·obtain ⟨vs',rfl,hr⟩:=hv;rw [ZhX hr];obtain ⟨_,h3,_⟩:=hp _ hm;exact ⟨us,rfl,Zaf.rep row E _ us (fun b hb=>.inr ⟨_,hm,hb⟩) h3⟩
  ·have hv:v=u:=hv;subst hv;obtain ⟨_,h3,_⟩:=hp _ hm;exact (Own.rep _ E v h3).mono fun b hb=>.inr ⟨_,hm,hb⟩
 | [],_::_,h,_,_,_,_,_=>h.elim
 | _::_,[],h,_,_,_,_,_=>h.elim
theorem Zvf {e:Env} {f:FuncId} {data lits:List D} {R:List D->List Bk->Prop} (pm:List Bk) (h:ConP e f data [] R) (hr:Zk1 pm lits data) (hset:pm.all Zed=true) (hR:∀ r q,R r q->r.all litD=true∧q.all Zed=true):ConP e f lits pm (fun r q=>∃ q1,R r q1∧q=q1++pm) :=
 ZAf pm h hset hR hr.rel
theorem Zht {e:Env} {f:FuncId} {data lits r:List D} (pm:List Bk) (h:Con e f data r) (hr:Zk1 pm lits data) (hset:pm.all Zed=true) (hl:r.all litD=true):ConP e f lits pm (fun r' q=>r'=r∧q=pm):=by
 have hc:=Zvf pm (ZF9 h) hr hset (fun r' q ⟨h1,h2⟩=>by rw [h1,h2];exact ⟨hl,rfl⟩);refine ⟨hc.1,fun w S vs h1 h2 h3 h4 h5 h6=>(hc.2 w S vs h1 h2 h3 h4 h5 h6).mono ?_⟩;rintro en w' ⟨v,r',q,k1,⟨q1,⟨rfl,rfl⟩,rfl⟩,k3⟩;exact ⟨v,r',_,k1,⟨rfl,rfl⟩,k3⟩
theorem ZlE (us:List Value):(Zah us).all litC=true:=by
 induction us with
 | nil=>rfl
 | cons u us ih=>simp only [Zah,Tbv,List.all_cons,litC,Bool.true_and];exact ih
theorem Zb2.lits {row:List C} {r:List D} {q:List Bk} (h:Zb2 row r q):r.all litD=true∧q.all Zed=true:=by
 obtain ⟨us,E,rfl,_,_,rfl⟩:=h;exact ⟨by simp only [List.all_cons,List.all_nil,litD,ZlE];rfl,rfl⟩
theorem Zct.lits {rows:List (List C)} {r:List D} {q:List Bk} (h:Zct rows r q):r.all litD=true∧q.all Zed=true:=by
 obtain ⟨v,E,rfl,_,rfl⟩:=h;exact ⟨rfl,rfl⟩
def ZAW (row:List C) (b:Bool) (r:List D) (pm:List Bk):Prop:=∃ us E,r=[.agg (Zah us),.one (.lit (.bool b))]∧us.length=row.length∧(Zah us).all Zas=true∧pm=[.set E (fun w=>Zaf w row E us)]
theorem ZAW.lits {row:List C} {b:Bool} {r:List D} {q:List Bk} (h:ZAW row b r q):r.all litD=true∧q.all Zed=true:=by
 obtain ⟨us,E,rfl,_,_,rfl⟩:=h;exact ⟨by simp only [List.all_cons,List.all_nil,litD,ZlE];rfl,rfl⟩
def Zc0 (rows:List (List C)) (b:Bool) (r:List D) (pm:List Bk):Prop:=∃ v E,r=[.one (.lit v),.one (.lit (.bool b))]∧Zas (.lit v)=true∧pm=[.set E (fun w=>Own w (.sl rows) E v)]
theorem Zc0.lits {rows:List (List C)} {b:Bool} {r:List D} {q:List Bk} (h:Zc0 rows b r q):r.all litD=true∧q.all Zed=true:=by
 obtain ⟨v,E,rfl,_,rfl⟩:=h;exact ⟨rfl,rfl⟩
theorem ZfP {r:List C} (h:Zan (Zae .bindings) r):∃ r0,r=[.sl r0]∧Zam (Zae .binding) r0:=by
 obtain ⟨c0,rfl⟩:=len1 h.len;simp only [Zae,Zan,and_true] at h;obtain ⟨r0,rfl,g0⟩:=Zet h;exact ⟨r0,rfl,g0⟩
theorem Zog {r0:List (List C)} (g0:Zam (Zae .binding) r0):Zan (Zae .bindings) [.sl r0]:=by
 simp only [Zae,Zan,and_true];exact Zhx g0
section
variable {e:Env} {K:St->Prop} {mask:Nat} {Q:PX->St->Prop} {s:List (Nat × A)} {m:List (Nat × Bk)}
def naB (l:List Oper) (n:Nat):Bool:=match (l.take n).getLast? with
 | some o=>!isAl o
 | none=>true
theorem Zs2 {l:List Oper} {n:Nat} {σ:St} (hN:naB l n=true) (hB:regB l.toArray n=true) (hp:Runs e (l.map (·.dst)) n l σ K):ZcK e l.toArray K l.length (Array.replicate l.length false) σ:=by
 intro he U w0 S0 nt a w hd hs;have:=ZhN (ops:=l.toArray) he hB (fun o ho=>by
  unfold naB at hN;have ho':(l.take n).getLast?=some o:=by simpa using ho
  rw [ho'] at hN;simpa using hN) (K:=K) (Q:=QN e U w0 S0 nt K) (fun a w σ' hK hs'=>⟨rfl,σ',hK,hs'⟩) hd hs (by simpa using hp)
 simpa using this
theorem gLu {id:Nat} {l l':List Oper} {ds:List (Option Nat)} (n i k:Nat) (hK:Runs e ds n l' ⟨s,m⟩ (ZcX mask Q)) (hl:addL i k l=l':=by simp only [addL];exact rfl) (hds:l'.map (·.dst)=ds:=by simp only [Tbv,List.map_nil];exact rfl)
  (hc:Znc l.toArray i k=true:=by decide +kernel) (hA:naB l' n=true:=by decide +kernel) (hr:regB l'.toArray n=true:=by decide +kernel):pwp e mask (.region id l.toArray true) ⟨s,m⟩ Q:=by
 subst hl hds;have h1:=Znd hc (by have:=Zs2 hA hr hK;rwa [ZiY] at this);exact ZhL (ops:=l.toArray) (by simpa using h1)
end
theorem Zws {e:Env} {f:FuncId} {args:List D} {rows:List (List C)} {b:Bool} (h:ConP e f args [] (Zc0 rows b)):Con e f args [.one (.sl rows),.one (.lit (.bool b))]:=by
 refine ⟨h.1,fun w S vs hS hE hG hv=>(h.2 w S vs hS hE hG (fun x hx=>by cases hx) trivial hv).mono ?_⟩;rintro en w' ⟨v,r,pm',h1,⟨u,E,rfl,hok,rfl⟩,h3,h4,h5,h6,h7⟩;obtain ⟨⟨q1,q2,q3⟩,p2⟩:=h5 _ Tas;obtain ⟨vs',hvs,hd⟩:=h7
 match vs',hd with
 | [u0,u1],⟨hu,hb,_⟩ =>
  have hu:u0=u:=hu;subst hu;exact ⟨v,h1,h3.noPin,h4,[u0,u1],hvs,(Own.rep (.sl rows) E u0 q2).mono fun g hg=>.inr ⟨(p2 g hg).elim (fun ⟨x,hx,_⟩=>by cases hx) id,(q1 g hg).1⟩,hb,trivial⟩
def Zdr (f:FuncId) (rows:List (List C)):Prop:=∀ (k:Int) (E:Nat->Prop) (v:Value),0<=k->k+cntRows rows<=1000000000->ConP e0 f [.one (.lit v),.one (.lit (.int .i64 k))] [.set E (fun w=>Own w (.sl rows) E v)] (fun r pm=>∃ E',r=[.one (.lit (.int .i64 (k+cntRows rows)))]∧pm=[.set E' (fun w=>Own w (.sl (Zal k rows)) E' v)])
theorem Zcx (k:Int):Zal k []=[]:=by simp only [Zal]
theorem Zd0:cntRows []=0:=by simp only [cntRows]
theorem ZfQ {α:Type} {l:List α} {i:Nat} (h:i < l.length) (x:α):(l.set i x)[i]?=some x:=by simp [h]
theorem ZaS {α:Type} (l:List α) (i:Nat) (x:α):(l.set i x).length=l.length:=Taz
theorem ZaZ {α:Type} (l:List α) (i:Nat) (x y:α):(l.set i x).set i y=l.set i y:=List.set_set ..
theorem ZeF {α:Type} {l:List α} {i:Nat} {x:α} (h:i < l.length):(l.set i x).take (i+1)=l.take i++[x]:=by
 rw [Zb9 (x:=x) (by simp [h]),List.take_set_of_le (Tai _)]
theorem Zfb {α:Type} (l:List α) (i:Nat) (x:α):(l.set i x).drop (i+1)=l.drop (i+1):=List.drop_set_of_lt om
theorem Zwt (rows:List (List C)) (hok:Zam (Zae .term) rows) (h:∀ r∈rows,∀ i0 t1 i2 r3,r=[.lit (.int .i64 i0),.lit (.string t1),.lit (.int .i64 i2),.sl r3]->Zdr 45 r3):Zdr 45 rows:=by
 intro k E v hk hb;refine gIP (ts:=[.slot 4]) [1000] 563 Tryz.func45 ?_;refine fG @e0P ?_;by_cases hne:rows=[]
 ·subst hne;refine pEx [1000] [1000] Zgo ?_;rintro ⟨a,cap⟩ rfl;have F:=@hk;refine gL (ι:=Unit) [1,5,9] [] (fun x=>[(5,.d (.one (.lit (.int .i64 0)))),(1,.d (.one (.lit (.int .i64 k))))]) (fun x=>[]) (fun x=>True) (fun x=>0) (()) (trivial) (fun x hx=>?_);clear F;have q1:((0:Int) < 0)=False:=eq_false (by decide);have q2:((0:Int) < ((0:Nat):Int))=False:=eq_false (by decide);refine fG (ai @q1 @q2) ?_;have F:=hk
  refine gTP (R:=fun r pm=>∃ E',r=[.one (.lit (.int .i64 (k+(cntRows []:Nat))))]∧pm=[.set E' (fun w=>Own w (.sl (Zal k [])) E' (.slice a 0 cap))]) [1000] ⟨E,by simp only [cntRows,Int.natCast_zero,Int.add_zero];rfl,by simp only [Zal];rfl⟩
 ·have hrl:rowsLen 4 rows:=Zam.rowsLen hok;refine pEx [1000] [1000,1001] (Zfg hne hrl) ?_;rintro ⟨a,cap,ety,uss,E1⟩ ⟨rfl,hl,hmx⟩;simp only at hl ⊢;unfold maxLen at hmx;refine pE [] [1002] Zb4 ?_;have F:=aj4 @Zcx @Zd0 @Int.add_zero @Int.natCast_zero;refine gL (ι:=Nat × List (List Value) × (Nat->Prop) × (Nat->Prop)) [1,5,9] [1000,1001,1002] (fun x=>[(5,.d (.one (.lit (.int .i64 (x.1:Int))))),(1,.d (.one (.lit (.int .i64 (k+(cntRows (rows.take x.1):Nat))))))]) (fun x=>[(1000,.buf (some (a,cap)) ety 4 (x.2.1.map Zah)),(1001,.set x.2.2.1 (fun w=>Zao w (rows.drop x.1) x.2.2.1 (x.2.1.drop x.1))),(1002,.set x.2.2.2 (fun w=>Zao w (Zal k (rows.take x.1)) x.2.2.2 (x.2.1.take x.1)))]) (fun x=>x.1<=rows.length∧x.2.1.length=rows.length) (fun x=>rows.length - x.1) ((0,uss,E1,fun _=>False)) (⟨Taj _,hl⟩) (fun x hx=>?_);clear F
  obtain ⟨i,us,E2,E3⟩:=x;obtain ⟨hi,hn⟩:=hx;simp only at hi hn;dsimp only;by_cases hlt:i < rows.length
  ·obtain ⟨r,hr⟩:∃ r,rows[i]?=some r:=⟨_,Taa hlt⟩;obtain ⟨u,hu⟩:∃ u,us[i]?=some u:=⟨_,Taa om⟩;obtain ⟨i0,t1,i2,r3,rfl,_,_,_,g3⟩:=Zda (hok.get hr);have hm:=h _ (Tac hr) i0 t1 i2 r3 rfl;have hc1:cntRows (rows.take (i+1))=cntRows (rows.take i)+(3+cntRows r3):=by
    rw [Zb9 hr,Zc2];simp only [ZbV,cntC];omega
   have hc2:=Zce rows (i+1);rw [Zch hr,Zch hu];refine pEx [1001] [1001] (Zfh rfl) ?_;rintro ⟨⟩ hlit;obtain ⟨u3,rfl⟩:∃ u3,u=[.int .i64 i0,.string t1,.int .i64 i2,u3]:=by
    match u,hlit with
    | [_,_,_,u3],⟨rfl,rfl,rfl,_⟩=>exact ⟨u3,rfl⟩
   refine pEx (f:=fun (x:(Nat->Prop) × (Nat->Nat->Prop))=>[.set x.1 (fun w=>Zao w (rows.drop (i+1)) x.1 (us.drop (i+1))),.set (x.2 0) (fun w=>Own w (.sl r3) (x.2 0) u3)]) [1001] [1001,1003] (Zgp rfl) ?_;rintro ⟨E4,Es⟩ -;dsimp only;generalize hkk:k+(cntRows (rows.take i):Int)=kk;have q1:=lT i rows.length;have q2:i < rows.length:=hlt;have hs:∀ X:List C,((us.map Zah).set i X)[i]?=some X:=fun X=>ZfQ (by rw [ZaH,hn];omega) X
   have w1:IntKind.i64.wrap (kk+1)=kk+1:=IntWalk.i64_in _ om;have w2:IntKind.i64.wrap (kk+1+1)=kk+1+1:=IntWalk.i64_in _ om;have w3:IntKind.i64.wrap (kk+1+1+1)=kk+1+1+1:=IntWalk.i64_in _ om;have w4:IntKind.i64.wrap ((i:Int)+1)=(i:Int)+1:=IntWalk.i64_in _ om;refine fB (aj13 @q1 @hl @hn @hu @Zel @ZaH @ZaS @hs @w1 @w2 @w3 @q2 @ZaZ) ?_;refine fC @q1 (ZcT (kk+1) om om) ?_;refine fR (aj9 @hl @hn @hu @Zel @ZaH @ZaS @hs @q2 @ZaZ) ?_
   refine fB (aj13 @q1 @hl @hn @hu @Zel @ZaH @ZaS @hs @w1 @w2 @w3 @q2 @ZaZ) ?_;have F:=aj13 @q1 @hl @hn @hu @Zel @ZaH @ZaS @hs @w1 @w2 @w3 @q2 @ZaZ;refine gCP [1003] [1003] (hm (kk+1+1+1) (Es 0) u3 om om) ?_;clear F;rintro r pm ⟨E5,rfl,rfl⟩;simp only [setA,retA,zipM,Taf,Tah];refine fR @q1 ?_;obtain ⟨E6,hre⟩:∃ E6,Zbe [.set E3 (fun w=>Zao w (Zal k (rows.take i)) E3 (us.take i)),.set E5 (fun w=>Own w (.sl (Zal (kk+1+1+1) r3)) E5 u3)] [.set E6 (fun w=>Zao w (Zal k (rows.take (i+1))) E6 ((us.set i [.int .i64 kk,.string (txt (kk+1)),.int .i64 (kk+1+1),u3]).take (i+1)))]:=by
    have hz:=Zgq (E:=E3) (done:=Zal k (rows.take i)) (ud:=us.take i) (cs:=[.lit (.int .i64 kk),.lit (.string (txt (kk+1))),.lit (.int .i64 (kk+1+1)),.sl (Zal (kk+1+1+1) r3)]) (us:=[.int .i64 kk,.string (txt (kk+1)),.int .i64 (kk+1+1),u3]) (Es:=fun _=>E5) rfl ⟨rfl,rfl,rfl,trivial⟩;rw [Zb9 hr,ZcM,hkk,ZeF om];simp only [ZcL,mkC,mkV,cntC,Int.natCast_one];exact ⟨_,hz⟩
   refine pE [1002,1003] [1002] hre ?_;have e1:((us.set i [.int .i64 kk,.string (txt (kk+1)),.int .i64 (kk+1+1),u3]).map Zah)=(us.map Zah).set i [.lit (.int .i64 kk),.lit (.string (txt (kk+1))),.lit (.int .i64 (kk+1+1)),.lit u3]:=by rw [List.map_set,Zel]
   have e2:=Zfb us i [.int .i64 kk,.string (txt (kk+1)),.int .i64 (kk+1+1),u3];have e5:k+(cntRows (rows.take (i+1)):Int)=kk+1+1+1+(cntRows r3:Int):=by rw [hc1];omega
   have hn2:(us.set i [.int .i64 kk,.string (txt (kk+1)),.int .i64 (kk+1+1),u3]).length=rows.length:=by rw [ZaS,hn]
   generalize us.set i [.int .i64 kk,.string (txt (kk+1)),.int .i64 (kk+1+1),u3]=us2 at e1 e2 hn2 ⊢;rw [<- e1,<- e2];have F:=aj3 @w4 @e5 @hl;refine gG ?_;exact ⟨(i+1,us2,E4,E6),⟨hlt,hn2⟩,gw,gw,om⟩
  ·obtain rfl:i=rows.length:=by omega
   have q1:=lF rows.length rows.length;rw [Tap,List.take_of_length_le (Nat.le_of_eq hn)];refine fG (aj3 @q1 @hl @hn) ?_;obtain ⟨E6,hre⟩:∃ E6,Zbe [.buf (some (a,cap)) ety 4 (us.map Zah),.set E3 (fun w=>Zao w (Zal k rows) E3 us)] [.set E6 (fun w=>Own w (.sl (Zal k rows)) E6 (.slice a uss.length cap))]:=by
    rw [hl,<- hn];exact ⟨_,Zb6 (fun w h=>h) (Own.stable _ _ _)⟩
   refine pE [1000,1002] [1000] hre ?_;have F:=hk;exact gTP (R:=fun r pm=>∃ E',r=[.one (.lit (.int .i64 (k+(cntRows rows:Nat))))]∧pm=[.set E' (fun w=>Own w (.sl (Zal k rows)) E' (.slice a uss.length cap))]) [1000] ⟨E6,rfl,rfl⟩
theorem Zs3 (n:Nat):∀ rows,Zca rows < n->Zam (Zae .term) rows->Zdr 45 rows:=by
 induction n with
 | zero=>exact fun _ h=>om
 | succ n ih =>
  intro rows hn hok;refine Zwt rows hok fun r hr i0 t1 i2 r3 he=>?_;subst he;obtain ⟨i,hi⟩:=Tbk hr;have h1:=Zcb hi;obtain ⟨_,_,_,_,he,_,_,_,g3⟩:=Zda (hok.get hi);injection he with _ he;injection he with _ he;injection he with _ he;injection he with he _;injection he with he;subst he
  simp only [Za7,Zc3] at h1;exact ih _ om g3
theorem Zgt {rows:List (List C)} (hok:Zam (Zae .term) rows):Zdr 45 rows:=Zs3 _ rows (Tan _) hok
def Zf8:Int->List C->List C
 | _,[]=>[]
 | k,.sl rows::cs=>.sl (Zal k rows)::Zf8 (k+cntRows rows) cs
 | k,c::cs=>c::Zf8 k cs
def cntTop:List C->Nat
 | []=>0
 | .sl rows::cs=>cntRows rows+cntTop cs
 | _::cs=>cntTop cs
def Zwu (f:FuncId) (row:List C):Prop:=∀ (k:Int) (E:Nat->Prop) (us:List Value),us.length=row.length->(Zah us).all Zas=true->0<=k->k+cntTop row<=1000000000->ConP e0 f [.agg (Zah us),.one (.lit (.int .i64 k))] [.set E (fun w=>Zaf w row E us)] (fun r pm=>∃ E',r=[.one (.lit (.int .i64 (k+cntTop row)))]∧pm=[.set E' (fun w=>Zaf w (Zf8 k row) E' us)])
theorem ZE4 {E:Nat->Prop} {r:List C} {us:List Value} (hp:r.all Zeg=true):ZiG (ι:=Unit) [.set E (fun w=>Zaf w r E us)] (fun _=>ZeC r us) (fun _=>[.set E (fun w=>Zaf w r E us)]):=fun w S h ha=>by
 obtain ⟨h1,h2,h3⟩:(∀ b,E b->b < w.heap.size∧¬ S b)∧Zaf w r E us∧_:=h (.set E (fun w=>Zaf w r E us)) (by simp);obtain ⟨Es,hl,_⟩:=Zhp (S:=S) hp h2 h1;exact ⟨(),hl,h,ha,fun _ h=>h⟩
theorem Zjd {E:Nat->Prop} {r:List C} {us:List Value} (hp:r.all Zeg=true):ZiG (ι:=Nat->Nat->Prop) [.set E (fun w=>Zaf w r E us)] (fun _=>True) (fun i=>Zbn r us i):=fun w S h ha=>by
 obtain ⟨h1,h2,h3⟩:(∀ b,E b->b < w.heap.size∧¬ S b)∧Zaf w r E us∧_:=h (.set E (fun w=>Zaf w r E us)) (by simp);obtain ⟨Es,hl,q1,q2,q3⟩:=Zhp (S:=S) hp h2 h1;exact ⟨Es,trivial,q1,q2,fun g hg=>⟨_,Tas,q3 g hg⟩⟩
theorem Zje {cs:List C} {us:List Value} {Es:Nat->Nat->Prop} (hp:cs.all Zeg=true) (hl:ZeC cs us):Zbe (Zbn cs us Es) [.set (ZaW (Zbn cs us Es)) (fun w=>Zaf w cs (ZaW (Zbn cs us Es)) us)]:=fun w S h ha=>by
 have hv:=Zaf.of_cells (w:=w) (S:=S) hp hl h ha;refine ⟨fun x hx=>?_,ZeQ _,fun g ⟨x,hx,hg⟩=>?_⟩
 ·simp only [Tbg,List.not_mem_nil,or_false] at hx;subst hx;refine ⟨fun b ⟨y,hy,hg⟩=>?_,hv,Zaf.stable _ _ _⟩;obtain ⟨E',G',rfl⟩:=Zfx y hy;exact (h _ hy).1 b hg
 ·simp only [Tbg,List.not_mem_nil,or_false] at hx;subst hx;exact hg
theorem Zku {row:List C} (hok:Zan (Zae .term) row):Zwu 14 row:=by
 obtain ⟨i0,t1,i2,r3,rfl,_,_,_,g3⟩:=Zda hok;intro k E us hl hc hk hb;obtain ⟨u0,u1,u2,u3,rfl⟩:=len4 hl;obtain ⟨k0,k1,k2,k3⟩:=okc4 hc;simp only [cntTop,Nat.add_zero] at hb ⊢;rw [Zel];refine gIP (ts:=[.slot 4]) [1000] 23 Tryz.func14 ?_;refine pEx [1000] [1000] (ZE4 rfl) ?_;rintro ⟨⟩ ⟨rfl,rfl,rfl,_⟩;refine pEx (f:=fun (x:Nat->Nat->Prop)=>[.set (x 0) (fun w=>Own w (.sl r3) (x 0) u3)]) [1000] [1000] (Zjd rfl) ?_
 rintro Es -;refine fB (aj4 @k0 @k1 @k2 @k3) ?_;have F:=aj4 @k0 @k1 @k2 @k3;refine gCP [1000] [1000] (Zgt g3 k (Es 0) u3 hk hb) ?_;clear F;rintro r pm ⟨E5,rfl,rfl⟩;simp only [setA,retA,zipM,Taf,Tah];refine fR (aj4 @k0 @k1 @k2 @k3) ?_;refine fG (aj4 @k0 @k1 @k2 @k3) ?_
 obtain ⟨E6,hre⟩:∃ E6,Zbe [.set E5 (fun w=>Own w (.sl (Zal k r3)) E5 u3)] [.set E6 (fun w=>Zaf w [.lit (.int .i64 i0),.lit (.string t1),.lit (.int .i64 i2),.sl (Zal k r3)] E6 [.int .i64 i0,.string t1,.int .i64 i2,u3])] :=
  ⟨_,Zje (cs:=[.lit (.int .i64 i0),.lit (.string t1),.lit (.int .i64 i2),.sl (Zal k r3)]) (us:=[.int .i64 i0,.string t1,.int .i64 i2,u3]) (Es:=fun _=>E5) rfl ⟨rfl,rfl,rfl,trivial⟩⟩
 refine pE [1000] [1000] hre ?_;have F:=hk;exact gTP (R:=fun r pm=>∃ E',r=[.one (.lit (.int .i64 (k+(cntRows r3:Nat))))]∧pm=[.set E' (fun w=>Zaf w (Zf8 k [.lit (.int .i64 i0),.lit (.string t1),.lit (.int .i64 i2),.sl r3]) E' [.int .i64 i0,.string t1,.int .i64 i2,u3])]) [1000] ⟨E6,rfl,by simp only [Zf8];rfl⟩
def Zjf (f:FuncId) (rows:List (List C)):Prop:=∀ (k:Int),0<=k->k+cntRows rows<=1000000000->Con e0 f [.one (.sl (Zal k rows)),.one (.lit (.int .i64 k))] [.one (.lit (.int .i64 (k+cntRows rows)))]
theorem ZgJ:∀ {rows:List (List C)} {i:Nat} {r:List C} (k:Int),rows[i]?=some r->(Zal k rows)[i]?=some (ZcL (k+cntRows (rows.take i)) r)
 | q::rows,0,r,k,h=>by simp at h;subst h;simp [Zal,cntRows]
 | q::rows,i+1,r,k,h=>by
  simp only [Tau] at h;simp only [Zal,Tau,Tbc,cntRows];rw [ZgJ _ h];congr 2;omega
 | [],_,_,_,h=>by simp at h
theorem ZFU {v:Value} {k:Int} (h:Zas (.lit v)=true):Zas (.lit (mkV k v))=true:=by
 cases v <;> first | rfl | exact h
theorem ZlF:∀ (cs:List C) (k:Int),cs.all Zas=true->(ZcL k cs).all Zas=true
 | [],_,_=>by simp [ZcL]
 | c::cs,k,h=>by
  simp only [List.all_cons,Tar] at h;simp only [ZcL,List.all_cons,Tar];refine ⟨?_,ZlF cs _ h.2⟩
  cases c with
  | lit v=>simp only [mkC];exact ZFU h.1
  | _=>simp [mkC,Zas]
theorem Zp3 {n:Nat}:∀ {rows:List (List C)} (k:Int),rowsLen n rows->ZaC n (Zal k rows)=true
 | [],k,_=>by simp [Zal,ZaC]
 | r::rows,k,h=>by
  have h1:=h r Tas;have h2:=Zp3 (k+ZbV r) (fun x hx=>h x (Tal _ hx):rowsLen n rows);unfold ZaC at h2 ⊢;simp only [Zal,List.all_cons,Tar];exact ⟨⟨by rw [Zo8,h1.1];exact beq_self_eq_true n,ZlF _ _ h1.2⟩,h2⟩
theorem Zwv (rows:List (List C)) (hok:Zam (Zae .term) rows) (hmx:rows.length<=1048576) (h:∀ r∈rows,∀ i0 t1 i2 r3,r=[.lit (.int .i64 i0),.lit (.string t1),.lit (.int .i64 i2),.sl r3]->Zjf 97 r3):Zjf 97 rows:=by
 intro k hk hb;have hrb:ZaC 4 (Zal k rows)=true:=Zp3 k hok.rowsLen;have hml:=ZgG k rows;refine gI (ts:=[.slot 4]) 281612684362291 Tryz.func97 ?_;refine fG @e0P ?_;have F:=aj4 @Zcx @Zd0 @Int.add_zero @Int.natCast_zero;refine gL (ι:=Nat) [1,4,5,9,18,28,37,48] [] (fun x=>[(5,.d (.one (.lit (.int .i64 (x:Int))))),(1,.d (.one (.lit (.int .i64 (k+(cntRows (rows.take x):Nat))))))]) (fun x=>[]) (fun x=>x<=rows.length) (fun x=>rows.length - x) (0) (Taj _) (fun x hx=>?_);clear F
 by_cases hlt:x < rows.length
 ·obtain ⟨r,hr⟩:∃ r,rows[x]?=some r:=⟨_,Taa hlt⟩;obtain ⟨i0,t1,i2,r3,rfl,_,_,_,g3⟩:=Zda (hok.get hr);have hm:=h _ (Tac hr) i0 t1 i2 r3 rfl;have hc1:cntRows (rows.take (x+1))=cntRows (rows.take x)+(3+cntRows r3):=by
   rw [Zb9 hr,Zc2];simp only [ZbV,cntC];omega
  have hc2:=Zce rows (x+1);have hg:=ZgJ k hr;simp only [ZcL,mkC,mkV,cntC,Int.natCast_one] at hg;have e5:k+(cntRows (rows.take (x+1)):Int)=k+(cntRows (rows.take x):Int)+1+1+1+(cntRows r3:Int):=by rw [hc1];omega
  have b1:k+(cntRows (rows.take x):Int)+3+cntRows r3<=1000000000:=om;have b0:0<=k+(cntRows (rows.take x):Int):=om;generalize k+(cntRows (rows.take x):Int)=kk at hg e5 b1 b0 ⊢;have q1:=lT x rows.length;have w1:IntKind.i64.wrap (kk+1)=kk+1:=IntWalk.i64_in _ om;have w2:IntKind.i64.wrap (kk+1+1)=kk+1+1:=IntWalk.i64_in _ om;have w3:IntKind.i64.wrap (kk+1+1+1)=kk+1+1+1:=IntWalk.i64_in _ om;have w4:IntKind.i64.wrap ((x:Int)+1)=(x:Int)+1:=IntWalk.i64_in _ om
  refine fB (aj6 @q1 @hml @hrb @hg @beq_self_eq_true.{0} @w1) ?_;refine fC (aj4 @q1 @hml @hrb @hg) (ZcT (kk+1) om om) ?_;refine fR (aj5 @q1 @hml @hrb @hg @beq_self_eq_true.{0}) ?_;refine fB (aj8 @q1 @hml @hrb @hg @beq_self_eq_true.{0} @w1 @w2 @w3) ?_;refine fC (aj4 @q1 @hml @hrb @hg) (hm (kk+1+1+1) om om) ?_;refine fR @q1 ?_;have q5:(kk+1+1+1+(cntRows r3:Int) < 0)=False:=eq_false om;have F:=aj3 @q5 @w4 @e5;refine gG ?_;exact ⟨x+1,hlt,gw,gw,om⟩
 ·obtain rfl:x=rows.length:=by omega
  have q1:=lF rows.length rows.length;rw [Tap];exact fD (ai @q1 @hml)
theorem Zs4 (n:Nat):∀ rows,Zca rows < n->Zam (Zae .term) rows->rows.length+bulkRows rows<=1048576->Zjf 97 rows:=by
 induction n with
 | zero=>exact fun _ h=>om
 | succ n ih =>
  intro rows hn hok hB;refine Zwv rows hok om fun r hr i0 t1 i2 r3 he=>?_;subst he;obtain ⟨i,hi⟩:=Tbk hr;have h1:=Zcb hi;have h2:=Zco hi;obtain ⟨_,_,_,_,he,_,_,_,g3⟩:=Zda (hok.get hi);injection he with _ he;injection he with _ he;injection he with _ he;injection he with he _;injection he with he;subst he
  simp only [Za7,Zc3] at h1;simp only [bulkRow,ZbG] at h2;exact ih _ om g3 om
theorem Zjs {rows:List (List C)} (hok:Zam (Zae .term) rows) (hB:rows.length+bulkRows rows<=1048576):Zjf 97 rows:=Zs4 _ rows (Tan _) hok hB
theorem Znz {rows:List (List C)} (hok:Zam (Zae .str) rows):Zdr 93 rows:=by
 intro k E v hk hb;refine gIP (ts:=[.slot 4]) [1000] 563 Tryz.func93 ?_;refine fG @e0P ?_;by_cases hne:rows=[]
 ·subst hne;refine pEx [1000] [1000] Zgo ?_;rintro ⟨a,cap⟩ rfl;have F:=@hk;refine gL (ι:=Unit) [1,5,9] [] (fun x=>[(5,.d (.one (.lit (.int .i64 0)))),(1,.d (.one (.lit (.int .i64 k))))]) (fun x=>[]) (fun x=>True) (fun x=>0) (()) (trivial) (fun x hx=>?_);clear F;have q1:((0:Int) < 0)=False:=eq_false (by decide);have q2:((0:Int) < ((0:Nat):Int))=False:=eq_false (by decide);refine fG (ai @q1 @q2) ?_;have F:=hk
  refine gTP (R:=fun r pm=>∃ E',r=[.one (.lit (.int .i64 (k+(cntRows []:Nat))))]∧pm=[.set E' (fun w=>Own w (.sl (Zal k [])) E' (.slice a 0 cap))]) [1000] ⟨E,by simp only [cntRows,Int.natCast_zero,Int.add_zero];rfl,by simp only [Zal];rfl⟩
 ·have hrl:rowsLen 1 rows:=Zam.rowsLen hok;refine pEx [1000] [1000,1001] (Zfg hne hrl) ?_;rintro ⟨a,cap,ety,uss,E1⟩ ⟨rfl,hl,hmx⟩;simp only at hl ⊢;unfold maxLen at hmx;refine pE [] [1002] Zb4 ?_;have F:=aj4 @Zcx @Zd0 @Int.add_zero @Int.natCast_zero;refine gL (ι:=Nat × List (List Value) × (Nat->Prop) × (Nat->Prop)) [1,5,9] [1000,1001,1002] (fun x=>[(5,.d (.one (.lit (.int .i64 (x.1:Int))))),(1,.d (.one (.lit (.int .i64 (k+(cntRows (rows.take x.1):Nat))))))]) (fun x=>[(1000,.buf (some (a,cap)) ety 1 (x.2.1.map Zah)),(1001,.set x.2.2.1 (fun w=>Zao w (rows.drop x.1) x.2.2.1 (x.2.1.drop x.1))),(1002,.set x.2.2.2 (fun w=>Zao w (Zal k (rows.take x.1)) x.2.2.2 (x.2.1.take x.1)))]) (fun x=>x.1<=rows.length∧x.2.1.length=rows.length) (fun x=>rows.length - x.1) ((0,uss,E1,fun _=>False)) (⟨Taj _,hl⟩) (fun x hx=>?_);clear F
  obtain ⟨i,us,E2,E3⟩:=x;obtain ⟨hi,hn⟩:=hx;simp only at hi hn;dsimp only;by_cases hlt:i < rows.length
  ·obtain ⟨r,hr⟩:∃ r,rows[i]?=some r:=⟨_,Taa hlt⟩;obtain ⟨u,hu⟩:∃ u,us[i]?=some u:=⟨_,Taa om⟩;obtain ⟨t0,rfl,g0⟩:=Zey (hok.get hr);have hc1:cntRows (rows.take (i+1))=cntRows (rows.take i)+(1):=by
    rw [Zb9 hr,Zc2];simp only [ZbV,cntC];try omega
   have hc2:=Zce rows (i+1);rw [Zch hr,Zch hu];refine pEx [1001] [1001] (Zfh rfl) ?_;rintro ⟨⟩ hlit;obtain rfl:u=[.string t0]:=by
    match u,hlit with
    | [_],⟨rfl,_⟩=>rfl
   refine pEx (f:=fun (x:(Nat->Prop) × (Nat->Nat->Prop))=>[.set x.1 (fun w=>Zao w (rows.drop (i+1)) x.1 (us.drop (i+1)))]) [1001] [1001] (Zgp rfl) ?_;rintro ⟨E4,Es⟩ -;dsimp only;have hkk0:0<=k+(cntRows (rows.take i):Int):=om;have hkk1:k+(cntRows (rows.take i):Int)+((1:Nat):Int)<=1000000000:=om;generalize hkk:k+(cntRows (rows.take i):Int)=kk at hkk0 hkk1 ⊢;have q1:=lT i rows.length;have q2:i < rows.length:=hlt
   have hs:∀ X:List C,((us.map Zah).set i X)[i]?=some X:=fun X=>ZfQ (by rw [ZaH,hn];omega) X;have lr:Zah [.string t0]=[.lit (.string t0)]:=rfl;have w0:IntKind.i64.wrap (kk+1)=kk+1:=IntWalk.i64_in _ om;have wi:IntKind.i64.wrap ((i:Int)+1)=(i:Int)+1:=IntWalk.i64_in _ om;refine fB (aj11 @q1 @hl @hn @hu @lr @ZaH @ZaS @hs @w0 @q2 @ZaZ) ?_;refine fC (aj11 @q1 @hl @hn @hu @lr @ZaH @ZaS @hs @w0 @q2 @ZaZ) (ZcT (kk) om om) ?_
   refine fR (aj11 @q1 @hl @hn @hu @lr @ZaH @ZaS @hs @w0 @q2 @ZaZ) ?_;obtain ⟨E6,hre⟩:∃ E6,Zbe [.set E3 (fun w=>Zao w (Zal k (rows.take i)) E3 (us.take i))] [.set E6 (fun w=>Zao w (Zal k (rows.take (i+1))) E6 ((us.set i [.string (txt (kk))]).take (i+1)))]:=by
    have hz:=Zgq (E:=E3) (done:=Zal k (rows.take i)) (ud:=us.take i) (cs:=[.lit (.string (txt (kk)))]) (us:=[.string (txt (kk))]) (Es:=fun _ _=>False) rfl ⟨rfl,trivial⟩;rw [Zb9 hr,ZcM,hkk,ZeF om];simp only [ZcL,mkC,mkV,cntC,Int.natCast_one];exact ⟨_,hz⟩
   refine pE [1002] [1002] hre ?_;have e1:((us.set i [.string (txt (kk))]).map Zah)=(us.map Zah).set i [.lit (.string (txt (kk)))]:=by rw [List.map_set];rfl
   have e2:=Zfb us i [.string (txt (kk))];have e5:k+(cntRows (rows.take (i+1)):Int)=kk+1:=by rw [hc1];omega
   have hn2:(us.set i [.string (txt (kk))]).length=rows.length:=by rw [ZaS,hn]
   generalize us.set i [.string (txt (kk))]=us2 at e1 e2 hn2 ⊢;rw [<- e1,<- e2];have F:=aj5 @wi @e5 @hl @w0 @hn;refine gG ?_;exact ⟨(i+1,us2,E4,E6),⟨hlt,hn2⟩,gw,gw,om⟩
  ·obtain rfl:i=rows.length:=by omega
   have q1:=lF rows.length rows.length;rw [Tap,List.take_of_length_le (Nat.le_of_eq hn)];refine fG (aj3 @q1 @hl @hn) ?_;obtain ⟨E6,hre⟩:∃ E6,Zbe [.buf (some (a,cap)) ety 1 (us.map Zah),.set E3 (fun w=>Zao w (Zal k rows) E3 us)] [.set E6 (fun w=>Own w (.sl (Zal k rows)) E6 (.slice a uss.length cap))]:=by
    rw [hl,<- hn];exact ⟨_,Zb6 (fun w h=>h) (Own.stable _ _ _)⟩
   refine pE [1000,1002] [1000] hre ?_;have F:=hk;exact gTP (R:=fun r pm=>∃ E',r=[.one (.lit (.int .i64 (k+(cntRows rows:Nat))))]∧pm=[.set E' (fun w=>Own w (.sl (Zal k rows)) E' (.slice a uss.length cap))]) [1000] ⟨E6,rfl,rfl⟩
theorem ZnA {rows:List (List C)} (hok:Zam (Zae .str) rows):Zdr 93 rows:=Znz hok
theorem Zr5 {rows:List (List C)} (hok:Zam (Zae .sub) rows):Zdr 94 rows:=by
 intro k E v hk hb;refine gIP (ts:=[.slot 4]) [1000] 563 Tryz.func94 ?_;refine fG @e0P ?_;by_cases hne:rows=[]
 ·subst hne;refine pEx [1000] [1000] Zgo ?_;rintro ⟨a,cap⟩ rfl;have F:=@hk;refine gL (ι:=Unit) [1,5,9] [] (fun x=>[(5,.d (.one (.lit (.int .i64 0)))),(1,.d (.one (.lit (.int .i64 k))))]) (fun x=>[]) (fun x=>True) (fun x=>0) (()) (trivial) (fun x hx=>?_);clear F;have q1:((0:Int) < 0)=False:=eq_false (by decide);have q2:((0:Int) < ((0:Nat):Int))=False:=eq_false (by decide);refine fG (ai @q1 @q2) ?_;have F:=hk
  refine gTP (R:=fun r pm=>∃ E',r=[.one (.lit (.int .i64 (k+(cntRows []:Nat))))]∧pm=[.set E' (fun w=>Own w (.sl (Zal k [])) E' (.slice a 0 cap))]) [1000] ⟨E,by simp only [cntRows,Int.natCast_zero,Int.add_zero];rfl,by simp only [Zal];rfl⟩
 ·have hrl:rowsLen 2 rows:=Zam.rowsLen hok;refine pEx [1000] [1000,1001] (Zfg hne hrl) ?_;rintro ⟨a,cap,ety,uss,E1⟩ ⟨rfl,hl,hmx⟩;simp only at hl ⊢;unfold maxLen at hmx;refine pE [] [1002] Zb4 ?_;have F:=aj4 @Zcx @Zd0 @Int.add_zero @Int.natCast_zero;refine gL (ι:=Nat × List (List Value) × (Nat->Prop) × (Nat->Prop)) [1,5,9] [1000,1001,1002] (fun x=>[(5,.d (.one (.lit (.int .i64 (x.1:Int))))),(1,.d (.one (.lit (.int .i64 (k+(cntRows (rows.take x.1):Nat))))))]) (fun x=>[(1000,.buf (some (a,cap)) ety 2 (x.2.1.map Zah)),(1001,.set x.2.2.1 (fun w=>Zao w (rows.drop x.1) x.2.2.1 (x.2.1.drop x.1))),(1002,.set x.2.2.2 (fun w=>Zao w (Zal k (rows.take x.1)) x.2.2.2 (x.2.1.take x.1)))]) (fun x=>x.1<=rows.length∧x.2.1.length=rows.length) (fun x=>rows.length - x.1) ((0,uss,E1,fun _=>False)) (⟨Taj _,hl⟩) (fun x hx=>?_);clear F
  obtain ⟨i,us,E2,E3⟩:=x;obtain ⟨hi,hn⟩:=hx;simp only at hi hn;dsimp only;by_cases hlt:i < rows.length
  ·obtain ⟨r,hr⟩:∃ r,rows[i]?=some r:=⟨_,Taa hlt⟩;obtain ⟨u,hu⟩:∃ u,us[i]?=some u:=⟨_,Taa om⟩;obtain ⟨i0,i1,rfl,g0,g1⟩:=ZhF (hok.get hr);have hc1:cntRows (rows.take (i+1))=cntRows (rows.take i)+(2):=by
    rw [Zb9 hr,Zc2];simp only [ZbV,cntC];try omega
   have hc2:=Zce rows (i+1);rw [Zch hr,Zch hu];refine pEx [1001] [1001] (Zfh rfl) ?_;rintro ⟨⟩ hlit;obtain rfl:u=[.int .i64 i0,.int .i64 i1]:=by
    match u,hlit with
    | [_,_],⟨rfl,rfl,_⟩=>rfl
   refine pEx (f:=fun (x:(Nat->Prop) × (Nat->Nat->Prop))=>[.set x.1 (fun w=>Zao w (rows.drop (i+1)) x.1 (us.drop (i+1)))]) [1001] [1001] (Zgp rfl) ?_;rintro ⟨E4,Es⟩ -;dsimp only;have hkk0:0<=k+(cntRows (rows.take i):Int):=om;have hkk1:k+(cntRows (rows.take i):Int)+((2:Nat):Int)<=1000000000:=om;generalize hkk:k+(cntRows (rows.take i):Int)=kk at hkk0 hkk1 ⊢;have q1:=lT i rows.length;have q2:i < rows.length:=hlt
   have hs:∀ X:List C,((us.map Zah).set i X)[i]?=some X:=fun X=>ZfQ (by rw [ZaH,hn];omega) X;have lr:Zah [.int .i64 i0,.int .i64 i1]=[.lit (.int .i64 i0),.lit (.int .i64 i1)]:=rfl;have w0:IntKind.i64.wrap (kk+1)=kk+1:=IntWalk.i64_in _ om;have w1:IntKind.i64.wrap (kk+1+1)=kk+1+1:=IntWalk.i64_in _ om;have wi:IntKind.i64.wrap ((i:Int)+1)=(i:Int)+1:=IntWalk.i64_in _ om;refine fN 3 (aj12 @q1 @hl @hn @hu @lr @ZaH @ZaS @hs @w0 @w1 @q2 @ZaZ) ?_
   obtain ⟨E6,hre⟩:∃ E6,Zbe [.set E3 (fun w=>Zao w (Zal k (rows.take i)) E3 (us.take i))] [.set E6 (fun w=>Zao w (Zal k (rows.take (i+1))) E6 ((us.set i [.int .i64 (kk),.int .i64 (kk+1)]).take (i+1)))]:=by
    have hz:=Zgq (E:=E3) (done:=Zal k (rows.take i)) (ud:=us.take i) (cs:=[.lit (.int .i64 (kk)),.lit (.int .i64 (kk+1))]) (us:=[.int .i64 (kk),.int .i64 (kk+1)]) (Es:=fun _ _=>False) rfl ⟨rfl,rfl,trivial⟩;rw [Zb9 hr,ZcM,hkk,ZeF om];simp only [ZcL,mkC,mkV,cntC,Int.natCast_one];exact ⟨_,hz⟩
   refine pE [1002] [1002] hre ?_;have e1:((us.set i [.int .i64 (kk),.int .i64 (kk+1)]).map Zah)=(us.map Zah).set i [.lit (.int .i64 (kk)),.lit (.int .i64 (kk+1))]:=by rw [List.map_set];rfl
   have e2:=Zfb us i [.int .i64 (kk),.int .i64 (kk+1)];have e5:k+(cntRows (rows.take (i+1)):Int)=kk+1+1:=by rw [hc1];omega
   have hn2:(us.set i [.int .i64 (kk),.int .i64 (kk+1)]).length=rows.length:=by rw [ZaS,hn]
   generalize us.set i [.int .i64 (kk),.int .i64 (kk+1)]=us2 at e1 e2 hn2 ⊢;rw [<- e1,<- e2];have F:=aj6 @wi @e5 @hl @w0 @w1 @hn;refine gG ?_;exact ⟨(i+1,us2,E4,E6),⟨hlt,hn2⟩,gw,gw,om⟩
  ·obtain rfl:i=rows.length:=by omega
   have q1:=lF rows.length rows.length;rw [Tap,List.take_of_length_le (Nat.le_of_eq hn)];refine fG (aj3 @q1 @hl @hn) ?_;obtain ⟨E6,hre⟩:∃ E6,Zbe [.buf (some (a,cap)) ety 2 (us.map Zah),.set E3 (fun w=>Zao w (Zal k rows) E3 us)] [.set E6 (fun w=>Own w (.sl (Zal k rows)) E6 (.slice a uss.length cap))]:=by
    rw [hl,<- hn];exact ⟨_,Zb6 (fun w h=>h) (Own.stable _ _ _)⟩
   refine pE [1000,1002] [1000] hre ?_;have F:=hk;exact gTP (R:=fun r pm=>∃ E',r=[.one (.lit (.int .i64 (k+(cntRows rows:Nat))))]∧pm=[.set E' (fun w=>Own w (.sl (Zal k rows)) E' (.slice a uss.length cap))]) [1000] ⟨E6,rfl,rfl⟩
theorem Zr6 {rows:List (List C)} (hok:Zam (Zae .sub) rows):Zdr 94 rows:=Zr5 hok
theorem ZpD {row:List C} (hok:Zan (Zcu) row):Zwu 43 row:=by
 obtain ⟨r0,r1,rfl,g0,g1⟩:=ZfU hok;intro kk E us hl hc hk hb;obtain ⟨u0,u1,rfl⟩:=len2 hl;have kc:Zas (.lit u0)=true∧Zas (.lit u1)=true:=by simpa [Zah,Tar,and_assoc] using hc
 obtain ⟨k0,k1⟩:=kc;simp only [cntTop,Nat.add_zero] at hb ⊢;have lr:Zah [u0,u1]=[.lit u0,.lit u1]:=rfl;rw [lr];refine gIP (ts:=[.slot 4]) [1000] 23 Tryz.func43 ?_;refine pEx (f:=fun (x:Nat->Nat->Prop)=>[.set (x 0) (fun w=>Own w (.sl r0) (x 0) u0),.set (x 1) (fun w=>Own w (.sl r1) (x 1) u1)]) [1000] [1003,1004] (Zjd rfl) ?_;rintro Es -
 try dsimp only
 refine fB (aj3 @lr @k0 @k1) ?_;have F:=aj3 @lr @k0 @k1;refine gCP [1003] [1003] (ZnA g0 (kk) (Es 0) u0 om om) ?_;clear F;rintro r pm ⟨F0,rfl,rfl⟩;simp only [setA,retA,zipM,Taf,Tah];refine fR (aj3 @lr @k0 @k1) ?_;refine fB (aj3 @lr @k0 @k1) ?_;have F:=aj3 @lr @k0 @k1;refine gCP [1004] [1004] (Zr6 g1 (kk+(cntRows r0:Int)) (Es 1) u1 om om) ?_;clear F;rintro r pm ⟨F1,rfl,rfl⟩;simp only [setA,retA,zipM,Taf,Tah]
 refine fR (aj3 @lr @k0 @k1) ?_;refine fG (aj3 @lr @k0 @k1) ?_;obtain ⟨E6,hre⟩:∃ E6,Zbe [.set F0 (fun w=>Own w (.sl (Zal (kk) r0)) F0 u0),.set F1 (fun w=>Own w (.sl (Zal (kk+(cntRows r0:Int)) r1)) F1 u1)] [.set E6 (fun w=>Zaf w [.sl (Zal (kk) r0),.sl (Zal (kk+(cntRows r0:Int)) r1)] E6 [u0,u1])]:=⟨_,Zje (cs:=[.sl (Zal (kk) r0),.sl (Zal (kk+(cntRows r0:Int)) r1)]) (us:=[u0,u1]) (Es:=fun k=>match k with | 0=>F0 | _=>F1) rfl trivial⟩
 refine pE [1003,1004] [1000] hre ?_;have F:=hk;have ee:kk+(cntRows r0:Int)+(cntRows r1:Int)=kk+((cntRows r0+(cntRows r1):Nat):Int):=om;rw [ee];exact gTP (R:=fun r pm=>∃ E',r=[.one (.lit (.int .i64 (kk+((cntRows r0+(cntRows r1):Nat):Int))))]∧pm=[.set E' (fun w=>Zaf w (Zf8 kk [.sl r0,.sl r1]) E' [u0,u1])]) [1000] ⟨E6,rfl,by simp only [Zf8];rfl⟩
theorem Zvi (u0:Value):Zah [u0]=[.lit u0]:=rfl
theorem ZAX {rows:List (List C)} (hok:Zam (Zae .int) rows):Zdr 153 rows:=by
 intro k E v hk hb;refine gIP (ts:=[.slot 4]) [1000] 563 Tryz.func153 ?_;refine fG @e0P ?_;by_cases hne:rows=[]
 ·subst hne;refine pEx [1000] [1000] Zgo ?_;rintro ⟨a,cap⟩ rfl;have F:=@hk;refine gL (ι:=Unit) [1,5,9] [] (fun x=>[(5,.d (.one (.lit (.int .i64 0)))),(1,.d (.one (.lit (.int .i64 k))))]) (fun x=>[]) (fun x=>True) (fun x=>0) (()) (trivial) (fun x hx=>?_);clear F;have q1:((0:Int) < 0)=False:=eq_false (by decide);have q2:((0:Int) < ((0:Nat):Int))=False:=eq_false (by decide);refine fG (ai @q1 @q2) ?_;have F:=hk
  refine gTP (R:=fun r pm=>∃ E',r=[.one (.lit (.int .i64 (k+(cntRows []:Nat))))]∧pm=[.set E' (fun w=>Own w (.sl (Zal k [])) E' (.slice a 0 cap))]) [1000] ⟨E,by simp only [cntRows,Int.natCast_zero,Int.add_zero];rfl,by simp only [Zal];rfl⟩
 ·have hrl:rowsLen 1 rows:=Zam.rowsLen hok;refine pEx [1000] [1000,1001] (Zfg hne hrl) ?_;rintro ⟨a,cap,ety,uss,E1⟩ ⟨rfl,hl,hmx⟩;simp only at hl ⊢;unfold maxLen at hmx;refine pE [] [1002] Zb4 ?_;have F:=aj4 @Zcx @Zd0 @Int.add_zero @Int.natCast_zero;refine gL (ι:=Nat × List (List Value) × (Nat->Prop) × (Nat->Prop)) [1,5,9] [1000,1001,1002] (fun x=>[(5,.d (.one (.lit (.int .i64 (x.1:Int))))),(1,.d (.one (.lit (.int .i64 (k+(cntRows (rows.take x.1):Nat))))))]) (fun x=>[(1000,.buf (some (a,cap)) ety 1 (x.2.1.map Zah)),(1001,.set x.2.2.1 (fun w=>Zao w (rows.drop x.1) x.2.2.1 (x.2.1.drop x.1))),(1002,.set x.2.2.2 (fun w=>Zao w (Zal k (rows.take x.1)) x.2.2.2 (x.2.1.take x.1)))]) (fun x=>x.1<=rows.length∧x.2.1.length=rows.length) (fun x=>rows.length - x.1) ((0,uss,E1,fun _=>False)) (⟨Taj _,hl⟩) (fun x hx=>?_);clear F
  obtain ⟨i,us,E2,E3⟩:=x;obtain ⟨hi,hn⟩:=hx;simp only at hi hn;dsimp only;by_cases hlt:i < rows.length
  ·obtain ⟨r,hr⟩:∃ r,rows[i]?=some r:=⟨_,Taa hlt⟩;obtain ⟨u,hu⟩:∃ u,us[i]?=some u:=⟨_,Taa om⟩;obtain ⟨i0,rfl,_⟩:=ZhE (hok.get hr);have hc1:cntRows (rows.take (i+1))=cntRows (rows.take i)+1:=by
    rw [Zb9 hr,Zc2];simp only [ZbV,cntC]
   have hc2:=Zce rows (i+1);rw [Zch hr,Zch hu];refine pEx [1001] [1001] (Zfh rfl) ?_;rintro ⟨⟩ hlit;obtain rfl:u=[.int .i64 i0]:=by
    match u,hlit with
    | [_],⟨rfl,_⟩=>rfl
   refine pEx (f:=fun (x:(Nat->Prop) × (Nat->Nat->Prop))=>[.set x.1 (fun w=>Zao w (rows.drop (i+1)) x.1 (us.drop (i+1)))]) [1001] [1001] (Zgp rfl) ?_;rintro ⟨E4,Es⟩ -;dsimp only;generalize hkk:k+(cntRows (rows.take i):Int)=kk;have q1:=lT i rows.length;have q2:i < rows.length:=hlt;have w1:IntKind.i64.wrap (kk+1)=kk+1:=IntWalk.i64_in _ om;have w4:IntKind.i64.wrap ((i:Int)+1)=(i:Int)+1:=IntWalk.i64_in _ om
   refine fN 3 (aj9 @q1 @hl @hn @hu @Zvi @ZaH @ZaS @w1 @q2) ?_;obtain ⟨E6,hre⟩:∃ E6,Zbe [.set E3 (fun w=>Zao w (Zal k (rows.take i)) E3 (us.take i))] [.set E6 (fun w=>Zao w (Zal k (rows.take (i+1))) E6 ((us.set i [.int .i64 kk]).take (i+1)))]:=by
    have hz:=Zgq (E:=E3) (done:=Zal k (rows.take i)) (ud:=us.take i) (cs:=[.lit (.int .i64 kk)]) (us:=[.int .i64 kk]) (Es:=fun _ _=>False) rfl ⟨rfl,trivial⟩;rw [Zb9 hr,ZcM,hkk,ZeF om];simp only [ZcL,mkC,mkV];exact ⟨_,hz⟩
   refine pE [1002] [1002] hre ?_;have e1:((us.set i [.int .i64 kk]).map Zah)=(us.map Zah).set i [.lit (.int .i64 kk)]:=by rw [List.map_set,Zvi]
   have e2:=Zfb us i [.int .i64 kk];have e5:k+(cntRows (rows.take (i+1)):Int)=kk+1:=by rw [hc1];omega
   have hn2:(us.set i [.int .i64 kk]).length=rows.length:=by rw [ZaS,hn]
   generalize us.set i [.int .i64 kk]=us2 at e1 e2 hn2 ⊢;rw [<- e1,<- e2];have F:=aj3 @w4 @e5 @hl;refine gG ?_;exact ⟨(i+1,us2,E4,E6),⟨hlt,hn2⟩,gw,gw,om⟩
  ·obtain rfl:i=rows.length:=by omega
   have q1:=lF rows.length rows.length;rw [Tap,List.take_of_length_le (Nat.le_of_eq hn)];refine fG (aj3 @q1 @hl @hn) ?_;obtain ⟨E6,hre⟩:∃ E6,Zbe [.buf (some (a,cap)) ety 1 (us.map Zah),.set E3 (fun w=>Zao w (Zal k rows) E3 us)] [.set E6 (fun w=>Own w (.sl (Zal k rows)) E6 (.slice a uss.length cap))]:=by
    rw [hl,<- hn];exact ⟨_,Zb6 (fun w h=>h) (Own.stable _ _ _)⟩
   refine pE [1000,1002] [1000] hre ?_;have F:=hk;exact gTP (R:=fun r pm=>∃ E',r=[.one (.lit (.int .i64 (k+(cntRows rows:Nat))))]∧pm=[.set E' (fun w=>Own w (.sl (Zal k rows)) E' (.slice a uss.length cap))]) [1000] ⟨E6,rfl,rfl⟩
theorem Zr7 {rows:List (List C)} (hok:Zam (Zae .int) rows):Zdr 153 rows:=ZAX hok
theorem ZpE {rows:List (List C)} (hok:Zam (Zae .decl) rows):Zdr 96 rows:=by
 intro k E v hk hb;refine gIP (ts:=[.slot 4]) [1000] 563 Tryz.func96 ?_;refine fG @e0P ?_;by_cases hne:rows=[]
 ·subst hne;refine pEx [1000] [1000] Zgo ?_;rintro ⟨a,cap⟩ rfl;have F:=@hk;refine gL (ι:=Unit) [1,5,9] [] (fun x=>[(5,.d (.one (.lit (.int .i64 0)))),(1,.d (.one (.lit (.int .i64 k))))]) (fun x=>[]) (fun x=>True) (fun x=>0) (()) (trivial) (fun x hx=>?_);clear F;have q1:((0:Int) < 0)=False:=eq_false (by decide);have q2:((0:Int) < ((0:Nat):Int))=False:=eq_false (by decide);refine fG (ai @q1 @q2) ?_;have F:=hk
  refine gTP (R:=fun r pm=>∃ E',r=[.one (.lit (.int .i64 (k+(cntRows []:Nat))))]∧pm=[.set E' (fun w=>Own w (.sl (Zal k [])) E' (.slice a 0 cap))]) [1000] ⟨E,by simp only [cntRows,Int.natCast_zero,Int.add_zero];rfl,by simp only [Zal];rfl⟩
 ·have hrl:rowsLen 2 rows:=Zam.rowsLen hok;refine pEx [1000] [1000,1001] (Zfg hne hrl) ?_;rintro ⟨a,cap,ety,uss,E1⟩ ⟨rfl,hl,hmx⟩;simp only at hl ⊢;unfold maxLen at hmx;refine pE [] [1002] Zb4 ?_;have F:=aj4 @Zcx @Zd0 @Int.add_zero @Int.natCast_zero;refine gL (ι:=Nat × List (List Value) × (Nat->Prop) × (Nat->Prop)) [1,5,9] [1000,1001,1002] (fun x=>[(5,.d (.one (.lit (.int .i64 (x.1:Int))))),(1,.d (.one (.lit (.int .i64 (k+(cntRows (rows.take x.1):Nat))))))]) (fun x=>[(1000,.buf (some (a,cap)) ety 2 (x.2.1.map Zah)),(1001,.set x.2.2.1 (fun w=>Zao w (rows.drop x.1) x.2.2.1 (x.2.1.drop x.1))),(1002,.set x.2.2.2 (fun w=>Zao w (Zal k (rows.take x.1)) x.2.2.2 (x.2.1.take x.1)))]) (fun x=>x.1<=rows.length∧x.2.1.length=rows.length) (fun x=>rows.length - x.1) ((0,uss,E1,fun _=>False)) (⟨Taj _,hl⟩) (fun x hx=>?_);clear F
  obtain ⟨i,us,E2,E3⟩:=x;obtain ⟨hi,hn⟩:=hx;simp only at hi hn;dsimp only;by_cases hlt:i < rows.length
  ·obtain ⟨r,hr⟩:∃ r,rows[i]?=some r:=⟨_,Taa hlt⟩;obtain ⟨u,hu⟩:∃ u,us[i]?=some u:=⟨_,Taa om⟩;obtain ⟨r0,i1,rfl,g0,g1⟩:=Zfm (hok.get hr);have hm0:=Zr7 g0;have hc1:cntRows (rows.take (i+1))=cntRows (rows.take i)+(1+cntRows r0):=by
    rw [Zb9 hr,Zc2];simp only [ZbV,cntC];try omega
   have hc2:=Zce rows (i+1);rw [Zch hr,Zch hu];refine pEx [1001] [1001] (Zfh rfl) ?_;rintro ⟨⟩ hlit;obtain ⟨u0,rfl⟩:∃ u0,u=[u0,.int .i64 i1]:=by
    match u,hlit with
    | [u0,_],⟨rfl,_⟩=>exact ⟨u0,rfl⟩
   refine pEx (f:=fun (x:(Nat->Prop) × (Nat->Nat->Prop))=>[.set x.1 (fun w=>Zao w (rows.drop (i+1)) x.1 (us.drop (i+1))),.set (x.2 0) (fun w=>Own w (.sl r0) (x.2 0) u0)]) [1001] [1001,1003] (Zgp rfl) ?_;rintro ⟨E4,Es⟩ -;dsimp only;have hkk0:0<=k+(cntRows (rows.take i):Int):=om;have hkk1:k+(cntRows (rows.take i):Int)+((1+cntRows r0:Nat):Int)<=1000000000:=om;generalize hkk:k+(cntRows (rows.take i):Int)=kk at hkk0 hkk1 ⊢
   have q1:=lT i rows.length;have q2:i < rows.length:=hlt;have hs:∀ X:List C,((us.map Zah).set i X)[i]?=some X:=fun X=>ZfQ (by rw [ZaH,hn];omega) X;have lr:Zah [u0,.int .i64 i1]=[.lit (u0),.lit (.int .i64 i1)]:=rfl;have w1:IntKind.i64.wrap (kk+(cntRows r0:Int)+1)=kk+(cntRows r0:Int)+1:=IntWalk.i64_in _ om;have wi:IntKind.i64.wrap ((i:Int)+1)=(i:Int)+1:=IntWalk.i64_in _ om;refine fB (aj11 @q1 @hl @hn @hu @lr @ZaH @ZaS @hs @w1 @q2 @ZaZ) ?_
   have F:=aj11 @q1 @hl @hn @hu @lr @ZaH @ZaS @hs @w1 @q2 @ZaZ;refine gCP [1003] [1003] (hm0 (kk) (Es 0) u0 om om) ?_;clear F;rintro r pm ⟨F0,rfl,rfl⟩;simp only [setA,retA,zipM,Taf,Tah];refine fR (aj11 @q1 @hl @hn @hu @lr @ZaH @ZaS @hs @w1 @q2 @ZaZ) ?_;refine fN 3 (aj11 @q1 @hl @hn @hu @lr @ZaH @ZaS @hs @w1 @q2 @ZaZ) ?_;obtain ⟨E6,hre⟩:∃ E6,Zbe [.set E3 (fun w=>Zao w (Zal k (rows.take i)) E3 (us.take i)),.set F0 (fun w=>Own w (.sl (Zal (kk) r0)) F0 u0)] [.set E6 (fun w=>Zao w (Zal k (rows.take (i+1))) E6 ((us.set i [u0,.int .i64 (kk+(cntRows r0:Int))]).take (i+1)))]:=by
    have hz:=Zgq (E:=E3) (done:=Zal k (rows.take i)) (ud:=us.take i) (cs:=[.sl (Zal (kk) r0),.lit (.int .i64 (kk+(cntRows r0:Int)))]) (us:=[u0,.int .i64 (kk+(cntRows r0:Int))]) (Es:=fun _=>F0) rfl ⟨rfl,trivial⟩;rw [Zb9 hr,ZcM,hkk,ZeF om];simp only [ZcL,mkC,mkV,cntC,Int.natCast_one];exact ⟨_,hz⟩
   refine pE [1002,1003] [1002] hre ?_;have e1:((us.set i [u0,.int .i64 (kk+(cntRows r0:Int))]).map Zah)=(us.map Zah).set i [.lit (u0),.lit (.int .i64 (kk+(cntRows r0:Int)))]:=by rw [List.map_set];rfl
   have e2:=Zfb us i [u0,.int .i64 (kk+(cntRows r0:Int))];have e5:k+(cntRows (rows.take (i+1)):Int)=kk+(cntRows r0:Int)+1:=by rw [hc1];omega
   have hn2:(us.set i [u0,.int .i64 (kk+(cntRows r0:Int))]).length=rows.length:=by rw [ZaS,hn]
   generalize us.set i [u0,.int .i64 (kk+(cntRows r0:Int))]=us2 at e1 e2 hn2 ⊢;rw [<- e1,<- e2];have F:=aj5 @wi @e5 @hl @w1 @hn;refine gG ?_;exact ⟨(i+1,us2,E4,E6),⟨hlt,hn2⟩,gw,gw,om⟩
  ·obtain rfl:i=rows.length:=by omega
   have q1:=lF rows.length rows.length;rw [Tap,List.take_of_length_le (Nat.le_of_eq hn)];refine fG (aj3 @q1 @hl @hn) ?_;obtain ⟨E6,hre⟩:∃ E6,Zbe [.buf (some (a,cap)) ety 2 (us.map Zah),.set E3 (fun w=>Zao w (Zal k rows) E3 us)] [.set E6 (fun w=>Own w (.sl (Zal k rows)) E6 (.slice a uss.length cap))]:=by
    rw [hl,<- hn];exact ⟨_,Zb6 (fun w h=>h) (Own.stable _ _ _)⟩
   refine pE [1000,1002] [1000] hre ?_;have F:=hk;exact gTP (R:=fun r pm=>∃ E',r=[.one (.lit (.int .i64 (k+(cntRows rows:Nat))))]∧pm=[.set E' (fun w=>Own w (.sl (Zal k rows)) E' (.slice a uss.length cap))]) [1000] ⟨E6,rfl,rfl⟩
theorem ZpF {rows:List (List C)} (hok:Zam (Zae .decl) rows):Zdr 96 rows:=ZpE hok
theorem Zvj {k:Int} (h:0<=k):decide (k.tmod 3=0)=(k % 3==0):=by rw [Int.tmod_eq_emod_of_nonneg h,Bool.eq_iff_iff];simp
theorem Zs5 {rows:List (List C)} (hok:Zam (Zae .op) rows):Zdr 44 rows:=by
 intro k E v hk hb;refine gIP (ts:=[.slot 4]) [1000] 563 Tryz.func44 ?_;refine fG @e0P ?_;by_cases hne:rows=[]
 ·subst hne;refine pEx [1000] [1000] Zgo ?_;rintro ⟨a,cap⟩ rfl;have F:=@hk;refine gL (ι:=Unit) [1,5,9] [] (fun x=>[(5,.d (.one (.lit (.int .i64 0)))),(1,.d (.one (.lit (.int .i64 k))))]) (fun x=>[]) (fun x=>True) (fun x=>0) (()) (trivial) (fun x hx=>?_);clear F;have q1:((0:Int) < 0)=False:=eq_false (by decide);have q2:((0:Int) < ((0:Nat):Int))=False:=eq_false (by decide);refine fG (ai @q1 @q2) ?_;have F:=hk
  refine gTP (R:=fun r pm=>∃ E',r=[.one (.lit (.int .i64 (k+(cntRows []:Nat))))]∧pm=[.set E' (fun w=>Own w (.sl (Zal k [])) E' (.slice a 0 cap))]) [1000] ⟨E,by simp only [cntRows,Int.natCast_zero,Int.add_zero];rfl,by simp only [Zal];rfl⟩
 ·have hrl:rowsLen 5 rows:=Zam.rowsLen hok;refine pEx [1000] [1000,1001] (Zfg hne hrl) ?_;rintro ⟨a,cap,ety,uss,E1⟩ ⟨rfl,hl,hmx⟩;simp only at hl ⊢;unfold maxLen at hmx;refine pE [] [1002] Zb4 ?_;have F:=aj4 @Zcx @Zd0 @Int.add_zero @Int.natCast_zero;refine gL (ι:=Nat × List (List Value) × (Nat->Prop) × (Nat->Prop)) [1,5,9] [1000,1001,1002] (fun x=>[(5,.d (.one (.lit (.int .i64 (x.1:Int))))),(1,.d (.one (.lit (.int .i64 (k+(cntRows (rows.take x.1):Nat))))))]) (fun x=>[(1000,.buf (some (a,cap)) ety 5 (x.2.1.map Zah)),(1001,.set x.2.2.1 (fun w=>Zao w (rows.drop x.1) x.2.2.1 (x.2.1.drop x.1))),(1002,.set x.2.2.2 (fun w=>Zao w (Zal k (rows.take x.1)) x.2.2.2 (x.2.1.take x.1)))]) (fun x=>x.1<=rows.length∧x.2.1.length=rows.length) (fun x=>rows.length - x.1) ((0,uss,E1,fun _=>False)) (⟨Taj _,hl⟩) (fun x hx=>?_);clear F
  obtain ⟨i,us,E2,E3⟩:=x;obtain ⟨hi,hn⟩:=hx;simp only at hi hn;dsimp only;by_cases hlt:i < rows.length
  ·obtain ⟨r,hr⟩:∃ r,rows[i]?=some r:=⟨_,Taa hlt⟩;obtain ⟨u,hu⟩:∃ u,us[i]?=some u:=⟨_,Taa om⟩;obtain ⟨t0,r1,p2,p3,i4,rfl,g0,g1,g2,g3,g4⟩:=Zg3 (hok.get hr);have hm1:=ZpF g1;have hc1:cntRows (rows.take (i+1))=cntRows (rows.take i)+(4+cntRows r1):=by
    rw [Zb9 hr,Zc2];simp only [ZbV,cntC];try omega
   have hc2:=Zce rows (i+1);rw [Zch hr,Zch hu];refine pEx [1001] [1001] (Zfh rfl) ?_;rintro ⟨⟩ hlit;obtain ⟨u1,rfl⟩:∃ u1,u=[.string t0,u1,.bool p2,.bool p3,.int .i64 i4]:=by
    match u,hlit with
    | [_,u1,_,_,_],⟨rfl,rfl,rfl,rfl,_⟩=>exact ⟨u1,rfl⟩
   refine pEx (f:=fun (x:(Nat->Prop) × (Nat->Nat->Prop))=>[.set x.1 (fun w=>Zao w (rows.drop (i+1)) x.1 (us.drop (i+1))),.set (x.2 0) (fun w=>Own w (.sl r1) (x.2 0) u1)]) [1001] [1001,1003] (Zgp rfl) ?_;rintro ⟨E4,Es⟩ -;dsimp only;have hkk0:0<=k+(cntRows (rows.take i):Int):=om;have hkk1:k+(cntRows (rows.take i):Int)+((4+cntRows r1:Nat):Int)<=1000000000:=om;generalize hkk:k+(cntRows (rows.take i):Int)=kk at hkk0 hkk1 ⊢
   have q1:=lT i rows.length;have q2:i < rows.length:=hlt;have hs:∀ X:List C,((us.map Zah).set i X)[i]?=some X:=fun X=>ZfQ (by rw [ZaH,hn];omega) X;have lr:Zah [.string t0,u1,.bool p2,.bool p3,.int .i64 i4]=[.lit (.string t0),.lit (u1),.lit (.bool p2),.lit (.bool p3),.lit (.int .i64 i4)]:=rfl;have w0:IntKind.i64.wrap (kk+1)=kk+1:=IntWalk.i64_in _ om;have w2:IntKind.i64.wrap (kk+1+(cntRows r1:Int)+1)=kk+1+(cntRows r1:Int)+1:=IntWalk.i64_in _ om
   have b2:decide (((kk+1+(cntRows r1:Int)).tmod 3)=0)=((kk+1+(cntRows r1:Int)) % 3==0):=Zvj om;have w3:IntKind.i64.wrap (kk+1+(cntRows r1:Int)+1+1)=kk+1+(cntRows r1:Int)+1+1:=IntWalk.i64_in _ om;have b3:decide (((kk+1+(cntRows r1:Int)+1).tmod 3)=0)=((kk+1+(cntRows r1:Int)+1) % 3==0):=Zvj om;have w4:IntKind.i64.wrap (kk+1+(cntRows r1:Int)+1+1+1)=kk+1+(cntRows r1:Int)+1+1+1:=IntWalk.i64_in _ om;have wi:IntKind.i64.wrap ((i:Int)+1)=(i:Int)+1:=IntWalk.i64_in _ om
   refine fB (aj16 @q1 @hl @hn @hu @lr @ZaH @ZaS @hs @w0 @w2 @b2 @w3 @b3 @w4 @q2 @ZaZ) ?_;refine fC (aj16 @q1 @hl @hn @hu @lr @ZaH @ZaS @hs @w0 @w2 @b2 @w3 @b3 @w4 @q2 @ZaZ) (ZcT (kk) om om) ?_;refine fR (aj16 @q1 @hl @hn @hu @lr @ZaH @ZaS @hs @w0 @w2 @b2 @w3 @b3 @w4 @q2 @ZaZ) ?_;refine fB (aj16 @q1 @hl @hn @hu @lr @ZaH @ZaS @hs @w0 @w2 @b2 @w3 @b3 @w4 @q2 @ZaZ) ?_;have F:=aj16 @q1 @hl @hn @hu @lr @ZaH @ZaS @hs @w0 @w2 @b2 @w3 @b3 @w4 @q2 @ZaZ;refine gCP [1003] [1003] (hm1 (kk+1) (Es 0) u1 om om) ?_;clear F
   rintro r pm ⟨F1,rfl,rfl⟩;simp only [setA,retA,zipM,Taf,Tah];refine fR (aj16 @q1 @hl @hn @hu @lr @ZaH @ZaS @hs @w0 @w2 @b2 @w3 @b3 @w4 @q2 @ZaZ) ?_;refine fN 3 (aj16 @q1 @hl @hn @hu @lr @ZaH @ZaS @hs @w0 @w2 @b2 @w3 @b3 @w4 @q2 @ZaZ) ?_;obtain ⟨E6,hre⟩:∃ E6,Zbe [.set E3 (fun w=>Zao w (Zal k (rows.take i)) E3 (us.take i)),.set F1 (fun w=>Own w (.sl (Zal (kk+1) r1)) F1 u1)] [.set E6 (fun w=>Zao w (Zal k (rows.take (i+1))) E6 ((us.set i [.string (txt (kk)),u1,.bool ((kk+1+(cntRows r1:Int)) % 3==0),.bool ((kk+1+(cntRows r1:Int)+1) % 3==0),.int .i64 (kk+1+(cntRows r1:Int)+1+1)]).take (i+1)))]:=by
    have hz:=Zgq (E:=E3) (done:=Zal k (rows.take i)) (ud:=us.take i) (cs:=[.lit (.string (txt (kk))),.sl (Zal (kk+1) r1),.lit (.bool ((kk+1+(cntRows r1:Int)) % 3==0)),.lit (.bool ((kk+1+(cntRows r1:Int)+1) % 3==0)),.lit (.int .i64 (kk+1+(cntRows r1:Int)+1+1))]) (us:=[.string (txt (kk)),u1,.bool ((kk+1+(cntRows r1:Int)) % 3==0),.bool ((kk+1+(cntRows r1:Int)+1) % 3==0),.int .i64 (kk+1+(cntRows r1:Int)+1+1)]) (Es:=fun _=>F1) rfl ⟨rfl,rfl,rfl,rfl,trivial⟩
    rw [Zb9 hr,ZcM,hkk,ZeF om];simp only [ZcL,mkC,mkV,cntC,Int.natCast_one];exact ⟨_,hz⟩
   refine pE [1002,1003] [1002] hre ?_;have e1:((us.set i [.string (txt (kk)),u1,.bool ((kk+1+(cntRows r1:Int)) % 3==0),.bool ((kk+1+(cntRows r1:Int)+1) % 3==0),.int .i64 (kk+1+(cntRows r1:Int)+1+1)]).map Zah)=(us.map Zah).set i [.lit (.string (txt (kk))),.lit (u1),.lit (.bool ((kk+1+(cntRows r1:Int)) % 3==0)),.lit (.bool ((kk+1+(cntRows r1:Int)+1) % 3==0)),.lit (.int .i64 (kk+1+(cntRows r1:Int)+1+1))]:=by rw [List.map_set];rfl
   have e2:=Zfb us i [.string (txt (kk)),u1,.bool ((kk+1+(cntRows r1:Int)) % 3==0),.bool ((kk+1+(cntRows r1:Int)+1) % 3==0),.int .i64 (kk+1+(cntRows r1:Int)+1+1)];have e5:k+(cntRows (rows.take (i+1)):Int)=kk+1+(cntRows r1:Int)+1+1+1:=by rw [hc1];omega
   have hn2:(us.set i [.string (txt (kk)),u1,.bool ((kk+1+(cntRows r1:Int)) % 3==0),.bool ((kk+1+(cntRows r1:Int)+1) % 3==0),.int .i64 (kk+1+(cntRows r1:Int)+1+1)]).length=rows.length:=by rw [ZaS,hn]
   generalize us.set i [.string (txt (kk)),u1,.bool ((kk+1+(cntRows r1:Int)) % 3==0),.bool ((kk+1+(cntRows r1:Int)+1) % 3==0),.int .i64 (kk+1+(cntRows r1:Int)+1+1)]=us2 at e1 e2 hn2 ⊢;rw [<- e1,<- e2];have F:=aj10 @wi @e5 @hl @w0 @w2 @b2 @w3 @b3 @w4 @hn;refine gG ?_;exact ⟨(i+1,us2,E4,E6),⟨hlt,hn2⟩,gw,gw,om⟩
  ·obtain rfl:i=rows.length:=by omega
   have q1:=lF rows.length rows.length;rw [Tap,List.take_of_length_le (Nat.le_of_eq hn)];refine fG (aj3 @q1 @hl @hn) ?_;obtain ⟨E6,hre⟩:∃ E6,Zbe [.buf (some (a,cap)) ety 5 (us.map Zah),.set E3 (fun w=>Zao w (Zal k rows) E3 us)] [.set E6 (fun w=>Own w (.sl (Zal k rows)) E6 (.slice a uss.length cap))]:=by
    rw [hl,<- hn];exact ⟨_,Zb6 (fun w h=>h) (Own.stable _ _ _)⟩
   refine pE [1000,1002] [1000] hre ?_;have F:=hk;exact gTP (R:=fun r pm=>∃ E',r=[.one (.lit (.int .i64 (k+(cntRows rows:Nat))))]∧pm=[.set E' (fun w=>Own w (.sl (Zal k rows)) E' (.slice a uss.length cap))]) [1000] ⟨E6,rfl,rfl⟩
theorem Zs6 {rows:List (List C)} (hok:Zam (Zae .op) rows):Zdr 44 rows:=Zs5 hok
theorem Zk4 {row:List C} (hok:Zan (sigF) row):Zwu 13 row:=by
 obtain ⟨r0,r1,r2,rfl,g0,g1,g2⟩:=Zdy hok;intro kk E us hl hc hk hb;obtain ⟨u0,u1,u2,rfl⟩:=len3 hl;have kc:Zas (.lit u0)=true∧Zas (.lit u1)=true∧Zas (.lit u2)=true:=by simpa [Zah,Tar,and_assoc] using hc
 obtain ⟨k0,k1,k2⟩:=kc;simp only [cntTop,Nat.add_zero] at hb ⊢;have lr:Zah [u0,u1,u2]=[.lit u0,.lit u1,.lit u2]:=rfl;rw [lr];refine gIP (ts:=[.slot 4]) [1000] 23 Tryz.func13 ?_;refine pEx (f:=fun (x:Nat->Nat->Prop)=>[.set (x 0) (fun w=>Own w (.sl r0) (x 0) u0),.set (x 1) (fun w=>Own w (.sl r1) (x 1) u1),.set (x 2) (fun w=>Own w (.sl r2) (x 2) u2)]) [1000] [1003,1004,1005] (Zjd rfl) ?_;rintro Es -
 try dsimp only
 obtain ⟨G0,hre0⟩:∃ G,Zbe [.set (Es 0) (fun w=>Own w (.sl r0) (Es 0) u0),.set (Es 1) (fun w=>Own w (.sl r1) (Es 1) u1)] [.set G (fun w=>Zaf w [.sl r0,.sl r1] G [u0,u1])]:=⟨_,Zje (cs:=[.sl r0,.sl r1]) (us:=[u0,u1]) (Es:=fun k=>Es (k+0)) rfl trivial⟩;refine pE [1003,1004] [1003] hre0 ?_;have lr0:Zah [u0,u1]=[.lit u0,.lit u1]:=rfl;have hm0:=ZpD (row:=[.sl r0,.sl r1]) (ZfV g0 g1) (kk) G0 [u0,u1] rfl (by rw [lr0];simp only [List.all_cons,List.all_nil,k0,k1,Bool.and_self]) om (by simp only [cntTop];omega)
 rw [lr0] at hm0;simp only [cntTop,Zf8,Nat.add_zero,Int.natCast_add,<- Int.add_assoc] at hm0;refine fB (aj4 @lr @k0 @k1 @k2) ?_;have F:=aj4 @lr @k0 @k1 @k2;refine gCP [1003] [1003] (hm0) ?_;clear F;rintro r pm ⟨G0',rfl,rfl⟩;simp only [setA,retA,zipM,Taf,Tah];refine fR (aj4 @lr @k0 @k1 @k2) ?_;refine pEx (f:=fun (x:Nat->Nat->Prop)=>[.set (x 0) (fun w=>Own w (.sl (Zal (kk) r0)) (x 0) u0),.set (x 1) (fun w=>Own w (.sl (Zal (kk+(cntRows r0:Int)) r1)) (x 1) u1)]) [1003] [1003,1004] (Zjd (r:=[.sl (Zal (kk) r0),.sl (Zal (kk+(cntRows r0:Int)) r1)]) rfl) ?_
 rintro Fs0 -
 try dsimp only
 refine fB (aj4 @lr @k0 @k1 @k2) ?_;have F:=aj4 @lr @k0 @k1 @k2;refine gCP [1005] [1005] (Zs6 g2 (kk+(cntRows r0:Int)+(cntRows r1:Int)) (Es 2) u2 om om) ?_;clear F;rintro r pm ⟨F2,rfl,rfl⟩;simp only [setA,retA,zipM,Taf,Tah];refine fR (aj4 @lr @k0 @k1 @k2) ?_;refine fG (aj4 @lr @k0 @k1 @k2) ?_;obtain ⟨E6,hre⟩:∃ E6,Zbe [.set (Fs0 0) (fun w=>Own w (.sl (Zal (kk) r0)) (Fs0 0) u0),.set (Fs0 1) (fun w=>Own w (.sl (Zal (kk+(cntRows r0:Int)) r1)) (Fs0 1) u1),.set F2 (fun w=>Own w (.sl (Zal (kk+(cntRows r0:Int)+(cntRows r1:Int)) r2)) F2 u2)] [.set E6 (fun w=>Zaf w [.sl (Zal (kk) r0),.sl (Zal (kk+(cntRows r0:Int)) r1),.sl (Zal (kk+(cntRows r0:Int)+(cntRows r1:Int)) r2)] E6 [u0,u1,u2])]:=⟨_,Zje (cs:=[.sl (Zal (kk) r0),.sl (Zal (kk+(cntRows r0:Int)) r1),.sl (Zal (kk+(cntRows r0:Int)+(cntRows r1:Int)) r2)]) (us:=[u0,u1,u2]) (Es:=fun k=>match k with | 0=>Fs0 0 | 1=>Fs0 1 | _=>F2) rfl trivial⟩
 refine pE [1003,1004,1005] [1000] hre ?_;have F:=hk;have ee:kk+(cntRows r0:Int)+(cntRows r1:Int)+(cntRows r2:Int)=kk+((cntRows r0+(cntRows r1+(cntRows r2)):Nat):Int):=om;rw [ee];exact gTP (R:=fun r pm=>∃ E',r=[.one (.lit (.int .i64 (kk+((cntRows r0+(cntRows r1+(cntRows r2)):Nat):Int))))]∧pm=[.set E' (fun w=>Zaf w (Zf8 kk [.sl r0,.sl r1,.sl r2]) E' [u0,u1,u2])]) [1000] ⟨E6,rfl,by simp only [Zf8];rfl⟩
end Go.Proofs.YtkigoajepohkaaaGreatDoor
