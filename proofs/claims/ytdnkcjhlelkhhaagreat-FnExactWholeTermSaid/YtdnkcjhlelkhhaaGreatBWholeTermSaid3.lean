/-
  Part of a proof.
-/
import Derived.Test.YtdnkcjhlelkhhaaGreatBWholeTermSaid0
import Derived.Test.YtdnkcjhlelkhhaaGreatBWholeTermSaid1
import Derived.Test.YtdnkcjhlelkhhaaGreatBWholeTermSaid2
import Derived.Test.YtdnkcjhlelkhhaaGreatRows
set_option linter.unusedSimpArgs false
set_option linter.unusedVariables false
set_option maxHeartbeats 400000000
set_option maxRecDepth 100000
namespace Go.Proofs.YtdnkcjhlelkhhaaGreat
open Go.RowKit
def ZbZ (rows:List (List C)) (r:List D) (pm:List Bk):Prop:=∃ v E,r=[.one (.lit v)]∧Zai (.lit v)=true∧pm=[.set E (fun w=>Own w (.sl rows) E v)]
def ZdO:Bk->Bool
 | .set _ _=>true
 | _=>false
def litC:C->Bool
 | .lit _=>true
 | _=>false
def litD:D->Bool
 | .one c=>litC c
 | .agg cs=>cs.all litC
 | _=>false
theorem ZjS {w:World} {S S':Nat->Prop}:∀ {cs:List C} {vs:List Value},cs.all litC=true->Zab w S cs vs->Zab w S' cs vs
 | [],[],_,_=>trivial
 | .lit x::cs,v::vs,hl,h=>by
  simp only [List.all_cons,Tar] at hl;exact ⟨h.1,ZjS hl.2 h.2⟩
 | .sl _::_,_::_,hl,_=>by simp [litC] at hl
 | .ptr _::_,_::_,hl,_=>by simp [litC] at hl
 | .fn _ _::_,_::_,hl,_=>by simp [litC] at hl
 | [],_::_,_,h=>h.elim
 | _::_,[],_,h=>h.elim
theorem Zpe {w:World} {S S':Nat->Prop} {x:D} {v:Value} (hl:litD x=true) (h:DRel w S x v):DRel w S' x v:=by
 cases x with
 | one c=>cases c with
  | lit y=>exact h
  | _=>simp [litD,litC] at hl
 | agg cs=>obtain ⟨vs,h1,h2⟩:=h;exact ⟨vs,h1,ZjS hl h2⟩
 | clip _=>simp [litD] at hl
theorem ZiO {w:World} {S S':Nat->Prop}:∀ {r:List D} {vs:List Value},r.all litD=true->ZaH w S r vs->ZaH w S' r vs
 | [],[],_,_=>trivial
 | x::r,v::vs,hl,h=>by
  simp only [List.all_cons,Tar] at hl;exact ⟨Zpe hl.1 h.1,ZiO hl.2 h.2⟩
 | [],_::_,_,h=>h.elim
 | _::_,[],_,h=>h.elim
theorem Zye {w:World} {S S':Nat->Prop} {L:Lay}:∀ {r:List D} {v:Value},r.all litD=true->ARel w S L (retA r) v->ARel w S' L (retA r) v
 | [],_,_,h=>by obtain ⟨vs,h1,h2⟩:=h;exact ⟨vs,h1,ZiO rfl h2⟩
 | [x],v,hl,h=>by
  simp only [List.all_cons,List.all_nil,Bool.and_true] at hl;exact Zpe (x:=x) (v:=v) hl h
 | x::y::z,_,hl,h=>by obtain ⟨vs,h1,h2⟩:=h;exact ⟨vs,h1,ZiO hl h2⟩
theorem ZA8 {e:Env} {f:FuncId} {args r:List D} (h:Con e f args r):ConP e f args [] (fun r' pm=>r'=r∧pm=[]):=by
 refine ⟨h.1,fun w S vs hS hE hG hpm ha hv=>(h.2 w S vs hS hE hG hv).mono ?_⟩;rintro en w' ⟨v,h1,h2,h3,h4⟩;refine ⟨v,r,[],h1,⟨rfl,rfl⟩,⟨h2.os,h2.tape,h2.output,h2.drawn,h2.size,fun k hk hn=>h2.block k hk (fun h=>hn (.inl h))⟩,h3,fun x hx=>by simp at hx,trivial,?_⟩;exact ARel.keep (Tai _) (fun _ _ _=>rfl) (fun b hb=>⟨hb.elim .inl (fun h=>.inr (.inr h)),fun ⟨x,hx,_⟩=>by simp at hx⟩) h4
theorem ZwP {w:World} {S:Nat->Prop} {x:Bk} (hs:ZdO x=true) (h:Zb5 w S x) {g:Nat} (hg:pblk x g):g < w.heap.size∧¬ S g:=by
 cases x with
 | set E G=>exact h.1 g hg
 | _=>simp [ZdO] at hs
theorem Zpf {w w':World} {S S':Nat->Prop} {x:Bk} (hs:ZdO x=true) (h:Zb5 w S x) (hz:w.heap.size<=w'.heap.size) (hk:∀ b,pblk x b->w'.heap[b]?=w.heap[b]?) (hS:∀ b,pblk x b->¬ S' b):Zb5 w' S' x:=by
 cases x with
 | set E G=>exact ⟨fun b hb=>⟨Tbd (h.1 b hb).1 hz,hS b hb⟩,h.2.2 w w' hz hk h.2.1,h.2.2⟩
 | _=>simp [ZdO] at hs
theorem Zm0:∀ {a b:List Bk},Zcy a->Zcy b->(∀ x∈a,∀ y∈b,∀ g,pblk x g->¬ pblk y g)->Zcy (a++b)
 | [],_,_,h,_=>h
 | x::a,b,⟨h1,h2⟩,h,hd=>⟨fun y hy g hx hg=>(Tbh.1 hy).elim (fun q=>h1 y q g hx hg) (fun q=>hd x Tas y q g hx hg),Zm0 h2 h (fun z hz=>hd z (Tal _ hz))⟩
theorem ZwQ {e:Env} {f:FuncId} {data lits:List D} {R:List D->List Bk->Prop} (pm:List Bk) (h:ConP e f data [] R) (hset:pm.all ZdO=true) (hR:∀ r q,R r q->r.all litD=true∧q.all ZdO=true)
  (hx:∀ (w:World) (S:Nat->Prop) (vs:List Value),(∀ x∈pm,Zb5 w S x)->ZaH w S lits vs->ZaH w (fun b=>S b∨ZaY pm b) data vs):ConP e f lits pm (fun r q=>∃ q1,R r q1∧q=q1++pm):=by
 refine ⟨h.1,fun w S vs hS hE hG hpm ha hv=>?_⟩;have hset':∀ x∈pm,ZdO x=true:=fun x hx=>List.all_eq_true.1 hset x hx;have hlt:∀ g,ZaY pm g->g < w.heap.size∧¬ S g∧¬ e.E g:=fun g ⟨x,hxm,hg⟩=>⟨(ZwP (hset' x hxm) (hpm x hxm).1 hg).1,(ZwP (hset' x hxm) (hpm x hxm).1 hg).2,(hpm x hxm).2 g hg⟩;refine (h.2 w (fun b=>S b∨ZaY pm b) vs (fun b hb=>hb.elim (hS b) (fun q=>⟨(hlt b q).1,(hlt b q).2.2⟩)) hE hG (fun x hx=>by simp at hx) trivial (hx w S vs (fun x hx=>(hpm x hx).1) hv)).mono ?_
 rintro en w' ⟨v,r,q1,h1,h2,h3,h4,h5,h6,h7⟩;obtain ⟨l1,l2⟩:=hR r q1 h2;have l2':∀ x∈q1,ZdO x=true:=fun x hx=>List.all_eq_true.1 l2 x hx;have hnew:∀ x∈q1,∀ g,pblk x g->w.heap.size<=g:=fun x hx g hg=>((h5 x hx).2 g hg).elim (fun ⟨y,hy,_⟩=>by simp at hy) id;have hnil:∀ b,¬ ZaY [] b:=fun b ⟨y,hy,_⟩=>by simp at hy
 refine ⟨v,r,q1++pm,h1,⟨q1,h2,rfl⟩,⟨h3.os,h3.tape,h3.output,h3.drawn,h3.size,fun k hk hn=>h3.block k hk (fun q=>q.elim (fun q=>hn (.inl q)) (fun q=>hnil k q))⟩,h4,fun x hxm=>?_,Zm0 h6 ha (fun x hx y hy g hg hg2=>?_),Zye l1 h7⟩
 ·rcases Tbh.1 hxm with hq | hq
  ·refine ⟨Zpf (l2' x hq) (h5 x hq).1 (Tai _) (fun _ _=>rfl) (fun b hb hn=>hn.2 ⟨x,Tbh.2 (.inl hq),hb⟩),fun g hg=>.inr (hnew x hq g hg)⟩
  ·refine ⟨Zpf (hset' x hq) (hpm x hq).1 h3.size (fun b hb=>h3.block b (hlt b ⟨x,hq,hb⟩).1 (fun q=>q.elim (hlt b ⟨x,hq,hb⟩).2.2 (hnil b))) (fun b hb hn=>hn.2 ⟨x,Tbh.2 (.inr hq),hb⟩),fun g hg=>.inl ⟨x,hq,hg⟩⟩
 ·have:=hnew x hx g hg;have:=(hlt g ⟨y,hy,hg2⟩).1;omega
structure UU where
 v:Nat->Nat->Value
 E:Nat->Nat->Prop
 s:Nat->List (List Value)
 a:Nat->Option Addr
 c:Nat->Nat
def UU.z:UU:=⟨fun _ _=>.bool true,fun _ _=>False,fun _=>[],fun _=>none,fun _=>0⟩
def UU.ok (x:UU):Prop:=(∀ c k,Zai (.lit (x.v c k))=true)∧∀ c,((x.s c).map Zaf).all (fun r=>r.all Zai)=true
theorem UU.z_ok:UU.z.ok:=⟨fun _ _=>rfl,fun _=>rfl⟩
def UU.two (c:Nat) (a b:UU):UU:=⟨fun d=>if d=c then a.v d else b.v d,fun d=>if d=c then a.E d else b.E d,fun d=>if d=c then a.s d else b.s d,fun d=>if d=c then a.a d else b.a d,fun d=>if d=c then a.c d else b.c d⟩
def UU.vs (us:List Value) (E:Nat->Prop):UU:=⟨fun _ k=>us.getD k (.bool true),fun _=>E,fun _=>[],fun _=>none,fun _=>0⟩
def UU.sl (uss:List (List Value)) (a:Option Addr) (cap:Nat) (E:Nat->Prop):UU:=⟨fun _ _=>.bool true,fun _=>E,fun _=>uss,fun _=>a,fun _=>cap⟩
section
variable {X:Type} {L:List Oper} {cons:Nat->Option Nat} {ok:Nat->X->Prop} {T:X->Tab} {i:Nat} {sb:List (Nat × A)} {mb:List (Nat × Bk)} {s:List (Nat × A)} {m:List (Nat × Bk)} {d k:Nat} {α:A} {bk bk2:Bk}
end
section
variable {w:World} {S:Nat->Prop}
theorem Zs6 {rows:List (List C)} {ety sz cap l h:Nat} {a:Option Addr} (hb:Za5 w S ety sz rows (.slice a rows.length cap)) (hl:l<=h∧h<=rows.length):∃ (b:Option Addr) (c:Nat) (news:List Value),sliced a l h cap sz=.slice b ((rows.take h).drop l).length c∧Zab w S ((rows.take h).drop l).flatten news∧∀ (P:Program) (w':World),(∀ p,w'.cell? p=w.cell? p)->(Builtin.firstCells sz ((rows.take h).drop l).length (sliced a l h cap sz)).run P w'=.ok news.toArray w':=by
 have hln:((rows.take h).drop l).length=h - l:=by rw [Tax,Taw];omega
 obtain ⟨h1,hrl,h3⟩:=hb;by_cases he:h=l
 ·have e0:((rows.take h).drop l).length=0:=om;have e1:(rows.take h).drop l=[]:=Tao e0;refine ⟨_,_,[],by rw [hln];exact rfl,by rw [e1];simp [Zab],fun P w' _=>?_⟩;rw [e0];simp only [sliced,he,Nat.sub_self];split
  ·cases a <;> simp [Builtin.firstCells,loadCells,loadCellsFrom]
  ·cases a <;> simp [Builtin.firstCells,loadCells,loadCellsFrom]
 ·rcases h3 with ⟨h4,p,h5⟩ | ⟨g,cap',cur,h4,h5,h6,h7,h8,h9,h10,h11,h12⟩
  ·rw [h4] at hl;simp only [Tak] at hl;omega
  ·injection h4 with e1 e2 e3
   subst e1 e3;have hlc:¬ cap=l:=om;have hval:sliced (some ⟨g,0,none⟩) l h cap sz=.slice (some ⟨g,l * sz,none⟩) (h - l) (cap - l):=by
    simp only [sliced,hlc,if_false,Option.map_some,Addr.add_at,Nat.zero_add]
   have hr:=Zas.sub hrl h12 l h;rw [Nat.zero_add] at hr;obtain ⟨news,q5,q6⟩:=hr.flat.vals;have hsl:rowsLen sz ((rows.take h).drop l):=fun r hr=>hrl r (List.mem_of_mem_take (List.mem_of_mem_drop hr));rw [hval];refine ⟨_,_,news,by rw [hln],q5,fun P w' hw=>?_⟩;exact run_firstCells_some w' sz _ _ _ _ news (by rw [q5.len,Zcn hsl]) (fun j u hj=>by rw [hw,Addr.add_at];exact q6 j u hj)
end
section
variable {e:Env} {K:St->Prop} {ds:List (Option Nat)} {os:List Oper} {s:List (Nat × A)} {m:List (Nat × Bk)}
theorem Zqp {σ:St} {o:Oper} {x y:Operand} {t ety ety' sz by' k j d l h cap:Nat} {a0:Option Addr} {rows rj:List (List C)} {oa:Option (Option Addr × Nat)} (ho:o.op=.call ⟨.builtin .append,#[x,y],#[t,t]⟩) (hdd:o.dst=some d) (hb:Za3 e.P t=some (ety,sz,by'))
  (hx:evA σ.s x=.buf k) (hm:gm σ.m k=some (.buf oa ety sz rows)) (hy:evA σ.s y=.d (.one (.lit (sliced a0 l h cap sz)))) (hj:gm σ.m j=some (.buf (some (a0,cap)) ety' sz rj)) (hlh:l<=h∧h<=rj.length) (hle:rows.length+rj.length<=maxApp)
  (hK:K ⟨(d,.buf d)::Zaz d (Zaz k σ.s),(d,.buf none ety sz (rows++(rj.take h).drop l))::remM d (remM k σ.m)⟩):Zbx e o σ K:=by
 intro he U w0 S0 nt a w Q hd ⟨S,L,h0⟩;have hx':a.eval x=L.v k:=by have:=h0.eval x;rw [hx] at this;exact this
 have hy':=h0.eval y;rw [hy] at hy';have hy':=Zbj hy';have ho':Za5 w S ety sz rows (L.v k):=(h0.cls.own k _ hm).2;obtain ⟨hpl,hbj⟩:=h0.cls.own j _ hj;have hvj:L.v j=.slice a0 rj.length cap:=hpl (a0,cap) rfl;rw [hvj] at hbj;obtain ⟨yb,yc,news,y1,y2,y3⟩:=Zs6 hbj hlh;have hln:((rj.take h).drop l).length=h - l:=by rw [Tax,Taw];omega
 have hsl:rowsLen sz ((rj.take h).drop l):=fun r hr=>hbj.2.1 r (List.mem_of_mem_take (List.mem_of_mem_drop hr));obtain ⟨v',w',hrun,hbuf,τ,hk,hτ,hblk⟩:=Zf1 (ty:=o.type) (ts:=#[t,t]) (v:=L.v k) (u:=sliced a0 l h cap sz) he h0.cls rfl rfl hb (.inl ho') ho'.2.1 hsl om ⟨yb,yc,news,y1,y2,y3⟩;unfold Oper.wp;have hr2:(execOp a.eval o).run e.P w=.ok (.value v') w':=by
  simp [execOp,ho,resolve,invoke,builtin,hx',hy',hrun,Result.andThen]
 rw [hr2,Oper.upon_value,hdd];refine ⟨_,hK,h0.born he (hd d hdd) (τ:=τ) (b':=0) (v':=v') (s1:=Zaz k σ.s) (m1:=remM k σ.m) (fun _ h=>h) (fun _ h=>.inl h) (fun t=>?_) (fun k' x hx=>?_) (fun g hg=>?_) (fun k' x g hkd hx hg hb'=>?_) hk ?_ (fun g hg=>?_) (by simp [ARel])⟩
 ·rcases ZeT k t σ.s with ⟨h1,_⟩ | h1
  ·exact .inl h1
  ·exact .inr h1
 ·rw [Zat] at hx;split at hx
  ·cases hx
  ·exact hx
 ·have hg':=(hτ g hg).1;exact ⟨(Own1.lt (k:=k) (L:=L) (bk:=.buf none ety sz rows) ⟨by simp,ho'⟩ hg').2,h0.cls.notE hm hg',h0.cls.mine k _ g hm hg'⟩
 ·have hg':=(hτ g hg).1;rw [Zat] at hx;split at hx
  ·cases hx
  ·rename_i hne';exact hne' (h0.cls.inj k' k x _ g hx hm hb' hg')
 ·simp only [Own1,if_true];exact ⟨by simp,hbuf⟩
 ·simp only [ZaN,if_true] at hg;exact hblk g hg
theorem gAps {d t ty ety ety' by' sz l h cap:Nat} {p:String} {ed:Array Edge} {x y:Operand} {rows rj:List (List C)} {oa:Option (Option Addr × Nat)} {a0:Option Addr} {s2:List (Nat × A)} {m2:List (Nat × Bk)} (k j:Nat) (hlh:l<=h∧h<=rj.length) (hle:rows.length+rj.length<=maxApp) (hK:Runs e ds 0 os ⟨(d,.buf d)::s2,(d,.buf none ety sz (rows++(rj.take h).drop l))::m2⟩ K)
  (hb:Za3 e.P t=some (ety,sz,by'):=by exact sfx) (hx:evA s x=.buf k:=by exact sfx) (hm:gm m k=some (.buf oa ety sz rows):=by exact snx) (hy:evA s y=.d (.one (.lit (sliced a0 l h cap sz))):=by exact snx) (hj:gm m j=some (.buf (some (a0,cap)) ety' sz rj):=by exact snx)
  (hs:Zaz d (Zaz k s)=s2:=by exact snv) (hr:remM d (remM k m)=m2:=by exact snv):Runs e ds 0 (⟨some d,.call ⟨.builtin .append,#[x,y],#[t,t]⟩,ty,p,ed,none⟩::os) ⟨s,m⟩ K:=by
 subst hs hr;simp only [Runs] at hK ⊢;exact Zdf rfl (Zqp rfl rfl hb hx hm hy hj hlh hle hK)
end
theorem ZAi (pm:List Bk):ZaS pm pm:=fun w S h1 h2=>⟨h1,h2,fun _ h=>h⟩
theorem Zyh {ts:List Tm} {i:Nat} (h:i<=ts.length):(Zaa (ts.take i)).length=i:=by rw [Zac,Taw];omega
theorem Znn (t:Tm) (hB:tmsB t.args) (h:∀ a∈t.args,Con e0 25 [.agg (Zad a)] [.agg (Zad a)]):Con e0 25 [.agg (Zad t)] [.agg (Zad t)]:=by
 obtain ⟨op,nm,so,args⟩:=t;have hc:Zad (.mk op nm so args)=[.lit (.int .i64 op),.lit (.string nm),.lit (.int .i64 so),.sl (Zaa args)]:=by simp only [Zad]
 simp only [Tm.args] at h hB;have hl:args.length<=1048576:=Tbe (Nat.le_add_right _ _) hB;refine gI (ts:=[.cell 2 42]) 65567 Tryz.func25 ?_;refine fN 1 @hc ?_;refine gB ?_;refine gP 6 ?_;refine gX ?_;refine fR @hc ?_;refine pN 1000 42 4 ?_;refine fG @hc ?_;have F:=ai @hc @Zfd;refine gL (ι:=Nat × Option Addr × Nat) [4,16] [3,1000] (fun x=>[(4,.d (.one (.lit (.int .i64 (x.1:Int)))))]) (fun x=>[(1000,.buf (some (x.2.1,x.2.2)) 42 4 (Zaa (args.take x.1))),(3,.var none [.lit (.int .i64 op),.lit (.string nm),.lit (.int .i64 so),.lit (.slice x.2.1 x.1 x.2.2)])]) (fun x=>x.1<=args.length) (fun x=>args.length - x.1) ((0,none,0)) (Taj _) (fun x hx=>?_);clear F
 obtain ⟨i,p,cap⟩:=x;simp only at hx;by_cases hlt:i < args.length
 ·have hg:args[i]?=some args[i]:=Taa hlt;have hcon:=h args[i] (List.getElem_mem hlt);generalize args[i]=a at hg hcon;have q1:=lT i args.length;have q4:IntKind.i64.wrap ((i:Int)+1)=(i:Int)+1:=IntWalk.i64_in _ om;have q2:i+1<=maxApp:=by unfold maxApp;omega
  have q3:=Zyh hx;have q5:(args.take i).length=i:=by rw [Taw];omega
  refine fB (aj6 @hc @Zac @ZbD @q1 @hg @tmz) ?_;refine fC (aj3 @tmz @ZbD @hg) (hcon) ?_;have F:=aj4 @tmz @q2 @q3 @q5;refine gP 3 ?_;clear F;refine gS 28 fun p2 cap2=>?_;refine fR (aj3 @tmz @q3 @q5) ?_;refine pE [28] [1000] (ZAi _) ?_;rw [<- Zg3 args hg];have F:=ai @hc @q4;refine gG ?_;exact ⟨(i+1,p2,cap2),hlt,gw,gw,om⟩
 ·obtain rfl:i=args.length:=by omega
  have q1:=lF args.length args.length;rw [Tap];refine fG (aj3 @hc @Zac @q1) ?_;refine pD 1000 [] [2] ?_ (hs:=by exact snv);exact fD (ai @hc @Zac)
theorem ZwT (n:Nat):(∀ t:Tm,Zbe (Zad t) < n->bulkRow (Zad t)<=1048576->Con e0 25 [.agg (Zad t)] [.agg (Zad t)]):=by
 induction n with
 | zero=>exact fun _ h=>om
 | succ n ih =>
  intro t hn hb;obtain ⟨op,nm,so,args⟩:=t;simp only [Zad,Zbe,Zdy,bulkRow,ZaU] at hn hb;refine Znn _ (by unfold tmsB;simp only [Tm.args];have:=Zac args;omega) fun a ha=>?_;simp only [Tm.args] at ha;obtain ⟨i,hi⟩:=Tbk ha;have hi':(Zaa args)[i]?=some (Zad a):=by rw [ZbD,hi];rfl
  have h1:=Zcr hi';have h2:=ZbF hi';exact ih a om om
theorem ZhS (t:Tm) (hb:bulkRow (Zad t)<=1048576):Con e0 25 [.agg (Zad t)] [.agg (Zad t)]:=ZwT _ t (Tan _) hb
theorem Zs7 {ts:List Tm} {i:Nat} {t:Tm} (h:ts[i]?=some t):Zaa (ts.take i)++[Zad t]=Zaa (ts.take (i+1)):=(Zg3 ts h).symm
theorem ZiP (ts:List Tm) (hB:tmsB ts):Con e0 99 [.one (.sl (Zaa ts))] [.one (.sl (Zaa ts))]:=by
 unfold tmsB at hB;refine gI (ts:=[.slot 2]) 541 Tryz.func99 ?_;refine fG @tmz ?_;have F:=@Zfd;refine gL (ι:=Nat) [3,4,9] [3] (fun i=>[(4,A.d (.one (.lit (.int .i64 i)))),(3,.buf 3)]) (fun i=>[(3,.buf none 42 4 (Zaa (ts.take i)))]) (fun i=>i<=ts.length) (fun i=>ts.length - i) (0) (Taj _) (fun i hi=>?_);clear F;by_cases hlt:i < ts.length;rotate_left
 ·obtain rfl:i=ts.length:=by omega
  have q2:=lF ts.length ts.length;rw [Tap];refine fG (ai @q2 @tmz) ?_;have F:=@tmz;refine gG ?_;exact gTz [2]
 obtain ⟨t,ht⟩:∃ b,ts[i]?=some b:=⟨_,Taa hlt⟩;have q2:=lT i ts.length;have q4:=Zaw (k:=i) om;have hi':(Zaa ts)[i]?=some (Zad t):=by rw [ZbD,ht];rfl
 have hbt:=ZbF hi';have cc:=ZhS t om;have l1:ZaC 4 (Zaa (ts.take i))=true:=Zco _;have l2:((Zaa (ts.take i)).length+1<=maxApp)=True:=eq_true (by rw [Zac,Taw];unfold maxApp;omega);have l3:((ts.take i).length+1<=maxApp)=True:=eq_true (by rw [Taw];unfold maxApp;omega);have l4:min i ts.length+1<=maxApp:=by unfold maxApp;omega
 have e:=Zs7 ht;refine fB (ai @q2 @tmz) ?_;refine fC (aj3 @q2 @ht @tmz) (cc) ?_;refine fR (aj4 @l1 @l2 @l3 @tmz) ?_;have F:=ai @q4 @e;refine gG ?_;exact ⟨i+1,hlt,gw,gw,om⟩
theorem Zyi:Zaa (ZaB [])=[]:=by simp [ZaB,Zaa]
theorem Zs8 {l:List Tm} (h:ZaG l):ZaG (ZaB l):=by
 have:∀ {ts:List Tm},ZaG ts ↔ ∀ t∈ts,okTm t:=fun {ts}=>by
  induction ts with
  | nil=>simp [ZaG]
  | cons t ts ih=>simp [ZaG,ih]
 exact this.2 fun a ha=>this.1 h a ((Za7 l).mem_iff.1 ha)
theorem Zqq {l:List Tm} (h:ZaG l) (k:Nat):ZaG (l.take k):=by
 have:∀ {ts:List Tm},ZaG ts ↔ ∀ t∈ts,okTm t:=fun {ts}=>by
  induction ts with
  | nil=>simp [ZaG]
  | cons t ts ih=>simp [ZaG,ih]
 exact this.2 fun a ha=>this.1 h a (List.mem_of_mem_take ha)
theorem Zpg (ts:List Tm) (hok:ZaG ts) (hB:tmsB ts):Con e0 98 [.one (.sl (Zaa ts))] [.one (.sl (Zaa (ZaB ts)))]:=by
 have hB0:=hB;unfold tmsB at hB
 have hcc:=ZiP (ZaB ts) (by
  have h1:=(Za7 ts).length_eq;have h2:bulkRows (Zaa (ZaB ts))=bulkRows (Zaa ts):=by
   have:∀ {l m:List Tm},l.Perm m->bulkRows (Zaa l)=bulkRows (Zaa m):=fun h=>by
    induction h with
    | nil=>rfl
    | cons x h ih=>simp only [Zaa,bulkRows,ih]
    | swap x y l=>simp only [Zaa,bulkRows];omega
    | trans h1 h2 a b=>rw [a,b]
   exact this (Za7 ts)
  unfold tmsB;omega)
 refine gI (ts:=[.slot 2]) 1073743997 Tryz.func98 ?_;refine fG @tmz ?_;have F:=ai @Zyi @tmz;refine gL (ι:=Nat) [3,4,5,6,11,30] [3] (fun i=>[(4,A.d (.one (.lit (.int .i64 i)))),(3,.buf 3)]) (fun i=>[(3,.buf none 42 4 (Zaa (ZaB (ts.take i))))]) (fun i=>i<=ts.length) (fun i=>ts.length - i) (0) (Taj _) (fun i hi=>?_);clear F;by_cases hlt:i < ts.length;rotate_left
 ·obtain rfl:i=ts.length:=by omega
  have q2:=lF ts.length ts.length;rw [Tap];refine fN 10 (ai @q2 @tmz) ?_;refine pS 3 fun a cap=>?_;refine pD 3 [3] [] ?_;refine gB ?_;refine fC @tmz (hcc) ?_;refine fR @tmz ?_;exact fD @tmz
 obtain ⟨x,hx⟩:∃ b,ts[i]?=some b:=⟨_,Taa hlt⟩;have q2:=lT i ts.length;have q4:=Zaw (k:=i) om;have hxo:=hok.mem (Tac hx);obtain ⟨M,hM⟩:∃ M,M=ZaB (ts.take i):=⟨_,rfl⟩;have hMl:M.length=i:=by rw [hM,Zc2,Taw];omega
 have hMo:ZaG M:=by rw [hM];exact Zs8 (Zqq hok i)
 have hMr:ts.take (i+1)=ts.take i++[x]:=Zdb hx;rw [<- hM];refine fN 5 (aj3 @q2 @hMl @tmz) ?_;refine gB ?_;refine fR (ai @hMl @tmz) ?_;refine Zfo ?_;refine gM (ι:=Nat) [5] [] (fun k=>[(5,A.d (.one (.lit (.int .i64 k))))]) (fun k=>[]) (fun k=>k<=i∧(∀ y∈M.drop k,Zam x y<=0)∧(0 < k->∃ y,M[k - 1]?=some y∧Zam y x<=0)) ?_ (fun k hk=>Exists.intro _ (ai (Wk.refl _) ?_))
 ·refine fG @tmz ?_;have F:=@tmz;refine gL (ι:=Nat) [5,30] [] (fun k=>[(5,A.d (.one (.lit (.int .i64 k))))]) (fun k=>[]) (fun k=>k<=i∧∀ y∈M.drop k,Zam x y<=0) (fun k=>k) (i) (⟨Tai _,by rw [<- hMl,List.drop_length];intro y hy;cases hy⟩) (fun k hk=>?_);clear F;obtain ⟨hk,h2⟩:=hk;by_cases hk0:k=0
  ·have q0:=lF 0 k;have F:=ai @q0 @tmz;refine gG ?_;exact ⟨k,⟨hk,h2,fun h=>om⟩,gw,gw⟩
  obtain ⟨j,rfl⟩:∃ j,k=j+1:=⟨k - 1,om⟩;obtain ⟨y,hy⟩:∃ y,M[j]?=some y:=⟨_,Taa om⟩;have q5:=lT 0 (j+1:Nat);have wj:IntKind.i64.wrap (((j+1:Nat):Int) - 1)=(j:Int):=Za6 om om om;have lj:j < i:=om;have hdr:M.drop j=y::M.drop (j+1):=ZdB hy;generalize hk1:j+1=k1 at q5 wj h2 hk hdr ⊢;refine fB @tmz ?_;refine fC (aj8 @q5 @wj @hy @hx @hMl @lj @ZaZ @tmz) (Zfy (hMo.mem (Tac hy)) hxo) ?_;by_cases hc:0 < Zam y x
  ·have z:=eq_true hc;refine fR @z ?_;have h2':∀ u∈M.drop j,Zam x u<=0:=fun u hu=>by
    rw [hdr] at hu;rcases Tbg.1 hu with rfl | hu
    ·rw [Zcs u x];omega
    ·exact h2 u hu
   have F:=ai @z @wj;refine gG ?_;exact ⟨j,⟨om,h2'⟩,gw,gw,om⟩
  have z:=eq_false hc;refine fR @z ?_;have F:=ai @z @tmz;refine gG ?_;exact ⟨k1,⟨hk,h2,fun _=>⟨y,by rw [<- hk1,Nat.add_sub_cancel];exact hy,om⟩⟩,gw,gw⟩
 obtain ⟨hk,h2,h1⟩:=hk;have hMs:M.take k++x::M.drop k=ZaB (ts.take (i+1)):=by
  rw [hMr];refine ZoZ (by rw [Tbm,hM]) h2 fun y hy=>?_;have hk0:0 < k:=by
   rcases Nat.eq_zero_or_pos k with h | h
   ·subst h;simp at hy
   ·exact h
  obtain ⟨z,hz,hc⟩:=h1 hk0;rw [List.getLast?_eq_getElem?,Taw,hMl,Nat.min_eq_left hk,List.getElem?_take,if_pos om,hz] at hy;injection hy with hy
  subst hy;exact hc
 have hdl:((Zaa M).take (Zaa M).length).drop k=Zaa (M.drop k):=by rw [Tap,ZeH]
 refine fN 8 @tmz ?_;refine pS 3 fun a cap=>?_;refine gB ?_;have F:=@tmz;refine gP 3 ?_;clear F;have hkl:k<=(Zaa M).length:=by rw [Zac];omega
 refine (have F:=ai hMl tmz;gSub 3 k (Zaa M).length ⟨hkl,Tai _⟩ ?_);refine gO 33 42 4 ?_;refine (have F:=tmz;gAps (rows:=[]) (rj:=Zaa M) 33 3 ⟨hkl,Tai _⟩ (by rw [Zac];simp only [Tak,maxApp];omega) ?_);rw [hdl,Tah];refine fR @tmz ?_;refine fN 9 @tmz ?_;have hcl:(Zaa M).take k=Zaa (M.take k):=ZdY _ _;have htl:(M.take k).length=k:=by rw [Taw];omega
 refine gF0 ?_;refine gFm 0 ?_;refine gFm 1 ?_;refine (have F:=ai hMl tmz;gFs 2 3 0 k ⟨Taj _,hkl⟩ ?_);rw [ZjR];refine gFm 3 ?_;refine gFm 4 ?_;refine gFm 9 ?_;refine gFT ?_;have l1:(k+1<=maxApp)=True:=eq_true (by unfold maxApp;omega);have l2:((M.take k).length+1+(M.drop k).length<=maxApp)=True:=eq_true (by rw [htl,Tax];unfold maxApp;omega);have e1:Zaa (M.take k)++[Zad x]=Zaa (M.take k++[x]):=by rw [ZbK];rfl
 have e2:Zaa (M.take k++[x])++Zaa (M.drop k)=Zaa (ZaB (ts.take (i+1))):=by rw [<- ZbK,<- hMs];simp
 refine gO1 5 ?_;refine (have F:=aj4 q2 hx ZaZ tmz;gO3 ?_);refine gO1 6 ?_;refine (have F:=ai hx tmz;gO3 ?_);refine gO1 7 ?_;refine (have F:=tmz;gO3 ?_);refine gO1 8 ?_;refine gE [3] [3] (ZwM k hkl) ?_;rw [hcl];refine (have F:=aj4 htl l1 e1 tmz;gO3 ?_);refine gO1 10 ?_;refine (have F:=aj3 l2 e2 tmz;gO3 ?_);refine gO1 11 ?_;refine (have F:=tmz;gO3 ?_);refine (have F:=tmz;gT0 ?_);refine Exists.intro _ (ai (Wk.refl _) ?_)
 have F:=@q4;refine gG ?_;exact ⟨i+1,hlt,gw,gw,om⟩
def addL (i:Nat):Nat->List Oper->List Oper
 | _,[]=>[]
 | 0,o::l=>{ o with after:=o.after.push ⟨i,.data⟩ }::l
 | k+1,o::l=>o::addL i k l
theorem ZgD (i:Nat):∀ (k:Nat) (l:List Oper) (j:Nat),(addL i k l)[j]?=if j=k then l[j]?.map fun o=>{ o with after:=o.after.push ⟨i,.data⟩ } else l[j]?
 | k,[],j=>by simp [addL]
 | 0,o::l,0=>by simp [addL]
 | 0,o::l,j+1=>by simp [addL]
 | k+1,o::l,0=>by simp [addL]
 | k+1,o::l,j+1=>by simp [addL,ZgD i k l j]
theorem Zkg (i:Nat):∀ (k:Nat) (l:List Oper),(addL i k l).length=l.length
 | k,[]=>by simp [addL]
 | 0,o::l=>by simp [addL]
 | k+1,o::l=>by simp [addL,Zkg i k l]
theorem Zkh (i:Nat):∀ (k:Nat) (l:List Oper),(addL i k l).map (·.dst)=l.map (·.dst)
 | k,[]=>by simp [addL]
 | 0,o::l=>by simp [addL]
 | k+1,o::l=>by simp [addL,Zkh i k l]
section
variable {P:Program} {l:List Oper} {i k:Nat} {oi ok:Oper}
theorem ZgR {Q:Exit->Act->World->Prop} {j:Nat} {K:Act->World->Prop} {a:Act} {w:World}:wpOp P (addL i k l).toArray Q j K a w ↔ wpOp P l.toArray Q j K a w:=by
 have hb:∀ g:Nat,((addL i k l)[g]?).bind (fun x=>x.dst)=(l[g]?).bind fun x=>x.dst:=fun g=>by
  rw [ZgD];by_cases h:g=k
  ·rw [if_pos h];cases l[g]? <;> rfl
  ·rw [if_neg h]
 have hy:yielded (addL i k l).toArray a.tmps=yielded l.toArray a.tmps:=by
  funext g;unfold yielded;simp only [List.getElem?_toArray,hb]
 unfold wpOp;rw [hy];simp only [List.getElem?_toArray,ZgD];by_cases hjk:j=k
 ·rw [if_pos hjk]
  cases hj:l[j]? with
  | none=>exact Iff.rfl
  | some o=>exact Iff.rfl
 ·rw [if_neg hjk]
def ZwU (ops:Array Oper) (i:Nat):Bool:=(List.range ops.size).all fun j=>j==i || match ops[i]?,ops[j]? with
 | some oi,some oj=>oi.after.any (fun e=>Region.binds .any e && e.on==j) || (oj.after.any (fun e=>Region.binds .any e && e.on==i) || oi.apart ops oj)
 | _,_=>true
def ZnW (ops:Array Oper) (i k:Nat):Bool:=ZhP ops && ZwU ops i && i != k && match ops[i]?,ops[k]? with
 | some oi,some ok=>(match oi with
  | ⟨some _,.extract _ _,_,_,_,none⟩=>true
  | _=>false) && oi.after.all fun e=>!Region.binds .any e || ok.after.any fun e'=>Region.binds .any e' && e'.on==e.on
 | _,_=>false
theorem Zs9 {Q:Exit->Act->World->Prop} (hQ:∀ ex a w,Q ex a w->ex=.normal) (hB:ZnW l.toArray i k=true) :
  ∀ (f:Nat) (listed:Array Bool) (a:Act) (w:World),listed.size=l.length->wpAny P .any (addL i k l).toArray Q f listed a w->wpAny P .any l.toArray Q f listed a w:=by
 simp only [ZnW,Tar,bne_iff_ne,ne_eq] at hB;obtain ⟨⟨⟨hsel,hap⟩,hik⟩,h4⟩:=hB;split at h4;rotate_left
 ·cases h4
 rename_i oi ok hoi hok;simp only [Tar] at h4;obtain ⟨h5,h6⟩:=h4;have hpre:∀ e∈oi.after,Region.binds .any e=true->∃ e'∈ok.after,Region.binds .any e'=true∧e'.on=e.on:=fun e he hb=>by
  have:=Array.all_eq_true_iff_forall_mem.1 h6 e he;simp only [hb,Bool.not_true,Bool.false_or,Array.any_eq_true',Tar,beq_iff_eq] at this;obtain ⟨e',q1,q2,q3⟩:=this;exact ⟨e',q1,q2,q3⟩
 have hrdy:∀ (listed:Array Bool) (j:Nat),j∈Region.ready .any (addL i k l).toArray listed ↔ j∈Region.ready .any l.toArray listed∧(j=k->listed.getD i false=true):=fun listed j=>by
  rw [mem_ready,mem_ready];simp only [List.getElem?_toArray,ZgD];by_cases hj:j=k
  ·subst hj;simp only [if_true,true_implies];constructor
   ·rintro ⟨q1,o,q2,q3⟩
    cases hl:l[j]? with
    | none=>rw [hl] at q2;cases q2
    | some o' =>
     rw [hl] at q2;injection q2 with q2
     subst q2;exact ⟨⟨q1,o',rfl,fun e he hb=>q3 e (by simp [he]) hb⟩,q3 ⟨i,.data⟩ (by simp) rfl⟩
   ·rintro ⟨⟨q1,o,q2,q3⟩,q4⟩;refine ⟨q1,_,by rw [q2];rfl,fun e he hb=>?_⟩;rcases Array.mem_push.1 he with he | he
    ·exact q3 e he hb
    ·subst he;exact q4
  ·simp [hj]
 have hun:∀ (listed:Array Bool),listed.size=l.length->k∈Region.ready .any l.toArray listed->i∈Region.ready .any l.toArray listed∨listed.getD i false=true:=fun listed hs hk=>by
  by_cases h:listed.getD i false=true
  ·exact .inr h
  ·left;rw [mem_ready] at hk ⊢;obtain ⟨_,o,q2,q3⟩:=hk;have:o=ok:=by rw [hok] at q2;injection q2 with q2;exact q2.symm
   subst this;have hlt:i < l.length:=by have:=(Tbl.1 hoi).1;simpa using this
   refine ⟨?_,oi,hoi,fun e he hb=>?_⟩
   ·have hl:i < listed.size:=om;rw [Zbv hl];simpa using h
   ·obtain ⟨e',r1,r2,r3⟩:=hpre e he hb;rw [<- r3];exact q3 e' r1 r2
 have hap':=hap;intro f
 induction f with
 | zero =>
  intro listed a w hs h;refine ⟨?_,h.2⟩;by_cases hk:k∈Region.ready .any l.toArray listed
  ·rcases hun listed hs hk with h1 | h1
   ·have:=(hrdy listed i).2 ⟨h1,fun e=>absurd e hik⟩;rw [h.1] at this
    cases this
   ·have:=(hrdy listed k).2 ⟨hk,fun _=>h1⟩;rw [h.1] at this
    cases this
  ·refine List.eq_nil_iff_forall_not_mem.2 fun j hj=>?_;have:=(hrdy listed j).2 ⟨hj,fun e=>absurd (e ▸ hj) hk⟩;rw [h.1] at this
   cases this
 | succ f ih =>
  intro listed a w hs h;by_cases hi:i∈Region.ready .any l.toArray listed
  ·have h1:=h.2 i ((hrdy listed i).2 ⟨hi,fun e=>absurd e hik⟩);rw [ZgR] at h1;have h1':∃ v,Yields P l.toArray oi v a∧wpAny P .any (addL i k l).toArray Q f (listed.setIfInBounds i true) (a.put oi.dst v) w:=by
    unfold wpOp at h1;simp only [hoi] at h1;split at h5;rotate_left
    ·cases h5
    rename_i d x n ty pos af;have hw:Region.wanted ⟨some d,.extract x n,ty,pos,af,none⟩ (yielded l.toArray a.tmps)=true:=by simp [Region.wanted]
    rw [if_pos hw] at h1;rcases h1 with h1 | ⟨_,b,w',h1⟩
    rotate_left
    ·have:=hQ _ _ _ h1;cases this
    unfold Oper.wp at h1
    cases hx:a.eval x with
    | tuple vs =>
     cases hv:vs[n]? with
     | some v =>
      have hrun:∀ w',(execOp a.eval ⟨some d,.extract x n,ty,pos,af,none⟩).run P w'=.ok (.value v) w':=fun w'=>by
       simp [execOp,Instr.extract,hx,hv]
      rw [hrun,Oper.upon_value] at h1;exact ⟨v,.inl ⟨hw,hrun⟩,h1⟩
     | none =>
      simp [execOp,Instr.extract,hx,hv,stuck,Oper.upon] at h1
    | _=>simp [execOp,Instr.extract,hx,stuck,Oper.upon] at h1
   obtain ⟨v,hv,h2⟩:=h1';refine wpAny_first (oi:=oi) (v:=v) hoi (fun j oj cs b hj hsl=>?_) (fun c a w hq=>?_) f listed a w (fun j oj hj hne hl hno=>?_) hi hv (ih _ _ _ (by simpa using hs) h2)
   ·have:=List.all_eq_true.1 hsel oj (Tac (by simpa using hj));rw [hsl] at this
    cases this
   ·have:=hQ _ _ _ hq;cases this
   ·have hjs:=(Tbl.1 hj).1;have:=List.all_eq_true.1 hap j (List.mem_range.2 hjs);simp only [hoi,hj,Bool.or_eq_true,beq_iff_eq,List.any_eq_true,Array.any_eq_true',Tar] at this;rcases this with h1 | h1 | h1 | h1
    ·exact absurd h1 hne
    ·obtain ⟨ed,h2,h3,h4⟩:=h1;obtain ⟨_,o,q2,q3⟩:=mem_ready.1 hi;rw [hoi] at q2;injection q2 with q2
     subst q2;have q4:=q3 ed h2 h3;rw [h4,<- Zbv (by simpa [hs] using hjs)] at q4;rw [hl] at q4
     cases q4
    ·obtain ⟨ed,h2,h3,h4⟩:=h1;exact absurd h4 (hno ed h2 h3)
    ·exact h1
  ·refine ⟨fun h0=>h.1 ?_,fun j hj=>?_⟩
   ·refine List.eq_nil_iff_forall_not_mem.2 fun j hj=>?_;have:=((hrdy listed j).1 hj).1;rw [h0] at this
    cases this
   ·have hj':j∈Region.ready .any (addL i k l).toArray listed:=(hrdy listed j).2 ⟨hj,fun e=>by
     subst e;rcases hun listed hs hj with h1 | h1
     ·exact absurd h1 hi
     ·exact h1⟩
    have h1:=h.2 j hj';rw [ZgR] at h1;exact wpOp_mono (fun a w h=>ih _ a w (by simpa using hs) h) h1
end
section
variable {e:Env} {K:St->Prop} {mask:Nat} {Q:PX->St->Prop} {s:List (Nat × A)} {m:List (Nat × Bk)}
theorem Zta {l:List Oper} {i k:Nat} {σ:St} (hB:ZnW l.toArray i k=true) (h:ZcP e (addL i k l).toArray K l.length (Array.replicate l.length false) σ):ZcP e l.toArray K l.length (Array.replicate l.length false) σ:=by
 intro he U w0 S0 nt a w hd hs;refine Zs9 (fun ex a w hq=>hq.1) hB _ _ _ _ (by simp) (h he U w0 S0 nt a w (fun o ho d hdd=>?_) hs);have:some d∈(addL i k l).map (·.dst):=Tbi.2 ⟨o,by simpa using ho,hdd⟩;rw [Zkh] at this;obtain ⟨o',h1,h2⟩:=Tbi.1 this;exact hd o' (by simpa using h1) d h2
theorem Zqr {l:List Oper} {p:Nat} {σ:St} (hAl:ZeS l.toArray p=true) (hB:regB l.toArray (p+1)=true) (hp:Runs e (l.map (·.dst)) (p+1) l σ K):ZcP e l.toArray K l.length (Array.replicate l.length false) σ:=by
 intro he U w0 S0 nt a w hd hs;have:=Zgo (ops:=l.toArray) he hAl hB (K:=K) (Q:=QN e U w0 S0 nt K) (fun a w σ' hK hs'=>⟨rfl,σ',hK,hs'⟩) hd hs (by simpa using hp);simpa using this
theorem gLt {id:Nat} {l l':List Oper} {ds:List (Option Nat)} (p i k:Nat) (hK:Runs e ds (p+1) l' ⟨s,m⟩ (ZcZ mask Q)) (hl:addL i k l=l':=by simp only [addL];exact rfl) (hds:l'.map (·.dst)=ds:=by simp only [Tbq,List.map_nil];exact rfl) (hc:ZnW l.toArray i k=true:=by decide +kernel) (hA:ZeS l'.toArray p=true:=by decide +kernel) (hr:regB l'.toArray (p+1)=true:=by decide +kernel):pwp e mask (.region id l.toArray true) ⟨s,m⟩ Q:=by
 subst hl hds;have h1:=Zta hc (by have:=Zqr hA hr hK;rwa [Zkg] at this);exact ZiL (ops:=l.toArray) (by simpa using h1)
end
def ZzQ (ops:Array Oper) (ok:Oper):List Nat:=(ok.after.toList.filter fun e=>Region.binds .any e).flatMap fun e=>e.on::match ops[e.on]? with
 | some o=>(o.after.toList.filter fun e=>Region.binds .any e).map (·.on)
 | none=>[]
def ZnX (ops:Array Oper) (i k:Nat):Bool:=ZhP ops && ZwU ops i && i != k && match ops[i]?,ops[k]? with
 | some oi,some ok=>(match oi with
  | ⟨some _,.pick _ _ _,_,_,_,none⟩=>true
  | _=>false) && oi.after.all fun e=>!Region.binds .any e || (ZzQ ops ok).contains e.on
 | _,_=>false
section
variable {P:Program} {l:List Oper} {i k:Nat}
def Zhh (l:List Oper) (listed:Array Bool):Prop:=∀ (j:Nat) o,listed.getD j false=true->l[j]?=some o->∀ e∈o.after,Region.binds .any e=true->listed.getD e.on false=true
theorem Zhh.put {listed:Array Bool} {j:Nat} (hc:Zhh l listed) (hj:j∈Region.ready .any l.toArray listed):Zhh l (listed.setIfInBounds j true):=by
 intro q o hq ho e he hb;obtain ⟨_,o',h2,h3⟩:=mem_ready.1 hj;have hmono:∀ t,listed.getD t false=true->(listed.setIfInBounds j true).getD t false=true:=fun t ht=>by
  by_cases htj:t=j
  ·subst htj;simp only [Array.getD_eq_getD_getElem?,Array.getElem?_setIfInBounds] at ht ⊢
   cases hl:listed[t]? with
   | none=>rw [hl] at ht;cases ht
   | some b =>
    have:t < listed.size:=(Tbl.1 hl).1;simp [this]
  ·rw [getD_set_ne false (Ne.symm htj)];exact ht
 by_cases hqj:q=j
 ·subst hqj;have:o'=o:=by
   rw [List.getElem?_toArray,ho] at h2;injection h2 with h2
   exact h2.symm
  subst this;exact hmono _ (h3 e he hb)
 ·rw [getD_set_ne false (Ne.symm hqj)] at hq;exact hmono _ (hc q o hq ho e he hb)
theorem Zqs {Q:Exit->Act->World->Prop} (hQ:∀ ex a w,Q ex a w->ex=.normal) (hB:ZnX l.toArray i k=true) :
  ∀ (f:Nat) (listed:Array Bool) (a:Act) (w:World),listed.size=l.length->Zhh l listed->wpAny P .any (addL i k l).toArray Q f listed a w->wpAny P .any l.toArray Q f listed a w:=by
 simp only [ZnX,Tar,bne_iff_ne,ne_eq] at hB;obtain ⟨⟨⟨hsel,hap⟩,hik⟩,h4⟩:=hB;split at h4;rotate_left
 ·cases h4
 rename_i oi ok hoi hok;simp only [Tar] at h4;obtain ⟨h5,h6⟩:=h4;have hrdy:∀ (listed:Array Bool) (j:Nat),j∈Region.ready .any (addL i k l).toArray listed ↔ j∈Region.ready .any l.toArray listed∧(j=k->listed.getD i false=true):=fun listed j=>by
  rw [mem_ready,mem_ready];simp only [List.getElem?_toArray,ZgD];by_cases hj:j=k
  ·subst hj;simp only [if_true,true_implies];constructor
   ·rintro ⟨q1,o,q2,q3⟩
    cases hl:l[j]? with
    | none=>rw [hl] at q2;cases q2
    | some o' =>
     rw [hl] at q2;injection q2 with q2
     subst q2;exact ⟨⟨q1,o',rfl,fun e he hb=>q3 e (by simp [he]) hb⟩,q3 ⟨i,.data⟩ (by simp) rfl⟩
   ·rintro ⟨⟨q1,o,q2,q3⟩,q4⟩;refine ⟨q1,_,by rw [q2];rfl,fun e he hb=>?_⟩;rcases Array.mem_push.1 he with he | he
    ·exact q3 e he hb
    ·subst he;exact q4
  ·simp [hj]
 have hun:∀ (listed:Array Bool),listed.size=l.length->Zhh l listed->k∈Region.ready .any l.toArray listed->i∈Region.ready .any l.toArray listed∨listed.getD i false=true:=fun listed hs hcl hk=>by
  by_cases h:listed.getD i false=true
  ·exact .inr h
  ·left;rw [mem_ready] at hk ⊢;obtain ⟨_,o,q2,q3⟩:=hk;have:o=ok:=by rw [hok] at q2;injection q2 with q2;exact q2.symm
   subst this;have hlt:i < l.length:=by have:=(Tbl.1 hoi).1;simpa using this
   refine ⟨?_,oi,hoi,fun e he hb=>?_⟩
   ·have hl:i < listed.size:=om;rw [Zbv hl];simpa using h
   ·have:=Array.all_eq_true_iff_forall_mem.1 h6 e he;simp only [hb,Bool.not_true,Bool.false_or,List.contains_eq_mem,decide_eq_true_eq,ZzQ,List.mem_flatMap,List.mem_filter,Tbg] at this;obtain ⟨e',⟨r1,r2⟩,r3⟩:=this;have hl':=q3 e' (Array.mem_toList_iff.1 r1) r2;rcases r3 with r3 | r3
    ·rw [r3];exact hl'
    ·cases ho':l.toArray[e'.on]? with
     | none=>rw [ho'] at r3;simp at r3
     | some o' =>
      rw [ho'] at r3;simp only [Tbi,List.mem_filter] at r3;obtain ⟨e2,⟨r4,r5⟩,r6⟩:=r3;rw [<- r6];exact hcl e'.on o' hl' (by simpa using ho') e2 (Array.mem_toList_iff.1 r4) r5
 intro f
 induction f with
 | zero =>
  intro listed a w hs hcl h;refine ⟨?_,h.2⟩;by_cases hk:k∈Region.ready .any l.toArray listed
  ·rcases hun listed hs hcl hk with h1 | h1
   ·have:=(hrdy listed i).2 ⟨h1,fun e=>absurd e hik⟩;rw [h.1] at this
    cases this
   ·have:=(hrdy listed k).2 ⟨hk,fun _=>h1⟩;rw [h.1] at this
    cases this
  ·refine List.eq_nil_iff_forall_not_mem.2 fun j hj=>?_;have:=(hrdy listed j).2 ⟨hj,fun e=>absurd (e ▸ hj) hk⟩;rw [h.1] at this
   cases this
 | succ f ih =>
  intro listed a w hs hcl h;by_cases hi:i∈Region.ready .any l.toArray listed
  ·have h1:=h.2 i ((hrdy listed i).2 ⟨hi,fun e=>absurd e hik⟩);rw [ZgR] at h1;have h1':∃ v,Yields P l.toArray oi v a∧wpAny P .any (addL i k l).toArray Q f (listed.setIfInBounds i true) (a.put oi.dst v) w:=by
    unfold wpOp at h1;simp only [hoi] at h1;split at h5;rotate_left
    ·cases h5
    rename_i d x y z ty pos af;have hw:Region.wanted ⟨some d,.pick x y z,ty,pos,af,none⟩ (yielded l.toArray a.tmps)=true:=by simp [Region.wanted]
    rw [if_pos hw] at h1;rcases h1 with h1 | ⟨_,b,w',h1⟩
    rotate_left
    ·have:=hQ _ _ _ h1;cases this
    unfold Oper.wp at h1
    cases hx:a.eval x with
    | bool b =>
     have hrun:∀ w',(execOp a.eval ⟨some d,.pick x y z,ty,pos,af,none⟩).run P w'=.ok (.value (if b then a.eval y else a.eval z)) w':=fun w'=>by
      cases b <;> simp [execOp,hx,asBool]
     rw [hrun,Oper.upon_value] at h1;exact ⟨_,.inl ⟨hw,hrun⟩,h1⟩
    | _=>simp [execOp,hx,asBool,stuck,Oper.upon,Result.andThen] at h1
   obtain ⟨v,hv,h2⟩:=h1';refine wpAny_first (oi:=oi) (v:=v) hoi (fun j oj cs b hj hsl=>?_) (fun c a w hq=>?_) f listed a w (fun j oj hj hne hl hno=>?_) hi hv (ih _ _ _ (by simpa using hs) (hcl.put hi) h2)
   ·have:=List.all_eq_true.1 hsel oj (Tac (by simpa using hj));rw [hsl] at this
    cases this
   ·have:=hQ _ _ _ hq;cases this
   ·have hjs:=(Tbl.1 hj).1;have:=List.all_eq_true.1 hap j (List.mem_range.2 hjs);simp only [hoi,hj,Bool.or_eq_true,beq_iff_eq,List.any_eq_true,Array.any_eq_true',Tar] at this;rcases this with h1 | h1 | h1 | h1
    ·exact absurd h1 hne
    ·obtain ⟨ed,h2,h3,h4⟩:=h1;obtain ⟨_,o,q2,q3⟩:=mem_ready.1 hi;rw [hoi] at q2;injection q2 with q2
     subst q2;have q4:=q3 ed h2 h3;rw [h4,<- Zbv (by simpa [hs] using hjs)] at q4;rw [hl] at q4
     cases q4
    ·obtain ⟨ed,h2,h3,h4⟩:=h1;exact absurd h4 (hno ed h2 h3)
    ·exact h1
  ·refine ⟨fun h0=>h.1 ?_,fun j hj=>?_⟩
   ·refine List.eq_nil_iff_forall_not_mem.2 fun j hj=>?_;have:=((hrdy listed j).1 hj).1;rw [h0] at this
    cases this
   ·have hj':j∈Region.ready .any (addL i k l).toArray listed:=(hrdy listed j).2 ⟨hj,fun e=>by
     subst e;rcases hun listed hs hcl hj with h1 | h1
     ·exact absurd h1 hi
     ·exact h1⟩
    have h1:=h.2 j hj';rw [ZgR] at h1;exact wpOp_mono (fun a w h=>ih _ a w (by simpa using hs) (hcl.put hj) h) h1
end
section
variable {e:Env} {K:St->Prop} {mask:Nat} {Q:PX->St->Prop} {s:List (Nat × A)} {m:List (Nat × Bk)}
theorem Zqt {l:List Oper} {i k:Nat} {σ:St} (hB:ZnX l.toArray i k=true) (h:ZcP e (addL i k l).toArray K l.length (Array.replicate l.length false) σ):ZcP e l.toArray K l.length (Array.replicate l.length false) σ:=by
 intro he U w0 S0 nt a w hd hs;refine Zqs (fun ex a w hq=>hq.1) hB _ _ _ _ (by simp) (fun j o hj=>by rw [getD_replicate_false] at hj;cases hj) (h he U w0 S0 nt a w (fun o ho d hdd=>?_) hs);have:some d∈(addL i k l).map (·.dst):=Tbi.2 ⟨o,by simpa using ho,hdd⟩;rw [Zkh] at this;obtain ⟨o',h1,h2⟩:=Tbi.1 this;exact hd o' (by simpa using h1) d h2
theorem Zlp (he:e.Ok) {U:Nat->Prop} {w0:World} {S0:Nat->Prop} {nt:Nat} {ops:Array Oper} {n:Nat} (hB:regB ops n=true) (hna:∀ o,(ops.toList.take n).getLast?=some o->isAl o=false) {Q:Exit->Act->World->Prop} (hQ:∀ a w σ',K σ'->SimE e U w0 S0 nt σ' a w->Q .normal a w) {σ:St} {a:Act} {w:World}
  (hd:∀ o∈ops.toList,∀ d,o.dst=some d->d < nt) (h:SimE e U w0 S0 nt σ a w) (hp:Runs e (ops.toList.map (·.dst)) n ops.toList σ K):wpAny e.P .any ops Q ops.size (Array.replicate ops.size false) a w:=by
 simp only [regB,Tar,Bool.or_eq_true,decide_eq_true_eq] at hB;obtain ⟨⟨⟨hH,hn⟩,hs⟩,hsq⟩:=hB;obtain ⟨S,L,h1⟩:=h;have hsplit:ops.toList=ops.toList.take n++ops.toList.drop n:=(Tbm n _).symm;have hlen:(ops.toList.take n).length=n:=by simp;omega
 have hp':Runs e (ops.toList.map (·.dst)) ((ops.toList.take n).length+0) (ops.toList.take n++ops.toList.drop n) σ K:=by rw [<- hsplit,hlen];exact hp
 obtain ⟨αs,hal,hch,hrest⟩:=Zem (U:=U) he w0.heap.size S0 ops.toList (ops.toList.drop n) 0 (ops.toList.take n) σ (fun _=>hna) hp';rw [hlen] at hal
 have inv0:InvA e U w0 S0 nt σ.m ops n σ.s αs L (Array.replicate ops.size false) a w S :=
  ⟨⟨by simp,fun j oj _ hl=>(by rw [getD_replicate_false] at hl;cases hl),fun t _ ht=>getD_in (by simpa using ht) (getD_replicate_false _ _)⟩,h1.size,h1.defers,h1.cls,h1.kept,fun t _=>h1.rel t,fun i o d α _ hl=>(by rw [getD_replicate_false] at hl;cases hl)⟩
 have H:=Zdr (e:=e) (L:=L) (Q:=Q) he hH hn (fun hlt=>by
   rcases hs with hs | hs
   ·omega
   ·exact hs) hsq (fun i o d hi ho hdd=>hd o (List.mem_iff_getElem?.2 ⟨i,by simpa using ho⟩) d hdd) hal hch (ZgW hH Q) (fun _ _ _ _ _ _ _ _ _ _ _ _ _ _=>trivial) (fun listed a' w' S' hI _ hall=>?_) n _ a _ S inv0 trivial ?_
 ·rw [show n+(ops.size - n)=ops.size by omega] at H;exact H
 ·have hsim:SimE e U w0 S0 nt ⟨after σ.s (ops.toList.take n) αs,σ.m⟩ a' w':=by
   refine ⟨S',L,hI.cls,fun t=>?_,hI.size,hI.defers,hI.kept⟩;by_cases hex:∃ (j:Nat) (p:Oper),j < n∧ops[j]?=some p∧p.dst=some t
   ·obtain ⟨j,p,hj,hp,hpt⟩:=hex;obtain ⟨p',d',hP⟩:=Zcz.get hH hj;have hpp:p'=p:=by have:=hP.op;rw [hp] at this;injection this with this;exact this.symm
    subst hpp;have hdt:d'=t:=by have:=hP.dst;rw [hpt] at this;injection this with this;exact this.symm
    subst hdt;obtain ⟨α,hα⟩:∃ α,αs[j]?=some α:=⟨αs[j],Taa om⟩;show ARel w' S' L (gs (after σ.s (ops.toList.take n) αs) d') _;rw [ZdX (ops.toList.take n) αs σ.s j p' α (by rw [List.getElem?_take,if_pos hj];simpa using hp) hα hpt (fun k q hk hq=>by
     rw [List.getElem?_take] at hq;split at hq
     ·exact (hP.dep k q om (by simpa using hq)).1 hk
     ·cases hq)]
    exact hI.done j p' d' α hj (hall j hj) hp hpt hα
   ·have hno:∀ (j:Nat) (p:Oper),j < n->ops[j]?=some p->p.dst≠some t:=fun j p hj hp hd=>hex ⟨j,p,hj,hp,hd⟩;show ARel w' S' L (gs (after σ.s (ops.toList.take n) αs) t) _;rw [Zc8 _ _ _ (fun p hp=>by
     obtain ⟨j,hj⟩:=List.mem_iff_getElem?.1 hp;rw [List.getElem?_take] at hj;split at hj
     ·exact hno j p om (by simpa using hj)
     ·cases hj)]
    exact hI.out t hno
  have:=ZlV he ops.toList hQ (ops.toList.drop n) _ a' w' (fun o ho=>hd o (List.mem_of_mem_drop ho)) hsim hrest;simpa using this
 ·rw [List.countP_eq_length.2]
  ·simp
  ·intro i hi;have hi':=List.mem_range.1 hi;have hsz:i < (Array.replicate ops.size false).size:=by simp;omega
   rw [Zbv hsz,getD_replicate_false];rfl
theorem Ztb {l:List Oper} {n:Nat} {σ:St} (hB:regB l.toArray n=true) (hna:∀ o,(l.take n).getLast?=some o->isAl o=false) (hp:Runs e (l.map (·.dst)) n l σ K):ZcP e l.toArray K l.length (Array.replicate l.length false) σ:=by
 intro he U w0 S0 nt a w hd hs;have:=Zlp (ops:=l.toArray) (n:=n) he hB (by simpa using hna) (K:=K) (Q:=QN e U w0 S0 nt K) (fun a w σ' hK hs'=>⟨rfl,σ',hK,hs'⟩) hd hs (by simpa using hp);simpa using this
def ZwV (l:List Oper) (n:Nat):Bool:=match (l.take n).getLast? with
 | some o=>!isAl o
 | none=>true
theorem gLp {id:Nat} {l l':List Oper} {ds:List (Option Nat)} (n i k:Nat) (hK:Runs e ds n l' ⟨s,m⟩ (ZcZ mask Q)) (hl:addL i k l=l':=by simp only [addL];exact rfl) (hds:l'.map (·.dst)=ds:=by simp only [Tbq,List.map_nil];exact rfl) (hc:ZnX l.toArray i k=true:=by decide +kernel) (hA:ZwV l' n=true:=by decide +kernel) (hr:regB l'.toArray n=true:=by decide +kernel):pwp e mask (.region id l.toArray true) ⟨s,m⟩ Q:=by
 subst hl hds;have h1:=Zqt hc (by have:=Ztb hr (fun o ho=>by unfold ZwV at hA;rw [ho] at hA;simpa using hA) hK;rwa [Zkg] at this);exact ZiL (ops:=l.toArray) (by simpa using h1)
end
end Go.Proofs.YtdnkcjhlelkhhaaGreat
namespace Go.Proofs.YtdnkcjhlelkhhaaGreat
open Go.RowKit
open Classical in
noncomputable def mk6 (g:Sgn) (o:Opr) (d:Dcl) (op:Int) (xs:List Tm):Tm:=(mkO g o d op xs).getD (if ¬ ArB o d xs.length∧∀ (i:Nat) a,xs[i]?=some a->KArg g o d i a then appT op (srtO o (Zav o op xs)) else zTm)
theorem Zyj {g:Sgn} {o:Opr} {op:Int} {xs:List Tm} (h:∀ a∈xs,TermOk g a):∀ b∈Zav o op xs,Zbs g b:=by
 intro b hb;obtain ⟨a,h1,h2⟩:=List.mem_flatMap.1 hb;have hf:=(h a h1).form;unfold Zbp at h2;split at h2
 ·exact (ZbJ.1 hf).2.1 b h2
 ·split at h2
  ·cases h2
  ·rw [Tbj.1 h2];exact hf
theorem Zm1:∀ (l m:List Tm),sizeTms (l++m)=sizeTms l+sizeTms m
 | [],m=>by simp [sizeTms]
 | x::l,m=>by simp only [Taf,sizeTms,Zm1 l m];omega
theorem Zph {g:Sgn} {o:Opr} {op:Int}:∀ {xs:List Tm},(∀ a∈xs,TermOk g a)->sizeTms (Zav o op xs)<=60 * xs.length
 | [],_=>by simp [Zav,sizeTms]
 | a::xs,h=>by
  have ih:=Zph (o:=o) (op:=op) (xs:=xs) fun x hx=>h x (Tal _ hx);have ha:=(h a Tas).size;have e:Zav o op (a::xs)=Zbp o op a++Zav o op xs:=rfl;have hz:=ZcI a;have hf:sizeTms (Zbp o op a)<=sizeTm a:=by
   unfold Zbp;split
   ·omega
   ·split
    ·simp [sizeTms]
    ·simp [sizeTms]
  rw [e,Zm1,Tag];omega
theorem Ztc {l m:List Tm} (h:l.Perm m):bulkRows (Zaa l)=bulkRows (Zaa m):=by
 induction h with
 | nil=>rfl
 | cons x h ih=>simp only [Zaa,bulkRows,ih]
 | swap x y l=>simp only [Zaa,bulkRows];omega
 | trans h1 h2 a b=>rw [a,b]
section
variable {g:Sgn}
open Classical in
theorem Zqu (hokg:Zdv g) (hg:SgnOk g) {op:Int} {o:Opr} {d:Dcl} (h0:0<=op) (ho:g.ops[op.toNat]?=some o) (hd:o.decls[0]?=some d) (xs:List Tm) (ha:∀ a∈xs,TermOk g a) (hl:xs.length<=1048576) (hfb:tmsB (Zav o op xs)):Con e0 54 [.agg (ZaJ g),.one (.lit (.int .i64 op)),.one (.sl (Zaa xs))] [.agg (Zad (mk6 g o d op xs)),.one (.lit (.bool (mkO g o d op xs).isSome))]:=by
 have hz:=Zeu;have hfo:ZaG (Zav o op xs):=ZfR.2 fun b hb=>Zbs.ok hg _ b (Tan _) (Zyj ha b hb);have hfs:=Zph (o:=o) (op:=op) ha;have hax:=hg.axs o (Tac ho);have hlo:=hax.lo;have hhi:=hax.hi;have hln:=hg.len;obtain ⟨d',hd',hr0,hr1,hargs⟩:=hg.first ho;rw [hd] at hd';injection hd' with hd'
 subst hd';have cK:=ZeE hg.sorts;rw [Zbq] at cK;have cUn:=Zla hg h0 ho;rw [ZaJ] at cUn;have cA:=ZfB hd;rw [Zbc] at cA;have hB:mkO g o d op xs=if ArB o d xs.length then none else if ∀ (i:Nat) a,xs[i]?=some a->KArg g o d i a then mkL o op (Zav o op xs) else none:=rfl
 have hM:mk6 g o d op xs=(mkO g o d op xs).getD (if ¬ ArB o d xs.length∧∀ (i:Nat) a,xs[i]?=some a->KArg g o d i a then appT op (srtO o (Zav o op xs)) else zTm):=rfl;have har2:o.assoc=true->d.args.length=2:=fun h=>by
  obtain ⟨k1,k2,hk,_⟩:=Opr.two hg ho hd (.inl h);rw [hk];rfl
 refine gI (ts:=[.cell 6 42,.slot 7]) 691281634562849416457226259614436229071 Tryz.func54 ?_;refine fN 2 (aj5 @tmz @ZaE @h0 @ho @Zao) ?_;refine gB ?_;refine fC @tmz (cK) ?_;refine fR @tmz ?_;refine fN 3 @tmz ?_;refine gM (ι:=Bool) [38] [] (fun b=>[(38,A.d (.one (.lit (.bool b))))]) (fun b=>[]) (fun b=>b=decide (ArB o d xs.length)) ?_ (fun b hb=>Exists.intro _ (ai (Wk.refl _) ?_))
 ·refine gB ?_;refine fC (ai @tmz @Zao) (cA) ?_;by_cases q:xs.length=d.args.length
  ·have q1:((xs.length:Int)=(d.args.length:Int))=True:=eq_true om;have hA:¬ ArB o d xs.length:=fun h=>h.elim (fun h=>by have:=har2 h.1;omega) fun h=>h.2 q;refine fR (ai @q1 @tmz) ?_;have F:=@tmz;refine gG ?_;exact ⟨false,(decide_eq_false hA).symm,gw,gw⟩
  have q1:((xs.length:Int)=(d.args.length:Int))=False:=eq_false om
  cases hac:o.assoc with
  | false =>
   have hA:ArB o d xs.length:=.inr ⟨hac,q⟩;refine fR (aj3 @q1 @hac @tmz) ?_;have F:=@tmz;refine gG ?_;exact ⟨true,(decide_eq_true hA).symm,gw,gw⟩
  | true =>
  by_cases q2:xs.length < 2
  ·have hA:ArB o d xs.length:=.inl ⟨hac,q2⟩;have q3:((2:Int)<=(xs.length:Int))=False:=eq_false om;refine fR (aj4 @q1 @hac @q3 @tmz) ?_;have F:=@tmz;refine gG ?_;exact ⟨true,(decide_eq_true hA).symm,gw,gw⟩
  ·have hA:¬ ArB o d xs.length:=fun h=>h.elim (fun h=>q2 h.2) fun h=>by rw [hac] at h;cases h.1
   have q3:((2:Int)<=(xs.length:Int))=True:=eq_true om;refine fR (aj4 @q1 @hac @q3 @tmz) ?_;have F:=@tmz;refine gG ?_;exact ⟨false,(decide_eq_false hA).symm,gw,gw⟩
 by_cases hAr:ArB o d xs.length
 ·rw [decide_eq_true hAr] at hb;subst hb;rw [if_pos hAr] at hB;rw [hB,if_neg fun h=>h.1 hAr] at hM;rw [hM,hB];exact fD (ai @hz @tmz)
 rw [decide_eq_false hAr] at hb;subst hb;rw [if_neg hAr] at hB;have hnas:o.assoc=false->xs.length=d.args.length:=fun h=>Classical.byContradiction fun c=>hAr (.inr ⟨h,c⟩);have hfl0:Zav o op []=[]:=rfl;refine fN 5 @tmz ?_;refine gB ?_;refine fC @tmz (cUn) ?_;refine fR @tmz ?_;refine fG @tmz ?_;have F:=aj3 @hfl0 @Zfd @tmz;refine gL (ι:=Nat) [7,12,13,14,50,55,73,82,92] [12] (fun i=>[(13,A.d (.one (.lit (.int .i64 i)))),(12,.buf 12)]) (fun i=>[(12,.buf none 42 4 (Zaa (Zav o op (xs.take i))))]) (fun i=>i<=xs.length∧∀ (j:Nat) a,j < i->xs[j]?=some a->KArg g o d j a) (fun i=>xs.length - i) (0) (⟨Taj _,fun j a h=>absurd h om⟩) (fun i hi=>?_);clear F
 obtain ⟨hi,hall⟩:=hi;by_cases hlt:i < xs.length
 ·obtain ⟨a,hai⟩:∃ a,xs[i]?=some a:=⟨_,Taa hlt⟩;have hT:=ha a (Tac hai);have q1:=lT i xs.length;have hw1:=Zaw (k:=i) om;obtain ⟨k,hk⟩:=ZgN hg ho hd hnas hlt;obtain ⟨hk0,hk1⟩:=hargs k (Tac hk);have hkd:=Zgy hg.sorts hk0 hk1;have hkN:d.args[(argAt o i:Nat)]?=some k:=hk;have cKa:=Zf8 hokg hg hT.form.node;rw [ZaJ] at cKa;have cU:=Zf7 (hT.ok hg) (ZmU (o:=o) hlo om);have hUiff:o.unit≠0->(Zam a (ZbB o)=0 ↔ a.op=o.unit - 1):=fun hu=>by
   rw [ZmO];constructor
   ·rintro h;rw [h];simp [ZbB,Tm.op,hu]
   ·exact ZiF hg ho hu hT.form
  generalize hU:decide (Zam a (ZbB o)=0)=U at cU;have hst:=ZjN (o:=o) (op:=op) hai;have hle:=ZgP o op xs (i+1);rw [hst,Tae] at hle;have hfl:=Zb0 (Zav o op xs);have hnext:Za4 g a=((kd g.sorts k:Nat):Int)->i+1<=xs.length∧∀ (j:Nat) a,j < i+1->xs[j]?=some a->KArg g o d j a:=fun hkk=>⟨hlt,fun j a' hj ha'=>by
   by_cases e:j=i
   ·subst e;rw [hai] at ha';injection ha' with ha'
    subst ha';exact ⟨k,hk,hkk⟩
   ·exact hall j a' om ha'⟩
  refine fG (ai @q1 @tmz) ?_;refine gM (ι:=Unit) [14] [] (fun u=>[(14,A.d (.one (.lit (.int .i64 (argAt o i:Nat)))))]) (fun u=>[]) (fun u=>True) ?_ (fun u hu=>Exists.intro _ (ai (Wk.refl _) ?_))
  ·rcases Bool.eq_false_or_eq_true o.assoc with hac | hac
   ·have F:=aj3 @Zao @hac @Zjd;refine gG ?_;exact ⟨(),trivial,gw,gw⟩
   ·have F:=aj4 @Zao @hac @Zjd @if_false.{1};refine gG ?_;exact ⟨(),trivial,gw,gw⟩
  refine fN 13 @tmz ?_;refine gB ?_;refine fC (ai @hai @tmz) (cKa) ?_;by_cases hkk:Za4 g a=((kd g.sorts k:Nat):Int);rotate_left
  ·have hno:¬ ∀ (i:Nat) a,xs[i]?=some a->KArg g o d i a:=fun h=>by
    obtain ⟨k',hk',he⟩:=h i a hai;rw [hk] at hk';injection hk' with hk'
    subst hk';exact hkk he
   rw [if_neg hno] at hB;rw [hB,if_neg fun h=>hno h.2] at hM;rw [hM,hB];refine fR (aj9 @tmz @Zao @hd @Za0 @hkN @hk0 @hkd @Zbg @hkk) ?_;exact fD (ai @hz @tmz)
  have hnext:=hnext hkk;have l1:ZaC 4 (Zaa (Zav o op (xs.take i)))=true:=Zco _;have l5:ZaC 4 (Zaa a.args)=true:=Zco _;refine fR (aj9 @tmz @Zao @hd @Za0 @hkN @hk0 @hkd @Zbg @hkk) ?_;refine fN 16 @tmz ?_;refine gM (ι:=Bool) [82] [] (fun b=>[(82,A.d (.one (.lit (.bool b))))]) (fun b=>[]) (fun b=>b=decide (o.unit≠0∧a.op=o.unit - 1)) ?_ (fun b hb=>Exists.intro _ (ai (Wk.refl _) ?_))
  ·by_cases hu:o.unit=0
   ·have F:=ai @hu @tmz;refine gG ?_;exact ⟨false,(decide_eq_false fun h=>h.1 hu).symm,gw,gw⟩
   ·refine gB ?_;refine fC (aj3 @hu @hai @tmz) (cU) ?_;refine fR @tmz ?_;have e:U=decide (o.unit≠0∧a.op=o.unit - 1):=by
     rw [<- hU];exact decide_eq_decide.2 ⟨fun h=>⟨hu,(hUiff hu).1 h⟩,fun h=>(hUiff hu).2 h.2⟩
    have F:=ai @hu @tmz;refine gG ?_;exact ⟨U,e,gw,gw⟩
  by_cases hUn:o.unit≠0∧a.op=o.unit - 1
  ·rw [decide_eq_true hUn] at hb;subst hb;have hN:¬ (o.assoc=true∧a.op=op):=fun h=>by
    have e:(ZbB o).args=[]:=by unfold ZbB;rfl
    have e2:=ZiF hg ho hUn.1 hT.form hUn.2;obtain ⟨o',d',hA⟩:=hT.form.node.app om;have:o'=o:=by have:=hA.at';rw [h.2,ho] at this;injection this with this;exact this.symm
    subst this;have:=(hA.asc h.1).1;rw [e2,e] at this;simp at this
   have e:Zbp o op a=[]:=by unfold Zbp;rw [if_neg hN,if_pos hUn]
   rw [e,List.append_nil] at hst;rw [<- hst];have F:=ai @tmz @hw1;refine gG ?_;exact ⟨i+1,hnext,gw,gw,om⟩
  rw [decide_eq_false hUn] at hb;subst hb;by_cases hN:o.assoc=true∧a.op=op
  ·have e:Zbp o op a=a.args:=by unfold Zbp;rw [if_pos hN]
   rw [e] at hst hle;have l3:((Zav o op (xs.take i)).length+a.args.length<=maxApp)=True:=eq_true (by unfold maxApp;omega);have l4:Zaa (Zav o op (xs.take i))++Zaa a.args=Zaa (Zav o op (xs.take (i+1))):=by rw [hst,ZbK]
   obtain ⟨hN1,hN2⟩:=hN;have q2:(a.op=op)=True:=eq_true hN2;have F:=aj10 @tmz @hai @Zao @hN1 @q2 @l1 @l5 @l3 @l4 @hw1;refine gG ?_;exact ⟨i+1,hnext,gw,gw,om⟩
  ·have e:Zbp o op a=[a]:=by unfold Zbp;rw [if_neg hN,if_neg hUn]
   rw [e] at hst hle;have l3:((Zav o op (xs.take i)).length+1<=maxApp)=True:=eq_true (by simp only [Tag,Tak] at hle;unfold maxApp;omega);have l4:Zaa (Zav o op (xs.take i))++[Zad a]=Zaa (Zav o op (xs.take (i+1))):=by rw [hst,ZbK,Zes]
   rcases Bool.eq_false_or_eq_true o.assoc with hac | hac
   ·have hq:(a.op=op)=False:=eq_false fun h=>hN ⟨hac,h⟩;have F:=aj9 @tmz @hai @Zao @hac @hq @l1 @l3 @l4 @hw1;refine gG ?_;exact ⟨i+1,hnext,gw,gw,om⟩
   ·have F:=aj8 @tmz @hai @Zao @hac @l1 @l3 @l4 @hw1;refine gG ?_;exact ⟨i+1,hnext,gw,gw,om⟩
 ·obtain rfl:i=xs.length:=by omega
  have q1:=lF xs.length xs.length;rw [Tap];have hAll:∀ (i:Nat) a,xs[i]?=some a->KArg g o d i a:=fun j a h=>hall j a (Tad.1 h).1 h;rw [if_pos hAll] at hB;rw [hB,if_pos ⟨hAr,hAll⟩] at hM;rw [hM,hB];clear hM hB hall hAll hnas;generalize hL:Zav o op xs=L at hfb hfo hfs ⊢;have hLb:L.length+bulkRows (Zaa L)<=1048576:=hfb;refine fN 19 (ai @q1 @tmz) ?_;refine pS 12 fun a cap=>?_;refine pD 12 [12] [] ?_;by_cases hu:o.unit≠0∧L.length < 2
  ·have e:mkL o op L=some (L.headD (ZbB o)):=by unfold mkL;rw [if_pos hu]
   rw [e];obtain ⟨hu1,hu2⟩:=hu;have q2:(o.unit=0)=False:=eq_false hu1
   cases L with
   | nil =>
    have z2:(((0:Nat):Int)=0)=True:=eq_true om;exact fD (aj5 @q1 @Zao @q2 @z2 @tmz)
   | cons b bs =>
    have hbs:bs=[]:=Tao (by simp only [Tag] at hu2;omega);subst hbs;have hbb:bulkRow (Zad b)<=1048576:=by simp only [Zaa,bulkRows] at hLb;omega
    have z1:(((0+1:Nat):Int)=0)=False:=eq_false om;have z2:(((0+1:Nat):Int)=1)=True:=eq_true om;have z3:(((1:Nat):Int)=0)=False:=eq_false om;have z4:(((1:Nat):Int)=1)=True:=eq_true om;have q5:([b]:List Tm)[0]?=some b:=rfl;have z5:(0 < 0+1)=True:=eq_true om;have z6:((0:Nat) < 1)=True:=eq_true om;have z7:Int.toNat 0=0:=rfl;refine fN 22 (aj12 @q1 @Zao @q2 @z1 @z2 @z3 @z4 @z5 @z6 @z7 @q5 @tmz) ?_;refine gB ?_
    refine fC (aj5 @z5 @z6 @z7 @q5 @tmz) (ZhS b hbb) ?_;refine fR @tmz ?_;exact fD @tmz
  ·have hml:mkL o op L=if BigT o op (srtO o L) then none else some (appT op (srtO o L)):=by unfold mkL;rw [if_neg hu]
   rw [hml];clear hml cUn cK cA;have hSl:=Zka o L;have hSp:=ZeZ o L;have sz1:=ZiG hSp;have dz1:=Zh6 hSp;have sl1:=Zb0 L;have cSo:=Zpg L hfo hfb;refine gM (ι:=Unit) [116] [] (fun v=>[(116,A.d (.one (.lit (.bool false))))]) (fun v=>[]) (fun v=>True) ?_ (fun v hv=>Exists.intro _ (ai (Wk.refl _) ?_))
   ·by_cases hu0:o.unit=0
    ·have q2:(o.unit=0)=True:=eq_true hu0;have F:=ai @q2 @tmz;refine gG ?_;exact ⟨(),trivial,gw,gw⟩
    ·have q2:(o.unit=0)=False:=eq_false hu0;have q3:((L.length:Int)=0)=False:=eq_false fun h=>hu ⟨hu0,om⟩;have F:=aj3 @q2 @q3 @tmz;refine gG ?_;exact ⟨(),trivial,gw,gw⟩
   refine fN 21 @tmz ?_;refine gM (ι:=Unit) [123] [] (fun v=>[(123,A.d (.one (.lit (.bool false))))]) (fun v=>[]) (fun v=>True) ?_ (fun v hv=>Exists.intro _ (ai (Wk.refl _) ?_))
   ·by_cases hu0:o.unit=0
    ·have q2:(o.unit=0)=True:=eq_true hu0;have F:=ai @q2 @tmz;refine gG ?_;exact ⟨(),trivial,gw,gw⟩
    ·have q2:(o.unit=0)=False:=eq_false hu0;have q3:((L.length:Int)=1)=False:=eq_false fun h=>hu ⟨hu0,om⟩;have F:=aj3 @q2 @q3 @tmz;refine gG ?_;exact ⟨(),trivial,gw,gw⟩
   refine fN 23 @tmz ?_;refine gB ?_;refine fR (ai @Zao @tmz) ?_;refine gM (ι:=Unit) [12] [] (fun v=>[(12,.d (.one (.sl (Zaa (srtO o L)))))]) (fun v=>[]) (fun v=>True) ?_ (fun v hv=>Exists.intro _ (ai (Wk.refl _) ?_))
   ·cases hcm:o.comm with
    | true =>
     rw [show srtO o L=ZaB L by unfold srtO;rw [if_pos hcm]];refine fN 24 (ai @hcm @tmz) ?_;refine gB ?_;refine fC @tmz (cSo) ?_;refine fR @tmz ?_;have F:=@tmz;refine gG ?_;exact ⟨(),trivial,gw,gw⟩
    | false =>
     rw [show srtO o L=L by unfold srtO;rw [if_neg (by rw [hcm];simp)]];have F:=ai @hcm @tmz;refine gG ?_;exact ⟨(),trivial,gw,gw⟩
   have hSB:tmsB (srtO o L):=by
    unfold tmsB at hfb ⊢;rw [Ztc hSp,hSl];exact hfb
   generalize srtO o L=S at hSl sz1 dz1 hSB ⊢;have em:Zad (appT op S)=[.lit (.int .i64 op),.lit (.string ByteArray.empty),.lit (.int .i64 0),.sl (Zaa S)]:=by simp only [appT,Zad]
   have zs:sizeTm (appT op S)=1+sizeTms S:=by rw [ZcI];rfl
   have c1:=ZfF (t:=appT op S) (by unfold big;omega);rw [em] at c1;refine fN 25 @tmz ?_;refine gB ?_;refine fC @tmz (ZiP S hSB) ?_;refine fR @tmz ?_;refine fN 26 @tmz ?_;by_cases h7:o.assoc=true∧7 < S.length
   ·rw [if_pos (show BigT o op S from .inl h7)];obtain ⟨hac,h7⟩:=h7;have q2:((S.length:Int)<=7)=False:=eq_false om;refine gLp 13 12 13 ?_;refine fR (aj3 @hac @q2 @tmz) ?_;exact fD (aj3 @hz @em @tmz)
   have hac:o.assoc=true->((S.length:Int)<=7)=True:=fun h=>eq_true (Int.not_lt.1 fun q=>h7 ⟨h,om⟩);have hres:(if BigT o op S then none else some (appT op S)).isSome=decide (sizeTm (appT op S)<=60∧depthTm (appT op S)<=20):=by
    by_cases hbg:BigT o op S
    ·rw [if_pos hbg];refine (decide_eq_false fun h=>?_).symm;rcases hbg with h | h | h
     ·exact h7 h
     ·omega
     ·omega
    ·rw [if_neg hbg];refine (decide_eq_true ⟨?_,?_⟩).symm
     ·exact Nat.not_lt.1 fun h=>hbg (.inr (.inl h))
     ·exact Nat.not_lt.1 fun h=>hbg (.inr (.inr h))
   have hgd:(if BigT o op S then none else some (appT op S)).getD (appT op S)=appT op S:=by
    split <;> rfl
   rw [hres,hgd,em];rcases Bool.eq_false_or_eq_true o.assoc with ha' | ha'
   ·have q2:=hac ha';refine gLp 13 12 13 ?_;refine fC (aj3 @ha' @q2 @tmz) (c1) ?_;refine fR @tmz ?_;exact fD @tmz
   ·refine gLp 13 12 13 ?_;refine fC (ai @ha' @tmz) (c1) ?_;refine fR @tmz ?_;exact fD @tmz
end
end Go.Proofs.YtdnkcjhlelkhhaaGreat
namespace Go.Proofs.YtdnkcjhlelkhhaaGreat
open Go.RowKit
theorem Zqv {g:Sgn} (hok:Zdv g) (hg:SgnOk g) {p:Pnd} (hp:PndOk g p) {t:Tm} (ht:TermOk g t) (hb:bulkRow (ZaX p)+1+bulkRow (Zad t)<=1048576):∃ u,(∀ v,mkT g p.op (ZbV p t)=some v->u=v)∧Con e0 54 [.agg (ZaJ g),.one (.lit (.int .i64 p.op)),.one (.sl (Zaa (ZbV p t)))] [.agg (Zad u),.one (.lit (.bool (mkT g p.op (ZbV p t)).isSome))]:=by
 have hl:=hp.lo;have hh:=hp.hi;obtain ⟨o,ho⟩:∃ o,g.ops[p.op.toNat]?=some o:=⟨_,Taa om⟩;obtain ⟨d,hd,_⟩:=hg.first ho;have h1:=ZgQ p t;have h2:=Zjh o p.op (ZbV p t);rw [ZwB ho hd];refine ⟨mk6 g o d p.op (ZbV p t),fun v hv=>?_,Zqu hok hg hp.lo ho hd _ (hp.args ht) om (by unfold tmsB;omega)⟩;unfold mk6;rw [hv];rfl
theorem ZwW {l:List Pnd} {k:Nat} {p:Pnd} (h:l[k]?=some p):bulkRows ((l.take (k+1)).map ZaX)=bulkRows ((l.take k).map ZaX)+bulkRow (ZaX p):=by
 have h2:(l.map ZaX)[k]?=some (ZaX p):=by rw [Tba,h];rfl
 rw [List.map_take,List.map_take];exact Zc3 h2
theorem Zpi {g:Sgn} (hokg:Zdv g) (hg:SgnOk g) {stk:List Pnd} (hs:∀ p∈stk,PndOk g p) {t:Tm} (ht:TermOk g t) (hb:bulkRow (Zad t)+(stk.length+bulkRows (stk.map ZaX))<=1048576):Con e0 24 [.agg (ZaJ g),.agg (Zad t),.one (.sl (stk.map ZaX))] [.agg (Zad ((whR g stk.reverse t).getD zTm)),.one (.lit (.bool (whR g stk.reverse t).isSome))]:=by
 have hz:=Zeu;have hrb:=Zlj stk;have hkl:(stk.map ZaX).length=stk.length:=Tay ..;generalize hW:whR g stk.reverse t=W;rw [ZaJ];refine gI (ts:=[.cell 6 42,.slot 7]) 8796093161439 Tryz.func24 ?_;have w0:IntKind.i64.wrap ((stk.length:Int) - 1)=(stk.length:Int) - 1:=IntWalk.i64_in _ om;refine fG (aj3 @w0 @hkl @tmz) ?_;have F:=aj3 @w0 @hkl @tmz;refine gL (ι:=Nat × Tm) [7,8,9,10,11,12,17,43] [4] (fun x=>[(8,.d (.one (.lit (.int .i64 ((x.1:Int) - 1)))))]) (fun x=>[(4,.var none (Zad x.2))]) (fun x=>x.1<=stk.length∧TermOk g x.2∧whR g (stk.take x.1).reverse x.2=W∧bulkRow (Zad x.2)+(x.1+bulkRows ((stk.take x.1).map ZaX))<=1048576) (fun x=>x.1) ((stk.length,t)) (⟨Tai _,ht,by rw [Tap];exact hW,by rw [Tap];exact hb⟩) (fun x hx=>?_);clear F
 obtain ⟨j,now⟩:=x;simp only at hx;obtain ⟨hj,hT,hw,hBB⟩:=hx;dsimp only
 cases j with
 | zero =>
  have q2:((0:Int)<=-1)=False:=eq_false om;have q3:((0:Nat):Int) - 1=-1:=rfl;simp only [List.take_zero,List.reverse_nil,whR] at hw;rw [<- hw];rw [q3];refine fG (ai @q2 @tmz) ?_;exact fD @tmz
 | succ k =>
  obtain ⟨p,hp⟩:∃ p,stk[k]?=some p:=⟨_,Taa om⟩;have hpm:=hs p (Tac hp);have hk:(stk.map ZaX)[k]?=some [.lit (.int .i64 p.op),.sl (Zaa p.dn),.sl (Zaa p.lf)]:=by rw [Tba,hp];rfl
  have q3:((k+1:Nat):Int) - 1=(k:Int):=om;have q1:((0:Int)<=(k:Int))=True:=eq_true om;rw [q3];rw [Zo5 hp] at hw;rw [ZwW hp] at hBB;have h1:=ZgQ p now;have h2:(ZbV p now).length=p.dn.length+(p.lf.length+1):=by simp [ZbV]
  obtain ⟨u,hu6,cB⟩:=Zqv hokg hg hpm hT om;have hu:=fun u=>Zo3 hg (t:=u) hpm.lo (hpm.args hT);have hub:=fun u=>Zo7 (g:=g) (op:=p.op) (xs:=ZbV p now) (t:=u);simp only [whR] at hw;have hl1:(Zaa p.dn).length=p.dn.length:=Zac _;have hl2:(Zaa p.lf).length=p.lf.length:=Zac _;have hl3:(Zaa p.dn++[Zad now]).length=p.dn.length+1:=by simp [hl1]
  have m1:(p.dn.length<=maxApp)=True:=eq_true (by unfold maxApp;omega);have m2:(p.dn.length+1<=maxApp)=True:=eq_true (by unfold maxApp;omega);have m3:(p.dn.length+1+p.lf.length<=maxApp)=True:=eq_true (by unfold maxApp;omega);have r1:ZaC 4 (Zaa p.dn)=true:=Zco _;have r2:ZaC 4 (Zaa p.lf)=true:=Zco _;have r3:ZaC 4 [Zad now]=true:=by have:=Zco [now];rwa [Zes] at this
  refine fN 5 (aj5 @q1 @hk @hkl @hrb @tmz) ?_
  /- gk l18ws -/
  refine gGx (X:=UU) [(0,.d (.agg [.sl (g.sorts.names.map ZbY),.sl (g.sorts.subs.map Zb6),.sl (g.ops.map Zbc)])),(1,.d (.agg (Zad t))),(2,.d (.one (.sl (stk.map ZaX)))),(3,.ref 3 0),(4,.ref 4 0),(6,.ref 6 0),(8,.d (.one (.lit (.int .i64 (k:Int))))),(9,.ref 9 0)] [(3,.var none [.sl (g.sorts.names.map ZbY),.sl (g.sorts.subs.map Zb6),.sl (g.ops.map Zbc)]),(4,.var none (Zad now)),(6,.var none [.lit (.int .i64 0),.lit (.string ByteArray.empty),.lit (.int .i64 0),.sl []]),(9,.var none [.lit (.int .i64 p.op),.sl (Zaa p.dn),.sl (Zaa p.lf)])] (fun _ x=>x.ok) (fun x=>[([(24,.d (.clip []))],[]),([(25,.ref 9 1)],[]),([(26,.d (.one (.sl (Zaa p.dn))))],[]),([(27,.buf 27)],[(27,.buf none 42 4 (Zaa p.dn))]),([(28,.d (.agg (Zad now)))],[]),([(29,.d (.clip [(Zad now)]))],[]),([(30,.buf 30)],[(30,.buf none 42 4 ((Zaa p.dn)++[(Zad now)]))]),([(31,.ref 9 2)],[]),([(32,.d (.one (.sl (Zaa p.lf))))],[]),([(33,.buf 33)],[(33,.buf none 42 4 (((Zaa p.dn)++[(Zad now)])++(Zaa p.lf)))]),([(10,.buf 10)],[(10,.buf none 42 4 (((Zaa p.dn)++[(Zad now)])++(Zaa p.lf)))])]) (fun j=>([(3,6),(6,9),(9,10)]:List (Nat × Nat)).lookup j) [] (⟨by simp [gs],by simp [gm]⟩) (fun j hj=>by simp at hj) ⟨?_,?_,?_,?_,?_,?_,?_,?_,?_,?_,?_,trivial⟩ ?_
  ·intro s' m' hB hD hI hJ;have F:=ZaQ.1 hB;simp only [lkS,lkM,List.getD_cons_zero,List.getD_cons_succ,and_true,true_and] at F;have F:=aj11 F m1 m2 m3 r1 r2 r3 hl1 hl2 hl3 tmz;refine gO3 ?_;exact xS hB (Zap.2 ⟨UU.z,UU.z_ok,by simp [lkS,lkM,gs,gm,Zat,UU.two,UU.vs,UU.sl]⟩)
  ·intro s' m' hB hD hI hJ;have F:=ZaQ.1 hB;simp only [lkS,lkM,List.getD_cons_zero,List.getD_cons_succ,and_true,true_and] at F;have F:=aj11 F m1 m2 m3 r1 r2 r3 hl1 hl2 hl3 tmz;refine gO3 ?_;exact xS hB (Zap.2 ⟨UU.z,UU.z_ok,by simp [lkS,lkM,gs,gm,Zat,UU.two,UU.vs,UU.sl]⟩)
  ·intro s' m' hB hD hI hJ;have F:=ZaQ.1 hB;simp only [lkS,lkM,List.getD_cons_zero,List.getD_cons_succ,and_true,true_and] at F;obtain ⟨x1,o1,F1⟩:=Zap.1 (hD 1 (by decide) (.inl rfl));simp only [lkS,lkM,List.getD_cons_zero,List.getD_cons_succ,and_true,true_and] at F1;have F:=ai F F1;have F:=aj11 F m1 m2 m3 r1 r2 r3 hl1 hl2 hl3 tmz;refine gO3 ?_;exact xS hB (Zap.2 ⟨UU.z,UU.z_ok,by simp [lkS,lkM,gs,gm,Zat,F1,UU.two,UU.vs,UU.sl]⟩)
  ·intro s' m' hB hD hI hJ;have F:=ZaQ.1 hB;simp only [lkS,lkM,List.getD_cons_zero,List.getD_cons_succ,and_true,true_and] at F;obtain ⟨x0,o0,F0⟩:=Zap.1 (hD 0 (by decide) (.inl rfl));obtain ⟨x2,o2,F2⟩:=Zap.1 (hD 2 (by decide) (.inl rfl));simp only [lkS,lkM,List.getD_cons_zero,List.getD_cons_succ,and_true,true_and] at F0;have F:=ai F F0;simp only [lkS,lkM,List.getD_cons_zero,List.getD_cons_succ,and_true,true_and] at F2
   have F:=ai F F2;have F:=aj11 F m1 m2 m3 r1 r2 r3 hl1 hl2 hl3 tmz;refine gO3 ?_;exact xB hB (Zap.2 ⟨UU.z,UU.z_ok,by simp [lkS,lkM,gs,gm,Zat,F0,F2,UU.two,UU.vs,UU.sl]⟩)
  ·intro s' m' hB hD hI hJ;have F:=ZaQ.1 hB;simp only [lkS,lkM,List.getD_cons_zero,List.getD_cons_succ,and_true,true_and] at F;have F:=aj11 F m1 m2 m3 r1 r2 r3 hl1 hl2 hl3 tmz;refine gO3 ?_;exact xS hB (Zap.2 ⟨UU.z,UU.z_ok,by simp [lkS,lkM,gs,gm,Zat,UU.two,UU.vs,UU.sl]⟩)
  ·intro s' m' hB hD hI hJ;have F:=ZaQ.1 hB;simp only [lkS,lkM,List.getD_cons_zero,List.getD_cons_succ,and_true,true_and] at F;obtain ⟨x4,o4,F4⟩:=Zap.1 (hD 4 (by decide) (.inl rfl));simp only [lkS,lkM,List.getD_cons_zero,List.getD_cons_succ,and_true,true_and] at F4;have F:=ai F F4;have F:=aj11 F m1 m2 m3 r1 r2 r3 hl1 hl2 hl3 tmz;refine gO3 ?_;exact xS hB (Zap.2 ⟨UU.z,UU.z_ok,by simp [lkS,lkM,gs,gm,Zat,F4,UU.two,UU.vs,UU.sl]⟩)
  ·intro s' m' hB hD hI hJ;have F:=ZaQ.1 hB;simp only [lkS,lkM,List.getD_cons_zero,List.getD_cons_succ,and_true,true_and] at F;obtain ⟨x3,o3,F3⟩:=Zap.1 (hD 3 (by decide) (.inr rfl));obtain ⟨x5,o5,F5⟩:=Zap.1 (hD 5 (by decide) (.inl rfl));simp only [lkS,lkM,List.getD_cons_zero,List.getD_cons_succ,and_true,true_and] at F3;have F:=ai F F3;simp only [lkS,lkM,List.getD_cons_zero,List.getD_cons_succ,and_true,true_and] at F5
   have F:=ai F F5;have F:=aj11 F m1 m2 m3 r1 r2 r3 hl1 hl2 hl3 tmz;refine gO3 ?_;exact xE hB (Zap.2 ⟨UU.z,UU.z_ok,by simp [lkS,lkM,gs,gm,Zat,F3,F5,UU.two,UU.vs,UU.sl]⟩)
  ·intro s' m' hB hD hI hJ;have F:=ZaQ.1 hB;simp only [lkS,lkM,List.getD_cons_zero,List.getD_cons_succ,and_true,true_and] at F;have F:=aj11 F m1 m2 m3 r1 r2 r3 hl1 hl2 hl3 tmz;refine gO3 ?_;exact xS hB (Zap.2 ⟨UU.z,UU.z_ok,by simp [lkS,lkM,gs,gm,Zat,UU.two,UU.vs,UU.sl]⟩)
  ·intro s' m' hB hD hI hJ;have F:=ZaQ.1 hB;simp only [lkS,lkM,List.getD_cons_zero,List.getD_cons_succ,and_true,true_and] at F;obtain ⟨x7,o7,F7⟩:=Zap.1 (hD 7 (by decide) (.inl rfl));simp only [lkS,lkM,List.getD_cons_zero,List.getD_cons_succ,and_true,true_and] at F7;have F:=ai F F7;have F:=aj11 F m1 m2 m3 r1 r2 r3 hl1 hl2 hl3 tmz;refine gO3 ?_;exact xS hB (Zap.2 ⟨UU.z,UU.z_ok,by simp [lkS,lkM,gs,gm,Zat,F7,UU.two,UU.vs,UU.sl]⟩)
  ·intro s' m' hB hD hI hJ;have F:=ZaQ.1 hB;simp only [lkS,lkM,List.getD_cons_zero,List.getD_cons_succ,and_true,true_and] at F;obtain ⟨x6,o6,F6⟩:=Zap.1 (hD 6 (by decide) (.inr rfl));obtain ⟨x8,o8,F8⟩:=Zap.1 (hD 8 (by decide) (.inl rfl));simp only [lkS,lkM,List.getD_cons_zero,List.getD_cons_succ,and_true,true_and] at F6;have F:=ai F F6;simp only [lkS,lkM,List.getD_cons_zero,List.getD_cons_succ,and_true,true_and] at F8
   have F:=ai F F8;have F:=aj11 F m1 m2 m3 r1 r2 r3 hl1 hl2 hl3 tmz;refine gO3 ?_;exact xE hB (Zap.2 ⟨UU.z,UU.z_ok,by simp [lkS,lkM,gs,gm,Zat,F6,F8,UU.two,UU.vs,UU.sl]⟩)
  ·intro s' m' hB hD hI hJ;have F:=ZaQ.1 hB;simp only [lkS,lkM,List.getD_cons_zero,List.getD_cons_succ,and_true,true_and] at F;obtain ⟨x9,o9,F9⟩:=Zap.1 (hD 9 (by decide) (.inr rfl));simp only [lkS,lkM,List.getD_cons_zero,List.getD_cons_succ,and_true,true_and] at F9;have F:=ai F F9;have F:=aj11 F m1 m2 m3 r1 r2 r3 hl1 hl2 hl3 tmz;refine gO3 ?_;exact xE hB (Zap.2 ⟨UU.z,UU.z_ok,by simp [lkS,lkM,gs,gm,Zat,F9,UU.two,UU.vs,UU.sl]⟩)
  intro s' m' hB hP;obtain ⟨x10,o10,P10⟩:=hP 10 (.inl (by decide)) (fun k h=>by simp [List.lookup] at h);refine ⟨_,_,hB.app P10,?_⟩;simp only [Taf,Tah,List.append_nil,List.getD_cons_zero,List.getD_cons_succ]
  /- gk end l18ws -/
  refine ⟨_,Wk.refl _,?_⟩;refine Zc9 (Zd8 [10] (by simp only [pz,↓reduceIte,Nat.reduceEqDiff,Nat.reduceAdd,Nat.reduceSub,Nat.reduceMul,Nat.reduceLeDiff,Nat.reduceBEq,Tam,decide_true,decide_false,Int.reduceLE,Int.reduceToNat,Int.reduceLT,Int.reduceEq,eq_self,Nat.reduceShiftRight,Nat.reduceAnd,Nat.reduceBneDiff,tmz];exact rfl)) fun σ' hσ=>?_;subst hσ;rw [ZaJ] at cB;rw [show Zaa p.dn++[Zad now]++Zaa p.lf=Zaa (ZbV p now) by rw [ZbV,ZbK,Tbf];simp [Zaa]]
  refine fN 6 @tmz ?_;refine gB ?_;refine fC (aj4 @hk @hkl @hrb @tmz) (cB) ?_;have wk:IntKind.i64.wrap ((k:Int) - 1)=(k:Int) - 1:=IntWalk.i64_in _ om
  cases hmk:mkT g p.op (ZbV p now) with
  | none =>
   rw [hmk] at hw;simp only [Option.bind_none] at hw;rw [<- hw];refine fR @tmz ?_;exact fD (ai @hz @tmz)
  | some v =>
   rw [hmk] at hw;simp only [Option.bind_some] at hw;have hu:=hu v hmk;have hub:=hub v hmk;rw [hu6 v hmk];refine fR @tmz ?_;refine fN 9 @tmz ?_;have F:=ai @wk @tmz;refine gG ?_;exact ⟨(k,v),⟨om,hu,hw,by dsimp only;omega⟩,gw,gw,om⟩
theorem Kept.all1 {D:Prop} {B:Nat} {w w':World} (h:Kept D e1.E B w w') (h1:e1.G w) (h2:e1.G w'):Kept D (fun _=>False) B w w':=h
theorem Zdo {r:List C} (h:Zak (Zae .cond) r):∃ (i0:Int) (t1:ByteArray) (i2:Int) (r3:List (List C)) (i4:Int) (t5:ByteArray) (i6:Int) (r7:List (List C)),r=[.lit (.int .i64 i0),.lit (.string t1),.lit (.int .i64 i2),.sl r3,.lit (.int .i64 i4),.lit (.string t5),.lit (.int .i64 i6),.sl r7]∧I64 i0∧t1.size<=maxLen∧I64 i2∧Zaj (Zae .term) r3∧I64 i4∧t5.size<=maxLen∧I64 i6∧Zaj (Zae .term) r7:=by
 obtain ⟨c0,c1,c2,c3,c4,c5,c6,c7,rfl⟩:=len8 h.len;simp only [Zae,ZbI,occF,ZbW,sigF,Zbz,algF,Taf,Tah,redF,Zak,and_true] at h;obtain ⟨h0,h1,h2,h3,h4,h5,h6,h7⟩:=h;obtain ⟨i0,rfl,g0⟩:=ZbO h0;obtain ⟨t1,rfl,g1⟩:=ZeW h1;obtain ⟨i2,rfl,g2⟩:=ZbO h2;obtain ⟨r3,rfl,g3⟩:=Zb4 h3;obtain ⟨i4,rfl,g4⟩:=ZbO h4;obtain ⟨t5,rfl,g5⟩:=ZeW h5;obtain ⟨i6,rfl,g6⟩:=ZbO h6;obtain ⟨r7,rfl,g7⟩:=Zb4 h7;exact ⟨i0,t1,i2,r3,i4,t5,i6,r7,rfl,g0,g1,g2,g3,g4,g5,g6,g7⟩
theorem ZdD {r:List C} (h:Zak (Zae .eqn) r):∃ (i0:Int) (t1:ByteArray) (i2:Int) (r3:List (List C)) (i4:Int) (t5:ByteArray) (i6:Int) (r7:List (List C)) (r8:List (List C)),r=[.lit (.int .i64 i0),.lit (.string t1),.lit (.int .i64 i2),.sl r3,.lit (.int .i64 i4),.lit (.string t5),.lit (.int .i64 i6),.sl r7,.sl r8]∧I64 i0∧t1.size<=maxLen∧I64 i2∧Zaj (Zae .term) r3∧I64 i4∧t5.size<=maxLen∧I64 i6∧Zaj (Zae .term) r7∧Zaj (Zae .cond) r8:=by
 obtain ⟨c0,c1,c2,c3,c4,c5,c6,c7,c8,rfl⟩:=len9 h.len;simp only [Zae,ZbI,occF,ZbW,sigF,Zbz,algF,Taf,Tah,redF,Zak,and_true] at h;obtain ⟨h0,h1,h2,h3,h4,h5,h6,h7,h8⟩:=h;obtain ⟨i0,rfl,g0⟩:=ZbO h0;obtain ⟨t1,rfl,g1⟩:=ZeW h1;obtain ⟨i2,rfl,g2⟩:=ZbO h2;obtain ⟨r3,rfl,g3⟩:=Zb4 h3;obtain ⟨i4,rfl,g4⟩:=ZbO h4;obtain ⟨t5,rfl,g5⟩:=ZeW h5;obtain ⟨i6,rfl,g6⟩:=ZbO h6;obtain ⟨r7,rfl,g7⟩:=Zb4 h7;obtain ⟨r8,rfl,g8⟩:=Zb4 h8
 exact ⟨i0,t1,i2,r3,i4,t5,i6,r7,r8,rfl,g0,g1,g2,g3,g4,g5,g6,g7,g8⟩
theorem Zed {r:List C} (h:Zak (Zbz) r):∃ (r0:List (List C)) (r1:List (List C)) (r2:List (List C)) (r3:List (List C)) (r4:List (List C)),r=[.sl r0,.sl r1,.sl r2,.sl r3,.sl r4]∧Zaj (Zae .str) r0∧Zaj (Zae .sub) r1∧Zaj (Zae .op) r2∧Zaj (Zae .eqn) r3∧Zaj (Zae .eqn) r4:=by
 obtain ⟨c0,c1,c2,c3,c4,rfl⟩:=len5 h.len;simp only [Zae,ZbI,occF,ZbW,sigF,Zbz,algF,Taf,Tah,redF,Zak,and_true] at h;obtain ⟨h0,h1,h2,h3,h4⟩:=h;obtain ⟨r0,rfl,g0⟩:=Zb4 h0;obtain ⟨r1,rfl,g1⟩:=Zb4 h1;obtain ⟨r2,rfl,g2⟩:=Zb4 h2;obtain ⟨r3,rfl,g3⟩:=Zb4 h3;obtain ⟨r4,rfl,g4⟩:=Zb4 h4;exact ⟨r0,r1,r2,r3,r4,rfl,g0,g1,g2,g3,g4⟩
theorem ZAn {w:World} {E:Nat->Prop}:Own w (.sl []) E (.slice none 0 0):=by
 simp only [Own];exact ⟨none,0,0,rfl,rfl,Tai _,by decide,fun h=>absurd h (by decide)⟩
theorem Zhj:ZaS [] [.set (fun _=>False) (fun w=>Zag w (Zad zTm) (fun _=>False) [.int .i64 0,.string ByteArray.empty,.int .i64 0,.slice none 0 0])]:=fun w S _ _ =>
 ⟨fun x hx=>by simp at hx;subst hx;exact ⟨fun b h=>h.elim,ZwG (args:=[]) (by simp only [Zaa];exact ZAn),Zag.stable _ _ _⟩,ZdZ _,fun g ⟨x,hx,hg⟩=>by simp at hx;subst hx;exact hg.elim⟩
def Zlv (pm:List Bk) (l d:D):Prop:=l=d∨(∃ us row E,l=.agg (Zaf us)∧d=.agg row∧.set E (fun w=>Zag w row E us)∈pm)∨(∃ v rows E,l=.one (.lit v)∧d=.one (.sl rows)∧.set E (fun w=>Own w (.sl rows) E v)∈pm)
def Zjo (pm:List Bk):List D->List D->Prop
 | [],[]=>True
 | l::ls,d::ds=>Zlv pm l d∧Zjo pm ls ds
 | _,_=>False
theorem Zlv.same {pm:List Bk} {d:D}:Zlv pm d d:=.inl rfl
theorem Zlv.tree {pm:List Bk} {us:List Value} {row:List C} {E:Nat->Prop} (h:.set E (fun w=>Zag w row E us)∈pm):Zlv pm (.agg (Zaf us)) (.agg row):=.inr (.inl ⟨us,row,E,rfl,rfl,h⟩)
theorem Zjo.rel {pm:List Bk}:∀ {lits data:List D},Zjo pm lits data->∀ (w:World) (S:Nat->Prop) (vs:List Value),(∀ x∈pm,Zb5 w S x)->ZaH w S lits vs->ZaH w (fun b=>S b∨ZaY pm b) data vs
 | [],[],_,w,S,[],_,_=>trivial
 | [],[],_,w,S,_::_,_,h=>h.elim
 | l::ls,d::ds,hr,w,S,[],_,h=>h.elim
 | l::ls,d::ds,⟨h1,h2⟩,w,S,v::vs,hp,⟨hv,hvs⟩=>by
  refine ⟨?_,Zjo.rel h2 w S vs hp hvs⟩;rcases h1 with rfl | ⟨us,row,E,rfl,rfl,hm⟩ | ⟨u,rows,E,rfl,rfl,hm⟩
  ·exact DRel.keep (Tai _) (fun _ _ _=>rfl) (fun b hb=>.inl hb) hv
  ·obtain ⟨vs',rfl,hr⟩:=hv;rw [Zg2 hr];obtain ⟨_,h3,_⟩:=hp _ hm;exact ⟨us,rfl,Zag.rep row E _ us (fun b hb=>.inr ⟨_,hm,hb⟩) h3⟩
  ·have hv:v=u:=hv;subst hv;obtain ⟨_,h3,_⟩:=hp _ hm;exact (Own.rep _ E v h3).mono fun b hb=>.inr ⟨_,hm,hb⟩
 | [],_::_,h,_,_,_,_,_=>h.elim
 | _::_,[],h,_,_,_,_,_=>h.elim
theorem Zsl {e:Env} {f:FuncId} {data lits:List D} {R:List D->List Bk->Prop} (pm:List Bk) (h:ConP e f data [] R) (hr:Zjo pm lits data) (hset:pm.all ZdO=true) (hR:∀ r q,R r q->r.all litD=true∧q.all ZdO=true):ConP e f lits pm (fun r q=>∃ q1,R r q1∧q=q1++pm) :=
 ZwQ pm h hset hR hr.rel
theorem Zhk {e:Env} {f:FuncId} {data lits r:List D} (pm:List Bk) (h:Con e f data r) (hr:Zjo pm lits data) (hset:pm.all ZdO=true) (hl:r.all litD=true):ConP e f lits pm (fun r' q=>r'=r∧q=pm):=by
 have hc:=Zsl pm (ZA8 h) hr hset (fun r' q ⟨h1,h2⟩=>by rw [h1,h2];exact ⟨hl,rfl⟩);refine ⟨hc.1,fun w S vs h1 h2 h3 h4 h5 h6=>(hc.2 w S vs h1 h2 h3 h4 h5 h6).mono ?_⟩;rintro en w' ⟨v,r',q,k1,⟨q1,⟨rfl,rfl⟩,rfl⟩,k3⟩;exact ⟨v,r',_,k1,⟨rfl,rfl⟩,k3⟩
theorem ZjV (us:List Value):(Zaf us).all litC=true:=by
 induction us with
 | nil=>rfl
 | cons u us ih=>simp only [Zaf,Tbq,List.all_cons,litC,Bool.true_and];exact ih
theorem Za8.lits {row:List C} {r:List D} {q:List Bk} (h:Za8 row r q):r.all litD=true∧q.all ZdO=true:=by
 obtain ⟨us,E,rfl,_,_,rfl⟩:=h;exact ⟨by simp only [List.all_cons,List.all_nil,litD,ZjV];rfl,rfl⟩
theorem ZbZ.lits {rows:List (List C)} {r:List D} {q:List Bk} (h:ZbZ rows r q):r.all litD=true∧q.all ZdO=true:=by
 obtain ⟨v,E,rfl,_,rfl⟩:=h;exact ⟨rfl,rfl⟩
def ZdE (row:List C) (b:Bool) (r:List D) (pm:List Bk):Prop:=∃ us E,r=[.agg (Zaf us),.one (.lit (.bool b))]∧us.length=row.length∧(Zaf us).all Zai=true∧pm=[.set E (fun w=>Zag w row E us)]
theorem ZdE.lits {row:List C} {b:Bool} {r:List D} {q:List Bk} (h:ZdE row b r q):r.all litD=true∧q.all ZdO=true:=by
 obtain ⟨us,E,rfl,_,_,rfl⟩:=h;exact ⟨by simp only [List.all_cons,List.all_nil,litD,ZjV];rfl,rfl⟩
def Zsm (rows:List (List C)) (b:Bool) (r:List D) (pm:List Bk):Prop:=∃ v E,r=[.one (.lit v),.one (.lit (.bool b))]∧Zai (.lit v)=true∧pm=[.set E (fun w=>Own w (.sl rows) E v)]
theorem Zsm.lits {rows:List (List C)} {b:Bool} {r:List D} {q:List Bk} (h:Zsm rows b r q):r.all litD=true∧q.all ZdO=true:=by
 obtain ⟨v,E,rfl,_,rfl⟩:=h;exact ⟨rfl,rfl⟩
theorem ZeV {w:World} {S:Nat->Prop}:∀ {us vs:List Value},Zab w S (Zaf us) vs->vs=us
 | [],[],_=>rfl
 | u::us,v::vs,h=>by
  obtain ⟨h1,h2⟩:=h;have h1:v=u:=h1;rw [h1,ZeV h2]
 | [],_::_,h=>h.elim
 | _::_,[],h=>h.elim
theorem Kept.noPin {D:Prop} {E:Nat->Prop} {B:Nat} {w w':World} (h:Kept D (fun b=>E b∨ZaY [] b) B w w'):Kept D E B w w' :=
 ⟨h.os,h.tape,h.output,h.drawn,h.size,fun k hk hn=>h.block k hk fun h=>h.elim hn fun ⟨x,hx,_⟩=>by cases hx⟩
theorem ZpD {e:Env} {f:FuncId} {args:List D} {row:List C} (h:ConP e f args [] (Za8 row)):Con e f args [.agg row]:=by
 refine ⟨h.1,fun w S vs hS hE hG hv=>(h.2 w S vs hS hE hG (fun x hx=>by cases hx) trivial hv).mono ?_⟩;rintro en w' ⟨v,r,pm',h1,⟨us,E,rfl,hl,hok,rfl⟩,h3,h4,h5,h6,h7⟩;obtain ⟨⟨q1,q2,q3⟩,p2⟩:=h5 _ Tas;obtain ⟨us0,hu0,hr⟩:=h7;have e1:=ZeV hr;subst e1;refine ⟨v,h1,h3.noPin,h4,us0,hu0,Zag.rep _ _ _ _ (fun g hg=>.inr ⟨?_,(q1 g hg).1⟩) q2⟩;exact (p2 g hg).elim (fun ⟨x,hx,_⟩=>by cases hx) id
theorem Zxb {e:Env} {f:FuncId} {args:List D} {row:List C} {b:Bool} (h:ConP e f args [] (ZdE row b)):Con e f args [.agg row,.one (.lit (.bool b))]:=by
 refine ⟨h.1,fun w S vs hS hE hG hv=>(h.2 w S vs hS hE hG (fun x hx=>by cases hx) trivial hv).mono ?_⟩;rintro en w' ⟨v,r,pm',h1,⟨us,E,rfl,hl,hok,rfl⟩,h3,h4,h5,h6,h7⟩;obtain ⟨⟨q1,q2,q3⟩,p2⟩:=h5 _ Tas;obtain ⟨vs',hvs,hd⟩:=h7
 match vs',hd with
 | [u0,u1],⟨⟨us0,hu0,hr⟩,hb,_⟩ =>
  have e1:=ZeV hr;subst e1;refine ⟨v,h1,h3.noPin,h4,[u0,u1],hvs,⟨us0,hu0,Zag.rep _ _ _ _ (fun g hg=>.inr ⟨?_,(q1 g hg).1⟩) q2⟩,hb,trivial⟩;exact (p2 g hg).elim (fun ⟨x,hx,_⟩=>by cases hx) id
def Zmd (P:Program) (s d:TypeId):Bool:=match P.underlying s,P.underlying d with
 | some (.slice e),some .string=>match P.underlying e with
  | some (.int .u8)=>true
  | _=>false
 | _,_=>false
def Zhl (b:Int):ByteArray:=ByteArray.empty.push (UInt8.ofNat b.toNat)
section
variable {e:Env} {σ:St} {o:Oper} {K:St->Prop}
theorem Zxc {s d:TypeId} {x:Operand} {b:Int} (ho:o.op=.convert s d x) (hx:evA σ.s x=.d (.clip [[.lit (.int .u8 b)]])) (ht:Zmd e.P s d=true) (hK:K ⟨setA σ.s o.dst (.d (.one (.lit (.string (Zhl b))))),σ.m⟩):Zbx e o σ K:=by
 intro he U w0 S0 nt a w Q hd ⟨S,L,h⟩;refine Oper.wp_mono (fun a' w' hs=>⟨_,hK,hs⟩) (Zek h hd (ZaK fun w S L ρv hC hr=>?_));have hx':=hr x (by simp [ho,Op.operands]);rw [hx] at hx';obtain ⟨⟨A,n,cap,hv,hn,_,_,hb⟩,_⟩:=hx';simp only [Tag,Tak,Nat.zero_add] at hn;subst hn;obtain ⟨g,off,rfl,_,_,hrow⟩:=hb (by decide);simp only [Zas,Zal,Rep,and_true] at hrow;obtain ⟨u,hc,rfl⟩:=hrow;have hl:=run_loadCells_list (P:=e.P) w ⟨g,off,none⟩ [.int .u8 b] (fun j u hj=>by
  cases j with
  | zero=>simp at hj;subst hj;rw [Addr.add_at];exact hc
  | succ j=>simp at hj)
 unfold Zmd at ht;split at ht
 ·rename_i e1 h1 h2;split at ht
  ·rename_i h3;refine ⟨.string (Zhl b),?_,by simp [ARel,DRel,Rep]⟩;simp only [Tag,Tak,Nat.zero_add] at hl;simp [execOp,ho,hv,convert,underlying,h1,h2,h3,Conv.bytesToString,hl,Zhl,Result.andThen]
  ·cases ht
 ·cases ht
end
theorem gY {e:Env} {K:St->Prop} {ds:List (Option Nat)} {os:List Oper} {d t1 t2 ty:Nat} {p:String} {ed:Array Edge} {x:Operand} {s:List (Nat × A)} {m:List (Nat × Bk)} {b:Int} (hK:Runs e ds 0 os ⟨(d,.d (.one (.lit (.string (Zhl b)))))::s,m⟩ K)
  (hx:evA s x=.d (.clip [[.lit (.int .u8 b)]]):=by exact snx) (ht:Zmd e.P t1 t2=true:=by kernel_rfl):Runs e ds 0 (⟨some d,.convert t1 t2 x,ty,p,ed,none⟩::os) ⟨s,m⟩ K:=by
 simp only [Runs] at hK ⊢;exact Zdf rfl (Zxc (o:=⟨some d,.convert t1 t2 x,ty,p,ed,none⟩) rfl hx ht hK)
def dig (n:Nat):ByteArray:=Zhl (IntKind.u8.wrap (IntKind.i64.wrap (48+(n:Int).tmod 10)))
def txtL (n:Nat) (acc:ByteArray):ByteArray:=if h:n=0 then acc else txtL (n / 10) (dig n++acc)
termination_by n
decreasing_by omega
def txt (k:Int):ByteArray:=if k<=0 then ⟨#[109,48]⟩ else ⟨#[109]⟩++txtL k.toNat ByteArray.empty
theorem ZAU (acc:ByteArray):txtL 0 acc=acc:=by rw [txtL];simp
theorem ZAV {n:Nat} (h:n≠0) (acc:ByteArray):txtL n acc=txtL (n / 10) (dig n++acc):=by rw [txtL];simp [h]
theorem ZpE (n:Nat):(dig n).size=1:=rfl
theorem ZcJ (k:Int) (hk:k<=1000000000) (hk0:0<=k):Con e0 76 [.one (.lit (.int .i64 k))] [.one (.lit (.string (txt k)))]:=by
 by_cases h0:k<=0
 ·have h:txt k=⟨#[109,48]⟩:=by unfold txt;rw [if_pos h0]
  have q1:(k<=0)=True:=eq_true h0;rw [h];refine gI (ts:=[.slot 2]) 173 Tryz.func76 ?_;exact fD @q1
 ·have h:txt k=⟨#[109]⟩++txtL k.toNat ByteArray.empty:=by unfold txt;rw [if_neg h0]
  have q1:(k<=0)=False:=eq_false h0;rw [h];obtain ⟨n,rfl⟩:∃ n:Nat,k=n:=⟨k.toNat,om⟩;rw [Tbt];refine gI (ts:=[.slot 2]) 173 Tryz.func76 ?_;refine fG @q1 ?_;have F:=@q1;refine gL (ι:=Nat × ByteArray) [0,3,7] [] (fun x=>[(0,.d (.one (.lit (.int .i64 (x.1:Int))))),(3,.d (.one (.lit (.string x.2))))]) (fun x=>[]) (fun x=>txtL n ByteArray.empty=txtL x.1 x.2∧x.2.size+x.1<=n) (fun x=>x.1) ((n,⟨#[]⟩)) (⟨rfl,by show 0+n<=n;omega⟩) (fun x hx=>?_);clear F
  obtain ⟨j,acc⟩:=x;obtain ⟨h1,h2⟩:=hx;simp only at h1 h2;rw [h1];clear h1;by_cases hj:j=0
  ·subst hj;have q2:(((0:Nat):Int) > 0)=False:=eq_false om;rw [ZAU];have q5:((ByteArray.mk #[109]).size+acc.size<=9223372036854775807)=True:=eq_true (by show 1+acc.size<=_;omega);exact fD (ai @q2 @q5)
  ·have q2:((j:Int) > 0)=True:=eq_true om;rw [ZAV hj];have q3:IntKind.i64.wrap ((j:Int).tdiv 10)=((j / 10:Nat):Int):=by rw [show (j:Int).tdiv 10=((j / 10:Nat):Int) from by rw [Int.ofNat_tdiv];rfl];exact IntWalk.i64_in _ om
   refine fN 5 @q2 ?_;refine gB ?_;have F:=@q2;refine gP 5 ?_;clear F;refine gY ?_;have q5:((dig j).size+acc.size<=9223372036854775807)=True:=eq_true (by rw [ZpE];omega);change Runs _ _ _ _ ⟨(13,.d (.one (.lit (.string (dig j)))))::_,_⟩ _;refine fR (ai @q2 @q5) ?_;have hd:=ZpE j;have F:=ai @q2 @q3;refine gG ?_;exact ⟨(j / 10,dig j++acc),⟨rfl,by rw [ByteArray.size_append,hd];omega⟩,gw,gw,om⟩
def mkV (k:Int):Value->Value
 | .int i _=>.int i k
 | .string _=>.string (txt k)
 | .bool _=>.bool (k % 3==0)
 | v=>v
mutual
def mkC:Int->C->C
 | k,.lit v=>.lit (mkV k v)
 | k,.sl rows=>.sl (Zah k rows)
 | _,.ptr cs=>.ptr cs
 | _,.fn f cs=>.fn f cs
def ZcR:Int->List C->List C
 | _,[]=>[]
 | k,c::cs=>mkC k c::ZcR (k+cntC c) cs
def Zah:Int->List (List C)->List (List C)
 | _,[]=>[]
 | k,r::rs=>ZcR k r::Zah (k+Zcv r) rs
def cntC:C->Nat
 | .lit _=>1
 | .sl rows=>cntRows rows
 | .ptr _=>0
 | .fn _ _=>0
def Zcv:List C->Nat
 | []=>0
 | c::cs=>cntC c+Zcv cs
def cntRows:List (List C)->Nat
 | []=>0
 | r::rs=>Zcv r+cntRows rs
end
theorem Zm8:∀ (k:Int) (cs:List C),(ZcR k cs).length=cs.length
 | _,[]=>by simp [ZcR]
 | k,c::cs=>by simp [ZcR,Zm8 _ cs]
theorem Zlw:∀ (k:Int) (rs:List (List C)),(Zah k rs).length=rs.length
 | _,[]=>by simp [Zah]
 | k,c::cs=>by simp [Zah,Zlw _ cs]
theorem Zdc:∀ (rs:List (List C)) (r:List C),cntRows (rs++[r])=cntRows rs+Zcv r
 | [],r=>by simp [cntRows]
 | q::rs,r=>by simp [cntRows,Zdc rs r];omega
theorem Zcm:∀ (rs:List (List C)) (r:List C) (k:Int),Zah k (rs++[r])=Zah k rs++[ZcR (k+cntRows rs) r]
 | [],r,k=>by simp [Zah,cntRows]
 | q::rs,r,k=>by simp [Zah,cntRows,Zcm rs r,Int.add_assoc]
theorem ZbU {α:Type} {l:List α} {i:Nat} {x:α} (h:l[i]?=some x):l.take (i+1)=l.take i++[x]:=by simp [List.take_add_one,h]
theorem ZbQ {α:Type} {l:List α} {i:Nat} {x:α} (h:l[i]?=some x):l.drop i=x::l.drop (i+1):=by
 obtain ⟨h1,rfl⟩:=Tad.1 h;exact List.drop_eq_getElem_cons h1
theorem Zcf:∀ (rs:List (List C)) (i:Nat),cntRows (rs.take i)<=cntRows rs
 | [],i=>by simp [cntRows]
 | r::rs,0=>by simp [cntRows]
 | r::rs,i+1=>by have:=Zcf rs i;simp only [Tbc,cntRows];omega
theorem ZAo {x y:Bk} (h:∀ g,pblk x g->¬ pblk y g):Zcy [x,y]:=⟨fun z hz g hg=>by simp at hz;subst hz;exact h g hg,ZdZ _⟩
theorem Zff {E:Nat->Prop} {v:Value}:ZhA (ι:=Option Addr × Nat) [.set E (fun w=>Own w (.sl []) E v)] (fun i=>v=.slice i.1 0 i.2) (fun _=>[.set E (fun w=>Own w (.sl []) E v)]):=fun w S h ha=>by
 obtain ⟨h1,h2,h3⟩:_∧Own w (.sl []) E v∧_:=h (.set E (fun w=>Own w (.sl []) E v)) (by simp);simp only [Own] at h2;obtain ⟨A,n,cap,hv,hn,_⟩:=h2;simp at hn;subst hn;exact ⟨(A,cap),hv,h,ha,fun _ h=>h⟩
theorem Zew {E:Nat->Prop} {v:Value} {rows:List (List C)} {sz:Nat} (hne:rows≠[]) (hrl:rowsLen sz rows):ZhA (ι:=Option Addr × Nat × Nat × List (List Value) × (Nat->Prop)) [.set E (fun w=>Own w (.sl rows) E v)]
  (fun i=>v=.slice i.1 i.2.2.2.1.length i.2.1∧i.2.2.2.1.length=rows.length∧rows.length<=maxLen) (fun i=>[.buf (some (i.1,i.2.1)) i.2.2.1 sz (i.2.2.2.1.map Zaf),.set i.2.2.2.2 (fun w=>Zan w rows i.2.2.2.2 i.2.2.2.1)]):=fun w S h ha=>by
 obtain ⟨h1,h2,h3⟩:(∀ b,E b->b < w.heap.size∧¬ S b)∧Own w (.sl rows) E v∧_:=h (.set E (fun w=>Own w (.sl rows) E v)) (by simp);obtain ⟨A,n,cap,rfl,hn1,hn2,hn3⟩:=(Own.rep _ _ _ h2).form;obtain ⟨uss,ety,E',rfl,k1,k2,k3,k4⟩:=Own.open (T:=S) (fun b hb=>(h1 b hb).2) hne hrl h2;refine ⟨(A,cap,ety,uss,E'),⟨rfl,k2.len,om⟩,fun x hx=>?_,ZAo fun g hg hg2=>?_,fun g ⟨x,hx,hg⟩=>⟨_,Tas,?_⟩⟩
 ·simp only [Tbg,List.not_mem_nil,or_false] at hx;rcases hx with rfl | rfl
  ·show Za5 w S ety sz (uss.map Zaf) (.slice A (uss.map Zaf).length cap);rw [Tay];exact k1
  ·exact ⟨fun b hb=>h1 b (k3 b hb).1,k2,Zan.stable _ _ _⟩
 ·simp only [pblk,Tay] at hg hg2;exact (k3 g hg2).2 hg
 ·simp only [Tbg,List.not_mem_nil,or_false] at hx;rcases hx with rfl | rfl
  ·simp only [pblk,Tay] at hg;exact k4 g hg
  ·exact (k3 g hg).1
def Zbb:List C->List Value->(Nat->Nat->Prop)->List Bk
 | .sl rows::cs,u::us,Es=>.set (Es 0) (fun w=>Own w (.sl rows) (Es 0) u)::Zbb cs us (fun k=>Es (k+1))
 | .lit _::cs,_::us,Es=>Zbb cs us Es
 | _,_,_=>[]
def Zef:List C->List Value->Prop
 | [],[]=>True
 | .lit x::cs,u::us=>u=x∧Zef cs us
 | .sl _::cs,_::us=>Zef cs us
 | _,_=>False
def ZdW:C->Bool
 | .lit _=>true
 | .sl _=>true
 | _=>false
theorem ZgF {w:World} {S:Nat->Prop}:∀ {cs:List C} {us:List Value} {E:Nat->Prop},cs.all ZdW=true->Zag w cs E us->(∀ b,E b->b < w.heap.size∧¬ S b)->∃ Es,Zef cs us∧(∀ x∈Zbb cs us Es,Zb5 w S x)∧Zcy (Zbb cs us Es)∧∀ g,ZaY (Zbb cs us Es) g->E g
 | [],[],E,_,_,_=>⟨fun _ _=>False,trivial,by simp [Zbb],trivial,fun g ⟨x,hx,_⟩=>by simp [Zbb] at hx⟩
 | c::cs,u::us,E,hp,h,hE=>by
  simp only [Zag] at h;obtain ⟨S1,S2,i1,i2,hd,h1,h2⟩:=h;simp only [List.all_cons,Tar] at hp;obtain ⟨Es,k1,k2,k3,k4⟩:=ZgF hp.2 h2 (fun b hb=>hE b (i2 b hb))
  cases c with
  | lit x =>
   simp only [Own] at h1;exact ⟨Es,⟨h1,k1⟩,k2,k3,fun g hg=>i2 g (k4 g hg)⟩
  | sl rows =>
   refine ⟨fun k=>match k with | 0=>S1 | k+1=>Es k,k1,fun x hx=>?_,⟨fun y hy g hg hg2=>hd g hg (k4 g ⟨y,hy,hg2⟩),k3⟩,fun g ⟨x,hx,hg⟩=>?_⟩
   ·simp only [Zbb,Tbg] at hx;rcases hx with rfl | hx
    ·exact ⟨fun b hb=>hE b (i1 b hb),h1,Own.stable _ _ _⟩
    ·exact k2 x hx
   ·simp only [Zbb,Tbg] at hx;rcases hx with rfl | hx
    ·exact i1 g hg
    ·exact i2 g (k4 g ⟨x,hx,hg⟩)
  | ptr _=>simp [ZdW] at hp
  | fn _ _=>simp [ZdW] at hp
 | [],_::_,_,_,h,_=>by simp [Zag] at h
 | _::_,[],_,_,h,_=>by simp [Zag] at h
theorem Zag.of_cells {w:World} {S:Nat->Prop}:∀ {cs:List C} {us:List Value} {Es:Nat->Nat->Prop},cs.all ZdW=true->Zef cs us->(∀ x∈Zbb cs us Es,Zb5 w S x)->Zcy (Zbb cs us Es)->Zag w cs (ZaY (Zbb cs us Es)) us
 | [],[],Es,_,_,_,_=>Zag.nil
 | .lit x::cs,u::us,Es,hp,hl,h,ha=>by
  obtain ⟨rfl,hl⟩:=hl;simp only [List.all_cons,Tar] at hp;simp only [Zag];exact ⟨fun _=>False,_,fun _ h=>h.elim,fun _ h=>h,fun _ h _=>h,by simp [Own],Zag.of_cells (Es:=Es) hp.2 hl h ha⟩
 | .sl rows::cs,u::us,Es,hp,hl,h,ha=>by
  simp only [List.all_cons,Tar] at hp;simp only [Zag];obtain ⟨a1,a2⟩:=ha;have hE:=h (.set (Es 0) (fun w=>Own w (.sl rows) (Es 0) u)) Tas;refine ⟨Es 0,ZaY (Zbb cs us (fun k=>Es (k+1))),fun b hb=>⟨_,Tas,hb⟩,fun b ⟨x,hx,hb⟩=>⟨x,Tal _ hx,hb⟩,fun b hb ⟨x,hx,hb2⟩=>a1 x hx b hb hb2,hE.2.1,Zag.of_cells hp.2 hl (fun x hx=>h x (Tal _ hx)) a2⟩
 | .ptr _::_,_::_,_,hp,_,_,_=>by simp [ZdW] at hp
 | .fn _ _::_,_::_,_,hp,_,_,_=>by simp [ZdW] at hp
 | [],_::_,_,_,hl,_,_=>by simp [Zef] at hl
 | .lit _::_,[],_,_,hl,_,_=>by simp [Zef] at hl
 | .sl _::_,[],_,_,hl,_,_=>by simp [Zef] at hl
theorem Zfg:∀ {cs:List C} {us:List Value} {Es:Nat->Nat->Prop} (y:Bk),y∈Zbb cs us Es->∃ E G,y=.set E G
 | .sl rows::cs,u::us,Es,y,h=>by
  rcases Tbg.1 h with rfl | h
  ·exact ⟨_,_,rfl⟩
  ·exact Zfg y h
 | .lit _::cs,_::us,Es,y,h=>Zfg (cs:=cs) (us:=us) y h
 | .ptr _::_,_,_,y,h=>by simp [Zbb] at h
 | .fn _ _::_,_,_,y,h=>by simp [Zbb] at h
 | [],_,_,y,h=>by simp [Zbb] at h
 | .lit _::_,[],_,y,h=>by simp [Zbb] at h
 | .sl _::_,[],_,y,h=>by simp [Zbb] at h
theorem Zex {E:Nat->Prop} {r:List C} {rest:List (List C)} {us:List Value} {urest:List (List Value)} (hp:r.all ZdW=true):ZhA (ι:=Unit) [.set E (fun w=>Zan w (r::rest) E (us::urest))] (fun _=>Zef r us) (fun _=>[.set E (fun w=>Zan w (r::rest) E (us::urest))]):=fun w S h ha=>by
 obtain ⟨h1,h2,h3⟩:(∀ b,E b->b < w.heap.size∧¬ S b)∧Zan w (r::rest) E (us::urest)∧_:=h (.set E (fun w=>Zan w (r::rest) E (us::urest))) (by simp);obtain ⟨S1,S2,i1,i2,hd,k1,k2⟩:=h2;obtain ⟨Es,hl,_⟩:=ZgF (S:=S) hp k1 (fun b hb=>h1 b (i1 b hb));exact ⟨(),hl,h,ha,fun _ h=>h⟩
theorem Zfh {E:Nat->Prop} {r:List C} {rest:List (List C)} {us:List Value} {urest:List (List Value)} (hp:r.all ZdW=true):ZhA (ι:=(Nat->Prop) × (Nat->Nat->Prop)) [.set E (fun w=>Zan w (r::rest) E (us::urest))] (fun _=>True) (fun i=>.set i.1 (fun w=>Zan w rest i.1 urest)::Zbb r us i.2):=fun w S h ha=>by
 obtain ⟨h1,h2,h3⟩:(∀ b,E b->b < w.heap.size∧¬ S b)∧Zan w (r::rest) E (us::urest)∧_:=h (.set E (fun w=>Zan w (r::rest) E (us::urest))) (by simp);obtain ⟨S1,S2,i1,i2,hd,k1,k2⟩:=h2;obtain ⟨Es,hl,q1,q2,q3⟩:=ZgF (S:=S) hp k1 (fun b hb=>h1 b (i1 b hb));refine ⟨(S2,Es),trivial,fun x hx=>?_,⟨fun y hy g hg hg2=>hd g (q3 g ⟨y,hy,hg2⟩) hg,q2⟩,fun g ⟨x,hx,hg⟩=>⟨_,Tas,?_⟩⟩
 ·rcases Tbg.1 hx with rfl | hx
  ·exact ⟨fun b hb=>h1 b (i2 b hb),k2,Zan.stable _ _ _⟩
  ·exact q1 x hx
 ·rcases Tbg.1 hx with rfl | hx
  ·exact i2 g hg
  ·exact i1 g (q3 g ⟨x,hx,hg⟩)
theorem Zfi {E:Nat->Prop} {done:List (List C)} {ud:List (List Value)} {cs:List C} {us:List Value} {Es:Nat->Nat->Prop} (hp:cs.all ZdW=true) (hl:Zef cs us):ZaS (.set E (fun w=>Zan w done E ud)::Zbb cs us Es) [.set (fun b=>E b∨ZaY (Zbb cs us Es) b) (fun w=>Zan w (done++[cs]) (fun b=>E b∨ZaY (Zbb cs us Es) b) (ud++[us]))]:=fun w S h ha=>by
 have hE:=h (.set E (fun w=>Zan w done E ud)) Tas;have hv:=Zag.of_cells (w:=w) (S:=S) hp hl (fun x hx=>h x (Tal _ hx)) ha.2;refine ⟨fun x hx=>?_,ZdZ _,fun g ⟨x,hx,hg⟩=>?_⟩
 ·simp only [Tbg,List.not_mem_nil,or_false] at hx;subst hx;refine ⟨fun b hb=>?_,Zan.snoc hE.2.1 hv (fun _ h=>.inl h) (fun _ h=>.inr h) (fun b hb ⟨y,hy,hg⟩=>ha.1 y hy b hb hg),Zan.stable _ _ _⟩;rcases hb with hb | ⟨y,hy,hg⟩
  ·exact hE.1 b hb
  ·obtain ⟨E',G',rfl⟩:=Zfg y hy;exact (h _ (Tal _ hy)).1 b hg
 ·simp only [Tbg,List.not_mem_nil,or_false] at hx;subst hx;rcases hg with hg | ⟨y,hy,hg⟩
  ·exact ⟨_,Tas,hg⟩
  ·exact ⟨y,Tal _ hy,hg⟩
def ZcS (f:FuncId) (rows:List (List C)):Prop:=∀ (k:Int) (E:Nat->Prop) (v:Value),0<=k->k+cntRows rows<=1000000000->ConP e0 f [.one (.lit v),.one (.lit (.int .i64 k))] [.set E (fun w=>Own w (.sl rows) E v)] (fun r pm=>∃ E',r=[.one (.lit (.int .i64 (k+cntRows rows)))]∧pm=[.set E' (fun w=>Own w (.sl (Zah k rows)) E' v)])
theorem ZcC (k:Int):Zah k []=[]:=by simp only [Zah]
theorem Zd1:cntRows []=0:=by simp only [cntRows]
theorem Ze0 {α:Type} {l:List α} {i:Nat} (h:i < l.length) (x:α):(l.set i x)[i]?=some x:=by simp [h]
theorem ZaA {α:Type} (l:List α) (i:Nat) (x:α):(l.set i x).length=l.length:=Taz
theorem ZaD {α:Type} (l:List α) (i:Nat) (x y:α):(l.set i x).set i y=l.set i y:=List.set_set ..
theorem ZdR {α:Type} {l:List α} {i:Nat} {x:α} (h:i < l.length):(l.set i x).take (i+1)=l.take i++[x]:=by
 rw [ZbU (x:=x) (by simp [h]),List.take_set_of_le (Tai _)]
theorem ZdS {α:Type} (l:List α) (i:Nat) (x:α):(l.set i x).drop (i+1)=l.drop (i+1):=List.drop_set_of_lt om
theorem Ztn (rows:List (List C)) (hok:Zaj (Zae .term) rows) (h:∀ r∈rows,∀ i0 t1 i2 r3,r=[.lit (.int .i64 i0),.lit (.string t1),.lit (.int .i64 i2),.sl r3]->ZcS 43 r3):ZcS 43 rows:=by
 intro k E v hk hb;refine gIP (ts:=[.slot 4]) [1000] 563 Tryz.func43 ?_;refine fG @e0P ?_;by_cases hne:rows=[]
 ·subst hne;refine pEx [1000] [1000] Zff ?_;rintro ⟨a,cap⟩ rfl;have F:=@hk;refine gL (ι:=Unit) [1,5,9] [] (fun x=>[(5,.d (.one (.lit (.int .i64 0)))),(1,.d (.one (.lit (.int .i64 k))))]) (fun x=>[]) (fun x=>True) (fun x=>0) (()) (trivial) (fun x hx=>?_);clear F;have q1:((0:Int) < 0)=False:=eq_false (by decide);have q2:((0:Int) < ((0:Nat):Int))=False:=eq_false (by decide);refine fG (ai @q1 @q2) ?_;have F:=hk
  refine gTP (R:=fun r pm=>∃ E',r=[.one (.lit (.int .i64 (k+(cntRows []:Nat))))]∧pm=[.set E' (fun w=>Own w (.sl (Zah k [])) E' (.slice a 0 cap))]) [1000] ⟨E,by simp only [cntRows,Int.natCast_zero,Int.add_zero];rfl,by simp only [Zah];rfl⟩
 ·have hrl:rowsLen 4 rows:=Zaj.rowsLen hok;refine pEx [1000] [1000,1001] (Zew hne hrl) ?_;rintro ⟨a,cap,ety,uss,E1⟩ ⟨rfl,hl,hmx⟩;simp only at hl ⊢;unfold maxLen at hmx;refine pE [] [1002] Zb3 ?_;have F:=aj4 @ZcC @Zd1 @Int.add_zero @Int.natCast_zero;refine gL (ι:=Nat × List (List Value) × (Nat->Prop) × (Nat->Prop)) [1,5,9] [1000,1001,1002] (fun x=>[(5,.d (.one (.lit (.int .i64 (x.1:Int))))),(1,.d (.one (.lit (.int .i64 (k+(cntRows (rows.take x.1):Nat))))))]) (fun x=>[(1000,.buf (some (a,cap)) ety 4 (x.2.1.map Zaf)),(1001,.set x.2.2.1 (fun w=>Zan w (rows.drop x.1) x.2.2.1 (x.2.1.drop x.1))),(1002,.set x.2.2.2 (fun w=>Zan w (Zah k (rows.take x.1)) x.2.2.2 (x.2.1.take x.1)))]) (fun x=>x.1<=rows.length∧x.2.1.length=rows.length) (fun x=>rows.length - x.1) ((0,uss,E1,fun _=>False)) (⟨Taj _,hl⟩) (fun x hx=>?_);clear F
  obtain ⟨i,us,E2,E3⟩:=x;obtain ⟨hi,hn⟩:=hx;simp only at hi hn;dsimp only;by_cases hlt:i < rows.length
  ·obtain ⟨r,hr⟩:∃ r,rows[i]?=some r:=⟨_,Taa hlt⟩;obtain ⟨u,hu⟩:∃ u,us[i]?=some u:=⟨_,Taa om⟩;obtain ⟨i0,t1,i2,r3,rfl,_,_,_,g3⟩:=ZcA (hok.get hr);have hm:=h _ (Tac hr) i0 t1 i2 r3 rfl;have hc1:cntRows (rows.take (i+1))=cntRows (rows.take i)+(3+cntRows r3):=by
    rw [ZbU hr,Zdc];simp only [Zcv,cntC];omega
   have hc2:=Zcf rows (i+1);rw [ZbQ hr,ZbQ hu];refine pEx [1001] [1001] (Zex rfl) ?_;rintro ⟨⟩ hlit;obtain ⟨u3,rfl⟩:∃ u3,u=[.int .i64 i0,.string t1,.int .i64 i2,u3]:=by
    match u,hlit with
    | [_,_,_,u3],⟨rfl,rfl,rfl,_⟩=>exact ⟨u3,rfl⟩
   refine pEx (f:=fun (x:(Nat->Prop) × (Nat->Nat->Prop))=>[.set x.1 (fun w=>Zan w (rows.drop (i+1)) x.1 (us.drop (i+1))),.set (x.2 0) (fun w=>Own w (.sl r3) (x.2 0) u3)]) [1001] [1001,1003] (Zfh rfl) ?_;rintro ⟨E4,Es⟩ -;dsimp only;generalize hkk:k+(cntRows (rows.take i):Int)=kk;have q1:=lT i rows.length;have q2:i < rows.length:=hlt;have hs:∀ X:List C,((us.map Zaf).set i X)[i]?=some X:=fun X=>Ze0 (by rw [Zau,hn];omega) X
   have w1:IntKind.i64.wrap (kk+1)=kk+1:=IntWalk.i64_in _ om;have w2:IntKind.i64.wrap (kk+1+1)=kk+1+1:=IntWalk.i64_in _ om;have w3:IntKind.i64.wrap (kk+1+1+1)=kk+1+1+1:=IntWalk.i64_in _ om;have w4:IntKind.i64.wrap ((i:Int)+1)=(i:Int)+1:=IntWalk.i64_in _ om;refine fB (aj13 @q1 @hl @hn @hu @ZdC @Zau @ZaA @hs @w1 @w2 @w3 @q2 @ZaD) ?_;refine fC @q1 (ZcJ (kk+1) om om) ?_;refine fR (aj9 @hl @hn @hu @ZdC @Zau @ZaA @hs @q2 @ZaD) ?_
   refine fB (aj13 @q1 @hl @hn @hu @ZdC @Zau @ZaA @hs @w1 @w2 @w3 @q2 @ZaD) ?_;have F:=aj13 @q1 @hl @hn @hu @ZdC @Zau @ZaA @hs @w1 @w2 @w3 @q2 @ZaD;refine gCP [1003] [1003] (hm (kk+1+1+1) (Es 0) u3 om om) ?_;clear F;rintro r pm ⟨E5,rfl,rfl⟩;simp only [setA,retA,zipM,Taf,Tah];refine fR @q1 ?_;obtain ⟨E6,hre⟩:∃ E6,ZaS [.set E3 (fun w=>Zan w (Zah k (rows.take i)) E3 (us.take i)),.set E5 (fun w=>Own w (.sl (Zah (kk+1+1+1) r3)) E5 u3)] [.set E6 (fun w=>Zan w (Zah k (rows.take (i+1))) E6 ((us.set i [.int .i64 kk,.string (txt (kk+1)),.int .i64 (kk+1+1),u3]).take (i+1)))]:=by
    have hz:=Zfi (E:=E3) (done:=Zah k (rows.take i)) (ud:=us.take i) (cs:=[.lit (.int .i64 kk),.lit (.string (txt (kk+1))),.lit (.int .i64 (kk+1+1)),.sl (Zah (kk+1+1+1) r3)]) (us:=[.int .i64 kk,.string (txt (kk+1)),.int .i64 (kk+1+1),u3]) (Es:=fun _=>E5) rfl ⟨rfl,rfl,rfl,trivial⟩;rw [ZbU hr,Zcm,hkk,ZdR om];simp only [ZcR,mkC,mkV,cntC,Int.natCast_one];exact ⟨_,hz⟩
   refine pE [1002,1003] [1002] hre ?_;have e1:((us.set i [.int .i64 kk,.string (txt (kk+1)),.int .i64 (kk+1+1),u3]).map Zaf)=(us.map Zaf).set i [.lit (.int .i64 kk),.lit (.string (txt (kk+1))),.lit (.int .i64 (kk+1+1)),.lit u3]:=by rw [List.map_set,ZdC]
   have e2:=ZdS us i [.int .i64 kk,.string (txt (kk+1)),.int .i64 (kk+1+1),u3];have e5:k+(cntRows (rows.take (i+1)):Int)=kk+1+1+1+(cntRows r3:Int):=by rw [hc1];omega
   have hn2:(us.set i [.int .i64 kk,.string (txt (kk+1)),.int .i64 (kk+1+1),u3]).length=rows.length:=by rw [ZaA,hn]
   generalize us.set i [.int .i64 kk,.string (txt (kk+1)),.int .i64 (kk+1+1),u3]=us2 at e1 e2 hn2 ⊢;rw [<- e1,<- e2];have F:=aj3 @w4 @e5 @hl;refine gG ?_;exact ⟨(i+1,us2,E4,E6),⟨hlt,hn2⟩,gw,gw,om⟩
  ·obtain rfl:i=rows.length:=by omega
   have q1:=lF rows.length rows.length;rw [Tap,List.take_of_length_le (Nat.le_of_eq hn)];refine fG (aj3 @q1 @hl @hn) ?_;obtain ⟨E6,hre⟩:∃ E6,ZaS [.buf (some (a,cap)) ety 4 (us.map Zaf),.set E3 (fun w=>Zan w (Zah k rows) E3 us)] [.set E6 (fun w=>Own w (.sl (Zah k rows)) E6 (.slice a uss.length cap))]:=by
    rw [hl,<- hn];exact ⟨_,ZbL (fun w h=>h) (Own.stable _ _ _)⟩
   refine pE [1000,1002] [1000] hre ?_;have F:=hk;exact gTP (R:=fun r pm=>∃ E',r=[.one (.lit (.int .i64 (k+(cntRows rows:Nat))))]∧pm=[.set E' (fun w=>Own w (.sl (Zah k rows)) E' (.slice a uss.length cap))]) [1000] ⟨E6,rfl,rfl⟩
theorem ZqB (n:Nat):∀ rows,ZbX rows < n->Zaj (Zae .term) rows->ZcS 43 rows:=by
 induction n with
 | zero=>exact fun _ h=>om
 | succ n ih =>
  intro rows hn hok;refine Ztn rows hok fun r hr i0 t1 i2 r3 he=>?_;subst he;obtain ⟨i,hi⟩:=Tbk hr;have h1:=Zcr hi;obtain ⟨_,_,_,_,he,_,_,_,g3⟩:=ZcA (hok.get hi);injection he with _ he;injection he with _ he;injection he with _ he;injection he with he _;injection he with he;subst he
  simp only [Zbe,Zdy] at h1;exact ih _ om g3
theorem ZcU {rows:List (List C)} (hok:Zaj (Zae .term) rows):ZcS 43 rows:=ZqB _ rows (Tan _) hok
def ZcT:Int->List C->List C
 | _,[]=>[]
 | k,.sl rows::cs=>.sl (Zah k rows)::ZcT (k+cntRows rows) cs
 | k,c::cs=>c::ZcT k cs
def cntTop:List C->Nat
 | []=>0
 | .sl rows::cs=>cntRows rows+cntTop cs
 | _::cs=>cntTop cs
def Zlx (f:FuncId) (row:List C):Prop:=∀ (k:Int) (E:Nat->Prop) (us:List Value),us.length=row.length->(Zaf us).all Zai=true->0<=k->k+cntTop row<=1000000000->ConP e0 f [.agg (Zaf us),.one (.lit (.int .i64 k))] [.set E (fun w=>Zag w row E us)] (fun r pm=>∃ E',r=[.one (.lit (.int .i64 (k+cntTop row)))]∧pm=[.set E' (fun w=>Zag w (ZcT k row) E' us)])
theorem Zso {E:Nat->Prop} {r:List C} {us:List Value} (hp:r.all ZdW=true):ZhA (ι:=Unit) [.set E (fun w=>Zag w r E us)] (fun _=>Zef r us) (fun _=>[.set E (fun w=>Zag w r E us)]):=fun w S h ha=>by
 obtain ⟨h1,h2,h3⟩:(∀ b,E b->b < w.heap.size∧¬ S b)∧Zag w r E us∧_:=h (.set E (fun w=>Zag w r E us)) (by simp);obtain ⟨Es,hl,_⟩:=ZgF (S:=S) hp h2 h1;exact ⟨(),hl,h,ha,fun _ h=>h⟩
theorem Zeg {E:Nat->Prop} {r:List C} {us:List Value} (hp:r.all ZdW=true):ZhA (ι:=Nat->Nat->Prop) [.set E (fun w=>Zag w r E us)] (fun _=>True) (fun i=>Zbb r us i):=fun w S h ha=>by
 obtain ⟨h1,h2,h3⟩:(∀ b,E b->b < w.heap.size∧¬ S b)∧Zag w r E us∧_:=h (.set E (fun w=>Zag w r E us)) (by simp);obtain ⟨Es,hl,q1,q2,q3⟩:=ZgF (S:=S) hp h2 h1;exact ⟨Es,trivial,q1,q2,fun g hg=>⟨_,Tas,q3 g hg⟩⟩
theorem Zeh {cs:List C} {us:List Value} {Es:Nat->Nat->Prop} (hp:cs.all ZdW=true) (hl:Zef cs us):ZaS (Zbb cs us Es) [.set (ZaY (Zbb cs us Es)) (fun w=>Zag w cs (ZaY (Zbb cs us Es)) us)]:=fun w S h ha=>by
 have hv:=Zag.of_cells (w:=w) (S:=S) hp hl h ha;refine ⟨fun x hx=>?_,ZdZ _,fun g ⟨x,hx,hg⟩=>?_⟩
 ·simp only [Tbg,List.not_mem_nil,or_false] at hx;subst hx;refine ⟨fun b ⟨y,hy,hg⟩=>?_,hv,Zag.stable _ _ _⟩;obtain ⟨E',G',rfl⟩:=Zfg y hy;exact (h _ hy).1 b hg
 ·simp only [Tbg,List.not_mem_nil,or_false] at hx;subst hx;exact hg
theorem ZiX {row:List C} (hok:Zak (Zae .term) row):Zlx 15 row:=by
 obtain ⟨i0,t1,i2,r3,rfl,_,_,_,g3⟩:=ZcA hok;intro k E us hl hc hk hb;obtain ⟨u0,u1,u2,u3,rfl⟩:=len4 hl;obtain ⟨k0,k1,k2,k3⟩:=okc4 hc;simp only [cntTop,Nat.add_zero] at hb ⊢;rw [ZdC];refine gIP (ts:=[.slot 4]) [1000] 23 Tryz.func15 ?_;refine pEx [1000] [1000] (Zso rfl) ?_;rintro ⟨⟩ ⟨rfl,rfl,rfl,_⟩;refine pEx (f:=fun (x:Nat->Nat->Prop)=>[.set (x 0) (fun w=>Own w (.sl r3) (x 0) u3)]) [1000] [1000] (Zeg rfl) ?_
 rintro Es -;refine fB (aj4 @k0 @k1 @k2 @k3) ?_;have F:=aj4 @k0 @k1 @k2 @k3;refine gCP [1000] [1000] (ZcU g3 k (Es 0) u3 hk hb) ?_;clear F;rintro r pm ⟨E5,rfl,rfl⟩;simp only [setA,retA,zipM,Taf,Tah];refine fR (aj4 @k0 @k1 @k2 @k3) ?_;refine fG (aj4 @k0 @k1 @k2 @k3) ?_
 obtain ⟨E6,hre⟩:∃ E6,ZaS [.set E5 (fun w=>Own w (.sl (Zah k r3)) E5 u3)] [.set E6 (fun w=>Zag w [.lit (.int .i64 i0),.lit (.string t1),.lit (.int .i64 i2),.sl (Zah k r3)] E6 [.int .i64 i0,.string t1,.int .i64 i2,u3])] :=
  ⟨_,Zeh (cs:=[.lit (.int .i64 i0),.lit (.string t1),.lit (.int .i64 i2),.sl (Zah k r3)]) (us:=[.int .i64 i0,.string t1,.int .i64 i2,u3]) (Es:=fun _=>E5) rfl ⟨rfl,rfl,rfl,trivial⟩⟩
 refine pE [1000] [1000] hre ?_;have F:=hk;exact gTP (R:=fun r pm=>∃ E',r=[.one (.lit (.int .i64 (k+(cntRows r3:Nat))))]∧pm=[.set E' (fun w=>Zag w (ZcT k [.lit (.int .i64 i0),.lit (.string t1),.lit (.int .i64 i2),.sl r3]) E' [.int .i64 i0,.string t1,.int .i64 i2,u3])]) [1000] ⟨E6,rfl,by simp only [ZcT];rfl⟩
def ZnZ (f:FuncId) (rows:List (List C)):Prop:=∀ (k:Int),0<=k->k+cntRows rows<=1000000000->Con e0 f [.one (.sl (Zah k rows)),.one (.lit (.int .i64 k))] [.one (.lit (.int .i64 (k+cntRows rows)))]
theorem Zly:∀ {rows:List (List C)} {i:Nat} {r:List C} (k:Int),rows[i]?=some r->(Zah k rows)[i]?=some (ZcR (k+cntRows (rows.take i)) r)
 | q::rows,0,r,k,h=>by simp at h;subst h;simp [Zah,cntRows]
 | q::rows,i+1,r,k,h=>by
  simp only [Tau] at h;simp only [Zah,Tau,Tbc,cntRows];rw [Zly _ h];congr 2;omega
 | [],_,_,_,h=>by simp at h
theorem ZAW {v:Value} {k:Int} (h:Zai (.lit v)=true):Zai (.lit (mkV k v))=true:=by
 cases v <;> first | rfl | exact h
theorem ZjW:∀ (cs:List C) (k:Int),cs.all Zai=true->(ZcR k cs).all Zai=true
 | [],_,_=>by simp [ZcR]
 | c::cs,k,h=>by
  simp only [List.all_cons,Tar] at h;simp only [ZcR,List.all_cons,Tar];refine ⟨?_,ZjW cs _ h.2⟩
  cases c with
  | lit v=>simp only [mkC];exact ZAW h.1
  | _=>simp [mkC,Zai]
theorem ZzS {n:Nat}:∀ {rows:List (List C)} (k:Int),rowsLen n rows->ZaC n (Zah k rows)=true
 | [],k,_=>by simp [Zah,ZaC]
 | r::rows,k,h=>by
  have h1:=h r Tas;have h2:=ZzS (k+Zcv r) (fun x hx=>h x (Tal _ hx):rowsLen n rows);unfold ZaC at h2 ⊢;simp only [Zah,List.all_cons,Tar];exact ⟨⟨by rw [Zm8,h1.1];exact beq_self_eq_true n,ZjW _ _ h1.2⟩,h2⟩
theorem Zto (rows:List (List C)) (hok:Zaj (Zae .term) rows) (hmx:rows.length<=1048576) (h:∀ r∈rows,∀ i0 t1 i2 r3,r=[.lit (.int .i64 i0),.lit (.string t1),.lit (.int .i64 i2),.sl r3]->ZnZ 44 r3):ZnZ 44 rows:=by
 intro k hk hb;have hrb:ZaC 4 (Zah k rows)=true:=ZzS k hok.rowsLen;have hml:=Zlw k rows;refine gI (ts:=[.slot 4]) 281612684362291 Tryz.func44 ?_;refine fG @e0P ?_;have F:=aj4 @ZcC @Zd1 @Int.add_zero @Int.natCast_zero;refine gL (ι:=Nat) [1,4,5,9,18,28,37,48] [] (fun x=>[(5,.d (.one (.lit (.int .i64 (x:Int))))),(1,.d (.one (.lit (.int .i64 (k+(cntRows (rows.take x):Nat))))))]) (fun x=>[]) (fun x=>x<=rows.length) (fun x=>rows.length - x) (0) (Taj _) (fun x hx=>?_);clear F
 by_cases hlt:x < rows.length
 ·obtain ⟨r,hr⟩:∃ r,rows[x]?=some r:=⟨_,Taa hlt⟩;obtain ⟨i0,t1,i2,r3,rfl,_,_,_,g3⟩:=ZcA (hok.get hr);have hm:=h _ (Tac hr) i0 t1 i2 r3 rfl;have hc1:cntRows (rows.take (x+1))=cntRows (rows.take x)+(3+cntRows r3):=by
   rw [ZbU hr,Zdc];simp only [Zcv,cntC];omega
  have hc2:=Zcf rows (x+1);have hg:=Zly k hr;simp only [ZcR,mkC,mkV,cntC,Int.natCast_one] at hg;have e5:k+(cntRows (rows.take (x+1)):Int)=k+(cntRows (rows.take x):Int)+1+1+1+(cntRows r3:Int):=by rw [hc1];omega
  have b1:k+(cntRows (rows.take x):Int)+3+cntRows r3<=1000000000:=om;have b0:0<=k+(cntRows (rows.take x):Int):=om;generalize k+(cntRows (rows.take x):Int)=kk at hg e5 b1 b0 ⊢;have q1:=lT x rows.length;have w1:IntKind.i64.wrap (kk+1)=kk+1:=IntWalk.i64_in _ om;have w2:IntKind.i64.wrap (kk+1+1)=kk+1+1:=IntWalk.i64_in _ om;have w3:IntKind.i64.wrap (kk+1+1+1)=kk+1+1+1:=IntWalk.i64_in _ om;have w4:IntKind.i64.wrap ((x:Int)+1)=(x:Int)+1:=IntWalk.i64_in _ om
  refine fB (aj6 @q1 @hml @hrb @hg @beq_self_eq_true.{0} @w1) ?_;refine fC (aj4 @q1 @hml @hrb @hg) (ZcJ (kk+1) om om) ?_;refine fR (aj5 @q1 @hml @hrb @hg @beq_self_eq_true.{0}) ?_;refine fB (aj8 @q1 @hml @hrb @hg @beq_self_eq_true.{0} @w1 @w2 @w3) ?_;refine fC (aj4 @q1 @hml @hrb @hg) (hm (kk+1+1+1) om om) ?_;refine fR @q1 ?_;have q5:(kk+1+1+1+(cntRows r3:Int) < 0)=False:=eq_false om;have F:=aj3 @q5 @w4 @e5;refine gG ?_;exact ⟨x+1,hlt,gw,gw,om⟩
 ·obtain rfl:x=rows.length:=by omega
  have q1:=lF rows.length rows.length;rw [Tap];exact fD (ai @q1 @hml)
theorem ZqC (n:Nat):∀ rows,ZbX rows < n->Zaj (Zae .term) rows->rows.length+bulkRows rows<=1048576->ZnZ 44 rows:=by
 induction n with
 | zero=>exact fun _ h=>om
 | succ n ih =>
  intro rows hn hok hB;refine Zto rows hok om fun r hr i0 t1 i2 r3 he=>?_;subst he;obtain ⟨i,hi⟩:=Tbk hr;have h1:=Zcr hi;have h2:=ZbF hi;obtain ⟨_,_,_,_,he,_,_,_,g3⟩:=ZcA (hok.get hi);injection he with _ he;injection he with _ he;injection he with _ he;injection he with he _;injection he with he;subst he
  simp only [Zbe,Zdy] at h1;simp only [bulkRow,ZaU] at h2;exact ih _ om g3 om
theorem Zns {rows:List (List C)} (hok:Zaj (Zae .term) rows) (hB:rows.length+bulkRows rows<=1048576):ZnZ 44 rows:=ZqC _ rows (Tan _) hok hB
theorem ZpF {row:List C} (hok:Zak (Zae .term) row) (hB:bulkRow row<=1048576) (k:Int) (hk:0<=k) (hb:k+cntTop row<=1000000000):Con e0 16 [.agg (ZcT k row),.one (.lit (.int .i64 k))] [.one (.lit (.int .i64 (k+cntTop row)))]:=by
 obtain ⟨i0,t1,i2,r3,rfl,_,_,_,g3⟩:=ZcA hok;simp only [cntTop,Nat.add_zero] at hb ⊢;simp only [bulkRow,ZaU] at hB;simp only [ZcT];have q5:(k+(cntRows r3:Int) < 0)=False:=eq_false om;refine gI (ts:=[.slot 4]) 1047 Tryz.func16 ?_;refine fB @e0P ?_;refine fC @q5 (Zns g3 om k hk hb) ?_;refine fR @q5 ?_;exact fD @q5
theorem Zlz {rows:List (List C)} (hok:Zaj (Zae .str) rows):ZcS 124 rows:=by
 intro k E v hk hb;refine gIP (ts:=[.slot 4]) [1000] 563 Tryz.func124 ?_;refine fG @e0P ?_;by_cases hne:rows=[]
 ·subst hne;refine pEx [1000] [1000] Zff ?_;rintro ⟨a,cap⟩ rfl;have F:=@hk;refine gL (ι:=Unit) [1,5,9] [] (fun x=>[(5,.d (.one (.lit (.int .i64 0)))),(1,.d (.one (.lit (.int .i64 k))))]) (fun x=>[]) (fun x=>True) (fun x=>0) (()) (trivial) (fun x hx=>?_);clear F;have q1:((0:Int) < 0)=False:=eq_false (by decide);have q2:((0:Int) < ((0:Nat):Int))=False:=eq_false (by decide);refine fG (ai @q1 @q2) ?_;have F:=hk
  refine gTP (R:=fun r pm=>∃ E',r=[.one (.lit (.int .i64 (k+(cntRows []:Nat))))]∧pm=[.set E' (fun w=>Own w (.sl (Zah k [])) E' (.slice a 0 cap))]) [1000] ⟨E,by simp only [cntRows,Int.natCast_zero,Int.add_zero];rfl,by simp only [Zah];rfl⟩
 ·have hrl:rowsLen 1 rows:=Zaj.rowsLen hok;refine pEx [1000] [1000,1001] (Zew hne hrl) ?_;rintro ⟨a,cap,ety,uss,E1⟩ ⟨rfl,hl,hmx⟩;simp only at hl ⊢;unfold maxLen at hmx;refine pE [] [1002] Zb3 ?_;have F:=aj4 @ZcC @Zd1 @Int.add_zero @Int.natCast_zero;refine gL (ι:=Nat × List (List Value) × (Nat->Prop) × (Nat->Prop)) [1,5,9] [1000,1001,1002] (fun x=>[(5,.d (.one (.lit (.int .i64 (x.1:Int))))),(1,.d (.one (.lit (.int .i64 (k+(cntRows (rows.take x.1):Nat))))))]) (fun x=>[(1000,.buf (some (a,cap)) ety 1 (x.2.1.map Zaf)),(1001,.set x.2.2.1 (fun w=>Zan w (rows.drop x.1) x.2.2.1 (x.2.1.drop x.1))),(1002,.set x.2.2.2 (fun w=>Zan w (Zah k (rows.take x.1)) x.2.2.2 (x.2.1.take x.1)))]) (fun x=>x.1<=rows.length∧x.2.1.length=rows.length) (fun x=>rows.length - x.1) ((0,uss,E1,fun _=>False)) (⟨Taj _,hl⟩) (fun x hx=>?_);clear F
  obtain ⟨i,us,E2,E3⟩:=x;obtain ⟨hi,hn⟩:=hx;simp only at hi hn;dsimp only;by_cases hlt:i < rows.length
  ·obtain ⟨r,hr⟩:∃ r,rows[i]?=some r:=⟨_,Taa hlt⟩;obtain ⟨u,hu⟩:∃ u,us[i]?=some u:=⟨_,Taa om⟩;obtain ⟨t0,rfl,g0⟩:=Zea (hok.get hr);have hc1:cntRows (rows.take (i+1))=cntRows (rows.take i)+(1):=by
    rw [ZbU hr,Zdc];simp only [Zcv,cntC];try omega
   have hc2:=Zcf rows (i+1);rw [ZbQ hr,ZbQ hu];refine pEx [1001] [1001] (Zex rfl) ?_;rintro ⟨⟩ hlit;obtain rfl:u=[.string t0]:=by
    match u,hlit with
    | [_],⟨rfl,_⟩=>rfl
   refine pEx (f:=fun (x:(Nat->Prop) × (Nat->Nat->Prop))=>[.set x.1 (fun w=>Zan w (rows.drop (i+1)) x.1 (us.drop (i+1)))]) [1001] [1001] (Zfh rfl) ?_;rintro ⟨E4,Es⟩ -;dsimp only;have hkk0:0<=k+(cntRows (rows.take i):Int):=om;have hkk1:k+(cntRows (rows.take i):Int)+((1:Nat):Int)<=1000000000:=om;generalize hkk:k+(cntRows (rows.take i):Int)=kk at hkk0 hkk1 ⊢;have q1:=lT i rows.length;have q2:i < rows.length:=hlt
   have hs:∀ X:List C,((us.map Zaf).set i X)[i]?=some X:=fun X=>Ze0 (by rw [Zau,hn];omega) X;have lr:Zaf [.string t0]=[.lit (.string t0)]:=rfl;have w0:IntKind.i64.wrap (kk+1)=kk+1:=IntWalk.i64_in _ om;have wi:IntKind.i64.wrap ((i:Int)+1)=(i:Int)+1:=IntWalk.i64_in _ om;refine fB (aj11 @q1 @hl @hn @hu @lr @Zau @ZaA @hs @w0 @q2 @ZaD) ?_;refine fC (aj11 @q1 @hl @hn @hu @lr @Zau @ZaA @hs @w0 @q2 @ZaD) (ZcJ (kk) om om) ?_
   refine fR (aj11 @q1 @hl @hn @hu @lr @Zau @ZaA @hs @w0 @q2 @ZaD) ?_;obtain ⟨E6,hre⟩:∃ E6,ZaS [.set E3 (fun w=>Zan w (Zah k (rows.take i)) E3 (us.take i))] [.set E6 (fun w=>Zan w (Zah k (rows.take (i+1))) E6 ((us.set i [.string (txt (kk))]).take (i+1)))]:=by
    have hz:=Zfi (E:=E3) (done:=Zah k (rows.take i)) (ud:=us.take i) (cs:=[.lit (.string (txt (kk)))]) (us:=[.string (txt (kk))]) (Es:=fun _ _=>False) rfl ⟨rfl,trivial⟩;rw [ZbU hr,Zcm,hkk,ZdR om];simp only [ZcR,mkC,mkV,cntC,Int.natCast_one];exact ⟨_,hz⟩
   refine pE [1002] [1002] hre ?_;have e1:((us.set i [.string (txt (kk))]).map Zaf)=(us.map Zaf).set i [.lit (.string (txt (kk)))]:=by rw [List.map_set];rfl
   have e2:=ZdS us i [.string (txt (kk))];have e5:k+(cntRows (rows.take (i+1)):Int)=kk+1:=by rw [hc1];omega
   have hn2:(us.set i [.string (txt (kk))]).length=rows.length:=by rw [ZaA,hn]
   generalize us.set i [.string (txt (kk))]=us2 at e1 e2 hn2 ⊢;rw [<- e1,<- e2];have F:=aj5 @wi @e5 @hl @w0 @hn;refine gG ?_;exact ⟨(i+1,us2,E4,E6),⟨hlt,hn2⟩,gw,gw,om⟩
  ·obtain rfl:i=rows.length:=by omega
   have q1:=lF rows.length rows.length;rw [Tap,List.take_of_length_le (Nat.le_of_eq hn)];refine fG (aj3 @q1 @hl @hn) ?_;obtain ⟨E6,hre⟩:∃ E6,ZaS [.buf (some (a,cap)) ety 1 (us.map Zaf),.set E3 (fun w=>Zan w (Zah k rows) E3 us)] [.set E6 (fun w=>Own w (.sl (Zah k rows)) E6 (.slice a uss.length cap))]:=by
    rw [hl,<- hn];exact ⟨_,ZbL (fun w h=>h) (Own.stable _ _ _)⟩
   refine pE [1000,1002] [1000] hre ?_;have F:=hk;exact gTP (R:=fun r pm=>∃ E',r=[.one (.lit (.int .i64 (k+(cntRows rows:Nat))))]∧pm=[.set E' (fun w=>Own w (.sl (Zah k rows)) E' (.slice a uss.length cap))]) [1000] ⟨E6,rfl,rfl⟩
theorem ZlA {rows:List (List C)} (hok:Zaj (Zae .str) rows):ZcS 124 rows:=Zlz hok
theorem ZpG {rows:List (List C)} (hok:Zaj (Zae .sub) rows):ZcS 125 rows:=by
 intro k E v hk hb;refine gIP (ts:=[.slot 4]) [1000] 563 Tryz.func125 ?_;refine fG @e0P ?_;by_cases hne:rows=[]
 ·subst hne;refine pEx [1000] [1000] Zff ?_;rintro ⟨a,cap⟩ rfl;have F:=@hk;refine gL (ι:=Unit) [1,5,9] [] (fun x=>[(5,.d (.one (.lit (.int .i64 0)))),(1,.d (.one (.lit (.int .i64 k))))]) (fun x=>[]) (fun x=>True) (fun x=>0) (()) (trivial) (fun x hx=>?_);clear F;have q1:((0:Int) < 0)=False:=eq_false (by decide);have q2:((0:Int) < ((0:Nat):Int))=False:=eq_false (by decide);refine fG (ai @q1 @q2) ?_;have F:=hk
  refine gTP (R:=fun r pm=>∃ E',r=[.one (.lit (.int .i64 (k+(cntRows []:Nat))))]∧pm=[.set E' (fun w=>Own w (.sl (Zah k [])) E' (.slice a 0 cap))]) [1000] ⟨E,by simp only [cntRows,Int.natCast_zero,Int.add_zero];rfl,by simp only [Zah];rfl⟩
 ·have hrl:rowsLen 2 rows:=Zaj.rowsLen hok;refine pEx [1000] [1000,1001] (Zew hne hrl) ?_;rintro ⟨a,cap,ety,uss,E1⟩ ⟨rfl,hl,hmx⟩;simp only at hl ⊢;unfold maxLen at hmx;refine pE [] [1002] Zb3 ?_;have F:=aj4 @ZcC @Zd1 @Int.add_zero @Int.natCast_zero;refine gL (ι:=Nat × List (List Value) × (Nat->Prop) × (Nat->Prop)) [1,5,9] [1000,1001,1002] (fun x=>[(5,.d (.one (.lit (.int .i64 (x.1:Int))))),(1,.d (.one (.lit (.int .i64 (k+(cntRows (rows.take x.1):Nat))))))]) (fun x=>[(1000,.buf (some (a,cap)) ety 2 (x.2.1.map Zaf)),(1001,.set x.2.2.1 (fun w=>Zan w (rows.drop x.1) x.2.2.1 (x.2.1.drop x.1))),(1002,.set x.2.2.2 (fun w=>Zan w (Zah k (rows.take x.1)) x.2.2.2 (x.2.1.take x.1)))]) (fun x=>x.1<=rows.length∧x.2.1.length=rows.length) (fun x=>rows.length - x.1) ((0,uss,E1,fun _=>False)) (⟨Taj _,hl⟩) (fun x hx=>?_);clear F
  obtain ⟨i,us,E2,E3⟩:=x;obtain ⟨hi,hn⟩:=hx;simp only at hi hn;dsimp only;by_cases hlt:i < rows.length
  ·obtain ⟨r,hr⟩:∃ r,rows[i]?=some r:=⟨_,Taa hlt⟩;obtain ⟨u,hu⟩:∃ u,us[i]?=some u:=⟨_,Taa om⟩;obtain ⟨i0,i1,rfl,g0,g1⟩:=ZgM (hok.get hr);have hc1:cntRows (rows.take (i+1))=cntRows (rows.take i)+(2):=by
    rw [ZbU hr,Zdc];simp only [Zcv,cntC];try omega
   have hc2:=Zcf rows (i+1);rw [ZbQ hr,ZbQ hu];refine pEx [1001] [1001] (Zex rfl) ?_;rintro ⟨⟩ hlit;obtain rfl:u=[.int .i64 i0,.int .i64 i1]:=by
    match u,hlit with
    | [_,_],⟨rfl,rfl,_⟩=>rfl
   refine pEx (f:=fun (x:(Nat->Prop) × (Nat->Nat->Prop))=>[.set x.1 (fun w=>Zan w (rows.drop (i+1)) x.1 (us.drop (i+1)))]) [1001] [1001] (Zfh rfl) ?_;rintro ⟨E4,Es⟩ -;dsimp only;have hkk0:0<=k+(cntRows (rows.take i):Int):=om;have hkk1:k+(cntRows (rows.take i):Int)+((2:Nat):Int)<=1000000000:=om;generalize hkk:k+(cntRows (rows.take i):Int)=kk at hkk0 hkk1 ⊢;have q1:=lT i rows.length;have q2:i < rows.length:=hlt
   have hs:∀ X:List C,((us.map Zaf).set i X)[i]?=some X:=fun X=>Ze0 (by rw [Zau,hn];omega) X;have lr:Zaf [.int .i64 i0,.int .i64 i1]=[.lit (.int .i64 i0),.lit (.int .i64 i1)]:=rfl;have w0:IntKind.i64.wrap (kk+1)=kk+1:=IntWalk.i64_in _ om;have w1:IntKind.i64.wrap (kk+1+1)=kk+1+1:=IntWalk.i64_in _ om;have wi:IntKind.i64.wrap ((i:Int)+1)=(i:Int)+1:=IntWalk.i64_in _ om;refine fN 3 (aj12 @q1 @hl @hn @hu @lr @Zau @ZaA @hs @w0 @w1 @q2 @ZaD) ?_
   obtain ⟨E6,hre⟩:∃ E6,ZaS [.set E3 (fun w=>Zan w (Zah k (rows.take i)) E3 (us.take i))] [.set E6 (fun w=>Zan w (Zah k (rows.take (i+1))) E6 ((us.set i [.int .i64 (kk),.int .i64 (kk+1)]).take (i+1)))]:=by
    have hz:=Zfi (E:=E3) (done:=Zah k (rows.take i)) (ud:=us.take i) (cs:=[.lit (.int .i64 (kk)),.lit (.int .i64 (kk+1))]) (us:=[.int .i64 (kk),.int .i64 (kk+1)]) (Es:=fun _ _=>False) rfl ⟨rfl,rfl,trivial⟩;rw [ZbU hr,Zcm,hkk,ZdR om];simp only [ZcR,mkC,mkV,cntC,Int.natCast_one];exact ⟨_,hz⟩
   refine pE [1002] [1002] hre ?_;have e1:((us.set i [.int .i64 (kk),.int .i64 (kk+1)]).map Zaf)=(us.map Zaf).set i [.lit (.int .i64 (kk)),.lit (.int .i64 (kk+1))]:=by rw [List.map_set];rfl
   have e2:=ZdS us i [.int .i64 (kk),.int .i64 (kk+1)];have e5:k+(cntRows (rows.take (i+1)):Int)=kk+1+1:=by rw [hc1];omega
   have hn2:(us.set i [.int .i64 (kk),.int .i64 (kk+1)]).length=rows.length:=by rw [ZaA,hn]
   generalize us.set i [.int .i64 (kk),.int .i64 (kk+1)]=us2 at e1 e2 hn2 ⊢;rw [<- e1,<- e2];have F:=aj6 @wi @e5 @hl @w0 @w1 @hn;refine gG ?_;exact ⟨(i+1,us2,E4,E6),⟨hlt,hn2⟩,gw,gw,om⟩
  ·obtain rfl:i=rows.length:=by omega
   have q1:=lF rows.length rows.length;rw [Tap,List.take_of_length_le (Nat.le_of_eq hn)];refine fG (aj3 @q1 @hl @hn) ?_;obtain ⟨E6,hre⟩:∃ E6,ZaS [.buf (some (a,cap)) ety 2 (us.map Zaf),.set E3 (fun w=>Zan w (Zah k rows) E3 us)] [.set E6 (fun w=>Own w (.sl (Zah k rows)) E6 (.slice a uss.length cap))]:=by
    rw [hl,<- hn];exact ⟨_,ZbL (fun w h=>h) (Own.stable _ _ _)⟩
   refine pE [1000,1002] [1000] hre ?_;have F:=hk;exact gTP (R:=fun r pm=>∃ E',r=[.one (.lit (.int .i64 (k+(cntRows rows:Nat))))]∧pm=[.set E' (fun w=>Own w (.sl (Zah k rows)) E' (.slice a uss.length cap))]) [1000] ⟨E6,rfl,rfl⟩
theorem ZpH {rows:List (List C)} (hok:Zaj (Zae .sub) rows):ZcS 125 rows:=ZpG hok
theorem Znt {row:List C} (hok:Zak (ZbW) row):Zlx 74 row:=by
 obtain ⟨r0,r1,rfl,g0,g1⟩:=Zfv hok;intro kk E us hl hc hk hb;obtain ⟨u0,u1,rfl⟩:=len2 hl;have kc:Zai (.lit u0)=true∧Zai (.lit u1)=true:=by simpa [Zaf,Tar,and_assoc] using hc
 obtain ⟨k0,k1⟩:=kc;simp only [cntTop,Nat.add_zero] at hb ⊢;have lr:Zaf [u0,u1]=[.lit u0,.lit u1]:=rfl;rw [lr];refine gIP (ts:=[.slot 4]) [1000] 23 Tryz.func74 ?_;refine pEx (f:=fun (x:Nat->Nat->Prop)=>[.set (x 0) (fun w=>Own w (.sl r0) (x 0) u0),.set (x 1) (fun w=>Own w (.sl r1) (x 1) u1)]) [1000] [1003,1004] (Zeg rfl) ?_;rintro Es -
 try dsimp only
 refine fB (aj3 @lr @k0 @k1) ?_;have F:=aj3 @lr @k0 @k1;refine gCP [1003] [1003] (ZlA g0 (kk) (Es 0) u0 om om) ?_;clear F;rintro r pm ⟨F0,rfl,rfl⟩;simp only [setA,retA,zipM,Taf,Tah];refine fR (aj3 @lr @k0 @k1) ?_;refine fB (aj3 @lr @k0 @k1) ?_;have F:=aj3 @lr @k0 @k1;refine gCP [1004] [1004] (ZpH g1 (kk+(cntRows r0:Int)) (Es 1) u1 om om) ?_;clear F;rintro r pm ⟨F1,rfl,rfl⟩;simp only [setA,retA,zipM,Taf,Tah]
 refine fR (aj3 @lr @k0 @k1) ?_;refine fG (aj3 @lr @k0 @k1) ?_;obtain ⟨E6,hre⟩:∃ E6,ZaS [.set F0 (fun w=>Own w (.sl (Zah (kk) r0)) F0 u0),.set F1 (fun w=>Own w (.sl (Zah (kk+(cntRows r0:Int)) r1)) F1 u1)] [.set E6 (fun w=>Zag w [.sl (Zah (kk) r0),.sl (Zah (kk+(cntRows r0:Int)) r1)] E6 [u0,u1])]:=⟨_,Zeh (cs:=[.sl (Zah (kk) r0),.sl (Zah (kk+(cntRows r0:Int)) r1)]) (us:=[u0,u1]) (Es:=fun k=>match k with | 0=>F0 | _=>F1) rfl trivial⟩
 refine pE [1003,1004] [1000] hre ?_;have F:=hk;have ee:kk+(cntRows r0:Int)+(cntRows r1:Int)=kk+((cntRows r0+(cntRows r1):Nat):Int):=om;rw [ee];exact gTP (R:=fun r pm=>∃ E',r=[.one (.lit (.int .i64 (kk+((cntRows r0+(cntRows r1):Nat):Int))))]∧pm=[.set E' (fun w=>Zag w (ZcT kk [.sl r0,.sl r1]) E' [u0,u1])]) [1000] ⟨E6,rfl,by simp only [ZcT];rfl⟩
theorem Zsp (u0:Value):Zaf [u0]=[.lit u0]:=rfl
theorem Zxd {rows:List (List C)} (hok:Zaj (Zae .int) rows):ZcS 155 rows:=by
 intro k E v hk hb;refine gIP (ts:=[.slot 4]) [1000] 563 Tryz.func155 ?_;refine fG @e0P ?_;by_cases hne:rows=[]
 ·subst hne;refine pEx [1000] [1000] Zff ?_;rintro ⟨a,cap⟩ rfl;have F:=@hk;refine gL (ι:=Unit) [1,5,9] [] (fun x=>[(5,.d (.one (.lit (.int .i64 0)))),(1,.d (.one (.lit (.int .i64 k))))]) (fun x=>[]) (fun x=>True) (fun x=>0) (()) (trivial) (fun x hx=>?_);clear F;have q1:((0:Int) < 0)=False:=eq_false (by decide);have q2:((0:Int) < ((0:Nat):Int))=False:=eq_false (by decide);refine fG (ai @q1 @q2) ?_;have F:=hk
  refine gTP (R:=fun r pm=>∃ E',r=[.one (.lit (.int .i64 (k+(cntRows []:Nat))))]∧pm=[.set E' (fun w=>Own w (.sl (Zah k [])) E' (.slice a 0 cap))]) [1000] ⟨E,by simp only [cntRows,Int.natCast_zero,Int.add_zero];rfl,by simp only [Zah];rfl⟩
 ·have hrl:rowsLen 1 rows:=Zaj.rowsLen hok;refine pEx [1000] [1000,1001] (Zew hne hrl) ?_;rintro ⟨a,cap,ety,uss,E1⟩ ⟨rfl,hl,hmx⟩;simp only at hl ⊢;unfold maxLen at hmx;refine pE [] [1002] Zb3 ?_;have F:=aj4 @ZcC @Zd1 @Int.add_zero @Int.natCast_zero;refine gL (ι:=Nat × List (List Value) × (Nat->Prop) × (Nat->Prop)) [1,5,9] [1000,1001,1002] (fun x=>[(5,.d (.one (.lit (.int .i64 (x.1:Int))))),(1,.d (.one (.lit (.int .i64 (k+(cntRows (rows.take x.1):Nat))))))]) (fun x=>[(1000,.buf (some (a,cap)) ety 1 (x.2.1.map Zaf)),(1001,.set x.2.2.1 (fun w=>Zan w (rows.drop x.1) x.2.2.1 (x.2.1.drop x.1))),(1002,.set x.2.2.2 (fun w=>Zan w (Zah k (rows.take x.1)) x.2.2.2 (x.2.1.take x.1)))]) (fun x=>x.1<=rows.length∧x.2.1.length=rows.length) (fun x=>rows.length - x.1) ((0,uss,E1,fun _=>False)) (⟨Taj _,hl⟩) (fun x hx=>?_);clear F
  obtain ⟨i,us,E2,E3⟩:=x;obtain ⟨hi,hn⟩:=hx;simp only at hi hn;dsimp only;by_cases hlt:i < rows.length
  ·obtain ⟨r,hr⟩:∃ r,rows[i]?=some r:=⟨_,Taa hlt⟩;obtain ⟨u,hu⟩:∃ u,us[i]?=some u:=⟨_,Taa om⟩;obtain ⟨i0,rfl,_⟩:=ZgL (hok.get hr);have hc1:cntRows (rows.take (i+1))=cntRows (rows.take i)+1:=by
    rw [ZbU hr,Zdc];simp only [Zcv,cntC]
   have hc2:=Zcf rows (i+1);rw [ZbQ hr,ZbQ hu];refine pEx [1001] [1001] (Zex rfl) ?_;rintro ⟨⟩ hlit;obtain rfl:u=[.int .i64 i0]:=by
    match u,hlit with
    | [_],⟨rfl,_⟩=>rfl
   refine pEx (f:=fun (x:(Nat->Prop) × (Nat->Nat->Prop))=>[.set x.1 (fun w=>Zan w (rows.drop (i+1)) x.1 (us.drop (i+1)))]) [1001] [1001] (Zfh rfl) ?_;rintro ⟨E4,Es⟩ -;dsimp only;generalize hkk:k+(cntRows (rows.take i):Int)=kk;have q1:=lT i rows.length;have q2:i < rows.length:=hlt;have w1:IntKind.i64.wrap (kk+1)=kk+1:=IntWalk.i64_in _ om;have w4:IntKind.i64.wrap ((i:Int)+1)=(i:Int)+1:=IntWalk.i64_in _ om
   refine fN 3 (aj9 @q1 @hl @hn @hu @Zsp @Zau @ZaA @w1 @q2) ?_;obtain ⟨E6,hre⟩:∃ E6,ZaS [.set E3 (fun w=>Zan w (Zah k (rows.take i)) E3 (us.take i))] [.set E6 (fun w=>Zan w (Zah k (rows.take (i+1))) E6 ((us.set i [.int .i64 kk]).take (i+1)))]:=by
    have hz:=Zfi (E:=E3) (done:=Zah k (rows.take i)) (ud:=us.take i) (cs:=[.lit (.int .i64 kk)]) (us:=[.int .i64 kk]) (Es:=fun _ _=>False) rfl ⟨rfl,trivial⟩;rw [ZbU hr,Zcm,hkk,ZdR om];simp only [ZcR,mkC,mkV];exact ⟨_,hz⟩
   refine pE [1002] [1002] hre ?_;have e1:((us.set i [.int .i64 kk]).map Zaf)=(us.map Zaf).set i [.lit (.int .i64 kk)]:=by rw [List.map_set,Zsp]
   have e2:=ZdS us i [.int .i64 kk];have e5:k+(cntRows (rows.take (i+1)):Int)=kk+1:=by rw [hc1];omega
   have hn2:(us.set i [.int .i64 kk]).length=rows.length:=by rw [ZaA,hn]
   generalize us.set i [.int .i64 kk]=us2 at e1 e2 hn2 ⊢;rw [<- e1,<- e2];have F:=aj3 @w4 @e5 @hl;refine gG ?_;exact ⟨(i+1,us2,E4,E6),⟨hlt,hn2⟩,gw,gw,om⟩
  ·obtain rfl:i=rows.length:=by omega
   have q1:=lF rows.length rows.length;rw [Tap,List.take_of_length_le (Nat.le_of_eq hn)];refine fG (aj3 @q1 @hl @hn) ?_;obtain ⟨E6,hre⟩:∃ E6,ZaS [.buf (some (a,cap)) ety 1 (us.map Zaf),.set E3 (fun w=>Zan w (Zah k rows) E3 us)] [.set E6 (fun w=>Own w (.sl (Zah k rows)) E6 (.slice a uss.length cap))]:=by
    rw [hl,<- hn];exact ⟨_,ZbL (fun w h=>h) (Own.stable _ _ _)⟩
   refine pE [1000,1002] [1000] hre ?_;have F:=hk;exact gTP (R:=fun r pm=>∃ E',r=[.one (.lit (.int .i64 (k+(cntRows rows:Nat))))]∧pm=[.set E' (fun w=>Own w (.sl (Zah k rows)) E' (.slice a uss.length cap))]) [1000] ⟨E6,rfl,rfl⟩
theorem ZpI {rows:List (List C)} (hok:Zaj (Zae .int) rows):ZcS 155 rows:=Zxd hok
theorem Znu {rows:List (List C)} (hok:Zaj (Zae .decl) rows):ZcS 126 rows:=by
 intro k E v hk hb;refine gIP (ts:=[.slot 4]) [1000] 563 Tryz.func126 ?_;refine fG @e0P ?_;by_cases hne:rows=[]
 ·subst hne;refine pEx [1000] [1000] Zff ?_;rintro ⟨a,cap⟩ rfl;have F:=@hk;refine gL (ι:=Unit) [1,5,9] [] (fun x=>[(5,.d (.one (.lit (.int .i64 0)))),(1,.d (.one (.lit (.int .i64 k))))]) (fun x=>[]) (fun x=>True) (fun x=>0) (()) (trivial) (fun x hx=>?_);clear F;have q1:((0:Int) < 0)=False:=eq_false (by decide);have q2:((0:Int) < ((0:Nat):Int))=False:=eq_false (by decide);refine fG (ai @q1 @q2) ?_;have F:=hk
  refine gTP (R:=fun r pm=>∃ E',r=[.one (.lit (.int .i64 (k+(cntRows []:Nat))))]∧pm=[.set E' (fun w=>Own w (.sl (Zah k [])) E' (.slice a 0 cap))]) [1000] ⟨E,by simp only [cntRows,Int.natCast_zero,Int.add_zero];rfl,by simp only [Zah];rfl⟩
 ·have hrl:rowsLen 2 rows:=Zaj.rowsLen hok;refine pEx [1000] [1000,1001] (Zew hne hrl) ?_;rintro ⟨a,cap,ety,uss,E1⟩ ⟨rfl,hl,hmx⟩;simp only at hl ⊢;unfold maxLen at hmx;refine pE [] [1002] Zb3 ?_;have F:=aj4 @ZcC @Zd1 @Int.add_zero @Int.natCast_zero;refine gL (ι:=Nat × List (List Value) × (Nat->Prop) × (Nat->Prop)) [1,5,9] [1000,1001,1002] (fun x=>[(5,.d (.one (.lit (.int .i64 (x.1:Int))))),(1,.d (.one (.lit (.int .i64 (k+(cntRows (rows.take x.1):Nat))))))]) (fun x=>[(1000,.buf (some (a,cap)) ety 2 (x.2.1.map Zaf)),(1001,.set x.2.2.1 (fun w=>Zan w (rows.drop x.1) x.2.2.1 (x.2.1.drop x.1))),(1002,.set x.2.2.2 (fun w=>Zan w (Zah k (rows.take x.1)) x.2.2.2 (x.2.1.take x.1)))]) (fun x=>x.1<=rows.length∧x.2.1.length=rows.length) (fun x=>rows.length - x.1) ((0,uss,E1,fun _=>False)) (⟨Taj _,hl⟩) (fun x hx=>?_);clear F
  obtain ⟨i,us,E2,E3⟩:=x;obtain ⟨hi,hn⟩:=hx;simp only at hi hn;dsimp only;by_cases hlt:i < rows.length
  ·obtain ⟨r,hr⟩:∃ r,rows[i]?=some r:=⟨_,Taa hlt⟩;obtain ⟨u,hu⟩:∃ u,us[i]?=some u:=⟨_,Taa om⟩;obtain ⟨r0,i1,rfl,g0,g1⟩:=Ze7 (hok.get hr);have hm0:=ZpI g0;have hc1:cntRows (rows.take (i+1))=cntRows (rows.take i)+(1+cntRows r0):=by
    rw [ZbU hr,Zdc];simp only [Zcv,cntC];try omega
   have hc2:=Zcf rows (i+1);rw [ZbQ hr,ZbQ hu];refine pEx [1001] [1001] (Zex rfl) ?_;rintro ⟨⟩ hlit;obtain ⟨u0,rfl⟩:∃ u0,u=[u0,.int .i64 i1]:=by
    match u,hlit with
    | [u0,_],⟨rfl,_⟩=>exact ⟨u0,rfl⟩
   refine pEx (f:=fun (x:(Nat->Prop) × (Nat->Nat->Prop))=>[.set x.1 (fun w=>Zan w (rows.drop (i+1)) x.1 (us.drop (i+1))),.set (x.2 0) (fun w=>Own w (.sl r0) (x.2 0) u0)]) [1001] [1001,1003] (Zfh rfl) ?_;rintro ⟨E4,Es⟩ -;dsimp only;have hkk0:0<=k+(cntRows (rows.take i):Int):=om;have hkk1:k+(cntRows (rows.take i):Int)+((1+cntRows r0:Nat):Int)<=1000000000:=om;generalize hkk:k+(cntRows (rows.take i):Int)=kk at hkk0 hkk1 ⊢
   have q1:=lT i rows.length;have q2:i < rows.length:=hlt;have hs:∀ X:List C,((us.map Zaf).set i X)[i]?=some X:=fun X=>Ze0 (by rw [Zau,hn];omega) X;have lr:Zaf [u0,.int .i64 i1]=[.lit (u0),.lit (.int .i64 i1)]:=rfl;have w1:IntKind.i64.wrap (kk+(cntRows r0:Int)+1)=kk+(cntRows r0:Int)+1:=IntWalk.i64_in _ om;have wi:IntKind.i64.wrap ((i:Int)+1)=(i:Int)+1:=IntWalk.i64_in _ om;refine fB (aj11 @q1 @hl @hn @hu @lr @Zau @ZaA @hs @w1 @q2 @ZaD) ?_
   have F:=aj11 @q1 @hl @hn @hu @lr @Zau @ZaA @hs @w1 @q2 @ZaD;refine gCP [1003] [1003] (hm0 (kk) (Es 0) u0 om om) ?_;clear F;rintro r pm ⟨F0,rfl,rfl⟩;simp only [setA,retA,zipM,Taf,Tah];refine fR (aj11 @q1 @hl @hn @hu @lr @Zau @ZaA @hs @w1 @q2 @ZaD) ?_;refine fN 3 (aj11 @q1 @hl @hn @hu @lr @Zau @ZaA @hs @w1 @q2 @ZaD) ?_;obtain ⟨E6,hre⟩:∃ E6,ZaS [.set E3 (fun w=>Zan w (Zah k (rows.take i)) E3 (us.take i)),.set F0 (fun w=>Own w (.sl (Zah (kk) r0)) F0 u0)] [.set E6 (fun w=>Zan w (Zah k (rows.take (i+1))) E6 ((us.set i [u0,.int .i64 (kk+(cntRows r0:Int))]).take (i+1)))]:=by
    have hz:=Zfi (E:=E3) (done:=Zah k (rows.take i)) (ud:=us.take i) (cs:=[.sl (Zah (kk) r0),.lit (.int .i64 (kk+(cntRows r0:Int)))]) (us:=[u0,.int .i64 (kk+(cntRows r0:Int))]) (Es:=fun _=>F0) rfl ⟨rfl,trivial⟩;rw [ZbU hr,Zcm,hkk,ZdR om];simp only [ZcR,mkC,mkV,cntC,Int.natCast_one];exact ⟨_,hz⟩
   refine pE [1002,1003] [1002] hre ?_;have e1:((us.set i [u0,.int .i64 (kk+(cntRows r0:Int))]).map Zaf)=(us.map Zaf).set i [.lit (u0),.lit (.int .i64 (kk+(cntRows r0:Int)))]:=by rw [List.map_set];rfl
   have e2:=ZdS us i [u0,.int .i64 (kk+(cntRows r0:Int))];have e5:k+(cntRows (rows.take (i+1)):Int)=kk+(cntRows r0:Int)+1:=by rw [hc1];omega
   have hn2:(us.set i [u0,.int .i64 (kk+(cntRows r0:Int))]).length=rows.length:=by rw [ZaA,hn]
   generalize us.set i [u0,.int .i64 (kk+(cntRows r0:Int))]=us2 at e1 e2 hn2 ⊢;rw [<- e1,<- e2];have F:=aj5 @wi @e5 @hl @w1 @hn;refine gG ?_;exact ⟨(i+1,us2,E4,E6),⟨hlt,hn2⟩,gw,gw,om⟩
  ·obtain rfl:i=rows.length:=by omega
   have q1:=lF rows.length rows.length;rw [Tap,List.take_of_length_le (Nat.le_of_eq hn)];refine fG (aj3 @q1 @hl @hn) ?_;obtain ⟨E6,hre⟩:∃ E6,ZaS [.buf (some (a,cap)) ety 2 (us.map Zaf),.set E3 (fun w=>Zan w (Zah k rows) E3 us)] [.set E6 (fun w=>Own w (.sl (Zah k rows)) E6 (.slice a uss.length cap))]:=by
    rw [hl,<- hn];exact ⟨_,ZbL (fun w h=>h) (Own.stable _ _ _)⟩
   refine pE [1000,1002] [1000] hre ?_;have F:=hk;exact gTP (R:=fun r pm=>∃ E',r=[.one (.lit (.int .i64 (k+(cntRows rows:Nat))))]∧pm=[.set E' (fun w=>Own w (.sl (Zah k rows)) E' (.slice a uss.length cap))]) [1000] ⟨E6,rfl,rfl⟩
theorem Znv {rows:List (List C)} (hok:Zaj (Zae .decl) rows):ZcS 126 rows:=Znu hok
theorem Zsq {k:Int} (h:0<=k):decide (k.tmod 3=0)=(k % 3==0):=by rw [Int.tmod_eq_emod_of_nonneg h,Bool.eq_iff_iff];simp
theorem ZqD {rows:List (List C)} (hok:Zaj (Zae .op) rows):ZcS 75 rows:=by
 intro k E v hk hb;refine gIP (ts:=[.slot 4]) [1000] 563 Tryz.func75 ?_;refine fG @e0P ?_;by_cases hne:rows=[]
 ·subst hne;refine pEx [1000] [1000] Zff ?_;rintro ⟨a,cap⟩ rfl;have F:=@hk;refine gL (ι:=Unit) [1,5,9] [] (fun x=>[(5,.d (.one (.lit (.int .i64 0)))),(1,.d (.one (.lit (.int .i64 k))))]) (fun x=>[]) (fun x=>True) (fun x=>0) (()) (trivial) (fun x hx=>?_);clear F;have q1:((0:Int) < 0)=False:=eq_false (by decide);have q2:((0:Int) < ((0:Nat):Int))=False:=eq_false (by decide);refine fG (ai @q1 @q2) ?_;have F:=hk
  refine gTP (R:=fun r pm=>∃ E',r=[.one (.lit (.int .i64 (k+(cntRows []:Nat))))]∧pm=[.set E' (fun w=>Own w (.sl (Zah k [])) E' (.slice a 0 cap))]) [1000] ⟨E,by simp only [cntRows,Int.natCast_zero,Int.add_zero];rfl,by simp only [Zah];rfl⟩
 ·have hrl:rowsLen 5 rows:=Zaj.rowsLen hok;refine pEx [1000] [1000,1001] (Zew hne hrl) ?_;rintro ⟨a,cap,ety,uss,E1⟩ ⟨rfl,hl,hmx⟩;simp only at hl ⊢;unfold maxLen at hmx;refine pE [] [1002] Zb3 ?_;have F:=aj4 @ZcC @Zd1 @Int.add_zero @Int.natCast_zero;refine gL (ι:=Nat × List (List Value) × (Nat->Prop) × (Nat->Prop)) [1,5,9] [1000,1001,1002] (fun x=>[(5,.d (.one (.lit (.int .i64 (x.1:Int))))),(1,.d (.one (.lit (.int .i64 (k+(cntRows (rows.take x.1):Nat))))))]) (fun x=>[(1000,.buf (some (a,cap)) ety 5 (x.2.1.map Zaf)),(1001,.set x.2.2.1 (fun w=>Zan w (rows.drop x.1) x.2.2.1 (x.2.1.drop x.1))),(1002,.set x.2.2.2 (fun w=>Zan w (Zah k (rows.take x.1)) x.2.2.2 (x.2.1.take x.1)))]) (fun x=>x.1<=rows.length∧x.2.1.length=rows.length) (fun x=>rows.length - x.1) ((0,uss,E1,fun _=>False)) (⟨Taj _,hl⟩) (fun x hx=>?_);clear F
  obtain ⟨i,us,E2,E3⟩:=x;obtain ⟨hi,hn⟩:=hx;simp only at hi hn;dsimp only;by_cases hlt:i < rows.length
  ·obtain ⟨r,hr⟩:∃ r,rows[i]?=some r:=⟨_,Taa hlt⟩;obtain ⟨u,hu⟩:∃ u,us[i]?=some u:=⟨_,Taa om⟩;obtain ⟨t0,r1,p2,p3,i4,rfl,g0,g1,g2,g3,g4⟩:=Zgq (hok.get hr);have hm1:=Znv g1;have hc1:cntRows (rows.take (i+1))=cntRows (rows.take i)+(4+cntRows r1):=by
    rw [ZbU hr,Zdc];simp only [Zcv,cntC];try omega
   have hc2:=Zcf rows (i+1);rw [ZbQ hr,ZbQ hu];refine pEx [1001] [1001] (Zex rfl) ?_;rintro ⟨⟩ hlit;obtain ⟨u1,rfl⟩:∃ u1,u=[.string t0,u1,.bool p2,.bool p3,.int .i64 i4]:=by
    match u,hlit with
    | [_,u1,_,_,_],⟨rfl,rfl,rfl,rfl,_⟩=>exact ⟨u1,rfl⟩
   refine pEx (f:=fun (x:(Nat->Prop) × (Nat->Nat->Prop))=>[.set x.1 (fun w=>Zan w (rows.drop (i+1)) x.1 (us.drop (i+1))),.set (x.2 0) (fun w=>Own w (.sl r1) (x.2 0) u1)]) [1001] [1001,1003] (Zfh rfl) ?_;rintro ⟨E4,Es⟩ -;dsimp only;have hkk0:0<=k+(cntRows (rows.take i):Int):=om;have hkk1:k+(cntRows (rows.take i):Int)+((4+cntRows r1:Nat):Int)<=1000000000:=om;generalize hkk:k+(cntRows (rows.take i):Int)=kk at hkk0 hkk1 ⊢
   have q1:=lT i rows.length;have q2:i < rows.length:=hlt;have hs:∀ X:List C,((us.map Zaf).set i X)[i]?=some X:=fun X=>Ze0 (by rw [Zau,hn];omega) X;have lr:Zaf [.string t0,u1,.bool p2,.bool p3,.int .i64 i4]=[.lit (.string t0),.lit (u1),.lit (.bool p2),.lit (.bool p3),.lit (.int .i64 i4)]:=rfl;have w0:IntKind.i64.wrap (kk+1)=kk+1:=IntWalk.i64_in _ om;have w2:IntKind.i64.wrap (kk+1+(cntRows r1:Int)+1)=kk+1+(cntRows r1:Int)+1:=IntWalk.i64_in _ om
   have b2:decide (((kk+1+(cntRows r1:Int)).tmod 3)=0)=((kk+1+(cntRows r1:Int)) % 3==0):=Zsq om;have w3:IntKind.i64.wrap (kk+1+(cntRows r1:Int)+1+1)=kk+1+(cntRows r1:Int)+1+1:=IntWalk.i64_in _ om;have b3:decide (((kk+1+(cntRows r1:Int)+1).tmod 3)=0)=((kk+1+(cntRows r1:Int)+1) % 3==0):=Zsq om;have w4:IntKind.i64.wrap (kk+1+(cntRows r1:Int)+1+1+1)=kk+1+(cntRows r1:Int)+1+1+1:=IntWalk.i64_in _ om;have wi:IntKind.i64.wrap ((i:Int)+1)=(i:Int)+1:=IntWalk.i64_in _ om
   refine fB (aj16 @q1 @hl @hn @hu @lr @Zau @ZaA @hs @w0 @w2 @b2 @w3 @b3 @w4 @q2 @ZaD) ?_;refine fC (aj16 @q1 @hl @hn @hu @lr @Zau @ZaA @hs @w0 @w2 @b2 @w3 @b3 @w4 @q2 @ZaD) (ZcJ (kk) om om) ?_;refine fR (aj16 @q1 @hl @hn @hu @lr @Zau @ZaA @hs @w0 @w2 @b2 @w3 @b3 @w4 @q2 @ZaD) ?_;refine fB (aj16 @q1 @hl @hn @hu @lr @Zau @ZaA @hs @w0 @w2 @b2 @w3 @b3 @w4 @q2 @ZaD) ?_;have F:=aj16 @q1 @hl @hn @hu @lr @Zau @ZaA @hs @w0 @w2 @b2 @w3 @b3 @w4 @q2 @ZaD;refine gCP [1003] [1003] (hm1 (kk+1) (Es 0) u1 om om) ?_;clear F
   rintro r pm ⟨F1,rfl,rfl⟩;simp only [setA,retA,zipM,Taf,Tah];refine fR (aj16 @q1 @hl @hn @hu @lr @Zau @ZaA @hs @w0 @w2 @b2 @w3 @b3 @w4 @q2 @ZaD) ?_;refine fN 3 (aj16 @q1 @hl @hn @hu @lr @Zau @ZaA @hs @w0 @w2 @b2 @w3 @b3 @w4 @q2 @ZaD) ?_;obtain ⟨E6,hre⟩:∃ E6,ZaS [.set E3 (fun w=>Zan w (Zah k (rows.take i)) E3 (us.take i)),.set F1 (fun w=>Own w (.sl (Zah (kk+1) r1)) F1 u1)] [.set E6 (fun w=>Zan w (Zah k (rows.take (i+1))) E6 ((us.set i [.string (txt (kk)),u1,.bool ((kk+1+(cntRows r1:Int)) % 3==0),.bool ((kk+1+(cntRows r1:Int)+1) % 3==0),.int .i64 (kk+1+(cntRows r1:Int)+1+1)]).take (i+1)))]:=by
    have hz:=Zfi (E:=E3) (done:=Zah k (rows.take i)) (ud:=us.take i) (cs:=[.lit (.string (txt (kk))),.sl (Zah (kk+1) r1),.lit (.bool ((kk+1+(cntRows r1:Int)) % 3==0)),.lit (.bool ((kk+1+(cntRows r1:Int)+1) % 3==0)),.lit (.int .i64 (kk+1+(cntRows r1:Int)+1+1))]) (us:=[.string (txt (kk)),u1,.bool ((kk+1+(cntRows r1:Int)) % 3==0),.bool ((kk+1+(cntRows r1:Int)+1) % 3==0),.int .i64 (kk+1+(cntRows r1:Int)+1+1)]) (Es:=fun _=>F1) rfl ⟨rfl,rfl,rfl,rfl,trivial⟩
    rw [ZbU hr,Zcm,hkk,ZdR om];simp only [ZcR,mkC,mkV,cntC,Int.natCast_one];exact ⟨_,hz⟩
   refine pE [1002,1003] [1002] hre ?_;have e1:((us.set i [.string (txt (kk)),u1,.bool ((kk+1+(cntRows r1:Int)) % 3==0),.bool ((kk+1+(cntRows r1:Int)+1) % 3==0),.int .i64 (kk+1+(cntRows r1:Int)+1+1)]).map Zaf)=(us.map Zaf).set i [.lit (.string (txt (kk))),.lit (u1),.lit (.bool ((kk+1+(cntRows r1:Int)) % 3==0)),.lit (.bool ((kk+1+(cntRows r1:Int)+1) % 3==0)),.lit (.int .i64 (kk+1+(cntRows r1:Int)+1+1))]:=by rw [List.map_set];rfl
   have e2:=ZdS us i [.string (txt (kk)),u1,.bool ((kk+1+(cntRows r1:Int)) % 3==0),.bool ((kk+1+(cntRows r1:Int)+1) % 3==0),.int .i64 (kk+1+(cntRows r1:Int)+1+1)];have e5:k+(cntRows (rows.take (i+1)):Int)=kk+1+(cntRows r1:Int)+1+1+1:=by rw [hc1];omega
   have hn2:(us.set i [.string (txt (kk)),u1,.bool ((kk+1+(cntRows r1:Int)) % 3==0),.bool ((kk+1+(cntRows r1:Int)+1) % 3==0),.int .i64 (kk+1+(cntRows r1:Int)+1+1)]).length=rows.length:=by rw [ZaA,hn]
   generalize us.set i [.string (txt (kk)),u1,.bool ((kk+1+(cntRows r1:Int)) % 3==0),.bool ((kk+1+(cntRows r1:Int)+1) % 3==0),.int .i64 (kk+1+(cntRows r1:Int)+1+1)]=us2 at e1 e2 hn2 ⊢;rw [<- e1,<- e2];have F:=aj10 @wi @e5 @hl @w0 @w2 @b2 @w3 @b3 @w4 @hn;refine gG ?_;exact ⟨(i+1,us2,E4,E6),⟨hlt,hn2⟩,gw,gw,om⟩
  ·obtain rfl:i=rows.length:=by omega
   have q1:=lF rows.length rows.length;rw [Tap,List.take_of_length_le (Nat.le_of_eq hn)];refine fG (aj3 @q1 @hl @hn) ?_;obtain ⟨E6,hre⟩:∃ E6,ZaS [.buf (some (a,cap)) ety 5 (us.map Zaf),.set E3 (fun w=>Zan w (Zah k rows) E3 us)] [.set E6 (fun w=>Own w (.sl (Zah k rows)) E6 (.slice a uss.length cap))]:=by
    rw [hl,<- hn];exact ⟨_,ZbL (fun w h=>h) (Own.stable _ _ _)⟩
   refine pE [1000,1002] [1000] hre ?_;have F:=hk;exact gTP (R:=fun r pm=>∃ E',r=[.one (.lit (.int .i64 (k+(cntRows rows:Nat))))]∧pm=[.set E' (fun w=>Own w (.sl (Zah k rows)) E' (.slice a uss.length cap))]) [1000] ⟨E6,rfl,rfl⟩
theorem ZqE {rows:List (List C)} (hok:Zaj (Zae .op) rows):ZcS 75 rows:=ZqD hok
theorem Zjr {row:List C} (hok:Zak (sigF) row):Zlx 40 row:=by
 obtain ⟨r0,r1,r2,rfl,g0,g1,g2⟩:=Zdh hok;intro kk E us hl hc hk hb;obtain ⟨u0,u1,u2,rfl⟩:=len3 hl;have kc:Zai (.lit u0)=true∧Zai (.lit u1)=true∧Zai (.lit u2)=true:=by simpa [Zaf,Tar,and_assoc] using hc
 obtain ⟨k0,k1,k2⟩:=kc;simp only [cntTop,Nat.add_zero] at hb ⊢;have lr:Zaf [u0,u1,u2]=[.lit u0,.lit u1,.lit u2]:=rfl;rw [lr];refine gIP (ts:=[.slot 4]) [1000] 23 Tryz.func40 ?_;refine pEx (f:=fun (x:Nat->Nat->Prop)=>[.set (x 0) (fun w=>Own w (.sl r0) (x 0) u0),.set (x 1) (fun w=>Own w (.sl r1) (x 1) u1),.set (x 2) (fun w=>Own w (.sl r2) (x 2) u2)]) [1000] [1003,1004,1005] (Zeg rfl) ?_;rintro Es -
 try dsimp only
 obtain ⟨G0,hre0⟩:∃ G,ZaS [.set (Es 0) (fun w=>Own w (.sl r0) (Es 0) u0),.set (Es 1) (fun w=>Own w (.sl r1) (Es 1) u1)] [.set G (fun w=>Zag w [.sl r0,.sl r1] G [u0,u1])]:=⟨_,Zeh (cs:=[.sl r0,.sl r1]) (us:=[u0,u1]) (Es:=fun k=>Es (k+0)) rfl trivial⟩;refine pE [1003,1004] [1003] hre0 ?_;have lr0:Zaf [u0,u1]=[.lit u0,.lit u1]:=rfl;have hm0:=Znt (row:=[.sl r0,.sl r1]) (Zfw g0 g1) (kk) G0 [u0,u1] rfl (by rw [lr0];simp only [List.all_cons,List.all_nil,k0,k1,Bool.and_self]) om (by simp only [cntTop];omega)
 rw [lr0] at hm0;simp only [cntTop,ZcT,Nat.add_zero,Int.natCast_add,<- Int.add_assoc] at hm0;refine fB (aj4 @lr @k0 @k1 @k2) ?_;have F:=aj4 @lr @k0 @k1 @k2;refine gCP [1003] [1003] (hm0) ?_;clear F;rintro r pm ⟨G0',rfl,rfl⟩;simp only [setA,retA,zipM,Taf,Tah];refine fR (aj4 @lr @k0 @k1 @k2) ?_;refine pEx (f:=fun (x:Nat->Nat->Prop)=>[.set (x 0) (fun w=>Own w (.sl (Zah (kk) r0)) (x 0) u0),.set (x 1) (fun w=>Own w (.sl (Zah (kk+(cntRows r0:Int)) r1)) (x 1) u1)]) [1003] [1003,1004] (Zeg (r:=[.sl (Zah (kk) r0),.sl (Zah (kk+(cntRows r0:Int)) r1)]) rfl) ?_
 rintro Fs0 -
 try dsimp only
 refine fB (aj4 @lr @k0 @k1 @k2) ?_;have F:=aj4 @lr @k0 @k1 @k2;refine gCP [1005] [1005] (ZqE g2 (kk+(cntRows r0:Int)+(cntRows r1:Int)) (Es 2) u2 om om) ?_;clear F;rintro r pm ⟨F2,rfl,rfl⟩;simp only [setA,retA,zipM,Taf,Tah];refine fR (aj4 @lr @k0 @k1 @k2) ?_;refine fG (aj4 @lr @k0 @k1 @k2) ?_;obtain ⟨E6,hre⟩:∃ E6,ZaS [.set (Fs0 0) (fun w=>Own w (.sl (Zah (kk) r0)) (Fs0 0) u0),.set (Fs0 1) (fun w=>Own w (.sl (Zah (kk+(cntRows r0:Int)) r1)) (Fs0 1) u1),.set F2 (fun w=>Own w (.sl (Zah (kk+(cntRows r0:Int)+(cntRows r1:Int)) r2)) F2 u2)] [.set E6 (fun w=>Zag w [.sl (Zah (kk) r0),.sl (Zah (kk+(cntRows r0:Int)) r1),.sl (Zah (kk+(cntRows r0:Int)+(cntRows r1:Int)) r2)] E6 [u0,u1,u2])]:=⟨_,Zeh (cs:=[.sl (Zah (kk) r0),.sl (Zah (kk+(cntRows r0:Int)) r1),.sl (Zah (kk+(cntRows r0:Int)+(cntRows r1:Int)) r2)]) (us:=[u0,u1,u2]) (Es:=fun k=>match k with | 0=>Fs0 0 | 1=>Fs0 1 | _=>F2) rfl trivial⟩
 refine pE [1003,1004,1005] [1000] hre ?_;have F:=hk;have ee:kk+(cntRows r0:Int)+(cntRows r1:Int)+(cntRows r2:Int)=kk+((cntRows r0+(cntRows r1+(cntRows r2)):Nat):Int):=om;rw [ee];exact gTP (R:=fun r pm=>∃ E',r=[.one (.lit (.int .i64 (kk+((cntRows r0+(cntRows r1+(cntRows r2)):Nat):Int))))]∧pm=[.set E' (fun w=>Zag w (ZcT kk [.sl r0,.sl r1,.sl r2]) E' [u0,u1,u2])]) [1000] ⟨E6,rfl,by simp only [ZcT];rfl⟩
theorem ZiY {rows:List (List C)} (hok:Zaj (Zae .cond) rows):ZcS 77 rows:=by
 intro k E v hk hb;refine gIP (ts:=[.slot 4]) [1000] 563 Tryz.func77 ?_;refine fG @e0P ?_;by_cases hne:rows=[]
 ·subst hne;refine pEx [1000] [1000] Zff ?_;rintro ⟨a,cap⟩ rfl;have F:=@hk;refine gL (ι:=Unit) [1,5,9] [] (fun x=>[(5,.d (.one (.lit (.int .i64 0)))),(1,.d (.one (.lit (.int .i64 k))))]) (fun x=>[]) (fun x=>True) (fun x=>0) (()) (trivial) (fun x hx=>?_);clear F;have q1:((0:Int) < 0)=False:=eq_false (by decide);have q2:((0:Int) < ((0:Nat):Int))=False:=eq_false (by decide);refine fG (ai @q1 @q2) ?_;have F:=hk
  refine gTP (R:=fun r pm=>∃ E',r=[.one (.lit (.int .i64 (k+(cntRows []:Nat))))]∧pm=[.set E' (fun w=>Own w (.sl (Zah k [])) E' (.slice a 0 cap))]) [1000] ⟨E,by simp only [cntRows,Int.natCast_zero,Int.add_zero];rfl,by simp only [Zah];rfl⟩
 ·have hrl:rowsLen 8 rows:=Zaj.rowsLen hok;refine pEx [1000] [1000,1001] (Zew hne hrl) ?_;rintro ⟨a,cap,ety,uss,E1⟩ ⟨rfl,hl,hmx⟩;simp only at hl ⊢;unfold maxLen at hmx;refine pE [] [1002] Zb3 ?_;have F:=aj4 @ZcC @Zd1 @Int.add_zero @Int.natCast_zero;refine gL (ι:=Nat × List (List Value) × (Nat->Prop) × (Nat->Prop)) [1,5,9] [1000,1001,1002] (fun x=>[(5,.d (.one (.lit (.int .i64 (x.1:Int))))),(1,.d (.one (.lit (.int .i64 (k+(cntRows (rows.take x.1):Nat))))))]) (fun x=>[(1000,.buf (some (a,cap)) ety 8 (x.2.1.map Zaf)),(1001,.set x.2.2.1 (fun w=>Zan w (rows.drop x.1) x.2.2.1 (x.2.1.drop x.1))),(1002,.set x.2.2.2 (fun w=>Zan w (Zah k (rows.take x.1)) x.2.2.2 (x.2.1.take x.1)))]) (fun x=>x.1<=rows.length∧x.2.1.length=rows.length) (fun x=>rows.length - x.1) ((0,uss,E1,fun _=>False)) (⟨Taj _,hl⟩) (fun x hx=>?_);clear F
  obtain ⟨i,us,E2,E3⟩:=x;obtain ⟨hi,hn⟩:=hx;simp only at hi hn;dsimp only;by_cases hlt:i < rows.length
  ·obtain ⟨r,hr⟩:∃ r,rows[i]?=some r:=⟨_,Taa hlt⟩;obtain ⟨u,hu⟩:∃ u,us[i]?=some u:=⟨_,Taa om⟩;obtain ⟨i0,t1,i2,r3,i4,t5,i6,r7,rfl,g0,g1,g2,g3,g4,g5,g6,g7⟩:=Zdo (hok.get hr);have hm3:=ZcU g3;have hm7:=ZcU g7;have hc1:cntRows (rows.take (i+1))=cntRows (rows.take i)+(6+cntRows r3+cntRows r7):=by
    rw [ZbU hr,Zdc];simp only [Zcv,cntC];try omega
   have hc2:=Zcf rows (i+1);rw [ZbQ hr,ZbQ hu];refine pEx [1001] [1001] (Zex rfl) ?_;rintro ⟨⟩ hlit;obtain ⟨u3,u7,rfl⟩:∃ u3 u7,u=[.int .i64 i0,.string t1,.int .i64 i2,u3,.int .i64 i4,.string t5,.int .i64 i6,u7]:=by
    match u,hlit with
    | [_,_,_,u3,_,_,_,u7],⟨rfl,rfl,rfl,rfl,rfl,rfl,_⟩=>exact ⟨u3,u7,rfl⟩
   refine pEx (f:=fun (x:(Nat->Prop) × (Nat->Nat->Prop))=>[.set x.1 (fun w=>Zan w (rows.drop (i+1)) x.1 (us.drop (i+1))),.set (x.2 0) (fun w=>Own w (.sl r3) (x.2 0) u3),.set (x.2 1) (fun w=>Own w (.sl r7) (x.2 1) u7)]) [1001] [1001,1003,1004] (Zfh rfl) ?_;rintro ⟨E4,Es⟩ -;dsimp only;have hkk0:0<=k+(cntRows (rows.take i):Int):=om;have hkk1:k+(cntRows (rows.take i):Int)+((6+cntRows r3+cntRows r7:Nat):Int)<=1000000000:=om
   generalize hkk:k+(cntRows (rows.take i):Int)=kk at hkk0 hkk1 ⊢;have q1:=lT i rows.length;have q2:i < rows.length:=hlt;have hs:∀ X:List C,((us.map Zaf).set i X)[i]?=some X:=fun X=>Ze0 (by rw [Zau,hn];omega) X;have lr:Zaf [.int .i64 i0,.string t1,.int .i64 i2,u3,.int .i64 i4,.string t5,.int .i64 i6,u7]=[.lit (.int .i64 i0),.lit (.string t1),.lit (.int .i64 i2),.lit (u3),.lit (.int .i64 i4),.lit (.string t5),.lit (.int .i64 i6),.lit (u7)]:=rfl
   have w0:IntKind.i64.wrap (kk+1)=kk+1:=IntWalk.i64_in _ om;have w1:IntKind.i64.wrap (kk+1+1)=kk+1+1:=IntWalk.i64_in _ om;have w2:IntKind.i64.wrap (kk+1+1+1)=kk+1+1+1:=IntWalk.i64_in _ om;have w4:IntKind.i64.wrap (kk+1+1+1+(cntRows r3:Int)+1)=kk+1+1+1+(cntRows r3:Int)+1:=IntWalk.i64_in _ om;have w5:IntKind.i64.wrap (kk+1+1+1+(cntRows r3:Int)+1+1)=kk+1+1+1+(cntRows r3:Int)+1+1:=IntWalk.i64_in _ om
   have w6:IntKind.i64.wrap (kk+1+1+1+(cntRows r3:Int)+1+1+1)=kk+1+1+1+(cntRows r3:Int)+1+1+1:=IntWalk.i64_in _ om;have wi:IntKind.i64.wrap ((i:Int)+1)=(i:Int)+1:=IntWalk.i64_in _ om;refine fB (aj16 @q1 @hl @hn @hu @lr @Zau @ZaA @hs @w0 @w1 @w2 @w4 @w5 @w6 @q2 @ZaD) ?_;refine fC (aj16 @q1 @hl @hn @hu @lr @Zau @ZaA @hs @w0 @w1 @w2 @w4 @w5 @w6 @q2 @ZaD) (ZcJ (kk+1) om om) ?_;refine fR (aj16 @q1 @hl @hn @hu @lr @Zau @ZaA @hs @w0 @w1 @w2 @w4 @w5 @w6 @q2 @ZaD) ?_
   refine fB (aj16 @q1 @hl @hn @hu @lr @Zau @ZaA @hs @w0 @w1 @w2 @w4 @w5 @w6 @q2 @ZaD) ?_;have F:=aj16 @q1 @hl @hn @hu @lr @Zau @ZaA @hs @w0 @w1 @w2 @w4 @w5 @w6 @q2 @ZaD;refine gCP [1003] [1003] (hm3 (kk+1+1+1) (Es 0) u3 om om) ?_;clear F;rintro r pm ⟨F3,rfl,rfl⟩;simp only [setA,retA,zipM,Taf,Tah];refine fR (aj16 @q1 @hl @hn @hu @lr @Zau @ZaA @hs @w0 @w1 @w2 @w4 @w5 @w6 @q2 @ZaD) ?_;refine fB (aj16 @q1 @hl @hn @hu @lr @Zau @ZaA @hs @w0 @w1 @w2 @w4 @w5 @w6 @q2 @ZaD) ?_
   refine fC (aj16 @q1 @hl @hn @hu @lr @Zau @ZaA @hs @w0 @w1 @w2 @w4 @w5 @w6 @q2 @ZaD) (ZcJ (kk+1+1+1+(cntRows r3:Int)+1) om om) ?_;refine fR (aj16 @q1 @hl @hn @hu @lr @Zau @ZaA @hs @w0 @w1 @w2 @w4 @w5 @w6 @q2 @ZaD) ?_;refine fB (aj16 @q1 @hl @hn @hu @lr @Zau @ZaA @hs @w0 @w1 @w2 @w4 @w5 @w6 @q2 @ZaD) ?_;have F:=aj16 @q1 @hl @hn @hu @lr @Zau @ZaA @hs @w0 @w1 @w2 @w4 @w5 @w6 @q2 @ZaD;refine gCP [1004] [1004] (hm7 (kk+1+1+1+(cntRows r3:Int)+1+1+1) (Es 1) u7 om om) ?_;clear F
   rintro r pm ⟨F7,rfl,rfl⟩;simp only [setA,retA,zipM,Taf,Tah];refine fR (aj16 @q1 @hl @hn @hu @lr @Zau @ZaA @hs @w0 @w1 @w2 @w4 @w5 @w6 @q2 @ZaD) ?_;obtain ⟨E6,hre⟩:∃ E6,ZaS [.set E3 (fun w=>Zan w (Zah k (rows.take i)) E3 (us.take i)),.set F3 (fun w=>Own w (.sl (Zah (kk+1+1+1) r3)) F3 u3),.set F7 (fun w=>Own w (.sl (Zah (kk+1+1+1+(cntRows r3:Int)+1+1+1) r7)) F7 u7)] [.set E6 (fun w=>Zan w (Zah k (rows.take (i+1))) E6 ((us.set i [.int .i64 (kk),.string (txt (kk+1)),.int .i64 (kk+1+1),u3,.int .i64 (kk+1+1+1+(cntRows r3:Int)),.string (txt (kk+1+1+1+(cntRows r3:Int)+1)),.int .i64 (kk+1+1+1+(cntRows r3:Int)+1+1),u7]).take (i+1)))]:=by
    have hz:=Zfi (E:=E3) (done:=Zah k (rows.take i)) (ud:=us.take i) (cs:=[.lit (.int .i64 (kk)),.lit (.string (txt (kk+1))),.lit (.int .i64 (kk+1+1)),.sl (Zah (kk+1+1+1) r3),.lit (.int .i64 (kk+1+1+1+(cntRows r3:Int))),.lit (.string (txt (kk+1+1+1+(cntRows r3:Int)+1))),.lit (.int .i64 (kk+1+1+1+(cntRows r3:Int)+1+1)),.sl (Zah (kk+1+1+1+(cntRows r3:Int)+1+1+1) r7)]) (us:=[.int .i64 (kk),.string (txt (kk+1)),.int .i64 (kk+1+1),u3,.int .i64 (kk+1+1+1+(cntRows r3:Int)),.string (txt (kk+1+1+1+(cntRows r3:Int)+1)),.int .i64 (kk+1+1+1+(cntRows r3:Int)+1+1),u7]) (Es:=fun k=>match k with | 0=>F3 | _=>F7) rfl ⟨rfl,rfl,rfl,rfl,rfl,rfl,trivial⟩
    rw [ZbU hr,Zcm,hkk,ZdR om];simp only [ZcR,mkC,mkV,cntC,Int.natCast_one];exact ⟨_,hz⟩
   refine pE [1002,1003,1004] [1002] hre ?_;have e1:((us.set i [.int .i64 (kk),.string (txt (kk+1)),.int .i64 (kk+1+1),u3,.int .i64 (kk+1+1+1+(cntRows r3:Int)),.string (txt (kk+1+1+1+(cntRows r3:Int)+1)),.int .i64 (kk+1+1+1+(cntRows r3:Int)+1+1),u7]).map Zaf)=(us.map Zaf).set i [.lit (.int .i64 (kk)),.lit (.string (txt (kk+1))),.lit (.int .i64 (kk+1+1)),.lit (u3),.lit (.int .i64 (kk+1+1+1+(cntRows r3:Int))),.lit (.string (txt (kk+1+1+1+(cntRows r3:Int)+1))),.lit (.int .i64 (kk+1+1+1+(cntRows r3:Int)+1+1)),.lit (u7)]:=by rw [List.map_set];rfl
   have e2:=ZdS us i [.int .i64 (kk),.string (txt (kk+1)),.int .i64 (kk+1+1),u3,.int .i64 (kk+1+1+1+(cntRows r3:Int)),.string (txt (kk+1+1+1+(cntRows r3:Int)+1)),.int .i64 (kk+1+1+1+(cntRows r3:Int)+1+1),u7];have e5:k+(cntRows (rows.take (i+1)):Int)=kk+1+1+1+(cntRows r3:Int)+1+1+1+(cntRows r7:Int):=by rw [hc1];omega
   have hn2:(us.set i [.int .i64 (kk),.string (txt (kk+1)),.int .i64 (kk+1+1),u3,.int .i64 (kk+1+1+1+(cntRows r3:Int)),.string (txt (kk+1+1+1+(cntRows r3:Int)+1)),.int .i64 (kk+1+1+1+(cntRows r3:Int)+1+1),u7]).length=rows.length:=by rw [ZaA,hn]
   generalize us.set i [.int .i64 (kk),.string (txt (kk+1)),.int .i64 (kk+1+1),u3,.int .i64 (kk+1+1+1+(cntRows r3:Int)),.string (txt (kk+1+1+1+(cntRows r3:Int)+1)),.int .i64 (kk+1+1+1+(cntRows r3:Int)+1+1),u7]=us2 at e1 e2 hn2 ⊢;rw [<- e1,<- e2];have F:=aj10 @wi @e5 @hl @w0 @w1 @w2 @w4 @w5 @w6 @hn;refine gG ?_;exact ⟨(i+1,us2,E4,E6),⟨hlt,hn2⟩,gw,gw,om⟩
  ·obtain rfl:i=rows.length:=by omega
   have q1:=lF rows.length rows.length;rw [Tap,List.take_of_length_le (Nat.le_of_eq hn)];refine fG (aj3 @q1 @hl @hn) ?_;obtain ⟨E6,hre⟩:∃ E6,ZaS [.buf (some (a,cap)) ety 8 (us.map Zaf),.set E3 (fun w=>Zan w (Zah k rows) E3 us)] [.set E6 (fun w=>Own w (.sl (Zah k rows)) E6 (.slice a uss.length cap))]:=by
    rw [hl,<- hn];exact ⟨_,ZbL (fun w h=>h) (Own.stable _ _ _)⟩
   refine pE [1000,1002] [1000] hre ?_;have F:=hk;exact gTP (R:=fun r pm=>∃ E',r=[.one (.lit (.int .i64 (k+(cntRows rows:Nat))))]∧pm=[.set E' (fun w=>Own w (.sl (Zah k rows)) E' (.slice a uss.length cap))]) [1000] ⟨E6,rfl,rfl⟩
theorem ZiZ {rows:List (List C)} (hok:Zaj (Zae .cond) rows):ZcS 77 rows:=ZiY hok
theorem Zjs {rows:List (List C)} (hok:Zaj (Zae .eqn) rows):ZcS 41 rows:=by
 intro k E v hk hb;refine gIP (ts:=[.slot 4]) [1000] 563 Tryz.func41 ?_;refine fG @e0P ?_;by_cases hne:rows=[]
 ·subst hne;refine pEx [1000] [1000] Zff ?_;rintro ⟨a,cap⟩ rfl;have F:=@hk;refine gL (ι:=Unit) [1,5,9] [] (fun x=>[(5,.d (.one (.lit (.int .i64 0)))),(1,.d (.one (.lit (.int .i64 k))))]) (fun x=>[]) (fun x=>True) (fun x=>0) (()) (trivial) (fun x hx=>?_);clear F;have q1:((0:Int) < 0)=False:=eq_false (by decide);have q2:((0:Int) < ((0:Nat):Int))=False:=eq_false (by decide);refine fG (ai @q1 @q2) ?_;have F:=hk
  refine gTP (R:=fun r pm=>∃ E',r=[.one (.lit (.int .i64 (k+(cntRows []:Nat))))]∧pm=[.set E' (fun w=>Own w (.sl (Zah k [])) E' (.slice a 0 cap))]) [1000] ⟨E,by simp only [cntRows,Int.natCast_zero,Int.add_zero];rfl,by simp only [Zah];rfl⟩
 ·have hrl:rowsLen 9 rows:=Zaj.rowsLen hok;refine pEx [1000] [1000,1001] (Zew hne hrl) ?_;rintro ⟨a,cap,ety,uss,E1⟩ ⟨rfl,hl,hmx⟩;simp only at hl ⊢;unfold maxLen at hmx;refine pE [] [1002] Zb3 ?_;have F:=aj4 @ZcC @Zd1 @Int.add_zero @Int.natCast_zero;refine gL (ι:=Nat × List (List Value) × (Nat->Prop) × (Nat->Prop)) [1,5,9] [1000,1001,1002] (fun x=>[(5,.d (.one (.lit (.int .i64 (x.1:Int))))),(1,.d (.one (.lit (.int .i64 (k+(cntRows (rows.take x.1):Nat))))))]) (fun x=>[(1000,.buf (some (a,cap)) ety 9 (x.2.1.map Zaf)),(1001,.set x.2.2.1 (fun w=>Zan w (rows.drop x.1) x.2.2.1 (x.2.1.drop x.1))),(1002,.set x.2.2.2 (fun w=>Zan w (Zah k (rows.take x.1)) x.2.2.2 (x.2.1.take x.1)))]) (fun x=>x.1<=rows.length∧x.2.1.length=rows.length) (fun x=>rows.length - x.1) ((0,uss,E1,fun _=>False)) (⟨Taj _,hl⟩) (fun x hx=>?_);clear F
  obtain ⟨i,us,E2,E3⟩:=x;obtain ⟨hi,hn⟩:=hx;simp only at hi hn;dsimp only;by_cases hlt:i < rows.length
  ·obtain ⟨r,hr⟩:∃ r,rows[i]?=some r:=⟨_,Taa hlt⟩;obtain ⟨u,hu⟩:∃ u,us[i]?=some u:=⟨_,Taa om⟩;obtain ⟨i0,t1,i2,r3,i4,t5,i6,r7,r8,rfl,g0,g1,g2,g3,g4,g5,g6,g7,g8⟩:=ZdD (hok.get hr);have hm3:=ZcU g3;have hm7:=ZcU g7;have hm8:=ZiZ g8;have hc1:cntRows (rows.take (i+1))=cntRows (rows.take i)+(6+cntRows r3+cntRows r7+cntRows r8):=by
    rw [ZbU hr,Zdc];simp only [Zcv,cntC];try omega
   have hc2:=Zcf rows (i+1);rw [ZbQ hr,ZbQ hu];refine pEx [1001] [1001] (Zex rfl) ?_;rintro ⟨⟩ hlit;obtain ⟨u3,u7,u8,rfl⟩:∃ u3 u7 u8,u=[.int .i64 i0,.string t1,.int .i64 i2,u3,.int .i64 i4,.string t5,.int .i64 i6,u7,u8]:=by
    match u,hlit with
    | [_,_,_,u3,_,_,_,u7,u8],⟨rfl,rfl,rfl,rfl,rfl,rfl,_⟩=>exact ⟨u3,u7,u8,rfl⟩
   refine pEx (f:=fun (x:(Nat->Prop) × (Nat->Nat->Prop))=>[.set x.1 (fun w=>Zan w (rows.drop (i+1)) x.1 (us.drop (i+1))),.set (x.2 0) (fun w=>Own w (.sl r3) (x.2 0) u3),.set (x.2 1) (fun w=>Own w (.sl r7) (x.2 1) u7),.set (x.2 2) (fun w=>Own w (.sl r8) (x.2 2) u8)]) [1001] [1001,1003,1004,1005] (Zfh rfl) ?_;rintro ⟨E4,Es⟩ -;dsimp only;have hkk0:0<=k+(cntRows (rows.take i):Int):=om;have hkk1:k+(cntRows (rows.take i):Int)+((6+cntRows r3+cntRows r7+cntRows r8:Nat):Int)<=1000000000:=om
   generalize hkk:k+(cntRows (rows.take i):Int)=kk at hkk0 hkk1 ⊢;have q1:=lT i rows.length;have q2:i < rows.length:=hlt;have hs:∀ X:List C,((us.map Zaf).set i X)[i]?=some X:=fun X=>Ze0 (by rw [Zau,hn];omega) X;have lr:Zaf [.int .i64 i0,.string t1,.int .i64 i2,u3,.int .i64 i4,.string t5,.int .i64 i6,u7,u8]=[.lit (.int .i64 i0),.lit (.string t1),.lit (.int .i64 i2),.lit (u3),.lit (.int .i64 i4),.lit (.string t5),.lit (.int .i64 i6),.lit (u7),.lit (u8)]:=rfl
   have w0:IntKind.i64.wrap (kk+1)=kk+1:=IntWalk.i64_in _ om;have w1:IntKind.i64.wrap (kk+1+1)=kk+1+1:=IntWalk.i64_in _ om;have w2:IntKind.i64.wrap (kk+1+1+1)=kk+1+1+1:=IntWalk.i64_in _ om;have w4:IntKind.i64.wrap (kk+1+1+1+(cntRows r3:Int)+1)=kk+1+1+1+(cntRows r3:Int)+1:=IntWalk.i64_in _ om;have w5:IntKind.i64.wrap (kk+1+1+1+(cntRows r3:Int)+1+1)=kk+1+1+1+(cntRows r3:Int)+1+1:=IntWalk.i64_in _ om
   have w6:IntKind.i64.wrap (kk+1+1+1+(cntRows r3:Int)+1+1+1)=kk+1+1+1+(cntRows r3:Int)+1+1+1:=IntWalk.i64_in _ om;have wi:IntKind.i64.wrap ((i:Int)+1)=(i:Int)+1:=IntWalk.i64_in _ om;refine fB (aj16 @q1 @hl @hn @hu @lr @Zau @ZaA @hs @w0 @w1 @w2 @w4 @w5 @w6 @q2 @ZaD) ?_;refine fC (aj16 @q1 @hl @hn @hu @lr @Zau @ZaA @hs @w0 @w1 @w2 @w4 @w5 @w6 @q2 @ZaD) (ZcJ (kk+1) om om) ?_;refine fR (aj16 @q1 @hl @hn @hu @lr @Zau @ZaA @hs @w0 @w1 @w2 @w4 @w5 @w6 @q2 @ZaD) ?_
   refine fB (aj16 @q1 @hl @hn @hu @lr @Zau @ZaA @hs @w0 @w1 @w2 @w4 @w5 @w6 @q2 @ZaD) ?_;have F:=aj16 @q1 @hl @hn @hu @lr @Zau @ZaA @hs @w0 @w1 @w2 @w4 @w5 @w6 @q2 @ZaD;refine gCP [1003] [1003] (hm3 (kk+1+1+1) (Es 0) u3 om om) ?_;clear F;rintro r pm ⟨F3,rfl,rfl⟩;simp only [setA,retA,zipM,Taf,Tah];refine fR (aj16 @q1 @hl @hn @hu @lr @Zau @ZaA @hs @w0 @w1 @w2 @w4 @w5 @w6 @q2 @ZaD) ?_;refine fB (aj16 @q1 @hl @hn @hu @lr @Zau @ZaA @hs @w0 @w1 @w2 @w4 @w5 @w6 @q2 @ZaD) ?_
   refine fC (aj16 @q1 @hl @hn @hu @lr @Zau @ZaA @hs @w0 @w1 @w2 @w4 @w5 @w6 @q2 @ZaD) (ZcJ (kk+1+1+1+(cntRows r3:Int)+1) om om) ?_;refine fR (aj16 @q1 @hl @hn @hu @lr @Zau @ZaA @hs @w0 @w1 @w2 @w4 @w5 @w6 @q2 @ZaD) ?_;refine fB (aj16 @q1 @hl @hn @hu @lr @Zau @ZaA @hs @w0 @w1 @w2 @w4 @w5 @w6 @q2 @ZaD) ?_;have F:=aj16 @q1 @hl @hn @hu @lr @Zau @ZaA @hs @w0 @w1 @w2 @w4 @w5 @w6 @q2 @ZaD;refine gCP [1004] [1004] (hm7 (kk+1+1+1+(cntRows r3:Int)+1+1+1) (Es 1) u7 om om) ?_;clear F
   rintro r pm ⟨F7,rfl,rfl⟩;simp only [setA,retA,zipM,Taf,Tah];refine fR (aj16 @q1 @hl @hn @hu @lr @Zau @ZaA @hs @w0 @w1 @w2 @w4 @w5 @w6 @q2 @ZaD) ?_;refine fB (aj16 @q1 @hl @hn @hu @lr @Zau @ZaA @hs @w0 @w1 @w2 @w4 @w5 @w6 @q2 @ZaD) ?_;have F:=aj16 @q1 @hl @hn @hu @lr @Zau @ZaA @hs @w0 @w1 @w2 @w4 @w5 @w6 @q2 @ZaD;refine gCP [1005] [1005] (hm8 (kk+1+1+1+(cntRows r3:Int)+1+1+1+(cntRows r7:Int)) (Es 2) u8 om om) ?_;clear F
   rintro r pm ⟨F8,rfl,rfl⟩;simp only [setA,retA,zipM,Taf,Tah];refine fR (aj16 @q1 @hl @hn @hu @lr @Zau @ZaA @hs @w0 @w1 @w2 @w4 @w5 @w6 @q2 @ZaD) ?_;obtain ⟨E6,hre⟩:∃ E6,ZaS [.set E3 (fun w=>Zan w (Zah k (rows.take i)) E3 (us.take i)),.set F3 (fun w=>Own w (.sl (Zah (kk+1+1+1) r3)) F3 u3),.set F7 (fun w=>Own w (.sl (Zah (kk+1+1+1+(cntRows r3:Int)+1+1+1) r7)) F7 u7),.set F8 (fun w=>Own w (.sl (Zah (kk+1+1+1+(cntRows r3:Int)+1+1+1+(cntRows r7:Int)) r8)) F8 u8)] [.set E6 (fun w=>Zan w (Zah k (rows.take (i+1))) E6 ((us.set i [.int .i64 (kk),.string (txt (kk+1)),.int .i64 (kk+1+1),u3,.int .i64 (kk+1+1+1+(cntRows r3:Int)),.string (txt (kk+1+1+1+(cntRows r3:Int)+1)),.int .i64 (kk+1+1+1+(cntRows r3:Int)+1+1),u7,u8]).take (i+1)))]:=by
    have hz:=Zfi (E:=E3) (done:=Zah k (rows.take i)) (ud:=us.take i) (cs:=[.lit (.int .i64 (kk)),.lit (.string (txt (kk+1))),.lit (.int .i64 (kk+1+1)),.sl (Zah (kk+1+1+1) r3),.lit (.int .i64 (kk+1+1+1+(cntRows r3:Int))),.lit (.string (txt (kk+1+1+1+(cntRows r3:Int)+1))),.lit (.int .i64 (kk+1+1+1+(cntRows r3:Int)+1+1)),.sl (Zah (kk+1+1+1+(cntRows r3:Int)+1+1+1) r7),.sl (Zah (kk+1+1+1+(cntRows r3:Int)+1+1+1+(cntRows r7:Int)) r8)]) (us:=[.int .i64 (kk),.string (txt (kk+1)),.int .i64 (kk+1+1),u3,.int .i64 (kk+1+1+1+(cntRows r3:Int)),.string (txt (kk+1+1+1+(cntRows r3:Int)+1)),.int .i64 (kk+1+1+1+(cntRows r3:Int)+1+1),u7,u8]) (Es:=fun k=>match k with | 0=>F3 | 1=>F7 | _=>F8) rfl ⟨rfl,rfl,rfl,rfl,rfl,rfl,trivial⟩
    rw [ZbU hr,Zcm,hkk,ZdR om];simp only [ZcR,mkC,mkV,cntC,Int.natCast_one];exact ⟨_,hz⟩
   refine pE [1002,1003,1004,1005] [1002] hre ?_;have e1:((us.set i [.int .i64 (kk),.string (txt (kk+1)),.int .i64 (kk+1+1),u3,.int .i64 (kk+1+1+1+(cntRows r3:Int)),.string (txt (kk+1+1+1+(cntRows r3:Int)+1)),.int .i64 (kk+1+1+1+(cntRows r3:Int)+1+1),u7,u8]).map Zaf)=(us.map Zaf).set i [.lit (.int .i64 (kk)),.lit (.string (txt (kk+1))),.lit (.int .i64 (kk+1+1)),.lit (u3),.lit (.int .i64 (kk+1+1+1+(cntRows r3:Int))),.lit (.string (txt (kk+1+1+1+(cntRows r3:Int)+1))),.lit (.int .i64 (kk+1+1+1+(cntRows r3:Int)+1+1)),.lit (u7),.lit (u8)]:=by rw [List.map_set];rfl
   have e2:=ZdS us i [.int .i64 (kk),.string (txt (kk+1)),.int .i64 (kk+1+1),u3,.int .i64 (kk+1+1+1+(cntRows r3:Int)),.string (txt (kk+1+1+1+(cntRows r3:Int)+1)),.int .i64 (kk+1+1+1+(cntRows r3:Int)+1+1),u7,u8];have e5:k+(cntRows (rows.take (i+1)):Int)=kk+1+1+1+(cntRows r3:Int)+1+1+1+(cntRows r7:Int)+(cntRows r8:Int):=by rw [hc1];omega
   have hn2:(us.set i [.int .i64 (kk),.string (txt (kk+1)),.int .i64 (kk+1+1),u3,.int .i64 (kk+1+1+1+(cntRows r3:Int)),.string (txt (kk+1+1+1+(cntRows r3:Int)+1)),.int .i64 (kk+1+1+1+(cntRows r3:Int)+1+1),u7,u8]).length=rows.length:=by rw [ZaA,hn]
   generalize us.set i [.int .i64 (kk),.string (txt (kk+1)),.int .i64 (kk+1+1),u3,.int .i64 (kk+1+1+1+(cntRows r3:Int)),.string (txt (kk+1+1+1+(cntRows r3:Int)+1)),.int .i64 (kk+1+1+1+(cntRows r3:Int)+1+1),u7,u8]=us2 at e1 e2 hn2 ⊢;rw [<- e1,<- e2];have F:=aj10 @wi @e5 @hl @w0 @w1 @w2 @w4 @w5 @w6 @hn;refine gG ?_;exact ⟨(i+1,us2,E4,E6),⟨hlt,hn2⟩,gw,gw,om⟩
  ·obtain rfl:i=rows.length:=by omega
   have q1:=lF rows.length rows.length;rw [Tap,List.take_of_length_le (Nat.le_of_eq hn)];refine fG (aj3 @q1 @hl @hn) ?_;obtain ⟨E6,hre⟩:∃ E6,ZaS [.buf (some (a,cap)) ety 9 (us.map Zaf),.set E3 (fun w=>Zan w (Zah k rows) E3 us)] [.set E6 (fun w=>Own w (.sl (Zah k rows)) E6 (.slice a uss.length cap))]:=by
    rw [hl,<- hn];exact ⟨_,ZbL (fun w h=>h) (Own.stable _ _ _)⟩
   refine pE [1000,1002] [1000] hre ?_;have F:=hk;exact gTP (R:=fun r pm=>∃ E',r=[.one (.lit (.int .i64 (k+(cntRows rows:Nat))))]∧pm=[.set E' (fun w=>Own w (.sl (Zah k rows)) E' (.slice a uss.length cap))]) [1000] ⟨E6,rfl,rfl⟩
theorem ZfY {rows:List (List C)} (hok:Zaj (Zae .eqn) rows):ZcS 41 rows:=Zjs hok
theorem Zme {row:List C} (hok:Zak (Zbz) row):Zlx 13 row:=by
 obtain ⟨r0,r1,r2,r3,r4,rfl,g0,g1,g2,g3,g4⟩:=Zed hok;intro kk E us hl hc hk hb;obtain ⟨u0,u1,u2,u3,u4,rfl⟩:=len5 hl;have kc:Zai (.lit u0)=true∧Zai (.lit u1)=true∧Zai (.lit u2)=true∧Zai (.lit u3)=true∧Zai (.lit u4)=true:=by simpa [Zaf,Tar,and_assoc] using hc
 obtain ⟨k0,k1,k2,k3,k4⟩:=kc;simp only [cntTop,Nat.add_zero] at hb ⊢;have lr:Zaf [u0,u1,u2,u3,u4]=[.lit u0,.lit u1,.lit u2,.lit u3,.lit u4]:=rfl;rw [lr];refine gIP (ts:=[.slot 4]) [1000] 23 Tryz.func13 ?_;refine pEx (f:=fun (x:Nat->Nat->Prop)=>[.set (x 0) (fun w=>Own w (.sl r0) (x 0) u0),.set (x 1) (fun w=>Own w (.sl r1) (x 1) u1),.set (x 2) (fun w=>Own w (.sl r2) (x 2) u2),.set (x 3) (fun w=>Own w (.sl r3) (x 3) u3),.set (x 4) (fun w=>Own w (.sl r4) (x 4) u4)]) [1000] [1003,1004,1005,1006,1007] (Zeg rfl) ?_
 rintro Es -
 try dsimp only
 obtain ⟨G0,hre0⟩:∃ G,ZaS [.set (Es 0) (fun w=>Own w (.sl r0) (Es 0) u0),.set (Es 1) (fun w=>Own w (.sl r1) (Es 1) u1),.set (Es 2) (fun w=>Own w (.sl r2) (Es 2) u2)] [.set G (fun w=>Zag w [.sl r0,.sl r1,.sl r2] G [u0,u1,u2])]:=⟨_,Zeh (cs:=[.sl r0,.sl r1,.sl r2]) (us:=[u0,u1,u2]) (Es:=fun k=>Es (k+0)) rfl trivial⟩;refine pE [1003,1004,1005] [1003] hre0 ?_;have lr0:Zaf [u0,u1,u2]=[.lit u0,.lit u1,.lit u2]:=rfl
 have hm0:=Zjr (row:=[.sl r0,.sl r1,.sl r2]) (Zdi g0 g1 g2) (kk) G0 [u0,u1,u2] rfl (by rw [lr0];simp only [List.all_cons,List.all_nil,k0,k1,k2,Bool.and_self]) om (by simp only [cntTop];omega);rw [lr0] at hm0;simp only [cntTop,ZcT,Nat.add_zero,Int.natCast_add,<- Int.add_assoc] at hm0;refine fB (aj6 @lr @k0 @k1 @k2 @k3 @k4) ?_;have F:=aj6 @lr @k0 @k1 @k2 @k3 @k4;refine gCP [1003] [1003] (hm0) ?_;clear F
 rintro r pm ⟨G0',rfl,rfl⟩;simp only [setA,retA,zipM,Taf,Tah];refine fR (aj6 @lr @k0 @k1 @k2 @k3 @k4) ?_;refine pEx (f:=fun (x:Nat->Nat->Prop)=>[.set (x 0) (fun w=>Own w (.sl (Zah (kk) r0)) (x 0) u0),.set (x 1) (fun w=>Own w (.sl (Zah (kk+(cntRows r0:Int)) r1)) (x 1) u1),.set (x 2) (fun w=>Own w (.sl (Zah (kk+(cntRows r0:Int)+(cntRows r1:Int)) r2)) (x 2) u2)]) [1003] [1003,1004,1005] (Zeg (r:=[.sl (Zah (kk) r0),.sl (Zah (kk+(cntRows r0:Int)) r1),.sl (Zah (kk+(cntRows r0:Int)+(cntRows r1:Int)) r2)]) rfl) ?_
 rintro Fs0 -
 try dsimp only
 refine fB (aj6 @lr @k0 @k1 @k2 @k3 @k4) ?_;have F:=aj6 @lr @k0 @k1 @k2 @k3 @k4;refine gCP [1006] [1006] (ZfY g3 (kk+(cntRows r0:Int)+(cntRows r1:Int)+(cntRows r2:Int)) (Es 3) u3 om om) ?_;clear F;rintro r pm ⟨F3,rfl,rfl⟩;simp only [setA,retA,zipM,Taf,Tah];refine fR (aj6 @lr @k0 @k1 @k2 @k3 @k4) ?_;refine fB (aj6 @lr @k0 @k1 @k2 @k3 @k4) ?_;have F:=aj6 @lr @k0 @k1 @k2 @k3 @k4;refine gCP [1007] [1007] (ZfY g4 (kk+(cntRows r0:Int)+(cntRows r1:Int)+(cntRows r2:Int)+(cntRows r3:Int)) (Es 4) u4 om om) ?_;clear F
 rintro r pm ⟨F4,rfl,rfl⟩;simp only [setA,retA,zipM,Taf,Tah];refine fR (aj6 @lr @k0 @k1 @k2 @k3 @k4) ?_;refine fG (aj6 @lr @k0 @k1 @k2 @k3 @k4) ?_;obtain ⟨E6,hre⟩:∃ E6,ZaS [.set (Fs0 0) (fun w=>Own w (.sl (Zah (kk) r0)) (Fs0 0) u0),.set (Fs0 1) (fun w=>Own w (.sl (Zah (kk+(cntRows r0:Int)) r1)) (Fs0 1) u1),.set (Fs0 2) (fun w=>Own w (.sl (Zah (kk+(cntRows r0:Int)+(cntRows r1:Int)) r2)) (Fs0 2) u2),.set F3 (fun w=>Own w (.sl (Zah (kk+(cntRows r0:Int)+(cntRows r1:Int)+(cntRows r2:Int)) r3)) F3 u3),.set F4 (fun w=>Own w (.sl (Zah (kk+(cntRows r0:Int)+(cntRows r1:Int)+(cntRows r2:Int)+(cntRows r3:Int)) r4)) F4 u4)] [.set E6 (fun w=>Zag w [.sl (Zah (kk) r0),.sl (Zah (kk+(cntRows r0:Int)) r1),.sl (Zah (kk+(cntRows r0:Int)+(cntRows r1:Int)) r2),.sl (Zah (kk+(cntRows r0:Int)+(cntRows r1:Int)+(cntRows r2:Int)) r3),.sl (Zah (kk+(cntRows r0:Int)+(cntRows r1:Int)+(cntRows r2:Int)+(cntRows r3:Int)) r4)] E6 [u0,u1,u2,u3,u4])]:=⟨_,Zeh (cs:=[.sl (Zah (kk) r0),.sl (Zah (kk+(cntRows r0:Int)) r1),.sl (Zah (kk+(cntRows r0:Int)+(cntRows r1:Int)) r2),.sl (Zah (kk+(cntRows r0:Int)+(cntRows r1:Int)+(cntRows r2:Int)) r3),.sl (Zah (kk+(cntRows r0:Int)+(cntRows r1:Int)+(cntRows r2:Int)+(cntRows r3:Int)) r4)]) (us:=[u0,u1,u2,u3,u4]) (Es:=fun k=>match k with | 0=>Fs0 0 | 1=>Fs0 1 | 2=>Fs0 2 | 3=>F3 | _=>F4) rfl trivial⟩
 refine pE [1003,1004,1005,1006,1007] [1000] hre ?_;have F:=hk;have ee:kk+(cntRows r0:Int)+(cntRows r1:Int)+(cntRows r2:Int)+(cntRows r3:Int)+(cntRows r4:Int)=kk+((cntRows r0+(cntRows r1+(cntRows r2+(cntRows r3+(cntRows r4)))):Nat):Int):=om;rw [ee];exact gTP (R:=fun r pm=>∃ E',r=[.one (.lit (.int .i64 (kk+((cntRows r0+(cntRows r1+(cntRows r2+(cntRows r3+(cntRows r4)))):Nat):Int))))]∧pm=[.set E' (fun w=>Zag w (ZcT kk [.sl r0,.sl r1,.sl r2,.sl r3,.sl r4]) E' [u0,u1,u2,u3,u4])]) [1000] ⟨E6,rfl,by simp only [ZcT];rfl⟩
theorem Zko {rows:List (List C)} (hok:Zaj (Zae .pend) rows):ZcS 42 rows:=by
 intro k E v hk hb;refine gIP (ts:=[.slot 4]) [1000] 563 Tryz.func42 ?_;refine fG @e0P ?_;by_cases hne:rows=[]
 ·subst hne;refine pEx [1000] [1000] Zff ?_;rintro ⟨a,cap⟩ rfl;have F:=@hk;refine gL (ι:=Unit) [1,5,9] [] (fun x=>[(5,.d (.one (.lit (.int .i64 0)))),(1,.d (.one (.lit (.int .i64 k))))]) (fun x=>[]) (fun x=>True) (fun x=>0) (()) (trivial) (fun x hx=>?_);clear F;have q1:((0:Int) < 0)=False:=eq_false (by decide);have q2:((0:Int) < ((0:Nat):Int))=False:=eq_false (by decide);refine fG (ai @q1 @q2) ?_;have F:=hk
  refine gTP (R:=fun r pm=>∃ E',r=[.one (.lit (.int .i64 (k+(cntRows []:Nat))))]∧pm=[.set E' (fun w=>Own w (.sl (Zah k [])) E' (.slice a 0 cap))]) [1000] ⟨E,by simp only [cntRows,Int.natCast_zero,Int.add_zero];rfl,by simp only [Zah];rfl⟩
 ·have hrl:rowsLen 3 rows:=Zaj.rowsLen hok;refine pEx [1000] [1000,1001] (Zew hne hrl) ?_;rintro ⟨a,cap,ety,uss,E1⟩ ⟨rfl,hl,hmx⟩;simp only at hl ⊢;unfold maxLen at hmx;refine pE [] [1002] Zb3 ?_;have F:=aj4 @ZcC @Zd1 @Int.add_zero @Int.natCast_zero;refine gL (ι:=Nat × List (List Value) × (Nat->Prop) × (Nat->Prop)) [1,5,9] [1000,1001,1002] (fun x=>[(5,.d (.one (.lit (.int .i64 (x.1:Int))))),(1,.d (.one (.lit (.int .i64 (k+(cntRows (rows.take x.1):Nat))))))]) (fun x=>[(1000,.buf (some (a,cap)) ety 3 (x.2.1.map Zaf)),(1001,.set x.2.2.1 (fun w=>Zan w (rows.drop x.1) x.2.2.1 (x.2.1.drop x.1))),(1002,.set x.2.2.2 (fun w=>Zan w (Zah k (rows.take x.1)) x.2.2.2 (x.2.1.take x.1)))]) (fun x=>x.1<=rows.length∧x.2.1.length=rows.length) (fun x=>rows.length - x.1) ((0,uss,E1,fun _=>False)) (⟨Taj _,hl⟩) (fun x hx=>?_);clear F
  obtain ⟨i,us,E2,E3⟩:=x;obtain ⟨hi,hn⟩:=hx;simp only at hi hn;dsimp only;by_cases hlt:i < rows.length
  ·obtain ⟨r,hr⟩:∃ r,rows[i]?=some r:=⟨_,Taa hlt⟩;obtain ⟨u,hu⟩:∃ u,us[i]?=some u:=⟨_,Taa om⟩;obtain ⟨i0,r1,r2,rfl,g0,g1,g2⟩:=ZdU (hok.get hr);have hm1:=ZcU g1;have hm2:=ZcU g2;have hc1:cntRows (rows.take (i+1))=cntRows (rows.take i)+(1+cntRows r1+cntRows r2):=by
    rw [ZbU hr,Zdc];simp only [Zcv,cntC];try omega
   have hc2:=Zcf rows (i+1);rw [ZbQ hr,ZbQ hu];refine pEx [1001] [1001] (Zex rfl) ?_;rintro ⟨⟩ hlit;obtain ⟨u1,u2,rfl⟩:∃ u1 u2,u=[.int .i64 i0,u1,u2]:=by
    match u,hlit with
    | [_,u1,u2],⟨rfl,_⟩=>exact ⟨u1,u2,rfl⟩
   refine pEx (f:=fun (x:(Nat->Prop) × (Nat->Nat->Prop))=>[.set x.1 (fun w=>Zan w (rows.drop (i+1)) x.1 (us.drop (i+1))),.set (x.2 0) (fun w=>Own w (.sl r1) (x.2 0) u1),.set (x.2 1) (fun w=>Own w (.sl r2) (x.2 1) u2)]) [1001] [1001,1003,1004] (Zfh rfl) ?_;rintro ⟨E4,Es⟩ -;dsimp only;have hkk0:0<=k+(cntRows (rows.take i):Int):=om;have hkk1:k+(cntRows (rows.take i):Int)+((1+cntRows r1+cntRows r2:Nat):Int)<=1000000000:=om
   generalize hkk:k+(cntRows (rows.take i):Int)=kk at hkk0 hkk1 ⊢;have q1:=lT i rows.length;have q2:i < rows.length:=hlt;have hs:∀ X:List C,((us.map Zaf).set i X)[i]?=some X:=fun X=>Ze0 (by rw [Zau,hn];omega) X;have lr:Zaf [.int .i64 i0,u1,u2]=[.lit (.int .i64 i0),.lit (u1),.lit (u2)]:=rfl;have w0:IntKind.i64.wrap (kk+1)=kk+1:=IntWalk.i64_in _ om;have wi:IntKind.i64.wrap ((i:Int)+1)=(i:Int)+1:=IntWalk.i64_in _ om
   refine fB (aj11 @q1 @hl @hn @hu @lr @Zau @ZaA @hs @w0 @q2 @ZaD) ?_;have F:=aj11 @q1 @hl @hn @hu @lr @Zau @ZaA @hs @w0 @q2 @ZaD;refine gCP [1003] [1003] (hm1 (kk+1) (Es 0) u1 om om) ?_;clear F;rintro r pm ⟨F1,rfl,rfl⟩;simp only [setA,retA,zipM,Taf,Tah];refine fR (aj11 @q1 @hl @hn @hu @lr @Zau @ZaA @hs @w0 @q2 @ZaD) ?_;refine fB (aj11 @q1 @hl @hn @hu @lr @Zau @ZaA @hs @w0 @q2 @ZaD) ?_;have F:=aj11 @q1 @hl @hn @hu @lr @Zau @ZaA @hs @w0 @q2 @ZaD;refine gCP [1004] [1004] (hm2 (kk+1+(cntRows r1:Int)) (Es 1) u2 om om) ?_;clear F
   rintro r pm ⟨F2,rfl,rfl⟩;simp only [setA,retA,zipM,Taf,Tah];refine fR (aj11 @q1 @hl @hn @hu @lr @Zau @ZaA @hs @w0 @q2 @ZaD) ?_;obtain ⟨E6,hre⟩:∃ E6,ZaS [.set E3 (fun w=>Zan w (Zah k (rows.take i)) E3 (us.take i)),.set F1 (fun w=>Own w (.sl (Zah (kk+1) r1)) F1 u1),.set F2 (fun w=>Own w (.sl (Zah (kk+1+(cntRows r1:Int)) r2)) F2 u2)] [.set E6 (fun w=>Zan w (Zah k (rows.take (i+1))) E6 ((us.set i [.int .i64 (kk),u1,u2]).take (i+1)))]:=by
    have hz:=Zfi (E:=E3) (done:=Zah k (rows.take i)) (ud:=us.take i) (cs:=[.lit (.int .i64 (kk)),.sl (Zah (kk+1) r1),.sl (Zah (kk+1+(cntRows r1:Int)) r2)]) (us:=[.int .i64 (kk),u1,u2]) (Es:=fun k=>match k with | 0=>F1 | _=>F2) rfl ⟨rfl,trivial⟩;rw [ZbU hr,Zcm,hkk,ZdR om];simp only [ZcR,mkC,mkV,cntC,Int.natCast_one];exact ⟨_,hz⟩
   refine pE [1002,1003,1004] [1002] hre ?_;have e1:((us.set i [.int .i64 (kk),u1,u2]).map Zaf)=(us.map Zaf).set i [.lit (.int .i64 (kk)),.lit (u1),.lit (u2)]:=by rw [List.map_set];rfl
   have e2:=ZdS us i [.int .i64 (kk),u1,u2];have e5:k+(cntRows (rows.take (i+1)):Int)=kk+1+(cntRows r1:Int)+(cntRows r2:Int):=by rw [hc1];omega
   have hn2:(us.set i [.int .i64 (kk),u1,u2]).length=rows.length:=by rw [ZaA,hn]
   generalize us.set i [.int .i64 (kk),u1,u2]=us2 at e1 e2 hn2 ⊢;rw [<- e1,<- e2];have F:=aj5 @wi @e5 @hl @w0 @hn;refine gG ?_;exact ⟨(i+1,us2,E4,E6),⟨hlt,hn2⟩,gw,gw,om⟩
  ·obtain rfl:i=rows.length:=by omega
   have q1:=lF rows.length rows.length;rw [Tap,List.take_of_length_le (Nat.le_of_eq hn)];refine fG (aj3 @q1 @hl @hn) ?_;obtain ⟨E6,hre⟩:∃ E6,ZaS [.buf (some (a,cap)) ety 3 (us.map Zaf),.set E3 (fun w=>Zan w (Zah k rows) E3 us)] [.set E6 (fun w=>Own w (.sl (Zah k rows)) E6 (.slice a uss.length cap))]:=by
    rw [hl,<- hn];exact ⟨_,ZbL (fun w h=>h) (Own.stable _ _ _)⟩
   refine pE [1000,1002] [1000] hre ?_;have F:=hk;exact gTP (R:=fun r pm=>∃ E',r=[.one (.lit (.int .i64 (k+(cntRows rows:Nat))))]∧pm=[.set E' (fun w=>Own w (.sl (Zah k rows)) E' (.slice a uss.length cap))]) [1000] ⟨E6,rfl,rfl⟩
theorem Zkp {rows:List (List C)} (hok:Zaj (Zae .pend) rows):ZcS 42 rows:=Zko hok
theorem ZlB {row:List C} (hok:Zak (redF) row):Zlx 14 row:=by
 obtain ⟨i0,t1,i2,r3,r4,p5,i6,i7,rfl,g0,g1,g2,g3,g4,g5,g6,g7⟩:=ZdV hok;intro kk E us hl hc hk hb;obtain ⟨u0,u1,u2,u3,u4,u5,u6,u7,rfl⟩:=len8 hl;have kc:Zai (.lit u0)=true∧Zai (.lit u1)=true∧Zai (.lit u2)=true∧Zai (.lit u3)=true∧Zai (.lit u4)=true∧Zai (.lit u5)=true∧Zai (.lit u6)=true∧Zai (.lit u7)=true:=by simpa [Zaf,Tar,and_assoc] using hc
 obtain ⟨k0,k1,k2,k3,k4,k5,k6,k7⟩:=kc;simp only [cntTop,Nat.add_zero] at hb ⊢;have lr:Zaf [u0,u1,u2,u3,u4,u5,u6,u7]=[.lit u0,.lit u1,.lit u2,.lit u3,.lit u4,.lit u5,.lit u6,.lit u7]:=rfl;rw [lr];refine gIP (ts:=[.slot 4]) [1000] 23 Tryz.func14 ?_;refine pEx [1000] [1000] (Zso rfl) ?_;rintro ⟨⟩ hlit;obtain ⟨rfl,rfl,rfl,rfl,rfl,rfl,_⟩:=hlit;refine pEx (f:=fun (x:Nat->Nat->Prop)=>[.set (x 0) (fun w=>Own w (.sl r3) (x 0) u3),.set (x 1) (fun w=>Own w (.sl r4) (x 1) u4)]) [1000] [1003,1004] (Zeg rfl) ?_
 rintro Es -
 try dsimp only
 obtain ⟨G0,hre0⟩:∃ G,ZaS [.set (Es 0) (fun w=>Own w (.sl r3) (Es 0) u3)] [.set G (fun w=>Zag w [.lit (.int .i64 i0),.lit (.string t1),.lit (.int .i64 i2),.sl r3] G [.int .i64 i0,.string t1,.int .i64 i2,u3])]:=⟨_,Zeh (cs:=[.lit (.int .i64 i0),.lit (.string t1),.lit (.int .i64 i2),.sl r3]) (us:=[.int .i64 i0,.string t1,.int .i64 i2,u3]) (Es:=fun k=>Es (k+0)) rfl ⟨rfl,rfl,rfl,trivial⟩⟩;refine pE [1003] [1003] hre0 ?_
 have lr0:Zaf [.int .i64 i0,.string t1,.int .i64 i2,u3]=[.lit (.int .i64 i0),.lit (.string t1),.lit (.int .i64 i2),.lit (u3)]:=rfl;have hm0:=ZiX (row:=[.lit (.int .i64 i0),.lit (.string t1),.lit (.int .i64 i2),.sl r3]) (Zby g0 g1 g2 g3) (kk) G0 [.int .i64 i0,.string t1,.int .i64 i2,u3] rfl (by rw [lr0];simp only [List.all_cons,List.all_nil,k0,k1,k2,k3,Bool.and_self]) om (by simp only [cntTop];omega)
 rw [lr0] at hm0;simp only [cntTop,ZcT,Nat.add_zero,Int.natCast_add,<- Int.add_assoc] at hm0;refine fB (aj9 @lr @k0 @k1 @k2 @k3 @k4 @k5 @k6 @k7) ?_;have F:=aj9 @lr @k0 @k1 @k2 @k3 @k4 @k5 @k6 @k7;refine gCP [1003] [1003] (hm0) ?_;clear F;rintro r pm ⟨G0',rfl,rfl⟩;simp only [setA,retA,zipM,Taf,Tah];refine fR (aj9 @lr @k0 @k1 @k2 @k3 @k4 @k5 @k6 @k7) ?_;refine pEx (f:=fun (x:Nat->Nat->Prop)=>[.set (x 0) (fun w=>Own w (.sl (Zah (kk) r3)) (x 0) u3)]) [1003] [1003] (Zeg (r:=[.lit (.int .i64 i0),.lit (.string t1),.lit (.int .i64 i2),.sl (Zah (kk) r3)]) rfl) ?_
 rintro Fs0 -
 try dsimp only
 refine fB (aj9 @lr @k0 @k1 @k2 @k3 @k4 @k5 @k6 @k7) ?_;have F:=aj9 @lr @k0 @k1 @k2 @k3 @k4 @k5 @k6 @k7;refine gCP [1004] [1004] (Zkp g4 (kk+(cntRows r3:Int)) (Es 1) u4 om om) ?_;clear F;rintro r pm ⟨F4,rfl,rfl⟩;simp only [setA,retA,zipM,Taf,Tah];refine fR (aj9 @lr @k0 @k1 @k2 @k3 @k4 @k5 @k6 @k7) ?_;refine fG (aj9 @lr @k0 @k1 @k2 @k3 @k4 @k5 @k6 @k7) ?_;obtain ⟨E6,hre⟩:∃ E6,ZaS [.set (Fs0 0) (fun w=>Own w (.sl (Zah (kk) r3)) (Fs0 0) u3),.set (F4) (fun w=>Own w (.sl (Zah (kk+(cntRows r3:Int)) r4)) (F4) u4)] [.set E6 (fun w=>Zag w [.lit (.int .i64 i0),.lit (.string t1),.lit (.int .i64 i2),.sl (Zah (kk) r3),.sl (Zah (kk+(cntRows r3:Int)) r4),.lit (.bool p5),.lit (.int .i64 i6),.lit (.int .i64 i7)] E6 [.int .i64 i0,.string t1,.int .i64 i2,u3,u4,.bool p5,.int .i64 i6,.int .i64 i7])]:=⟨_,Zeh (cs:=[.lit (.int .i64 i0),.lit (.string t1),.lit (.int .i64 i2),.sl (Zah (kk) r3),.sl (Zah (kk+(cntRows r3:Int)) r4),.lit (.bool p5),.lit (.int .i64 i6),.lit (.int .i64 i7)]) (us:=[.int .i64 i0,.string t1,.int .i64 i2,u3,u4,.bool p5,.int .i64 i6,.int .i64 i7]) (Es:=fun k=>match k with | 0=>Fs0 0 | _=>F4) rfl ⟨rfl,rfl,rfl,rfl,rfl,rfl,trivial⟩⟩
 refine pE [1003,1004] [1000] hre ?_;have F:=hk;have ee:kk+(cntRows r3:Int)+(cntRows r4:Int)=kk+((cntRows r3+(cntRows r4):Nat):Int):=om;rw [ee];exact gTP (R:=fun r pm=>∃ E',r=[.one (.lit (.int .i64 (kk+((cntRows r3+(cntRows r4):Nat):Int))))]∧pm=[.set E' (fun w=>Zag w (ZcT kk [.lit (.int .i64 i0),.lit (.string t1),.lit (.int .i64 i2),.sl r3,.sl r4,.lit (.bool p5),.lit (.int .i64 i6),.lit (.int .i64 i7)]) E' [.int .i64 i0,.string t1,.int .i64 i2,u3,u4,.bool p5,.int .i64 i6,.int .i64 i7])]) [1000] ⟨E6,rfl,by simp only [ZcT,<- Int.add_assoc,Int.natCast_add];rfl⟩
theorem Zm9 (t:TN):(Zae t).length<=16:=by cases t <;> decide
mutual
theorem ZAp:∀ (f:F) (c:C),okC f c->cntC c<=1+16 * ZaU c
 | f,.lit v,_=>by simp only [cntC];omega
 | .sl t,.sl rows,h=>by
  have:=ZhW (Zae t) rows (Zm9 t) (by simpa [okC] using h);simp only [cntC,ZaU];omega
 | .int,.sl _,h=>by simp [okC] at h
 | .str,.sl _,h=>by simp [okC] at h
 | .bool,.sl _,h=>by simp [okC] at h
 | f,.ptr _,_=>by simp [cntC]
 | f,.fn _ _,_=>by simp [cntC]
theorem ZhW:∀ (fs:List F) (rows:List (List C)),fs.length<=16->Zaj fs rows->cntRows rows<=16 * (rows.length+bulkRows rows)
 | fs,[],_,_=>by simp [cntRows]
 | fs,r::rs,hl,h=>by
  simp only [Zaj] at h;have h1:=Zna fs r h.1;have h2:=ZhW fs rs hl h.2;simp only [cntRows,bulkRows,Tag];omega
theorem Zna:∀ (fs:List F) (cs:List C),Zak fs cs->Zcv cs<=fs.length+16 * bulkRow cs
 | [],[],_=>by simp [Zcv]
 | f::fs,c::cs,h=>by
  simp only [Zak] at h;have h1:=ZAp f c h.1;have h2:=Zna fs cs h.2;simp only [Zcv,bulkRow,Tag];omega
 | [],_::_,h=>by simp [Zak] at h
 | _::_,[],h=>by simp [Zak] at h
end
theorem ZgT:∀ (fs:List F) (cs:List C),Zak fs cs->cntTop cs<=16 * bulkRow cs
 | [],[],_=>by simp [cntTop]
 | f::fs,c::cs,h=>by
  simp only [Zak] at h;have h2:=ZgT fs cs h.2
  cases c with
  | lit v=>simp only [cntTop,bulkRow];omega
  | sl rows =>
   cases f with
   | sl t =>
    have:=ZhW (Zae t) rows (Zm9 t) (by simpa [okC] using h.1);simp only [cntTop,bulkRow,ZaU];omega
   | _=>simp [okC] at h
  | ptr _=>simp only [cntTop,bulkRow];omega
  | fn _ _=>simp only [cntTop,bulkRow];omega
 | [],_::_,h=>by simp [Zak] at h
 | _::_,[],h=>by simp [Zak] at h
theorem Zkq {us:List Value} {n:Nat} (h:us.length=n):(Zaf us).length=n∧(Zaf us).take n=Zaf us∧(Zaf us).drop n=[]:=by
 have hl:(Zaf us).length=n:=by unfold Zaf;rw [Tay];exact h
 exact ⟨hl,List.take_of_length_le (Nat.le_of_eq hl),List.drop_of_length_le (Nat.le_of_eq hl)⟩
inductive Seg
 | lits (us:List Value)
 | sl (E:Nat->Prop) (rows:List (List C)) (u:Value)
 | st (E:Nat->Prop) (cs:List C) (us:List Value)
def segB:List Seg->List Bk
 | []=>[]
 | .lits _::r=>segB r
 | .sl E rows u::r=>.set E (fun w=>Own w (.sl rows) E u)::segB r
 | .st E cs us::r=>.set E (fun w=>Zag w cs E us)::segB r
def segC:List Seg->List C
 | []=>[]
 | .lits us::r=>Zaf us++segC r
 | .sl _ rows _::r=>.sl rows::segC r
 | .st _ cs _::r=>cs++segC r
def segV:List Seg->List Value
 | []=>[]
 | .lits us::r=>us++segV r
 | .sl _ _ u::r=>u::segV r
 | .st _ _ us::r=>us++segV r
theorem Zag.app {w:World} {S S1 S2:Nat->Prop} {ds:List C} {vs:List Value} (h2:Zag w ds S2 vs) (i2:∀ x,S2 x->S x):∀ {cs:List C} {us:List Value} {S1:Nat->Prop},Zag w cs S1 us->(∀ x,S1 x->S x)->(∀ x,S1 x->S2 x->False)->Zag w (cs++ds) S (us++vs)
 | [],[],_,_,_,_=>Zag.keep (Tai _) ds S2 S vs (fun _ _=>rfl) i2 h2
 | c::cs,u::us,T,h,i1,hd=>by
  simp only [Zag] at h;obtain ⟨T1,T2,a1,a2,a3,a4,a5⟩:=h;have h3:Zag w (cs++ds) (fun x=>T2 x∨S2 x) (us++vs):=Zag.app (S:=fun x=>T2 x∨S2 x) (S1:=T2) h2 (fun _ h=>.inr h) a5 (fun _ h=>.inl h) fun x hx=>hd x (a2 x hx);exact Zag.cons T1 (fun x=>T2 x∨S2 x) a4 h3 (fun x hx=>i1 x (a1 x hx)) (fun x hx=>hx.elim (fun q=>i1 x (a2 x q)) (i2 x)) fun x hx hy=>hy.elim (a3 x hx) (hd x (a1 x hx))
 | [],_::_,_,h,_,_=>by simp [Zag] at h
 | _::_,[],_,h,_,_=>by simp [Zag] at h
theorem Zag.lits {w:World}:∀ {us:List Value},Zag w (Zaf us) (fun _=>False) us
 | []=>Zag.nil
 | u::us=>Zag.lit Zag.lits
theorem ZhX {w:World} {S:Nat->Prop}:∀ {ss:List Seg},(∀ x∈segB ss,Zb5 w S x)->Zcy (segB ss)->Zag w (segC ss) (ZaY (segB ss)) (segV ss)
 | [],_,_=>Zag.nil
 | .lits us::r,h,ha=>Zag.app (S1:=fun _=>False) (ZhX (ss:=r) h ha) (fun _ q=>q) Zag.lits (fun _ q=>q.elim) fun _ q=>q.elim
 | .sl E rows u::r,h,⟨a1,a2⟩=>Zag.cons E (ZaY (segB r)) (h _ Tas).2.1 (ZhX (fun x hx=>h x (Tal _ hx)) a2) (fun b q=>⟨_,Tas,q⟩) (fun b ⟨x,hx,q⟩=>⟨x,Tal _ hx,q⟩) fun b q ⟨x,hx,q2⟩=>a1 x hx b q q2
 | .st E cs us::r,h,⟨a1,a2⟩=>Zag.app (S1:=E) (ZhX (fun x hx=>h x (Tal _ hx)) a2) (fun b ⟨x,hx,q⟩=>⟨x,Tal _ hx,q⟩) (h _ Tas).2.1 (fun b q=>⟨_,Tas,q⟩) fun b q ⟨x,hx,q2⟩=>a1 x hx b q q2
theorem ZhY:∀ {ss:List Seg} {y:Bk},y∈segB ss->∃ E G,y=.set E G
 | .lits _::r,y,h=>ZhY (ss:=r) h
 | .sl _ _ _::r,y,h=>by
  rcases Tbg.1 h with rfl | h
  ·exact ⟨_,_,rfl⟩
  ·exact ZhY h
 | .st _ _ _::r,y,h=>by
  rcases Tbg.1 h with rfl | h
  ·exact ⟨_,_,rfl⟩
  ·exact ZhY h
 | [],_,h=>by cases h
theorem ZdF (ss:List Seg):ZaS (segB ss) [.set (ZaY (segB ss)) (fun w=>Zag w (segC ss) (ZaY (segB ss)) (segV ss))]:=fun w S h ha=>by
 have hv:=ZhX (w:=w) (S:=S) h ha;refine ⟨fun x hx=>?_,ZdZ _,fun g ⟨x,hx,hg⟩=>?_⟩
 ·simp only [Tbg,List.not_mem_nil,or_false] at hx;subst hx;refine ⟨fun b ⟨y,hy,hg⟩=>?_,hv,Zag.stable _ _ _⟩;obtain ⟨E',G',rfl⟩:=ZhY hy;exact (h _ hy).1 b hg
 ·simp only [Tbg,List.not_mem_nil,or_false] at hx;subst hx;exact hg
theorem Zey {α:Type} (A:List α) (z x:α) (k:Nat) (i:Nat) (hi:i=A.length):(A++List.replicate (k+1) z).set i x=(A++[x])++List.replicate k z:=by
 subst hi;rw [List.set_append_right _ _ (Tai _),Nat.sub_self,List.replicate_succ,List.set_cons_zero,Tbf];rfl
theorem tks {α:Type} {l:List α} {i:Nat} {x:α} (h:l[i]?=some x):l.take (i+1)=l.take i++[x]:=by simp [List.take_add_one,h]
theorem tk0 (l:List (List C)):l.take 0=[]:=rfl
theorem nla (l:List (List C)):[]++l=l:=rfl
theorem ZzT (u:Value):Zaf [u]=[.lit u]:=rfl
theorem Zca {e:Env} {f:FuncId} {rows:List (List C)} {post r:List D} (hb:Zb9 e.P f=true) (h:rows.length<=maxLen->Con e f (.one (.sl rows)::post) r):Con e f (.one (.sl rows)::post) r:=⟨hb,fun w S vs hS hE hG hv=>by
 match vs,hv with
 | v::vs,⟨h1,h2⟩ =>
  have h1':Rep w S (.sl rows) v:=h1;obtain ⟨A,n,cap,rfl,hn,hc,hm⟩:=h1'.form;exact (h om).2 w S _ hS hE hG ⟨h1,h2⟩⟩
theorem Zei:bulkRows []=0:=by simp [bulkRows]
def Zn0:F->Bool
 | .int=>true
 | .bool=>true
 | _=>false
theorem ZAX {fs:List F}:∀ {r:List C},fs.all Zn0=true->Zak fs r->bulkRow r=0:=by
 induction fs with
 | nil=>intro r _ h;cases r with
  | nil=>simp [bulkRow]
  | cons _ _=>simp [Zak] at h
 | cons f fs ih =>
  intro r hf h
  cases r with
  | nil=>simp [Zak] at h
  | cons c cs =>
   simp only [Zak] at h;simp only [List.all_cons,Tar] at hf;have h2:=ih hf.2 h.2
   cases f with
   | int=>obtain ⟨n,rfl,_⟩:=ZbO h.1;simp [bulkRow,ZaU,h2]
   | bool=>obtain ⟨n,rfl⟩:=Zhp h.1;simp [bulkRow,ZaU,h2]
   | str=>simp [Zn0] at hf
   | sl t=>simp [Zn0] at hf
theorem Ztp {fs:List F} (hf:fs.all Zn0=true):∀ {rows:List (List C)},Zaj fs rows->bulkRows rows=0
 | [],_=>Zei
 | r::rs,h=>by
  simp only [Zaj] at h;simp [bulkRows,ZAX hf h.1,Ztp hf h.2]
theorem Zh8 {row:List C} (hok:Zak (Zae .term) row) (HTerm:∀ (rows:List (List C)),ZbX rows < Zbe row->Zaj (Zae .term) rows->∀ {left:Int},0<=left->left<=1048576->Con e0 48 [.one (.sl rows),.one (.lit (.int .i64 left))] [.one (.lit (.int .i64 (sub left (rows.length+bulkRows rows))))]) {left:Int} (h0:0<=left) (h1:left<=1048576):Con e0 19 [.agg row,.one (.lit (.int .i64 left))] [.one (.lit (.int .i64 (sub left (bulkRow row))))]:=by
 obtain ⟨i0,t1,i2,r3,rfl,g0,g1,g2,g3⟩:=ZcA hok;rw [show bulkRow [.lit (.int .i64 i0),.lit (.string t1),.lit (.int .i64 i2),.sl r3]=t1.size+(r3.length+bulkRows r3) by simp only [bulkRow,ZaU];omega];refine gI 133143 Tryz.func19 ?_;have hs:=g1;unfold maxLen at hs;have w:IntKind.i64.wrap (left - (t1.size:Int))=left - (t1.size:Int):=IntWalk.i64_in _ om;clear hs;by_cases q:left < (t1.size:Int)
 ·rw [Zay om];have q':(left - (t1.size:Int) < 0)=True:=eq_true om;exact fT (ai @w @q')
 have q':(left - (t1.size:Int) < 0)=False:=eq_false om;refine fG (ai @w @q') ?_;obtain ⟨L0,e0⟩:∃ x,x=left - (t1.size:Int):=⟨_,rfl⟩;rw [<- e0];clear w q';refine fB @e0P ?_;refine fC @e0P (HTerm r3 (by simp only [Zbe,Zdy];omega) g3 (left:=L0) om om) ?_;refine fR @e0P ?_;by_cases q:L0 < (((r3.length+bulkRows r3):Nat):Int)
 ·rw [Zay (b:=(r3.length+bulkRows r3)) q]
  try rw [Zay om]
  have q':=lT (-1) 0;exact fT @q'
 rw [ZaP (b:=(r3.length+bulkRows r3)) om];have q':(L0 - (((r3.length+bulkRows r3):Nat):Int) < 0)=False:=eq_false om;refine fG @q' ?_;obtain ⟨L1,e1⟩:∃ x,x=L0 - (((r3.length+bulkRows r3):Nat):Int):=⟨_,rfl⟩;rw [<- e1];clear q'
 try rw [ZaP om,show left - ((t1.size+(r3.length+bulkRows r3):Nat):Int)=L1 by omega]
 exact fT @e0P
theorem Zh9 {row:List C} (hok:Zak (Zae .term) row) (HTerm:∀ (rows:List (List C)),ZbX rows < Zbe row->Zaj (Zae .term) rows->Con e0 36 [.one (.sl rows),.one (.sl rows)] [.one (.lit (.bool true))]):Con e0 10 [.agg row,.agg row] [.one (.lit (.bool true))]:=by
 obtain ⟨i0,t1,i2,r3,rfl,g0,g1,g2,g3⟩:=ZcA hok;refine gI 34095647 Tryz.func10 ?_;refine fB (@beq_self_eq_true.{0}) ?_;refine fC @e0P (HTerm r3 (by simp only [Zbe,Zdy];omega) g3) ?_;refine fR @e0P ?_;exact fT (@beq_self_eq_true.{0})
theorem Zhm {row:List C} (hok:Zak (Zae .term) row) (HTerm:∀ (rows:List (List C)),ZbX rows < Zbe row->Zaj (Zae .term) rows->rows.length+bulkRows rows<=1048576->ConP e0 58 [.one (.sl rows)] [] (ZbZ rows)) (hb:bulkRow row<=1048576):ConP e0 28 [.agg row] [] (Za8 row):=by
 obtain ⟨i0,t1,i2,r3,rfl,g0,g1,g2,g3⟩:=ZcA hok;simp only [bulkRow,ZaU] at hb;refine gIP (ts:=[.cell 2 42]) [] 15 Tryz.func28 ?_;refine fB @e0P ?_;have F:=@e0P;refine gCP [] [1000] (HTerm r3 (by simp only [Zbe,Zdy];omega) g3 om) ?_;clear F;rintro r pm ⟨u3,E3,rfl,k3,rfl⟩;simp only [setA,retA,zipM,Taf,Tah];refine fR @k3 ?_;refine fG @k3 ?_;obtain ⟨E,hre⟩:∃ E,ZaS [.set E3 (fun w=>Own w (.sl r3) E3 u3)] [.set E (fun w=>Zag w [.lit (.int .i64 i0),.lit (.string t1),.lit (.int .i64 i2),.sl r3] E [.int .i64 i0,.string t1,.int .i64 i2,u3])]:=⟨_,ZdF [.lits [.int .i64 i0,.string t1,.int .i64 i2],.sl E3 r3 u3]⟩
 refine pE [1000] [1000] hre ?_;have hm:=Za8.mk (row:=[.lit (.int .i64 i0),.lit (.string t1),.lit (.int .i64 i2),.sl r3]) (us:=[.int .i64 i0,.string t1,.int .i64 i2,u3]) (E:=E) rfl (by simp only [Zaf,Tbq,List.map_nil,List.all_cons,List.all_nil,Bool.and_true,Tar];exact ⟨rfl,rfl,rfl,k3⟩);exact (have F:=e0P;gTP (R:=Za8 [.lit (.int .i64 i0),.lit (.string t1),.lit (.int .i64 i2),.sl r3]) [1000] hm)
theorem Zmf {rows:List (List C)} (hok:Zaj (Zae .term) rows) (h:∀ (i:Nat) r,rows[i]?=some r->∀ {left:Int},0<=left->left<=1048576->Con e0 19 [.agg r,.one (.lit (.int .i64 left))] [.one (.lit (.int .i64 (sub left (bulkRow r))))]) {left:Int} (h0:0<=left) (h1:left<=1048576):Con e0 48 [.one (.sl rows),.one (.lit (.int .i64 left))] [.one (.lit (.int .i64 (sub left (rows.length+bulkRows rows))))]:=by
 refine Zca (by kernel_rfl) fun hm=>?_;unfold maxLen at hm;have w:IntKind.i64.wrap (left - (rows.length:Int))=left - (rows.length:Int):=IntWalk.i64_in _ om;have hrb:ZaC 4 rows=true:=ZaV.2 hok.rowsLen;refine gI 33589299 Tryz.func48 ?_;by_cases q:left < (rows.length:Int)
 ·rw [Zay om];have q':(left - (rows.length:Int) < 0)=True:=eq_true om;exact fT (ai @w @q')
 have q':(left - (rows.length:Int) < 0)=False:=eq_false om;refine fG (ai @w @q') ?_;have F:=aj4 @tk0 @Zei @Int.natCast_zero @Int.sub_zero;refine gL (ι:=Nat) [1,4,5,15,25] [] (fun x=>[(5,.d (.one (.lit (.int .i64 (x:Int))))),(1,.d (.one (.lit (.int .i64 (left - (rows.length:Int) - (bulkRows (rows.take x):Int))))))]) (fun x=>[]) (fun x=>x<=rows.length∧0<=left - (rows.length:Int) - (bulkRows (rows.take x):Int)) (fun x=>rows.length - x) (0) (⟨Taj _,by simp [bulkRows];omega⟩) (fun x hx=>?_);clear F
 obtain ⟨hx,hl⟩:=hx;by_cases hlt:x < rows.length
 ·obtain ⟨r,hr⟩:∃ r,rows[x]?=some r:=⟨_,Taa hlt⟩;have hq:=hok.get hr;obtain ⟨ln,tk,dr⟩:=hq.take (n:=4) rfl;have okc:=hq.cells;have q1:=lT x rows.length;have wi:=Zaw (k:=x) om;have hbt:=Zc3 hr;have hbl:=ZcD rows (x+1)
  skip
  have fe:=aj10 hr hlt ZaZ hrb q1 okc ln tk dr (@ZaF C);obtain ⟨l,hle⟩:∃ l,l=left - (rows.length:Int) - (bulkRows (rows.take x):Int):=⟨_,rfl⟩;rw [<- hle];refine fB @fe ?_;refine fC @fe (h x _ hr (left:=l) om om) ?_;refine fR @fe ?_;by_cases q:l < ((bulkRow r:Nat):Int)
  ·rw [Zay (b:=bulkRow r) q,Zay om];have q':=lT (-1) 0;exact fT @q'
  rw [ZaP (b:=bulkRow r) om];have q':(l - ((bulkRow r:Nat):Int) < 0)=False:=eq_false om;have e:left - (rows.length:Int) - (bulkRows (rows.take (x+1)):Int)=l - ((bulkRow r:Nat):Int):=om;have F:=aj3 @q' @wi @e;refine gG ?_;exact ⟨x+1,⟨hlt,om⟩,gw,gw,om⟩
 ·obtain rfl:x=rows.length:=by omega
  have q1:=lF rows.length rows.length;rw [Tap] at hl ⊢;rw [ZaP om,show left - ((rows.length+bulkRows rows:Nat):Int)=left - (rows.length:Int) - (bulkRows rows:Int) by omega];exact fT @q1
theorem Zmg {rows:List (List C)} (hok:Zaj (Zae .term) rows) (h:∀ (i:Nat) r,rows[i]?=some r->Con e0 10 [.agg r,.agg r] [.one (.lit (.bool true))]):Con e0 36 [.one (.sl rows),.one (.sl rows)] [.one (.lit (.bool true))]:=by
 refine Zca (by kernel_rfl) fun hm=>?_;unfold maxLen at hm;have hrb:ZaC 4 rows=true:=ZaV.2 hok.rowsLen;refine gI 67126323 Tryz.func36 ?_;refine fG (@beq_self_eq_true.{0}) ?_;have F:=@e0P;refine gL (ι:=Nat) [4,5,14,26] [] (fun x=>[(5,.d (.one (.lit (.int .i64 (x:Int)))))]) (fun x=>[]) (fun x=>x<=rows.length) (fun x=>rows.length - x) (0) (Taj _) (fun x hx=>?_);clear F;by_cases hlt:x < rows.length
 ·obtain ⟨r,hr⟩:∃ r,rows[x]?=some r:=⟨_,Taa hlt⟩;have hq:=hok.get hr;obtain ⟨ln,tk,dr⟩:=hq.take (n:=4) rfl;have okc:=hq.cells;have q1:=lT x rows.length;have wi:=Zaw (k:=x) om;have fe:=aj10 hr hlt ZaZ hrb q1 okc ln tk dr (@ZaF C);refine fB @fe ?_;refine fC @fe (h x _ hr) ?_;refine fR @fe ?_;have F:=@wi;refine gG ?_;exact ⟨x+1,hlt,gw,gw,om⟩
 ·obtain rfl:x=rows.length:=by omega
  have q1:=lF rows.length rows.length;exact fT @q1
theorem ZlC {rows:List (List C)} (hok:Zaj (Zae .term) rows) (h:∀ (i:Nat) r,rows[i]?=some r->bulkRow r<=1048576->ConP e0 28 [.agg r] [] (Za8 r)) (hb:rows.length+bulkRows rows<=1048576):ConP e0 58 [.one (.sl rows)] [] (ZbZ rows):=by
 have hrb:ZaC 4 rows=true:=ZaV.2 hok.rowsLen;have hmx:((rows.length:Int)<=(maxApp:Int))=True:=eq_true (by unfold maxApp;omega);refine gIP (ts:=[.slot 2]) [] 2077 Tryz.func58 ?_;refine fG (ai @hmx @Tbt) ?_;refine pE [] [1000] Zb3 ?_;have F:=aj3 @nla @Nat.sub_zero @tk0;refine gL (ι:=Nat × List (List Value) × (Nat->Prop)) [3,4,11] [3,1000] (fun x=>[(4,.d (.one (.lit (.int .i64 (x.1:Int))))),(3,.buf 3)]) (fun x=>[(3,.buf none 42 4 (x.2.1.map Zaf++List.replicate (rows.length - x.1) [C.lit (.int .i64 0),C.lit (.string .empty),C.lit (.int .i64 0),C.sl []])),(1000,.set x.2.2 (fun w=>Zan w (rows.take x.1) x.2.2 x.2.1))]) (fun x=>x.1<=rows.length∧x.2.1.length=x.1) (fun x=>rows.length - x.1) ((0,[],fun _=>False)) (⟨Taj _,rfl⟩) (fun x hx=>?_);clear F
 obtain ⟨i,uss,E⟩:=x;obtain ⟨hi,hn⟩:=hx;simp only at hi hn;dsimp only;by_cases hlt:i < rows.length
 ·obtain ⟨r,hr⟩:∃ r,rows[i]?=some r:=⟨_,Taa hlt⟩;have hq:=hok.get hr;obtain ⟨ln,tk,dr⟩:=hq.take (n:=4) rfl;have okc:=hq.cells;have q1:=lT i rows.length;have wi:=Zaw (k:=i) om;have fe:=aj10 hr hlt ZaZ hrb q1 okc ln tk dr (@ZaF C);obtain ⟨k,hk⟩:∃ k,rows.length - i=k+1:=⟨rows.length - i - 1,om⟩;have hk2:rows.length - (i+1)=k:=om;rw [hk];have bl:(uss.map Zaf++List.replicate (k+1) [C.lit (.int .i64 0),C.lit (.string .empty),C.lit (.int .i64 0),C.sl []]).length=rows.length:=by simp;omega
  have bs:∀ X,(uss.map Zaf++List.replicate (k+1) [C.lit (.int .i64 0),C.lit (.string .empty),C.lit (.int .i64 0),C.sl []]).set i X=(uss.map Zaf++[X])++List.replicate k [C.lit (.int .i64 0),C.lit (.string .empty),C.lit (.int .i64 0),C.sl []]:=fun X=>Zey _ _ _ _ _ (by simp [hn]);have bg:(uss.map Zaf++List.replicate (k+1) [C.lit (.int .i64 0),C.lit (.string .empty),C.lit (.int .i64 0),C.sl []])[i]?=some [C.lit (.int .i64 0),C.lit (.string .empty),C.lit (.int .i64 0),C.sl []]:=by rw [Tbo (by simp;omega),Tbp,if_pos (by simp;omega)]
  have hbr:=ZbF hr;refine fB (ai @fe @bl) ?_;have F:=ai @fe @bl;refine gCP [] [1001] (h i _ hr om) ?_;clear F;rintro r' pm ⟨us,E2,rfl,hu,hok2,rfl⟩;rw [ln] at hu;obtain ⟨u0,u1,u2,u3,rfl⟩:=len4 hu;have hok2:Zai (.lit u0)=true∧Zai (.lit u1)=true∧Zai (.lit u2)=true∧Zai (.lit u3)=true:=by simpa [Zaf,Tar,and_assoc] using hok2
  obtain ⟨k0,k1,k2,k3⟩:=hok2;have lr:Zaf [u0,u1,u2,u3]=[.lit u0,.lit u1,.lit u2,.lit u3]:=rfl;rw [lr];simp only [setA,retA,zipM,Taf,Tah];refine fR (aj8 @hlt @bl @bs @bg @k0 @k1 @k2 @k3) ?_;refine pE [1000,1001] [1000] (ZfQ (G':=fun w=>Zan w (rows.take (i+1)) (fun b=>E b∨E2 b) (uss++[[u0,u1,u2,u3]])) (fun w h1 h2 hd=>?_) (Zan.stable _ _ _)) ?_
  ·rw [tks hr];exact Zan.snoc h1 h2 (fun _ h=>.inl h) (fun _ h=>.inr h) hd
  have F:=aj5 @bs @wi @hk2 @lr ((@Tbr.{0,0}));refine gG ?_;exact ⟨(i+1,uss++[[u0,u1,u2,u3]],fun b=>E b∨E2 b),⟨hlt,by simp [hn]⟩,gw,gw,om⟩
 ·obtain rfl:i=rows.length:=by omega
  have q1:=lF rows.length rows.length;rw [Nat.sub_self,List.replicate_zero,List.append_nil,Tap];refine fG @q1 ?_;refine pS 2 fun a cap=>?_;refine pE [2,1000] [1000] (ZbL (fun w h=>h) (Own.stable _ _ _)) ?_;exact (have F:=e0P;gTP (R:=ZbZ rows) [1000] ⟨.slice a uss.length cap,_,rfl,rfl,rfl⟩)
theorem ZlD (n:Nat):(∀ rows,ZbX rows < n->Zaj (Zae .term) rows->∀ {left:Int},0<=left->left<=1048576->Con e0 48 [.one (.sl rows),.one (.lit (.int .i64 left))] [.one (.lit (.int .i64 (sub left (rows.length+bulkRows rows))))]):=by
 induction n with
 | zero=>exact fun rows h=>absurd h om
 | succ n ih =>
  exact fun rows hn hok {left} h0 h1=>Zmf hok (fun i r hr left h0 h1=>Zh8 (hok.get hr) (fun rows2 h2 ok2=>ih rows2 (by have:=Zcr hr;omega) ok2) h0 h1) h0 h1
theorem ZjX {rows:List (List C)} (hok:Zaj (Zae .term) rows) {left:Int} (h0:0<=left) (h1:left<=1048576):Con e0 48 [.one (.sl rows),.one (.lit (.int .i64 left))] [.one (.lit (.int .i64 (sub left (rows.length+bulkRows rows))))]:=(ZlD _) rows (Tan _) hok h0 h1
theorem Zfj {row:List C} (hok:Zak (Zae .term) row) {left:Int} (h0:0<=left) (h1:left<=1048576):Con e0 19 [.agg row,.one (.lit (.int .i64 left))] [.one (.lit (.int .i64 (sub left (bulkRow row))))]:=Zh8 hok (fun rows _ ok=>(ZlD _) rows (Tan _) ok) h0 h1
theorem ZlE (n:Nat):(∀ rows,ZbX rows < n->Zaj (Zae .term) rows->Con e0 36 [.one (.sl rows),.one (.sl rows)] [.one (.lit (.bool true))]):=by
 induction n with
 | zero=>exact fun rows h=>absurd h om
 | succ n ih =>
  exact fun rows hn hok=>Zmg hok (fun i r hr=>Zh9 (hok.get hr) (fun rows2 h2 ok2=>ih rows2 (by have:=Zcr hr;omega) ok2))
theorem ZjY {rows:List (List C)} (hok:Zaj (Zae .term) rows):Con e0 36 [.one (.sl rows),.one (.sl rows)] [.one (.lit (.bool true))]:=(ZlE _) rows (Tan _) hok
theorem Zez {row:List C} (hok:Zak (Zae .term) row):Con e0 10 [.agg row,.agg row] [.one (.lit (.bool true))]:=Zh9 hok (fun rows _ ok=>(ZlE _) rows (Tan _) ok)
theorem ZlF (n:Nat):(∀ rows,ZbX rows < n->Zaj (Zae .term) rows->rows.length+bulkRows rows<=1048576->ConP e0 58 [.one (.sl rows)] [] (ZbZ rows)):=by
 induction n with
 | zero=>exact fun rows h=>absurd h om
 | succ n ih =>
  exact fun rows hn hok hb=>ZlC hok (fun i r hr hb=>Zhm (hok.get hr) (fun rows2 h2 ok2=>ih rows2 (by have:=Zcr hr;omega) ok2) hb) hb
theorem Zi0 {rows:List (List C)} (hok:Zaj (Zae .term) rows) (hb:rows.length+bulkRows rows<=1048576):ConP e0 58 [.one (.sl rows)] [] (ZbZ rows):=(ZlF _) rows (Tan _) hok hb
theorem ZeL {row:List C} (hok:Zak (Zae .term) row) (hb:bulkRow row<=1048576):ConP e0 28 [.agg row] [] (Za8 row):=Zhm hok (fun rows _ ok=>(ZlF _) rows (Tan _) ok) hb
theorem Ztq {rows:List (List C)} (hok:Zaj (Zae .int) rows) {left:Int} (h0:0<=left) (h1:left<=1048576):Con e0 169 [.one (.sl rows),.one (.lit (.int .i64 left))] [.one (.lit (.int .i64 (sub left (rows.length+bulkRows rows))))]:=by
 refine Zca (by kernel_rfl) fun hm=>?_;unfold maxLen at hm;have w:IntKind.i64.wrap (left - (rows.length:Int))=left - (rows.length:Int):=IntWalk.i64_in _ om;rw [Ztp (fs:=Zae .int) (by rfl) hok,Nat.add_zero];refine gI 1043 Tryz.func169 ?_;by_cases q:left < (rows.length:Int)
 ·rw [Zay om];have q':(left - (rows.length:Int) < 0)=True:=eq_true om;exact fT (ai @w @q')
 have q':(left - (rows.length:Int) < 0)=False:=eq_false om;rw [ZaP om];exact fT (ai @w @q')
theorem Ztr {rows:List (List C)} (hok:Zaj (Zae .int) rows):Con e0 175 [.one (.sl rows),.one (.sl rows)] [.one (.lit (.bool true))]:=by
 refine Zca (by kernel_rfl) fun hm=>?_;unfold maxLen at hm;have hrb:ZaC 1 rows=true:=ZaV.2 hok.rowsLen;refine gI 33571891 Tryz.func175 ?_;refine fG (@beq_self_eq_true.{0}) ?_;have F:=@e0P;refine gL (ι:=Nat) [4,5,14,25] [] (fun x=>[(5,.d (.one (.lit (.int .i64 (x:Int)))))]) (fun x=>[]) (fun x=>x<=rows.length) (fun x=>rows.length - x) (0) (Taj _) (fun x hx=>?_);clear F;by_cases hlt:x < rows.length
 ·obtain ⟨r,hr⟩:∃ r,rows[x]?=some r:=⟨_,Taa hlt⟩;obtain ⟨x0,rfl,g0⟩:=ZgL (hok.get hr);have q1:=lT x rows.length;have wi:=Zaw (k:=x) om;have fe:=aj5 hr hlt ZaZ hrb q1;have F:=aj3 @beq_self_eq_true.{0} @wi @fe;refine gG ?_;exact ⟨x+1,hlt,gw,gw,om⟩
 ·obtain rfl:x=rows.length:=by omega
  have q1:=lF rows.length rows.length;exact fT @q1
theorem ZqF {rows:List (List C)} (hok:Zaj (Zae .int) rows) (hb:rows.length+bulkRows rows<=1048576):ConP e0 170 [.one (.sl rows)] [] (ZbZ rows):=by
 have hrb:ZaC 1 rows=true:=ZaV.2 hok.rowsLen;have hmx:((rows.length:Int)<=(maxApp:Int))=True:=eq_true (by unfold maxApp;omega);refine gIP (ts:=[.slot 2]) [] 2077 Tryz.func170 ?_;refine fG (ai @hmx @Tbt) ?_;refine pE [] [1000] Zb3 ?_;have F:=aj3 @nla @Nat.sub_zero @tk0;refine gL (ι:=Nat × List (List Value) × (Nat->Prop)) [3,4,11] [3,1000] (fun x=>[(4,.d (.one (.lit (.int .i64 (x.1:Int))))),(3,.buf 3)]) (fun x=>[(3,.buf none 3 1 (x.2.1.map Zaf++List.replicate (rows.length - x.1) [C.lit (.int .i64 0)])),(1000,.set x.2.2 (fun w=>Zan w (rows.take x.1) x.2.2 x.2.1))]) (fun x=>x.1<=rows.length∧x.2.1.length=x.1) (fun x=>rows.length - x.1) ((0,[],fun _=>False)) (⟨Taj _,rfl⟩) (fun x hx=>?_);clear F
 obtain ⟨i,uss,E⟩:=x;obtain ⟨hi,hn⟩:=hx;simp only at hi hn;dsimp only;by_cases hlt:i < rows.length
 ·obtain ⟨r,hr⟩:∃ r,rows[i]?=some r:=⟨_,Taa hlt⟩;obtain ⟨x0,rfl,g0⟩:=ZgL (hok.get hr);have q1:=lT i rows.length;have wi:=Zaw (k:=i) om;have fe:=aj5 hr hlt ZaZ hrb q1;obtain ⟨k,hk⟩:∃ k,rows.length - i=k+1:=⟨rows.length - i - 1,om⟩;have hk2:rows.length - (i+1)=k:=om;rw [hk];have bl:(uss.map Zaf++List.replicate (k+1) [C.lit (.int .i64 0)]).length=rows.length:=by simp;omega
  have bs:∀ X,(uss.map Zaf++List.replicate (k+1) [C.lit (.int .i64 0)]).set i X=(uss.map Zaf++[X])++List.replicate k [C.lit (.int .i64 0)]:=fun X=>Zey _ _ _ _ _ (by simp [hn]);have bg:(uss.map Zaf++List.replicate (k+1) [C.lit (.int .i64 0)])[i]?=some [C.lit (.int .i64 0)]:=by rw [Tbo (by simp;omega),Tbp,if_pos (by simp;omega)]
  refine pE [1000] [1000] (ZwF (G':=fun w=>Zan w (rows.take (i+1)) E (uss++[[.int .i64 x0]])) (fun w h=>?_) (Zan.stable _ _ _)) ?_
  ·rw [tks hr];exact Zan.snoc (S2:=fun _=>False) h (Zag.lits (us:=[.int .i64 x0])) (fun _ h=>h) (fun _ h=>h.elim) (fun _ _ h=>h)
  have F:=aj8 @fe @bl @bs @bg @wi @hk2 @ZzT ((@Tbr.{0,0}));refine gG ?_;exact ⟨(i+1,uss++[[.int .i64 x0]],E),⟨hlt,by simp [hn]⟩,gw,gw,om⟩
 ·obtain rfl:i=rows.length:=by omega
  have q1:=lF rows.length rows.length;rw [Nat.sub_self,List.replicate_zero,List.append_nil,Tap];refine fG @q1 ?_;refine pS 2 fun a cap=>?_;refine pE [2,1000] [1000] (ZbL (fun w h=>h) (Own.stable _ _ _)) ?_;exact (have F:=e0P;gTP (R:=ZbZ rows) [1000] ⟨.slice a uss.length cap,_,rfl,rfl,rfl⟩)
theorem ZlG {row:List C} (hok:Zak (Zae .cond) row) {left:Int} (h0:0<=left) (h1:left<=1048576):Con e0 128 [.agg row,.one (.lit (.int .i64 left))] [.one (.lit (.int .i64 (sub left (bulkRow row))))]:=by
 obtain ⟨i0,t1,i2,r3,i4,t5,i6,r7,rfl,g0,g1,g2,g3,g4,g5,g6,g7⟩:=Zdo hok;rw [show bulkRow [.lit (.int .i64 i0),.lit (.string t1),.lit (.int .i64 i2),.sl r3,.lit (.int .i64 i4),.lit (.string t5),.lit (.int .i64 i6),.sl r7]=bulkRow [.lit (.int .i64 i0),.lit (.string t1),.lit (.int .i64 i2),.sl r3]+bulkRow [.lit (.int .i64 i4),.lit (.string t5),.lit (.int .i64 i6),.sl r7] by simp only [bulkRow,ZaU];omega]
 refine gI 66583 Tryz.func128 ?_;refine fB @e0P ?_;refine fC @e0P (Zfj (Zby g0 g1 g2 g3) (left:=left) om om) ?_;refine fR @e0P ?_;by_cases q:left < ((bulkRow [.lit (.int .i64 i0),.lit (.string t1),.lit (.int .i64 i2),.sl r3]:Nat):Int)
 ·rw [Zay (b:=bulkRow [.lit (.int .i64 i0),.lit (.string t1),.lit (.int .i64 i2),.sl r3]) q]
  try rw [Zay om]
  have q':=lT (-1) 0;exact fT @q'
 rw [ZaP (b:=bulkRow [.lit (.int .i64 i0),.lit (.string t1),.lit (.int .i64 i2),.sl r3]) om];have q':(left - ((bulkRow [.lit (.int .i64 i0),.lit (.string t1),.lit (.int .i64 i2),.sl r3]:Nat):Int) < 0)=False:=eq_false om;refine fG @q' ?_;obtain ⟨L0,e0⟩:∃ x,x=left - ((bulkRow [.lit (.int .i64 i0),.lit (.string t1),.lit (.int .i64 i2),.sl r3]:Nat):Int):=⟨_,rfl⟩;rw [<- e0];clear q';refine fB @e0P ?_;refine fC @e0P (Zfj (Zby g4 g5 g6 g7) (left:=L0) om om) ?_
 refine fR @e0P ?_;by_cases q:L0 < ((bulkRow [.lit (.int .i64 i4),.lit (.string t5),.lit (.int .i64 i6),.sl r7]:Nat):Int)
 ·rw [Zay (b:=bulkRow [.lit (.int .i64 i4),.lit (.string t5),.lit (.int .i64 i6),.sl r7]) q]
  try rw [Zay om]
  have q':=lT (-1) 0;exact fT @q'
 rw [ZaP (b:=bulkRow [.lit (.int .i64 i4),.lit (.string t5),.lit (.int .i64 i6),.sl r7]) om];have q':(L0 - ((bulkRow [.lit (.int .i64 i4),.lit (.string t5),.lit (.int .i64 i6),.sl r7]:Nat):Int) < 0)=False:=eq_false om;refine fG @q' ?_;obtain ⟨L1,e1⟩:∃ x,x=L0 - ((bulkRow [.lit (.int .i64 i4),.lit (.string t5),.lit (.int .i64 i6),.sl r7]:Nat):Int):=⟨_,rfl⟩;rw [<- e1];clear q'
 try rw [ZaP om,show left - ((bulkRow [.lit (.int .i64 i0),.lit (.string t1),.lit (.int .i64 i2),.sl r3]+bulkRow [.lit (.int .i64 i4),.lit (.string t5),.lit (.int .i64 i6),.sl r7]:Nat):Int)=L1 by omega]
 exact fT @e0P
theorem ZlH {row:List C} (hok:Zak (Zae .cond) row):Con e0 154 [.agg row,.agg row] [.one (.lit (.bool true))]:=by
 obtain ⟨i0,t1,i2,r3,i4,t5,i6,r7,rfl,g0,g1,g2,g3,g4,g5,g6,g7⟩:=Zdo hok;refine gI 66591 Tryz.func154 ?_;refine fB (@beq_self_eq_true.{0}) ?_;refine fC @e0P (Zez (Zby g0 g1 g2 g3)) ?_;refine fR @e0P ?_;refine fB (@beq_self_eq_true.{0}) ?_;refine fC @e0P (Zez (Zby g4 g5 g6 g7)) ?_;refine fR @e0P ?_;exact fT (@beq_self_eq_true.{0})
theorem Zkr {row:List C} (hok:Zak (Zae .cond) row) (hb:bulkRow row<=1048576):ConP e0 138 [.agg row] [] (Za8 row):=by
 obtain ⟨i0,t1,i2,r3,i4,t5,i6,r7,rfl,g0,g1,g2,g3,g4,g5,g6,g7⟩:=Zdo hok;simp only [bulkRow,ZaU] at hb;refine gIP (ts:=[.cell 2 157]) [] 15 Tryz.func138 ?_;refine fB @e0P ?_;have F:=@e0P;refine gCP [] [1000] (ZeL (Zby g0 g1 g2 g3) (by simp only [bulkRow,ZaU];omega)) ?_;clear F;rintro r pm ⟨us,E0,rfl,hu,hc,rfl⟩;obtain ⟨u0,u1,u2,u3,rfl⟩:=len4 hu;have hc:Zai (.lit u0)=true∧Zai (.lit u1)=true∧Zai (.lit u2)=true∧Zai (.lit u3)=true:=by simpa [Zaf,Tar,and_assoc] using hc
 obtain ⟨k0,k1,k2,k3⟩:=hc;have lr0:Zaf [u0,u1,u2,u3]=[.lit u0,.lit u1,.lit u2,.lit u3]:=rfl;rw [lr0];simp only [setA,retA,zipM,Taf,Tah];refine fR (aj4 @k0 @k1 @k2 @k3) ?_;refine fB @e0P ?_;have F:=@e0P;refine gCP [] [1001] (ZeL (Zby g4 g5 g6 g7) (by simp only [bulkRow,ZaU];omega)) ?_;clear F;rintro r pm ⟨us,E4,rfl,hu,hc,rfl⟩;obtain ⟨u4,u5,u6,u7,rfl⟩:=len4 hu;have hc:Zai (.lit u4)=true∧Zai (.lit u5)=true∧Zai (.lit u6)=true∧Zai (.lit u7)=true:=by simpa [Zaf,Tar,and_assoc] using hc
 obtain ⟨k4,k5,k6,k7⟩:=hc;have lr4:Zaf [u4,u5,u6,u7]=[.lit u4,.lit u5,.lit u6,.lit u7]:=rfl;rw [lr4];simp only [setA,retA,zipM,Taf,Tah];refine fR (aj4 @k4 @k5 @k6 @k7) ?_;refine fG (aj8 @k0 @k1 @k2 @k3 @k4 @k5 @k6 @k7) ?_;obtain ⟨E,hre⟩:∃ E,ZaS [.set E0 (fun w=>Zag w [.lit (.int .i64 i0),.lit (.string t1),.lit (.int .i64 i2),.sl r3] E0 [u0,u1,u2,u3]),.set E4 (fun w=>Zag w [.lit (.int .i64 i4),.lit (.string t5),.lit (.int .i64 i6),.sl r7] E4 [u4,u5,u6,u7])] [.set E (fun w=>Zag w [.lit (.int .i64 i0),.lit (.string t1),.lit (.int .i64 i2),.sl r3,.lit (.int .i64 i4),.lit (.string t5),.lit (.int .i64 i6),.sl r7] E [u0,u1,u2,u3,u4,u5,u6,u7])]:=⟨_,ZdF [.st E0 [.lit (.int .i64 i0),.lit (.string t1),.lit (.int .i64 i2),.sl r3] [u0,u1,u2,u3],.st E4 [.lit (.int .i64 i4),.lit (.string t5),.lit (.int .i64 i6),.sl r7] [u4,u5,u6,u7]]⟩
 refine pE [1000,1001] [1000] hre ?_;have hm:=Za8.mk (row:=[.lit (.int .i64 i0),.lit (.string t1),.lit (.int .i64 i2),.sl r3,.lit (.int .i64 i4),.lit (.string t5),.lit (.int .i64 i6),.sl r7]) (us:=[u0,u1,u2,u3,u4,u5,u6,u7]) (E:=E) rfl (by simp only [Zaf,Tbq,List.map_nil,List.all_cons,List.all_nil,Bool.and_true,Tar];exact ⟨k0,k1,k2,k3,k4,k5,k6,k7⟩);exact (have F:=e0P;gTP (R:=Za8 [.lit (.int .i64 i0),.lit (.string t1),.lit (.int .i64 i2),.sl r3,.lit (.int .i64 i4),.lit (.string t5),.lit (.int .i64 i6),.sl r7]) [1000] hm)
theorem Zks {rows:List (List C)} (hok:Zaj (Zae .cond) rows) {left:Int} (h0:0<=left) (h1:left<=1048576):Con e0 81 [.one (.sl rows),.one (.lit (.int .i64 left))] [.one (.lit (.int .i64 (sub left (rows.length+bulkRows rows))))]:=by
 refine Zca (by kernel_rfl) fun hm=>?_;unfold maxLen at hm;have w:IntKind.i64.wrap (left - (rows.length:Int))=left - (rows.length:Int):=IntWalk.i64_in _ om;have hrb:ZaC 8 rows=true:=ZaV.2 hok.rowsLen;refine gI 33589299 Tryz.func81 ?_;by_cases q:left < (rows.length:Int)
 ·rw [Zay om];have q':(left - (rows.length:Int) < 0)=True:=eq_true om;exact fT (ai @w @q')
 have q':(left - (rows.length:Int) < 0)=False:=eq_false om;refine fG (ai @w @q') ?_;have F:=aj4 @tk0 @Zei @Int.natCast_zero @Int.sub_zero;refine gL (ι:=Nat) [1,4,5,15,25] [] (fun x=>[(5,.d (.one (.lit (.int .i64 (x:Int))))),(1,.d (.one (.lit (.int .i64 (left - (rows.length:Int) - (bulkRows (rows.take x):Int))))))]) (fun x=>[]) (fun x=>x<=rows.length∧0<=left - (rows.length:Int) - (bulkRows (rows.take x):Int)) (fun x=>rows.length - x) (0) (⟨Taj _,by simp [bulkRows];omega⟩) (fun x hx=>?_);clear F
 obtain ⟨hx,hl⟩:=hx;by_cases hlt:x < rows.length
 ·obtain ⟨r,hr⟩:∃ r,rows[x]?=some r:=⟨_,Taa hlt⟩;have hq:=hok.get hr;obtain ⟨ln,tk,dr⟩:=hq.take (n:=8) rfl;have okc:=hq.cells;have q1:=lT x rows.length;have wi:=Zaw (k:=x) om;have hbt:=Zc3 hr;have hbl:=ZcD rows (x+1)
  skip
  have fe:=aj10 hr hlt ZaZ hrb q1 okc ln tk dr (@ZaF C);obtain ⟨l,hle⟩:∃ l,l=left - (rows.length:Int) - (bulkRows (rows.take x):Int):=⟨_,rfl⟩;rw [<- hle];refine fB @fe ?_;refine fC @fe (ZlG hq (left:=l) om om) ?_;refine fR @fe ?_;by_cases q:l < ((bulkRow r:Nat):Int)
  ·rw [Zay (b:=bulkRow r) q,Zay om];have q':=lT (-1) 0;exact fT @q'
  rw [ZaP (b:=bulkRow r) om];have q':(l - ((bulkRow r:Nat):Int) < 0)=False:=eq_false om;have e:left - (rows.length:Int) - (bulkRows (rows.take (x+1)):Int)=l - ((bulkRow r:Nat):Int):=om;have F:=aj3 @q' @wi @e;refine gG ?_;exact ⟨x+1,⟨hlt,om⟩,gw,gw,om⟩
 ·obtain rfl:x=rows.length:=by omega
  have q1:=lF rows.length rows.length;rw [Tap] at hl ⊢;rw [ZaP om,show left - ((rows.length+bulkRows rows:Nat):Int)=left - (rows.length:Int) - (bulkRows rows:Int) by omega];exact fT @q1
theorem Zkt {rows:List (List C)} (hok:Zaj (Zae .cond) rows):Con e0 123 [.one (.sl rows),.one (.sl rows)] [.one (.lit (.bool true))]:=by
 refine Zca (by kernel_rfl) fun hm=>?_;unfold maxLen at hm;have hrb:ZaC 8 rows=true:=ZaV.2 hok.rowsLen;refine gI 67126323 Tryz.func123 ?_;refine fG (@beq_self_eq_true.{0}) ?_;have F:=@e0P;refine gL (ι:=Nat) [4,5,14,26] [] (fun x=>[(5,.d (.one (.lit (.int .i64 (x:Int)))))]) (fun x=>[]) (fun x=>x<=rows.length) (fun x=>rows.length - x) (0) (Taj _) (fun x hx=>?_);clear F;by_cases hlt:x < rows.length
 ·obtain ⟨r,hr⟩:∃ r,rows[x]?=some r:=⟨_,Taa hlt⟩;have hq:=hok.get hr;obtain ⟨ln,tk,dr⟩:=hq.take (n:=8) rfl;have okc:=hq.cells;have q1:=lT x rows.length;have wi:=Zaw (k:=x) om;have fe:=aj10 hr hlt ZaZ hrb q1 okc ln tk dr (@ZaF C);refine fB @fe ?_;refine fC @fe (ZlH hq) ?_;refine fR @fe ?_;have F:=@wi;refine gG ?_;exact ⟨x+1,hlt,gw,gw,om⟩
 ·obtain rfl:x=rows.length:=by omega
  have q1:=lF rows.length rows.length;exact fT @q1
theorem Zjt {rows:List (List C)} (hok:Zaj (Zae .cond) rows) (hb:rows.length+bulkRows rows<=1048576):ConP e0 103 [.one (.sl rows)] [] (ZbZ rows):=by
 have hrb:ZaC 8 rows=true:=ZaV.2 hok.rowsLen;have hmx:((rows.length:Int)<=(maxApp:Int))=True:=eq_true (by unfold maxApp;omega);refine gIP (ts:=[.slot 2]) [] 2077 Tryz.func103 ?_;refine fG (ai @hmx @Tbt) ?_;refine pE [] [1000] Zb3 ?_;have F:=aj3 @nla @Nat.sub_zero @tk0;refine gL (ι:=Nat × List (List Value) × (Nat->Prop)) [3,4,11] [3,1000] (fun x=>[(4,.d (.one (.lit (.int .i64 (x.1:Int))))),(3,.buf 3)]) (fun x=>[(3,.buf none 157 8 (x.2.1.map Zaf++List.replicate (rows.length - x.1) [C.lit (.int .i64 0),C.lit (.string .empty),C.lit (.int .i64 0),C.sl [],C.lit (.int .i64 0),C.lit (.string .empty),C.lit (.int .i64 0),C.sl []])),(1000,.set x.2.2 (fun w=>Zan w (rows.take x.1) x.2.2 x.2.1))]) (fun x=>x.1<=rows.length∧x.2.1.length=x.1) (fun x=>rows.length - x.1) ((0,[],fun _=>False)) (⟨Taj _,rfl⟩) (fun x hx=>?_);clear F
 obtain ⟨i,uss,E⟩:=x;obtain ⟨hi,hn⟩:=hx;simp only at hi hn;dsimp only;by_cases hlt:i < rows.length
 ·obtain ⟨r,hr⟩:∃ r,rows[i]?=some r:=⟨_,Taa hlt⟩;have hq:=hok.get hr;obtain ⟨ln,tk,dr⟩:=hq.take (n:=8) rfl;have okc:=hq.cells;have q1:=lT i rows.length;have wi:=Zaw (k:=i) om;have fe:=aj10 hr hlt ZaZ hrb q1 okc ln tk dr (@ZaF C);obtain ⟨k,hk⟩:∃ k,rows.length - i=k+1:=⟨rows.length - i - 1,om⟩;have hk2:rows.length - (i+1)=k:=om;rw [hk];have bl:(uss.map Zaf++List.replicate (k+1) [C.lit (.int .i64 0),C.lit (.string .empty),C.lit (.int .i64 0),C.sl [],C.lit (.int .i64 0),C.lit (.string .empty),C.lit (.int .i64 0),C.sl []]).length=rows.length:=by simp;omega
  have bs:∀ X,(uss.map Zaf++List.replicate (k+1) [C.lit (.int .i64 0),C.lit (.string .empty),C.lit (.int .i64 0),C.sl [],C.lit (.int .i64 0),C.lit (.string .empty),C.lit (.int .i64 0),C.sl []]).set i X=(uss.map Zaf++[X])++List.replicate k [C.lit (.int .i64 0),C.lit (.string .empty),C.lit (.int .i64 0),C.sl [],C.lit (.int .i64 0),C.lit (.string .empty),C.lit (.int .i64 0),C.sl []]:=fun X=>Zey _ _ _ _ _ (by simp [hn])
  have bg:(uss.map Zaf++List.replicate (k+1) [C.lit (.int .i64 0),C.lit (.string .empty),C.lit (.int .i64 0),C.sl [],C.lit (.int .i64 0),C.lit (.string .empty),C.lit (.int .i64 0),C.sl []])[i]?=some [C.lit (.int .i64 0),C.lit (.string .empty),C.lit (.int .i64 0),C.sl [],C.lit (.int .i64 0),C.lit (.string .empty),C.lit (.int .i64 0),C.sl []]:=by rw [Tbo (by simp;omega),Tbp,if_pos (by simp;omega)]
  have hbr:=ZbF hr;refine fB (ai @fe @bl) ?_;have F:=ai @fe @bl;refine gCP [] [1001] (Zkr hq om) ?_;clear F;rintro r' pm ⟨us,E2,rfl,hu,hok2,rfl⟩;rw [ln] at hu;obtain ⟨u0,u1,u2,u3,u4,u5,u6,u7,rfl⟩:=len8 hu;have hok2:Zai (.lit u0)=true∧Zai (.lit u1)=true∧Zai (.lit u2)=true∧Zai (.lit u3)=true∧Zai (.lit u4)=true∧Zai (.lit u5)=true∧Zai (.lit u6)=true∧Zai (.lit u7)=true:=by simpa [Zaf,Tar,and_assoc] using hok2
  obtain ⟨k0,k1,k2,k3,k4,k5,k6,k7⟩:=hok2;have lr:Zaf [u0,u1,u2,u3,u4,u5,u6,u7]=[.lit u0,.lit u1,.lit u2,.lit u3,.lit u4,.lit u5,.lit u6,.lit u7]:=rfl;rw [lr];simp only [setA,retA,zipM,Taf,Tah];refine fR (aj12 @hlt @bl @bs @bg @k0 @k1 @k2 @k3 @k4 @k5 @k6 @k7) ?_;refine pE [1000,1001] [1000] (ZfQ (G':=fun w=>Zan w (rows.take (i+1)) (fun b=>E b∨E2 b) (uss++[[u0,u1,u2,u3,u4,u5,u6,u7]])) (fun w h1 h2 hd=>?_) (Zan.stable _ _ _)) ?_
  ·rw [tks hr];exact Zan.snoc h1 h2 (fun _ h=>.inl h) (fun _ h=>.inr h) hd
  have F:=aj5 @bs @wi @hk2 @lr ((@Tbr.{0,0}));refine gG ?_;exact ⟨(i+1,uss++[[u0,u1,u2,u3,u4,u5,u6,u7]],fun b=>E b∨E2 b),⟨hlt,by simp [hn]⟩,gw,gw,om⟩
 ·obtain rfl:i=rows.length:=by omega
  have q1:=lF rows.length rows.length;rw [Nat.sub_self,List.replicate_zero,List.append_nil,Tap];refine fG @q1 ?_;refine pS 2 fun a cap=>?_;refine pE [2,1000] [1000] (ZbL (fun w h=>h) (Own.stable _ _ _)) ?_;exact (have F:=e0P;gTP (R:=ZbZ rows) [1000] ⟨.slice a uss.length cap,_,rfl,rfl,rfl⟩)
theorem Zmh {row:List C} (hok:Zak (Zae .eqn) row) {left:Int} (h0:0<=left) (h1:left<=1048576):Con e0 47 [.agg row,.one (.lit (.int .i64 left))] [.one (.lit (.int .i64 (sub left (bulkRow row))))]:=by
 obtain ⟨i0,t1,i2,r3,i4,t5,i6,r7,r8,rfl,g0,g1,g2,g3,g4,g5,g6,g7,g8⟩:=ZdD hok;rw [show bulkRow [.lit (.int .i64 i0),.lit (.string t1),.lit (.int .i64 i2),.sl r3,.lit (.int .i64 i4),.lit (.string t5),.lit (.int .i64 i6),.sl r7,.sl r8]=bulkRow [.lit (.int .i64 i0),.lit (.string t1),.lit (.int .i64 i2),.sl r3]+bulkRow [.lit (.int .i64 i4),.lit (.string t5),.lit (.int .i64 i6),.sl r7]+(r8.length+bulkRows r8) by simp only [bulkRow,ZaU];omega]
 refine gI 4260887 Tryz.func47 ?_;refine fB @e0P ?_;refine fC @e0P (Zfj (Zby g0 g1 g2 g3) (left:=left) om om) ?_;refine fR @e0P ?_;by_cases q:left < ((bulkRow [.lit (.int .i64 i0),.lit (.string t1),.lit (.int .i64 i2),.sl r3]:Nat):Int)
 ·rw [Zay (b:=bulkRow [.lit (.int .i64 i0),.lit (.string t1),.lit (.int .i64 i2),.sl r3]) q]
  try rw [Zay om]
  have q':=lT (-1) 0;exact fT @q'
 rw [ZaP (b:=bulkRow [.lit (.int .i64 i0),.lit (.string t1),.lit (.int .i64 i2),.sl r3]) om];have q':(left - ((bulkRow [.lit (.int .i64 i0),.lit (.string t1),.lit (.int .i64 i2),.sl r3]:Nat):Int) < 0)=False:=eq_false om;refine fG @q' ?_;obtain ⟨L0,e0⟩:∃ x,x=left - ((bulkRow [.lit (.int .i64 i0),.lit (.string t1),.lit (.int .i64 i2),.sl r3]:Nat):Int):=⟨_,rfl⟩;rw [<- e0];clear q';refine fB @e0P ?_;refine fC @e0P (Zfj (Zby g4 g5 g6 g7) (left:=L0) om om) ?_
 refine fR @e0P ?_;by_cases q:L0 < ((bulkRow [.lit (.int .i64 i4),.lit (.string t5),.lit (.int .i64 i6),.sl r7]:Nat):Int)
 ·rw [Zay (b:=bulkRow [.lit (.int .i64 i4),.lit (.string t5),.lit (.int .i64 i6),.sl r7]) q]
  try rw [Zay om]
  have q':=lT (-1) 0;exact fT @q'
 rw [ZaP (b:=bulkRow [.lit (.int .i64 i4),.lit (.string t5),.lit (.int .i64 i6),.sl r7]) om];have q':(L0 - ((bulkRow [.lit (.int .i64 i4),.lit (.string t5),.lit (.int .i64 i6),.sl r7]:Nat):Int) < 0)=False:=eq_false om;refine fG @q' ?_;obtain ⟨L1,e1⟩:∃ x,x=L0 - ((bulkRow [.lit (.int .i64 i4),.lit (.string t5),.lit (.int .i64 i6),.sl r7]:Nat):Int):=⟨_,rfl⟩;rw [<- e1];clear q';refine fB @e0P ?_;refine fC @e0P (Zks g8 (left:=L1) om om) ?_
 refine fR @e0P ?_;by_cases q:L1 < (((r8.length+bulkRows r8):Nat):Int)
 ·rw [Zay (b:=(r8.length+bulkRows r8)) q]
  try rw [Zay om]
  have q':=lT (-1) 0;exact fT @q'
 rw [ZaP (b:=(r8.length+bulkRows r8)) om];have q':(L1 - (((r8.length+bulkRows r8):Nat):Int) < 0)=False:=eq_false om;refine fG @q' ?_;obtain ⟨L2,e2⟩:∃ x,x=L1 - (((r8.length+bulkRows r8):Nat):Int):=⟨_,rfl⟩;rw [<- e2];clear q'
 try rw [ZaP om,show left - ((bulkRow [.lit (.int .i64 i0),.lit (.string t1),.lit (.int .i64 i2),.sl r3]+bulkRow [.lit (.int .i64 i4),.lit (.string t5),.lit (.int .i64 i6),.sl r7]+(r8.length+bulkRows r8):Nat):Int)=L2 by omega]
 exact fT @e0P
theorem Zmi {row:List C} (hok:Zak (Zae .eqn) row):Con e0 72 [.agg row,.agg row] [.one (.lit (.bool true))]:=by
 obtain ⟨i0,t1,i2,r3,i4,t5,i6,r7,r8,rfl,g0,g1,g2,g3,g4,g5,g6,g7,g8⟩:=ZdD hok;refine gI 4260895 Tryz.func72 ?_;refine fB (@beq_self_eq_true.{0}) ?_;refine fC @e0P (Zez (Zby g0 g1 g2 g3)) ?_;refine fR @e0P ?_;refine fB (@beq_self_eq_true.{0}) ?_;refine fC @e0P (Zez (Zby g4 g5 g6 g7)) ?_;refine fR @e0P ?_;refine fB (@beq_self_eq_true.{0}) ?_;refine fC @e0P (Zkt g8) ?_;refine fR @e0P ?_;exact fT (@beq_self_eq_true.{0})
theorem ZlI {row:List C} (hok:Zak (Zae .eqn) row) (hb:bulkRow row<=1048576):ConP e0 57 [.agg row] [] (Za8 row):=by
 obtain ⟨i0,t1,i2,r3,i4,t5,i6,r7,r8,rfl,g0,g1,g2,g3,g4,g5,g6,g7,g8⟩:=ZdD hok;simp only [bulkRow,ZaU] at hb;refine gIP (ts:=[.cell 2 109]) [] 15 Tryz.func57 ?_;refine fB @e0P ?_;have F:=@e0P;refine gCP [] [1000] (ZeL (Zby g0 g1 g2 g3) (by simp only [bulkRow,ZaU];omega)) ?_;clear F;rintro r pm ⟨us,E0,rfl,hu,hc,rfl⟩;obtain ⟨u0,u1,u2,u3,rfl⟩:=len4 hu;have hc:Zai (.lit u0)=true∧Zai (.lit u1)=true∧Zai (.lit u2)=true∧Zai (.lit u3)=true:=by simpa [Zaf,Tar,and_assoc] using hc
 obtain ⟨k0,k1,k2,k3⟩:=hc;have lr0:Zaf [u0,u1,u2,u3]=[.lit u0,.lit u1,.lit u2,.lit u3]:=rfl;rw [lr0];simp only [setA,retA,zipM,Taf,Tah];refine fR (aj4 @k0 @k1 @k2 @k3) ?_;refine fB @e0P ?_;have F:=@e0P;refine gCP [] [1001] (ZeL (Zby g4 g5 g6 g7) (by simp only [bulkRow,ZaU];omega)) ?_;clear F;rintro r pm ⟨us,E4,rfl,hu,hc,rfl⟩;obtain ⟨u4,u5,u6,u7,rfl⟩:=len4 hu;have hc:Zai (.lit u4)=true∧Zai (.lit u5)=true∧Zai (.lit u6)=true∧Zai (.lit u7)=true:=by simpa [Zaf,Tar,and_assoc] using hc
 obtain ⟨k4,k5,k6,k7⟩:=hc;have lr4:Zaf [u4,u5,u6,u7]=[.lit u4,.lit u5,.lit u6,.lit u7]:=rfl;rw [lr4];simp only [setA,retA,zipM,Taf,Tah];refine fR (aj4 @k4 @k5 @k6 @k7) ?_;refine fB @e0P ?_;have F:=@e0P;refine gCP [] [1002] (Zjt g8 om) ?_;clear F;rintro r pm ⟨u8,E8,rfl,k8,rfl⟩;simp only [setA,retA,zipM,Taf,Tah];refine fR @k8 ?_;refine fG (aj9 @k8 @k0 @k1 @k2 @k3 @k4 @k5 @k6 @k7) ?_;obtain ⟨E,hre⟩:∃ E,ZaS [.set E0 (fun w=>Zag w [.lit (.int .i64 i0),.lit (.string t1),.lit (.int .i64 i2),.sl r3] E0 [u0,u1,u2,u3]),.set E4 (fun w=>Zag w [.lit (.int .i64 i4),.lit (.string t5),.lit (.int .i64 i6),.sl r7] E4 [u4,u5,u6,u7]),.set E8 (fun w=>Own w (.sl r8) E8 u8)] [.set E (fun w=>Zag w [.lit (.int .i64 i0),.lit (.string t1),.lit (.int .i64 i2),.sl r3,.lit (.int .i64 i4),.lit (.string t5),.lit (.int .i64 i6),.sl r7,.sl r8] E [u0,u1,u2,u3,u4,u5,u6,u7,u8])]:=⟨_,ZdF [.st E0 [.lit (.int .i64 i0),.lit (.string t1),.lit (.int .i64 i2),.sl r3] [u0,u1,u2,u3],.st E4 [.lit (.int .i64 i4),.lit (.string t5),.lit (.int .i64 i6),.sl r7] [u4,u5,u6,u7],.sl E8 r8 u8]⟩
 refine pE [1000,1001,1002] [1000] hre ?_;have hm:=Za8.mk (row:=[.lit (.int .i64 i0),.lit (.string t1),.lit (.int .i64 i2),.sl r3,.lit (.int .i64 i4),.lit (.string t5),.lit (.int .i64 i6),.sl r7,.sl r8]) (us:=[u0,u1,u2,u3,u4,u5,u6,u7,u8]) (E:=E) rfl (by simp only [Zaf,Tbq,List.map_nil,List.all_cons,List.all_nil,Bool.and_true,Tar];exact ⟨k0,k1,k2,k3,k4,k5,k6,k7,k8⟩);exact (have F:=e0P;gTP (R:=Za8 [.lit (.int .i64 i0),.lit (.string t1),.lit (.int .i64 i2),.sl r3,.lit (.int .i64 i4),.lit (.string t5),.lit (.int .i64 i6),.sl r7,.sl r8]) [1000] hm)
theorem ZgU {rows:List (List C)} (hok:Zaj (Zae .eqn) rows) {left:Int} (h0:0<=left) (h1:left<=1048576):Con e0 18 [.one (.sl rows),.one (.lit (.int .i64 left))] [.one (.lit (.int .i64 (sub left (rows.length+bulkRows rows))))]:=by
 refine Zca (by kernel_rfl) fun hm=>?_;unfold maxLen at hm;have w:IntKind.i64.wrap (left - (rows.length:Int))=left - (rows.length:Int):=IntWalk.i64_in _ om;have hrb:ZaC 9 rows=true:=ZaV.2 hok.rowsLen;refine gI 33589299 Tryz.func18 ?_;by_cases q:left < (rows.length:Int)
 ·rw [Zay om];have q':(left - (rows.length:Int) < 0)=True:=eq_true om;exact fT (ai @w @q')
 have q':(left - (rows.length:Int) < 0)=False:=eq_false om;refine fG (ai @w @q') ?_;have F:=aj4 @tk0 @Zei @Int.natCast_zero @Int.sub_zero;refine gL (ι:=Nat) [1,4,5,15,25] [] (fun x=>[(5,.d (.one (.lit (.int .i64 (x:Int))))),(1,.d (.one (.lit (.int .i64 (left - (rows.length:Int) - (bulkRows (rows.take x):Int))))))]) (fun x=>[]) (fun x=>x<=rows.length∧0<=left - (rows.length:Int) - (bulkRows (rows.take x):Int)) (fun x=>rows.length - x) (0) (⟨Taj _,by simp [bulkRows];omega⟩) (fun x hx=>?_);clear F
 obtain ⟨hx,hl⟩:=hx;by_cases hlt:x < rows.length
 ·obtain ⟨r,hr⟩:∃ r,rows[x]?=some r:=⟨_,Taa hlt⟩;have hq:=hok.get hr;obtain ⟨ln,tk,dr⟩:=hq.take (n:=9) rfl;have okc:=hq.cells;have q1:=lT x rows.length;have wi:=Zaw (k:=x) om;have hbt:=Zc3 hr;have hbl:=ZcD rows (x+1)
  skip
  have fe:=aj10 hr hlt ZaZ hrb q1 okc ln tk dr (@ZaF C);obtain ⟨l,hle⟩:∃ l,l=left - (rows.length:Int) - (bulkRows (rows.take x):Int):=⟨_,rfl⟩;rw [<- hle];refine fB @fe ?_;refine fC @fe (Zmh hq (left:=l) om om) ?_;refine fR @fe ?_;by_cases q:l < ((bulkRow r:Nat):Int)
  ·rw [Zay (b:=bulkRow r) q,Zay om];have q':=lT (-1) 0;exact fT @q'
  rw [ZaP (b:=bulkRow r) om];have q':(l - ((bulkRow r:Nat):Int) < 0)=False:=eq_false om;have e:left - (rows.length:Int) - (bulkRows (rows.take (x+1)):Int)=l - ((bulkRow r:Nat):Int):=om;have F:=aj3 @q' @wi @e;refine gG ?_;exact ⟨x+1,⟨hlt,om⟩,gw,gw,om⟩
 ·obtain rfl:x=rows.length:=by omega
  have q1:=lF rows.length rows.length;rw [Tap] at hl ⊢;rw [ZaP om,show left - ((rows.length+bulkRows rows:Nat):Int)=left - (rows.length:Int) - (bulkRows rows:Int) by omega];exact fT @q1
theorem ZgV {rows:List (List C)} (hok:Zaj (Zae .eqn) rows):Con e0 38 [.one (.sl rows),.one (.sl rows)] [.one (.lit (.bool true))]:=by
 refine Zca (by kernel_rfl) fun hm=>?_;unfold maxLen at hm;have hrb:ZaC 9 rows=true:=ZaV.2 hok.rowsLen;refine gI 67126323 Tryz.func38 ?_;refine fG (@beq_self_eq_true.{0}) ?_;have F:=@e0P;refine gL (ι:=Nat) [4,5,14,26] [] (fun x=>[(5,.d (.one (.lit (.int .i64 (x:Int)))))]) (fun x=>[]) (fun x=>x<=rows.length) (fun x=>rows.length - x) (0) (Taj _) (fun x hx=>?_);clear F;by_cases hlt:x < rows.length
 ·obtain ⟨r,hr⟩:∃ r,rows[x]?=some r:=⟨_,Taa hlt⟩;have hq:=hok.get hr;obtain ⟨ln,tk,dr⟩:=hq.take (n:=9) rfl;have okc:=hq.cells;have q1:=lT x rows.length;have wi:=Zaw (k:=x) om;have fe:=aj10 hr hlt ZaZ hrb q1 okc ln tk dr (@ZaF C);refine fB @fe ?_;refine fC @fe (Zmi hq) ?_;refine fR @fe ?_;have F:=@wi;refine gG ?_;exact ⟨x+1,hlt,gw,gw,om⟩
 ·obtain rfl:x=rows.length:=by omega
  have q1:=lF rows.length rows.length;exact fT @q1
theorem ZgG {rows:List (List C)} (hok:Zaj (Zae .eqn) rows) (hb:rows.length+bulkRows rows<=1048576):ConP e0 27 [.one (.sl rows)] [] (ZbZ rows):=by
 have hrb:ZaC 9 rows=true:=ZaV.2 hok.rowsLen;have hmx:((rows.length:Int)<=(maxApp:Int))=True:=eq_true (by unfold maxApp;omega);refine gIP (ts:=[.slot 2]) [] 2077 Tryz.func27 ?_;refine fG (ai @hmx @Tbt) ?_;refine pE [] [1000] Zb3 ?_;have F:=aj3 @nla @Nat.sub_zero @tk0;refine gL (ι:=Nat × List (List Value) × (Nat->Prop)) [3,4,11] [3,1000] (fun x=>[(4,.d (.one (.lit (.int .i64 (x.1:Int))))),(3,.buf 3)]) (fun x=>[(3,.buf none 109 9 (x.2.1.map Zaf++List.replicate (rows.length - x.1) [C.lit (.int .i64 0),C.lit (.string .empty),C.lit (.int .i64 0),C.sl [],C.lit (.int .i64 0),C.lit (.string .empty),C.lit (.int .i64 0),C.sl [],C.sl []])),(1000,.set x.2.2 (fun w=>Zan w (rows.take x.1) x.2.2 x.2.1))]) (fun x=>x.1<=rows.length∧x.2.1.length=x.1) (fun x=>rows.length - x.1) ((0,[],fun _=>False)) (⟨Taj _,rfl⟩) (fun x hx=>?_);clear F
 obtain ⟨i,uss,E⟩:=x;obtain ⟨hi,hn⟩:=hx;simp only at hi hn;dsimp only;by_cases hlt:i < rows.length
 ·obtain ⟨r,hr⟩:∃ r,rows[i]?=some r:=⟨_,Taa hlt⟩;have hq:=hok.get hr;obtain ⟨ln,tk,dr⟩:=hq.take (n:=9) rfl;have okc:=hq.cells;have q1:=lT i rows.length;have wi:=Zaw (k:=i) om;have fe:=aj10 hr hlt ZaZ hrb q1 okc ln tk dr (@ZaF C);obtain ⟨k,hk⟩:∃ k,rows.length - i=k+1:=⟨rows.length - i - 1,om⟩;have hk2:rows.length - (i+1)=k:=om;rw [hk];have bl:(uss.map Zaf++List.replicate (k+1) [C.lit (.int .i64 0),C.lit (.string .empty),C.lit (.int .i64 0),C.sl [],C.lit (.int .i64 0),C.lit (.string .empty),C.lit (.int .i64 0),C.sl [],C.sl []]).length=rows.length:=by simp;omega
  have bs:∀ X,(uss.map Zaf++List.replicate (k+1) [C.lit (.int .i64 0),C.lit (.string .empty),C.lit (.int .i64 0),C.sl [],C.lit (.int .i64 0),C.lit (.string .empty),C.lit (.int .i64 0),C.sl [],C.sl []]).set i X=(uss.map Zaf++[X])++List.replicate k [C.lit (.int .i64 0),C.lit (.string .empty),C.lit (.int .i64 0),C.sl [],C.lit (.int .i64 0),C.lit (.string .empty),C.lit (.int .i64 0),C.sl [],C.sl []]:=fun X=>Zey _ _ _ _ _ (by simp [hn])
  have bg:(uss.map Zaf++List.replicate (k+1) [C.lit (.int .i64 0),C.lit (.string .empty),C.lit (.int .i64 0),C.sl [],C.lit (.int .i64 0),C.lit (.string .empty),C.lit (.int .i64 0),C.sl [],C.sl []])[i]?=some [C.lit (.int .i64 0),C.lit (.string .empty),C.lit (.int .i64 0),C.sl [],C.lit (.int .i64 0),C.lit (.string .empty),C.lit (.int .i64 0),C.sl [],C.sl []]:=by rw [Tbo (by simp;omega),Tbp,if_pos (by simp;omega)]
  have hbr:=ZbF hr;refine fB (ai @fe @bl) ?_;have F:=ai @fe @bl;refine gCP [] [1001] (ZlI hq om) ?_;clear F;rintro r' pm ⟨us,E2,rfl,hu,hok2,rfl⟩;rw [ln] at hu;obtain ⟨u0,u1,u2,u3,u4,u5,u6,u7,u8,rfl⟩:=len9 hu;have hok2:Zai (.lit u0)=true∧Zai (.lit u1)=true∧Zai (.lit u2)=true∧Zai (.lit u3)=true∧Zai (.lit u4)=true∧Zai (.lit u5)=true∧Zai (.lit u6)=true∧Zai (.lit u7)=true∧Zai (.lit u8)=true:=by simpa [Zaf,Tar,and_assoc] using hok2
  obtain ⟨k0,k1,k2,k3,k4,k5,k6,k7,k8⟩:=hok2;have lr:Zaf [u0,u1,u2,u3,u4,u5,u6,u7,u8]=[.lit u0,.lit u1,.lit u2,.lit u3,.lit u4,.lit u5,.lit u6,.lit u7,.lit u8]:=rfl;rw [lr];simp only [setA,retA,zipM,Taf,Tah];refine fR (aj13 @hlt @bl @bs @bg @k0 @k1 @k2 @k3 @k4 @k5 @k6 @k7 @k8) ?_;refine pE [1000,1001] [1000] (ZfQ (G':=fun w=>Zan w (rows.take (i+1)) (fun b=>E b∨E2 b) (uss++[[u0,u1,u2,u3,u4,u5,u6,u7,u8]])) (fun w h1 h2 hd=>?_) (Zan.stable _ _ _)) ?_
  ·rw [tks hr];exact Zan.snoc h1 h2 (fun _ h=>.inl h) (fun _ h=>.inr h) hd
  have F:=aj5 @bs @wi @hk2 @lr ((@Tbr.{0,0}));refine gG ?_;exact ⟨(i+1,uss++[[u0,u1,u2,u3,u4,u5,u6,u7,u8]],fun b=>E b∨E2 b),⟨hlt,by simp [hn]⟩,gw,gw,om⟩
 ·obtain rfl:i=rows.length:=by omega
  have q1:=lF rows.length rows.length;rw [Nat.sub_self,List.replicate_zero,List.append_nil,Tap];refine fG @q1 ?_;refine pS 2 fun a cap=>?_;refine pE [2,1000] [1000] (ZbL (fun w h=>h) (Own.stable _ _ _)) ?_;exact (have F:=e0P;gTP (R:=ZbZ rows) [1000] ⟨.slice a uss.length cap,_,rfl,rfl,rfl⟩)
theorem Zts {row:List C} (hok:Zak (Zae .decl) row) {left:Int} (h0:0<=left) (h1:left<=1048576):Con e0 156 [.agg row,.one (.lit (.int .i64 left))] [.one (.lit (.int .i64 (sub left (bulkRow row))))]:=by
 obtain ⟨r0,i1,rfl,g0,g1⟩:=Ze7 hok;rw [show bulkRow [.sl r0,.lit (.int .i64 i1)]=(r0.length+bulkRows r0) by simp only [bulkRow,ZaU];omega];refine gI 1047 Tryz.func156 ?_;refine fB @e0P ?_;refine fC @e0P (Ztq g0 (left:=left) om om) ?_;refine fR @e0P ?_;by_cases q:left < (((r0.length+bulkRows r0):Nat):Int)
 ·rw [Zay (b:=(r0.length+bulkRows r0)) q]
  try rw [Zay om]
  have q':=lT (-1) 0;exact fT @q'
 rw [ZaP (b:=(r0.length+bulkRows r0)) om];have q':(left - (((r0.length+bulkRows r0):Nat):Int) < 0)=False:=eq_false om;refine fG @q' ?_;obtain ⟨L0,e0⟩:∃ x,x=left - (((r0.length+bulkRows r0):Nat):Int):=⟨_,rfl⟩;rw [<- e0];clear q'
 try rw [ZaP om,show left - (((r0.length+bulkRows r0):Nat):Int)=L0 by omega]
 exact fT @e0P
theorem Ztt {row:List C} (hok:Zak (Zae .decl) row):Con e0 168 [.agg row,.agg row] [.one (.lit (.bool true))]:=by
 obtain ⟨r0,i1,rfl,g0,g1⟩:=Ze7 hok;refine gI 33823 Tryz.func168 ?_;refine fB (@beq_self_eq_true.{0}) ?_;refine fC @e0P (Ztr g0) ?_;refine fR @e0P ?_;exact fT (@beq_self_eq_true.{0})
theorem ZqG {row:List C} (hok:Zak (Zae .decl) row) (hb:bulkRow row<=1048576):ConP e0 160 [.agg row] [] (Za8 row):=by
 obtain ⟨r0,i1,rfl,g0,g1⟩:=Ze7 hok;simp only [bulkRow,ZaU] at hb;refine gIP (ts:=[.cell 2 163]) [] 15 Tryz.func160 ?_;refine fB @e0P ?_;have F:=@e0P;refine gCP [] [1000] (ZqF g0 om) ?_;clear F;rintro r pm ⟨u0,E0,rfl,k0,rfl⟩;simp only [setA,retA,zipM,Taf,Tah];refine fR @k0 ?_;refine fG @k0 ?_;obtain ⟨E,hre⟩:∃ E,ZaS [.set E0 (fun w=>Own w (.sl r0) E0 u0)] [.set E (fun w=>Zag w [.sl r0,.lit (.int .i64 i1)] E [u0,.int .i64 i1])]:=⟨_,ZdF [.sl E0 r0 u0,.lits [.int .i64 i1]]⟩
 refine pE [1000] [1000] hre ?_;have hm:=Za8.mk (row:=[.sl r0,.lit (.int .i64 i1)]) (us:=[u0,.int .i64 i1]) (E:=E) rfl (by simp only [Zaf,Tbq,List.map_nil,List.all_cons,List.all_nil,Bool.and_true,Tar];exact ⟨k0,rfl⟩);exact (have F:=e0P;gTP (R:=Za8 [.sl r0,.lit (.int .i64 i1)]) [1000] hm)
theorem ZqH {rows:List (List C)} (hok:Zaj (Zae .decl) rows) {left:Int} (h0:0<=left) (h1:left<=1048576):Con e0 127 [.one (.sl rows),.one (.lit (.int .i64 left))] [.one (.lit (.int .i64 (sub left (rows.length+bulkRows rows))))]:=by
 refine Zca (by kernel_rfl) fun hm=>?_;unfold maxLen at hm;have w:IntKind.i64.wrap (left - (rows.length:Int))=left - (rows.length:Int):=IntWalk.i64_in _ om;have hrb:ZaC 2 rows=true:=ZaV.2 hok.rowsLen;refine gI 33589299 Tryz.func127 ?_;by_cases q:left < (rows.length:Int)
 ·rw [Zay om];have q':(left - (rows.length:Int) < 0)=True:=eq_true om;exact fT (ai @w @q')
 have q':(left - (rows.length:Int) < 0)=False:=eq_false om;refine fG (ai @w @q') ?_;have F:=aj4 @tk0 @Zei @Int.natCast_zero @Int.sub_zero;refine gL (ι:=Nat) [1,4,5,15,25] [] (fun x=>[(5,.d (.one (.lit (.int .i64 (x:Int))))),(1,.d (.one (.lit (.int .i64 (left - (rows.length:Int) - (bulkRows (rows.take x):Int))))))]) (fun x=>[]) (fun x=>x<=rows.length∧0<=left - (rows.length:Int) - (bulkRows (rows.take x):Int)) (fun x=>rows.length - x) (0) (⟨Taj _,by simp [bulkRows];omega⟩) (fun x hx=>?_);clear F
 obtain ⟨hx,hl⟩:=hx;by_cases hlt:x < rows.length
 ·obtain ⟨r,hr⟩:∃ r,rows[x]?=some r:=⟨_,Taa hlt⟩;have hq:=hok.get hr;obtain ⟨ln,tk,dr⟩:=hq.take (n:=2) rfl;have okc:=hq.cells;have q1:=lT x rows.length;have wi:=Zaw (k:=x) om;have hbt:=Zc3 hr;have hbl:=ZcD rows (x+1)
  skip
  have fe:=aj10 hr hlt ZaZ hrb q1 okc ln tk dr (@ZaF C);obtain ⟨l,hle⟩:∃ l,l=left - (rows.length:Int) - (bulkRows (rows.take x):Int):=⟨_,rfl⟩;rw [<- hle];refine fB @fe ?_;refine fC @fe (Zts hq (left:=l) om om) ?_;refine fR @fe ?_;by_cases q:l < ((bulkRow r:Nat):Int)
  ·rw [Zay (b:=bulkRow r) q,Zay om];have q':=lT (-1) 0;exact fT @q'
  rw [ZaP (b:=bulkRow r) om];have q':(l - ((bulkRow r:Nat):Int) < 0)=False:=eq_false om;have e:left - (rows.length:Int) - (bulkRows (rows.take (x+1)):Int)=l - ((bulkRow r:Nat):Int):=om;have F:=aj3 @q' @wi @e;refine gG ?_;exact ⟨x+1,⟨hlt,om⟩,gw,gw,om⟩
 ·obtain rfl:x=rows.length:=by omega
  have q1:=lF rows.length rows.length;rw [Tap] at hl ⊢;rw [ZaP om,show left - ((rows.length+bulkRows rows:Nat):Int)=left - (rows.length:Int) - (bulkRows rows:Int) by omega];exact fT @q1
theorem ZqI {rows:List (List C)} (hok:Zaj (Zae .decl) rows):Con e0 153 [.one (.sl rows),.one (.sl rows)] [.one (.lit (.bool true))]:=by
 refine Zca (by kernel_rfl) fun hm=>?_;unfold maxLen at hm;have hrb:ZaC 2 rows=true:=ZaV.2 hok.rowsLen;refine gI 67126323 Tryz.func153 ?_;refine fG (@beq_self_eq_true.{0}) ?_;have F:=@e0P;refine gL (ι:=Nat) [4,5,14,26] [] (fun x=>[(5,.d (.one (.lit (.int .i64 (x:Int)))))]) (fun x=>[]) (fun x=>x<=rows.length) (fun x=>rows.length - x) (0) (Taj _) (fun x hx=>?_);clear F;by_cases hlt:x < rows.length
 ·obtain ⟨r,hr⟩:∃ r,rows[x]?=some r:=⟨_,Taa hlt⟩;have hq:=hok.get hr;obtain ⟨ln,tk,dr⟩:=hq.take (n:=2) rfl;have okc:=hq.cells;have q1:=lT x rows.length;have wi:=Zaw (k:=x) om;have fe:=aj10 hr hlt ZaZ hrb q1 okc ln tk dr (@ZaF C);refine fB @fe ?_;refine fC @fe (Ztt hq) ?_;refine fR @fe ?_;have F:=@wi;refine gG ?_;exact ⟨x+1,hlt,gw,gw,om⟩
 ·obtain rfl:x=rows.length:=by omega
  have q1:=lF rows.length rows.length;exact fT @q1
theorem ZpJ {rows:List (List C)} (hok:Zaj (Zae .decl) rows) (hb:rows.length+bulkRows rows<=1048576):ConP e0 137 [.one (.sl rows)] [] (ZbZ rows):=by
 have hrb:ZaC 2 rows=true:=ZaV.2 hok.rowsLen;have hmx:((rows.length:Int)<=(maxApp:Int))=True:=eq_true (by unfold maxApp;omega);refine gIP (ts:=[.slot 2]) [] 2077 Tryz.func137 ?_;refine fG (ai @hmx @Tbt) ?_;refine pE [] [1000] Zb3 ?_;have F:=aj3 @nla @Nat.sub_zero @tk0;refine gL (ι:=Nat × List (List Value) × (Nat->Prop)) [3,4,11] [3,1000] (fun x=>[(4,.d (.one (.lit (.int .i64 (x.1:Int))))),(3,.buf 3)]) (fun x=>[(3,.buf none 163 2 (x.2.1.map Zaf++List.replicate (rows.length - x.1) [C.sl [],C.lit (.int .i64 0)])),(1000,.set x.2.2 (fun w=>Zan w (rows.take x.1) x.2.2 x.2.1))]) (fun x=>x.1<=rows.length∧x.2.1.length=x.1) (fun x=>rows.length - x.1) ((0,[],fun _=>False)) (⟨Taj _,rfl⟩) (fun x hx=>?_);clear F
 obtain ⟨i,uss,E⟩:=x;obtain ⟨hi,hn⟩:=hx;simp only at hi hn;dsimp only;by_cases hlt:i < rows.length
 ·obtain ⟨r,hr⟩:∃ r,rows[i]?=some r:=⟨_,Taa hlt⟩;have hq:=hok.get hr;obtain ⟨ln,tk,dr⟩:=hq.take (n:=2) rfl;have okc:=hq.cells;have q1:=lT i rows.length;have wi:=Zaw (k:=i) om;have fe:=aj10 hr hlt ZaZ hrb q1 okc ln tk dr (@ZaF C);obtain ⟨k,hk⟩:∃ k,rows.length - i=k+1:=⟨rows.length - i - 1,om⟩;have hk2:rows.length - (i+1)=k:=om;rw [hk];have bl:(uss.map Zaf++List.replicate (k+1) [C.sl [],C.lit (.int .i64 0)]).length=rows.length:=by simp;omega
  have bs:∀ X,(uss.map Zaf++List.replicate (k+1) [C.sl [],C.lit (.int .i64 0)]).set i X=(uss.map Zaf++[X])++List.replicate k [C.sl [],C.lit (.int .i64 0)]:=fun X=>Zey _ _ _ _ _ (by simp [hn]);have bg:(uss.map Zaf++List.replicate (k+1) [C.sl [],C.lit (.int .i64 0)])[i]?=some [C.sl [],C.lit (.int .i64 0)]:=by rw [Tbo (by simp;omega),Tbp,if_pos (by simp;omega)]
  have hbr:=ZbF hr;refine fB (ai @fe @bl) ?_;have F:=ai @fe @bl;refine gCP [] [1001] (ZqG hq om) ?_;clear F;rintro r' pm ⟨us,E2,rfl,hu,hok2,rfl⟩;rw [ln] at hu;obtain ⟨u0,u1,rfl⟩:=len2 hu;have hok2:Zai (.lit u0)=true∧Zai (.lit u1)=true:=by simpa [Zaf,Tar,and_assoc] using hok2
  obtain ⟨k0,k1⟩:=hok2;have lr:Zaf [u0,u1]=[.lit u0,.lit u1]:=rfl;rw [lr];simp only [setA,retA,zipM,Taf,Tah];refine fR (aj6 @hlt @bl @bs @bg @k0 @k1) ?_;refine pE [1000,1001] [1000] (ZfQ (G':=fun w=>Zan w (rows.take (i+1)) (fun b=>E b∨E2 b) (uss++[[u0,u1]])) (fun w h1 h2 hd=>?_) (Zan.stable _ _ _)) ?_
  ·rw [tks hr];exact Zan.snoc h1 h2 (fun _ h=>.inl h) (fun _ h=>.inr h) hd
  have F:=aj5 @bs @wi @hk2 @lr ((@Tbr.{0,0}));refine gG ?_;exact ⟨(i+1,uss++[[u0,u1]],fun b=>E b∨E2 b),⟨hlt,by simp [hn]⟩,gw,gw,om⟩
 ·obtain rfl:i=rows.length:=by omega
  have q1:=lF rows.length rows.length;rw [Nat.sub_self,List.replicate_zero,List.append_nil,Tap];refine fG @q1 ?_;refine pS 2 fun a cap=>?_;refine pE [2,1000] [1000] (ZbL (fun w h=>h) (Own.stable _ _ _)) ?_;exact (have F:=e0P;gTP (R:=ZbZ rows) [1000] ⟨.slice a uss.length cap,_,rfl,rfl,rfl⟩)
theorem Zyp {row:List C} (hok:Zak (Zae .op) row) {left:Int} (h0:0<=left) (h1:left<=1048576):Con e0 80 [.agg row,.one (.lit (.int .i64 left))] [.one (.lit (.int .i64 (sub left (bulkRow row))))]:=by
 obtain ⟨t0,r1,p2,p3,i4,rfl,g0,g1,g2,g3,g4⟩:=Zgq hok;rw [show bulkRow [.lit (.string t0),.sl r1,.lit (.bool p2),.lit (.bool p3),.lit (.int .i64 i4)]=t0.size+(r1.length+bulkRows r1) by simp only [bulkRow,ZaU];omega];refine gI 133143 Tryz.func80 ?_;have hs:=g0;unfold maxLen at hs;have w:IntKind.i64.wrap (left - (t0.size:Int))=left - (t0.size:Int):=IntWalk.i64_in _ om;clear hs;by_cases q:left < (t0.size:Int)
 ·rw [Zay om];have q':(left - (t0.size:Int) < 0)=True:=eq_true om;exact fT (ai @w @q')
 have q':(left - (t0.size:Int) < 0)=False:=eq_false om;refine fG (ai @w @q') ?_;obtain ⟨L0,e0⟩:∃ x,x=left - (t0.size:Int):=⟨_,rfl⟩;rw [<- e0];clear w q';refine fB @e0P ?_;refine fC @e0P (ZqH g1 (left:=L0) om om) ?_;refine fR @e0P ?_;by_cases q:L0 < (((r1.length+bulkRows r1):Nat):Int)
 ·rw [Zay (b:=(r1.length+bulkRows r1)) q]
  try rw [Zay om]
  have q':=lT (-1) 0;exact fT @q'
 rw [ZaP (b:=(r1.length+bulkRows r1)) om];have q':(L0 - (((r1.length+bulkRows r1):Nat):Int) < 0)=False:=eq_false om;refine fG @q' ?_;obtain ⟨L1,e1⟩:∃ x,x=L0 - (((r1.length+bulkRows r1):Nat):Int):=⟨_,rfl⟩;rw [<- e1];clear q'
 try rw [ZaP om,show left - ((t0.size+(r1.length+bulkRows r1):Nat):Int)=L1 by omega]
 exact fT @e0P
theorem Zyq {row:List C} (hok:Zak (Zae .op) row):Con e0 122 [.agg row,.agg row] [.one (.lit (.bool true))]:=by
 obtain ⟨t0,r1,p2,p3,i4,rfl,g0,g1,g2,g3,g4⟩:=Zgq hok;refine gI 1108378143 Tryz.func122 ?_;refine fB (@beq_self_eq_true.{0}) ?_;refine fC @e0P (ZqI g1) ?_;refine fR @e0P ?_;exact fT (@beq_self_eq_true.{0})
theorem Zxe {row:List C} (hok:Zak (Zae .op) row) (hb:bulkRow row<=1048576):ConP e0 102 [.agg row] [] (Za8 row):=by
 obtain ⟨t0,r1,p2,p3,i4,rfl,g0,g1,g2,g3,g4⟩:=Zgq hok;simp only [bulkRow,ZaU] at hb;refine gIP (ts:=[.cell 2 150]) [] 15 Tryz.func102 ?_;refine fB @e0P ?_;have F:=@e0P;refine gCP [] [1000] (ZpJ g1 om) ?_;clear F;rintro r pm ⟨u1,E1,rfl,k1,rfl⟩;simp only [setA,retA,zipM,Taf,Tah];refine fR @k1 ?_;refine fG @k1 ?_;obtain ⟨E,hre⟩:∃ E,ZaS [.set E1 (fun w=>Own w (.sl r1) E1 u1)] [.set E (fun w=>Zag w [.lit (.string t0),.sl r1,.lit (.bool p2),.lit (.bool p3),.lit (.int .i64 i4)] E [.string t0,u1,.bool p2,.bool p3,.int .i64 i4])]:=⟨_,ZdF [.lits [.string t0],.sl E1 r1 u1,.lits [.bool p2,.bool p3,.int .i64 i4]]⟩
 refine pE [1000] [1000] hre ?_;have hm:=Za8.mk (row:=[.lit (.string t0),.sl r1,.lit (.bool p2),.lit (.bool p3),.lit (.int .i64 i4)]) (us:=[.string t0,u1,.bool p2,.bool p3,.int .i64 i4]) (E:=E) rfl (by simp only [Zaf,Tbq,List.map_nil,List.all_cons,List.all_nil,Bool.and_true,Tar];exact ⟨rfl,k1,rfl,rfl,rfl⟩);exact (have F:=e0P;gTP (R:=Za8 [.lit (.string t0),.sl r1,.lit (.bool p2),.lit (.bool p3),.lit (.int .i64 i4)]) [1000] hm)
theorem Zxf {rows:List (List C)} (hok:Zaj (Zae .op) rows) {left:Int} (h0:0<=left) (h1:left<=1048576):Con e0 46 [.one (.sl rows),.one (.lit (.int .i64 left))] [.one (.lit (.int .i64 (sub left (rows.length+bulkRows rows))))]:=by
 refine Zca (by kernel_rfl) fun hm=>?_;unfold maxLen at hm;have w:IntKind.i64.wrap (left - (rows.length:Int))=left - (rows.length:Int):=IntWalk.i64_in _ om;have hrb:ZaC 5 rows=true:=ZaV.2 hok.rowsLen;refine gI 33589299 Tryz.func46 ?_;by_cases q:left < (rows.length:Int)
 ·rw [Zay om];have q':(left - (rows.length:Int) < 0)=True:=eq_true om;exact fT (ai @w @q')
 have q':(left - (rows.length:Int) < 0)=False:=eq_false om;refine fG (ai @w @q') ?_;have F:=aj4 @tk0 @Zei @Int.natCast_zero @Int.sub_zero;refine gL (ι:=Nat) [1,4,5,15,25] [] (fun x=>[(5,.d (.one (.lit (.int .i64 (x:Int))))),(1,.d (.one (.lit (.int .i64 (left - (rows.length:Int) - (bulkRows (rows.take x):Int))))))]) (fun x=>[]) (fun x=>x<=rows.length∧0<=left - (rows.length:Int) - (bulkRows (rows.take x):Int)) (fun x=>rows.length - x) (0) (⟨Taj _,by simp [bulkRows];omega⟩) (fun x hx=>?_);clear F
 obtain ⟨hx,hl⟩:=hx;by_cases hlt:x < rows.length
 ·obtain ⟨r,hr⟩:∃ r,rows[x]?=some r:=⟨_,Taa hlt⟩;have hq:=hok.get hr;obtain ⟨ln,tk,dr⟩:=hq.take (n:=5) rfl;have okc:=hq.cells;have q1:=lT x rows.length;have wi:=Zaw (k:=x) om;have hbt:=Zc3 hr;have hbl:=ZcD rows (x+1)
  skip
  have fe:=aj10 hr hlt ZaZ hrb q1 okc ln tk dr (@ZaF C);obtain ⟨l,hle⟩:∃ l,l=left - (rows.length:Int) - (bulkRows (rows.take x):Int):=⟨_,rfl⟩;rw [<- hle];refine fB @fe ?_;refine fC @fe (Zyp hq (left:=l) om om) ?_;refine fR @fe ?_;by_cases q:l < ((bulkRow r:Nat):Int)
  ·rw [Zay (b:=bulkRow r) q,Zay om];have q':=lT (-1) 0;exact fT @q'
  rw [ZaP (b:=bulkRow r) om];have q':(l - ((bulkRow r:Nat):Int) < 0)=False:=eq_false om;have e:left - (rows.length:Int) - (bulkRows (rows.take (x+1)):Int)=l - ((bulkRow r:Nat):Int):=om;have F:=aj3 @q' @wi @e;refine gG ?_;exact ⟨x+1,⟨hlt,om⟩,gw,gw,om⟩
 ·obtain rfl:x=rows.length:=by omega
  have q1:=lF rows.length rows.length;rw [Tap] at hl ⊢;rw [ZaP om,show left - ((rows.length+bulkRows rows:Nat):Int)=left - (rows.length:Int) - (bulkRows rows:Int) by omega];exact fT @q1
theorem Zxg {rows:List (List C)} (hok:Zaj (Zae .op) rows):Con e0 71 [.one (.sl rows),.one (.sl rows)] [.one (.lit (.bool true))]:=by
 refine Zca (by kernel_rfl) fun hm=>?_;unfold maxLen at hm;have hrb:ZaC 5 rows=true:=ZaV.2 hok.rowsLen;refine gI 67126323 Tryz.func71 ?_;refine fG (@beq_self_eq_true.{0}) ?_;have F:=@e0P;refine gL (ι:=Nat) [4,5,14,26] [] (fun x=>[(5,.d (.one (.lit (.int .i64 (x:Int)))))]) (fun x=>[]) (fun x=>x<=rows.length) (fun x=>rows.length - x) (0) (Taj _) (fun x hx=>?_);clear F;by_cases hlt:x < rows.length
 ·obtain ⟨r,hr⟩:∃ r,rows[x]?=some r:=⟨_,Taa hlt⟩;have hq:=hok.get hr;obtain ⟨ln,tk,dr⟩:=hq.take (n:=5) rfl;have okc:=hq.cells;have q1:=lT x rows.length;have wi:=Zaw (k:=x) om;have fe:=aj10 hr hlt ZaZ hrb q1 okc ln tk dr (@ZaF C);refine fB @fe ?_;refine fC @fe (Zyq hq) ?_;refine fR @fe ?_;have F:=@wi;refine gG ?_;exact ⟨x+1,hlt,gw,gw,om⟩
 ·obtain rfl:x=rows.length:=by omega
  have q1:=lF rows.length rows.length;exact fT @q1
theorem Ztu {rows:List (List C)} (hok:Zaj (Zae .op) rows) (hb:rows.length+bulkRows rows<=1048576):ConP e0 56 [.one (.sl rows)] [] (ZbZ rows):=by
 have hrb:ZaC 5 rows=true:=ZaV.2 hok.rowsLen;have hmx:((rows.length:Int)<=(maxApp:Int))=True:=eq_true (by unfold maxApp;omega);refine gIP (ts:=[.slot 2]) [] 2077 Tryz.func56 ?_;refine fG (ai @hmx @Tbt) ?_;refine pE [] [1000] Zb3 ?_;have F:=aj3 @nla @Nat.sub_zero @tk0;refine gL (ι:=Nat × List (List Value) × (Nat->Prop)) [3,4,11] [3,1000] (fun x=>[(4,.d (.one (.lit (.int .i64 (x.1:Int))))),(3,.buf 3)]) (fun x=>[(3,.buf none 150 5 (x.2.1.map Zaf++List.replicate (rows.length - x.1) [C.lit (.string .empty),C.sl [],C.lit (.bool false),C.lit (.bool false),C.lit (.int .i64 0)])),(1000,.set x.2.2 (fun w=>Zan w (rows.take x.1) x.2.2 x.2.1))]) (fun x=>x.1<=rows.length∧x.2.1.length=x.1) (fun x=>rows.length - x.1) ((0,[],fun _=>False)) (⟨Taj _,rfl⟩) (fun x hx=>?_);clear F
 obtain ⟨i,uss,E⟩:=x;obtain ⟨hi,hn⟩:=hx;simp only at hi hn;dsimp only;by_cases hlt:i < rows.length
 ·obtain ⟨r,hr⟩:∃ r,rows[i]?=some r:=⟨_,Taa hlt⟩;have hq:=hok.get hr;obtain ⟨ln,tk,dr⟩:=hq.take (n:=5) rfl;have okc:=hq.cells;have q1:=lT i rows.length;have wi:=Zaw (k:=i) om;have fe:=aj10 hr hlt ZaZ hrb q1 okc ln tk dr (@ZaF C);obtain ⟨k,hk⟩:∃ k,rows.length - i=k+1:=⟨rows.length - i - 1,om⟩;have hk2:rows.length - (i+1)=k:=om;rw [hk];have bl:(uss.map Zaf++List.replicate (k+1) [C.lit (.string .empty),C.sl [],C.lit (.bool false),C.lit (.bool false),C.lit (.int .i64 0)]).length=rows.length:=by simp;omega
  have bs:∀ X,(uss.map Zaf++List.replicate (k+1) [C.lit (.string .empty),C.sl [],C.lit (.bool false),C.lit (.bool false),C.lit (.int .i64 0)]).set i X=(uss.map Zaf++[X])++List.replicate k [C.lit (.string .empty),C.sl [],C.lit (.bool false),C.lit (.bool false),C.lit (.int .i64 0)]:=fun X=>Zey _ _ _ _ _ (by simp [hn]);have bg:(uss.map Zaf++List.replicate (k+1) [C.lit (.string .empty),C.sl [],C.lit (.bool false),C.lit (.bool false),C.lit (.int .i64 0)])[i]?=some [C.lit (.string .empty),C.sl [],C.lit (.bool false),C.lit (.bool false),C.lit (.int .i64 0)]:=by rw [Tbo (by simp;omega),Tbp,if_pos (by simp;omega)]
  have hbr:=ZbF hr;refine fB (ai @fe @bl) ?_;have F:=ai @fe @bl;refine gCP [] [1001] (Zxe hq om) ?_;clear F;rintro r' pm ⟨us,E2,rfl,hu,hok2,rfl⟩;rw [ln] at hu;obtain ⟨u0,u1,u2,u3,u4,rfl⟩:=len5 hu;have hok2:Zai (.lit u0)=true∧Zai (.lit u1)=true∧Zai (.lit u2)=true∧Zai (.lit u3)=true∧Zai (.lit u4)=true:=by simpa [Zaf,Tar,and_assoc] using hok2
  obtain ⟨k0,k1,k2,k3,k4⟩:=hok2;have lr:Zaf [u0,u1,u2,u3,u4]=[.lit u0,.lit u1,.lit u2,.lit u3,.lit u4]:=rfl;rw [lr];simp only [setA,retA,zipM,Taf,Tah];refine fR (aj9 @hlt @bl @bs @bg @k0 @k1 @k2 @k3 @k4) ?_;refine pE [1000,1001] [1000] (ZfQ (G':=fun w=>Zan w (rows.take (i+1)) (fun b=>E b∨E2 b) (uss++[[u0,u1,u2,u3,u4]])) (fun w h1 h2 hd=>?_) (Zan.stable _ _ _)) ?_
  ·rw [tks hr];exact Zan.snoc h1 h2 (fun _ h=>.inl h) (fun _ h=>.inr h) hd
  have F:=aj5 @bs @wi @hk2 @lr ((@Tbr.{0,0}));refine gG ?_;exact ⟨(i+1,uss++[[u0,u1,u2,u3,u4]],fun b=>E b∨E2 b),⟨hlt,by simp [hn]⟩,gw,gw,om⟩
 ·obtain rfl:i=rows.length:=by omega
  have q1:=lF rows.length rows.length;rw [Nat.sub_self,List.replicate_zero,List.append_nil,Tap];refine fG @q1 ?_;refine pS 2 fun a cap=>?_;refine pE [2,1000] [1000] (ZbL (fun w h=>h) (Own.stable _ _ _)) ?_;exact (have F:=e0P;gTP (R:=ZbZ rows) [1000] ⟨.slice a uss.length cap,_,rfl,rfl,rfl⟩)
theorem Znw {rows:List (List C)} (hok:Zaj (Zae .str) rows) {left:Int} (h0:0<=left) (h1:left<=1048576):Con e0 78 [.one (.sl rows),.one (.lit (.int .i64 left))] [.one (.lit (.int .i64 (sub left (rows.length+bulkRows rows))))]:=by
 refine Zca (by kernel_rfl) fun hm=>?_;unfold maxLen at hm;have w:IntKind.i64.wrap (left - (rows.length:Int))=left - (rows.length:Int):=IntWalk.i64_in _ om;have hrb:ZaC 1 rows=true:=ZaV.2 hok.rowsLen;refine gI 67143731 Tryz.func78 ?_;by_cases q:left < (rows.length:Int)
 ·rw [Zay om];have q':(left - (rows.length:Int) < 0)=True:=eq_true om;exact fT (ai @w @q')
 have q':(left - (rows.length:Int) < 0)=False:=eq_false om;refine fG (ai @w @q') ?_;have F:=aj4 @tk0 @Zei @Int.natCast_zero @Int.sub_zero;refine gL (ι:=Nat) [1,4,5,15,26] [] (fun x=>[(5,.d (.one (.lit (.int .i64 (x:Int))))),(1,.d (.one (.lit (.int .i64 (left - (rows.length:Int) - (bulkRows (rows.take x):Int))))))]) (fun x=>[]) (fun x=>x<=rows.length∧0<=left - (rows.length:Int) - (bulkRows (rows.take x):Int)) (fun x=>rows.length - x) (0) (⟨Taj _,by simp [bulkRows];omega⟩) (fun x hx=>?_);clear F
 obtain ⟨hx,hl⟩:=hx;by_cases hlt:x < rows.length
 ·obtain ⟨r,hr⟩:∃ r,rows[x]?=some r:=⟨_,Taa hlt⟩;obtain ⟨x0,rfl,g0⟩:=Zea (hok.get hr);have q1:=lT x rows.length;have wi:=Zaw (k:=x) om;have hbt:=Zc3 hr;have hbl:=ZcD rows (x+1);have hbe:bulkRow [.lit (.string x0)]=x0.size:=by simp [bulkRow,ZaU]
  have fe:=aj5 hr hlt ZaZ hrb q1;obtain ⟨l,hle⟩:∃ l,l=left - (rows.length:Int) - (bulkRows (rows.take x):Int):=⟨_,rfl⟩;rw [<- hle];have hs:=g0;unfold maxLen at hs;have w:IntKind.i64.wrap (l - (x0.size:Int))=l - (x0.size:Int):=IntWalk.i64_in _ om;by_cases q:l < (x0.size:Int)
  ·rw [Zay om];have q':(l - (x0.size:Int) < 0)=True:=eq_true om;exact fT (aj3 @w @q' @fe)
  have q':(l - (x0.size:Int) < 0)=False:=eq_false om;refine fG (aj3 @w @q' @fe) ?_;have e:left - (rows.length:Int) - (bulkRows (rows.take (x+1)):Int)=l - ((x0.size:Nat):Int):=om;have F:=aj3 @q' @wi @e;refine gG ?_;exact ⟨x+1,⟨hlt,om⟩,gw,gw,om⟩
 ·obtain rfl:x=rows.length:=by omega
  have q1:=lF rows.length rows.length;rw [Tap] at hl ⊢;rw [ZaP om,show left - ((rows.length+bulkRows rows:Nat):Int)=left - (rows.length:Int) - (bulkRows rows:Int) by omega];exact fT @q1
theorem Znx {rows:List (List C)} (hok:Zaj (Zae .str) rows):Con e0 120 [.one (.sl rows),.one (.sl rows)] [.one (.lit (.bool true))]:=by
 refine Zca (by kernel_rfl) fun hm=>?_;unfold maxLen at hm;have hrb:ZaC 1 rows=true:=ZaV.2 hok.rowsLen;refine gI 33571891 Tryz.func120 ?_;refine fG (@beq_self_eq_true.{0}) ?_;have F:=@e0P;refine gL (ι:=Nat) [4,5,14,25] [] (fun x=>[(5,.d (.one (.lit (.int .i64 (x:Int)))))]) (fun x=>[]) (fun x=>x<=rows.length) (fun x=>rows.length - x) (0) (Taj _) (fun x hx=>?_);clear F;by_cases hlt:x < rows.length
 ·obtain ⟨r,hr⟩:∃ r,rows[x]?=some r:=⟨_,Taa hlt⟩;obtain ⟨x0,rfl,g0⟩:=Zea (hok.get hr);have q1:=lT x rows.length;have wi:=Zaw (k:=x) om;have fe:=aj5 hr hlt ZaZ hrb q1;have F:=aj3 @beq_self_eq_true.{0} @wi @fe;refine gG ?_;exact ⟨x+1,hlt,gw,gw,om⟩
 ·obtain rfl:x=rows.length:=by omega
  have q1:=lF rows.length rows.length;exact fT @q1
theorem Zmj {rows:List (List C)} (hok:Zaj (Zae .str) rows) (hb:rows.length+bulkRows rows<=1048576):ConP e0 100 [.one (.sl rows)] [] (ZbZ rows):=by
 have hrb:ZaC 1 rows=true:=ZaV.2 hok.rowsLen;have hmx:((rows.length:Int)<=(maxApp:Int))=True:=eq_true (by unfold maxApp;omega);refine gIP (ts:=[.slot 2]) [] 2077 Tryz.func100 ?_;refine fG (ai @hmx @Tbt) ?_;refine pE [] [1000] Zb3 ?_;have F:=aj3 @nla @Nat.sub_zero @tk0;refine gL (ι:=Nat × List (List Value) × (Nat->Prop)) [3,4,11] [3,1000] (fun x=>[(4,.d (.one (.lit (.int .i64 (x.1:Int))))),(3,.buf 3)]) (fun x=>[(3,.buf none 9 1 (x.2.1.map Zaf++List.replicate (rows.length - x.1) [C.lit (.string .empty)])),(1000,.set x.2.2 (fun w=>Zan w (rows.take x.1) x.2.2 x.2.1))]) (fun x=>x.1<=rows.length∧x.2.1.length=x.1) (fun x=>rows.length - x.1) ((0,[],fun _=>False)) (⟨Taj _,rfl⟩) (fun x hx=>?_);clear F
 obtain ⟨i,uss,E⟩:=x;obtain ⟨hi,hn⟩:=hx;simp only at hi hn;dsimp only;by_cases hlt:i < rows.length
 ·obtain ⟨r,hr⟩:∃ r,rows[i]?=some r:=⟨_,Taa hlt⟩;obtain ⟨x0,rfl,g0⟩:=Zea (hok.get hr);have q1:=lT i rows.length;have wi:=Zaw (k:=i) om;have fe:=aj5 hr hlt ZaZ hrb q1;obtain ⟨k,hk⟩:∃ k,rows.length - i=k+1:=⟨rows.length - i - 1,om⟩;have hk2:rows.length - (i+1)=k:=om;rw [hk];have bl:(uss.map Zaf++List.replicate (k+1) [C.lit (.string .empty)]).length=rows.length:=by simp;omega
  have bs:∀ X,(uss.map Zaf++List.replicate (k+1) [C.lit (.string .empty)]).set i X=(uss.map Zaf++[X])++List.replicate k [C.lit (.string .empty)]:=fun X=>Zey _ _ _ _ _ (by simp [hn]);have bg:(uss.map Zaf++List.replicate (k+1) [C.lit (.string .empty)])[i]?=some [C.lit (.string .empty)]:=by rw [Tbo (by simp;omega),Tbp,if_pos (by simp;omega)]
  refine pE [1000] [1000] (ZwF (G':=fun w=>Zan w (rows.take (i+1)) E (uss++[[.string x0]])) (fun w h=>?_) (Zan.stable _ _ _)) ?_
  ·rw [tks hr];exact Zan.snoc (S2:=fun _=>False) h (Zag.lits (us:=[.string x0])) (fun _ h=>h) (fun _ h=>h.elim) (fun _ _ h=>h)
  have F:=aj8 @fe @bl @bs @bg @wi @hk2 @ZzT ((@Tbr.{0,0}));refine gG ?_;exact ⟨(i+1,uss++[[.string x0]],E),⟨hlt,by simp [hn]⟩,gw,gw,om⟩
 ·obtain rfl:i=rows.length:=by omega
  have q1:=lF rows.length rows.length;rw [Nat.sub_self,List.replicate_zero,List.append_nil,Tap];refine fG @q1 ?_;refine pS 2 fun a cap=>?_;refine pE [2,1000] [1000] (ZbL (fun w h=>h) (Own.stable _ _ _)) ?_;exact (have F:=e0P;gTP (R:=ZbZ rows) [1000] ⟨.slice a uss.length cap,_,rfl,rfl,rfl⟩)
theorem Zxh {row:List C} (hok:Zak (Zae .sub) row):Con e0 152 [.agg row,.agg row] [.one (.lit (.bool true))]:=by
 obtain ⟨i0,i1,rfl,g0,g1⟩:=ZgM hok;refine gI 16927 Tryz.func152 ?_;exact fT (@beq_self_eq_true.{0})
theorem Ztv {row:List C} (hok:Zak (Zae .sub) row) (hb:bulkRow row<=1048576):ConP e0 136 [.agg row] [] (Za8 row):=by
 obtain ⟨i0,i1,rfl,g0,g1⟩:=ZgM hok;simp only [bulkRow,ZaU] at hb;refine gIP (ts:=[.cell 2 173]) [] 15 Tryz.func136 ?_;refine fG @e0P ?_;obtain ⟨E,hre⟩:∃ E,ZaS [] [.set E (fun w=>Zag w [.lit (.int .i64 i0),.lit (.int .i64 i1)] E [.int .i64 i0,.int .i64 i1])]:=⟨_,ZdF [.lits [.int .i64 i0,.int .i64 i1]]⟩;refine pE [] [1000] hre ?_;have hm:=Za8.mk (row:=[.lit (.int .i64 i0),.lit (.int .i64 i1)]) (us:=[.int .i64 i0,.int .i64 i1]) (E:=E) rfl (by simp only [Zaf,Tbq,List.map_nil,List.all_cons,List.all_nil,Bool.and_true,Tar];exact ⟨rfl,rfl⟩)
 exact (have F:=e0P;gTP (R:=Za8 [.lit (.int .i64 i0),.lit (.int .i64 i1)]) [1000] hm)
theorem Ztw {rows:List (List C)} (hok:Zaj (Zae .sub) rows) {left:Int} (h0:0<=left) (h1:left<=1048576):Con e0 79 [.one (.sl rows),.one (.lit (.int .i64 left))] [.one (.lit (.int .i64 (sub left (rows.length+bulkRows rows))))]:=by
 refine Zca (by kernel_rfl) fun hm=>?_;unfold maxLen at hm;have w:IntKind.i64.wrap (left - (rows.length:Int))=left - (rows.length:Int):=IntWalk.i64_in _ om;rw [Ztp (fs:=Zae .sub) (by rfl) hok,Nat.add_zero];refine gI 1043 Tryz.func79 ?_;by_cases q:left < (rows.length:Int)
 ·rw [Zay om];have q':(left - (rows.length:Int) < 0)=True:=eq_true om;exact fT (ai @w @q')
 have q':(left - (rows.length:Int) < 0)=False:=eq_false om;rw [ZaP om];exact fT (ai @w @q')
theorem Ztx {rows:List (List C)} (hok:Zaj (Zae .sub) rows):Con e0 121 [.one (.sl rows),.one (.sl rows)] [.one (.lit (.bool true))]:=by
 refine Zca (by kernel_rfl) fun hm=>?_;unfold maxLen at hm;have hrb:ZaC 2 rows=true:=ZaV.2 hok.rowsLen;refine gI 67126323 Tryz.func121 ?_;refine fG (@beq_self_eq_true.{0}) ?_;have F:=@e0P;refine gL (ι:=Nat) [4,5,14,26] [] (fun x=>[(5,.d (.one (.lit (.int .i64 (x:Int)))))]) (fun x=>[]) (fun x=>x<=rows.length) (fun x=>rows.length - x) (0) (Taj _) (fun x hx=>?_);clear F;by_cases hlt:x < rows.length
 ·obtain ⟨r,hr⟩:∃ r,rows[x]?=some r:=⟨_,Taa hlt⟩;have hq:=hok.get hr;obtain ⟨ln,tk,dr⟩:=hq.take (n:=2) rfl;have okc:=hq.cells;have q1:=lT x rows.length;have wi:=Zaw (k:=x) om;have fe:=aj10 hr hlt ZaZ hrb q1 okc ln tk dr (@ZaF C);refine fB @fe ?_;refine fC @fe (Zxh hq) ?_;refine fR @fe ?_;have F:=@wi;refine gG ?_;exact ⟨x+1,hlt,gw,gw,om⟩
 ·obtain rfl:x=rows.length:=by omega
  have q1:=lF rows.length rows.length;exact fT @q1
theorem ZqJ {rows:List (List C)} (hok:Zaj (Zae .sub) rows) (hb:rows.length+bulkRows rows<=1048576):ConP e0 101 [.one (.sl rows)] [] (ZbZ rows):=by
 have hrb:ZaC 2 rows=true:=ZaV.2 hok.rowsLen;have hmx:((rows.length:Int)<=(maxApp:Int))=True:=eq_true (by unfold maxApp;omega);refine gIP (ts:=[.slot 2]) [] 2077 Tryz.func101 ?_;refine fG (ai @hmx @Tbt) ?_;refine pE [] [1000] Zb3 ?_;have F:=aj3 @nla @Nat.sub_zero @tk0;refine gL (ι:=Nat × List (List Value) × (Nat->Prop)) [3,4,11] [3,1000] (fun x=>[(4,.d (.one (.lit (.int .i64 (x.1:Int))))),(3,.buf 3)]) (fun x=>[(3,.buf none 173 2 (x.2.1.map Zaf++List.replicate (rows.length - x.1) [C.lit (.int .i64 0),C.lit (.int .i64 0)])),(1000,.set x.2.2 (fun w=>Zan w (rows.take x.1) x.2.2 x.2.1))]) (fun x=>x.1<=rows.length∧x.2.1.length=x.1) (fun x=>rows.length - x.1) ((0,[],fun _=>False)) (⟨Taj _,rfl⟩) (fun x hx=>?_);clear F
 obtain ⟨i,uss,E⟩:=x;obtain ⟨hi,hn⟩:=hx;simp only at hi hn;dsimp only;by_cases hlt:i < rows.length
 ·obtain ⟨r,hr⟩:∃ r,rows[i]?=some r:=⟨_,Taa hlt⟩;have hq:=hok.get hr;obtain ⟨ln,tk,dr⟩:=hq.take (n:=2) rfl;have okc:=hq.cells;have q1:=lT i rows.length;have wi:=Zaw (k:=i) om;have fe:=aj10 hr hlt ZaZ hrb q1 okc ln tk dr (@ZaF C);obtain ⟨k,hk⟩:∃ k,rows.length - i=k+1:=⟨rows.length - i - 1,om⟩;have hk2:rows.length - (i+1)=k:=om;rw [hk];have bl:(uss.map Zaf++List.replicate (k+1) [C.lit (.int .i64 0),C.lit (.int .i64 0)]).length=rows.length:=by simp;omega
  have bs:∀ X,(uss.map Zaf++List.replicate (k+1) [C.lit (.int .i64 0),C.lit (.int .i64 0)]).set i X=(uss.map Zaf++[X])++List.replicate k [C.lit (.int .i64 0),C.lit (.int .i64 0)]:=fun X=>Zey _ _ _ _ _ (by simp [hn]);have bg:(uss.map Zaf++List.replicate (k+1) [C.lit (.int .i64 0),C.lit (.int .i64 0)])[i]?=some [C.lit (.int .i64 0),C.lit (.int .i64 0)]:=by rw [Tbo (by simp;omega),Tbp,if_pos (by simp;omega)]
  have hbr:=ZbF hr;refine fB (ai @fe @bl) ?_;have F:=ai @fe @bl;refine gCP [] [1001] (Ztv hq om) ?_;clear F;rintro r' pm ⟨us,E2,rfl,hu,hok2,rfl⟩;rw [ln] at hu;obtain ⟨u0,u1,rfl⟩:=len2 hu;have hok2:Zai (.lit u0)=true∧Zai (.lit u1)=true:=by simpa [Zaf,Tar,and_assoc] using hok2
  obtain ⟨k0,k1⟩:=hok2;have lr:Zaf [u0,u1]=[.lit u0,.lit u1]:=rfl;rw [lr];simp only [setA,retA,zipM,Taf,Tah];refine fR (aj6 @hlt @bl @bs @bg @k0 @k1) ?_;refine pE [1000,1001] [1000] (ZfQ (G':=fun w=>Zan w (rows.take (i+1)) (fun b=>E b∨E2 b) (uss++[[u0,u1]])) (fun w h1 h2 hd=>?_) (Zan.stable _ _ _)) ?_
  ·rw [tks hr];exact Zan.snoc h1 h2 (fun _ h=>.inl h) (fun _ h=>.inr h) hd
  have F:=aj5 @bs @wi @hk2 @lr ((@Tbr.{0,0}));refine gG ?_;exact ⟨(i+1,uss++[[u0,u1]],fun b=>E b∨E2 b),⟨hlt,by simp [hn]⟩,gw,gw,om⟩
 ·obtain rfl:i=rows.length:=by omega
  have q1:=lF rows.length rows.length;rw [Nat.sub_self,List.replicate_zero,List.append_nil,Tap];refine fG @q1 ?_;refine pS 2 fun a cap=>?_;refine pE [2,1000] [1000] (ZbL (fun w h=>h) (Own.stable _ _ _)) ?_;exact (have F:=e0P;gTP (R:=ZbZ rows) [1000] ⟨.slice a uss.length cap,_,rfl,rfl,rfl⟩)
theorem ZqK {row:List C} (hok:Zak (ZbW) row) {left:Int} (h0:0<=left) (h1:left<=1048576):Con e0 45 [.agg row,.one (.lit (.int .i64 left))] [.one (.lit (.int .i64 (sub left (bulkRow row))))]:=by
 obtain ⟨r0,r1,rfl,g0,g1⟩:=Zfv hok;rw [show bulkRow [.sl r0,.sl r1]=(r0.length+bulkRows r0)+(r1.length+bulkRows r1) by simp only [bulkRow,ZaU];omega];refine gI 66583 Tryz.func45 ?_;refine fB @e0P ?_;refine fC @e0P (Znw g0 (left:=left) om om) ?_;refine fR @e0P ?_;by_cases q:left < (((r0.length+bulkRows r0):Nat):Int)
 ·rw [Zay (b:=(r0.length+bulkRows r0)) q]
  try rw [Zay om]
  have q':=lT (-1) 0;exact fT @q'
 rw [ZaP (b:=(r0.length+bulkRows r0)) om];have q':(left - (((r0.length+bulkRows r0):Nat):Int) < 0)=False:=eq_false om;refine fG @q' ?_;obtain ⟨L0,e0⟩:∃ x,x=left - (((r0.length+bulkRows r0):Nat):Int):=⟨_,rfl⟩;rw [<- e0];clear q';refine fB @e0P ?_;refine fC @e0P (Ztw g1 (left:=L0) om om) ?_;refine fR @e0P ?_;by_cases q:L0 < (((r1.length+bulkRows r1):Nat):Int)
 ·rw [Zay (b:=(r1.length+bulkRows r1)) q]
  try rw [Zay om]
  have q':=lT (-1) 0;exact fT @q'
 rw [ZaP (b:=(r1.length+bulkRows r1)) om];have q':(L0 - (((r1.length+bulkRows r1):Nat):Int) < 0)=False:=eq_false om;refine fG @q' ?_;obtain ⟨L1,e1⟩:∃ x,x=L0 - (((r1.length+bulkRows r1):Nat):Int):=⟨_,rfl⟩;rw [<- e1];clear q'
 try rw [ZaP om,show left - (((r0.length+bulkRows r0)+(r1.length+bulkRows r1):Nat):Int)=L1 by omega]
 exact fT @e0P
theorem ZqL {row:List C} (hok:Zak (ZbW) row):Con e0 70 [.agg row,.agg row] [.one (.lit (.bool true))]:=by
 obtain ⟨r0,r1,rfl,g0,g1⟩:=Zfv hok;refine gI 66591 Tryz.func70 ?_;refine fB (@beq_self_eq_true.{0}) ?_;refine fC @e0P (Znx g0) ?_;refine fR @e0P ?_;refine fB (@beq_self_eq_true.{0}) ?_;refine fC @e0P (Ztx g1) ?_;refine fR @e0P ?_;exact fT (@beq_self_eq_true.{0})
theorem ZpK {row:List C} (hok:Zak (ZbW) row) (hb:bulkRow row<=1048576):ConP e0 55 [.agg row] [] (Za8 row):=by
 obtain ⟨r0,r1,rfl,g0,g1⟩:=Zfv hok;simp only [bulkRow,ZaU] at hb;refine gIP (ts:=[.cell 2 47]) [] 15 Tryz.func55 ?_;refine fB @e0P ?_;have F:=@e0P;refine gCP [] [1000] (Zmj g0 om) ?_;clear F;rintro r pm ⟨u0,E0,rfl,k0,rfl⟩;simp only [setA,retA,zipM,Taf,Tah];refine fR @k0 ?_;refine fB @e0P ?_;have F:=@e0P;refine gCP [] [1001] (ZqJ g1 om) ?_;clear F;rintro r pm ⟨u1,E1,rfl,k1,rfl⟩;simp only [setA,retA,zipM,Taf,Tah]
 refine fR @k1 ?_;refine fG (ai @k0 @k1) ?_;obtain ⟨E,hre⟩:∃ E,ZaS [.set E0 (fun w=>Own w (.sl r0) E0 u0),.set E1 (fun w=>Own w (.sl r1) E1 u1)] [.set E (fun w=>Zag w [.sl r0,.sl r1] E [u0,u1])]:=⟨_,ZdF [.sl E0 r0 u0,.sl E1 r1 u1]⟩;refine pE [1000,1001] [1000] hre ?_;have hm:=Za8.mk (row:=[.sl r0,.sl r1]) (us:=[u0,u1]) (E:=E) rfl (by simp only [Zaf,Tbq,List.map_nil,List.all_cons,List.all_nil,Bool.and_true,Tar];exact ⟨k0,k1⟩)
 exact (have F:=e0P;gTP (R:=Za8 [.sl r0,.sl r1]) [1000] hm)
theorem ZlJ {row:List C} (hok:Zak (sigF) row) {left:Int} (h0:0<=left) (h1:left<=1048576):Con e0 17 [.agg row,.one (.lit (.int .i64 left))] [.one (.lit (.int .i64 (sub left (bulkRow row))))]:=by
 obtain ⟨r0,r1,r2,rfl,g0,g1,g2⟩:=Zdh hok;rw [show bulkRow [.sl r0,.sl r1,.sl r2]=bulkRow [.sl r0,.sl r1]+(r2.length+bulkRows r2) by simp only [bulkRow,ZaU];omega];refine gI 66583 Tryz.func17 ?_;refine fB @e0P ?_;refine fC @e0P (ZqK (Zfw g0 g1) (left:=left) om om) ?_;refine fR @e0P ?_;by_cases q:left < ((bulkRow [.sl r0,.sl r1]:Nat):Int)
 ·rw [Zay (b:=bulkRow [.sl r0,.sl r1]) q]
  try rw [Zay om]
  have q':=lT (-1) 0;exact fT @q'
 rw [ZaP (b:=bulkRow [.sl r0,.sl r1]) om];have q':(left - ((bulkRow [.sl r0,.sl r1]:Nat):Int) < 0)=False:=eq_false om;refine fG @q' ?_;obtain ⟨L0,e0⟩:∃ x,x=left - ((bulkRow [.sl r0,.sl r1]:Nat):Int):=⟨_,rfl⟩;rw [<- e0];clear q';refine fB @e0P ?_;refine fC @e0P (Zxf g2 (left:=L0) om om) ?_;refine fR @e0P ?_;by_cases q:L0 < (((r2.length+bulkRows r2):Nat):Int)
 ·rw [Zay (b:=(r2.length+bulkRows r2)) q]
  try rw [Zay om]
  have q':=lT (-1) 0;exact fT @q'
 rw [ZaP (b:=(r2.length+bulkRows r2)) om];have q':(L0 - (((r2.length+bulkRows r2):Nat):Int) < 0)=False:=eq_false om;refine fG @q' ?_;obtain ⟨L1,e1⟩:∃ x,x=L0 - (((r2.length+bulkRows r2):Nat):Int):=⟨_,rfl⟩;rw [<- e1];clear q'
 try rw [ZaP om,show left - ((bulkRow [.sl r0,.sl r1]+(r2.length+bulkRows r2):Nat):Int)=L1 by omega]
 exact fT @e0P
theorem ZlK {row:List C} (hok:Zak (sigF) row):Con e0 37 [.agg row,.agg row] [.one (.lit (.bool true))]:=by
 obtain ⟨r0,r1,r2,rfl,g0,g1,g2⟩:=Zdh hok;refine gI 66591 Tryz.func37 ?_;refine fB (@beq_self_eq_true.{0}) ?_;refine fC @e0P (ZqL (Zfw g0 g1)) ?_;refine fR @e0P ?_;refine fB (@beq_self_eq_true.{0}) ?_;refine fC @e0P (Zxg g2) ?_;refine fR @e0P ?_;exact fT (@beq_self_eq_true.{0})
theorem Zku {row:List C} (hok:Zak (sigF) row) (hb:bulkRow row<=1048576):ConP e0 26 [.agg row] [] (Za8 row):=by
 obtain ⟨r0,r1,r2,rfl,g0,g1,g2⟩:=Zdh hok;simp only [bulkRow,ZaU] at hb;refine gIP (ts:=[.cell 2 50]) [] 15 Tryz.func26 ?_;refine fB @e0P ?_;have F:=@e0P;refine gCP [] [1000] (ZpK (Zfw g0 g1) (by simp only [bulkRow,ZaU];omega)) ?_;clear F;rintro r pm ⟨us,E0,rfl,hu,hc,rfl⟩;obtain ⟨u0,u1,rfl⟩:=len2 hu;have hc:Zai (.lit u0)=true∧Zai (.lit u1)=true:=by simpa [Zaf,Tar,and_assoc] using hc
 obtain ⟨k0,k1⟩:=hc;have lr0:Zaf [u0,u1]=[.lit u0,.lit u1]:=rfl;rw [lr0];simp only [setA,retA,zipM,Taf,Tah];refine fR (ai @k0 @k1) ?_;refine fB @e0P ?_;have F:=@e0P;refine gCP [] [1001] (Ztu g2 om) ?_;clear F;rintro r pm ⟨u2,E2,rfl,k2,rfl⟩;simp only [setA,retA,zipM,Taf,Tah];refine fR @k2 ?_;refine fG (aj3 @k2 @k0 @k1) ?_;obtain ⟨E,hre⟩:∃ E,ZaS [.set E0 (fun w=>Zag w [.sl r0,.sl r1] E0 [u0,u1]),.set E2 (fun w=>Own w (.sl r2) E2 u2)] [.set E (fun w=>Zag w [.sl r0,.sl r1,.sl r2] E [u0,u1,u2])]:=⟨_,ZdF [.st E0 [.sl r0,.sl r1] [u0,u1],.sl E2 r2 u2]⟩
 refine pE [1000,1001] [1000] hre ?_;have hm:=Za8.mk (row:=[.sl r0,.sl r1,.sl r2]) (us:=[u0,u1,u2]) (E:=E) rfl (by simp only [Zaf,Tbq,List.map_nil,List.all_cons,List.all_nil,Bool.and_true,Tar];exact ⟨k0,k1,k2⟩);exact (have F:=e0P;gTP (R:=Za8 [.sl r0,.sl r1,.sl r2]) [1000] hm)
theorem ZpL {row:List C} (hok:Zak (Zbz) row) {left:Int} (h0:0<=left) (h1:left<=1048576):Con e0 4 [.agg row,.one (.lit (.int .i64 left))] [.one (.lit (.int .i64 (sub left (bulkRow row))))]:=by
 obtain ⟨r0,r1,r2,r3,r4,rfl,g0,g1,g2,g3,g4⟩:=Zed hok;rw [show bulkRow [.sl r0,.sl r1,.sl r2,.sl r3,.sl r4]=bulkRow [.sl r0,.sl r1,.sl r2]+(r3.length+bulkRows r3)+(r4.length+bulkRows r4) by simp only [bulkRow,ZaU];omega];refine gI 4260887 Tryz.func4 ?_;refine fB @e0P ?_;refine fC @e0P (ZlJ (Zdi g0 g1 g2) (left:=left) om om) ?_;refine fR @e0P ?_;by_cases q:left < ((bulkRow [.sl r0,.sl r1,.sl r2]:Nat):Int)
 ·rw [Zay (b:=bulkRow [.sl r0,.sl r1,.sl r2]) q]
  try rw [Zay om]
  have q':=lT (-1) 0;exact fT @q'
 rw [ZaP (b:=bulkRow [.sl r0,.sl r1,.sl r2]) om];have q':(left - ((bulkRow [.sl r0,.sl r1,.sl r2]:Nat):Int) < 0)=False:=eq_false om;refine fG @q' ?_;obtain ⟨L0,e0⟩:∃ x,x=left - ((bulkRow [.sl r0,.sl r1,.sl r2]:Nat):Int):=⟨_,rfl⟩;rw [<- e0];clear q';refine fB @e0P ?_;refine fC @e0P (ZgU g3 (left:=L0) om om) ?_;refine fR @e0P ?_;by_cases q:L0 < (((r3.length+bulkRows r3):Nat):Int)
 ·rw [Zay (b:=(r3.length+bulkRows r3)) q]
  try rw [Zay om]
  have q':=lT (-1) 0;exact fT @q'
 rw [ZaP (b:=(r3.length+bulkRows r3)) om];have q':(L0 - (((r3.length+bulkRows r3):Nat):Int) < 0)=False:=eq_false om;refine fG @q' ?_;obtain ⟨L1,e1⟩:∃ x,x=L0 - (((r3.length+bulkRows r3):Nat):Int):=⟨_,rfl⟩;rw [<- e1];clear q';refine fB @e0P ?_;refine fC @e0P (ZgU g4 (left:=L1) om om) ?_;refine fR @e0P ?_;by_cases q:L1 < (((r4.length+bulkRows r4):Nat):Int)
 ·rw [Zay (b:=(r4.length+bulkRows r4)) q]
  try rw [Zay om]
  have q':=lT (-1) 0;exact fT @q'
 rw [ZaP (b:=(r4.length+bulkRows r4)) om];have q':(L1 - (((r4.length+bulkRows r4):Nat):Int) < 0)=False:=eq_false om;refine fG @q' ?_;obtain ⟨L2,e2⟩:∃ x,x=L1 - (((r4.length+bulkRows r4):Nat):Int):=⟨_,rfl⟩;rw [<- e2];clear q'
 try rw [ZaP om,show left - ((bulkRow [.sl r0,.sl r1,.sl r2]+(r3.length+bulkRows r3)+(r4.length+bulkRows r4):Nat):Int)=L2 by omega]
 exact fT @e0P
theorem ZpM {row:List C} (hok:Zak (Zbz) row):Con e0 11 [.agg row,.agg row] [.one (.lit (.bool true))]:=by
 obtain ⟨r0,r1,r2,r3,r4,rfl,g0,g1,g2,g3,g4⟩:=Zed hok;refine gI 4260895 Tryz.func11 ?_;refine fB (@beq_self_eq_true.{0}) ?_;refine fC @e0P (ZlK (Zdi g0 g1 g2)) ?_;refine fR @e0P ?_;refine fB (@beq_self_eq_true.{0}) ?_;refine fC @e0P (ZgV g3) ?_;refine fR @e0P ?_;refine fB (@beq_self_eq_true.{0}) ?_;refine fC @e0P (ZgV g4) ?_;refine fR @e0P ?_;exact fT (@beq_self_eq_true.{0})
theorem Zia {row:List C} (hok:Zak (Zbz) row) (hb:bulkRow row<=1048576):ConP e0 7 [.agg row] [] (Za8 row):=by
 obtain ⟨r0,r1,r2,r3,r4,rfl,g0,g1,g2,g3,g4⟩:=Zed hok;simp only [bulkRow,ZaU] at hb;refine gIP (ts:=[.cell 2 53]) [] 15 Tryz.func7 ?_;refine fB @e0P ?_;have F:=@e0P;refine gCP [] [1000] (Zku (Zdi g0 g1 g2) (by simp only [bulkRow,ZaU];omega)) ?_;clear F;rintro r pm ⟨us,E0,rfl,hu,hc,rfl⟩;obtain ⟨u0,u1,u2,rfl⟩:=len3 hu;have hc:Zai (.lit u0)=true∧Zai (.lit u1)=true∧Zai (.lit u2)=true:=by simpa [Zaf,Tar,and_assoc] using hc
 obtain ⟨k0,k1,k2⟩:=hc;have lr0:Zaf [u0,u1,u2]=[.lit u0,.lit u1,.lit u2]:=rfl;rw [lr0];simp only [setA,retA,zipM,Taf,Tah];refine fR (aj3 @k0 @k1 @k2) ?_;refine fB @e0P ?_;have F:=@e0P;refine gCP [] [1001] (ZgG g3 om) ?_;clear F;rintro r pm ⟨u3,E3,rfl,k3,rfl⟩;simp only [setA,retA,zipM,Taf,Tah];refine fR @k3 ?_;refine fB @e0P ?_;have F:=@e0P;refine gCP [] [1002] (ZgG g4 om) ?_;clear F;rintro r pm ⟨u4,E4,rfl,k4,rfl⟩
 simp only [setA,retA,zipM,Taf,Tah];refine fR @k4 ?_;refine fG (aj5 @k3 @k4 @k0 @k1 @k2) ?_;obtain ⟨E,hre⟩:∃ E,ZaS [.set E0 (fun w=>Zag w [.sl r0,.sl r1,.sl r2] E0 [u0,u1,u2]),.set E3 (fun w=>Own w (.sl r3) E3 u3),.set E4 (fun w=>Own w (.sl r4) E4 u4)] [.set E (fun w=>Zag w [.sl r0,.sl r1,.sl r2,.sl r3,.sl r4] E [u0,u1,u2,u3,u4])]:=⟨_,ZdF [.st E0 [.sl r0,.sl r1,.sl r2] [u0,u1,u2],.sl E3 r3 u3,.sl E4 r4 u4]⟩
 refine pE [1000,1001,1002] [1000] hre ?_;have hm:=Za8.mk (row:=[.sl r0,.sl r1,.sl r2,.sl r3,.sl r4]) (us:=[u0,u1,u2,u3,u4]) (E:=E) rfl (by simp only [Zaf,Tbq,List.map_nil,List.all_cons,List.all_nil,Bool.and_true,Tar];exact ⟨k0,k1,k2,k3,k4⟩);exact (have F:=e0P;gTP (R:=Za8 [.sl r0,.sl r1,.sl r2,.sl r3,.sl r4]) [1000] hm)
theorem ZpN {row:List C} (hok:Zak (Zbz) row) (hb:bulkRow row<=1048576):Con e0 7 [.agg row] [.agg row]:=ZpD (Zia hok hb)
theorem Zny {row:List C} (hok:Zak (Zae .pend) row) {left:Int} (h0:0<=left) (h1:left<=1048576):Con e0 49 [.agg row,.one (.lit (.int .i64 left))] [.one (.lit (.int .i64 (sub left (bulkRow row))))]:=by
 obtain ⟨i0,r1,r2,rfl,g0,g1,g2⟩:=ZdU hok;rw [show bulkRow [.lit (.int .i64 i0),.sl r1,.sl r2]=(r1.length+bulkRows r1)+(r2.length+bulkRows r2) by simp only [bulkRow,ZaU];omega];refine gI 66583 Tryz.func49 ?_;refine fB @e0P ?_;refine fC @e0P (ZjX g1 (left:=left) om om) ?_;refine fR @e0P ?_;by_cases q:left < (((r1.length+bulkRows r1):Nat):Int)
 ·rw [Zay (b:=(r1.length+bulkRows r1)) q]
  try rw [Zay om]
  have q':=lT (-1) 0;exact fT @q'
 rw [ZaP (b:=(r1.length+bulkRows r1)) om];have q':(left - (((r1.length+bulkRows r1):Nat):Int) < 0)=False:=eq_false om;refine fG @q' ?_;obtain ⟨L0,e0⟩:∃ x,x=left - (((r1.length+bulkRows r1):Nat):Int):=⟨_,rfl⟩;rw [<- e0];clear q';refine fB @e0P ?_;refine fC @e0P (ZjX g2 (left:=L0) om om) ?_;refine fR @e0P ?_;by_cases q:L0 < (((r2.length+bulkRows r2):Nat):Int)
 ·rw [Zay (b:=(r2.length+bulkRows r2)) q]
  try rw [Zay om]
  have q':=lT (-1) 0;exact fT @q'
 rw [ZaP (b:=(r2.length+bulkRows r2)) om];have q':(L0 - (((r2.length+bulkRows r2):Nat):Int) < 0)=False:=eq_false om;refine fG @q' ?_;obtain ⟨L1,e1⟩:∃ x,x=L0 - (((r2.length+bulkRows r2):Nat):Int):=⟨_,rfl⟩;rw [<- e1];clear q'
 try rw [ZaP om,show left - (((r1.length+bulkRows r1)+(r2.length+bulkRows r2):Nat):Int)=L1 by omega]
 exact fT @e0P
theorem Znz {row:List C} (hok:Zak (Zae .pend) row):Con e0 73 [.agg row,.agg row] [.one (.lit (.bool true))]:=by
 obtain ⟨i0,r1,r2,rfl,g0,g1,g2⟩:=ZdU hok;refine gI 2130463 Tryz.func73 ?_;refine fB (@beq_self_eq_true.{0}) ?_;refine fC @e0P (ZjY g1) ?_;refine fR @e0P ?_;refine fB (@beq_self_eq_true.{0}) ?_;refine fC @e0P (ZjY g2) ?_;refine fR @e0P ?_;exact fT (@beq_self_eq_true.{0})
theorem Zmk {row:List C} (hok:Zak (Zae .pend) row) (hb:bulkRow row<=1048576):ConP e0 59 [.agg row] [] (Za8 row):=by
 obtain ⟨i0,r1,r2,rfl,g0,g1,g2⟩:=ZdU hok;simp only [bulkRow,ZaU] at hb;refine gIP (ts:=[.cell 2 73]) [] 15 Tryz.func59 ?_;refine fB @e0P ?_;have F:=@e0P;refine gCP [] [1000] (Zi0 g1 om) ?_;clear F;rintro r pm ⟨u1,E1,rfl,k1,rfl⟩;simp only [setA,retA,zipM,Taf,Tah];refine fR @k1 ?_;refine fB @e0P ?_;have F:=@e0P;refine gCP [] [1001] (Zi0 g2 om) ?_;clear F;rintro r pm ⟨u2,E2,rfl,k2,rfl⟩;simp only [setA,retA,zipM,Taf,Tah]
 refine fR @k2 ?_;refine fG (ai @k1 @k2) ?_;obtain ⟨E,hre⟩:∃ E,ZaS [.set E1 (fun w=>Own w (.sl r1) E1 u1),.set E2 (fun w=>Own w (.sl r2) E2 u2)] [.set E (fun w=>Zag w [.lit (.int .i64 i0),.sl r1,.sl r2] E [.int .i64 i0,u1,u2])]:=⟨_,ZdF [.lits [.int .i64 i0],.sl E1 r1 u1,.sl E2 r2 u2]⟩;refine pE [1000,1001] [1000] hre ?_;have hm:=Za8.mk (row:=[.lit (.int .i64 i0),.sl r1,.sl r2]) (us:=[.int .i64 i0,u1,u2]) (E:=E) rfl (by simp only [Zaf,Tbq,List.map_nil,List.all_cons,List.all_nil,Bool.and_true,Tar];exact ⟨rfl,k1,k2⟩)
 exact (have F:=e0P;gTP (R:=Za8 [.lit (.int .i64 i0),.sl r1,.sl r2]) [1000] hm)
theorem Zml {rows:List (List C)} (hok:Zaj (Zae .pend) rows) {left:Int} (h0:0<=left) (h1:left<=1048576):Con e0 20 [.one (.sl rows),.one (.lit (.int .i64 left))] [.one (.lit (.int .i64 (sub left (rows.length+bulkRows rows))))]:=by
 refine Zca (by kernel_rfl) fun hm=>?_;unfold maxLen at hm;have w:IntKind.i64.wrap (left - (rows.length:Int))=left - (rows.length:Int):=IntWalk.i64_in _ om;have hrb:ZaC 3 rows=true:=ZaV.2 hok.rowsLen;refine gI 33589299 Tryz.func20 ?_;by_cases q:left < (rows.length:Int)
 ·rw [Zay om];have q':(left - (rows.length:Int) < 0)=True:=eq_true om;exact fT (ai @w @q')
 have q':(left - (rows.length:Int) < 0)=False:=eq_false om;refine fG (ai @w @q') ?_;have F:=aj4 @tk0 @Zei @Int.natCast_zero @Int.sub_zero;refine gL (ι:=Nat) [1,4,5,15,25] [] (fun x=>[(5,.d (.one (.lit (.int .i64 (x:Int))))),(1,.d (.one (.lit (.int .i64 (left - (rows.length:Int) - (bulkRows (rows.take x):Int))))))]) (fun x=>[]) (fun x=>x<=rows.length∧0<=left - (rows.length:Int) - (bulkRows (rows.take x):Int)) (fun x=>rows.length - x) (0) (⟨Taj _,by simp [bulkRows];omega⟩) (fun x hx=>?_);clear F
 obtain ⟨hx,hl⟩:=hx;by_cases hlt:x < rows.length
 ·obtain ⟨r,hr⟩:∃ r,rows[x]?=some r:=⟨_,Taa hlt⟩;have hq:=hok.get hr;obtain ⟨ln,tk,dr⟩:=hq.take (n:=3) rfl;have okc:=hq.cells;have q1:=lT x rows.length;have wi:=Zaw (k:=x) om;have hbt:=Zc3 hr;have hbl:=ZcD rows (x+1)
  skip
  have fe:=aj10 hr hlt ZaZ hrb q1 okc ln tk dr (@ZaF C);obtain ⟨l,hle⟩:∃ l,l=left - (rows.length:Int) - (bulkRows (rows.take x):Int):=⟨_,rfl⟩;rw [<- hle];refine fB @fe ?_;refine fC @fe (Zny hq (left:=l) om om) ?_;refine fR @fe ?_;by_cases q:l < ((bulkRow r:Nat):Int)
  ·rw [Zay (b:=bulkRow r) q,Zay om];have q':=lT (-1) 0;exact fT @q'
  rw [ZaP (b:=bulkRow r) om];have q':(l - ((bulkRow r:Nat):Int) < 0)=False:=eq_false om;have e:left - (rows.length:Int) - (bulkRows (rows.take (x+1)):Int)=l - ((bulkRow r:Nat):Int):=om;have F:=aj3 @q' @wi @e;refine gG ?_;exact ⟨x+1,⟨hlt,om⟩,gw,gw,om⟩
 ·obtain rfl:x=rows.length:=by omega
  have q1:=lF rows.length rows.length;rw [Tap] at hl ⊢;rw [ZaP om,show left - ((rows.length+bulkRows rows:Nat):Int)=left - (rows.length:Int) - (bulkRows rows:Int) by omega];exact fT @q1
theorem Zmm {rows:List (List C)} (hok:Zaj (Zae .pend) rows):Con e0 39 [.one (.sl rows),.one (.sl rows)] [.one (.lit (.bool true))]:=by
 refine Zca (by kernel_rfl) fun hm=>?_;unfold maxLen at hm;have hrb:ZaC 3 rows=true:=ZaV.2 hok.rowsLen;refine gI 67126323 Tryz.func39 ?_;refine fG (@beq_self_eq_true.{0}) ?_;have F:=@e0P;refine gL (ι:=Nat) [4,5,14,26] [] (fun x=>[(5,.d (.one (.lit (.int .i64 (x:Int)))))]) (fun x=>[]) (fun x=>x<=rows.length) (fun x=>rows.length - x) (0) (Taj _) (fun x hx=>?_);clear F;by_cases hlt:x < rows.length
 ·obtain ⟨r,hr⟩:∃ r,rows[x]?=some r:=⟨_,Taa hlt⟩;have hq:=hok.get hr;obtain ⟨ln,tk,dr⟩:=hq.take (n:=3) rfl;have okc:=hq.cells;have q1:=lT x rows.length;have wi:=Zaw (k:=x) om;have fe:=aj10 hr hlt ZaZ hrb q1 okc ln tk dr (@ZaF C);refine fB @fe ?_;refine fC @fe (Znz hq) ?_;refine fR @fe ?_;have F:=@wi;refine gG ?_;exact ⟨x+1,hlt,gw,gw,om⟩
 ·obtain rfl:x=rows.length:=by omega
  have q1:=lF rows.length rows.length;exact fT @q1
theorem ZlL {rows:List (List C)} (hok:Zaj (Zae .pend) rows) (hb:rows.length+bulkRows rows<=1048576):ConP e0 29 [.one (.sl rows)] [] (ZbZ rows):=by
 have hrb:ZaC 3 rows=true:=ZaV.2 hok.rowsLen;have hmx:((rows.length:Int)<=(maxApp:Int))=True:=eq_true (by unfold maxApp;omega);refine gIP (ts:=[.slot 2]) [] 2077 Tryz.func29 ?_;refine fG (ai @hmx @Tbt) ?_;refine pE [] [1000] Zb3 ?_;have F:=aj3 @nla @Nat.sub_zero @tk0;refine gL (ι:=Nat × List (List Value) × (Nat->Prop)) [3,4,11] [3,1000] (fun x=>[(4,.d (.one (.lit (.int .i64 (x.1:Int))))),(3,.buf 3)]) (fun x=>[(3,.buf none 73 3 (x.2.1.map Zaf++List.replicate (rows.length - x.1) [C.lit (.int .i64 0),C.sl [],C.sl []])),(1000,.set x.2.2 (fun w=>Zan w (rows.take x.1) x.2.2 x.2.1))]) (fun x=>x.1<=rows.length∧x.2.1.length=x.1) (fun x=>rows.length - x.1) ((0,[],fun _=>False)) (⟨Taj _,rfl⟩) (fun x hx=>?_);clear F
 obtain ⟨i,uss,E⟩:=x;obtain ⟨hi,hn⟩:=hx;simp only at hi hn;dsimp only;by_cases hlt:i < rows.length
 ·obtain ⟨r,hr⟩:∃ r,rows[i]?=some r:=⟨_,Taa hlt⟩;have hq:=hok.get hr;obtain ⟨ln,tk,dr⟩:=hq.take (n:=3) rfl;have okc:=hq.cells;have q1:=lT i rows.length;have wi:=Zaw (k:=i) om;have fe:=aj10 hr hlt ZaZ hrb q1 okc ln tk dr (@ZaF C);obtain ⟨k,hk⟩:∃ k,rows.length - i=k+1:=⟨rows.length - i - 1,om⟩;have hk2:rows.length - (i+1)=k:=om;rw [hk];have bl:(uss.map Zaf++List.replicate (k+1) [C.lit (.int .i64 0),C.sl [],C.sl []]).length=rows.length:=by simp;omega
  have bs:∀ X,(uss.map Zaf++List.replicate (k+1) [C.lit (.int .i64 0),C.sl [],C.sl []]).set i X=(uss.map Zaf++[X])++List.replicate k [C.lit (.int .i64 0),C.sl [],C.sl []]:=fun X=>Zey _ _ _ _ _ (by simp [hn]);have bg:(uss.map Zaf++List.replicate (k+1) [C.lit (.int .i64 0),C.sl [],C.sl []])[i]?=some [C.lit (.int .i64 0),C.sl [],C.sl []]:=by rw [Tbo (by simp;omega),Tbp,if_pos (by simp;omega)]
  have hbr:=ZbF hr;refine fB (ai @fe @bl) ?_;have F:=ai @fe @bl;refine gCP [] [1001] (Zmk hq om) ?_;clear F;rintro r' pm ⟨us,E2,rfl,hu,hok2,rfl⟩;rw [ln] at hu;obtain ⟨u0,u1,u2,rfl⟩:=len3 hu;have hok2:Zai (.lit u0)=true∧Zai (.lit u1)=true∧Zai (.lit u2)=true:=by simpa [Zaf,Tar,and_assoc] using hok2
  obtain ⟨k0,k1,k2⟩:=hok2;have lr:Zaf [u0,u1,u2]=[.lit u0,.lit u1,.lit u2]:=rfl;rw [lr];simp only [setA,retA,zipM,Taf,Tah];refine fR (aj7 @hlt @bl @bs @bg @k0 @k1 @k2) ?_;refine pE [1000,1001] [1000] (ZfQ (G':=fun w=>Zan w (rows.take (i+1)) (fun b=>E b∨E2 b) (uss++[[u0,u1,u2]])) (fun w h1 h2 hd=>?_) (Zan.stable _ _ _)) ?_
  ·rw [tks hr];exact Zan.snoc h1 h2 (fun _ h=>.inl h) (fun _ h=>.inr h) hd
  have F:=aj5 @bs @wi @hk2 @lr ((@Tbr.{0,0}));refine gG ?_;exact ⟨(i+1,uss++[[u0,u1,u2]],fun b=>E b∨E2 b),⟨hlt,by simp [hn]⟩,gw,gw,om⟩
 ·obtain rfl:i=rows.length:=by omega
  have q1:=lF rows.length rows.length;rw [Nat.sub_self,List.replicate_zero,List.append_nil,Tap];refine fG @q1 ?_;refine pS 2 fun a cap=>?_;refine pE [2,1000] [1000] (ZbL (fun w h=>h) (Own.stable _ _ _)) ?_;exact (have F:=e0P;gTP (R:=ZbZ rows) [1000] ⟨.slice a uss.length cap,_,rfl,rfl,rfl⟩)
theorem ZnA {row:List C} (hok:Zak (redF) row) {left:Int} (h0:0<=left) (h1:left<=1048576):Con e0 5 [.agg row,.one (.lit (.int .i64 left))] [.one (.lit (.int .i64 (sub left (bulkRow row))))]:=by
 obtain ⟨i0,t1,i2,r3,r4,p5,i6,i7,rfl,g0,g1,g2,g3,g4,g5,g6,g7⟩:=ZdV hok;rw [show bulkRow [.lit (.int .i64 i0),.lit (.string t1),.lit (.int .i64 i2),.sl r3,.sl r4,.lit (.bool p5),.lit (.int .i64 i6),.lit (.int .i64 i7)]=bulkRow [.lit (.int .i64 i0),.lit (.string t1),.lit (.int .i64 i2),.sl r3]+(r4.length+bulkRows r4) by simp only [bulkRow,ZaU];omega];refine gI 66583 Tryz.func5 ?_;refine fB @e0P ?_;refine fC @e0P (Zfj (Zby g0 g1 g2 g3) (left:=left) om om) ?_
 refine fR @e0P ?_;by_cases q:left < ((bulkRow [.lit (.int .i64 i0),.lit (.string t1),.lit (.int .i64 i2),.sl r3]:Nat):Int)
 ·rw [Zay (b:=bulkRow [.lit (.int .i64 i0),.lit (.string t1),.lit (.int .i64 i2),.sl r3]) q]
  try rw [Zay om]
  have q':=lT (-1) 0;exact fT @q'
 rw [ZaP (b:=bulkRow [.lit (.int .i64 i0),.lit (.string t1),.lit (.int .i64 i2),.sl r3]) om];have q':(left - ((bulkRow [.lit (.int .i64 i0),.lit (.string t1),.lit (.int .i64 i2),.sl r3]:Nat):Int) < 0)=False:=eq_false om;refine fG @q' ?_;obtain ⟨L0,e0⟩:∃ x,x=left - ((bulkRow [.lit (.int .i64 i0),.lit (.string t1),.lit (.int .i64 i2),.sl r3]:Nat):Int):=⟨_,rfl⟩;rw [<- e0];clear q';refine fB @e0P ?_;refine fC @e0P (Zml g4 (left:=L0) om om) ?_
 refine fR @e0P ?_;by_cases q:L0 < (((r4.length+bulkRows r4):Nat):Int)
 ·rw [Zay (b:=(r4.length+bulkRows r4)) q]
  try rw [Zay om]
  have q':=lT (-1) 0;exact fT @q'
 rw [ZaP (b:=(r4.length+bulkRows r4)) om];have q':(L0 - (((r4.length+bulkRows r4):Nat):Int) < 0)=False:=eq_false om;refine fG @q' ?_;obtain ⟨L1,e1⟩:∃ x,x=L0 - (((r4.length+bulkRows r4):Nat):Int):=⟨_,rfl⟩;rw [<- e1];clear q'
 try rw [ZaP om,show left - ((bulkRow [.lit (.int .i64 i0),.lit (.string t1),.lit (.int .i64 i2),.sl r3]+(r4.length+bulkRows r4):Nat):Int)=L1 by omega]
 exact fT @e0P
theorem ZnB {row:List C} (hok:Zak (redF) row):Con e0 12 [.agg row,.agg row] [.one (.lit (.bool true))]:=by
 obtain ⟨i0,t1,i2,r3,r4,p5,i6,i7,rfl,g0,g1,g2,g3,g4,g5,g6,g7⟩:=ZdV hok;refine gI 2216756255 Tryz.func12 ?_;refine fB (@beq_self_eq_true.{0}) ?_;refine fC @e0P (Zez (Zby g0 g1 g2 g3)) ?_;refine fR @e0P ?_;refine fB (@beq_self_eq_true.{0}) ?_;refine fC @e0P (Zmm g4) ?_;refine fR @e0P ?_;exact fT (@beq_self_eq_true.{0})
theorem Zhn {row:List C} (hok:Zak (redF) row) (hb:bulkRow row<=1048576):ConP e0 8 [.agg row] [] (Za8 row):=by
 obtain ⟨i0,t1,i2,r3,r4,p5,i6,i7,rfl,g0,g1,g2,g3,g4,g5,g6,g7⟩:=ZdV hok;simp only [bulkRow,ZaU] at hb;refine gIP (ts:=[.cell 2 57]) [] 15 Tryz.func8 ?_;refine fB @e0P ?_;have F:=@e0P;refine gCP [] [1000] (ZeL (Zby g0 g1 g2 g3) (by simp only [bulkRow,ZaU];omega)) ?_;clear F;rintro r pm ⟨us,E0,rfl,hu,hc,rfl⟩;obtain ⟨u0,u1,u2,u3,rfl⟩:=len4 hu;have hc:Zai (.lit u0)=true∧Zai (.lit u1)=true∧Zai (.lit u2)=true∧Zai (.lit u3)=true:=by simpa [Zaf,Tar,and_assoc] using hc
 obtain ⟨k0,k1,k2,k3⟩:=hc;have lr0:Zaf [u0,u1,u2,u3]=[.lit u0,.lit u1,.lit u2,.lit u3]:=rfl;rw [lr0];simp only [setA,retA,zipM,Taf,Tah];refine fR (aj4 @k0 @k1 @k2 @k3) ?_;refine fB @e0P ?_;have F:=@e0P;refine gCP [] [1001] (ZlL g4 om) ?_;clear F;rintro r pm ⟨u4,E4,rfl,k4,rfl⟩;simp only [setA,retA,zipM,Taf,Tah];refine fR @k4 ?_;refine fG (aj5 @k4 @k0 @k1 @k2 @k3) ?_;obtain ⟨E,hre⟩:∃ E,ZaS [.set E0 (fun w=>Zag w [.lit (.int .i64 i0),.lit (.string t1),.lit (.int .i64 i2),.sl r3] E0 [u0,u1,u2,u3]),.set E4 (fun w=>Own w (.sl r4) E4 u4)] [.set E (fun w=>Zag w [.lit (.int .i64 i0),.lit (.string t1),.lit (.int .i64 i2),.sl r3,.sl r4,.lit (.bool p5),.lit (.int .i64 i6),.lit (.int .i64 i7)] E [u0,u1,u2,u3,u4,.bool p5,.int .i64 i6,.int .i64 i7])]:=⟨_,ZdF [.st E0 [.lit (.int .i64 i0),.lit (.string t1),.lit (.int .i64 i2),.sl r3] [u0,u1,u2,u3],.sl E4 r4 u4,.lits [.bool p5,.int .i64 i6,.int .i64 i7]]⟩
 refine pE [1000,1001] [1000] hre ?_;have hm:=Za8.mk (row:=[.lit (.int .i64 i0),.lit (.string t1),.lit (.int .i64 i2),.sl r3,.sl r4,.lit (.bool p5),.lit (.int .i64 i6),.lit (.int .i64 i7)]) (us:=[u0,u1,u2,u3,u4,.bool p5,.int .i64 i6,.int .i64 i7]) (E:=E) rfl (by simp only [Zaf,Tbq,List.map_nil,List.all_cons,List.all_nil,Bool.and_true,Tar];exact ⟨k0,k1,k2,k3,k4,rfl,rfl,rfl⟩);exact (have F:=e0P;gTP (R:=Za8 [.lit (.int .i64 i0),.lit (.string t1),.lit (.int .i64 i2),.sl r3,.sl r4,.lit (.bool p5),.lit (.int .i64 i6),.lit (.int .i64 i7)]) [1000] hm)
theorem ZnC {row:List C} (hok:Zak (redF) row) (hb:bulkRow row<=1048576):Con e0 8 [.agg row] [.agg row]:=ZpD (Zhn hok hb)
end Go.Proofs.YtdnkcjhlelkhhaaGreat
