/-
  Part of a proof: Gv, Gt, Mo, Pi, Ti, Tj, Bx, Cf, Px, Pj, Ph, Pr, Pu, Pd, Po, Pf, Bu, Ra, Pp, Ps, Py, Cl, Zt, Sr, Bg, Dq, Sk, Sj, Pn, Gk, Gx, Dv, Gq, QcIntS, QcDecl, QcDeclS, QcOp, QcOpS, QcStringS, QcSub, QcSubS, QcSorts, QcSignature, QcTerm.
-/
import Derived.Test.YtcgacanpeaiabaaGreatDoorBPathGreaterCard0
import Derived.Test.YtcgacanpeaiabaaGreatDoorBPathGreaterCard1
import Derived.Test.YtcgacanpeaiabaaGreatDoorBPathGreaterCard2
import Derived.Lib.LazyBuf
set_option linter.unusedSimpArgs false
set_option linter.unusedVariables false
set_option maxHeartbeats 400000000
set_option maxRecDepth 100000
namespace Go.Proofs.YtcgacanpeaiabaaGreatDoor
open Classical in
noncomputable def ofB (P:Nat->Prop):Nat->Nat
 | 0=>0
 | n+1=>ofB P n ||| (if P n then 2 ^ n else 0)
theorem Zhm (P:Nat->Prop):∀ (n i:Nat),(ofB P n).testBit i=true ↔ i < n∧P i
 | 0,i=>by simp [ofB]
 | n+1,i=>by
  rw [ofB,Nat.testBit_or,Bool.or_eq_true,Zhm P n i]
  by_cases h:P n
  ·rw [if_pos h,Nat.testBit_two_pow]
   simp only [decide_eq_true_eq]
   constructor
   ·rintro (⟨h1,h2⟩ | rfl)
    ·exact ⟨by omega,h2⟩
    ·exact ⟨by omega,h⟩
   ·rintro ⟨h1,h2⟩
    by_cases h3:n=i
    ·exact .inr h3
    ·exact .inl ⟨by omega,h2⟩
  ·rw [if_neg h]
   simp only [Nat.zero_testBit,Tam,or_false]
   constructor
   ·rintro ⟨h1,h2⟩;exact ⟨by omega,h2⟩
   ·rintro ⟨h1,h2⟩
    by_cases h3:i=n
    ·subst h3;exact absurd h2 h
    ·exact ⟨by omega,h2⟩
theorem ZAl (P:Nat->Prop) (n:Nat):ofB P n < 2 ^ n:=by
 apply Nat.lt_pow_two_of_testBit
 intro i hi
 cases h:(ofB P n).testBit i with
 | false=>rfl
 | true=>have:=((Zhm P n i).1 h).1;omega
theorem ZiZ {v n i:Nat} (h:v < 2 ^ n) (hb:v.testBit i=true):i < n:=by
 apply Classical.byContradiction
 intro hc
 have:v < 2 ^ i:=Tba h (Tbp (by decide) om)
 rw [Nat.testBit_lt_two_pow this] at hb
 cases hb
theorem Zqe {v u:Nat} (h:∀ i,v.testBit i=true ↔ u.testBit i=true):v=u:=by
 apply Nat.eq_of_testBit_eq
 intro i
 have:=h i
 cases h1:v.testBit i <;> cases h2:u.testBit i <;> simp_all
theorem Zur {P:Nat->Prop} {n v:Nat} (hv:v < 2 ^ n) (h:∀ i,i < n->(v.testBit i=true ↔ P i)):v=ofB P n:=by
 apply Zqe
 intro i
 rw [Zhm]
 constructor
 ·intro hb
  have:=ZiZ hv hb
  exact ⟨this,(h i this).1 hb⟩
 ·rintro ⟨h1,h2⟩;exact (h i h1).2 h2
theorem Zus {P Q:Nat->Prop} {n:Nat} (h:∀ i,i < n->(P i ↔ Q i)):ofB P n=ofB Q n :=
 Zur (ZAl P n) fun i hi=>by rw [Zhm,h i hi];exact ⟨fun x=>x.2,fun x=>⟨hi,x⟩⟩
inductive BagB (R:Nat->Nat->Nat->Prop) (sets:List Nat):Nat->Nat->Prop
 | leaf {i b s:Nat}:sets[i]?=some s->s.testBit b=true->BagB R sets (2 ^ i) b
 | node {p q a c b:Nat}:p≠0->q≠0->p &&& q=0->BagB R sets p a->BagB R sets q c->R a c b->BagB R sets (p ||| q) b
inductive ChB (R:Nat->Nat->Nat->Prop) (sets:List Nat):Nat->Nat->Nat->Prop
 | leaf {i b s:Nat}:sets[i]?=some s->s.testBit b=true->ChB R sets i (i+1) b
 | node {i k j a c b:Nat}:i < k->k < j->ChB R sets i k a->ChB R sets k j c->R a c b->ChB R sets i j b
theorem ZzT {R:Nat->Nat->Nat->Prop} {sets:List Nat} {i s b:Nat} (hs:sets[i]?=some s):ChB R sets i (i+1) b ↔ s.testBit b=true:=by
 constructor
 ·intro h
  generalize hj:i+1=j at h
  cases h with
  | leaf h1 h2=>rw [hs] at h1;injection h1 with h1;subst h1;exact h2
  | node h1 h2 _ _ _=>omega
 ·exact fun h=>.leaf hs h
end Go.Proofs.YtcgacanpeaiabaaGreatDoor
namespace Go.Proofs.YtcgacanpeaiabaaGreatDoor
open Go.RowKit
theorem ZvA {v n:Nat} (h:v < 2 ^ n):ofB (fun b=>v.testBit b=true) n=v:=(Zur h fun i _=>Iff.rfl).symm
def upk (g:Sgn) (k:Int):Nat:=(up g.sorts).getD k.toNat 0
theorem ZzU {g:Sgn} (hs:SortsOk g.sorts) {k:Int} (h0:0<=k) (h1:k < g.sorts.names.length):(up g.sorts)[k.toNat]?=some (upk g k)∧upk g k < 2 ^ g.sorts.names.length :=
 (ZfZ (SortsOk.subsIn hs.subs)).get om
def Zzn (g:Sgn) (o:Opr) (sets:List Nat) (b:Nat):Prop:=∃ d∈o.decls,(∀ (i:Nat) k s,d.args[i]?=some k->sets[i]?=some s->s.testBit k.toNat=true)∧(upk g d.res).testBit b=true
def Rel2 (g:Sgn) (o:Opr) (a c b:Nat):Prop:=∃ d∈o.decls,d.args.map Int.toNat=[a,c]∧(upk g d.res).testBit b=true
def AnyB (g:Sgn) (o:Opr) (sets:List Nat) (b:Nat):Prop:=Zzn g o sets b∨(o.comm=true∧Zzn g o sets.reverse b)
def AppB (g:Sgn) (o:Opr) (sets:List Nat) (b:Nat):Prop:=if o.assoc=true then (if o.comm=true then BagB (Rel2 g o) sets (2 ^ sets.length - 1) b else ChB (Rel2 g o) sets 0 sets.length b) else AnyB g o sets b
noncomputable def appS (g:Sgn) (o:Opr) (sets:List Nat):Nat:=ofB (AppB g o sets) g.sorts.names.length
mutual
noncomputable def sortsTm (g:Sgn):Tm->Nat
 | .mk op _ so args=>if op=-1 then upk g so else match g.ops[op.toNat]? with
  | none=>0
  | some o=>appS g o (Zl3 g args)
noncomputable def Zl3 (g:Sgn):List Tm->List Nat
 | []=>[]
 | t::ts=>sortsTm g t::Zl3 g ts
end
theorem Rel2.lt {g:Sgn} (hg:SgnOk g) {o:Opr} (ho:o∈g.ops) {a c b:Nat} (h:Rel2 g o a c b):b < g.sorts.names.length:=by
 obtain ⟨d,hd,_,hb⟩:=h
 have hD:=hg.decls o ho
 obtain ⟨f,hf,_⟩:=hD.first
 have hd':=hD.all f hf d hd
 exact ZiZ (ZzU hg.sorts hd'.res.1 hd'.res.2).2 hb
theorem BagB.lt {R:Nat->Nat->Nat->Prop} {sets:List Nat} {N:Nat} (hs:∀ s∈sets,s < 2 ^ N) (hR:∀ a c b,R a c b->b < N) {m b:Nat} (h:BagB R sets m b):b < N:=by
 cases h with
 | leaf h1 h2=>exact ZiZ (hs _ (Tac h1)) h2
 | node _ _ _ _ _ h=>exact hR _ _ _ h
theorem ChB.lt {R:Nat->Nat->Nat->Prop} {sets:List Nat} {N:Nat} (hs:∀ s∈sets,s < 2 ^ N) (hR:∀ a c b,R a c b->b < N) {i j b:Nat} (h:ChB R sets i j b):b < N:=by
 cases h with
 | leaf h1 h2=>exact ZiZ (hs _ (Tac h1)) h2
 | node _ _ _ _ h=>exact hR _ _ _ h
theorem ZAm {R:Nat->Nat->Nat->Prop} {sets:List Nat} {N i s:Nat} (hs:sets[i]?=some s) (h:s < 2 ^ N):ofB (ChB R sets i (i+1)) N=s:=by
 rw [show ofB (ChB R sets i (i+1)) N=ofB (fun b=>s.testBit b=true) N from Zus fun b _=>ZzT hs,ZvA h]
end Go.Proofs.YtcgacanpeaiabaaGreatDoor
namespace Go.Proofs.YtcgacanpeaiabaaGreatDoor
open Go.RowKit Go.MapKept Go.ChangeMaps
theorem ZeG {l:List (ByteArray × Value)} {k s:ByteArray} {v:Value}:Za3 (l++[(k,v)]) s=(Za3 l s).or (if s.toList=k.toList then some v else none):=by
 unfold Za3
 rw [List.find?_append]
 cases h:l.find? fun p=>s.toList==p.1.toList with
 | some p=>simp
 | none =>
  by_cases e:s.toList=k.toList
  ·simp [List.find?,e]
  ·have e2:(s.toList==k.toList)=false:=beq_eq_false_iff_ne.2 e
   simp only [List.find?,e2,Option.or,if_neg e,Option.map_none]
def Memo (g:Sgn) (l:List (ByteArray × Value)):Prop:=∀ u,ZaD g u->∀ v,Za3 l (keyS u)=some v->v=.int .i64 (sortsTm g u:Nat)
def Grew (g:Sgn) (n:Nat) (l l':List (ByteArray × Value)):Prop:=∀ u,ZaD g u->n < sizeTm u->Za3 l (keyS u)=none->Za3 l' (keyS u)=none
theorem Grew.refl {g:Sgn} {n:Nat} {l:List (ByteArray × Value)}:Grew g n l l:=fun _ _ _ h=>h
theorem Grew.trans {g:Sgn} {n:Nat} {l l' l'':List (ByteArray × Value)} (h:Grew g n l l') (h':Grew g n l' l''):Grew g n l l'':=fun u hu hs h0=>h' u hu hs (h u hu hs h0)
theorem Grew.mono {g:Sgn} {n m:Nat} {l l':List (ByteArray × Value)} (h:Grew g n l l') (hn:n<=m):Grew g m l l':=fun u hu hs h0=>h u hu om h0
theorem Memo.nil {g:Sgn}:Memo g []:=fun u _ v h=>by simp [Za3] at h
theorem Memo.snoc {g:Sgn} (hg:SgnOk g) {l:List (ByteArray × Value)} (h:Memo g l) {t:Tm} (ht:ZaD g t):Memo g (l++[(keyS t,.int .i64 (sortsTm g t:Nat))]):=by
 intro u hu v hv
 rw [ZeG] at hv
 cases hl:Za3 l (keyS u) with
 | some x =>
  rw [hl] at hv
  simp only [Option.some_or,Taq] at hv
  subst hv
  exact h u hu _ hl
 | none =>
  rw [hl,Option.none_or] at hv
  by_cases e:(keyS u).toList=(keyS t).toList
  ·rw [if_pos e] at hv
   obtain rfl:=Zl1 hg hu ht e
   simpa using hv.symm
  ·rw [if_neg e] at hv;cases hv
theorem Grew.snoc {g:Sgn} (hg:SgnOk g) {l:List (ByteArray × Value)} {t:Tm} (ht:ZaD g t) {v:Value}:Grew g (sizeTm t) l (l++[(keyS t,v)]):=by
 intro u hu hs h0
 rw [ZeG,h0,Option.none_or,if_neg]
 intro e
 obtain rfl:=Zl1 hg hu ht e
 omega
section
variable {e:Env} {K:St->Prop} {ds:List (Option Nat)} {os:List Oper} {s:List (Nat × A)} {m:List (Nat × Bk)}
theorem gLo {d t ty:Nat} {p:String} {ed:Array Edge} {x y:Operand} {b:Nat} {l:List (ByteArray × Value)} {k:ByteArray} {kt el:TypeId} {z v:Value} {f:Bool} (κ:Nat) (ht:e.P.underlying t=some (.map kt el)) (hk:e.P.underlying kt=some .string) (hz:∀ w,(zeroValue el).run e.P w=.ok z w) (hv:(Za3 l k).getD z=v) (hf:(Za3 l k).isSome=f)
  (hK:Runs e ds 0 os ⟨(d,.tup [.one (.lit v),.one (.lit (.bool f))])::s,m⟩ K) (hx:evA s x=.d (.one (.lit (.map (some b)))):=by exact sfx) (hy:evA s y=.d (.one (.lit (.string k))):=by exact sfx) (hm:gm m κ=some (mapB b l):=by exact snx):Runs e ds 0 (⟨some d,.lookup t x y true,ty,p,ed,none⟩::os) ⟨s,m⟩ K :=
 ZdO rfl (Zj3 rfl ht hk hz hx hy hm (α:=.tup [.one (.lit v),.one (.lit (.bool f))]) (fun w S L=>by
  rw [hv,hf]
  exact ⟨[v,.bool f],rfl,by simp [Zay,DRel,Rep]⟩) hK)
end
theorem ZmP {e:Env} {E2:Nat->Prop} {G2:World->Prop} {ι:Type} {G:ι->World->Prop} {ok:ι->Prop} (hst:∀ i,ZbY E2 (G i)) (ho:∀ w,G2 w->∃ i,ok i∧G i w) {f:FuncId} {xs r:List D} (h:Con (e.plus E2 G2) f xs r)
  {G1:World->Prop} (hi:∀ w,(∀ b,E2 b->¬ e.E b)->G1 w->G2 w):ConP e f xs [.set E2 G1] (fun r' pm=>r'=r∧∃ i',ok i'∧pm=[.set E2 (G i')]):=by
 refine ⟨h.1,fun w S vs hS hE hG hpm hap hvs=>?_⟩
 obtain ⟨⟨h1,h2,h3⟩,hdj⟩:=hpm _ (Tbg.2 rfl)
 have hpb:∀ (G:World->Prop) (b:Nat),ZaR [.set E2 G] b ↔ E2 b:=fun G b=>⟨fun ⟨x,hx,hg⟩=>by obtain rfl:=Tbg.1 hx;exact hg,fun q=>⟨_,Tbg.2 rfl,q⟩⟩
 have hd:∀ b,E2 b->¬ e.E b:=fun b q=>hdj b q
 refine (h.2 w S vs (fun b hb=>⟨(hS b hb).1,fun q=>q.elim (hS b hb).2 fun q=>(h1 b q).2 hb⟩) (fun b hb=>hb.elim (hE b) fun q=>(h1 b q).1) ⟨hG,hi w hd h2⟩ hvs).mono fun en w' ⟨v,q1,hk,hg,ha⟩=>?_
 obtain ⟨i',hi1,hi2⟩:=ho w' hg.2
 refine ⟨v,r,[.set E2 (G i')],q1,⟨rfl,i',hi1,rfl⟩,hk.up fun b q=>q.elim .inl fun q=>.inr ((hpb _ b).2 q),hg.1,fun x hx=>?_,⟨fun y hy=>(by cases hy),trivial⟩,ha.keep (Tai _) (fun _ _ _=>rfl) fun b hb=>?_⟩
 ·obtain rfl:=Tbg.1 hx
  exact ⟨⟨fun b q=>⟨Tba (h1 b q).1 hk.size,fun q2=>q2.2 ((hpb _ b).2 q)⟩,hi2,hst i'⟩,fun g q=>.inl ((hpb _ g).2 q)⟩
 ·rcases hb with q | q
  ·exact ⟨.inl q,fun q2=>(h1 b ((hpb _ b).1 q2)).2 q⟩
  ·exact ⟨.inr (.inr q),fun q2=>by have:=(h1 b ((hpb _ b).1 q2)).1;omega⟩
def keyQ (a b:Tm):ByteArray:=(keyS a++⟨#[62]⟩)++keyS b
theorem Zkk (a b:Tm):(keyQ a b).toList=ZbH a++62::(ZbH b++[]):=by
 simp [keyQ,keyS,ByteArray.toList_eq]
theorem Zl4 {g:Sgn} (hg:SgnOk g) {a b a' b':Tm} (ha:ZaD g a) (hb:ZaD g b) (ha':ZaD g a') (hb':ZaD g b') (h:(keyQ a b).toList=(keyQ a' b').toList):a=a'∧b=b':=by
 rw [Zkk,Zkk] at h
 obtain ⟨h1,h2⟩:=Zhi a a' _ _ (ZcK hg a ha) (ZcK hg a' ha') h
 simp only [List.cons.injEq,true_and] at h2
 exact ⟨h1,(Zhi b b' [] [] (ZcK hg b hb) (ZcK hg b' hb') h2).1⟩
def KeyM (g:Sgn) (rank:List Int) (M:List (ByteArray × Value)):Prop:=∀ u v,ZaD g u->ZaD g v->∀ x,Za3 M (keyQ u v)=some x->x=.bool (grB g rank u v)
def AbsM (g:Sgn) (Z:Tm->Tm->Prop) (M:List (ByteArray × Value)):Prop:=∀ u v,ZaD g u->ZaD g v->Z u v->Za3 M (keyQ u v)=none
theorem KeyM.nil {g:Sgn} {rank:List Int}:KeyM g rank []:=fun u v _ _ x h=>by simp [Za3] at h
theorem AbsM.nil {g:Sgn} {Z:Tm->Tm->Prop}:AbsM g Z []:=fun u v _ _ _=>by simp [Za3]
theorem KeyM.snoc {g:Sgn} {rank:List Int} (hg:SgnOk g) {M:List (ByteArray × Value)} (h:KeyM g rank M) {a b:Tm} (ha:ZaD g a) (hb:ZaD g b):KeyM g rank (M++[(keyQ a b,.bool (grB g rank a b))]):=by
 intro u v hu hv x hx
 rw [ZeG] at hx
 cases hl:Za3 M (keyQ u v) with
 | some y =>
  rw [hl] at hx
  simp only [Option.some_or,Taq] at hx
  subst hx
  exact h u v hu hv _ hl
 | none =>
  rw [hl,Option.none_or] at hx
  by_cases e:(keyQ u v).toList=(keyQ a b).toList
  ·rw [if_pos e] at hx
   obtain ⟨rfl,rfl⟩:=Zl4 hg hu hv ha hb e
   simpa using hx.symm
  ·rw [if_neg e] at hx;cases hx
theorem AbsM.snoc {g:Sgn} (hg:SgnOk g) {Z:Tm->Tm->Prop} {M:List (ByteArray × Value)} (h:AbsM g Z M) {a b:Tm} (ha:ZaD g a) (hb:ZaD g b) (hz:¬ Z a b) {x:Value}:AbsM g Z (M++[(keyQ a b,x)]):=by
 intro u v hu hv hz'
 rw [ZeG,h u v hu hv hz',Option.none_or,if_neg]
 intro e
 obtain ⟨rfl,rfl⟩:=Zl4 hg hu hv ha hb e
 exact hz hz'
section
variable {g:Sgn} {rank:List Int} {Z:Tm->Tm->Prop} {b:Nat}
def Zzo (g:Sgn) (rank:List Int) (Z:Tm->Tm->Prop) (b:Nat) (w:World):Prop:=(∀ c,c=b->¬ e0.E c)∧∃ M,(KeyM g rank M∧AbsM g Z M)∧MapL w b M
noncomputable def eK (g:Sgn) (rank:List Int) (Z:Tm->Tm->Prop) (b:Nat):Env:=e0.plus (fun c=>c=b) (Zzo g rank Z b)
theorem eKP:∀ (g:Sgn) (rank:List Int) (Z:Tm->Tm->Prop) (b:Nat),(eK g rank Z b).P=Tryz.prog:=fun _ _ _ _=>rfl
theorem Zfh:Fits e0 (fun c=>c=b) (Zzo g rank Z b):=⟨fun w w' hz hE ⟨h1,M,h2,h3⟩=>⟨h1,M,h2,MapL.stable b M w w' hz hE h3⟩,fun w h=>h.1⟩
theorem Zi0:(eK g rank Z b).Ok:=Zfh.ok Ziz
theorem Con.k {f:FuncId} {args r:List D} (h:Con e0 f args r):Con (eK g rank Z b) f args r:=Con.up Zfh h
theorem ConP.k {f:FuncId} {args:List D} {pm:List Bk} {R:List D->List Bk->Prop} (h:ConP e0 f args pm R):ConP (eK g rank Z b) f args pm R:=ConP.up Zfh h
def Zeg (g:Sgn) (rank:List Int) (Z:Tm->Tm->Prop) (b:Nat) (x:Bool) (r:List D) (pm:List Bk):Prop:=r=[.one (.lit (.bool x))]∧∃ M,(KeyM g rank M∧AbsM g Z M)∧pm=[mapB b M]
theorem ZmQ {f:FuncId} {xs:List D} {x:Bool} (hb:Zbw Tryz.prog f=true) (h:∀ M,KeyM g rank M∧AbsM g Z M->ConP e0 f xs [mapB b M] (Zeg g rank Z b x)):Con (eK g rank Z b) f xs [.one (.lit (.bool x))] :=
 Zvv (ι:=List (ByteArray × Value)) (G:=fun M w=>MapL w b M) (ok:=fun M=>KeyM g rank M∧AbsM g Z M) Zfh (MapL.stable b) (fun w h=>h.2) (fun w M h1 h2 h3=>⟨h1,M,h2,h3⟩) hb h
theorem ZhO {f:FuncId} {xs:List D} {x:Bool} (h:Con (eK g rank Z b) f xs [.one (.lit (.bool x))]) {M:List (ByteArray × Value)} (hM:KeyM g rank M∧AbsM g Z M):ConP e0 f xs [mapB b M] (Zeg g rank Z b x) :=
 ZmP (ι:=List (ByteArray × Value)) (G:=fun M w=>MapL w b M) (ok:=fun M=>KeyM g rank M∧AbsM g Z M) (MapL.stable b) (fun w h=>h.2) h fun w hd h1=>⟨hd,M,hM,h1⟩
end
end Go.Proofs.YtcgacanpeaiabaaGreatDoor
namespace Go.Proofs.YtcgacanpeaiabaaGreatDoor
open Go.RowKit
mutual
def Zco:Tm->Int->Int
 | .mk _ _ _ args,l=>Za4 args (l - 1)
def Za4:List Tm->Int->Int
 | [],l=>l
 | t::ts,l=>if 0<=l then Za4 ts (Zco t l) else l
end
theorem Zut:∀ l,Za4 [] l=l:=fun _=>by rw [Za4]
mutual
theorem ZhP:∀ (t:Tm) (l:Int),0<=l->(-1<=Zco t l∧Zco t l<=l∧((sizeTm t:Int)<=l->Zco t l=l - sizeTm t)∧(l < sizeTm t->Zco t l < 0))
 | .mk _ _ _ args,l,hl=>by
  have:=Ze4 args (l - 1) om
  simp only [Zco,sizeTm]
  refine ⟨this.1,by omega,fun h=>?_,fun h=>?_⟩
  ·have:=this.2.2.1 om;omega
  ·by_cases h1:0<=l - 1
   ·exact this.2.2.2 om
   ·have h2:=this.2.1;omega
theorem Ze4:∀ (ts:List Tm) (l:Int),-1<=l->(-1<=Za4 ts l∧Za4 ts l<=l∧((sizeTms ts:Int)<=l->Za4 ts l=l - sizeTms ts)∧(l < sizeTms ts->Za4 ts l < 0))
 | [],l,hl=>by simp only [Za4,sizeTms];omega
 | t::ts,l,hl=>by
  simp only [Za4,sizeTms]
  by_cases h0:0<=l
  ·rw [if_pos h0]
   have h1:=ZhP t l h0
   have h2:=Ze4 ts (Zco t l) h1.1
   refine ⟨h2.1,by omega,fun h=>?_,fun h=>?_⟩
   ·have e1:=h1.2.2.1 om
    have e2:=h2.2.2.1 om
    omega
   ·by_cases h3:(sizeTm t:Int)<=l
    ·have e1:=h1.2.2.1 h3
     exact h2.2.2.2 om
    ·have e1:=h1.2.2.2 om
     omega
  ·rw [if_neg h0]
   have:=Zby ts
   refine ⟨hl,Int.le_refl _,fun h=>by omega,fun h=>by omega⟩
end
theorem ZhQ {ts:List Tm} {l:Int} (h:¬ 0<=l):Za4 ts l=l:=by
 cases ts with
 | nil=>rfl
 | cons t ts=>simp only [Za4,if_neg h]
theorem Zfu:∀ (a b:List Tm) (l:Int),Za4 (a++b) l=Za4 b (Za4 a l)
 | [],b,l=>rfl
 | t::ts,b,l=>by
  simp only [Taf,Za4]
  by_cases h:0<=l
  ·rw [if_pos h,if_pos h,Zfu]
  ·rw [if_neg h,if_neg h,ZhQ h]
theorem Zl5 {ts:List Tm} {i:Nat} {t:Tm} {l:Int} (h:ts[i]?=some t) (h0:0<=Za4 (ts.take i) l):Za4 (ts.take (i+1)) l=Zco t (Za4 (ts.take i) l):=by
 rw [ZbJ h,Zfu]
 simp only [Za4,if_pos h0]
theorem Zl6 {ts:List Tm} {i:Nat} {l:Int} (h0:¬ 0<=Za4 (ts.take i) l):Za4 ts l=Za4 (ts.take i) l:=by
 conv=>lhs;rw [<- Tbj i ts]
 rw [Zfu,ZhQ h0]
theorem Zuu (t:Tm) (l:Int):Zco t l=Za4 t.args (l - 1):=by cases t;simp only [Zco,Tm.args]
theorem Zjx:∀ (n:Nat) (t:Tm) (l:Int),sizeTm t < n->sizeTm t<=big->0<=l->l<=60->Con e0 196 [.agg (Zah t),.one (.lit (.int .i64 l))] [.one (.lit (.int .i64 (Zco t l)))]:=by
 intro n
 induction n with
 | zero=>intro t l h;omega
 | succ n ih =>
  intro t l hn hb hl0 hl1
  have hsz:=Zbd t
  have hal:=Zby t.args
  unfold big at hb
  have hw:IntKind.i64.wrap (l - 1)=l - 1:=Zc7 rfl om om
  rw [Zuu]
  refine gI 65591 Tryz.func196 ?_
  (have F:=ai @tmz @hw;refine gG ?_;clear F)
  (have F:=@Zut;refine gL (ι:=Nat) [1,5,16] [] (fun i=>[(5,A.d (.one (.lit (.int .i64 i)))),(1,A.d (.one (.lit (.int .i64 (Za4 (t.args.take i) (l - 1))))))]) (fun i=>[]) (fun i=>i<=t.args.length) (fun i=>t.args.length - i) (0) om (fun i hi=>?_);clear F)
  have hsp:=Ze4 (t.args.take i) (l - 1) om
  by_cases hl:i < t.args.length
  rotate_left
  ·have hl':¬ ((i:Int) < (t.args.length:Int)):=by omega
   have e:t.args.take i=t.args:=List.take_of_length_le om
   (have F:=ai @hl' (ai @e @tmz);refine gG ?_;exact gT)
  have hl':(i:Int) < (t.args.length:Int):=by omega
  by_cases h0:0<=Za4 (t.args.take i) (l - 1)
  rotate_left
  ·have e:=Zl6 h0
   (have F:=ai @hl' (ai @h0 (ai @e @tmz));refine gG ?_;exact gT)
  obtain ⟨a,ha⟩:∃ a,t.args[i]?=some a:=⟨_,Taa hl⟩
  have hm:=Zbx (Tac ha)
  have hw1:=Zap (k:=i) om
  have hs:=Zl5 ha h0
  (have F:=ai @hl' (ai @h0 (ai @tmz @ha));refine gG ?_;clear F)
  refine gB ?_
  (have F:=ai @tmz @ha;refine gC (ih a _ om (by unfold big;omega) h0 om) ?_;clear F)
  (have F:=@tmz;refine gR ?_;clear F)
  (have F:=ai @hw1 (ai @hs @tmz);refine gG ?_;exact ⟨i+1,by omega,gw,gw,by omega⟩)
theorem Zkl {t:Tm}:0<=Zco t 60 ↔ sizeTm t<=60:=by
 have:=ZhP t 60 om
 by_cases h:sizeTm t<=60
 ·have:=this.2.2.1 om;omega
 ·have:=this.2.2.2 om;omega
theorem ZmR {t:Tm} (hb:sizeTm t<=big):Con e0 116 [.agg (Zah t)] [.one (.lit (.bool (decide (sizeTm t<=60∧depthTm t<=20))))]:=by
 refine gI 7 Tryz.func116 ?_
 (have F:=@tmz;refine gG ?_;clear F)
 refine gB ?_
 (have F:=@tmz;refine gC (Zjx _ t 60 (Tan _) hb om om) ?_;clear F)
 by_cases h1:sizeTm t<=60
 rotate_left
 ·have h1':¬ (0<=Zco t 60):=fun h=>h1 (Zkl.1 h)
  (have F:=ai @tmz @h1';refine gR ?_;clear F)
  (have F:=@h1;refine gG ?_;exact gT)
 have h1':(0<=Zco t 60):=Zkl.2 h1
 (have F:=ai @tmz @h1';refine gC (Zkz hb) ?_;clear F)
 by_cases h2:depthTm t<=20
 ·have h2':((depthTm t:Int)<=20):=by omega
  (have F:=ai @tmz @h2';refine gR ?_;clear F)
  (have F:=ai @h1 @h2;refine gG ?_;exact gT)
 ·have h2':¬ ((depthTm t:Int)<=20):=by omega
  (have F:=ai @tmz @h2';refine gR ?_;clear F)
  (have F:=ai @h1 @h2;refine gG ?_;exact gT)
section
variable {g:Sgn}
open Classical in
noncomputable def Zdo (g:Sgn) (t:Tm):Bool:=decide (Zcc g t)
theorem Zeh {t:Tm} (h:Zcc g t):Zdo g t=true:=by simp [Zdo,h]
theorem Zl7 {t:Tm} (h:¬ Zcc g t):Zdo g t=false:=by simp [Zdo,h]
theorem Zqf {t:Tm}:Zdo g t=true ↔ Zcc g t:=by simp [Zdo]
theorem Zqg (hg:SgnOk g) {t:Tm} (hok:okTm t) (hb:sizeTm t<=big):Con e0 198 [.agg (ZaA g),.agg (Zah t)] [.one (.lit (.bool (Zdo g t)))]:=by
 have hno:¬ Zcc g t->Zdo g t=false:=Zl7
 obtain ⟨k1,k2,k3,k4⟩:=Zd2.1 hok
 have hsz:=Zbd t
 have hal:=Zby t.args
 have hn8:=hg.sorts.n8
 have hn1:=hg.sorts.n1
 have hln:=hg.len
 unfold big at hb
 have hwn:IntKind.i64.wrap ((g.sorts.names.length:Int) - 1)=(g.sorts.names.length:Int) - 1:=Zc7 rfl om om
 have hwo:IntKind.i64.wrap ((g.ops.length:Int) - 1)=(g.ops.length:Int) - 1:=Zc7 rfl om om
 refine gI 9444733036108034605695 Tryz.func198 ?_
 by_cases h1:t.op=-1
 ·have hV:Zcc g t->Zhf g t:=fun h=>by
   rcases h with h | ⟨o,d,h⟩
   ·exact h
   ·exact absurd h1 h.op
  (have F:=ai @tmz (ai @Za7 @h1);refine gG ?_;clear F)
  refine gB ?_
  (have F:=@tmz;refine gC (Ze1 k2) ?_;clear F)
  by_cases h2:Za2 t.name=true
  rotate_left
  ·have h2':Za2 t.name=false:=by simpa using h2
   have hf:=hno fun h=>h2 (hV h).2.1
   (have F:=ai @tmz @h2';refine gR ?_;clear F)
   (have F:=@hf;refine gG ?_;exact gT)
  (have F:=ai @tmz (ai @h2 @hwn);refine gC (Zc0 _ _ _) ?_;clear F)
  by_cases h3:0<=t.sort∧t.sort < g.sorts.names.length
  rotate_left
  ·have h3':decide (0<=t.sort∧t.sort<=(g.sorts.names.length:Int) - 1)=false:=by simp only [decide_eq_false_iff_not];omega
   have hf:=hno fun h=>h3 ⟨(hV h).2.2.1,(hV h).2.2.2.1⟩
   (have F:=ai @tmz @h3';refine gR ?_;clear F)
   (have F:=@hf;refine gG ?_;exact gT)
  have h3':decide (0<=t.sort∧t.sort<=(g.sorts.names.length:Int) - 1)=true:=by simp only [decide_eq_true_eq];omega
  by_cases h4:t.args=[]
  ·have hT:=Zeh (g:=g) (.inl ⟨h1,h2,h3.1,h3.2,h4⟩)
   (have F:=ai @tmz (ai @h3' @h4);refine gR ?_;clear F)
   (have F:=@hT;refine gG ?_;exact gT)
  ·have hf:=hno fun h=>h4 (hV h).2.2.2.2
   have h4':¬ ((t.args.length:Int)=0):=by
    intro h;apply h4;apply Tao;omega
   (have F:=ai @tmz (ai @h3' @h4');refine gR ?_;clear F)
   (have F:=@hf;refine gG ?_;exact gT)
 (have F:=ai @tmz (ai @Za7 @h1);refine gG ?_;clear F)
 refine gB ?_
 (have F:=ai @tmz @hwo;refine gC (Zc0 _ _ _) ?_;clear F)
 by_cases h2:0<=t.op∧t.op < g.ops.length
 rotate_left
 ·have h2':decide (0<=t.op∧t.op<=(g.ops.length:Int) - 1)=false:=by simp only [decide_eq_false_iff_not];omega
  have hf:=hno fun h=>by
   obtain ⟨o,d,h⟩:=h.app h1
   have:=(Tad.1 h.at').1
   have:=h.lo
   omega
  (have F:=ai @tmz @h2';refine gR ?_;clear F)
  (have F:=@hf;refine gG ?_;exact gT)
 have h2':decide (0<=t.op∧t.op<=(g.ops.length:Int) - 1)=true:=by simp only [decide_eq_true_eq];omega
 by_cases h4:t.name=ByteArray.empty
 rotate_left
 ·have hf:=hno fun h=>by
   obtain ⟨o,d,h⟩:=h.app h1
   exact h4 h.nm
  (have F:=ai @tmz (ai @h2' (ai @Zda @h4));refine gR ?_;clear F)
  (have F:=@hf;refine gG ?_;exact gT)
 by_cases h5:t.sort=0
 rotate_left
 ·have hf:=hno fun h=>by
   obtain ⟨o,d,h⟩:=h.app h1
   exact h5 h.so
  (have F:=ai @tmz (ai @h2' (ai @Zda (ai @h4 @h5)));refine gR ?_;clear F)
  (have F:=@hf;refine gG ?_;exact gT)
 have h0:=h2.1
 obtain ⟨o,ho⟩:∃ o,g.ops[t.op.toNat]?=some o:=⟨_,Taa om⟩
 obtain ⟨d,hd,hr0,hr1,hargs⟩:=hg.first ho
 have hgt:Zcc g t->AppOk g t o d:=fun h=>by
  obtain ⟨o',d',h⟩:=h.app h1
  have e1:=h.at'
  rw [ho] at e1
  injection e1 with e1
  subst e1
  have e2:=h.fst
  rw [hd] at e2
  injection e2 with e2
  subst e2
  exact h
 have cA:=Zfr hd
 rw [Zbo] at cA
 (have F:=ai @tmz (ai @h2' (ai @Zda (ai @h4 @h5)));refine gR ?_;clear F)
 (have F:=ai @tmz (ai @h0 (ai @ho @Zak));refine gG ?_;clear F)
 cases ha:o.assoc with
 | false =>
  rw [ha] at cA
  refine gB ?_
  (have F:=ai @tmz @ha;refine gC (cA) ?_;clear F)
  by_cases c:t.args.length=d.args.length
  ·have hT:=Zeh (g:=g) (.inr ⟨o,d,h0,ho,hd,h4,h5,fun h=>(by rw [ha] at h;cases h),fun _=>c⟩)
   have c':((t.args.length:Int)=(d.args.length:Int)):=by omega
   (have F:=ai @tmz (ai @c' @ha);refine gR ?_;clear F)
   (have F:=@hT;refine gG ?_;exact gT)
  ·have hf:=hno fun h=>c ((hgt h).nas ha)
   have c':¬ ((t.args.length:Int)=(d.args.length:Int)):=by omega
   (have F:=ai @tmz (ai @c' @ha);refine gR ?_;clear F)
   (have F:=@hf;refine gG ?_;exact gT)
 | true =>
  refine gB ?_
  (have F:=ai @tmz @ha;refine gC (Zc0 _ _ _) ?_;clear F)
  by_cases c:2<=t.args.length∧t.args.length<=7
  ·have hT:=Zeh (g:=g) (.inr ⟨o,d,h0,ho,hd,h4,h5,fun _=>c,fun h=>(by rw [ha] at h;cases h)⟩)
   have c':decide ((2:Int)<=(t.args.length:Int)∧(t.args.length:Int)<=7)=true:=by simp only [decide_eq_true_eq];omega
   (have F:=ai @tmz (ai @c' @ha);refine gR ?_;clear F)
   (have F:=@hT;refine gG ?_;exact gT)
  ·have hf:=hno fun h=>c ((hgt h).asc ha)
   have c':decide ((2:Int)<=(t.args.length:Int)∧(t.args.length:Int)<=7)=false:=by simp only [decide_eq_false_iff_not];omega
   (have F:=ai @tmz (ai @c' @ha);refine gR ?_;clear F)
   (have F:=@hf;refine gG ?_;exact gT)
end
section
variable {g:Sgn}
open Classical in
noncomputable def Zdd (g:Sgn) (op:Int) (args:List Tm):Bool:=decide (Zhg g op args)
theorem Zuv (hg:SgnOk g) {op:Int} {o:Opr} (ho:g.ops[op.toNat]?=some o) (hu:o.unit≠0) {a:Tm} (ha:ZaD g a) (hop:a.op=o.unit - 1):a=Zdl o:=by
 have hax:=hg.axs o (Tac ho)
 have hlo:=hax.lo
 obtain ⟨p,u,h⟩:=ha.node.app om
 obtain ⟨d,hd,_⟩:=hg.first ho
 have e:a.op.toNat=o.unit.toNat - 1:=by omega
 have hz:u.args.length=0:=by
  have h2:=hax.two (.inr (.inr hu)) d hd
  obtain ⟨d0,hd0⟩:∃ x,d.args[0]?=some x:=⟨_,Taa om⟩
  obtain ⟨d1,hd1⟩:∃ x,d.args[1]?=some x:=⟨_,Taa om⟩
  exact ((h2.2 d0 d1 hd0 hd1).2.2 hu p u (by rw [<- e];exact h.at') h.fst).1
 have has:p.assoc=false:=by
  cases hp:p.assoc with
  | false=>rfl
  | true =>
   have:=((hg.axs p (Tac h.at')).two (.inl hp) u h.fst).1
   omega
 have hl:=h.nas has
 have hnil:a.args=[]:=Tao om
 have hnm:=h.nm
 have hso:=h.so
 cases a with
 | mk x n s l =>
  simp only [Tm.args,Tm.name,Tm.sort,Tm.op] at *
  subst hnil hnm hso hop
  simp only [Zdl,if_neg hu]
theorem Zuw {o:Opr} (h0:0<=o.unit) (h1:o.unit<=14):okTm (Zdl o):=by
 rw [Zd2]
 simp only [Zdl,Tm.op,Tm.name,Tm.sort,Tm.args,Zbj,and_true]
 refine ⟨?_,by simp [maxLen],?_⟩
 ·unfold I64;split <;> omega
 ·unfold I64;omega
theorem ZmS (hokg:ZcI g) (hg:SgnOk g) {t:Tm} {o:Opr} {d:Dcl} (hA:AppOk g t o d) (hF:∀ a∈t.args,ZaD g a) (hok:okTm t) (hb:sizeTm t<=big):Con e0 199 [.agg (ZaA g),.agg (Zah t)] [.one (.lit (.bool (Zdd g t.op t.args)))]:=by
 have hno:¬ Zhg g t.op t.args->Zdd g t.op t.args=false:=fun h=>by simp [Zdd,h]
 obtain ⟨k1,k2,k3,k4⟩:=Zd2.1 hok
 have hsz:=Zbd t
 have hal:=Zby t.args
 unfold big at hb
 have h0:=hA.lo
 have ho:=hA.at'
 have hd:=hA.fst
 obtain ⟨d',hd',hr0,hr1,hargs⟩:=hg.first ho
 rw [hd] at hd'
 injection hd' with hd'
 subst hd'
 have hax:=hg.axs o (Tac ho)
 have hlo:=hax.lo
 have hhi:=hax.hi
 have hln:=hg.len
 have cK:=Zec hg.sorts
 rw [Za1] at cK
 have cUn:=Zp7 hg h0 ho
 rw [ZaA] at cUn
 have hnoA:∀ (i:Nat) a,t.args[i]?=some a->¬ ArgOk g t.op o d t.args i a->Zdd g t.op t.args=false:=fun i a ha h=>hno fun hR=>h (hR o d ho hd i a ha)
 refine gI 9903595872146772515857895423 Tryz.func199 ?_
 (have F:=ai @tmz (ai @Za7 (ai @h0 (ai @ho @Zak)));refine gG ?_;clear F)
 refine gB ?_
 (have F:=@tmz;refine gC (cK) ?_;clear F)
 (have F:=@tmz;refine gR ?_;clear F)
 (have F:=@tmz;refine gG ?_;clear F)
 refine gB ?_
 (have F:=@tmz;refine gC (cUn) ?_;clear F)
 (have F:=@tmz;refine gR ?_;clear F)
 (have F:=@tmz;refine gG ?_;clear F)
 (have F:=@e0P;refine gL (ι:=Nat) [4,9,10,11,32,42,76,93] [] (fun i=>[(9,A.d (.one (.lit (.int .i64 i))))]) (fun i=>[]) (fun i=>i<=t.args.length∧∀ (j:Nat) a,j < i->t.args[j]?=some a->ArgOk g t.op o d t.args j a) (fun i=>t.args.length - i) (0) (⟨by omega,fun j a h=>absurd h om⟩) (fun i hi=>?_);clear F)
 obtain ⟨hil,hall⟩:=hi
 by_cases hl:i < t.args.length
 rotate_left
 ·have hl':¬ ((i:Int) < (t.args.length:Int)):=by omega
  have hT:Zdd g t.op t.args=true:=by
   simp only [Zdd,decide_eq_true_eq]
   intro o' d' ho' hd' j a hj
   rw [ho] at ho'
   injection ho' with ho'
   subst ho'
   rw [hd] at hd'
   injection hd' with hd'
   subst hd'
   exact hall j a (by have:=(Tad.1 hj).1;omega) hj
  (have F:=ai @tmz (ai @hl' @hT);refine gG ?_;exact gT)
 have hl':(i:Int) < (t.args.length:Int):=by omega
 obtain ⟨a,ha⟩:∃ a,t.args[i]?=some a:=⟨_,Taa hl⟩
 have hm:=Tac ha
 have hFa:=hF a hm
 have hw1:=Zap (k:=i) om
 obtain ⟨k,hk⟩:=Zj7 hg ho hd hA.nas hl
 obtain ⟨hk0,hk1⟩:=hargs k (Tac hk)
 have hkd:=ZfE hg.sorts hk0 hk1
 have cKa:=Zp6 hokg hg hFa.node
 rw [ZaA] at cKa
 have cU:=Zdb (k4.mem hm) (Zuw (o:=o) hlo om)
 have hUiff:o.unit≠0->(Zas a (Zdl o)=0 ↔ a.op=o.unit - 1):=fun hu=>by
  rw [Zbq]
  constructor
  ·rintro h;rw [h];simp [Zdl,Tm.op,hu]
  ·exact Zuv hg ho hu hFa
 generalize hU:decide (Zas a (Zdl o)=0)=U at cU
 have hnext:Zcd g a=((kd g.sorts k:Nat):Int)->(o.assoc=true->¬ a.op=t.op)->(o.unit≠0->U=false)->(o.comm=true->∀ (j:Nat) p,i=j+1->t.args[j]?=some p->Zas p a<=0)->i+1<=t.args.length∧∀ (j:Nat) a,j < i+1->t.args[j]?=some a->ArgOk g t.op o d t.args j a:=fun hkk hne hU' hc=>⟨by omega,fun j a' hj ha'=>by
  by_cases e:j=i
  ·subst e
   rw [ha] at ha'
   injection ha' with ha'
   subst ha'
   refine ⟨fun k' hk'=>?_,hne,fun h1 h2=>?_,hc⟩
   ·rw [hk] at hk'
    injection hk' with hk'
    subst hk'
    exact hkk
   ·have:=hU' h1
    rw [this] at hU
    simp only [decide_eq_false_iff_not] at hU
    exact hU ((hUiff h1).2 h2)
  ·exact hall j a' om ha'⟩
 have hkN:d.args[(argAt o i:Nat)]?=some k:=hk
 (have F:=ai @tmz (ai @hl' @ha);refine gG ?_;clear F)
 refine gM (ι:=Unit) [11] [] (fun u=>[(11,A.d (.one (.lit (.int .i64 (argAt o i:Nat)))))]) (fun u=>[]) (fun u=>True) ?_ (fun u hu=>Exists.intro _ (ai (Wk.refl _) ?_))
 ·rcases Bool.eq_false_or_eq_true o.assoc with hac | hac
  ·(have F:=ai @Zak (ai @hac @Zpm);refine gG ?_;exact ⟨(),trivial,gw,gw⟩)
  ·(have F:=ai @Zak (ai @hac (ai @Zpm @if_false.{1}));refine gG ?_;exact ⟨(),trivial,gw,gw⟩)
 (have F:=@tmz;refine gG ?_;clear F)
 refine gM (ι:=Bool) [76] [] (fun x=>[(76,A.d (.one (.lit (.bool x))))]) (fun x=>[]) (fun x=>(x=true->Zdd g t.op t.args=false)∧(x=false->Zcd g a=((kd g.sorts k:Nat):Int)∧(o.assoc=true->¬ a.op=t.op)∧(o.unit≠0->U=false))) ?_ (fun x hx=>Exists.intro _ (ai (Wk.refl _) ?_))
 ·refine gB ?_
  (have F:=@tmz;refine gC (cKa) ?_;clear F)
  by_cases hkk:Zcd g a=((kd g.sorts k:Nat):Int)
  rotate_left
  ·have hf:=hnoA i a ha fun h=>hkk (h.kind k hk)
   (have F:=ai @tmz (ai @Zak (ai @hd (ai @ZaM (ai @hkN (ai @hk0 (ai @hkd (ai @Za0 @hkk)))))));refine gR ?_;clear F)
   (have F:=@tmz;refine gG ?_;exact ⟨true,⟨fun _=>hf,fun h=>by cases h⟩,gw,gw⟩)
  by_cases hN:o.assoc=true∧a.op=t.op
  ·have hf:=hnoA i a ha fun h=>h.nest hN.1 hN.2
   obtain ⟨hN1,hN2⟩:=hN
   (have F:=ai @tmz (ai @Zak (ai @hd (ai @ZaM (ai @hkN (ai @hk0 (ai @hkd (ai @Za0 (ai @hkk (ai @hN1 @hN2)))))))));refine gR ?_;clear F)
   (have F:=ai @tmz @hN1;refine gG ?_;exact ⟨true,⟨fun _=>hf,fun h=>by cases h⟩,gw,gw⟩)
  have hne:o.assoc=true->¬ a.op=t.op:=fun h1 h2=>hN ⟨h1,h2⟩
  rcases Bool.eq_false_or_eq_true o.assoc with hac | hac
  all_goals (
   by_cases hu:o.unit=0
   ·(have F:=ai @tmz (ai @Zak (ai @hd (ai @ZaM (ai @hkN (ai @hk0 (ai @hkd (ai @Za0 (ai @hkk (ai @hac (ai @hne @hu))))))))));refine gR ?_;clear F)
    (have F:=ai @tmz (ai @hac @hu);refine gG ?_;exact ⟨false,⟨fun h=>(by cases h),fun _=>⟨hkk,hne,fun h=>absurd hu h⟩⟩,gw,gw⟩)
   (have F:=ai @tmz (ai @Zak (ai @hd (ai @ZaM (ai @hkN (ai @hk0 (ai @hkd (ai @Za0 (ai @hkk (ai @hac (ai @hne @hu))))))))));refine gC (cU) ?_;clear F)
   rcases Bool.eq_false_or_eq_true U with hub | hub
   ·have hf:=hnoA i a ha fun h=>by
     rw [hub] at hU
     simp only [decide_eq_true_eq] at hU
     exact h.unit hu ((hUiff hu).1 hU)
    (have F:=ai @tmz @hub;refine gR ?_;clear F)
    (have F:=ai @tmz (ai @hac @hu);refine gG ?_;exact ⟨true,⟨fun _=>hf,fun h=>by cases h⟩,gw,gw⟩)
   ·(have F:=ai @tmz @hub;refine gR ?_;clear F)
    (have F:=ai @tmz (ai @hac @hu);refine gG ?_;exact ⟨false,⟨fun h=>(by cases h),fun _=>⟨hkk,hne,fun _=>hub⟩⟩,gw,gw⟩))
 cases x with
 | true =>
  have hf:=hx.1 rfl
  (have F:=@hf;refine gG ?_;exact gT)
 | false =>
  obtain ⟨hkk,hne,hub⟩:=hx.2 rfl
  (have F:=@tmz;refine gG ?_;clear F)
  rcases Bool.eq_false_or_eq_true o.comm with hcm | hcm
  rotate_left
  ·have hq:=hnext hkk hne hub (fun h=>by rw [hcm] at h;cases h)
   (have F:=ai @hw1 (ai @tmz (ai @Zak @hcm));refine gG ?_;exact ⟨i+1,hq,gw,gw,by omega⟩)
  rcases Nat.eq_zero_or_pos i with hi0 | hi0
  ·have hq:=hnext hkk hne hub (fun _ j p h=>by omega)
   have hi0':¬ ((0:Int) < (i:Int)):=by omega
   (have F:=ai @hw1 (ai @tmz (ai @Zak (ai @hcm @hi0')));refine gG ?_;exact ⟨i+1,hq,gw,gw,by omega⟩)
  obtain ⟨j,hj⟩:∃ j,i=j+1:=⟨i - 1,by omega⟩
  obtain ⟨p,hp⟩:∃ p,t.args[j]?=some p:=⟨_,Taa om⟩
  have cC:=ZhD (k4.mem (Tac hp)) (k4.mem hm)
  have hgt0:(0:Int) < (i:Int):=by omega
  have hsub:IntKind.i64.wrap ((i:Int) - 1)=(j:Int):=Zc7 om om om
  refine gB ?_
  (have F:=ai @tmz (ai @Zak (ai @hcm (ai @hgt0 (ai @hsub @hp))));refine gC (cC) ?_;clear F)
  by_cases hc:0 < Zas p a
  ·have hf:=hnoA i a ha fun h=>by have:=h.ord hcm j p hj hp;omega
   (have F:=ai @tmz @hc;refine gR ?_;clear F)
   (have F:=@hf;refine gG ?_;exact gT)
  ·have hq:=hnext hkk hne hub (fun _ j' p' h hp'=>by
    have:j'=j:=by omega
    subst this
    rw [hp] at hp'
    injection hp' with hp'
    subst hp'
    omega)
   (have F:=ai @tmz @hc;refine gR ?_;clear F)
   (have F:=ai @hw1 (ai @tmz (ai @Zak @hcm));refine gG ?_;exact ⟨i+1,hq,gw,gw,by omega⟩)
theorem Zjy (hokg:ZcI g) (hg:SgnOk g):∀ (n:Nat) (t:Tm),sizeTm t < n->okTm t->sizeTm t<=big->Con e0 117 [.agg (ZaA g),.agg (Zah t)] [.one (.lit (.bool (Zbp g t)))]:=by
 intro n
 induction n with
 | zero=>intro t h;omega
 | succ n ih =>
  intro t hn hok hb
  have hno:¬ ZaD g t->Zbp g t=false:=ZgW
  obtain ⟨k1,k2,k3,k4⟩:=Zd2.1 hok
  have hsz:=Zbd t
  have hal:=Zby t.args
  have cN:=Zqg hg hok hb
  have hb':=hb
  unfold big at hb'
  rw [ZaA] at cN
  have ih':=fun a h1 h2 h3=>ih a h1 h2 h3
  simp only [ZaA] at ih'
  refine gI 16794175 Tryz.func117 ?_
  (have F:=ai @tmz @Za7;refine gG ?_;clear F)
  refine gB ?_
  (have F:=@tmz;refine gC (cN) ?_;clear F)
  by_cases hN:Zdo g t=true
  rotate_left
  ·have hf:=hno fun h=>hN (Zeh h.node)
   have hN':Zdo g t=false:=by simpa using hN
   (have F:=ai @tmz @hN';refine gR ?_;clear F)
   (have F:=@hf;refine gG ?_;exact gT)
  have hNd:=Zqf.1 hN
  (have F:=ai @tmz @hN;refine gR ?_;clear F)
  (have F:=@tmz;refine gG ?_;clear F)
  (have F:=@e0P;refine gL (ι:=Nat) [4,5,14,24] [] (fun i=>[(5,A.d (.one (.lit (.int .i64 i))))]) (fun i=>[]) (fun i=>i<=t.args.length∧∀ (j:Nat) a,j < i->t.args[j]?=some a->ZaD g a) (fun i=>t.args.length - i) (0) (⟨by omega,fun j a h=>absurd h om⟩) (fun i hi=>?_);clear F)
  obtain ⟨hil,hall⟩:=hi
  by_cases hl:i < t.args.length
  rotate_left
  ·have hl':¬ ((i:Int) < (t.args.length:Int)):=by omega
   have hF:∀ a∈t.args,ZaD g a:=fun a ha=>by
    obtain ⟨j,hj⟩:=Tbh ha
    exact hall j a (by have:=(Tad.1 hj).1;omega) hj
   by_cases h1:t.op=-1
   ·have hT:=Zef (g:=g) (t:=t) (ZbP.2 ⟨hNd,hF,.inl h1⟩)
    (have F:=ai @tmz (ai @hl' (ai @h1 @hT));refine gG ?_;exact gT)
   obtain ⟨o,d,hA⟩:=hNd.app h1
   have cR:=ZmS hokg hg hA hF hok hb
   rw [ZaA] at cR
   have e:Zdd g t.op t.args=Zbp g t:=by
    unfold Zdd Zbp
    congr 1
    rw [ZbP]
    exact propext ⟨fun h=>⟨hNd,hF,.inr h⟩,fun h=>h.2.2.resolve_left h1⟩
   (have F:=ai @tmz (ai @hl' @h1);refine gG ?_;clear F)
   refine gB ?_
   (have F:=ai @tmz @h1;refine gC (cR) ?_;clear F)
   (have F:=@tmz;refine gR ?_;clear F)
   (have F:=@e;refine gG ?_;exact gT)
  have hl':(i:Int) < (t.args.length:Int):=by omega
  obtain ⟨a,ha⟩:∃ a,t.args[i]?=some a:=⟨_,Taa hl⟩
  have hm:=Tac ha
  have hsa:=Zbx hm
  have hw1:=Zap (k:=i) om
  (have F:=ai @tmz (ai @hl' @ha);refine gG ?_;clear F)
  refine gB ?_
  (have F:=ai @tmz @ha;refine gC (ih' a om (k4.mem hm) (by unfold big;omega)) ?_;clear F)
  by_cases hfa:Zbp g a=true
  rotate_left
  ·have hf:=hno fun h=>hfa (Zef ((ZbP.1 h).2.1 a hm))
   have hfa':Zbp g a=false:=by simpa using hfa
   (have F:=ai @tmz @hfa';refine gR ?_;clear F)
   (have F:=@hf;refine gG ?_;exact gT)
  have hq:i+1<=t.args.length∧∀ (j:Nat) a,j < i+1->t.args[j]?=some a->ZaD g a:=⟨by omega,fun j a' hj ha'=>by
   by_cases e:j=i
   ·subst e
    rw [ha] at ha'
    injection ha' with ha'
    subst ha'
    exact ZiQ.1 hfa
   ·exact hall j a' om ha'⟩
  (have F:=ai @tmz @hfa;refine gR ?_;clear F)
  (have F:=ai @hw1 @tmz;refine gG ?_;exact ⟨i+1,hq,gw,gw,by omega⟩)
theorem Zqh (hokg:ZcI g) (hg:SgnOk g) {t:Tm} (hok:okTm t) (hb:sizeTm t<=big):Con e0 117 [.agg (ZaA g),.agg (Zah t)] [.one (.lit (.bool (Zbp g t)))]:=Zjy hokg hg _ t (Tan _) hok hb
theorem ZfH (hokg:ZcI g) {t:Tm} (hok:okTm t) (hb:sizeTm t<=big):Con e0 51 [.agg (ZaA g),.agg (Zah t)] [.one (.lit (.bool (ZbM g && Zb2 g t)))]:=by
 have cS:=ZhF hokg
 rw [ZaA] at cS
 refine gI 31 Tryz.func51 ?_
 (have F:=ai @tmz @Za7;refine gG ?_;clear F)
 refine gB ?_
 (have F:=@tmz;refine gC (cS) ?_;clear F)
 by_cases hs:ZbM g=true
 rotate_left
 ·have hs':ZbM g=false:=by simpa using hs
  (have F:=ai @tmz @hs';refine gR ?_;clear F)
  (have F:=@hs';refine gG ?_;exact gT)
 have hg:=ZgT.1 hs
 have cF:=Zqh hokg hg hok hb
 rw [ZaA] at cF
 (have F:=ai @tmz @hs;refine gC (ZmR hb) ?_;clear F)
 by_cases h1:sizeTm t<=60∧depthTm t<=20
 rotate_left
 ·have hf:Zb2 g t=false:=ZgX fun h=>h1 ⟨h.size,h.depth⟩
  have h1':decide (sizeTm t<=60∧depthTm t<=20)=false:=by simp only [decide_eq_false_iff_not];exact h1
  (have F:=ai @tmz (ai @h1' @hs);refine gR ?_;clear F)
  (have F:=ai @hs @hf;refine gG ?_;exact gT)
 have h1':decide (sizeTm t<=60∧depthTm t<=20)=true:=by simp only [decide_eq_true_eq];exact h1
 have e:=ZhG (g:=g) h1.1 h1.2
 (have F:=ai @tmz (ai @h1' @hs);refine gC (cF) ?_;clear F)
 (have F:=ai @tmz (ai @h1' @hs);refine gR ?_;clear F)
 (have F:=ai @hs @e;refine gG ?_;exact gT)
end
mutual
theorem Zkm:∀ t:Tm,sizeTm t<=bulkRow (Zah t)+1
 | .mk _ _ _ args=>by
  have:=Zi1 args
  simp only [sizeTm,Zah,bulkRow,Zb3]
  omega
theorem Zi1:∀ ts:List Tm,sizeTms ts<=(Zaf ts).length+bulkRows (Zaf ts)
 | []=>by simp [sizeTms]
 | t::ts=>by
  have h1:=Zkm t
  have h2:=Zi1 ts
  simp only [sizeTms,Zaf,Tag,bulkRows]
  omega
end
theorem Zei {t:Tm} (h:bulkRow (Zah t)<=1048576):sizeTm t<=big:=by
 have:=Zkm t
 unfold big
 omega
theorem Zzp {P:Nat->Prop} (h:∃ n,P n):∃ n,P n∧∀ m,m < n->¬ P m:=by
 obtain ⟨n,hn⟩:=h
 induction n using Nat.strongRecOn with
 | _ n ih =>
  by_cases hx:∃ m,m < n∧P m
  ·obtain ⟨m,hm,hp⟩:=hx;exact ih m hm hp
  ·exact ⟨n,hn,fun m hm hp=>hx ⟨m,hm,hp⟩⟩
theorem ZmT {ts:List Tm} {f:FuncId} {caps:List C} {P:Tm->Bool} (hl:ts.length<=big) (h:∀ a∈ts,Con e0 f (.agg (Zah a)::caps.map .one) [.one (.lit (.bool (P a)))]) :
  ∃ r:Int,((∃ (k:Nat) (a:Tm),r=k∧ts[k]?=some a∧P a=true∧∀ (j:Nat) a,j < k->ts[j]?=some a->P a=false)∨(r=-1∧ts.any P=false))∧Con e0 277 [.one (.sl (Zaf ts)),.one (.fn f caps)] [.one (.lit (.int .i64 r))]:=by
 unfold big at hl
 by_cases hA:ts.any P=true
 ·obtain ⟨k,hk,hbef⟩:∃ k:Nat,(∃ a,ts[k]?=some a∧P a=true)∧∀ (j:Nat) a,j < k->ts[j]?=some a->P a=false:=by
   have hex:∃ k:Nat,∃ a,ts[k]?=some a∧P a=true:=by
    obtain ⟨a,ha,hp⟩:=List.any_eq_true.1 hA
    obtain ⟨k,hk⟩:=Tbh ha
    exact ⟨k,a,hk,hp⟩
   obtain ⟨k,hk,hmin⟩:=Zzp hex
   refine ⟨k,hk,fun j a hj ha=>?_⟩
   cases hp:P a with
   | false=>rfl
   | true=>exact absurd ⟨a,ha,hp⟩ (hmin j hj)
  obtain ⟨a0,ha0,hp0⟩:=hk
  have hkl:=(Tad.1 ha0).1
  refine ⟨(k:Int),.inl ⟨k,a0,rfl,ha0,hp0,hbef⟩,?_⟩
  refine gI 66483 Tryz.func277 ?_
  (have F:=@tmz;refine gG ?_;clear F)
  (have F:=@e0P;refine gL (ι:=Nat) [4,5,8,9,16] [] (fun i=>[(8,A.d (.one (.lit (.int .i64 i))))]) (fun i=>[]) (fun i=>i<=k) (fun i=>k+1 - i) (0) om (fun i hi=>?_);clear F)
  have hl':(i:Int) < (ts.length:Int):=by omega
  obtain ⟨a,ha⟩:∃ a,ts[i]?=some a:=⟨_,Taa om⟩
  have hw1:=Zap (k:=i) om
  (have F:=ai @tmz @hl';refine gG ?_;clear F)
  refine gB ?_
  (have F:=ai @tmz @ha;refine gC (h a (Tac ha)) ?_;clear F)
  by_cases hik:i=k
  ·subst hik
   rw [ha] at ha0
   injection ha0 with ha0
   subst ha0
   (have F:=ai @tmz @hp0;refine gR ?_;clear F)
   (have F:=@tmz;refine gG ?_;exact gT)
  ·have hpf:=hbef i a om ha
   (have F:=ai @tmz @hpf;refine gR ?_;clear F)
   (have F:=ai @hw1 @tmz;refine gG ?_;exact ⟨i+1,by omega,gw,gw,by omega⟩)
 ·have hbef:∀ (j:Nat) a,ts[j]?=some a->P a=false:=fun j a ha=>by
   cases hp:P a with
   | false=>rfl
   | true=>exact absurd (List.any_eq_true.2 ⟨a,Tac ha,hp⟩) hA
  refine ⟨-1,.inr ⟨rfl,by simpa using hA⟩,?_⟩
  refine gI 66483 Tryz.func277 ?_
  (have F:=@tmz;refine gG ?_;clear F)
  (have F:=@e0P;refine gL (ι:=Nat) [4,5,8,9,16] [] (fun i=>[(8,A.d (.one (.lit (.int .i64 i))))]) (fun i=>[]) (fun i=>i<=ts.length) (fun i=>ts.length - i) (0) om (fun i hi=>?_);clear F)
  by_cases hi':i < ts.length
  rotate_left
  ·have hl':¬ ((i:Int) < (ts.length:Int)):=by omega
   (have F:=ai @tmz @hl';refine gG ?_;exact gT)
  have hl':(i:Int) < (ts.length:Int):=by omega
  obtain ⟨a,ha⟩:∃ a,ts[i]?=some a:=⟨_,Taa om⟩
  have hw1:=Zap (k:=i) om
  have hpf:=hbef i a ha
  (have F:=ai @tmz @hl';refine gG ?_;clear F)
  refine gB ?_
  (have F:=ai @tmz @ha;refine gC (h a (Tac ha)) ?_;clear F)
  (have F:=ai @tmz @hpf;refine gR ?_;clear F)
  (have F:=ai @hw1 @tmz;refine gG ?_;exact ⟨i+1,by omega,gw,gw,by omega⟩)
theorem tmK:type_of% (ai @tmz (ai @eKP @Zb1)):=ai @tmz (ai @eKP @Zb1)
section
variable {g:Sgn} {rank:List Int} {Z:Tm->Tm->Prop} {b:Nat}
theorem Zqi {ts:List Tm} {f:FuncId} {caps:List C} {P:Tm->Bool} (hl:ts.length<=big) (h:∀ a∈ts,Con (eK g rank Z b) f (.agg (Zah a)::caps.map .one) [.one (.lit (.bool (P a)))]) :
  ∃ r:Int,(0<=r ↔ ts.any P=true)∧Con (eK g rank Z b) 277 [.one (.sl (Zaf ts)),.one (.fn f caps)] [.one (.lit (.int .i64 r))]:=by
 unfold big at hl
 have hOk:=Zi0 (g:=g) (rank:=rank) (Z:=Z) (b:=b)
 by_cases hA:ts.any P=true
 ·obtain ⟨k,hk,hbef⟩:∃ k:Nat,(∃ a,ts[k]?=some a∧P a=true)∧∀ (j:Nat) a,j < k->ts[j]?=some a->P a=false:=by
   have hex:∃ k:Nat,∃ a,ts[k]?=some a∧P a=true:=by
    obtain ⟨a,ha,hp⟩:=List.any_eq_true.1 hA
    obtain ⟨k,hk⟩:=Tbh ha
    exact ⟨k,a,hk,hp⟩
   obtain ⟨k,hk,hmin⟩:=Zzp hex
   refine ⟨k,hk,fun j a hj ha=>?_⟩
   cases hp:P a with
   | false=>rfl
   | true=>exact absurd ⟨a,ha,hp⟩ (hmin j hj)
  obtain ⟨a0,ha0,hp0⟩:=hk
  have hkl:=(Tad.1 ha0).1
  refine ⟨(k:Int),⟨fun _=>hA,fun _=>by omega⟩,?_⟩
  refine gI 66483 Tryz.func277 ?_
  (have F:=@tmK;refine gG ?_;clear F)
  (have F:=@tmK;refine gL (ι:=Nat) [4,5,8,9,16] [] (fun i=>[(8,A.d (.one (.lit (.int .i64 i))))]) (fun i=>[]) (fun i=>i<=k) (fun i=>k+1 - i) (0) om (fun i hi=>?_);clear F)
  have hl':(i:Int) < (ts.length:Int):=by omega
  obtain ⟨a,ha⟩:∃ a,ts[i]?=some a:=⟨_,Taa om⟩
  have hw1:=Zap (k:=i) om
  (have F:=ai @tmK @hl';refine gG ?_;clear F)
  refine gB ?_
  (have F:=ai @tmK @ha;refine gC (h a (Tac ha)) ?_;clear F)
  by_cases hik:i=k
  ·subst hik
   rw [ha] at ha0
   injection ha0 with ha0
   subst ha0
   (have F:=ai @tmK @hp0;refine gR ?_;clear F)
   (have F:=@tmK;refine gG ?_;exact gT)
  ·have hpf:=hbef i a om ha
   (have F:=ai @tmK @hpf;refine gR ?_;clear F)
   (have F:=ai @hw1 @tmK;refine gG ?_;exact ⟨i+1,by omega,gw,gw,by omega⟩)
 ·have hbef:∀ (j:Nat) a,ts[j]?=some a->P a=false:=fun j a ha=>by
   cases hp:P a with
   | false=>rfl
   | true=>exact absurd (List.any_eq_true.2 ⟨a,Tac ha,hp⟩) hA
  refine ⟨-1,⟨fun h=>by omega,fun h=>absurd h hA⟩,?_⟩
  refine gI 66483 Tryz.func277 ?_
  (have F:=@tmK;refine gG ?_;clear F)
  (have F:=@tmK;refine gL (ι:=Nat) [4,5,8,9,16] [] (fun i=>[(8,A.d (.one (.lit (.int .i64 i))))]) (fun i=>[]) (fun i=>i<=ts.length) (fun i=>ts.length - i) (0) om (fun i hi=>?_);clear F)
  by_cases hi':i < ts.length
  rotate_left
  ·have hl':¬ ((i:Int) < (ts.length:Int)):=by omega
   (have F:=ai @tmK @hl';refine gG ?_;exact gT)
  have hl':(i:Int) < (ts.length:Int):=by omega
  obtain ⟨a,ha⟩:∃ a,ts[i]?=some a:=⟨_,Taa om⟩
  have hw1:=Zap (k:=i) om
  have hpf:=hbef i a ha
  (have F:=ai @tmK @hl';refine gG ?_;clear F)
  refine gB ?_
  (have F:=ai @tmK @ha;refine gC (h a (Tac ha)) ?_;clear F)
  (have F:=ai @tmK @hpf;refine gR ?_;clear F)
  (have F:=ai @hw1 @tmK;refine gG ?_;exact ⟨i+1,by omega,gw,gw,by omega⟩)
theorem ZkA {ts:List Tm} {f:FuncId} {caps:List C} {P:Tm->Bool} (hl:ts.length<=big) (h:∀ a∈ts,Con (eK g rank Z b) f (.agg (Zah a)::caps.map .one) [.one (.lit (.bool (P a)))]) :
  Con (eK g rank Z b) 219 [.one (.sl (Zaf ts)),.one (.fn f caps)] [.one (.lit (.bool (ts.any P)))]:=by
 have hOk:=Zi0 (g:=g) (rank:=rank) (Z:=Z) (b:=b)
 obtain ⟨r,hr,c⟩:=Zqi hl h
 refine gI 19 Tryz.func219 ?_
 (have F:=@tmK;refine gG ?_;clear F)
 refine gB ?_
 (have F:=@tmK;refine gC (c) ?_;clear F)
 have e:decide (0<=r)=ts.any P:=by
  rw [Bool.eq_iff_iff,decide_eq_true_iff];exact hr
 (have F:=@tmK;refine gR ?_;clear F)
 (have F:=ai @e @tmK;refine gG ?_;exact gT)
theorem ZvB (t u:Tm):Con e0 278 [.agg (Zah u),.one (.ptr (Zah t))] [.one (.lit (.bool (decide (Zas t u=0))))]:=by
 have c:=ZdR t u
 refine gI (ts:=[.slot 3]) 15 Tryz.func278 ?_
 (have F:=@tmz;have NN:Zaj 1:=trivial;refine gGn ?_;clear F NN)
 refine gB ?_
 (have F:=@tmz;refine gC (c) ?_;clear F)
 (have F:=@tmz;refine gR ?_;clear F)
 (have F:=@tmz;refine gG ?_;exact gTd)
end
theorem ZmU {x:Tm}:∀ (n:Nat) {t:Tm},sizeTm t < n->sizeTm t<=1000->Con e0 130 [.agg (Zah x),.agg (Zah t)] [.one (.lit (.bool (occT x t)))]:=by
 intro n
 induction n with
 | zero=>exact fun {t} h _=>absurd h om
 | succ n IH =>
 intro t hn hs
 have cS:=ZdR x t
 rw [Zju]
 have hal:t.args.length<=1000:=by
  have h1:=Zbd t
  have h2:t.args.length<=sizeTms t.args:=by
   generalize t.args=l
   induction l with
   | nil=>simp
   | cons a l ih=>simp only [Tag,sizeTms];have:=Zbd a;omega
  omega
 refine gI (ts:=[.slot 4]) 555615 Tryz.func130 ?_
 (have F:=@tmz;have NN:Zaj 1:=trivial;refine gGn ?_;clear F NN)
 refine gB ?_
 (have F:=@tmz;refine gC (cS) ?_;clear F)
 by_cases h0:Zas x t=0
 ·rw [decide_eq_true h0]
  (have F:=@tmz;refine gR ?_;clear F)
  (have F:=ai @Bool.true_or @tmz;refine gG ?_;exact gTd)
 rw [decide_eq_false h0,Bool.false_or]
 (have F:=@tmz;refine gR ?_;clear F)
 (have F:=@tmz;refine gG ?_;clear F)
 (have F:=@tmz;refine gL (ι:=Nat) [4,6,13,14,19] [] (fun i=>[(13,A.d (.one (.lit (.int .i64 i))))]) (fun i=>[]) (fun i=>i<=t.args.length∧(t.args.take i).any (occT x)=false) (fun i=>t.args.length - i) (0) (⟨Taj _,rfl⟩) (fun i hi=>?_);clear F)
 obtain ⟨hi,hall⟩:=hi
 by_cases hlt:i < t.args.length
 rotate_left
 ·obtain rfl:i=t.args.length:=by omega
  have q1:((t.args.length:Int) < (t.args.length:Int))=False:=eq_false om
  rw [Tap] at hall
  rw [hall]
  (have F:=ai @q1 @tmz;refine gG ?_;exact gTd)
 have q1:((i:Int) < (t.args.length:Int))=True:=eq_true om
 obtain ⟨a,ha⟩:∃ a,t.args[i]?=some a:=⟨_,Taa hlt⟩
 have ham:=Tac ha
 have hw1:=Zap (k:=i) om
 have hsa:=ZaW ham
 have cO:=IH (t:=a) om om
 (have F:=ai @q1 (ai @ha (ai @hlt (ai @Zan @tmz)));have NN:Zaj 6:=trivial;refine gGn ?_;clear F NN)
 refine gB ?_
 (have F:=@tmz;refine gC (cO) ?_;clear F)
 cases hh:occT x a with
 | true =>
  have hf:t.args.any (occT x)=true:=List.any_eq_true.2 ⟨a,ham,hh⟩
  rw [hf]
  (have F:=@tmz;refine gR ?_;clear F)
  (have F:=@tmz;refine gG ?_;exact gTd)
 | false =>
  have hq:i+1<=t.args.length∧(t.args.take (i+1)).any (occT x)=false:=⟨hlt,by rw [List.take_add_one,ha,List.any_append,hall];simp [hh]⟩
  (have F:=@tmz;refine gR ?_;clear F)
  (have F:=ai @hw1 @tmz;refine gG ?_;exact ⟨i+1,hq,gw,gw,by omega⟩)
end Go.Proofs.YtcgacanpeaiabaaGreatDoor
namespace Go.Proofs.YtcgacanpeaiabaaGreatDoor
open Go.RowKit Go.MapKept Go.ChangeMaps
section
variable {g:Sgn} {rank:List Int} {b:Nat}
def Zfi (g:Sgn) (mc:C) (rank:List Int) (b:Nat):List C:=[.ptr (encX g mc),.sl (rank.map ZaK),.lit (.map (some b))]
theorem ZfI:∀ (g:Sgn) (mc:C) (rank:List Int) (b:Nat),Zfi g mc rank b=[.ptr (encX g mc),.sl (rank.map ZaK),.lit (.map (some b))]:=fun _ _ _ _=>rfl
def GrK (g:Sgn) (mc:C) (rank:List Int) (b:Nat) (Z:Tm->Tm->Prop) (x y:Tm):Prop:=Con (eK g rank Z b) 60 [.agg (Zfi g mc rank b),.agg (Zah x),.agg (Zah y)] [.one (.lit (.bool (grB g rank x y)))]
def CmK (g:Sgn) (mc:C) (rank:List Int) (b:Nat) (Z:Tm->Tm->Prop) (x y:Tm):Prop:=Con (eK g rank Z b) 132 [.agg (Zfi g mc rank b),.agg (Zah x),.agg (Zah y)] [.one (.lit (.bool (grB g rank x y)))]
theorem ZvC (hg:SgnOk g) {mc:C} {Z:Tm->Tm->Prop} {x y:Tm} (hx:TermOk g x) (hy:TermOk g y) (hz:¬ Z x y) (hc:x.op≠-1->y.op≠-1->CmK g mc rank b (fun u v=>Z u v∨(u=x∧v=y)) x y):GrK g mc rank b Z x y:=by
 unfold GrK
 refine ZmQ (by kernel_rfl) fun M hM=>?_
 rw [ZfI]
 by_cases hxv:x.op=-1
 ·have hV:Zhf g x:=by
   rcases hx.form.node with h | ⟨o,d,h⟩
   ·exact h
   ·have:=h.lo;omega
  have q1:(x.op < 0)=True:=eq_true om
  rw [Zca (Gr.no_var hV.2.2.2.2 hxv)]
  have hR:Zeg g rank Z b false [.one (.lit (.bool false))] [mapB b M]:=⟨rfl,M,hM,rfl⟩
  refine gIP (ts:=[.slot 6]) [1000] 8589972479 Tryz.func60 ?_
  (have F:=ai @q1 @tmz;refine gG ?_;clear F)
  exact (have F:=tmz;gTP (R:=Zeg g rank Z b false) [1000] hR (hp:=rfl))
 have x0:0<=x.op:=by
  rcases hx.form.node with h | ⟨o,d,h⟩
  ·exact absurd h.1 hxv
  ·exact h.lo
 have q1:(x.op < 0)=False:=eq_false om
 by_cases hyv:y.op=-1
 ·have q2:(y.op < 0)=True:=eq_true om
  have cO:=ZmU (x:=y) _ (Tan _) (t:=x) (by have:=hx.size;omega)
  have e:occT y x=grB g rank x y:=by rw [Bool.eq_iff_iff,ZbC];exact Zug hxv hyv
  rw [e] at cO
  have hR:Zeg g rank Z b (grB g rank x y) [.one (.lit (.bool (grB g rank x y)))] [mapB b M]:=⟨rfl,M,hM,rfl⟩
  refine gIP (ts:=[.slot 6]) [1000] 8589972479 Tryz.func60 ?_
  (have F:=ai @q1 (ai @q2 @tmz);have NN:Zaj 4:=trivial;refine gGn ?_;clear F NN)
  refine gB ?_
  (have F:=@tmz;refine gC (cO) ?_;clear F)
  (have F:=@tmz;refine gR ?_;clear F)
  (have F:=@tmz;refine gG ?_;clear F)
  exact (have F:=tmz;gTP (R:=Zeg g rank Z b (grB g rank x y)) [1000] hR (hp:=rfl))
 have y0:0<=y.op:=by
  rcases hy.form.node with h | ⟨o,d,h⟩
  ·exact absurd h.1 hyv
  ·exact h.lo
 have q2:(y.op < 0)=False:=eq_false om
 have cX:=Zkj hg hx.form hx.size
 have cY:=Zkj hg hy.form hy.size
 have cC:=hc hxv hyv
 unfold CmK at cC
 rw [ZfI] at cC
 refine gIP (ts:=[.slot 6]) [1000] 8589972479 Tryz.func60 ?_
 (have F:=ai @q1 (ai @q2 @tmz);have NN:Zaj 5:=trivial;refine gGn ?_;clear F NN)
 refine gB ?_
 have sx:(keyS x).size<=2000:=by have:=Zf9 hg x hx.form;have:=hx.size;show (ZbH x).toArray.size<=2000;simp;omega
 have sy:(keyS y).size<=2000:=by have:=Zf9 hg y hy.form;have:=hy.size;show (ZbH y).toArray.size<=2000;simp;omega
 have z1:((keyS x).size+ByteArray.size { data:=#[62] }<=9223372036854775807)=True:=eq_true (by show (keyS x).size+1<=_;omega)
 have z2:((keyS x++{ data:=#[62] }).size+(keyS y).size<=9223372036854775807)=True:=eq_true (by rw [ByteArray.size_append];show (keyS x).size+1+_<=_;omega)
 have kq:keyS x++{ data:=#[62] }++keyS y=keyQ x y:=rfl
 (have F:=@tmz;refine gC (cX) ?_;clear F)
 (have F:=ai @z1 (ai @z2 @tmz);refine gC (cY) ?_;clear F)
 (have F:=ai @z1 (ai @z2 (ai @kq @tmz));refine gR ?_;clear F)
 (have F:=@tmz;have NN:Zaj 6:=trivial;refine gGn ?_;clear F NN)
 refine gB ?_
 (have F:=@tmz;refine gP 3 ?_;clear F)
 cases hfs:Za3 M (keyQ x y) with
 | some v =>
  have hv:=hM.1 x y hx.form hy.form v hfs
  subst hv
  have hR:Zeg g rank Z b (grB g rank x y) [.one (.lit (.bool (grB g rank x y)))] [mapB b M]:=⟨rfl,M,hM,rfl⟩
  refine (have F:=tmz;gLo 1000 Zc9 ZdP ZeN (v:=.bool (grB g rank x y)) (f:=true) (by rw [hfs];rfl) (by rw [hfs];rfl) ?_)
  (have F:=@tmz;refine gR ?_;clear F)
  (have F:=@tmz;refine gG ?_;clear F)
  exact (have F:=tmz;gTP (R:=Zeg g rank Z b (grB g rank x y)) [1000] hR (hp:=rfl))
 | none =>
 refine (have F:=tmz;gLo 1000 Zc9 ZdP ZeN (v:=.bool false) (f:=false) (by rw [hfs];rfl) (by rw [hfs];rfl) ?_)
 have hA2:AbsM g (fun u v=>Z u v∨(u=x∧v=y)) M:=fun u v hu hv h=>by
  rcases h with h | ⟨rfl,rfl⟩
  ·exact hM.2 u v hu hv h
  ·exact hfs
 have cP:=ZhO cC ⟨hM.1,hA2⟩
 (have F:=@tmz;refine gR ?_;clear F)
 (have F:=@tmz;have NN:Zaj 8:=trivial;refine gGn ?_;clear F NN)
 refine gB ?_
 (have F:=@tmz;refine gCP [1000] [1000] (hpn:=rfl) (cP) ?_;clear F)
 rintro r pm ⟨rfl,M',⟨hM1,hA1⟩,rfl⟩
 simp only [setA,retA,zipM,Taf,Tah]
 have hnone:Za3 M' (keyQ x y)=none:=hA1 x y hx.form hy.form (.inr ⟨rfl,rfl⟩)
 have hAZ:AbsM g Z M':=fun u v hu hv h=>hA1 u v hu hv (.inl h)
 have hR:Zeg g rank Z b (grB g rank x y) [.one (.lit (.bool (grB g rank x y)))] [mapB b (M'++[(keyQ x y,.bool (grB g rank x y))])]:=⟨rfl,_,⟨hM1.snoc hg hx.form hy.form,hAZ.snoc hg hx.form hy.form hz⟩,rfl⟩
 (have F:=@tmz;refine gR ?_;clear F)
 (have F:=@tmz;have NN:Zaj 9:=trivial;refine gGn ?_;clear F NN)
 refine gB ?_
 (have F:=@tmz;refine gP 4 ?_;clear F)
 refine (have F:=tmz;gUp 1000 Zc9 ZdP hnone ?_)
 (have F:=@tmz;refine gR ?_;clear F)
 (have F:=@tmz;refine gG ?_;clear F)
 exact (have F:=tmz;gTP (R:=Zeg g rank Z b (grB g rank x y)) [1000] hR (hp:=rfl))
end
end Go.Proofs.YtcgacanpeaiabaaGreatDoor
namespace Go.Proofs.YtcgacanpeaiabaaGreatDoor
open Go.RowKit
section
variable {g:Sgn} {rank:List Int} {Z:Tm->Tm->Prop} {b:Nat}
theorem ZvD {mc:C} {t u:Tm} (h:GrK g mc rank b Z t u):Con (eK g rank Z b) 280 [.agg (Zah t),.one (.ptr (Zfi g mc rank b)),.one (.ptr (Zah u))] [.one (.lit (.bool (grB g rank t u)))]:=by
 have hOk:=Zi0 (g:=g) (rank:=rank) (Z:=Z) (b:=b)
 unfold GrK at h
 rw [ZfI] at *
 refine gI (ts:=[.slot 4]) 31 Tryz.func280 ?_
 (have F:=@tmK;have NN:Zaj 1:=trivial;refine gGn ?_;clear F NN)
 refine gB ?_
 (have F:=@tmK;refine gC (h) ?_;clear F)
 (have F:=@tmK;refine gR ?_;clear F)
 (have F:=@tmK;refine gG ?_;exact gTd)
end
theorem Zjz (ts:List Tm) (i:Nat) (hi:i < ts.length) (hl:ts.length<=1048576):Con e0 273 [.one (.sl (Zaf ts)),.one (.lit (.int .i64 i))] [.one (.sl (Zaf (ts.take i++ts.drop (i+1))))]:=by
 rw [Zp8,<- ZhK,<- ZhL]
 have hxl:((i:Int)<=(ts.length:Int))=True:=eq_true om
 have hxl2:(((i+1:Nat):Int)<=(ts.length:Int))=True:=eq_true om
 have hw:=Zap (k:=i) om
 have r1:ZaE 4 ((Zaf ts).take i)=true:=by rw [ZhK];exact Zdt _
 have r2:ZaE 4 ((Zaf ts).drop (i+1))=true:=by rw [ZhL];exact Zdt _
 have n1:((Zaf ts).take i).length<=1048576:=by rw [Tav,ZaH];omega
 have n2:((Zaf ts).drop (i+1)).length<=1048576:=by rw [List.length_drop,ZaH];omega
 have n3:((Zaf ts).take i).length+((Zaf ts).drop (i+1)).length<=maxApp:=by unfold maxApp;omega
 have tkA:(Zaf ts).take ts.length=Zaf ts:=by rw [<- ZaH ts,Tap]
 have hll:((ts.length:Int)<=(ts.length:Int))=True:=eq_true (Int.le_refl _)
 refine gI (ts:=[.slot 4]) 19 Tryz.func273 ?_
 (have F:=@tmz;have NN:Zaj 1:=trivial;refine gGn ?_;clear F NN)
 have F:=ai r1 (ai r2 (ai hxl (ai hxl2 (ai hw (ai n3 (ai tkA (ai hll (ai @Zan tmz))))))))
 refine gA 9 4 ?_ (.inl rfl) ?_
 ·show 0+_<=maxApp
  unfold maxApp;omega
 clear F
 (have F:=ai @r1 (ai @r2 (ai @hxl (ai @hxl2 (ai @hw (ai @n3 (ai @tkA (ai @hll (ai @Zan @tmz))))))));refine gR ?_;clear F)
 (have F:=ai @r1 (ai @r2 (ai @n3 @tmz));refine gG ?_;exact gTz [4])
theorem okA {t a:Tm} (h:okTm t) (ha:a∈t.args):okTm a:=by
 obtain ⟨op,nm,so,args⟩:=t
 simp only [okTm] at h
 exact h.2.2.2.mem ha
theorem ZmV {x:Tm} (hx:okTm x):∀ (n:Nat) {t:Tm},sizeTm t < n->okTm t->sizeTm t<=1000->Con e0 119 [.agg (Zah x),.agg (Zah t)] [.one (.lit (.bool (occT x t)))]:=by
 intro n
 induction n with
 | zero=>exact fun {t} h _ _=>absurd h om
 | succ n IH =>
 intro t hn ht hs
 have cS:=Zdb hx ht
 rw [Zju]
 refine gI (ts:=[.slot 4]) 4202815 Tryz.func119 ?_
 (have F:=@tmz;have NN:Zaj 1:=trivial;refine gGn ?_;clear F NN)
 refine gB ?_
 (have F:=@tmz;refine gC (cS) ?_;clear F)
 by_cases h0:Zas x t=0
 ·rw [decide_eq_true h0]
  (have F:=@tmz;refine gR ?_;clear F)
  (have F:=ai @Bool.true_or @tmz;refine gG ?_;exact gTd)
 rw [decide_eq_false h0,Bool.false_or]
 have hal:t.args.length<=1000:=by
  have h1:=Zbd t
  have h2:t.args.length<=sizeTms t.args:=by
   generalize t.args=l
   induction l with
   | nil=>simp
   | cons a l ih=>simp only [Tag,sizeTms];have:=Zbd a;omega
  omega
 (have F:=@tmz;refine gR ?_;clear F)
 (have F:=@tmz;refine gG ?_;clear F)
 (have F:=@tmz;refine gL (ι:=Nat) [4,5,13,22] [] (fun i=>[(5,A.d (.one (.lit (.int .i64 i))))]) (fun i=>[]) (fun i=>i<=t.args.length∧(t.args.take i).any (occT x)=false) (fun i=>t.args.length - i) (0) (⟨Taj _,rfl⟩) (fun i hi=>?_);clear F)
 obtain ⟨hi,hall⟩:=hi
 by_cases hlt:i < t.args.length
 rotate_left
 ·obtain rfl:i=t.args.length:=by omega
  have q1:((t.args.length:Int) < (t.args.length:Int))=False:=eq_false om
  rw [Tap] at hall
  rw [hall]
  (have F:=ai @q1 @tmz;refine gG ?_;exact gTd)
 have q1:((i:Int) < (t.args.length:Int))=True:=eq_true om
 obtain ⟨a,ha⟩:∃ a,t.args[i]?=some a:=⟨_,Taa hlt⟩
 have ham:=Tac ha
 have hw1:=Zap (k:=i) om
 have hsa:=ZaW ham
 have cO:=IH (t:=a) om (okA ht ham) om
 (have F:=ai @q1 @tmz;have NN:Zaj 6:=trivial;refine gGn ?_;clear F NN)
 refine gB ?_
 (have F:=ai @ha (ai @hlt (ai @Zan @tmz));refine gC (cO) ?_;clear F)
 cases hh:occT x a with
 | true =>
  have hf:t.args.any (occT x)=true:=List.any_eq_true.2 ⟨a,ham,hh⟩
  rw [hf]
  (have F:=@tmz;refine gR ?_;clear F)
  (have F:=@tmz;refine gG ?_;exact gTd)
 | false =>
  have hq:i+1<=t.args.length∧(t.args.take (i+1)).any (occT x)=false:=⟨hlt,by rw [List.take_add_one,ha,List.any_append,hall];simp [hh]⟩
  (have F:=@tmz;refine gR ?_;clear F)
  (have F:=ai @hw1 @tmz;refine gG ?_;exact ⟨i+1,hq,gw,gw,by omega⟩)
theorem Zer {ts:List Tm}:Zbj ts ↔ ∀ t∈ts,okTm t:=by
 induction ts with
 | nil=>simp [Zbj]
 | cons t ts ih=>simp [Zbj,ih]
theorem ZvE {l m:List Tm} (h:Zbj l):Zbj (Zbe l m):=Zer.2 fun t ht=>h.mem (Zf8 ht)
theorem ZhR {l m:List Tm} (hl:Zbj l) (hm:Zbj m) (hll:l.length<=1000) (hml:m.length<=1000):Con e0 201 [.one (.sl (Zaf l)),.one (.sl (Zaf m))] [.one (.sl (Zaf (Zbe l m)))]:=by
 have l1:=ZaH l
 have l2:=ZaH m
 have r1:=Zdt l
 have r2:=Zdt m
 have hmx:(l.length<=maxApp)=True:=eq_true (by unfold maxApp;omega)
 have z0:Zbe l []=l:=rfl
 refine gI (ts:=[.slot 4]) 2148548851 Tryz.func201 ?_
 (have F:=ai @l1 (ai @r1 (ai @hmx @tmz));have NN:Zaj 2:=trivial;refine gGn ?_;clear F NN)
 refine ZcG (Zdy [5] (by simp only [pz,↓reduceIte,Nat.reduceEqDiff,Nat.reduceAdd,Nat.reduceSub,Nat.reduceMul,Nat.reduceLeDiff,Nat.reduceBEq,Tam,decide_true,decide_false,Int.reduceLE,Int.reduceToNat,Int.reduceLT,Int.reduceEq,eq_self,Nat.reduceShiftRight,Nat.reduceAnd,Nat.reduceBneDiff,tmz];exact rfl)) fun σ' hσ=>?_
 subst hσ
 (have F:=@tmz;refine gG ?_;clear F)
 (have F:=@tmz;refine gL (ι:=Nat × List Tm) [5,6,7,14,20,31] [] (fun x=>[(6,A.d (.one (.lit (.int .i64 x.1)))),(5,.d (.one (.sl (Zaf x.2))))]) (fun x=>[]) (fun x=>x.1<=m.length∧x.2=Zbe l (m.take x.1)) (fun x=>m.length - x.1) ((0,l)) (⟨Taj _,rfl⟩) (fun x hx=>?_);clear F)
 obtain ⟨i,V⟩:=x
 obtain ⟨hi,hV⟩:=hx
 simp only at hi hV
 subst hV
 dsimp only
 by_cases hlt:i < m.length
 rotate_left
 ·obtain rfl:i=m.length:=by omega
  have q1:((m.length:Int) < (m.length:Int))=False:=eq_false om
  rw [Tap]
  (have F:=ai @q1 (ai @l2 @tmz);refine gG ?_;exact gTd)
 have q1:((i:Int) < (m.length:Int))=True:=eq_true om
 have hw1:=Zap (k:=i) om
 obtain ⟨y,hy⟩:∃ y,m[i]?=some y:=⟨_,Taa hlt⟩
 have hym:=hm.mem (Tac hy)
 have hst:=Zuj (l:=l) hy
 have hVk:Zbj (Zbe l (m.take i)):=ZvE hl
 have hVl:(Zbe l (m.take i)).length<=1000:=Tbb (Zf7 _ _) hll
 generalize Zbe l (m.take i)=V at *
 have v1:=ZaH V
 have vr:=Zdt V
 (have F:=ai @q1 (ai @l2 @tmz);refine gG ?_;clear F)
 (have F:=@tmz;refine gL (ι:=Nat) [5,7,20,31] [] (fun k=>[(7,A.d (.one (.lit (.int .i64 k)))),(5,.d (.one (.sl (Zaf V))))]) (fun k=>[]) (fun k=>k<=V.length∧∀ (j:Nat) u,j < k->V[j]?=some u->Zas u y≠0) (fun k=>V.length - k) (0) (⟨Taj _,fun j u h=>absurd h om⟩) (fun k hk=>?_);clear F)
 obtain ⟨hk,hall⟩:=hk
 by_cases hkl:k < V.length
 rotate_left
 ·obtain rfl:k=V.length:=by omega
  have q2:((V.length:Int) < (V.length:Int))=False:=eq_false om
  have e:V=Zbe l (m.take (i+1)):=by rw [hst,Zui fun j u hu=>hall j u (Tad.1 hu).1 hu]
  (have F:=ai @q2 (ai @v1 (ai @hw1 @tmz));refine gG ?_;exact ⟨(i+1,V),⟨hlt,e⟩,gw,gw,by omega⟩)
 have q2:((k:Int) < (V.length:Int))=True:=eq_true om
 have hw2:=Zap (k:=k) om
 obtain ⟨u,hu⟩:∃ u,V[k]?=some u:=⟨_,Taa hkl⟩
 have cS:=Zdb (hVk.mem (Tac hu)) hym
 (have F:=ai @q2 (ai @v1 @tmz);have NN:Zaj 8:=trivial;refine gGn ?_;clear F NN)
 refine gB ?_
 (have F:=ai @hu (ai @hkl (ai @v1 (ai @vr (ai @hy (ai @hlt (ai @l2 (ai @r2 (ai @Zan @tmz))))))));refine gC (cS) ?_;clear F)
 by_cases h0:Zas u y=0
 ·rw [decide_eq_true h0]
  have cW:=Zjz V k hkl om
  have e:V.take k++V.drop (k+1)=Zbe l (m.take (i+1)):=by rw [hst,Zuh hu h0 hall]
  rw [e] at cW
  (have F:=@tmz;refine gR ?_;clear F)
  (have F:=@tmz;have NN:Zaj 9:=trivial;refine gGn ?_;clear F NN)
  refine gB ?_
  (have F:=@tmz;refine gC (cW) ?_;clear F)
  (have F:=@tmz;refine gR ?_;clear F)
  (have F:=ai @hw1 @tmz;refine gG ?_;exact ⟨(i+1,Zbe l (m.take (i+1))),⟨hlt,rfl⟩,gw,gw,by omega⟩)
 ·rw [decide_eq_false h0]
  have hq:k+1<=V.length∧∀ (j:Nat) u,j < k+1->V[j]?=some u->Zas u y≠0:=⟨hkl,fun j u' hj hu'=>by
   by_cases e:j=k
   ·subst e;rw [hu] at hu';injection hu' with hu';subst hu';exact h0
   ·exact hall j u' om hu'⟩
  (have F:=@tmz;refine gR ?_;clear F)
  (have F:=ai @hw2 @tmz;refine gG ?_;exact ⟨k+1,hq,gw,gw,by omega⟩)
def Zfj (o:Opr):Bool:=!o.assoc && decide (o.unit=0)
noncomputable def Zcz (g:Sgn):Bool:=g.ops.all Zfj && ZbM g
theorem Zkn {g:Sgn} (h:∀ o∈g.ops,o.assoc=false∧o.unit<=0):Zcz g=ZbM g:=by
 cases hs:ZbM g with
 | false=>rw [Zcz,hs,Bool.and_false]
 | true =>
  have hg:=ZgT.1 hs
  have:g.ops.all Zfj=true:=List.all_eq_true.2 fun o ho=>by
   have h1:=(hg.axs o ho).lo
   obtain ⟨h2,h3⟩:=h o ho
   simp only [Zfj,h2,Bool.not_false,Bool.true_and,decide_eq_true_eq]
   omega
  rw [Zcz,this,hs];rfl
theorem ZeH {g:Sgn} {o:Opr} (ho:o∈g.ops) (h:o.assoc=true∨o.unit≠0):Zcz g=false:=by
 have:g.ops.all Zfj=false:=(fun (h:Zfj o=false)=>List.all_eq_false.2 ⟨o,ho,by rw [h];exact Bool.false_ne_true⟩) (by
  rcases h with h | h
  ·simp [Zfj,h]
  ·simp [Zfj,h])
 rw [Zcz,this,Bool.false_and]
theorem Zko {l:List Opr} {i:Nat} {o:Opr} (ho:l[i]?=some o) (h:∀ o∈l.take i,o.assoc=false∧o.unit<=0) (h2:o.assoc=false∧o.unit<=0):∀ o∈l.take (i+1),o.assoc=false∧o.unit<=0:=fun o' ho'=>by
 rw [ZbJ ho] at ho'
 rcases Tbe.1 ho' with h3 | h3
 ·exact h o' h3
 ·rw [Tbg.1 h3];exact h2
section
variable {g:Sgn}
theorem Zl8 (hg:ZcI g) (hl:g.ops.length<=1048576):Con e0 57 [.agg (ZaA g)] [.one (.lit (.bool (Zcz g)))]:=by
 have cS:=Zfs hg
 rw [ZaA] at cS ⊢
 refine gI 263127 Tryz.func57 ?_
 (have F:=@e0P;refine gG ?_;clear F)
 (have F:=@e0P;refine gL (ι:=Nat) [2,4,8,9,18] [] (fun i=>[(8,A.d (.one (.lit (.int .i64 i))))]) (fun i=>[]) (fun i=>i<=g.ops.length∧∀ o∈g.ops.take i,o.assoc=false∧o.unit<=0) (fun i=>g.ops.length - i) (0) (⟨Taj _,fun o h=>by simp at h⟩) (fun i hi=>?_);clear F)
 obtain ⟨hil,hall⟩:=hi
 by_cases hlt:i < g.ops.length
 rotate_left
 ·obtain rfl:i=g.ops.length:=by omega
  rw [Tap] at hall
  have q1:¬ ((g.ops.length:Int) < (g.ops.length:Int)):=by omega
  have ht:=Zkn hall
  (have F:=@q1;refine gG ?_;clear F)
  refine gB ?_
  (have F:=@e0P;refine gC (cS) ?_;clear F)
  (have F:=@e0P;refine gR ?_;clear F)
  (have F:=@ht;refine gG ?_;exact gT)
 have q1:(i:Int) < (g.ops.length:Int):=by omega
 obtain ⟨o,ho⟩:∃ o,g.ops[i]?=some o:=⟨_,Taa hlt⟩
 have hom:=Tac ho
 have hw:=Zap (k:=i) om
 cases ha:o.assoc with
 | true =>
  have hf:=ZeH hom (.inl ha)
  (have F:=ai @q1 (ai @ho (ai @Zak (ai @ha @hf)));refine gG ?_;exact gT)
 | false =>
 by_cases hu:o.unit=0
 ·have z:(o.unit=0)=True:=eq_true hu
  (have F:=ai @q1 (ai @ho (ai @Zak (ai @ha (ai @z @hw))));refine gG ?_;exact ⟨i+1,⟨hlt,Zko ho hall ⟨ha,by omega⟩⟩,gw,gw,by omega⟩)
 ·have z:(o.unit=0)=False:=eq_false hu
  have hf:=ZeH hom (.inr hu)
  (have F:=ai @q1 (ai @ho (ai @Zak (ai @ha (ai @z @hf))));refine gG ?_;exact gT)
theorem Zl9 (hg:ZcI g) (hl:g.ops.length<=1048576):Con e0 50 [.agg (ZaA g)] [.one (.lit (.bool (Zcz g)))]:=by
 have cS:=ZhF hg
 rw [ZaA] at cS ⊢
 refine gI 33554703 Tryz.func50 ?_
 (have F:=@e0P;refine gG ?_;clear F)
 (have F:=@e0P;refine gL (ι:=Nat) [2,3,8,25] [] (fun i=>[(3,A.d (.one (.lit (.int .i64 i))))]) (fun i=>[]) (fun i=>i<=g.ops.length∧∀ o∈g.ops.take i,o.assoc=false∧o.unit<=0) (fun i=>g.ops.length - i) (0) (⟨Taj _,fun o h=>by simp at h⟩) (fun i hi=>?_);clear F)
 obtain ⟨hil,hall⟩:=hi
 by_cases hlt:i < g.ops.length
 rotate_left
 ·obtain rfl:i=g.ops.length:=by omega
  rw [Tap] at hall
  have q1:¬ ((g.ops.length:Int) < (g.ops.length:Int)):=by omega
  have ht:=Zkn hall
  (have F:=@q1;refine gG ?_;clear F)
  refine gB ?_
  (have F:=@e0P;refine gC (cS) ?_;clear F)
  (have F:=@e0P;refine gR ?_;clear F)
  (have F:=@ht;refine gG ?_;exact gT)
 have q1:(i:Int) < (g.ops.length:Int):=by omega
 obtain ⟨o,ho⟩:∃ o,g.ops[i]?=some o:=⟨_,Taa hlt⟩
 have hom:=Tac ho
 have hw:=Zap (k:=i) om
 cases ha:o.assoc with
 | true =>
  have hf:=ZeH hom (.inl ha)
  (have F:=ai @q1 (ai @ho (ai @Zak (ai @ha @hf)));refine gG ?_;exact gT)
 | false =>
 by_cases hu:0 < o.unit
 ·have z:(0 < o.unit)=True:=eq_true hu
  have hf:=ZeH hom (.inr om)
  (have F:=ai @q1 (ai @ho (ai @Zak (ai @ha (ai @z @hf))));refine gG ?_;exact gT)
 ·have z:(0 < o.unit)=False:=eq_false hu
  (have F:=ai @q1 (ai @ho (ai @Zak (ai @ha (ai @z @hw))));refine gG ?_;exact ⟨i+1,⟨hlt,Zko ho hall ⟨ha,by omega⟩⟩,gw,gw,by omega⟩)
end
theorem Opr.two {g:Sgn} (hg:SgnOk g) {i:Nat} {o:Opr} {d:Dcl} (ho:g.ops[i]?=some o) (hd:o.decls[0]?=some d) (h:o.assoc=true∨o.comm=true∨o.unit≠0):∃ k1 k2,d.args=[k1,k2]∧kd g.sorts k1=kd g.sorts k2∧((o.assoc=true∨o.unit≠0)->kd g.sorts k1=kd g.sorts d.res):=by
 have h2:=(hg.axs o (Tac ho)).two h d hd
 obtain ⟨a,b,hab⟩:=ZAc h2.1
 have h3:=h2.2 a b (by rw [hab];rfl) (by rw [hab];rfl)
 exact ⟨a,b,hab,h3.1,h3.2.1⟩
theorem ZaD.ok {g:Sgn} (hg:SgnOk g):∀ (n:Nat) (t:Tm),sizeTm t < n->ZaD g t->okTm t:=by
 intro n
 induction n with
 | zero=>intro t h;omega
 | succ n ih =>
  intro t hn hf
  obtain ⟨h1,h2,_⟩:=ZbP.1 hf
  have hargs:Zbj t.args:=by
   have:∀ l:List Tm,(∀ a∈l,okTm a)->Zbj l:=fun l=>by
    induction l with
    | nil=>intro _;trivial
    | cons x xs ih=>intro h;exact ⟨h x Tas,ih fun a ha=>h a (Tal _ ha)⟩
   refine this _ fun a ha=>ih a ?_ (h2 a ha)
   have:=Zbx ha
   rw [Zbd] at hn
   omega
  rw [Zd2]
  have hsn:g.sorts.names.length<=8:=hg.sorts.n8
  rcases h1 with hv | ⟨o,d,hA⟩
  ·obtain ⟨v1,v2,v3,v4,v5⟩:=hv
   have:t.name.size<=12:=by unfold Za2 at v2;simp only [Tar,decide_eq_true_eq] at v2;exact v2.1.1.1.2
   exact ⟨by unfold I64;omega,by unfold maxLen;omega,by unfold I64;omega,hargs⟩
  ·have h3:=hA.lo
   have h4:=(Tad.1 hA.at').1
   have h5:=hg.len
   rw [hA.nm,hA.so]
   exact ⟨by unfold I64;omega,by simp [maxLen],by unfold I64;omega,hargs⟩
theorem TermOk.ok {g:Sgn} (hg:SgnOk g) {t:Tm} (h:TermOk g t):okTm t:=ZaD.ok hg _ t (Tan _) h.form
theorem TermOk.arg {g:Sgn} {t a:Tm} (h:TermOk g t) (ha:a∈t.args):TermOk g a:=by
 have s1:=Zbx ha
 have s2:=ZlP ha
 have s3:=h.size
 have s4:=h.depth
 rw [Zbd] at s3
 rw [Zp4] at s4
 exact ⟨by omega,by omega,(ZbP.1 h.form).2.1 a ha⟩
theorem TermOk.app {g:Sgn} {t a:Tm} (h:TermOk g t) (ha:a∈t.args):∃ o d,AppOk g t o d:=by
 rcases h.form.node with hv | h
 ·rw [hv.2.2.2.2] at ha;cases ha
 ·exact h
theorem Zd5 {g:Sgn} {t:Tm} (h:TermOk g t):t.args.length<=60:=by
 have h1:=h.size
 rw [Zbd] at h1
 have:=Zby t.args
 omega
section
variable {g:Sgn} {rank:List Int}
open Classical in
noncomputable def lexB (g:Sgn) (rank:List Int) (a b:List Tm):Bool:=decide (LexG (rkF rank) (cmF g) a b)
open Classical in
noncomputable def bagB (g:Sgn) (rank:List Int) (a b:List Tm):Bool:=decide (BagG (rkF rank) (cmF g) a b)
theorem Zga {a b:List Tm}:lexB g rank a b=true ↔ LexG (rkF rank) (cmF g) a b:=by simp [lexB]
theorem Zgb {a b:List Tm}:bagB g rank a b=true ↔ BagG (rkF rank) (cmF g) a b:=by simp [bagB]
theorem Zpu {a b:List Tm} {i:Nat} {x y:Tm} (hx:a[i]?=some x) (hy:b[i]?=some y) (hne:x≠y) (hj:∀ (j:Nat) u v,j < i->a[j]?=some u->b[j]?=some v->u=v):lexB g rank a b=grB g rank x y:=by
 have hlx:=(Tad.1 hx).1
 have hly:=(Tad.1 hy).1
 have hjj:∀ j,j < i->a[j]?=b[j]?:=fun j h=>by
  have h1:=Taa (show j < a.length by omega)
  have h2:=Taa (show j < b.length by omega)
  rw [h1,h2,hj j _ _ h h1 h2]
 rw [Bool.eq_iff_iff,Zga,ZbC]
 constructor
 ·rintro ⟨k,u,v,hu,hv,hk,hg⟩
  rcases Nat.lt_trichotomy i k with h | h | h
  ·have:=hk i h
   rw [hx,hy] at this
   injection this with this
   exact absurd this hne
  ·subst h
   rw [hx] at hu;rw [hy] at hv
   injection hu with hu;injection hv with hv
   subst hu hv
   exact hg
  ·have:=hj k u v h hu hv
   subst this
   exact absurd hg Gr.irr
 ·exact fun h=>⟨i,x,y,hx,hy,hjj,h⟩
theorem Zpv {a b:List Tm} (hj:∀ (j:Nat) u v,a[j]?=some u->b[j]?=some v->u=v):lexB g rank a b=false:=by
 cases h:lexB g rank a b with
 | false=>rfl
 | true =>
  obtain ⟨k,u,v,hu,hv,hk,hg⟩:=Zga.1 h
  have:=hj k u v hu hv
  subst this
  exact absurd hg Gr.irr
def GrC (g:Sgn) (rank:List Int) (x y:Tm):Prop:=Con e0 52 [.agg (ZaA g),.one (.sl (rank.map ZaK)),.agg (Zah x),.agg (Zah y)] [.one (.lit (.bool (grB g rank x y)))]
theorem Zma {a b:List Tm} (ha:Zbj a) (hb:Zbj b) (hl:a.length=b.length) (h7:a.length<=1000) (h:∀ x∈a,∀ y∈b,GrC g rank x y):Con e0 121 [.agg (ZaA g),.one (.sl (rank.map ZaK)),.one (.sl (Zaf a)),.one (.sl (Zaf b))] [.one (.lit (.bool (lexB g rank a b)))]:=by
 have l1:=ZaH a
 have l2:=ZaH b
 rw [<- hl] at l2
 have r1:=Zdt a
 have r2:=Zdt b
 unfold GrC at h
 rw [ZaA] at *
 refine gI (ts:=[.slot 8]) 33563423 Tryz.func121 ?_
 (have F:=@tmz;refine gG ?_;clear F)
 (have F:=@tmz;refine gL (ι:=Nat) [8,9,13,25] [] (fun i=>[(9,A.d (.one (.lit (.int .i64 i))))]) (fun i=>[]) (fun i=>i<=a.length∧∀ (j:Nat) u v,j < i->a[j]?=some u->b[j]?=some v->u=v) (fun i=>a.length - i) (0) (⟨Taj _,fun j u v h=>absurd h om⟩) (fun i hi=>?_);clear F)
 obtain ⟨hi,hall⟩:=hi
 by_cases hlt:i < a.length
 rotate_left
 ·obtain rfl:i=a.length:=by omega
  have q1:((a.length:Int) < (a.length:Int))=False:=eq_false om
  rw [Zpv fun j u v hu hv=>hall j u v (Tad.1 hu).1 hu hv]
  (have F:=ai @q1 (ai @l1 @tmz);refine gG ?_;exact gTd)
 have q1:((i:Int) < (a.length:Int))=True:=eq_true om
 have hw1:=Zap (k:=i) om
 obtain ⟨x,hx⟩:∃ x,a[i]?=some x:=⟨_,Taa hlt⟩
 obtain ⟨y,hy⟩:∃ y,b[i]?=some y:=⟨_,Taa om⟩
 have hxm:=Tac hx
 have hym:=Tac hy
 have cS:=Zdb (ha.mem hxm) (hb.mem hym)
 have cG:=h x hxm y hym
 (have F:=ai @q1 (ai @l1 @tmz);have NN:Zaj 4:=trivial;refine gGn ?_;clear F NN)
 refine gB ?_
 (have F:=ai @hx (ai @hy (ai @hlt (ai @l1 (ai @l2 (ai @r1 (ai @r2 (ai @Zan @tmz)))))));refine gC (cS) ?_;clear F)
 by_cases h0:Zas x y=0
 ·rw [decide_eq_true h0]
  have hq:i+1<=a.length∧∀ (j:Nat) u v,j < i+1->a[j]?=some u->b[j]?=some v->u=v:=⟨hlt,fun j u v hj hu hv=>by
   by_cases e:j=i
   ·subst e;rw [hx] at hu;rw [hy] at hv;injection hu with hu;injection hv with hv;subst hu hv;exact Zbq.1 h0
   ·exact hall j u v om hu hv⟩
  (have F:=@tmz;refine gR ?_;clear F)
  (have F:=ai @hw1 @tmz;refine gG ?_;exact ⟨i+1,hq,gw,gw,by omega⟩)
 ·rw [decide_eq_false h0,Zpu hx hy (fun e=>h0 (Zbq.2 e)) hall]
  (have F:=@tmz;refine gR ?_;clear F)
  (have F:=@tmz;have NN:Zaj 5:=trivial;refine gGn ?_;clear F NN)
  refine gB ?_
  (have F:=ai @hx (ai @hy (ai @hlt (ai @l1 (ai @l2 (ai @r1 (ai @r2 (ai @Zan @tmz)))))));refine gC (cG) ?_;clear F)
  (have F:=@tmz;refine gR ?_;clear F)
  (have F:=@tmz;refine gG ?_;exact gTd)
theorem ZmW {a b:List Tm} (ha:Zbj a) (hb:Zbj b) (h7:a.length<=1000) (hb7:b.length<=1000) (h:∀ x∈a,∀ y∈b,GrC g rank x y):Con e0 120 [.agg (ZaA g),.one (.sl (rank.map ZaK)),.one (.sl (Zaf a)),.one (.sl (Zaf b))] [.one (.lit (.bool (bagB g rank a b)))]:=by
 have cA:=ZhR ha hb h7 hb7
 have cB:=ZhR hb ha hb7 h7
 have hX:∀ x∈Zbe a b,x∈a:=fun x=>Zf8
 have hY:∀ y∈Zbe b a,y∈b:=fun y=>Zf8
 have hXl:(Zbe a b).length<=1000:=Tbb (Zf7 _ _) h7
 have hYl:(Zbe b a).length<=1000:=Tbb (Zf7 _ _) hb7
 have hBag:bagB g rank a b=true ↔ (∀ u∈Zbe b a,∃ t∈Zbe a b,grB g rank t u=true)∧0 < (Zbe a b).length:=by
  rw [Zgb,Zvt]
  simp only [ZbC]
 generalize Zbe a b=X at *
 generalize Zbe b a=Y at *
 have l1:=ZaH X
 have l2:=ZaH Y
 have r1:=Zdt X
 have r2:=Zdt Y
 unfold GrC at h
 rw [ZaA] at *
 refine gI (ts:=[.slot 8]) 140738033631007 Tryz.func120 ?_
 (have F:=@tmz;have NN:Zaj 1:=trivial;refine gGn ?_;clear F NN)
 refine gB ?_
 (have F:=@tmz;refine gC (cA) ?_;clear F)
 (have F:=@tmz;refine gR ?_;clear F)
 (have F:=@tmz;have NN:Zaj 2:=trivial;refine gGn ?_;clear F NN)
 refine gB ?_
 (have F:=@tmz;refine gC (cB) ?_;clear F)
 (have F:=@tmz;refine gR ?_;clear F)
 (have F:=@tmz;refine gG ?_;clear F)
 (have F:=@tmz;refine gL (ι:=Nat) [8,11,12,13,23,29,47] [] (fun i=>[(11,A.d (.one (.lit (.int .i64 i))))]) (fun i=>[]) (fun i=>i<=Y.length∧∀ (j:Nat) u,j < i->Y[j]?=some u->X.any (fun t=>grB g rank t u)=true) (fun i=>Y.length - i) (0) (⟨Taj _,fun j u h=>absurd h om⟩) (fun i hi=>?_);clear F)
 obtain ⟨hi,hall⟩:=hi
 by_cases hlt:i < Y.length
 rotate_left
 ·obtain rfl:i=Y.length:=by omega
  have q1:((Y.length:Int) < (Y.length:Int))=False:=eq_false om
  have hA:∀ u∈Y,∃ t∈X,grB g rank t u=true:=fun u hu=>by
   obtain ⟨j,hj⟩:=Tbh hu
   exact List.any_eq_true.1 (hall j u (Tad.1 hj).1 hj)
  by_cases hp:0 < X.length
  ·have q2:((0:Int) < (X.length:Int))=True:=eq_true om
   rw [hBag.2 ⟨hA,hp⟩]
   (have F:=ai @q1 (ai @q2 (ai @l1 (ai @l2 @tmz)));refine gG ?_;exact gTd)
  ·have q2:((0:Int) < (X.length:Int))=False:=eq_false om
   have hf:bagB g rank a b=false:=by
    cases hb:bagB g rank a b with
    | false=>rfl
    | true=>exact absurd (hBag.1 hb).2 hp
   rw [hf]
   (have F:=ai @q1 (ai @q2 (ai @l1 (ai @l2 @tmz)));refine gG ?_;exact gTd)
 have q1:((i:Int) < (Y.length:Int))=True:=eq_true om
 have hw1:=Zap (k:=i) om
 obtain ⟨u,hu⟩:∃ u,Y[i]?=some u:=⟨_,Taa hlt⟩
 have hum:=hY u (Tac hu)
 (have F:=ai @q1 (ai @l2 @tmz);refine gG ?_;clear F)
 (have F:=@tmz;refine gL (ι:=Nat) [12,13,29] [] (fun k=>[(13,A.d (.one (.lit (.int .i64 k)))),(12,.d (.one (.lit (.bool ((X.take k).any fun t=>grB g rank t u)))))]) (fun k=>[]) (fun k=>k<=X.length) (fun k=>X.length - k) (0) (Taj _) (fun k hk=>?_);clear F)
 by_cases hkl:k < X.length
 rotate_left
 ·obtain rfl:k=X.length:=by omega
  have q2:((X.length:Int) < (X.length:Int))=False:=eq_false om
  rw [Tap]
  cases hh:X.any (fun t=>grB g rank t u) with
  | true =>
   have hq:i+1<=Y.length∧∀ (j:Nat) u,j < i+1->Y[j]?=some u->X.any (fun t=>grB g rank t u)=true:=⟨hlt,fun j u' hj hu'=>by
    by_cases e:j=i
    ·subst e;rw [hu] at hu';injection hu' with hu';subst hu';exact hh
    ·exact hall j u' om hu'⟩
   (have F:=ai @q2 (ai @l1 (ai @hw1 @tmz));refine gG ?_;exact ⟨i+1,hq,gw,gw,by omega⟩)
  | false =>
   have hf:bagB g rank a b=false:=by
    cases hb:bagB g rank a b with
    | false=>rfl
    | true =>
     have:=List.any_eq_true.2 ((hBag.1 hb).1 u (Tac hu))
     rw [hh] at this;cases this
   rw [hf]
   (have F:=ai @q2 (ai @l1 @tmz);refine gG ?_;exact gTd)
 have q2:((k:Int) < (X.length:Int))=True:=eq_true om
 have hw2:=Zap (k:=k) om
 obtain ⟨t,ht⟩:∃ t,X[k]?=some t:=⟨_,Taa hkl⟩
 have htm:=hX t (Tac ht)
 have cG:=h t htm u hum
 have hst:(X.take (k+1)).any (fun t=>grB g rank t u)=((X.take k).any (fun t=>grB g rank t u) || grB g rank t u):=by
  rw [List.take_add_one,ht,List.any_append];simp
 cases hh:(X.take k).any (fun t=>grB g rank t u) with
 | true =>
  rw [hh,Bool.true_or] at hst
  (have F:=ai @q2 (ai @l1 (ai @hw2 (ai @hst @tmz)));refine gG ?_;exact ⟨k+1,hkl,gw,gw,by omega⟩)
 | false =>
  rw [hh,Bool.false_or] at hst
  (have F:=ai @q2 (ai @l1 @tmz);have NN:Zaj 10:=trivial;refine gGn ?_;clear F NN)
  refine gB ?_
  (have F:=ai @ht (ai @hu (ai @hkl (ai @hlt (ai @l1 (ai @l2 (ai @r1 (ai @r2 (ai @Zan @tmz))))))));refine gC (cG) ?_;clear F)
  (have F:=@tmz;refine gR ?_;clear F)
  (have F:=ai @hw2 (ai @hst @tmz);refine gG ?_;exact ⟨k+1,hkl,gw,gw,by omega⟩)
theorem Zhn {rk:Int->Int} {cm:Int->Bool} {a b:Tm} (ha:a.op≠-1) (hb:b.op≠-1) (hno:∀ t∈a.args,t≠b∧¬ Gr rk cm t b) (hall:∀ u∈b.args,Gr rk cm a u):Gr rk cm a b ↔ (rk b.op < rk a.op∨(a.op=b.op∧cm a.op=true∧BagG rk cm a.args b.args)∨(a.op=b.op∧cm a.op=false∧LexG rk cm a.args b.args)):=by
 rw [ZdS]
 constructor
 ·rintro (⟨t,ht,h⟩ | h)
  ·rcases h with h | h
   ·exact absurd h (hno t ht).1
   ·exact absurd h (hno t ht).2
  ·exact h.2.2.2
 ·exact fun h=>.inr ⟨ha,hb,hall,h⟩
theorem ZjA {rk:Int->Int} {cm:Int->Bool} {a b:Tm} (hno:∀ t∈a.args,t≠b∧¬ Gr rk cm t b) (h:rk a.op < rk b.op∨(rk a.op=rk b.op∧a.op≠b.op)):¬ Gr rk cm a b:=by
 rw [ZdS]
 rintro (⟨t,ht,h2⟩ | ⟨_,_,_,h2⟩)
 ·rcases h2 with h2 | h2
  ·exact (hno t ht).1 h2
  ·exact (hno t ht).2 h2
 ·rcases h2 with h2 | ⟨e,_⟩ | ⟨e,_⟩
  ·rcases h with h | h <;> omega
  ·rw [e] at h;rcases h with h | h
   ·omega
   ·exact h.2 rfl
  ·rw [e] at h;rcases h with h | h
   ·omega
   ·exact h.2 rfl
theorem ZeI {rk:Int->Int} {cm:Int->Bool} {a b u:Tm} (hno:∀ t∈a.args,t≠b∧¬ Gr rk cm t b) (hu:u∈b.args) (h:¬ Gr rk cm a u):¬ Gr rk cm a b:=by
 rw [ZdS]
 rintro (⟨t,ht,h2⟩ | ⟨_,_,h2,_⟩)
 ·rcases h2 with h2 | h2
  ·exact (hno t ht).1 h2
  ·exact (hno t ht).2 h2
 ·exact h (h2 u hu)
theorem Zgc {op:Int} (h1:op.toNat < rank.length):(rank.map ZaK)[op.toNat]?=some [.lit (.int .i64 (rkF rank op))]:=by
 rw [Tay,Taa h1]
 simp [rkF,List.getD,h1,ZaK]
theorem Zux (hok:ZcI g) (hg:SgnOk g) (hfr:∀ o∈g.ops,o.assoc=false) (hr:rank.length=g.ops.length):∀ (n:Nat) {a b:Tm},sizeTm a+sizeTm b < n->TermOk g a->TermOk g b->GrC g rank a b:=by
 intro n
 induction n with
 | zero=>exact fun {a b} h _ _=>absurd h om
 | succ n IH =>
 intro a b hn ha hb
 have hoa:okTm a:=ZaD.ok hg _ a (Tan _) ha.form
 have hob:okTm b:=ZaD.ok hg _ b (Tan _) hb.form
 have hl60:=Zd5 ha
 have hl60b:=Zd5 hb
 unfold GrC
 have cS:=Zdb hoa hob
 unfold GrC at IH
 have rl:(rank.map ZaK).length=g.ops.length:=by rw [Taw,hr]
 have rr:ZaE 1 (rank.map ZaK)=true:=ZfB _
 by_cases hav:a.op=-1
 ·have hV:Zhf g a:=by
   rcases ha.form.node with h | ⟨o,d,h⟩
   ·exact h
   ·have:=h.lo;omega
  have q1:(a.op=-1)=True:=eq_true hav
  rw [Zca (Gr.no_var hV.2.2.2.2 hav),ZaA]
  refine gI (ts:=[.slot 8]) 654266205937346947693199199832031 Tryz.func52 ?_
  (have F:=ai @q1 @tmz;refine gG ?_;exact gTd)
 have q1:(a.op=-1)=False:=eq_false hav
 obtain ⟨o,d,hA⟩:∃ o d,AppOk g a o d:=by
  rcases ha.form.node with h | h
  ·exact absurd h.1 hav
  ·exact h
 have hspec:=Zma (g:=g) (rank:=rank) (Zer.2 fun t ht=>okA hoa ht) (Zer.2 fun t ht=>okA hob ht)
 have hbags:=ZmW (g:=g) (rank:=rank) (Zer.2 fun t ht=>okA hoa ht) (Zer.2 fun t ht=>okA hob ht) om om (fun x hx y hy=>by
  have:=ZaW hx;have:=ZaW hy
  exact IH (a:=x) (b:=y) om (ha.arg hx) (hb.arg hy))
 have hlex:=fun hl=>hspec hl om (fun x hx y hy=>by
  have:=ZaW hx;have:=ZaW hy
  exact IH (a:=x) (b:=y) om (ha.arg hx) (hb.arg hy))
 clear hspec
 rw [ZaA] at *
 refine gI (ts:=[.slot 8]) 654266205937346947693199199832031 Tryz.func52 ?_
 (have F:=ai @q1 @tmz;have NN:Zaj 1:=trivial;refine gGn ?_;clear F NN)
 refine gB ?_
 (have F:=ai @q1 @tmz;refine gC (cS) ?_;clear F)
 by_cases hab:Zas a b=0
 ·obtain rfl:=Zbq.1 hab
  rw [decide_eq_true hab,Zca Gr.irr]
  (have F:=@tmz;refine gR ?_;clear F)
  (have F:=@tmz;refine gG ?_;exact gTd)
 rw [decide_eq_false hab]
 (have F:=@tmz;refine gR ?_;clear F)
 by_cases hbv:b.op=-1
 ·have q2:(b.op=-1)=True:=eq_true hbv
  have cO:=ZmV hob _ (Tan _) hoa (by have:=ha.size;omega)
  have e:occT b a=grB g rank a b:=by rw [Bool.eq_iff_iff,ZbC];exact Zug hav hbv
  rw [e] at cO
  (have F:=ai @q2 @tmz;have NN:Zaj 4:=trivial;refine gGn ?_;clear F NN)
  refine gB ?_
  (have F:=@tmz;refine gC (cO) ?_;clear F)
  (have F:=@tmz;refine gR ?_;clear F)
  (have F:=@tmz;refine gG ?_;exact gTd)
 have q2:(b.op=-1)=False:=eq_false hbv
 (have F:=ai @q2 @tmz;refine gG ?_;clear F)
 (have F:=@tmz;refine gL (ι:=Nat) [8,9,29,49] [] (fun i=>[(9,A.d (.one (.lit (.int .i64 i))))]) (fun i=>[]) (fun i=>i<=a.args.length∧∀ (j:Nat) t,j < i->a.args[j]?=some t->t≠b∧grB g rank t b=false) (fun i=>a.args.length - i) (0) (⟨Taj _,fun j t h=>absurd h om⟩) (fun i hi=>?_);clear F)
 obtain ⟨hi,hall⟩:=hi
 by_cases hlt:i < a.args.length
 ·have q3:((i:Int) < (a.args.length:Int))=True:=eq_true om
  have hw1:=Zap (k:=i) om
  obtain ⟨t,ht⟩:∃ t,a.args[i]?=some t:=⟨_,Taa hlt⟩
  have htm:=Tac ht
  have hts:=ZaW htm
  have cT:=Zdb (okA hoa htm) hob
  have cG:=IH (a:=t) (b:=b) om (ha.arg htm) hb
  (have F:=ai @q3 @tmz;have NN:Zaj 8:=trivial;refine gGn ?_;clear F NN)
  refine gB ?_
  (have F:=ai @ht (ai @hlt (ai @Zan @tmz));refine gC (cT) ?_;clear F)
  by_cases h0:Zas t b=0
  ·obtain rfl:=Zbq.1 h0
   rw [decide_eq_true h0,ZbZ (.same htm)]
   (have F:=@tmz;refine gR ?_;clear F)
   (have F:=@tmz;refine gG ?_;exact gTd)
  rw [decide_eq_false h0]
  (have F:=ai @ht (ai @hlt (ai @Zan @tmz));refine gC (cG) ?_;clear F)
  cases hh:grB g rank t b with
  | true =>
   rw [ZbZ (.sub htm (ZbC.1 hh))]
   (have F:=@tmz;refine gR ?_;clear F)
   (have F:=@tmz;refine gG ?_;exact gTd)
  | false =>
   have hq:i+1<=a.args.length∧∀ (j:Nat) t,j < i+1->a.args[j]?=some t->t≠b∧grB g rank t b=false:=⟨hlt,fun j t' hj ht'=>by
    by_cases e:j=i
    ·subst e;rw [ht] at ht';injection ht' with ht';subst ht';exact ⟨fun e=>h0 (Zbq.2 e),hh⟩
    ·exact hall j t' om ht'⟩
   (have F:=@tmz;refine gR ?_;clear F)
   (have F:=ai @hw1 @tmz;refine gG ?_;exact ⟨i+1,hq,gw,gw,by omega⟩)
 obtain rfl:i=a.args.length:=by omega
 have q3:((a.args.length:Int) < (a.args.length:Int))=False:=eq_false om
 have hno:∀ t∈a.args,t≠b∧¬ Gr (rkF rank) (cmF g) t b:=fun t ht=>by
  obtain ⟨j,hj⟩:=Tbh ht
  have:=hall j t (Tad.1 hj).1 hj
  exact ⟨this.1,fun h=>by rw [ZbZ h] at this;cases this.2⟩
 obtain ⟨o2,d2,hB⟩:∃ o d,AppOk g b o d:=by
  rcases hb.form.node with h | h
  ·exact absurd h.1 hbv
  ·exact h
 have a0:(0<=a.op)=True:=eq_true hA.lo
 have b0:(0<=b.op)=True:=eq_true hB.lo
 have a1:(a.op.toNat < g.ops.length)=True:=eq_true (Tad.1 hA.at').1
 have b1:(b.op.toNat < g.ops.length)=True:=eq_true (Tad.1 hB.at').1
 have ga:=Zgc (rank:=rank) (op:=a.op) (by rw [hr];exact of_eq_true a1)
 have gb:=Zgc (rank:=rank) (op:=b.op) (by rw [hr];exact of_eq_true b1)
 by_cases h1:rkF rank a.op < rkF rank b.op
 ·have q4:(rkF rank a.op < rkF rank b.op)=True:=eq_true h1
  rw [Zca (ZjA hno (.inl h1))]
  (have F:=ai @q3 (ai @q4 (ai @a0 (ai @b0 (ai @a1 (ai @b1 (ai @ga (ai @gb (ai @rl (ai @rr @tmz)))))))));refine gG ?_;exact gTd)
 have q4:(rkF rank a.op < rkF rank b.op)=False:=eq_false h1
 by_cases h2:rkF rank a.op=rkF rank b.op∧a.op≠b.op
 ·have q5:(rkF rank a.op=rkF rank b.op)=True:=eq_true h2.1
  have q6:(a.op=b.op)=False:=eq_false h2.2
  rw [Zca (ZjA hno (.inr h2))]
  (have F:=ai @q3 (ai @q4 (ai @q5 (ai @q6 (ai @a0 (ai @b0 (ai @a1 (ai @b1 (ai @ga (ai @gb (ai @rl (ai @rr @tmz)))))))))));refine gG ?_;exact gTd)
 by_cases hop:a.op=b.op
 rotate_left
 ·have q6:(a.op=b.op)=False:=eq_false hop
  have hrk:¬ rkF rank a.op=rkF rank b.op:=fun e=>h2 ⟨e,hop⟩
  have q5:(rkF rank a.op=rkF rank b.op)=False:=eq_false hrk
  (have F:=ai @q3 (ai @q4 (ai @q5 (ai @q6 (ai @a0 (ai @b0 (ai @a1 (ai @b1 (ai @ga (ai @gb (ai @rl (ai @rr @tmz)))))))))));have NN:Zaj 12:=trivial;refine gGn ?_;clear F NN)
  (have F:=@tmz;refine gG ?_;clear F)
  (have F:=@tmz;refine gL (ι:=Nat) [8,10,85,97] [] (fun k=>[(10,A.d (.one (.lit (.int .i64 k))))]) (fun k=>[]) (fun k=>k<=b.args.length∧∀ (j:Nat) t,j < k->b.args[j]?=some t->grB g rank a t=true) (fun k=>b.args.length - k) (0) (⟨Taj _,fun j t h=>absurd h om⟩) (fun k hk=>?_);clear F)
  obtain ⟨hk,hbl⟩:=hk
  by_cases hkl:k < b.args.length
  ·have q7:((k:Int) < (b.args.length:Int))=True:=eq_true om
   have hw2:=Zap (k:=k) om
   obtain ⟨t,ht⟩:∃ t,b.args[k]?=some t:=⟨_,Taa hkl⟩
   have htm:=Tac ht
   have hts:=ZaW htm
   have cG:=IH (a:=a) (b:=t) om ha (hb.arg htm)
   (have F:=ai @q7 @tmz;have NN:Zaj 15:=trivial;refine gGn ?_;clear F NN)
   refine gB ?_
   (have F:=ai @ht (ai @hkl (ai @Zan @tmz));refine gC (cG) ?_;clear F)
   cases hh:grB g rank a t with
   | false =>
    rw [Zca (ZeI hno htm fun h=>by rw [ZbZ h] at hh;cases hh)]
    (have F:=@tmz;refine gR ?_;clear F)
    (have F:=@tmz;refine gG ?_;exact gTd)
   | true =>
    have hq:k+1<=b.args.length∧∀ (j:Nat) t,j < k+1->b.args[j]?=some t->grB g rank a t=true:=⟨hkl,fun j t' hj ht'=>by
     by_cases e:j=k
     ·subst e;rw [ht] at ht';injection ht' with ht';subst ht';exact hh
     ·exact hbl j t' om ht'⟩
    (have F:=@tmz;refine gR ?_;clear F)
    (have F:=ai @hw2 @tmz;refine gG ?_;exact ⟨k+1,hq,gw,gw,by omega⟩)
  obtain rfl:k=b.args.length:=by omega
  have q7:((b.args.length:Int) < (b.args.length:Int))=False:=eq_false om
  have hAll:∀ u∈b.args,Gr (rkF rank) (cmF g) a u:=fun u hu=>by
   obtain ⟨j,hj⟩:=Tbh hu
   exact ZbC.1 (hbl j u (Tad.1 hj).1 hj)
  have hM:=Zhn hav hbv hno hAll
  rw [ZbZ (hM.2 (.inl om))]
  (have F:=ai @q7 (ai @q6 @tmz);refine gG ?_;exact gTd)
 have q6:(a.op=b.op)=True:=eq_true hop
 have q5:(rkF rank a.op=rkF rank b.op)=True:=eq_true (by rw [hop])
 (have F:=ai @q3 (ai @q4 (ai @q5 (ai @q6 (ai @a0 (ai @b0 (ai @a1 (ai @b1 (ai @ga (ai @gb (ai @rl (ai @rr @tmz)))))))))));have NN:Zaj 12:=trivial;refine gGn ?_;clear F NN)
 (have F:=@tmz;refine gG ?_;clear F)
 (have F:=@tmz;refine gL (ι:=Nat) [8,10,85,97] [] (fun k=>[(10,A.d (.one (.lit (.int .i64 k))))]) (fun k=>[]) (fun k=>k<=b.args.length∧∀ (j:Nat) t,j < k->b.args[j]?=some t->grB g rank a t=true) (fun k=>b.args.length - k) (0) (⟨Taj _,fun j t h=>absurd h om⟩) (fun k hk=>?_);clear F)
 obtain ⟨hk,hbl⟩:=hk
 by_cases hkl:k < b.args.length
 ·have q7:((k:Int) < (b.args.length:Int))=True:=eq_true om
  have hw2:=Zap (k:=k) om
  obtain ⟨t,ht⟩:∃ t,b.args[k]?=some t:=⟨_,Taa hkl⟩
  have htm:=Tac ht
  have hts:=ZaW htm
  have cG:=IH (a:=a) (b:=t) om ha (hb.arg htm)
  (have F:=ai @q7 @tmz;have NN:Zaj 15:=trivial;refine gGn ?_;clear F NN)
  refine gB ?_
  (have F:=ai @ht (ai @hkl (ai @Zan @tmz));refine gC (cG) ?_;clear F)
  cases hh:grB g rank a t with
  | false =>
   rw [Zca (ZeI hno htm fun h=>by rw [ZbZ h] at hh;cases hh)]
   (have F:=@tmz;refine gR ?_;clear F)
   (have F:=@tmz;refine gG ?_;exact gTd)
  | true =>
   have hq:k+1<=b.args.length∧∀ (j:Nat) t,j < k+1->b.args[j]?=some t->grB g rank a t=true:=⟨hkl,fun j t' hj ht'=>by
    by_cases e:j=k
    ·subst e;rw [ht] at ht';injection ht' with ht';subst ht';exact hh
    ·exact hbl j t' om ht'⟩
   (have F:=@tmz;refine gR ?_;clear F)
   (have F:=ai @hw2 @tmz;refine gG ?_;exact ⟨k+1,hq,gw,gw,by omega⟩)
 obtain rfl:k=b.args.length:=by omega
 have q7:((b.args.length:Int) < (b.args.length:Int))=False:=eq_false om
 have hAll:∀ u∈b.args,Gr (rkF rank) (cmF g) a u:=fun u hu=>by
  obtain ⟨j,hj⟩:=Tbh hu
  exact ZbC.1 (hbl j u (Tad.1 hj).1 hj)
 have hM:=Zhn hav hbv hno hAll
 have hcm:cmF g a.op=o.comm:=by simp [cmF,hA.at']
 have ho:=hA.at'
 rw [hcm] at hM
 cases hc:o.comm with
 | true =>
  rw [hc] at hM
  have e:bagB g rank a.args b.args=grB g rank a b:=by
   rw [Bool.eq_iff_iff,Zgb,ZbC,hM]
   constructor
   ·exact fun h=>.inr (.inl ⟨hop,rfl,h⟩)
   ·rintro (h | ⟨_,_,h⟩ | ⟨_,h,_⟩)
    ·rw [hop] at h;omega
    ·exact h
    ·cases h
  rw [e] at hbags
  (have F:=ai @q7 (ai @q6 (ai @a0 (ai @a1 (ai @ho (ai @hc (ai @Zak @tmz))))));have NN:Zaj 20:=trivial;refine gGn ?_;clear F NN)
  refine gB ?_
  (have F:=@tmz;refine gC (hbags) ?_;clear F)
  (have F:=@tmz;refine gR ?_;clear F)
  (have F:=@tmz;refine gG ?_;exact gTd)
 | false =>
  rw [hc] at hM
  have hob2:o2=o:=by have:=hB.at';rw [<- hop,ho] at this;injection this with this;exact this.symm
  subst hob2
  have hd2:d2=d:=by have:=hB.fst;rw [hA.fst] at this;injection this with this;exact this.symm
  subst hd2
  have has:=hfr _ (Tac ho)
  have hlx:=hlex (by rw [hA.nas has,hB.nas has])
  have e:lexB g rank a.args b.args=grB g rank a b:=by
   rw [Bool.eq_iff_iff,Zga,ZbC,hM]
   constructor
   ·exact fun h=>.inr (.inr ⟨hop,rfl,h⟩)
   ·rintro (h | ⟨_,h,_⟩ | ⟨_,_,h⟩)
    ·rw [hop] at h;omega
    ·cases h
    ·exact h
  rw [e] at hlx
  (have F:=ai @q7 (ai @q6 (ai @a0 (ai @a1 (ai @ho (ai @hc (ai @Zak @tmz))))));have NN:Zaj 21:=trivial;refine gGn ?_;clear F NN)
  refine gB ?_
  (have F:=@tmz;refine gC (hlx) ?_;clear F)
  (have F:=@tmz;refine gR ?_;clear F)
  (have F:=@tmz;refine gG ?_;exact gTd)
end
section
variable {g:Sgn} {rank:List Int} {b:Nat}
theorem ZvF (hg:SgnOk g) (hfr:∀ o∈g.ops,o.assoc=false) (hr:rank.length=g.ops.length) {mc:C} {Z:Tm->Tm->Prop} {x y:Tm} (hx:TermOk g x) (hy:TermOk g y) (hxv:x.op≠-1) (hyv:y.op≠-1)
  (IH:∀ u v,sizeTm u+sizeTm v < sizeTm x+sizeTm y->TermOk g u->TermOk g v->GrK g mc rank b Z u v)
  (hL:Con (eK g rank Z b) 213 [.agg (Zfi g mc rank b),.one (.sl (Zaf x.args)),.one (.sl (Zaf y.args))] [.one (.lit (.bool (bagB g rank x.args y.args)))]):CmK g mc rank b Z x y:=by
 have hOk:=Zi0 (g:=g) (rank:=rank) (Z:=Z) (b:=b)
 have hl60:=Zd5 hx
 have hl60b:=Zd5 hy
 have rl:(rank.map ZaK).length=g.ops.length:=by rw [Taw,hr]
 have rr:ZaE 1 (rank.map ZaK)=true:=ZfB _
 obtain ⟨o,d,hA⟩:∃ o d,AppOk g x o d:=by
  rcases hx.form.node with h | h
  ·exact absurd h.1 hxv
  ·exact h
 obtain ⟨o2,d2,hB⟩:∃ o d,AppOk g y o d:=by
  rcases hy.form.node with h | h
  ·exact absurd h.1 hyv
  ·exact h
 unfold GrK at IH
 unfold CmK
 rw [ZfI] at *
 refine gI (ts:=[.slot 6]) 1268811471396428484708032306559 Tryz.func132 ?_
 (have F:=@tmK;refine gG ?_;clear F)
 (have F:=@tmK;refine gL (ι:=Nat) [6,8,16,17,28] [] (fun i=>[(16,A.d (.one (.lit (.int .i64 i))))]) (fun i=>[]) (fun i=>i<=x.args.length∧∀ (j:Nat) t,j < i->x.args[j]?=some t->t≠y∧grB g rank t y=false) (fun i=>x.args.length - i) (0) (⟨Taj _,fun j t h=>absurd h om⟩) (fun i hi=>?_);clear F)
 obtain ⟨hi,hall⟩:=hi
 by_cases hlt:i < x.args.length
 ·have q3:((i:Int) < (x.args.length:Int))=True:=eq_true om
  have hw1:=Zap (k:=i) om
  obtain ⟨t,ht⟩:∃ t,x.args[i]?=some t:=⟨_,Taa hlt⟩
  have htm:=Tac ht
  have hts:=ZaW htm
  have cT:=(ZdR t y).k (g:=g) (rank:=rank) (Z:=Z) (b:=b)
  have cG:=IH t y om (hx.arg htm) hy
  (have F:=ai @q3 (ai @ht (ai @hlt (ai @Zan @tmK)));have NN:Zaj 4:=trivial;refine gGn ?_;clear F NN)
  refine gB ?_
  (have F:=@tmK;refine gC (cT) ?_;clear F)
  by_cases h0:Zas t y=0
  ·obtain rfl:=Zbq.1 h0
   rw [decide_eq_true h0,ZbZ (.same htm)]
   (have F:=@tmK;refine gR ?_;clear F)
   (have F:=@tmK;refine gG ?_;exact gTd)
  rw [decide_eq_false h0]
  (have F:=@tmK;refine gC (cG) ?_;clear F)
  cases hh:grB g rank t y with
  | true =>
   rw [ZbZ (.sub htm (ZbC.1 hh))]
   (have F:=@tmK;refine gR ?_;clear F)
   (have F:=@tmK;refine gG ?_;exact gTd)
  | false =>
   have hq:i+1<=x.args.length∧∀ (j:Nat) t,j < i+1->x.args[j]?=some t->t≠y∧grB g rank t y=false:=⟨hlt,fun j t' hj ht'=>by
    by_cases e:j=i
    ·subst e;rw [ht] at ht';injection ht' with ht';subst ht';exact ⟨fun e=>h0 (Zbq.2 e),hh⟩
    ·exact hall j t' om ht'⟩
   (have F:=@tmK;refine gR ?_;clear F)
   (have F:=ai @hw1 @tmK;refine gG ?_;exact ⟨i+1,hq,gw,gw,by omega⟩)
 obtain rfl:i=x.args.length:=by omega
 have q3:((x.args.length:Int) < (x.args.length:Int))=False:=eq_false om
 have hno:∀ t∈x.args,t≠y∧¬ Gr (rkF rank) (cmF g) t y:=fun t ht=>by
  obtain ⟨j,hj⟩:=Tbh ht
  have:=hall j t (Tad.1 hj).1 hj
  exact ⟨this.1,fun h=>by rw [ZbZ h] at this;cases this.2⟩
 have a0:(0<=x.op)=True:=eq_true hA.lo
 have b0:(0<=y.op)=True:=eq_true hB.lo
 have a1:(x.op.toNat < g.ops.length)=True:=eq_true (Tad.1 hA.at').1
 have b1:(y.op.toNat < g.ops.length)=True:=eq_true (Tad.1 hB.at').1
 have ga:=Zgc (rank:=rank) (op:=x.op) (by rw [hr];exact of_eq_true a1)
 have gb:=Zgc (rank:=rank) (op:=y.op) (by rw [hr];exact of_eq_true b1)
 by_cases hop:x.op=y.op
 rotate_left
 ·have q6:(x.op=y.op)=False:=eq_false hop
  by_cases h1:rkF rank x.op<=rkF rank y.op
  ·have q4:(rkF rank x.op<=rkF rank y.op)=True:=eq_true h1
   rw [Zca (ZjA hno (by by_cases e:rkF rank x.op=rkF rank y.op;exact .inr ⟨e,hop⟩;exact .inl om))]
   (have F:=ai @q3 (ai @q4 (ai @q6 (ai @a0 (ai @b0 (ai @a1 (ai @b1 (ai @ga (ai @gb (ai @rl (ai @rr @tmK))))))))));refine gG ?_;exact gTd)
  have q4:(rkF rank x.op<=rkF rank y.op)=False:=eq_false h1
  (have F:=ai @q3 (ai @q4 (ai @q6 (ai @a0 (ai @b0 (ai @a1 (ai @b1 (ai @ga (ai @gb (ai @rl (ai @rr @tmK))))))))));have NN:Zaj 9:=trivial;refine gGn ?_;clear F NN)
  (have F:=@tmK;refine gG ?_;clear F)
  (have F:=@tmK;refine gL (ι:=Nat) [6,10,53,54,61] [] (fun k=>[(53,A.d (.one (.lit (.int .i64 k))))]) (fun k=>[]) (fun k=>k<=y.args.length∧∀ (j:Nat) t,j < k->y.args[j]?=some t->grB g rank x t=true) (fun k=>y.args.length - k) (0) (⟨Taj _,fun j t h=>absurd h om⟩) (fun k hk=>?_);clear F)
  obtain ⟨hk,hbl⟩:=hk
  by_cases hkl:k < y.args.length
  ·have q7:((k:Int) < (y.args.length:Int))=True:=eq_true om
   have hw2:=Zap (k:=k) om
   obtain ⟨t,ht⟩:∃ t,y.args[k]?=some t:=⟨_,Taa hkl⟩
   have htm:=Tac ht
   have hts:=ZaW htm
   have cG:=IH x t om hx (hy.arg htm)
   (have F:=ai @q7 (ai @ht (ai @hkl (ai @Zan @tmK)));have NN:Zaj 12:=trivial;refine gGn ?_;clear F NN)
   refine gB ?_
   (have F:=@tmK;refine gC (cG) ?_;clear F)
   cases hh:grB g rank x t with
   | false =>
    rw [Zca (ZeI hno htm fun h=>by rw [ZbZ h] at hh;cases hh)]
    (have F:=@tmK;refine gR ?_;clear F)
    (have F:=@tmK;refine gG ?_;exact gTd)
   | true =>
    have hq:k+1<=y.args.length∧∀ (j:Nat) t,j < k+1->y.args[j]?=some t->grB g rank x t=true:=⟨hkl,fun j t' hj ht'=>by
     by_cases e:j=k
     ·subst e;rw [ht] at ht';injection ht' with ht';subst ht';exact hh
     ·exact hbl j t' om ht'⟩
    (have F:=@tmK;refine gR ?_;clear F)
    (have F:=ai @hw2 @tmK;refine gG ?_;exact ⟨k+1,hq,gw,gw,by omega⟩)
  obtain rfl:k=y.args.length:=by omega
  have q7:((y.args.length:Int) < (y.args.length:Int))=False:=eq_false om
  have hAll:∀ u∈y.args,Gr (rkF rank) (cmF g) x u:=fun u hu=>by
   obtain ⟨j,hj⟩:=Tbh hu
   exact ZbC.1 (hbl j u (Tad.1 hj).1 hj)
  have hM:=Zhn hxv hyv hno hAll
  rw [ZbZ (hM.2 (.inl om))]
  (have F:=ai @q7 (ai @q6 @tmK);refine gG ?_;exact gTd)
 have q6:(x.op=y.op)=True:=eq_true hop
 (have F:=ai @q3 (ai @q6 (ai @tmK @tmK));have NN:Zaj 9:=trivial;refine gGn ?_;clear F NN)
 (have F:=@tmK;refine gG ?_;clear F)
 (have F:=@tmK;refine gL (ι:=Nat) [6,10,53,54,61] [] (fun k=>[(53,A.d (.one (.lit (.int .i64 k))))]) (fun k=>[]) (fun k=>k<=y.args.length∧∀ (j:Nat) t,j < k->y.args[j]?=some t->grB g rank x t=true) (fun k=>y.args.length - k) (0) (⟨Taj _,fun j t h=>absurd h om⟩) (fun k hk=>?_);clear F)
 obtain ⟨hk,hbl⟩:=hk
 by_cases hkl:k < y.args.length
 ·have q7:((k:Int) < (y.args.length:Int))=True:=eq_true om
  have hw2:=Zap (k:=k) om
  obtain ⟨t,ht⟩:∃ t,y.args[k]?=some t:=⟨_,Taa hkl⟩
  have htm:=Tac ht
  have hts:=ZaW htm
  have cG:=IH x t om hx (hy.arg htm)
  (have F:=ai @q7 (ai @ht (ai @hkl (ai @Zan @tmK)));have NN:Zaj 12:=trivial;refine gGn ?_;clear F NN)
  refine gB ?_
  (have F:=@tmK;refine gC (cG) ?_;clear F)
  cases hh:grB g rank x t with
  | false =>
   rw [Zca (ZeI hno htm fun h=>by rw [ZbZ h] at hh;cases hh)]
   (have F:=@tmK;refine gR ?_;clear F)
   (have F:=@tmK;refine gG ?_;exact gTd)
  | true =>
   have hq:k+1<=y.args.length∧∀ (j:Nat) t,j < k+1->y.args[j]?=some t->grB g rank x t=true:=⟨hkl,fun j t' hj ht'=>by
    by_cases e:j=k
    ·subst e;rw [ht] at ht';injection ht' with ht';subst ht';exact hh
    ·exact hbl j t' om ht'⟩
   (have F:=@tmK;refine gR ?_;clear F)
   (have F:=ai @hw2 @tmK;refine gG ?_;exact ⟨k+1,hq,gw,gw,by omega⟩)
 obtain rfl:k=y.args.length:=by omega
 have q7:((y.args.length:Int) < (y.args.length:Int))=False:=eq_false om
 have hAll:∀ u∈y.args,Gr (rkF rank) (cmF g) x u:=fun u hu=>by
  obtain ⟨j,hj⟩:=Tbh hu
  exact ZbC.1 (hbl j u (Tad.1 hj).1 hj)
 have hM:=Zhn hxv hyv hno hAll
 have hcm:cmF g x.op=o.comm:=by simp [cmF,hA.at']
 have ho:=hA.at'
 rw [hcm] at hM
 cases hc:o.comm with
 | true =>
  rw [hc] at hM
  have e:bagB g rank x.args y.args=grB g rank x y:=by
   rw [Bool.eq_iff_iff,Zgb,ZbC,hM]
   constructor
   ·exact fun h=>.inr (.inl ⟨hop,rfl,h⟩)
   ·rintro (h | ⟨_,_,h⟩ | ⟨_,h,_⟩)
    ·rw [hop] at h;omega
    ·exact h
    ·cases h
  rw [e] at hL
  (have F:=ai @q7 (ai @q6 (ai @a0 (ai @a1 (ai @ho (ai @hc (ai @Zak @tmK))))));have NN:Zaj 18:=trivial;refine gGn ?_;clear F NN)
  refine gB ?_
  (have F:=@tmK;refine gC (hL) ?_;clear F)
  (have F:=@tmK;refine gR ?_;clear F)
  (have F:=@tmK;refine gG ?_;exact gTd)
 | false =>
  rw [hc] at hM
  have hob2:o2=o:=by have:=hB.at';rw [<- hop,ho] at this;injection this with this;exact this.symm
  subst hob2
  have hd2:d2=d:=by have:=hB.fst;rw [hA.fst] at this;injection this with this;exact this.symm
  subst hd2
  have has:=hfr _ (Tac ho)
  have hlen:x.args.length=y.args.length:=by rw [hA.nas has,hB.nas has]
  have e:lexB g rank x.args y.args=grB g rank x y:=by
   rw [Bool.eq_iff_iff,Zga,ZbC,hM]
   constructor
   ·exact fun h=>.inr (.inr ⟨hop,rfl,h⟩)
   ·rintro (h | ⟨_,h,_⟩ | ⟨_,_,h⟩)
    ·rw [hop] at h;omega
    ·cases h
    ·exact h
  rw [<- e]
  (have F:=ai @q7 (ai @q6 (ai @a0 (ai @a1 (ai @ho (ai @hc (ai @Zak @tmK))))));have NN:Zaj 19:=trivial;refine gGn ?_;clear F NN)
  (have F:=@tmK;refine gG ?_;clear F)
  (have F:=@tmK;refine gL (ι:=Nat) [6,11,12,88,89,100] [] (fun i=>[(88,A.d (.one (.lit (.int .i64 i))))]) (fun i=>[]) (fun i=>i<=x.args.length∧∀ (j:Nat) u v,j < i->x.args[j]?=some u->y.args[j]?=some v->u=v) (fun i=>x.args.length - i) (0) (⟨Taj _,fun j u v h=>absurd h om⟩) (fun i hi=>?_);clear F)
  obtain ⟨hi2,hall2⟩:=hi
  by_cases hlt2:i < x.args.length
  rotate_left
  ·obtain rfl:i=x.args.length:=by omega
   have q8:((x.args.length:Int) < (x.args.length:Int))=False:=eq_false om
   rw [Zpv fun j u v hu hv=>hall2 j u v (Tad.1 hu).1 hu hv]
   (have F:=ai @q8 @tmK;refine gG ?_;exact gTd)
  have q8:((i:Int) < (x.args.length:Int))=True:=eq_true om
  have hw3:=Zap (k:=i) om
  have hlt3:i < y.args.length:=by omega
  obtain ⟨u,hu⟩:∃ u,x.args[i]?=some u:=⟨_,Taa hlt2⟩
  obtain ⟨v,hv⟩:∃ v,y.args[i]?=some v:=⟨_,Taa hlt3⟩
  have hum:=Tac hu
  have hvm:=Tac hv
  have hus:=ZaW hum
  have hvs:=ZaW hvm
  have cT:=(ZdR u v).k (g:=g) (rank:=rank) (Z:=Z) (b:=b)
  have cG:=IH u v om (hx.arg hum) (hy.arg hvm)
  (have F:=ai @q8 (ai @hu (ai @hlt2 (ai @Zan @tmK)));have NN:Zaj 22:=trivial;refine gGn ?_;clear F NN)
  refine gB ?_
  (have F:=ai @hv (ai @hlt3 (ai @Zan @tmK));refine gC (cT) ?_;clear F)
  by_cases h0:Zas u v=0
  ·rw [decide_eq_true h0]
   have hq:i+1<=x.args.length∧∀ (j:Nat) u v,j < i+1->x.args[j]?=some u->y.args[j]?=some v->u=v:=⟨hlt2,fun j u' v' hj hu' hv'=>by
    by_cases e:j=i
    ·subst e;rw [hu] at hu';rw [hv] at hv';injection hu' with hu';injection hv' with hv';subst hu' hv';exact Zbq.1 h0
    ·exact hall2 j u' v' om hu' hv'⟩
   (have F:=@tmK;refine gR ?_;clear F)
   (have F:=ai @hw3 @tmK;refine gG ?_;exact ⟨i+1,hq,gw,gw,by omega⟩)
  ·rw [decide_eq_false h0,Zpu hu hv (fun e=>h0 (Zbq.2 e)) hall2]
   (have F:=@tmK;refine gR ?_;clear F)
   (have F:=@tmK;have NN:Zaj 23:=trivial;refine gGn ?_;clear F NN)
   refine gB ?_
   (have F:=ai @hv (ai @hlt3 (ai @Zan @tmK));refine gC (cG) ?_;clear F)
   (have F:=@tmK;refine gR ?_;clear F)
   (have F:=@tmK;refine gG ?_;exact gTd)
end
section
variable {g:Sgn} {rank:List Int} {b:Nat} {mc:C}
def Zuy (g:Sgn) (mc:C) (rank:List Int) (b:Nat):Prop:=∀ (Z:Tm->Tm->Prop) (xs ys:List Tm),xs.length<=60->ys.length<=60->(∀ x∈xs,∀ y∈ys,GrK g mc rank b Z x y) ->
 Con (eK g rank Z b) 213 [.agg (Zfi g mc rank b),.one (.sl (Zaf xs)),.one (.sl (Zaf ys))] [.one (.lit (.bool (bagB g rank xs ys)))]
theorem Zi2 (hg:SgnOk g) (hfr:∀ o∈g.ops,o.assoc=false) (hr:rank.length=g.ops.length) (hL:Zuy g mc rank b):∀ (n:Nat) (x y:Tm),sizeTm x+sizeTm y < n->TermOk g x->TermOk g y->∀ Z:Tm->Tm->Prop,(∀ u v,Z u v->sizeTm x+sizeTm y < sizeTm u+sizeTm v)->GrK g mc rank b Z x y
 | 0,x,y,hn,_,_,_,_=>by omega
 | n+1,x,y,hn,hx,hy,Z,hZ=>by
  refine ZvC hg hx hy (fun h=>by have:=hZ x y h;omega) fun hxv hyv=>?_
  have IH:∀ u v,sizeTm u+sizeTm v < sizeTm x+sizeTm y->TermOk g u->TermOk g v->GrK g mc rank b (fun p q=>Z p q∨(p=x∧q=y)) u v:=fun u v h hu hv=>Zi2 hg hfr hr hL n u v om hu hv _ fun p q h2=>by
   rcases h2 with h2 | ⟨rfl,rfl⟩
   ·have:=hZ p q h2;omega
   ·exact h
  exact ZvF hg hfr hr hx hy hxv hyv IH (hL _ _ _ (Zd5 hx) (Zd5 hy) fun u hu v hv=>IH u v (by have:=ZaW hu;have:=ZaW hv;omega) (hx.arg hu) (hy.arg hv))
end
section
variable {e:Env} {σ:St} {o:Oper} {K:St->Prop}
theorem Zqj {t t' el:TypeId} {x:Operand} (ho:o.op=.binOp .eql t x (.const (.slice none 0 0)) t') (ht:e.P.underlying t=some (.slice el)) {rows:List (List C)} (hx:evA σ.s x=.d (.one (.sl rows))) (hK:∀ b:Bool,(b=true->rows=[])->K ⟨setA σ.s o.dst (.d (.one (.lit (.bool b)))),σ.m⟩):Zbc e o σ K:=by
 intro he U w0 S0 nt a w Q hd ⟨S,L,h1⟩
 have hx':=h1.eval x
 rw [hx] at hx'
 simp only [ARel,DRel,Rep] at hx'
 obtain ⟨A,n,cap,hv,hn,_,_,hp⟩:=hx'
 unfold Oper.wp
 have hrun:(execOp a.eval o).run e.P w=.ok (.value (.bool A.isNone)) w:=by
  have hc:a.eval (.const (.slice none 0 0))=.slice none 0 0:=rfl
  simp only [execOp,ho,hv,hc,eqGuard]
  simp [Result.andThen]
  rw [Lib.run_eql_slice_nil w t el A n cap 0 0 ht]
 rw [hrun,Oper.upon_value]
 refine ⟨_,hK A.isNone (fun hb=>?_),S,L,h1.put (by simp [ARel,DRel,Rep]) hd⟩
 rcases Nat.eq_zero_or_pos n with h0 | h0
 ·exact Tao om
 ·obtain ⟨b,off,rfl,_⟩:=hp h0
  cases hb
end
section
variable {e:Env} {K:St->Prop} {ds:List (Option Nat)} {os:List Oper} {s:List (Nat × A)} {m:List (Nat × Bk)}
theorem gNil {d t t' ty:Nat} {p:String} {ed:Array Edge} {x:Operand} {rows:List (List C)} {el:TypeId} (ht:e.P.underlying t=some (.slice el)) (hK:∀ b:Bool,(b=true->rows=[])->Runs e ds 0 os ⟨(d,.d (.one (.lit (.bool b))))::s,m⟩ K)
  (hx:evA s x=.d (.one (.sl rows)):=by exact sfx):Runs e ds 0 (⟨some d,.binOp .eql t x (.const (.slice none 0 0)) t',ty,p,ed,none⟩::os) ⟨s,m⟩ K :=
 ZdO rfl (Zqj rfl ht hx hK)
end
def RNew (ty sz:Nat) (rows:List (List C)) (r:List D) (pm:List Bk):Prop:=∃ a cap,r=[.one (.lit (.slice a rows.length cap))]∧pm=[.buf (some (a,cap)) ty sz rows]
theorem ZmX {ts:List Tm} (h:Zaf ts=[]):ts=[]:=by
 cases ts with
 | nil=>rfl
 | cons t ts=>simp [Zaf] at h
theorem Zqk (ts:List Tm) (hl:ts.length<=1048576):ConP e0 239 [.one (.sl (Zaf ts))] [] (RNew 46 4 (Zaf ts)):=by
 have l1:(ts.length<=maxApp)=True:=eq_true (by unfold maxApp;omega)
 refine gIP (ts:=[.slot 2]) [] 21 Tryz.func239 ?_
 (have F:=@tmz;have NN:Zaj 1:=trivial;refine gGn ?_;clear F NN)
 refine gB ?_
 (have F:=@tmz;refine gP 1 ?_;clear F)
 refine (have F:=tmz;gNil (rows:=Zaf ts) (el:=46) (by kernel_rfl) fun b hb=>?_)
 cases b with
 | true =>
  have hb:=ZmX (hb rfl)
  subst hb
  (have F:=@tmz;refine gR ?_;clear F)
  (have F:=@tmz;refine gG ?_;clear F)
  refine pS 2 fun a cap=>?_
  exact (have F:=ZaH;gTP (R:=RNew 46 4 (Zaf [])) [2] ⟨a,cap,rfl,rfl⟩)
 | false =>
  (have F:=@tmz;refine gR ?_;clear F)
  (have F:=@tmz;have NN:Zaj 3:=trivial;refine gGn ?_;clear F NN)
  refine gB ?_
  (have F:=@tmz;refine gP 1 ?_;clear F)
  refine gO 5 46 4 ?_
  (have F:=ai @l1 @tmz;refine gP 2 ?_;clear F)
  refine gS 7 fun a cap=>?_
  (have F:=@tmz;refine gR ?_;clear F)
  (have F:=@tmz;refine gG ?_;clear F)
  exact (have F:=ZaH;gTP (R:=RNew 46 4 (Zaf ts)) [7] ⟨a,cap,rfl,rfl⟩)
theorem Zql:Zaf []=[]:=by simp [Zaf]
def FitN (d:Dcl) (sets:List Nat) (n:Nat):Prop:=∀ (i:Nat) k s,i < n->d.args[i]?=some k->sets[i]?=some s->s.testBit k.toNat=true
theorem FitN.zero {d:Dcl} {sets:List Nat}:FitN d sets 0:=fun i k s h=>absurd h (Nat.not_lt_zero i)
theorem FitN.succ {d:Dcl} {sets:List Nat} {n:Nat} {k:Int} {s:Nat} (hk:d.args[n]?=some k) (hs:sets[n]?=some s):FitN d sets (n+1) ↔ FitN d sets n∧s.testBit k.toNat=true:=by
 constructor
 ·exact fun h=>⟨fun i k s hi=>h i k s om,h n k s om hk hs⟩
 ·rintro ⟨h1,h2⟩ i k' s' hi hk' hs'
  by_cases e:i=n
  ·subst e
   rw [hk] at hk'
   rw [hs] at hs'
   injection hk' with hk'
   injection hs' with hs'
   subst hk' hs'
   exact h2
  ·exact h1 i k' s' om hk' hs'
section
variable {g:Sgn} {mc:C}
end
noncomputable def bvN (g:Sgn) (R:Nat->Nat->Nat->Prop) (sets:List Nat) (m:Nat):Nat:=ofB (BagB R sets m) g.sorts.names.length
def BagT (g:Sgn) (R:Nat->Nat->Nat->Prop) (sets:List Nat) (M:Nat) (T:List Nat):Prop:=T.length=2 ^ sets.length∧∀ m,1<=m->m < 2 ^ sets.length->(m < M->T[m]?=some (bvN g R sets m))∧(M<=m->T[m]?=some 0)
section
variable {g:Sgn} {R:Nat->Nat->Nat->Prop} {sets:List Nat}
theorem BagT.start:BagT g R sets 1 (List.replicate (2 ^ sets.length) 0):=⟨by simp,fun m h1 h2=>⟨fun h=>by omega,fun _=>by rw [Tbo,if_pos h2]⟩⟩
theorem BagT.next {M:Nat} {T:List Nat} (h:BagT g R sets M T) (hM:M < 2 ^ sets.length):BagT g R sets (M+1) (T.set M (bvN g R sets M)):=by
 refine ⟨by rw [Tax,h.1],fun m h1 h2=>?_⟩
 by_cases e:m=M
 ·subst e
  exact ⟨fun _=>Tbk (by rw [h.1];exact h2),fun q=>by omega⟩
 ·rw [Tbl (Ne.symm e)]
  exact ⟨fun q=>(h.2 m h1 h2).1 om,fun q=>(h.2 m h1 h2).2 om⟩
theorem BagT.zero {M:Nat} {T:List Nat} (h:BagT g R sets M T) (h1:1<=M) (hM:M < 2 ^ sets.length):T.set M 0=T:=by
 have h2:=(h.2 M h1 hM).2 (Tai _)
 refine List.ext_getElem? fun q=>?_
 by_cases e:q=M
 ·subst e
  rw [Tbk (by rw [h.1];exact hM),h2]
 ·rw [Tbl (Ne.symm e)]
end
section
variable {w:World} {S:Nat->Prop} {a:Option Addr} {n cap:Nat} {rows:List (List C)}
end
section
variable {e:Env} {σ:St} {mask:Nat} {Q:PX->St->Prop}
end
section
variable {g:Sgn} {mc:C}
noncomputable def cvN (g:Sgn) (o:Opr) (sets:List Nat) (i j:Nat):Nat:=ofB (ChB (Rel2 g o) sets i j) g.sorts.names.length
noncomputable def chL (g:Sgn) (o:Opr) (sets:List Nat) (r:Nat):List Nat:=(List.range sets.length).map fun k=>if k < r then 0 else cvN g o sets r (k+1)
theorem ZzV {o:Opr} {sets:List Nat} {r:Nat}:(chL g o sets r).length=sets.length:=by simp [chL]
def FilB (g:Sgn) (o:Opr) (sets:List Nat) (p k:Nat) (L:List Nat):Prop:=L.length=sets.length∧∀ j,j < sets.length->L[j]?=some (if j < p then 0 else if j < k then cvN g o sets p (j+1) else 0)
theorem FilB.all {o:Opr} {sets:List Nat} {p:Nat} {L:List Nat} (h:FilB g o sets p sets.length L):L=chL g o sets p:=by
 refine List.ext_getElem? fun j=>?_
 by_cases hj:j < sets.length
 ·rw [h.2 j hj]
  unfold chL
  rw [Tay,List.getElem?_range hj,Option.map_some]
  by_cases h1:j < p
  ·rw [if_pos h1,if_pos h1]
  ·rw [if_neg h1,if_neg h1,if_pos hj]
 ·rw [List.getElem?_eq_none (by rw [h.1];omega),List.getElem?_eq_none (by rw [ZzV];omega)]
theorem FilB.next {o:Opr} {sets:List Nat} {p k:Nat} {L:List Nat} (h:FilB g o sets p k L) (hp:p<=k) (hk:k < sets.length):FilB g o sets p (k+1) (L.set k (cvN g o sets p (k+1))):=by
 refine ⟨by rw [Tax,h.1],fun j hj=>?_⟩
 by_cases e:j=k
 ·subst e
  rw [Tbk (by rw [h.1];exact hj),if_neg om,if_pos om]
 ·rw [Tbl (Ne.symm e),h.2 j hj]
  by_cases h1:j < p
  ·rw [if_pos h1,if_pos h1]
  ·rw [if_neg h1,if_neg h1]
   by_cases h2:j < k
   ·rw [if_pos h2,if_pos om]
   ·rw [if_neg h2,if_neg om]
theorem FilB.zero {o:Opr} {sets:List Nat} {p k:Nat} {L:List Nat} (h:FilB g o sets p k L) (hp:p<=k) (hk:k < sets.length):L.set k 0=L:=by
 have h1:=h.2 k hk
 rw [if_neg om,if_neg om] at h1
 refine List.ext_getElem? fun j=>?_
 by_cases e:j=k
 ·subst e
  rw [Tbk (by rw [h.1];exact hk),h1]
 ·rw [Tbl (Ne.symm e)]
theorem FilB.start {o:Opr} {sets:List Nat} {p s:Nat} (hs:sets[p]?=some s) (h:s < 2 ^ g.sorts.names.length):FilB g o sets p (p+1) ((List.replicate sets.length 0).set p s):=by
 have hp:=(Tad.1 hs).1
 refine ⟨by simp,fun j hj=>?_⟩
 by_cases e:j=p
 ·subst e
  rw [Tbk (by simpa using hj),if_neg om,if_pos om]
  unfold cvN
  rw [ZAm hs h]
 ·rw [Tbl (Ne.symm e),Tbo,if_pos hj]
  by_cases h1:j < p
  ·rw [if_pos h1]
  ·rw [if_neg h1,if_neg om]
end
theorem ZzW {n i j i' j':Nat} (hj:j < n) (hj':j' < n) (h:i * n+j=i' * n+j'):i=i'∧j=j':=by
 have h1:(i * n+j) / n=i:=by rw [Nat.mul_comm,Nat.mul_add_div om,Nat.div_eq_of_lt hj,Nat.add_zero]
 have h2:(i' * n+j') / n=i':=by rw [Nat.mul_comm,Nat.mul_add_div om,Nat.div_eq_of_lt hj',Nat.add_zero]
 rw [h] at h1
 have e:i=i':=by rw [<- h1,h2]
 subst e
 exact ⟨rfl,by omega⟩
theorem Zmb {n i j:Nat} (hi:i < n) (hj:j < n):i * n+j < n * n:=by
 have:(i+1) * n<=n * n:=Nat.mul_le_mul_right n hi
 rw [Nat.succ_mul] at this
 omega
section
variable {g:Sgn}
def TabB (g:Sgn) (o:Opr) (sets:List Nat) (P:Nat->Nat->Prop) (T:List Nat):Prop:=T.length=sets.length * sets.length∧∀ i j,i<=j->j < sets.length->(P i j->T[i * sets.length+j]?=some (cvN g o sets i (j+1)))∧(¬ P i j->T[i * sets.length+j]?=some 0)
theorem TabB.start {o:Opr} {sets:List Nat} {P:Nat->Nat->Prop} (h:∀ i j,i<=j->¬ P i j):TabB g o sets P (List.replicate (sets.length * sets.length) 0):=⟨by simp,fun i j h1 h2=>⟨fun hp=>absurd hp (h i j h1),fun _=>by
 rw [Tbo,if_pos (Zmb om h2)]⟩⟩
theorem TabB.next {o:Opr} {sets:List Nat} {P P':Nat->Nat->Prop} {T:List Nat} (h:TabB g o sets P T) {i j:Nat} (hij:i<=j) (hj:j < sets.length) (h1:∀ i' j',i'<=j'->j' < sets.length->(P' i' j' ↔ P i' j'∨(i'=i∧j'=j))):TabB g o sets P' (T.set (i * sets.length+j) (cvN g o sets i (j+1))):=by
 refine ⟨by rw [Tax,h.1],fun i' j' q1 q2=>?_⟩
 have hl:=Zmb (n:=sets.length) (i:=i) (j:=j) om hj
 by_cases e:i'=i∧j'=j
 ·obtain ⟨rfl,rfl⟩:=e
  exact ⟨fun _=>Tbk (by rw [h.1];exact hl),fun hn=>absurd ((h1 _ _ q1 q2).2 (.inr ⟨rfl,rfl⟩)) hn⟩
 ·have hne:i * sets.length+j≠i' * sets.length+j':=fun q=>e (by have:=ZzW hj q2 q;exact ⟨this.1.symm,this.2.symm⟩)
  rw [Tbl hne]
  have h2:=h.2 i' j' q1 q2
  exact ⟨fun hp=>h2.1 (((h1 _ _ q1 q2).1 hp).resolve_right e),fun hn=>h2.2 fun hp=>hn ((h1 _ _ q1 q2).2 (.inl hp))⟩
theorem TabB.mono {o:Opr} {sets:List Nat} {P P':Nat->Nat->Prop} {T:List Nat} (h:TabB g o sets P T) (h1:∀ i j,i<=j->j < sets.length->(P' i j ↔ P i j)):TabB g o sets P' T:=⟨h.1,fun i j q1 q2=>by
 have h2:=h.2 i j q1 q2
 rw [h1 i j q1 q2];exact h2⟩
theorem TabB.zero {o:Opr} {sets:List Nat} {P:Nat->Nat->Prop} {T:List Nat} (h:TabB g o sets P T) {i j:Nat} (hij:i<=j) (hj:j < sets.length) (hn:¬ P i j):T.set (i * sets.length+j) 0=T:=by
 have h1:=(h.2 i j hij hj).2 hn
 have hl:=Zmb (n:=sets.length) (i:=i) (j:=j) om hj
 refine List.ext_getElem? fun q=>?_
 by_cases e:q=i * sets.length+j
 ·subst e
  rw [Tbk (by rw [h.1];exact hl),h1]
 ·rw [Tbl (Ne.symm e)]
end
noncomputable def ZbD (g:Sgn) (rank:List Int) (a b:Tm):Bool:=Zcz g && (decide (rank.length=g.ops.length) && (Zb2 g a && (Zb2 g b && grB g rank a b)))
theorem Zi3 {g:Sgn} (h:Zcz g=true):SgnOk g∧∀ o∈g.ops,o.assoc=false:=by
 simp only [Zcz,Tar] at h
 refine ⟨ZgT.1 h.2,fun o ho=>?_⟩
 have:=List.all_eq_true.1 h.1 o ho
 simp only [Zfj,Tar,Bool.not_eq_true'] at this
 exact this.1
theorem Zmd {g:Sgn} {rank:List Int} {a b:Tm} (hok:ZcI g) (hgl:bulkRow (ZaA g)<=1048576) (hoa:okTm a) (hba:bulkRow (Zah a)<=1048576) (hob:okTm b) (hbb:bulkRow (Zah b)<=1048576):Con e0 10 [.agg (ZaA g),.one (.sl (rank.map ZaK)),.agg (Zah a),.agg (Zah b)] [.one (.lit (.bool (ZbD g rank a b)))]:=by
 have hl:g.ops.length<=1048576:=by
  simp only [ZaA,bulkRow,Zb3,Taw] at hgl;omega
 have cF:=Zl9 hok hl
 have cA:=ZfH hok hoa (Zei hba)
 have cB:=ZfH hok hob (Zei hbb)
 have cG:=fun h1 h2 h3 h4 h5=>(Zux (rank:=rank) hok h1 h2 h3 _ (Tan _) h4 h5:GrC g rank a b)
 have rl:(rank.map ZaK).length=rank.length:=Taw _
 have ol:(g.ops.map Zbo).length=g.ops.length:=Taw _
 unfold GrC at cG
 rw [ZaA] at *
 refine gI (ts:=[.slot 8]) 479 Tryz.func10 ?_
 (have F:=@tmz;have NN:Zaj 1:=trivial;refine gGn ?_;clear F NN)
 refine gB ?_
 (have F:=@tmz;refine gC (cF) ?_;clear F)
 cases h1:Zcz g with
 | false =>
  have e:ZbD g rank a b=false:=by simp [ZbD,h1]
  rw [e]
  (have F:=@tmz;refine gR ?_;clear F)
  (have F:=@tmz;refine gG ?_;exact gTd)
 | true =>
 obtain ⟨hg,hfr⟩:=Zi3 h1
 have hs:=ZdM hg
 by_cases h2:rank.length=g.ops.length
 rotate_left
 ·have q2:((rank.length:Int)=(g.ops.length:Int))=False:=eq_false om
  have e:ZbD g rank a b=false:=by simp [ZbD,h2]
  rw [e]
  (have F:=ai @rl (ai @ol (ai @q2 @tmz));refine gR ?_;clear F)
  (have F:=@tmz;refine gG ?_;exact gTd)
 have q2:((rank.length:Int)=(g.ops.length:Int))=True:=eq_true om
 rw [hs,Bool.true_and] at cA cB
 (have F:=ai @rl (ai @ol (ai @q2 @tmz));refine gC (cA) ?_;clear F)
 cases h3:Zb2 g a with
 | false =>
  have e:ZbD g rank a b=false:=by simp [ZbD,h3]
  rw [e]
  (have F:=@tmz;refine gR ?_;clear F)
  (have F:=@tmz;refine gG ?_;exact gTd)
 | true =>
 (have F:=@tmz;refine gC (cB) ?_;clear F)
 cases h4:Zb2 g b with
 | false =>
  have e:ZbD g rank a b=false:=by simp [ZbD,h4]
  rw [e]
  (have F:=@tmz;refine gR ?_;clear F)
  (have F:=@tmz;refine gG ?_;exact gTd)
 | true =>
 have e:ZbD g rank a b=grB g rank a b:=by simp [ZbD,h1,h2,h3,h4]
 rw [e]
 (have F:=@tmz;refine gC (cG hg hfr h2 (ZeF.1 h3) (ZeF.1 h4)) ?_;clear F)
 (have F:=@tmz;refine gR ?_;clear F)
 (have F:=@tmz;refine gG ?_;exact gTd)
section
variable {e:Env} {mask:Nat} {Q:PX->St->Prop} {ds:List (Option Nat)}
def ancN (L:List Oper):Nat->Nat->List Nat
 | 0,_=>[]
 | n+1,j=>Zbg L j++(Zbg L j).flatMap (ancN L n)
theorem Zgd {L:List Oper} {listed:Array Bool} (h:∀ j,listed.getD j false=true->∀ q∈Zbg L j,listed.getD q false=true):∀ (n j:Nat),(∀ q∈Zbg L j,listed.getD q false=true)->∀ q∈ancN L n j,listed.getD q false=true
 | 0,_,_,q,hq=>by cases hq
 | n+1,j,hj,q,hq=>by
  rcases Tbe.1 hq with hq | hq
  ·exact hj q hq
  ·obtain ⟨r,hr,hq⟩:=List.mem_flatMap.1 hq
   exact Zgd h n r (h r (hj r hr)) q hq
def Zes (e:Env) (ds:List (Option Nat)) (L:List Oper) (cons:Nat->Option Nat) (ini:List Nat) (B:St->Prop) (P:Nat->St->Prop):Nat->List Oper->Prop
 | _,[]=>True
 | i,o::os=>(∀ s m,B ⟨s,m⟩->(∀ j∈Zbg L i,(cons j=none∨cons j=some i)->P j ⟨s,m⟩)->(∀ j∈ini,cons j=some i->P j ⟨s,m⟩)->(∀ j∈ini,∀ k,cons j=some k->i∈Zbg L k->P j ⟨s,m⟩)->Runs e ds 0 [o] ⟨s,m⟩ (fun σ'=>B σ'∧P i σ'∧∀ j,j≠i->i ∉ ancN L 6 j->cons j≠some i->(∀ k,cons j=some k->k ∉ ancN L 6 i)->P j ⟨s,m⟩->P j σ'))∧Zes e ds L cons ini B P (i+1) os
theorem Zes.get {L:List Oper} {cons:Nat->Option Nat} {ini:List Nat} {B:St->Prop} {P:Nat->St->Prop}:∀ {l:List Oper} {k i:Nat} {o:Oper},Zes e ds L cons ini B P k l->l[i]?=some o->∀ s m,B ⟨s,m⟩->(∀ j∈Zbg L (k+i),(cons j=none∨cons j=some (k+i))->P j ⟨s,m⟩)->(∀ j∈ini,cons j=some (k+i)->P j ⟨s,m⟩)->(∀ j∈ini,∀ k',cons j=some k'->k+i∈Zbg L k'->P j ⟨s,m⟩)->Runs e ds 0 [o] ⟨s,m⟩ (fun σ'=>B σ'∧P (k+i) σ'∧∀ j,j≠k+i->k+i ∉ ancN L 6 j->cons j≠some (k+i)->(∀ k',cons j=some k'->k' ∉ ancN L 6 (k+i))->P j ⟨s,m⟩->P j σ')
 | [],k,i,o,_,h=>by simp at h
 | x::l,k,0,o,h,ho=>by
  simp only [Tat,Taq] at ho
  subst ho
  exact h.1
 | x::l,k,i+1,o,h,ho=>by
  have:=Zes.get (l:=l) (k:=k+1) (i:=i) (o:=o) h.2 (by simpa using ho)
  rw [show k+1+i=k+(i+1) by omega] at this
  exact this
theorem ZmY {l:List Oper} {cons:Nat->Option Nat} {ini:List Nat} {K B:St->Prop} {P:Nat->St->Prop} (hb:ZiO l=true) (hini:ini.all (fun j=>decide (l.length<=j))=true) (hstep:Zes e ds l cons ini B P 0 l) (hK:∀ s m,B ⟨s,m⟩->(∀ i,i < l.length∨i∈ini->(∀ k,cons i=some k->l.length<=k)->P i ⟨s,m⟩)->K ⟨s,m⟩) :
  ∀ (f:Nat) (listed:Array Bool) (σ:St),listed.size=l.length->(List.range l.length).countP (fun i=>!listed.getD i true)=f->B σ->(∀ j,listed.getD j false=true->(P j σ∨∃ k,cons j=some k∧listed.getD k false=true)∧∀ q∈Zbg l j,listed.getD q false=true)->(∀ j∈ini,P j σ∨∃ k,cons j=some k∧listed.getD k false=true)->Zhb e ds l.toArray K f listed σ:=by
 have hback:∀ i o,l[i]?=some o->o.guard=none∧∀ e∈o.after,Region.binds .any e=true->e.on < i:=fun i o ho=>by
  have h1:=List.all_eq_true.1 hb i (List.mem_range.2 (Tad.1 ho).1)
  rw [ho] at h1
  simp only [Tar,Option.isNone_iff_eq_none,List.all_eq_true,Bool.or_eq_true,Bool.not_eq_true',decide_eq_true_eq] at h1
  refine ⟨h1.1,fun e he hbe=>?_⟩
  rcases h1.2 e (Array.mem_toList_iff.2 he) with h2 | h2
  ·rw [hbe] at h2;cases h2
  ·exact h2
 have hfirst:∀ (listed:Array Bool),listed.size=l.length->Region.ready .any l.toArray listed=[]->∀ i,i < l.length->listed.getD i false=true:=fun listed hsz h0 i=>by
  induction i using Nat.strongRecOn with
  | _ i ih =>
   intro hi
   rw [<- Zbm (by omega:i < listed.size)]
   cases hun:listed.getD i true with
   | true=>rfl
   | false =>
   obtain ⟨o,ho⟩:∃ o,l[i]?=some o:=⟨_,Taa hi⟩
   have:=(mem_ready (ops:=l.toArray) (md:=.any)).2 ⟨hun,o,by simpa using ho,fun e he hbe=>ih e.on ((hback i o ho).2 e he hbe) (by have:=(hback i o ho).2 e he hbe;omega)⟩
   rw [h0] at this
   cases this
 have hlt:∀ (listed:Array Bool) (k:Nat),listed.getD k false=true->k < listed.size:=fun listed k h=>Classical.byContradiction fun hn=>by
  rw [Array.getD_eq_getD_getElem?,Array.getElem?_eq_none om] at h
  cases h
 intro f
 induction f with
 | zero =>
  intro listed σ hsz hc hB hP hI
  have hall:∀ i,i < l.length->listed.getD i true=true:=fun i hi=>by
   have:=List.countP_eq_zero.1 hc i (List.mem_range.2 hi)
   simpa using this
  refine ⟨?_,hK σ.s σ.m hB fun i hio hk=>?_⟩
  ·cases hr:Region.ready .any l.toArray listed with
   | nil=>rfl
   | cons i r =>
    have hi:i∈Region.ready .any l.toArray listed:=by rw [hr];simp
    obtain ⟨hun,oi,hoi,_⟩:=mem_ready.1 hi
    have hil:i < l.length:=by
     have:=(Tbi.1 hoi).1
     simpa using this
    rw [hall i hil] at hun
    cases hun
  ·have hno:¬ ∃ k,cons i=some k∧listed.getD k false=true:=fun ⟨k,h1,h2⟩=>by
    have:=hlt listed k h2
    have:=hk k h1
    omega
   rcases hio with hi | hi
   ·exact (hP i (by rw [<- Zbm om];exact hall i hi)).1.resolve_right hno
   ·exact (hI i hi).resolve_right hno
 | succ f ih =>
  intro listed σ hsz hc hB hP hI
  refine ⟨fun h0=>hK σ.s σ.m hB fun i hio hk=>?_,fun i hi=>?_⟩
  ·have hno:¬ ∃ k,cons i=some k∧listed.getD k false=true:=fun ⟨k,h1,h2⟩=>by
    have:=hlt listed k h2
    have:=hk k h1
    omega
   rcases hio with hi | hi
   ·exact (hP i (hfirst listed hsz h0 i hi)).1.resolve_right hno
   ·exact (hI i hi).resolve_right hno
  obtain ⟨hun,o,hoi,hall⟩:=mem_ready.1 hi
  have ho:l[i]?=some o:=by simpa using hoi
  have hil:i < l.length:=(Tad.1 ho).1
  have hls:i < listed.size:=by omega
  have hda:Zbg l i=Zdk o:=by unfold Zbg;rw [ho]
  have hunf:listed.getD i false=false:=by rw [<- Zbm hls];exact hun
  have hanc:∀ q∈ancN l 6 i,listed.getD q false=true:=Zgd (fun j hj=>(hP j hj).2) 6 i fun q hq=>by
   rw [hda] at hq
   simp only [Zdk,Tbf,List.mem_filter] at hq
   obtain ⟨e,⟨he,hbe⟩,rfl⟩:=hq
   exact hall e (Array.mem_toList_iff.1 he) hbe
  refine ⟨o,hoi,(hback i o ho).1,ZfD (hback i o ho).1 ?_⟩
  have h1:=Zes.get hstep ho σ.s σ.m hB (fun j hj hcj=>by
   rw [Nat.zero_add] at hj hcj
   have hj':=hj
   rw [hda] at hj'
   simp only [Zdk,Tbf,List.mem_filter] at hj'
   obtain ⟨e,⟨he,hbe⟩,rfl⟩:=hj'
   refine (hP e.on (hall e (Array.mem_toList_iff.1 he) hbe)).1.resolve_right ?_
   rintro ⟨k,hk1,hk2⟩
   rcases hcj with hcj | hcj
   ·rw [hcj] at hk1;cases hk1
   ·rw [hcj] at hk1
    injection hk1 with hk1
    subst hk1
    rw [hunf] at hk2
    cases hk2) (fun j hj hc=>by
   rw [Nat.zero_add] at hc
   refine (hI j hj).resolve_right ?_
   rintro ⟨k,hk1,hk2⟩
   rw [hc] at hk1
   injection hk1 with hk1
   subst hk1
   rw [hunf] at hk2
   cases hk2) (fun j hj k' hc hd=>by
   rw [Nat.zero_add] at hd
   refine (hI j hj).resolve_right ?_
   rintro ⟨k,hk1,hk2⟩
   rw [hc] at hk1
   injection hk1 with hk1
   subst hk1
   have h2:=(hP _ hk2).2 i hd
   rw [hunf] at h2
   cases h2)
  rw [Nat.zero_add] at h1
  refine ZiN h1 fun σ' ⟨k1,k2,k3⟩=>ih _ σ' (by simpa using hsz) ?_ k1 (fun j hj=>?_) fun j hj=>?_
  ·have h1:(List.range l.length).countP (fun j=>!(listed.setIfInBounds i true).getD j true)+1=(List.range l.length).countP (fun j=>!listed.getD j true):=by
    have hperm:=List.perm_cons_erase (List.mem_range.2 hil)
    rw [hperm.countP_eq,hperm.countP_eq,List.countP_cons,List.countP_cons]
    have hcong:((List.range l.length).erase i).countP (fun j=>!(listed.setIfInBounds i true).getD j true)=((List.range l.length).erase i).countP (fun j=>!listed.getD j true):=by
     refine List.countP_congr fun j hj=>?_
     have hne:j≠i:=fun e=>by
      subst e
      exact List.Nodup.not_mem_erase (List.nodup_range) hj
     rw [getD_set_ne true (Ne.symm hne)]
    rw [hcong,hun]
    simp [hls]
   omega
  ·by_cases hji:j=i
   ·subst hji
    refine ⟨.inl k2,fun q hq=>?_⟩
    rw [hda] at hq
    simp only [Zdk,Tbf,List.mem_filter] at hq
    obtain ⟨e,⟨he,hbe⟩,rfl⟩:=hq
    have hlt:=(hback j o ho).2 e (Array.mem_toList_iff.1 he) hbe
    rw [getD_set_ne false om]
    exact hall e (Array.mem_toList_iff.1 he) hbe
   ·rw [getD_set_ne false (Ne.symm hji)] at hj
    obtain ⟨p1,p2⟩:=hP j hj
    have hni:i ∉ ancN l 6 j:=fun hm=>by
     have h2:=Zgd (fun j hj=>(hP j hj).2) 6 j p2 i hm
     rw [hunf] at h2
     cases h2
    refine ⟨?_,fun q hq=>?_⟩
    ·rcases p1 with p1 | ⟨k,hk1,hk2⟩
     ·by_cases hci:cons j=some i
      ·refine .inr ⟨i,hci,?_⟩
       rw [<- Zbm (by simpa using hls)]
       simp [Array.getD_eq_getD_getElem?,hls]
      ·by_cases hdep:∃ k,cons j=some k∧k∈ancN l 6 i
       ·obtain ⟨k,hk1,hk2⟩:=hdep
        refine .inr ⟨k,hk1,?_⟩
        have hk3:=hanc k hk2
        have hki:i≠k:=fun e=>by subst e;rw [hunf] at hk3;cases hk3
        rw [getD_set_ne false hki]
        exact hk3
       ·exact .inl (k3 j hji hni hci (fun k hk1 hk2=>hdep ⟨k,hk1,hk2⟩) p1)
     ·refine .inr ⟨k,hk1,?_⟩
      by_cases hki:k=i
      ·subst hki;rw [hunf] at hk2;cases hk2
      ·rw [getD_set_ne false (Ne.symm hki)];exact hk2
    ·by_cases hqi:q=i
     ·subst hqi
      have h2:=p2 q hq
      rw [hunf] at h2
      cases h2
     ·rw [getD_set_ne false (Ne.symm hqi)];exact p2 q hq
  ·have hjl:l.length<=j:=by have:=List.all_eq_true.1 hini j hj;simpa using this
   have hji:j≠i:=by omega
   have hni:i ∉ ancN l 6 j:=fun hm=>by
    have hd:Zbg l j=[]:=by unfold Zbg;rw [List.getElem?_eq_none hjl]
    simp [ancN,hd] at hm
   rcases hI j hj with p1 | ⟨k,hk1,hk2⟩
   ·by_cases hci:cons j=some i
    ·refine .inr ⟨i,hci,?_⟩
     rw [<- Zbm (by simpa using hls)]
     simp [Array.getD_eq_getD_getElem?,hls]
    ·by_cases hdep:∃ k,cons j=some k∧k∈ancN l 6 i
     ·obtain ⟨k,hk1,hk2⟩:=hdep
      refine .inr ⟨k,hk1,?_⟩
      have hk3:=hanc k hk2
      have hki:i≠k:=fun e=>by subst e;rw [hunf] at hk3;cases hk3
      rw [getD_set_ne false hki]
      exact hk3
     ·exact .inl (k3 j hji hni hci (fun k hk1 hk2=>hdep ⟨k,hk1,hk2⟩) p1)
   ·refine .inr ⟨k,hk1,?_⟩
    by_cases hki:k=i
    ·subst hki;rw [hunf] at hk2;cases hk2
    ·rw [getD_set_ne false (Ne.symm hki)];exact hk2
def lkS:List (Nat × A)->List (Nat × A)->Prop
 | [],_=>True
 | (t,x)::r,s=>gs s t=x∧lkS r s
def lkM:List (Nat × Bk)->List (Nat × Bk)->Prop
 | [],_=>True
 | (t,x)::r,m=>gm m t=some x∧lkM r m
theorem Zzq {s:List (Nat × A)}:∀ {sb:List (Nat × A)},(∀ p∈sb,gs s p.1=p.2) ↔ lkS sb s
 | []=>by simp [lkS]
 | (t,x)::r=>by simp only [List.forall_mem_cons,lkS,Zzq (sb:=r)]
theorem Zzr {m:List (Nat × Bk)}:∀ {mb:List (Nat × Bk)},(∀ p∈mb,gm m p.1=some p.2) ↔ lkM mb m
 | []=>by simp [lkM]
 | (t,x)::r=>by simp only [List.forall_mem_cons,lkM,Zzr (mb:=r)]
theorem ZdB {sb:List (Nat × A)} {mb:List (Nat × Bk)} {s:List (Nat × A)} {m:List (Nat × Bk)}:Lks sb mb ⟨s,m⟩ ↔ lkS sb s∧lkM mb m:=and_congr Zzq Zzr
abbrev Tab:=List (List (Nat × A) × List (Nat × Bk))
def tabP (T:Tab) (i:Nat) (σ:St):Prop:=Lks (T.getD i ([],[])).1 (T.getD i ([],[])).2 σ
theorem ZvG {T:Tab} {i:Nat} {s:List (Nat × A)} {m:List (Nat × Bk)}:tabP T i ⟨s,m⟩ ↔ lkS (T.getD i ([],[])).1 s∧lkM (T.getD i ([],[])).2 m:=ZdB
def Zi4 (L:List Oper) (cons:Nat->Option Nat) (T:Tab) (i:Nat) (f:List (Nat × A)->List (Nat × Bk)->Bool):Bool:=(List.range T.length).all fun j=>j==i || ((ancN L 6 j).contains i || (cons j==some i || ((match cons j with | some k=>(ancN L 6 i).contains k | none=>false) || f (T.getD j ([],[])).1 (T.getD j ([],[])).2)))
theorem ZzX {L:List Oper} {cons:Nat->Option Nat} {T:Tab} {i:Nat} {f:List (Nat × A)->List (Nat × Bk)->Bool} {σ σ':St} (h:Zi4 L cons T i f=true) (hf:∀ sb mb,f sb mb=true->Lks sb mb σ->Lks sb mb σ'):∀ j,j≠i->i ∉ ancN L 6 j->cons j≠some i->(∀ k,cons j=some k->k ∉ ancN L 6 i)->tabP T j σ->tabP T j σ':=fun j h1 h2 h3 h4 hp=>by
 unfold tabP at hp ⊢
 by_cases hj:j < T.length
 ·have:=List.all_eq_true.1 h j (List.mem_range.2 hj)
  simp only [Bool.or_eq_true,beq_iff_eq,List.contains_eq_mem,decide_eq_true_eq] at this
  rcases this with q | q | q | q | q
  ·exact absurd q h1
  ·exact absurd q h2
  ·exact absurd q h3
  ·cases hc:cons j with
   | none=>rw [hc] at q;cases q
   | some k=>rw [hc] at q;exact absurd (by simpa using q) (h4 k hc)
  ·exact hf _ _ q hp
 ·have e:T.getD j ([],[])=([],[]):=by rw [List.getD_eq_getElem?_getD,List.getElem?_eq_none om];rfl
  rw [e]
  exact ⟨fun p hp=>(by cases hp),fun p hp=>by cases hp⟩
section
variable {sb:List (Nat × A)} {mb:List (Nat × Bk)} {s:List (Nat × A)} {m:List (Nat × Bk)} {d k:Nat} {α:A} {bk:Bk}
theorem Lks.kill (h:Lks sb mb ⟨s,m⟩) (hf:sb.all (fun p=>!keyB k p.2)=true):Lks sb mb ⟨Zao k s,m⟩:=⟨fun p hp=>by
 have h1:=List.all_eq_true.1 hf p hp
 have h2:=h.1 p hp
 show gs (Zao k s) p.1=p.2
 rw [Zdu _ _ _ (by rw [h2];simpa using h1)]
 exact h2,h.2⟩
theorem Lks.mrem (h:Lks sb mb ⟨s,m⟩) (hf:mb.all (fun p=>p.1 != k)=true):Lks sb mb ⟨s,remM k m⟩:=⟨h.1,fun p hp=>by
 have h1:=List.all_eq_true.1 hf p hp
 simp only [bne_iff_ne,ne_eq] at h1
 show gm (remM k m) p.1=some p.2
 rw [ZaO,if_neg h1]
 exact h.2 p hp⟩
theorem Zuz {x:A} (h:keyB k x=false):frzA k bk x=x:=by
 cases x <;> simp_all [frzA,keyB]
theorem Lks.frz (h:Lks sb mb ⟨s,m⟩) (hf:sb.all (fun p=>!keyB k p.2)=true) (hm:mb.all (fun p=>p.1 != k)=true):Lks sb mb ⟨frzS k bk s,remM k m⟩:=by
 refine Lks.mrem (m:=m) ⟨fun p hp=>?_,h.2⟩ hm
 have h1:=List.all_eq_true.1 hf p hp
 have h2:=h.1 p hp
 show gs (frzS k bk s) p.1=p.2
 rw [Zjj,h2]
 exact Zuz (by simpa using h1)
def Zzs (d:Nat) (sb:List (Nat × A)) (_:List (Nat × Bk)):Bool:=sb.all fun p=>p.1 != d
def Zzt (d k:Nat) (sb:List (Nat × A)) (mb:List (Nat × Bk)):Bool:=Zee d sb mb && Zee k sb mb
theorem Lks.ownE (h:Lks sb mb ⟨s,m⟩) (hf:Zzt d k sb mb=true):Lks sb mb ⟨(d,α)::Zao d (Zao k s),(d,bk)::remM d (remM k m)⟩:=by
 simp only [Zzt,Zee,Tar,List.all_eq_true,bne_iff_ne,ne_eq,Bool.not_eq_true'] at hf
 refine Lks.born (Lks.mrem (Lks.kill h ?_) ?_) ?_
 ·simp only [List.all_eq_true,Bool.not_eq_true'];exact fun p hp=>(hf.2.1 p hp).2
 ·simp only [List.all_eq_true,bne_iff_ne,ne_eq];exact fun p hp=>hf.2.2 p hp
 ·simp only [Zee,Tar,List.all_eq_true,bne_iff_ne,ne_eq,Bool.not_eq_true'];exact hf.1
end
section
variable {L:List Oper} {cons:Nat->Option Nat} {T:Tab} {i:Nat} {sb:List (Nat × A)} {mb:List (Nat × Bk)} {s s2:List (Nat × A)} {m m2:List (Nat × Bk)} {d k:Nat} {α:A} {bk:Bk}
end
end
section
variable {e:Env} {mask:Nat} {Q:PX->St->Prop} {ds:List (Option Nat)} {X:Type}
def tabX (ok:Nat->X->Prop) (T:X->Tab) (j:Nat) (σ:St):Prop:=∃ x,ok j x∧tabP (T x) j σ
abbrev DidX (L:List Oper) (cons:Nat->Option Nat) (ok:Nat->X->Prop) (T:X->Tab) (i:Nat) (sb:List (Nat × A)) (mb:List (Nat × Bk)) (s:List (Nat × A)) (m:List (Nat × Bk)) (σ':St):Prop:=Lks sb mb σ'∧tabX ok T i σ'∧∀ j,j≠i->i ∉ ancN L 6 j->cons j≠some i->(∀ k,cons j=some k->k ∉ ancN L 6 i)->tabX ok T j ⟨s,m⟩->tabX ok T j σ'
section
variable {L:List Oper} {cons:Nat->Option Nat} {ok:Nat->X->Prop} {T:X->Tab} {i:Nat} {sb:List (Nat × A)} {mb:List (Nat × Bk)} {s s2:List (Nat × A)} {m m2:List (Nat × Bk)} {d k:Nat} {α:A} {bk:Bk}
theorem Zh9 {f:List (Nat × A)->List (Nat × Bk)->Bool} {σ σ':St} (h:∀ x,Zi4 L cons (T x) i f=true) (hf:∀ sb mb,f sb mb=true->Lks sb mb σ->Lks sb mb σ'):∀ j,j≠i->i ∉ ancN L 6 j->cons j≠some i->(∀ k,cons j=some k->k ∉ ancN L 6 i)->tabX ok T j σ->tabX ok T j σ':=fun j h1 h2 h3 h4 ⟨x,hx,hp⟩=>⟨x,hx,ZzX (h x) hf j h1 h2 h3 h4 hp⟩
theorem xS (hB:Lks sb mb ⟨s,m⟩) (hp:tabX ok T i ⟨(d,α)::s,m⟩) (h1:Zzs d sb mb=true:=by rfl) (h2:∀ x,Zi4 L cons (T x) i (Zzs d)=true:=by intro x;rfl):DidX L cons ok T i sb mb s m ⟨(d,α)::s,m⟩:=⟨hB.slot h1,hp,Zh9 h2 fun _ _ h hl=>hl.slot h⟩
theorem Lks.bornC {κ:Nat} (h:Lks sb mb ⟨s,m⟩) (hf:(sb.all (fun p=>p.1 != d && !keyB κ p.2) && mb.all (fun p=>p.1 != κ))=true):Lks sb mb ⟨(d,α)::Zao κ s,(κ,bk)::remM κ m⟩:=by
 simp only [Tar,List.all_eq_true,bne_iff_ne,ne_eq,Bool.not_eq_true'] at hf
 refine Lks.slot (Lks.own (Lks.kill h ?_) ?_) ?_
 ·simp only [List.all_eq_true,Bool.not_eq_true'];exact fun p hp=>(hf.1 p hp).2
 ·simp only [List.all_eq_true,bne_iff_ne,ne_eq];exact hf.2
 ·simp only [List.all_eq_true,bne_iff_ne,ne_eq];exact fun p hp=>(hf.1 p hp).1
def Zho (d κ:Nat) (sb:List (Nat × A)) (mb:List (Nat × Bk)):Bool:=sb.all (fun p=>p.1 != d && !keyB κ p.2) && mb.all (fun p=>p.1 != κ)
theorem xP {κ:Nat} (hB:Lks sb mb ⟨s,m⟩) (hp:tabX ok T i ⟨(d,α)::Zao κ s,(κ,bk)::remM κ m⟩) (h1:Zho d κ sb mb=true:=by rfl) (h2:∀ x,Zi4 L cons (T x) i (Zho d κ)=true:=by intro x;rfl):DidX L cons ok T i sb mb s m ⟨(d,α)::Zao κ s,(κ,bk)::remM κ m⟩:=⟨hB.bornC h1,hp,Zh9 h2 fun _ _ h hl=>hl.bornC h⟩
end
theorem gGp {id:Nat} {l:List Oper} {s:List (Nat × A)} {m:List (Nat × Bk)} (sb:List (Nat × A)) (mb:List (Nat × Bk)) (P:Nat->St->Prop) (cons:Nat->Option Nat) (ini:List Nat) (hB:Lks sb mb ⟨s,m⟩) (hI:∀ j∈ini,P j ⟨s,m⟩) (hS:Zes e (l.map (·.dst)) l cons ini (Lks sb mb) P 0 l) (hK:∀ s' m',Lks sb mb ⟨s',m'⟩->(∀ i,i < l.length∨i∈ini->(∀ k,cons i=some k->l.length<=k)->P i ⟨s',m'⟩)->∃ sf mf,Lks sf mf ⟨s',m'⟩∧Q .normal ⟨sf,mf⟩)
  (hb:ZiO l=true:=by decide +kernel) (hini:ini.all (fun j=>decide (l.length<=j))=true:=by decide +kernel) (hT:regT l.toArray 0=true:=by decide +kernel):pwp e mask (.region id l.toArray true) ⟨s,m⟩ Q:=fun he U w0 S0 nt a w hok hs=>by
 refine ZlG he hT (K:=fun σ'=>∃ sf mf,Lks sf mf σ'∧Q .normal ⟨sf,mf⟩) (fun a w σ' ⟨sf,mf,h1,h2⟩ h3=>⟨⟨sf,mf⟩,h2,h3.weak (fun t=>ZlR t h1.1) (fun t bk=>ZlS t bk h1.2)⟩) (ZpU hok) hs ?_
 simp only [List.take_zero,Runs]
 have:=ZmY (K:=fun σ'=>∃ sf mf,Lks sf mf σ'∧Q .normal ⟨sf,mf⟩) hb hini hS hK l.length (Zbh l.length 0) ⟨s,m⟩ (by simp [Zbh]) (by
  rw [List.countP_eq_length.2]
  ·simp
  ·intro i hi
   have hi':=List.mem_range.1 hi
   simp [Zbh,hi']) hB (fun j hj=>by
   have h0:(Zbh l.length 0).getD j false=false:=by
    by_cases hjl:j < l.length
    ·simp [Zbh,hjl]
    ·simp [Zbh,hjl]
   rw [h0] at hj
   cases hj) (fun j hj=>.inl (hI j hj))
 simpa using this
theorem gGx {id:Nat} {l:List Oper} {s:List (Nat × A)} {m:List (Nat × Bk)} (sb:List (Nat × A)) (mb:List (Nat × Bk)) (ok:Nat->X->Prop) (T:X->Tab) (cons:Nat->Option Nat) (ini:List Nat) (hB:Lks sb mb ⟨s,m⟩) (hI:∀ j∈ini,tabX ok T j ⟨s,m⟩) (hS:Zes e (l.map (·.dst)) l cons ini (Lks sb mb) (tabX ok T) 0 l) (hK:∀ s' m',Lks sb mb ⟨s',m'⟩->(∀ i,i < l.length∨i∈ini->(∀ k,cons i=some k->l.length<=k)->tabX ok T i ⟨s',m'⟩)->∃ sf mf,Lks sf mf ⟨s',m'⟩∧Q .normal ⟨sf,mf⟩)
  (hb:ZiO l=true:=by decide +kernel) (hini:ini.all (fun j=>decide (l.length<=j))=true:=by decide +kernel) (hT:regT l.toArray 0=true:=by decide +kernel):pwp e mask (.region id l.toArray true) ⟨s,m⟩ Q:=gGp sb mb (tabX ok T) cons ini hB hI hS hK hb hini hT
theorem ZbO {ok:Nat->X->Prop} {T:X->Tab} {i:Nat} {s:List (Nat × A)} {m:List (Nat × Bk)}:tabX ok T i ⟨s,m⟩ ↔ ∃ x,ok i x∧lkS ((T x).getD i ([],[])).1 s∧lkM ((T x).getD i ([],[])).2 m:=exists_congr fun x=>and_congr_right fun _=>ZvG
end
theorem Ze5 {w:World} {S:Nat->Prop}:∀ {us vs:List Value},Zaa w S (Zal us) vs->vs=us
 | [],[],_=>rfl
 | u::us,v::vs,h=>by
  obtain ⟨h1,h2⟩:=h
  have h1:v=u:=h1
  rw [h1,Ze5 h2]
 | [],_::_,h=>h.elim
 | _::_,[],h=>h.elim
theorem Kept.noPin {D:Prop} {E:Nat->Prop} {B:Nat} {w w':World} (h:Kept D (fun b=>E b∨ZaR [] b) B w w'):Kept D E B w w' :=
 ⟨h.os,h.tape,h.output,h.drawn,h.size,fun k hk hn=>h.block k hk fun h=>h.elim hn fun ⟨x,hx,_⟩=>by cases hx⟩
theorem Zmf {e:Env} {f:FuncId} {args:List D} {row:List C} (h:ConP e f args [] (ZbF row)):Con e f args [.agg row]:=by
 refine ⟨h.1,fun w S vs hS hE hG hv=>(h.2 w S vs hS hE hG (fun x hx=>by cases hx) trivial hv).mono ?_⟩
 rintro en w' ⟨v,r,pm',h1,⟨us,E,rfl,hl,hok,rfl⟩,h3,h4,h5,h6,h7⟩
 obtain ⟨⟨q1,q2,q3⟩,p2⟩:=h5 _ Tas
 obtain ⟨us0,hu0,hr⟩:=h7
 have e1:=Ze5 hr
 subst e1
 refine ⟨v,h1,h3.noPin,h4,us0,hu0,Zad.rep _ _ _ _ (fun g hg=>.inr ⟨?_,(q1 g hg).1⟩) q2⟩
 exact (p2 g hg).elim (fun ⟨x,hx,_⟩=>by cases hx) id
theorem ZuA {e:Env} {f:FuncId} {args:List D} {rows:List (List C)} (h:ConP e f args [] (Zce rows)):Con e f args [.one (.sl rows)]:=by
 refine ⟨h.1,fun w S vs hS hE hG hv=>(h.2 w S vs hS hE hG (fun x hx=>by cases hx) trivial hv).mono ?_⟩
 rintro en w' ⟨v,r,pm',h1,⟨u,E,rfl,hok,rfl⟩,h3,h4,h5,h6,h7⟩
 obtain ⟨⟨q1,q2,q3⟩,p2⟩:=h5 _ Tas
 have h7:v=u:=by simpa [retA,ARel,DRel,Rep] using h7
 subst h7
 refine ⟨v,h1,h3.noPin,h4,?_⟩
 exact (Own.rep (.sl rows) E v q2).mono fun g hg=>.inr ⟨(p2 g hg).elim (fun ⟨x,hx,_⟩=>by cases hx) id,(q1 g hg).1⟩
inductive Seg
 | lits (us:List Value)
 | sl (E:Nat->Prop) (rows:List (List C)) (u:Value)
 | st (E:Nat->Prop) (cs:List C) (us:List Value)
def segB:List Seg->List Bk
 | []=>[]
 | .lits _::r=>segB r
 | .sl E rows u::r=>.set E (fun w=>Own w (.sl rows) E u)::segB r
 | .st E cs us::r=>.set E (fun w=>Zad w cs E us)::segB r
def segC:List Seg->List C
 | []=>[]
 | .lits us::r=>Zal us++segC r
 | .sl _ rows _::r=>.sl rows::segC r
 | .st _ cs _::r=>cs++segC r
def segV:List Seg->List Value
 | []=>[]
 | .lits us::r=>us++segV r
 | .sl _ _ u::r=>u::segV r
 | .st _ _ us::r=>us++segV r
theorem Zad.app {w:World} {S S1 S2:Nat->Prop} {ds:List C} {vs:List Value} (h2:Zad w ds S2 vs) (i2:∀ x,S2 x->S x):∀ {cs:List C} {us:List Value} {S1:Nat->Prop},Zad w cs S1 us->(∀ x,S1 x->S x)->(∀ x,S1 x->S2 x->False)->Zad w (cs++ds) S (us++vs)
 | [],[],_,_,_,_=>Zad.keep (Tai _) ds S2 S vs (fun _ _=>rfl) i2 h2
 | c::cs,u::us,T,h,i1,hd=>by
  simp only [Zad] at h
  obtain ⟨T1,T2,a1,a2,a3,a4,a5⟩:=h
  have h3:Zad w (cs++ds) (fun x=>T2 x∨S2 x) (us++vs):=Zad.app (S:=fun x=>T2 x∨S2 x) (S1:=T2) h2 (fun _ h=>.inr h) a5 (fun _ h=>.inl h) fun x hx=>hd x (a2 x hx)
  exact Zad.cons T1 (fun x=>T2 x∨S2 x) a4 h3 (fun x hx=>i1 x (a1 x hx)) (fun x hx=>hx.elim (fun q=>i1 x (a2 x q)) (i2 x)) fun x hx hy=>hy.elim (a3 x hx) (hd x (a1 x hx))
 | [],_::_,_,h,_,_=>by simp [Zad] at h
 | _::_,[],_,h,_,_=>by simp [Zad] at h
theorem Zad.lits {w:World}:∀ {us:List Value},Zad w (Zal us) (fun _=>False) us
 | []=>Zad.nil
 | u::us=>Zad.lit Zad.lits
theorem Zge {w:World} {S:Nat->Prop}:∀ {ss:List Seg},(∀ x∈segB ss,Zcu w S x)->Zc3 (segB ss)->Zad w (segC ss) (ZaR (segB ss)) (segV ss)
 | [],_,_=>Zad.nil
 | .lits us::r,h,ha=>Zad.app (S1:=fun _=>False) (Zge (ss:=r) h ha) (fun _ q=>q) Zad.lits (fun _ q=>q.elim) fun _ q=>q.elim
 | .sl E rows u::r,h,⟨a1,a2⟩=>Zad.cons E (ZaR (segB r)) (h _ Tas).2.1 (Zge (fun x hx=>h x (Tal _ hx)) a2) (fun b q=>⟨_,Tas,q⟩) (fun b ⟨x,hx,q⟩=>⟨x,Tal _ hx,q⟩) fun b q ⟨x,hx,q2⟩=>a1 x hx b q q2
 | .st E cs us::r,h,⟨a1,a2⟩=>Zad.app (S1:=E) (Zge (fun x hx=>h x (Tal _ hx)) a2) (fun b ⟨x,hx,q⟩=>⟨x,Tal _ hx,q⟩) (h _ Tas).2.1 (fun b q=>⟨_,Tas,q⟩) fun b q ⟨x,hx,q2⟩=>a1 x hx b q q2
theorem Zgf:∀ {ss:List Seg} {y:Bk},y∈segB ss->∃ E G,y=.set E G
 | .lits _::r,y,h=>Zgf (ss:=r) h
 | .sl _ _ _::r,y,h=>by
  rcases Tbd.1 h with rfl | h
  ·exact ⟨_,_,rfl⟩
  ·exact Zgf h
 | .st _ _ _::r,y,h=>by
  rcases Tbd.1 h with rfl | h
  ·exact ⟨_,_,rfl⟩
  ·exact Zgf h
 | [],_,h=>by cases h
theorem ZeO (ss:List Seg):Zcy (segB ss) [.set (ZaR (segB ss)) (fun w=>Zad w (segC ss) (ZaR (segB ss)) (segV ss))]:=fun w S h ha=>by
 have hv:=Zge (w:=w) (S:=S) h ha
 refine ⟨fun x hx=>?_,ZeL _,fun g ⟨x,hx,hg⟩=>?_⟩
 ·simp only [Tbd,List.not_mem_nil,or_false] at hx
  subst hx
  refine ⟨fun b ⟨y,hy,hg⟩=>?_,hv,Zad.stable _ _ _⟩
  obtain ⟨E',G',rfl⟩:=Zgf hy
  exact (h _ hy).1 b hg
 ·simp only [Tbd,List.not_mem_nil,or_false] at hx
  subst hx
  exact hg
theorem ZeP {α:Type} (A:List α) (z x:α) (k:Nat) (i:Nat) (hi:i=A.length):(A++List.replicate (k+1) z).set i x=(A++[x])++List.replicate k z:=by
 subst hi
 rw [List.set_append_right _ _ (Tai _),Nat.sub_self,List.replicate_succ,List.set_cons_zero,Tbc]
 rfl
theorem tks {α:Type} {l:List α} {i:Nat} {x:α} (h:l[i]?=some x):l.take (i+1)=l.take i++[x]:=by simp [List.take_add_one,h]
theorem tk0 (l:List (List C)):l.take 0=[]:=rfl
theorem nla (l:List (List C)):[]++l=l:=rfl
theorem Zzu (u:Value):Zal [u]=[.lit u]:=rfl
theorem Zcg {e:Env} {f:FuncId} {rows:List (List C)} {post r:List D} (hb:Zbw e.P f=true) (h:rows.length<=maxLen->Con e f (.one (.sl rows)::post) r):Con e f (.one (.sl rows)::post) r:=⟨hb,fun w S vs hS hE hG hv=>by
 match vs,hv with
 | v::vs,⟨h1,h2⟩ =>
  have h1':Rep w S (.sl rows) v:=h1
  obtain ⟨A,n,cap,rfl,hn,hc,hm⟩:=h1'.form
  exact (h om).2 w S _ hS hE hG ⟨h1,h2⟩⟩
theorem Ze6:bulkRows []=0:=by simp [bulkRows]
def ZkR:F->Bool
 | .int=>true
 | .bool=>true
 | _=>false
theorem ZAo {fs:List F}:∀ {r:List C},fs.all ZkR=true->Zae fs r->bulkRow r=0:=by
 induction fs with
 | nil=>intro r _ h;cases r with
  | nil=>simp [bulkRow]
  | cons _ _=>simp [Zae] at h
 | cons f fs ih =>
  intro r hf h
  cases r with
  | nil=>simp [Zae] at h
  | cons c cs =>
   simp only [Zae] at h
   simp only [List.all_cons,Tar] at hf
   have h2:=ih hf.2 h.2
   cases f with
   | int=>obtain ⟨n,rfl,_⟩:=Zdx h.1;simp [bulkRow,Zb3,h2]
   | bool=>obtain ⟨n,rfl⟩:=ZhT h.1;simp [bulkRow,Zb3,h2]
   | str=>simp [ZkR] at hf
   | sl t=>simp [ZkR] at hf
theorem ZkS {fs:List F} (hf:fs.all ZkR=true):∀ {rows:List (List C)},Zam fs rows->bulkRows rows=0
 | [],_=>Ze6
 | r::rs,h=>by
  simp only [Zam] at h
  simp [bulkRows,ZAo hf h.1,ZkS hf h.2]
theorem ZuB {rows:List (List C)} (h:Zam (Zab .int) rows):rows.length+bulkRows rows=rows.length:=by rw [ZkS (by rfl) h];rfl
theorem Zqn {rows:List (List C)} (hok:Zam (Zab .int) rows) {left:Int} (h0:0<=left) (h1:left<=1048576):Con e0 285 [.one (.sl rows),.one (.lit (.int .i64 left))] [.one (.lit (.int .i64 (sub left (rows.length+bulkRows rows))))]:=by
 refine Zcg (by kernel_rfl) fun hm=>?_
 unfold maxLen at hm
 have w:IntKind.i64.wrap (left - (rows.length:Int))=left - (rows.length:Int):=IntWalk.i64_in _ om
 rw [ZkS (fs:=Zab .int) (by rfl) hok,Nat.add_zero]
 refine gI 1043 Tryz.func285 ?_
 by_cases q:left < (rows.length:Int)
 ·rw [ZaN om]
  have q':(left - (rows.length:Int) < 0)=True:=eq_true om
  (have F:=ai @w @q';refine gG ?_;exact gT)
 have q':(left - (rows.length:Int) < 0)=False:=eq_false om
 rw [Za8 om]
 (have F:=ai @w @q';refine gG ?_;exact gT)
theorem Zi5 {rows:List (List C)} (hok:Zam (Zab .int) rows):Con e0 16 [.one (.sl rows),.one (.sl rows)] [.one (.lit (.bool true))]:=by
 refine Zcg (by kernel_rfl) fun hm=>?_
 unfold maxLen at hm
 have hrb:ZaE 1 rows=true:=ZaX.2 hok.rowsLen
 refine gI 33571891 Tryz.func16 ?_
 (have F:=@beq_self_eq_true.{0};refine gG ?_;clear F)
 (have F:=@e0P;refine gL (ι:=Nat) [4,5,14,25] [] (fun x=>[(5,.d (.one (.lit (.int .i64 (x:Int)))))]) (fun x=>[]) (fun x=>x<=rows.length) (fun x=>rows.length - x) (0) (Taj _) (fun x hx=>?_);clear F)
 by_cases hlt:x < rows.length
 ·obtain ⟨r,hr⟩:∃ r,rows[x]?=some r:=⟨_,Taa hlt⟩
  obtain ⟨x0,rfl,g0⟩:=ZgL (hok.get hr)
  have q1:((x:Int) < (rows.length:Int))=True:=eq_true om
  have wi:=Zap (k:=x) om
  (have F:=ai @beq_self_eq_true.{0} (ai @wi (ai @hr (ai @hlt (ai @Zan (ai @hrb @q1)))));refine gG ?_;exact ⟨x+1,hlt,gw,gw,by omega⟩)
 ·obtain rfl:x=rows.length:=by omega
  have q1:((rows.length:Int) < (rows.length:Int))=False:=eq_false om
  (have F:=@q1;refine gG ?_;exact gT)
theorem ZhS {rows:List (List C)} (hok:Zam (Zab .int) rows) (hb:rows.length+bulkRows rows<=1048576):ConP e0 12 [.one (.sl rows)] [] (Zce rows):=by
 have hrb:ZaE 1 rows=true:=ZaX.2 hok.rowsLen
 have hmx:((rows.length:Int)<=(maxApp:Int))=True:=eq_true (by unfold maxApp;omega)
 refine gIP (ts:=[.slot 2]) [] 2077 Tryz.func12 ?_
 (have F:=ai @hmx @Tbt;refine gG ?_;clear F)
 refine pE [] [1000] ZeM ?_
 (have F:=ai @nla (ai @Nat.sub_zero @tk0);refine gL (ι:=Nat × List (List Value) × (Nat->Prop)) [3,4,11] [3,1000] (fun x=>[(4,.d (.one (.lit (.int .i64 (x.1:Int))))),(3,.buf 3)]) (fun x=>[(3,.buf none 3 1 (x.2.1.map Zal++List.replicate (rows.length - x.1) [C.lit (.int .i64 0)])),(1000,.set x.2.2 (fun w=>ZaJ w (rows.take x.1) x.2.2 x.2.1))]) (fun x=>x.1<=rows.length∧x.2.1.length=x.1) (fun x=>rows.length - x.1) ((0,[],fun _=>False)) (⟨Taj _,rfl⟩) (fun x hx=>?_);clear F)
 obtain ⟨i,uss,E⟩:=x
 obtain ⟨hi,hn⟩:=hx
 simp only at hi hn
 dsimp only
 by_cases hlt:i < rows.length
 ·obtain ⟨r,hr⟩:∃ r,rows[i]?=some r:=⟨_,Taa hlt⟩
  obtain ⟨x0,rfl,g0⟩:=ZgL (hok.get hr)
  have q1:((i:Int) < (rows.length:Int))=True:=eq_true om
  have wi:=Zap (k:=i) om
  obtain ⟨k,hk⟩:∃ k,rows.length - i=k+1:=⟨rows.length - i - 1,by omega⟩
  have hk2:rows.length - (i+1)=k:=by omega
  rw [hk]
  have bl:(uss.map Zal++List.replicate (k+1) [C.lit (.int .i64 0)]).length=rows.length:=by simp;omega
  have bs:∀ X,(uss.map Zal++List.replicate (k+1) [C.lit (.int .i64 0)]).set i X=(uss.map Zal++[X])++List.replicate k [C.lit (.int .i64 0)]:=fun X=>ZeP _ _ _ _ _ (by simp [hn])
  have bg:(uss.map Zal++List.replicate (k+1) [C.lit (.int .i64 0)])[i]?=some [C.lit (.int .i64 0)]:=by rw [Tbn (by simp;omega),Tbo,if_pos (by simp;omega)]
  refine pE [1000] [1000] (ZtK (G':=fun w=>ZaJ w (rows.take (i+1)) E (uss++[[.int .i64 x0]])) (fun w h=>?_) (ZaJ.stable _ _ _)) ?_
  ·rw [tks hr];exact ZaJ.snoc (S2:=fun _=>False) h (Zad.lits (us:=[.int .i64 x0])) (fun _ h=>h) (fun _ h=>h.elim) (fun _ _ h=>h)
  (have F:=ai @hr (ai @hlt (ai @Zan (ai @hrb (ai @q1 (ai @bl (ai @bs (ai @bg (ai @wi (ai @hk2 (ai @Zzu ((@Tbr.{0,0}))))))))))));refine gG ?_;exact ⟨(i+1,uss++[[.int .i64 x0]],E),⟨hlt,by simp [hn]⟩,gw,gw,by omega⟩)
 ·obtain rfl:i=rows.length:=by omega
  have q1:((rows.length:Int) < (rows.length:Int))=False:=eq_false om
  rw [Nat.sub_self,List.replicate_zero,List.append_nil,Tap]
  (have F:=@q1;refine gG ?_;clear F)
  refine pS 2 fun a cap=>?_
  refine pE [2,1000] [1000] (Zd1 (fun w h=>h) (Own.stable _ _ _)) ?_
  exact (have F:=e0P;gTP (R:=Zce rows) [1000] ⟨.slice a uss.length cap,_,rfl,rfl,rfl⟩)
theorem Zqo {rows:List (List C)} (hok:Zam (Zab .int) rows) (hb:rows.length+bulkRows rows<=1048576):Con e0 12 [.one (.sl rows)] [.one (.sl rows)]:=ZuA (ZhS hok hb)
theorem Zqp {row:List C} (hok:Zae (Zab .decl) row) {left:Int} (h0:0<=left) (h1:left<=1048576):Con e0 268 [.agg row,.one (.lit (.int .i64 left))] [.one (.lit (.int .i64 (sub left (bulkRow row))))]:=by
 obtain ⟨r0,i1,rfl,g0,g1⟩:=ZeD hok
 rw [show bulkRow [.sl r0,.lit (.int .i64 i1)]=(r0.length+bulkRows r0) by simp only [bulkRow,Zb3];omega]
 refine gI 1047 Tryz.func268 ?_
 (have F:=@e0P;refine gG ?_;clear F)
 refine gB ?_
 (have F:=@e0P;refine gC (Zqn g0 (left:=left) om om) ?_;clear F)
 (have F:=@e0P;refine gR ?_;clear F)
 by_cases q:left < (((r0.length+bulkRows r0):Nat):Int)
 ·rw [ZaN (b:=(r0.length+bulkRows r0)) q]
  try rw [ZaN om]
  have q':((-1:Int) < 0)=True:=eq_true om
  (have F:=@q';refine gG ?_;exact gT)
 rw [Za8 (b:=(r0.length+bulkRows r0)) om]
 have q':(left - (((r0.length+bulkRows r0):Nat):Int) < 0)=False:=eq_false om
 (have F:=@q';refine gG ?_;clear F)
 obtain ⟨L0,e0⟩:∃ x,x=left - (((r0.length+bulkRows r0):Nat):Int):=⟨_,rfl⟩
 rw [<- e0]
 clear q'
 try rw [Za8 om,show left - (((r0.length+bulkRows r0):Nat):Int)=L0 by omega]
 (have F:=@e0P;refine gG ?_;exact gT)
theorem Zqq {row:List C} (hok:Zae (Zab .decl) row):Con e0 281 [.agg row,.agg row] [.one (.lit (.bool true))]:=by
 obtain ⟨r0,i1,rfl,g0,g1⟩:=ZeD hok
 refine gI 33823 Tryz.func281 ?_
 (have F:=@beq_self_eq_true.{0};refine gG ?_;clear F)
 refine gB ?_
 (have F:=@e0P;refine gC (Zi5 g0) ?_;clear F)
 (have F:=@e0P;refine gR ?_;clear F)
 (have F:=@beq_self_eq_true.{0};refine gG ?_;exact gT)
theorem ZmZ {row:List C} (hok:Zae (Zab .decl) row) (hb:bulkRow row<=1048576):ConP e0 274 [.agg row] [] (ZbF row):=by
 obtain ⟨r0,i1,rfl,g0,g1⟩:=ZeD hok
 simp only [bulkRow,Zb3] at hb
 refine gIP (ts:=[.cell 2 261]) [] 15 Tryz.func274 ?_
 (have F:=@e0P;refine gG ?_;clear F)
 refine gB ?_
 (have F:=@e0P;refine gCP [] [1000] (ZhS g0 om) ?_;clear F)
 rintro r pm ⟨u0,E0,rfl,k0,rfl⟩
 simp only [setA,retA,zipM,Taf,Tah]
 (have F:=@k0;refine gR ?_;clear F)
 (have F:=@k0;refine gG ?_;clear F)
 obtain ⟨E,hre⟩:∃ E,Zcy [.set E0 (fun w=>Own w (.sl r0) E0 u0)] [.set E (fun w=>Zad w [.sl r0,.lit (.int .i64 i1)] E [u0,.int .i64 i1])]:=⟨_,ZeO [.sl E0 r0 u0,.lits [.int .i64 i1]]⟩
 refine pE [1000] [1000] hre ?_
 have hm:=ZbF.mk (row:=[.sl r0,.lit (.int .i64 i1)]) (us:=[u0,.int .i64 i1]) (E:=E) rfl (by simp only [Zal,Tbq,List.map_nil,List.all_cons,List.all_nil,Bool.and_true,Tar];exact ⟨k0,rfl⟩)
 exact (have F:=e0P;gTP (R:=ZbF [.sl r0,.lit (.int .i64 i1)]) [1000] hm)
theorem Zm0 {rows:List (List C)} (hok:Zam (Zab .decl) rows) {left:Int} (h0:0<=left) (h1:left<=1048576):Con e0 192 [.one (.sl rows),.one (.lit (.int .i64 left))] [.one (.lit (.int .i64 (sub left (rows.length+bulkRows rows))))]:=by
 refine Zcg (by kernel_rfl) fun hm=>?_
 unfold maxLen at hm
 have w:IntKind.i64.wrap (left - (rows.length:Int))=left - (rows.length:Int):=IntWalk.i64_in _ om
 have hrb:ZaE 2 rows=true:=ZaX.2 hok.rowsLen
 refine gI 33589299 Tryz.func192 ?_
 by_cases q:left < (rows.length:Int)
 ·rw [ZaN om]
  have q':(left - (rows.length:Int) < 0)=True:=eq_true om
  (have F:=ai @w @q';refine gG ?_;exact gT)
 have q':(left - (rows.length:Int) < 0)=False:=eq_false om
 (have F:=ai @w @q';refine gG ?_;clear F)
 (have F:=ai @tk0 (ai @Ze6 (ai @Int.natCast_zero @Int.sub_zero));refine gL (ι:=Nat) [1,4,5,15,25] [] (fun x=>[(5,.d (.one (.lit (.int .i64 (x:Int))))),(1,.d (.one (.lit (.int .i64 (left - (rows.length:Int) - (bulkRows (rows.take x):Int))))))]) (fun x=>[]) (fun x=>x<=rows.length∧0<=left - (rows.length:Int) - (bulkRows (rows.take x):Int)) (fun x=>rows.length - x) (0) (⟨Taj _,by simp [bulkRows];omega⟩) (fun x hx=>?_);clear F)
 obtain ⟨hx,hl⟩:=hx
 by_cases hlt:x < rows.length
 ·obtain ⟨r,hr⟩:∃ r,rows[x]?=some r:=⟨_,Taa hlt⟩
  have hq:=hok.get hr
  obtain ⟨ln,tk,dr⟩:=hq.take (n:=2) rfl
  have okc:=hq.cells
  have q1:((x:Int) < (rows.length:Int))=True:=eq_true om
  have wi:=Zap (k:=x) om
  have hbt:=Zej hr
  have hbl:=ZcT rows (x+1)
  skip
  obtain ⟨l,hle⟩:∃ l,l=left - (rows.length:Int) - (bulkRows (rows.take x):Int):=⟨_,rfl⟩
  rw [<- hle]
  (have F:=ai @hr (ai @hlt (ai @Zan (ai @okc (ai @ln (ai @tk (ai @dr (ai @Zar (ai @hrb @q1))))))));refine gG ?_;clear F)
  refine gB ?_
  (have F:=ai @hr (ai @hlt (ai @Zan (ai @okc (ai @ln (ai @tk (ai @dr (ai @Zar (ai @hrb @q1))))))));refine gC (Zqp hq (left:=l) om om) ?_;clear F)
  (have F:=ai @hr (ai @hlt (ai @Zan (ai @okc (ai @ln (ai @tk (ai @dr (ai @Zar (ai @hrb @q1))))))));refine gR ?_;clear F)
  by_cases q:l < ((bulkRow r:Nat):Int)
  ·rw [ZaN (b:=bulkRow r) q,ZaN om]
   have q':((-1:Int) < 0)=True:=eq_true om
   (have F:=@q';refine gG ?_;exact gT)
  rw [Za8 (b:=bulkRow r) om]
  have q':(l - ((bulkRow r:Nat):Int) < 0)=False:=eq_false om
  have e:left - (rows.length:Int) - (bulkRows (rows.take (x+1)):Int)=l - ((bulkRow r:Nat):Int):=by omega
  (have F:=ai @q' (ai @wi @e);refine gG ?_;exact ⟨x+1,⟨hlt,by omega⟩,gw,gw,by omega⟩)
 ·obtain rfl:x=rows.length:=by omega
  have q1:((rows.length:Int) < (rows.length:Int))=False:=eq_false om
  rw [Tap] at hl ⊢
  rw [Za8 om,show left - ((rows.length+bulkRows rows:Nat):Int)=left - (rows.length:Int) - (bulkRows rows:Int) by omega]
  (have F:=@q1;refine gG ?_;exact gT)
theorem Zm1 {rows:List (List C)} (hok:Zam (Zab .decl) rows):Con e0 215 [.one (.sl rows),.one (.sl rows)] [.one (.lit (.bool true))]:=by
 refine Zcg (by kernel_rfl) fun hm=>?_
 unfold maxLen at hm
 have hrb:ZaE 2 rows=true:=ZaX.2 hok.rowsLen
 refine gI 67126323 Tryz.func215 ?_
 (have F:=@beq_self_eq_true.{0};refine gG ?_;clear F)
 (have F:=@e0P;refine gL (ι:=Nat) [4,5,14,26] [] (fun x=>[(5,.d (.one (.lit (.int .i64 (x:Int)))))]) (fun x=>[]) (fun x=>x<=rows.length) (fun x=>rows.length - x) (0) (Taj _) (fun x hx=>?_);clear F)
 by_cases hlt:x < rows.length
 ·obtain ⟨r,hr⟩:∃ r,rows[x]?=some r:=⟨_,Taa hlt⟩
  have hq:=hok.get hr
  obtain ⟨ln,tk,dr⟩:=hq.take (n:=2) rfl
  have okc:=hq.cells
  have q1:((x:Int) < (rows.length:Int))=True:=eq_true om
  have wi:=Zap (k:=x) om
  (have F:=ai @hr (ai @hlt (ai @Zan (ai @okc (ai @ln (ai @tk (ai @dr (ai @Zar (ai @hrb @q1))))))));refine gG ?_;clear F)
  refine gB ?_
  (have F:=ai @hr (ai @hlt (ai @Zan (ai @okc (ai @ln (ai @tk (ai @dr (ai @Zar (ai @hrb @q1))))))));refine gC (Zqq hq) ?_;clear F)
  (have F:=ai @hr (ai @hlt (ai @Zan (ai @okc (ai @ln (ai @tk (ai @dr (ai @Zar (ai @hrb @q1))))))));refine gR ?_;clear F)
  (have F:=@wi;refine gG ?_;exact ⟨x+1,hlt,gw,gw,by omega⟩)
 ·obtain rfl:x=rows.length:=by omega
  have q1:((rows.length:Int) < (rows.length:Int))=False:=eq_false om
  (have F:=@q1;refine gG ?_;exact gT)
theorem Zmg {rows:List (List C)} (hok:Zam (Zab .decl) rows) (hb:rows.length+bulkRows rows<=1048576):ConP e0 203 [.one (.sl rows)] [] (Zce rows):=by
 have hrb:ZaE 2 rows=true:=ZaX.2 hok.rowsLen
 have hmx:((rows.length:Int)<=(maxApp:Int))=True:=eq_true (by unfold maxApp;omega)
 refine gIP (ts:=[.slot 2]) [] 2077 Tryz.func203 ?_
 (have F:=ai @hmx @Tbt;refine gG ?_;clear F)
 refine pE [] [1000] ZeM ?_
 (have F:=ai @nla (ai @Nat.sub_zero @tk0);refine gL (ι:=Nat × List (List Value) × (Nat->Prop)) [3,4,11] [3,1000] (fun x=>[(4,.d (.one (.lit (.int .i64 (x.1:Int))))),(3,.buf 3)]) (fun x=>[(3,.buf none 261 2 (x.2.1.map Zal++List.replicate (rows.length - x.1) [C.sl [],C.lit (.int .i64 0)])),(1000,.set x.2.2 (fun w=>ZaJ w (rows.take x.1) x.2.2 x.2.1))]) (fun x=>x.1<=rows.length∧x.2.1.length=x.1) (fun x=>rows.length - x.1) ((0,[],fun _=>False)) (⟨Taj _,rfl⟩) (fun x hx=>?_);clear F)
 obtain ⟨i,uss,E⟩:=x
 obtain ⟨hi,hn⟩:=hx
 simp only at hi hn
 dsimp only
 by_cases hlt:i < rows.length
 ·obtain ⟨r,hr⟩:∃ r,rows[i]?=some r:=⟨_,Taa hlt⟩
  have hq:=hok.get hr
  obtain ⟨ln,tk,dr⟩:=hq.take (n:=2) rfl
  have okc:=hq.cells
  have q1:((i:Int) < (rows.length:Int))=True:=eq_true om
  have wi:=Zap (k:=i) om
  obtain ⟨k,hk⟩:∃ k,rows.length - i=k+1:=⟨rows.length - i - 1,by omega⟩
  have hk2:rows.length - (i+1)=k:=by omega
  rw [hk]
  have bl:(uss.map Zal++List.replicate (k+1) [C.sl [],C.lit (.int .i64 0)]).length=rows.length:=by simp;omega
  have bs:∀ X,(uss.map Zal++List.replicate (k+1) [C.sl [],C.lit (.int .i64 0)]).set i X=(uss.map Zal++[X])++List.replicate k [C.sl [],C.lit (.int .i64 0)]:=fun X=>ZeP _ _ _ _ _ (by simp [hn])
  have bg:(uss.map Zal++List.replicate (k+1) [C.sl [],C.lit (.int .i64 0)])[i]?=some [C.sl [],C.lit (.int .i64 0)]:=by rw [Tbn (by simp;omega),Tbo,if_pos (by simp;omega)]
  have hbr:=ZeQ hr
  (have F:=ai @hr (ai @hlt (ai @Zan (ai @okc (ai @ln (ai @tk (ai @dr (ai @Zar (ai @hrb (ai @q1 @bl)))))))));refine gG ?_;clear F)
  refine gB ?_
  (have F:=ai @hr (ai @hlt (ai @Zan (ai @okc (ai @ln (ai @tk (ai @dr (ai @Zar (ai @hrb (ai @q1 @bl)))))))));refine gCP [] [1001] (ZmZ hq om) ?_;clear F)
  rintro r' pm ⟨us,E2,rfl,hu,hok2,rfl⟩
  rw [ln] at hu
  obtain ⟨u0,u1,rfl⟩:=len2 hu
  have hok2:Zav (.lit u0)=true∧Zav (.lit u1)=true:=by simpa [Zal,Tar,and_assoc] using hok2
  obtain ⟨k0,k1⟩:=hok2
  have lr:Zal [u0,u1]=[.lit u0,.lit u1]:=rfl
  rw [lr]
  simp only [setA,retA,zipM,Taf,Tah]
  (have F:=ai @hlt (ai @bl (ai @bs (ai @bg (ai @k0 @k1))));refine gR ?_;clear F)
  refine pE [1000,1001] [1000] (ZiB (G':=fun w=>ZaJ w (rows.take (i+1)) (fun b=>E b∨E2 b) (uss++[[u0,u1]])) (fun w h1 h2 hd=>?_) (ZaJ.stable _ _ _)) ?_
  ·rw [tks hr];exact ZaJ.snoc h1 h2 (fun _ h=>.inl h) (fun _ h=>.inr h) hd
  (have F:=ai @bs (ai @wi (ai @hk2 (ai @lr ((@Tbr.{0,0})))));refine gG ?_;exact ⟨(i+1,uss++[[u0,u1]],fun b=>E b∨E2 b),⟨hlt,by simp [hn]⟩,gw,gw,by omega⟩)
 ·obtain rfl:i=rows.length:=by omega
  have q1:((rows.length:Int) < (rows.length:Int))=False:=eq_false om
  rw [Nat.sub_self,List.replicate_zero,List.append_nil,Tap]
  (have F:=@q1;refine gG ?_;clear F)
  refine pS 2 fun a cap=>?_
  refine pE [2,1000] [1000] (Zd1 (fun w h=>h) (Own.stable _ _ _)) ?_
  exact (have F:=e0P;gTP (R:=Zce rows) [1000] ⟨.slice a uss.length cap,_,rfl,rfl,rfl⟩)
theorem ZvH {row:List C} (hok:Zae (Zab .op) row) {left:Int} (h0:0<=left) (h1:left<=1048576):Con e0 114 [.agg row,.one (.lit (.int .i64 left))] [.one (.lit (.int .i64 (sub left (bulkRow row))))]:=by
 obtain ⟨t0,r1,p2,p3,i4,rfl,g0,g1,g2,g3,g4⟩:=ZfW hok
 rw [show bulkRow [.lit (.string t0),.sl r1,.lit (.bool p2),.lit (.bool p3),.lit (.int .i64 i4)]=t0.size+(r1.length+bulkRows r1) by simp only [bulkRow,Zb3];omega]
 refine gI 133143 Tryz.func114 ?_
 have hs:=g0
 unfold maxLen at hs
 have w:IntKind.i64.wrap (left - (t0.size:Int))=left - (t0.size:Int):=IntWalk.i64_in _ om
 clear hs
 by_cases q:left < (t0.size:Int)
 ·rw [ZaN om]
  have q':(left - (t0.size:Int) < 0)=True:=eq_true om
  (have F:=ai @w @q';refine gG ?_;exact gT)
 have q':(left - (t0.size:Int) < 0)=False:=eq_false om
 (have F:=ai @w @q';refine gG ?_;clear F)
 obtain ⟨L0,e0⟩:∃ x,x=left - (t0.size:Int):=⟨_,rfl⟩
 rw [<- e0]
 clear w q'
 (have F:=@e0P;refine gG ?_;clear F)
 refine gB ?_
 (have F:=@e0P;refine gC (Zm0 g1 (left:=L0) om om) ?_;clear F)
 (have F:=@e0P;refine gR ?_;clear F)
 by_cases q:L0 < (((r1.length+bulkRows r1):Nat):Int)
 ·rw [ZaN (b:=(r1.length+bulkRows r1)) q]
  try rw [ZaN om]
  have q':((-1:Int) < 0)=True:=eq_true om
  (have F:=@q';refine gG ?_;exact gT)
 rw [Za8 (b:=(r1.length+bulkRows r1)) om]
 have q':(L0 - (((r1.length+bulkRows r1):Nat):Int) < 0)=False:=eq_false om
 (have F:=@q';refine gG ?_;clear F)
 obtain ⟨L1,e1⟩:∃ x,x=L0 - (((r1.length+bulkRows r1):Nat):Int):=⟨_,rfl⟩
 rw [<- e1]
 clear q'
 try rw [Za8 om,show left - ((t0.size+(r1.length+bulkRows r1):Nat):Int)=L1 by omega]
 (have F:=@e0P;refine gG ?_;exact gT)
theorem ZvI {row:List C} (hok:Zae (Zab .op) row):Con e0 135 [.agg row,.agg row] [.one (.lit (.bool true))]:=by
 obtain ⟨t0,r1,p2,p3,i4,rfl,g0,g1,g2,g3,g4⟩:=ZfW hok
 refine gI 1108378143 Tryz.func135 ?_
 (have F:=@beq_self_eq_true.{0};refine gG ?_;clear F)
 refine gB ?_
 (have F:=@e0P;refine gC (Zm1 g1) ?_;clear F)
 (have F:=@e0P;refine gR ?_;clear F)
 (have F:=@beq_self_eq_true.{0};refine gG ?_;exact gT)
theorem ZuC {row:List C} (hok:Zae (Zab .op) row) (hb:bulkRow row<=1048576):ConP e0 124 [.agg row] [] (ZbF row):=by
 obtain ⟨t0,r1,p2,p3,i4,rfl,g0,g1,g2,g3,g4⟩:=ZfW hok
 simp only [bulkRow,Zb3] at hb
 refine gIP (ts:=[.cell 2 172]) [] 15 Tryz.func124 ?_
 (have F:=@e0P;refine gG ?_;clear F)
 refine gB ?_
 (have F:=@e0P;refine gCP [] [1000] (Zmg g1 om) ?_;clear F)
 rintro r pm ⟨u1,E1,rfl,k1,rfl⟩
 simp only [setA,retA,zipM,Taf,Tah]
 (have F:=@k1;refine gR ?_;clear F)
 (have F:=@k1;refine gG ?_;clear F)
 obtain ⟨E,hre⟩:∃ E,Zcy [.set E1 (fun w=>Own w (.sl r1) E1 u1)] [.set E (fun w=>Zad w [.lit (.string t0),.sl r1,.lit (.bool p2),.lit (.bool p3),.lit (.int .i64 i4)] E [.string t0,u1,.bool p2,.bool p3,.int .i64 i4])]:=⟨_,ZeO [.lits [.string t0],.sl E1 r1 u1,.lits [.bool p2,.bool p3,.int .i64 i4]]⟩
 refine pE [1000] [1000] hre ?_
 have hm:=ZbF.mk (row:=[.lit (.string t0),.sl r1,.lit (.bool p2),.lit (.bool p3),.lit (.int .i64 i4)]) (us:=[.string t0,u1,.bool p2,.bool p3,.int .i64 i4]) (E:=E) rfl (by simp only [Zal,Tbq,List.map_nil,List.all_cons,List.all_nil,Bool.and_true,Tar];exact ⟨rfl,k1,rfl,rfl,rfl⟩)
 exact (have F:=e0P;gTP (R:=ZbF [.lit (.string t0),.sl r1,.lit (.bool p2),.lit (.bool p3),.lit (.int .i64 i4)]) [1000] hm)
theorem ZuD {rows:List (List C)} (hok:Zam (Zab .op) rows) {left:Int} (h0:0<=left) (h1:left<=1048576):Con e0 48 [.one (.sl rows),.one (.lit (.int .i64 left))] [.one (.lit (.int .i64 (sub left (rows.length+bulkRows rows))))]:=by
 refine Zcg (by kernel_rfl) fun hm=>?_
 unfold maxLen at hm
 have w:IntKind.i64.wrap (left - (rows.length:Int))=left - (rows.length:Int):=IntWalk.i64_in _ om
 have hrb:ZaE 5 rows=true:=ZaX.2 hok.rowsLen
 refine gI 33589299 Tryz.func48 ?_
 by_cases q:left < (rows.length:Int)
 ·rw [ZaN om]
  have q':(left - (rows.length:Int) < 0)=True:=eq_true om
  (have F:=ai @w @q';refine gG ?_;exact gT)
 have q':(left - (rows.length:Int) < 0)=False:=eq_false om
 (have F:=ai @w @q';refine gG ?_;clear F)
 (have F:=ai @tk0 (ai @Ze6 (ai @Int.natCast_zero @Int.sub_zero));refine gL (ι:=Nat) [1,4,5,15,25] [] (fun x=>[(5,.d (.one (.lit (.int .i64 (x:Int))))),(1,.d (.one (.lit (.int .i64 (left - (rows.length:Int) - (bulkRows (rows.take x):Int))))))]) (fun x=>[]) (fun x=>x<=rows.length∧0<=left - (rows.length:Int) - (bulkRows (rows.take x):Int)) (fun x=>rows.length - x) (0) (⟨Taj _,by simp [bulkRows];omega⟩) (fun x hx=>?_);clear F)
 obtain ⟨hx,hl⟩:=hx
 by_cases hlt:x < rows.length
 ·obtain ⟨r,hr⟩:∃ r,rows[x]?=some r:=⟨_,Taa hlt⟩
  have hq:=hok.get hr
  obtain ⟨ln,tk,dr⟩:=hq.take (n:=5) rfl
  have okc:=hq.cells
  have q1:((x:Int) < (rows.length:Int))=True:=eq_true om
  have wi:=Zap (k:=x) om
  have hbt:=Zej hr
  have hbl:=ZcT rows (x+1)
  skip
  obtain ⟨l,hle⟩:∃ l,l=left - (rows.length:Int) - (bulkRows (rows.take x):Int):=⟨_,rfl⟩
  rw [<- hle]
  (have F:=ai @hr (ai @hlt (ai @Zan (ai @okc (ai @ln (ai @tk (ai @dr (ai @Zar (ai @hrb @q1))))))));refine gG ?_;clear F)
  refine gB ?_
  (have F:=ai @hr (ai @hlt (ai @Zan (ai @okc (ai @ln (ai @tk (ai @dr (ai @Zar (ai @hrb @q1))))))));refine gC (ZvH hq (left:=l) om om) ?_;clear F)
  (have F:=ai @hr (ai @hlt (ai @Zan (ai @okc (ai @ln (ai @tk (ai @dr (ai @Zar (ai @hrb @q1))))))));refine gR ?_;clear F)
  by_cases q:l < ((bulkRow r:Nat):Int)
  ·rw [ZaN (b:=bulkRow r) q,ZaN om]
   have q':((-1:Int) < 0)=True:=eq_true om
   (have F:=@q';refine gG ?_;exact gT)
  rw [Za8 (b:=bulkRow r) om]
  have q':(l - ((bulkRow r:Nat):Int) < 0)=False:=eq_false om
  have e:left - (rows.length:Int) - (bulkRows (rows.take (x+1)):Int)=l - ((bulkRow r:Nat):Int):=by omega
  (have F:=ai @q' (ai @wi @e);refine gG ?_;exact ⟨x+1,⟨hlt,by omega⟩,gw,gw,by omega⟩)
 ·obtain rfl:x=rows.length:=by omega
  have q1:((rows.length:Int) < (rows.length:Int))=False:=eq_false om
  rw [Tap] at hl ⊢
  rw [Za8 om,show left - ((rows.length+bulkRows rows:Nat):Int)=left - (rows.length:Int) - (bulkRows rows:Int) by omega]
  (have F:=@q1;refine gG ?_;exact gT)
theorem ZuE {rows:List (List C)} (hok:Zam (Zab .op) rows):Con e0 62 [.one (.sl rows),.one (.sl rows)] [.one (.lit (.bool true))]:=by
 refine Zcg (by kernel_rfl) fun hm=>?_
 unfold maxLen at hm
 have hrb:ZaE 5 rows=true:=ZaX.2 hok.rowsLen
 refine gI 67126323 Tryz.func62 ?_
 (have F:=@beq_self_eq_true.{0};refine gG ?_;clear F)
 (have F:=@e0P;refine gL (ι:=Nat) [4,5,14,26] [] (fun x=>[(5,.d (.one (.lit (.int .i64 (x:Int)))))]) (fun x=>[]) (fun x=>x<=rows.length) (fun x=>rows.length - x) (0) (Taj _) (fun x hx=>?_);clear F)
 by_cases hlt:x < rows.length
 ·obtain ⟨r,hr⟩:∃ r,rows[x]?=some r:=⟨_,Taa hlt⟩
  have hq:=hok.get hr
  obtain ⟨ln,tk,dr⟩:=hq.take (n:=5) rfl
  have okc:=hq.cells
  have q1:((x:Int) < (rows.length:Int))=True:=eq_true om
  have wi:=Zap (k:=x) om
  (have F:=ai @hr (ai @hlt (ai @Zan (ai @okc (ai @ln (ai @tk (ai @dr (ai @Zar (ai @hrb @q1))))))));refine gG ?_;clear F)
  refine gB ?_
  (have F:=ai @hr (ai @hlt (ai @Zan (ai @okc (ai @ln (ai @tk (ai @dr (ai @Zar (ai @hrb @q1))))))));refine gC (ZvI hq) ?_;clear F)
  (have F:=ai @hr (ai @hlt (ai @Zan (ai @okc (ai @ln (ai @tk (ai @dr (ai @Zar (ai @hrb @q1))))))));refine gR ?_;clear F)
  (have F:=@wi;refine gG ?_;exact ⟨x+1,hlt,gw,gw,by omega⟩)
 ·obtain rfl:x=rows.length:=by omega
  have q1:((rows.length:Int) < (rows.length:Int))=False:=eq_false om
  (have F:=@q1;refine gG ?_;exact gT)
theorem Zqr {rows:List (List C)} (hok:Zam (Zab .op) rows) (hb:rows.length+bulkRows rows<=1048576):ConP e0 54 [.one (.sl rows)] [] (Zce rows):=by
 have hrb:ZaE 5 rows=true:=ZaX.2 hok.rowsLen
 have hmx:((rows.length:Int)<=(maxApp:Int))=True:=eq_true (by unfold maxApp;omega)
 refine gIP (ts:=[.slot 2]) [] 2077 Tryz.func54 ?_
 (have F:=ai @hmx @Tbt;refine gG ?_;clear F)
 refine pE [] [1000] ZeM ?_
 (have F:=ai @nla (ai @Nat.sub_zero @tk0);refine gL (ι:=Nat × List (List Value) × (Nat->Prop)) [3,4,11] [3,1000] (fun x=>[(4,.d (.one (.lit (.int .i64 (x.1:Int))))),(3,.buf 3)]) (fun x=>[(3,.buf none 172 5 (x.2.1.map Zal++List.replicate (rows.length - x.1) [C.lit (.string .empty),C.sl [],C.lit (.bool false),C.lit (.bool false),C.lit (.int .i64 0)])),(1000,.set x.2.2 (fun w=>ZaJ w (rows.take x.1) x.2.2 x.2.1))]) (fun x=>x.1<=rows.length∧x.2.1.length=x.1) (fun x=>rows.length - x.1) ((0,[],fun _=>False)) (⟨Taj _,rfl⟩) (fun x hx=>?_);clear F)
 obtain ⟨i,uss,E⟩:=x
 obtain ⟨hi,hn⟩:=hx
 simp only at hi hn
 dsimp only
 by_cases hlt:i < rows.length
 ·obtain ⟨r,hr⟩:∃ r,rows[i]?=some r:=⟨_,Taa hlt⟩
  have hq:=hok.get hr
  obtain ⟨ln,tk,dr⟩:=hq.take (n:=5) rfl
  have okc:=hq.cells
  have q1:((i:Int) < (rows.length:Int))=True:=eq_true om
  have wi:=Zap (k:=i) om
  obtain ⟨k,hk⟩:∃ k,rows.length - i=k+1:=⟨rows.length - i - 1,by omega⟩
  have hk2:rows.length - (i+1)=k:=by omega
  rw [hk]
  have bl:(uss.map Zal++List.replicate (k+1) [C.lit (.string .empty),C.sl [],C.lit (.bool false),C.lit (.bool false),C.lit (.int .i64 0)]).length=rows.length:=by simp;omega
  have bs:∀ X,(uss.map Zal++List.replicate (k+1) [C.lit (.string .empty),C.sl [],C.lit (.bool false),C.lit (.bool false),C.lit (.int .i64 0)]).set i X=(uss.map Zal++[X])++List.replicate k [C.lit (.string .empty),C.sl [],C.lit (.bool false),C.lit (.bool false),C.lit (.int .i64 0)]:=fun X=>ZeP _ _ _ _ _ (by simp [hn])
  have bg:(uss.map Zal++List.replicate (k+1) [C.lit (.string .empty),C.sl [],C.lit (.bool false),C.lit (.bool false),C.lit (.int .i64 0)])[i]?=some [C.lit (.string .empty),C.sl [],C.lit (.bool false),C.lit (.bool false),C.lit (.int .i64 0)]:=by rw [Tbn (by simp;omega),Tbo,if_pos (by simp;omega)]
  have hbr:=ZeQ hr
  (have F:=ai @hr (ai @hlt (ai @Zan (ai @okc (ai @ln (ai @tk (ai @dr (ai @Zar (ai @hrb (ai @q1 @bl)))))))));refine gG ?_;clear F)
  refine gB ?_
  (have F:=ai @hr (ai @hlt (ai @Zan (ai @okc (ai @ln (ai @tk (ai @dr (ai @Zar (ai @hrb (ai @q1 @bl)))))))));refine gCP [] [1001] (ZuC hq om) ?_;clear F)
  rintro r' pm ⟨us,E2,rfl,hu,hok2,rfl⟩
  rw [ln] at hu
  obtain ⟨u0,u1,u2,u3,u4,rfl⟩:=len5 hu
  have hok2:Zav (.lit u0)=true∧Zav (.lit u1)=true∧Zav (.lit u2)=true∧Zav (.lit u3)=true∧Zav (.lit u4)=true:=by simpa [Zal,Tar,and_assoc] using hok2
  obtain ⟨k0,k1,k2,k3,k4⟩:=hok2
  have lr:Zal [u0,u1,u2,u3,u4]=[.lit u0,.lit u1,.lit u2,.lit u3,.lit u4]:=rfl
  rw [lr]
  simp only [setA,retA,zipM,Taf,Tah]
  (have F:=ai @hlt (ai @bl (ai @bs (ai @bg (ai @k0 (ai @k1 (ai @k2 (ai @k3 @k4)))))));refine gR ?_;clear F)
  refine pE [1000,1001] [1000] (ZiB (G':=fun w=>ZaJ w (rows.take (i+1)) (fun b=>E b∨E2 b) (uss++[[u0,u1,u2,u3,u4]])) (fun w h1 h2 hd=>?_) (ZaJ.stable _ _ _)) ?_
  ·rw [tks hr];exact ZaJ.snoc h1 h2 (fun _ h=>.inl h) (fun _ h=>.inr h) hd
  (have F:=ai @bs (ai @wi (ai @hk2 (ai @lr ((@Tbr.{0,0})))));refine gG ?_;exact ⟨(i+1,uss++[[u0,u1,u2,u3,u4]],fun b=>E b∨E2 b),⟨hlt,by simp [hn]⟩,gw,gw,by omega⟩)
 ·obtain rfl:i=rows.length:=by omega
  have q1:((rows.length:Int) < (rows.length:Int))=False:=eq_false om
  rw [Nat.sub_self,List.replicate_zero,List.append_nil,Tap]
  (have F:=@q1;refine gG ?_;clear F)
  refine pS 2 fun a cap=>?_
  refine pE [2,1000] [1000] (Zd1 (fun w h=>h) (Own.stable _ _ _)) ?_
  exact (have F:=e0P;gTP (R:=Zce rows) [1000] ⟨.slice a uss.length cap,_,rfl,rfl,rfl⟩)
theorem ZkB {rows:List (List C)} (hok:Zam (Zab .str) rows) {left:Int} (h0:0<=left) (h1:left<=1048576):Con e0 112 [.one (.sl rows),.one (.lit (.int .i64 left))] [.one (.lit (.int .i64 (sub left (rows.length+bulkRows rows))))]:=by
 refine Zcg (by kernel_rfl) fun hm=>?_
 unfold maxLen at hm
 have w:IntKind.i64.wrap (left - (rows.length:Int))=left - (rows.length:Int):=IntWalk.i64_in _ om
 have hrb:ZaE 1 rows=true:=ZaX.2 hok.rowsLen
 refine gI 67143731 Tryz.func112 ?_
 by_cases q:left < (rows.length:Int)
 ·rw [ZaN om]
  have q':(left - (rows.length:Int) < 0)=True:=eq_true om
  (have F:=ai @w @q';refine gG ?_;exact gT)
 have q':(left - (rows.length:Int) < 0)=False:=eq_false om
 (have F:=ai @w @q';refine gG ?_;clear F)
 (have F:=ai @tk0 (ai @Ze6 (ai @Int.natCast_zero @Int.sub_zero));refine gL (ι:=Nat) [1,4,5,15,26] [] (fun x=>[(5,.d (.one (.lit (.int .i64 (x:Int))))),(1,.d (.one (.lit (.int .i64 (left - (rows.length:Int) - (bulkRows (rows.take x):Int))))))]) (fun x=>[]) (fun x=>x<=rows.length∧0<=left - (rows.length:Int) - (bulkRows (rows.take x):Int)) (fun x=>rows.length - x) (0) (⟨Taj _,by simp [bulkRows];omega⟩) (fun x hx=>?_);clear F)
 obtain ⟨hx,hl⟩:=hx
 by_cases hlt:x < rows.length
 ·obtain ⟨r,hr⟩:∃ r,rows[x]?=some r:=⟨_,Taa hlt⟩
  obtain ⟨x0,rfl,g0⟩:=ZdI (hok.get hr)
  have q1:((x:Int) < (rows.length:Int))=True:=eq_true om
  have wi:=Zap (k:=x) om
  have hbt:=Zej hr
  have hbl:=ZcT rows (x+1)
  have hbe:bulkRow [.lit (.string x0)]=x0.size:=by simp [bulkRow,Zb3]
  obtain ⟨l,hle⟩:∃ l,l=left - (rows.length:Int) - (bulkRows (rows.take x):Int):=⟨_,rfl⟩
  rw [<- hle]
  have hs:=g0
  unfold maxLen at hs
  have w:IntKind.i64.wrap (l - (x0.size:Int))=l - (x0.size:Int):=IntWalk.i64_in _ om
  by_cases q:l < (x0.size:Int)
  ·rw [ZaN om]
   have q':(l - (x0.size:Int) < 0)=True:=eq_true om
   (have F:=ai @w (ai @q' (ai @hr (ai @hlt (ai @Zan (ai @hrb @q1)))));refine gG ?_;exact gT)
  have q':(l - (x0.size:Int) < 0)=False:=eq_false om
  (have F:=ai @w (ai @q' (ai @hr (ai @hlt (ai @Zan (ai @hrb @q1)))));refine gG ?_;clear F)
  have e:left - (rows.length:Int) - (bulkRows (rows.take (x+1)):Int)=l - ((x0.size:Nat):Int):=by omega
  (have F:=ai @q' (ai @wi @e);refine gG ?_;exact ⟨x+1,⟨hlt,by omega⟩,gw,gw,by omega⟩)
 ·obtain rfl:x=rows.length:=by omega
  have q1:((rows.length:Int) < (rows.length:Int))=False:=eq_false om
  rw [Tap] at hl ⊢
  rw [Za8 om,show left - ((rows.length+bulkRows rows:Nat):Int)=left - (rows.length:Int) - (bulkRows rows:Int) by omega]
  (have F:=@q1;refine gG ?_;exact gT)
theorem ZkC {rows:List (List C)} (hok:Zam (Zab .str) rows):Con e0 133 [.one (.sl rows),.one (.sl rows)] [.one (.lit (.bool true))]:=by
 refine Zcg (by kernel_rfl) fun hm=>?_
 unfold maxLen at hm
 have hrb:ZaE 1 rows=true:=ZaX.2 hok.rowsLen
 refine gI 33571891 Tryz.func133 ?_
 (have F:=@beq_self_eq_true.{0};refine gG ?_;clear F)
 (have F:=@e0P;refine gL (ι:=Nat) [4,5,14,25] [] (fun x=>[(5,.d (.one (.lit (.int .i64 (x:Int)))))]) (fun x=>[]) (fun x=>x<=rows.length) (fun x=>rows.length - x) (0) (Taj _) (fun x hx=>?_);clear F)
 by_cases hlt:x < rows.length
 ·obtain ⟨r,hr⟩:∃ r,rows[x]?=some r:=⟨_,Taa hlt⟩
  obtain ⟨x0,rfl,g0⟩:=ZdI (hok.get hr)
  have q1:((x:Int) < (rows.length:Int))=True:=eq_true om
  have wi:=Zap (k:=x) om
  (have F:=ai @beq_self_eq_true.{0} (ai @wi (ai @hr (ai @hlt (ai @Zan (ai @hrb @q1)))));refine gG ?_;exact ⟨x+1,hlt,gw,gw,by omega⟩)
 ·obtain rfl:x=rows.length:=by omega
  have q1:((rows.length:Int) < (rows.length:Int))=False:=eq_false om
  (have F:=@q1;refine gG ?_;exact gT)
theorem ZjB {rows:List (List C)} (hok:Zam (Zab .str) rows) (hb:rows.length+bulkRows rows<=1048576):ConP e0 122 [.one (.sl rows)] [] (Zce rows):=by
 have hrb:ZaE 1 rows=true:=ZaX.2 hok.rowsLen
 have hmx:((rows.length:Int)<=(maxApp:Int))=True:=eq_true (by unfold maxApp;omega)
 refine gIP (ts:=[.slot 2]) [] 2077 Tryz.func122 ?_
 (have F:=ai @hmx @Tbt;refine gG ?_;clear F)
 refine pE [] [1000] ZeM ?_
 (have F:=ai @nla (ai @Nat.sub_zero @tk0);refine gL (ι:=Nat × List (List Value) × (Nat->Prop)) [3,4,11] [3,1000] (fun x=>[(4,.d (.one (.lit (.int .i64 (x.1:Int))))),(3,.buf 3)]) (fun x=>[(3,.buf none 9 1 (x.2.1.map Zal++List.replicate (rows.length - x.1) [C.lit (.string .empty)])),(1000,.set x.2.2 (fun w=>ZaJ w (rows.take x.1) x.2.2 x.2.1))]) (fun x=>x.1<=rows.length∧x.2.1.length=x.1) (fun x=>rows.length - x.1) ((0,[],fun _=>False)) (⟨Taj _,rfl⟩) (fun x hx=>?_);clear F)
 obtain ⟨i,uss,E⟩:=x
 obtain ⟨hi,hn⟩:=hx
 simp only at hi hn
 dsimp only
 by_cases hlt:i < rows.length
 ·obtain ⟨r,hr⟩:∃ r,rows[i]?=some r:=⟨_,Taa hlt⟩
  obtain ⟨x0,rfl,g0⟩:=ZdI (hok.get hr)
  have q1:((i:Int) < (rows.length:Int))=True:=eq_true om
  have wi:=Zap (k:=i) om
  obtain ⟨k,hk⟩:∃ k,rows.length - i=k+1:=⟨rows.length - i - 1,by omega⟩
  have hk2:rows.length - (i+1)=k:=by omega
  rw [hk]
  have bl:(uss.map Zal++List.replicate (k+1) [C.lit (.string .empty)]).length=rows.length:=by simp;omega
  have bs:∀ X,(uss.map Zal++List.replicate (k+1) [C.lit (.string .empty)]).set i X=(uss.map Zal++[X])++List.replicate k [C.lit (.string .empty)]:=fun X=>ZeP _ _ _ _ _ (by simp [hn])
  have bg:(uss.map Zal++List.replicate (k+1) [C.lit (.string .empty)])[i]?=some [C.lit (.string .empty)]:=by rw [Tbn (by simp;omega),Tbo,if_pos (by simp;omega)]
  refine pE [1000] [1000] (ZtK (G':=fun w=>ZaJ w (rows.take (i+1)) E (uss++[[.string x0]])) (fun w h=>?_) (ZaJ.stable _ _ _)) ?_
  ·rw [tks hr];exact ZaJ.snoc (S2:=fun _=>False) h (Zad.lits (us:=[.string x0])) (fun _ h=>h) (fun _ h=>h.elim) (fun _ _ h=>h)
  (have F:=ai @hr (ai @hlt (ai @Zan (ai @hrb (ai @q1 (ai @bl (ai @bs (ai @bg (ai @wi (ai @hk2 (ai @Zzu ((@Tbr.{0,0}))))))))))));refine gG ?_;exact ⟨(i+1,uss++[[.string x0]],E),⟨hlt,by simp [hn]⟩,gw,gw,by omega⟩)
 ·obtain rfl:i=rows.length:=by omega
  have q1:((rows.length:Int) < (rows.length:Int))=False:=eq_false om
  rw [Nat.sub_self,List.replicate_zero,List.append_nil,Tap]
  (have F:=@q1;refine gG ?_;clear F)
  refine pS 2 fun a cap=>?_
  refine pE [2,1000] [1000] (Zd1 (fun w h=>h) (Own.stable _ _ _)) ?_
  exact (have F:=e0P;gTP (R:=Zce rows) [1000] ⟨.slice a uss.length cap,_,rfl,rfl,rfl⟩)
theorem ZuF {row:List C} (hok:Zae (Zab .sub) row):Con e0 214 [.agg row,.agg row] [.one (.lit (.bool true))]:=by
 obtain ⟨i0,i1,rfl,g0,g1⟩:=ZgM hok
 refine gI 16927 Tryz.func214 ?_
 (have F:=@beq_self_eq_true.{0};refine gG ?_;exact gT)
theorem Zqs {row:List C} (hok:Zae (Zab .sub) row) (hb:bulkRow row<=1048576):ConP e0 202 [.agg row] [] (ZbF row):=by
 obtain ⟨i0,i1,rfl,g0,g1⟩:=ZgM hok
 simp only [bulkRow,Zb3] at hb
 refine gIP (ts:=[.cell 2 252]) [] 15 Tryz.func202 ?_
 (have F:=@e0P;refine gG ?_;clear F)
 obtain ⟨E,hre⟩:∃ E,Zcy [] [.set E (fun w=>Zad w [.lit (.int .i64 i0),.lit (.int .i64 i1)] E [.int .i64 i0,.int .i64 i1])]:=⟨_,ZeO [.lits [.int .i64 i0,.int .i64 i1]]⟩
 refine pE [] [1000] hre ?_
 have hm:=ZbF.mk (row:=[.lit (.int .i64 i0),.lit (.int .i64 i1)]) (us:=[.int .i64 i0,.int .i64 i1]) (E:=E) rfl (by simp only [Zal,Tbq,List.map_nil,List.all_cons,List.all_nil,Bool.and_true,Tar];exact ⟨rfl,rfl⟩)
 exact (have F:=e0P;gTP (R:=ZbF [.lit (.int .i64 i0),.lit (.int .i64 i1)]) [1000] hm)
theorem Zqt {rows:List (List C)} (hok:Zam (Zab .sub) rows) {left:Int} (h0:0<=left) (h1:left<=1048576):Con e0 113 [.one (.sl rows),.one (.lit (.int .i64 left))] [.one (.lit (.int .i64 (sub left (rows.length+bulkRows rows))))]:=by
 refine Zcg (by kernel_rfl) fun hm=>?_
 unfold maxLen at hm
 have w:IntKind.i64.wrap (left - (rows.length:Int))=left - (rows.length:Int):=IntWalk.i64_in _ om
 rw [ZkS (fs:=Zab .sub) (by rfl) hok,Nat.add_zero]
 refine gI 1043 Tryz.func113 ?_
 by_cases q:left < (rows.length:Int)
 ·rw [ZaN om]
  have q':(left - (rows.length:Int) < 0)=True:=eq_true om
  (have F:=ai @w @q';refine gG ?_;exact gT)
 have q':(left - (rows.length:Int) < 0)=False:=eq_false om
 rw [Za8 om]
 (have F:=ai @w @q';refine gG ?_;exact gT)
theorem Zqu {rows:List (List C)} (hok:Zam (Zab .sub) rows):Con e0 134 [.one (.sl rows),.one (.sl rows)] [.one (.lit (.bool true))]:=by
 refine Zcg (by kernel_rfl) fun hm=>?_
 unfold maxLen at hm
 have hrb:ZaE 2 rows=true:=ZaX.2 hok.rowsLen
 refine gI 67126323 Tryz.func134 ?_
 (have F:=@beq_self_eq_true.{0};refine gG ?_;clear F)
 (have F:=@e0P;refine gL (ι:=Nat) [4,5,14,26] [] (fun x=>[(5,.d (.one (.lit (.int .i64 (x:Int)))))]) (fun x=>[]) (fun x=>x<=rows.length) (fun x=>rows.length - x) (0) (Taj _) (fun x hx=>?_);clear F)
 by_cases hlt:x < rows.length
 ·obtain ⟨r,hr⟩:∃ r,rows[x]?=some r:=⟨_,Taa hlt⟩
  have hq:=hok.get hr
  obtain ⟨ln,tk,dr⟩:=hq.take (n:=2) rfl
  have okc:=hq.cells
  have q1:((x:Int) < (rows.length:Int))=True:=eq_true om
  have wi:=Zap (k:=x) om
  (have F:=ai @hr (ai @hlt (ai @Zan (ai @okc (ai @ln (ai @tk (ai @dr (ai @Zar (ai @hrb @q1))))))));refine gG ?_;clear F)
  refine gB ?_
  (have F:=ai @hr (ai @hlt (ai @Zan (ai @okc (ai @ln (ai @tk (ai @dr (ai @Zar (ai @hrb @q1))))))));refine gC (ZuF hq) ?_;clear F)
  (have F:=ai @hr (ai @hlt (ai @Zan (ai @okc (ai @ln (ai @tk (ai @dr (ai @Zar (ai @hrb @q1))))))));refine gR ?_;clear F)
  (have F:=@wi;refine gG ?_;exact ⟨x+1,hlt,gw,gw,by omega⟩)
 ·obtain rfl:x=rows.length:=by omega
  have q1:((rows.length:Int) < (rows.length:Int))=False:=eq_false om
  (have F:=@q1;refine gG ?_;exact gT)
theorem Zm2 {rows:List (List C)} (hok:Zam (Zab .sub) rows) (hb:rows.length+bulkRows rows<=1048576):ConP e0 123 [.one (.sl rows)] [] (Zce rows):=by
 have hrb:ZaE 2 rows=true:=ZaX.2 hok.rowsLen
 have hmx:((rows.length:Int)<=(maxApp:Int))=True:=eq_true (by unfold maxApp;omega)
 refine gIP (ts:=[.slot 2]) [] 2077 Tryz.func123 ?_
 (have F:=ai @hmx @Tbt;refine gG ?_;clear F)
 refine pE [] [1000] ZeM ?_
 (have F:=ai @nla (ai @Nat.sub_zero @tk0);refine gL (ι:=Nat × List (List Value) × (Nat->Prop)) [3,4,11] [3,1000] (fun x=>[(4,.d (.one (.lit (.int .i64 (x.1:Int))))),(3,.buf 3)]) (fun x=>[(3,.buf none 252 2 (x.2.1.map Zal++List.replicate (rows.length - x.1) [C.lit (.int .i64 0),C.lit (.int .i64 0)])),(1000,.set x.2.2 (fun w=>ZaJ w (rows.take x.1) x.2.2 x.2.1))]) (fun x=>x.1<=rows.length∧x.2.1.length=x.1) (fun x=>rows.length - x.1) ((0,[],fun _=>False)) (⟨Taj _,rfl⟩) (fun x hx=>?_);clear F)
 obtain ⟨i,uss,E⟩:=x
 obtain ⟨hi,hn⟩:=hx
 simp only at hi hn
 dsimp only
 by_cases hlt:i < rows.length
 ·obtain ⟨r,hr⟩:∃ r,rows[i]?=some r:=⟨_,Taa hlt⟩
  have hq:=hok.get hr
  obtain ⟨ln,tk,dr⟩:=hq.take (n:=2) rfl
  have okc:=hq.cells
  have q1:((i:Int) < (rows.length:Int))=True:=eq_true om
  have wi:=Zap (k:=i) om
  obtain ⟨k,hk⟩:∃ k,rows.length - i=k+1:=⟨rows.length - i - 1,by omega⟩
  have hk2:rows.length - (i+1)=k:=by omega
  rw [hk]
  have bl:(uss.map Zal++List.replicate (k+1) [C.lit (.int .i64 0),C.lit (.int .i64 0)]).length=rows.length:=by simp;omega
  have bs:∀ X,(uss.map Zal++List.replicate (k+1) [C.lit (.int .i64 0),C.lit (.int .i64 0)]).set i X=(uss.map Zal++[X])++List.replicate k [C.lit (.int .i64 0),C.lit (.int .i64 0)]:=fun X=>ZeP _ _ _ _ _ (by simp [hn])
  have bg:(uss.map Zal++List.replicate (k+1) [C.lit (.int .i64 0),C.lit (.int .i64 0)])[i]?=some [C.lit (.int .i64 0),C.lit (.int .i64 0)]:=by rw [Tbn (by simp;omega),Tbo,if_pos (by simp;omega)]
  have hbr:=ZeQ hr
  (have F:=ai @hr (ai @hlt (ai @Zan (ai @okc (ai @ln (ai @tk (ai @dr (ai @Zar (ai @hrb (ai @q1 @bl)))))))));refine gG ?_;clear F)
  refine gB ?_
  (have F:=ai @hr (ai @hlt (ai @Zan (ai @okc (ai @ln (ai @tk (ai @dr (ai @Zar (ai @hrb (ai @q1 @bl)))))))));refine gCP [] [1001] (Zqs hq om) ?_;clear F)
  rintro r' pm ⟨us,E2,rfl,hu,hok2,rfl⟩
  rw [ln] at hu
  obtain ⟨u0,u1,rfl⟩:=len2 hu
  have hok2:Zav (.lit u0)=true∧Zav (.lit u1)=true:=by simpa [Zal,Tar,and_assoc] using hok2
  obtain ⟨k0,k1⟩:=hok2
  have lr:Zal [u0,u1]=[.lit u0,.lit u1]:=rfl
  rw [lr]
  simp only [setA,retA,zipM,Taf,Tah]
  (have F:=ai @hlt (ai @bl (ai @bs (ai @bg (ai @k0 @k1))));refine gR ?_;clear F)
  refine pE [1000,1001] [1000] (ZiB (G':=fun w=>ZaJ w (rows.take (i+1)) (fun b=>E b∨E2 b) (uss++[[u0,u1]])) (fun w h1 h2 hd=>?_) (ZaJ.stable _ _ _)) ?_
  ·rw [tks hr];exact ZaJ.snoc h1 h2 (fun _ h=>.inl h) (fun _ h=>.inr h) hd
  (have F:=ai @bs (ai @wi (ai @hk2 (ai @lr ((@Tbr.{0,0})))));refine gG ?_;exact ⟨(i+1,uss++[[u0,u1]],fun b=>E b∨E2 b),⟨hlt,by simp [hn]⟩,gw,gw,by omega⟩)
 ·obtain rfl:i=rows.length:=by omega
  have q1:((rows.length:Int) < (rows.length:Int))=False:=eq_false om
  rw [Nat.sub_self,List.replicate_zero,List.append_nil,Tap]
  (have F:=@q1;refine gG ?_;clear F)
  refine pS 2 fun a cap=>?_
  refine pE [2,1000] [1000] (Zd1 (fun w h=>h) (Own.stable _ _ _)) ?_
  exact (have F:=e0P;gTP (R:=Zce rows) [1000] ⟨.slice a uss.length cap,_,rfl,rfl,rfl⟩)
theorem Zm3 {row:List C} (hok:Zae (Zb0) row) {left:Int} (h0:0<=left) (h1:left<=1048576):Con e0 47 [.agg row,.one (.lit (.int .i64 left))] [.one (.lit (.int .i64 (sub left (bulkRow row))))]:=by
 obtain ⟨r0,r1,rfl,g0,g1⟩:=Zfm hok
 rw [show bulkRow [.sl r0,.sl r1]=(r0.length+bulkRows r0)+(r1.length+bulkRows r1) by simp only [bulkRow,Zb3];omega]
 refine gI 66583 Tryz.func47 ?_
 (have F:=@e0P;refine gG ?_;clear F)
 refine gB ?_
 (have F:=@e0P;refine gC (ZkB g0 (left:=left) om om) ?_;clear F)
 (have F:=@e0P;refine gR ?_;clear F)
 by_cases q:left < (((r0.length+bulkRows r0):Nat):Int)
 ·rw [ZaN (b:=(r0.length+bulkRows r0)) q]
  try rw [ZaN om]
  have q':((-1:Int) < 0)=True:=eq_true om
  (have F:=@q';refine gG ?_;exact gT)
 rw [Za8 (b:=(r0.length+bulkRows r0)) om]
 have q':(left - (((r0.length+bulkRows r0):Nat):Int) < 0)=False:=eq_false om
 (have F:=@q';refine gG ?_;clear F)
 obtain ⟨L0,e0⟩:∃ x,x=left - (((r0.length+bulkRows r0):Nat):Int):=⟨_,rfl⟩
 rw [<- e0]
 clear q'
 (have F:=@e0P;refine gG ?_;clear F)
 refine gB ?_
 (have F:=@e0P;refine gC (Zqt g1 (left:=L0) om om) ?_;clear F)
 (have F:=@e0P;refine gR ?_;clear F)
 by_cases q:L0 < (((r1.length+bulkRows r1):Nat):Int)
 ·rw [ZaN (b:=(r1.length+bulkRows r1)) q]
  try rw [ZaN om]
  have q':((-1:Int) < 0)=True:=eq_true om
  (have F:=@q';refine gG ?_;exact gT)
 rw [Za8 (b:=(r1.length+bulkRows r1)) om]
 have q':(L0 - (((r1.length+bulkRows r1):Nat):Int) < 0)=False:=eq_false om
 (have F:=@q';refine gG ?_;clear F)
 obtain ⟨L1,e1⟩:∃ x,x=L0 - (((r1.length+bulkRows r1):Nat):Int):=⟨_,rfl⟩
 rw [<- e1]
 clear q'
 try rw [Za8 om,show left - (((r0.length+bulkRows r0)+(r1.length+bulkRows r1):Nat):Int)=L1 by omega]
 (have F:=@e0P;refine gG ?_;exact gT)
theorem Zm4 {row:List C} (hok:Zae (Zb0) row):Con e0 61 [.agg row,.agg row] [.one (.lit (.bool true))]:=by
 obtain ⟨r0,r1,rfl,g0,g1⟩:=Zfm hok
 refine gI 66591 Tryz.func61 ?_
 (have F:=@beq_self_eq_true.{0};refine gG ?_;clear F)
 refine gB ?_
 (have F:=@e0P;refine gC (ZkC g0) ?_;clear F)
 (have F:=@e0P;refine gR ?_;clear F)
 (have F:=@beq_self_eq_true.{0};refine gG ?_;clear F)
 refine gB ?_
 (have F:=@e0P;refine gC (Zqu g1) ?_;clear F)
 (have F:=@e0P;refine gR ?_;clear F)
 (have F:=@beq_self_eq_true.{0};refine gG ?_;exact gT)
theorem Zmh {row:List C} (hok:Zae (Zb0) row) (hb:bulkRow row<=1048576):ConP e0 53 [.agg row] [] (ZbF row):=by
 obtain ⟨r0,r1,rfl,g0,g1⟩:=Zfm hok
 simp only [bulkRow,Zb3] at hb
 refine gIP (ts:=[.cell 2 38]) [] 15 Tryz.func53 ?_
 (have F:=@e0P;refine gG ?_;clear F)
 refine gB ?_
 (have F:=@e0P;refine gCP [] [1000] (ZjB g0 om) ?_;clear F)
 rintro r pm ⟨u0,E0,rfl,k0,rfl⟩
 simp only [setA,retA,zipM,Taf,Tah]
 (have F:=@k0;refine gR ?_;clear F)
 (have F:=@e0P;refine gG ?_;clear F)
 refine gB ?_
 (have F:=@e0P;refine gCP [] [1001] (Zm2 g1 om) ?_;clear F)
 rintro r pm ⟨u1,E1,rfl,k1,rfl⟩
 simp only [setA,retA,zipM,Taf,Tah]
 (have F:=@k1;refine gR ?_;clear F)
 (have F:=ai @k0 @k1;refine gG ?_;clear F)
 obtain ⟨E,hre⟩:∃ E,Zcy [.set E0 (fun w=>Own w (.sl r0) E0 u0),.set E1 (fun w=>Own w (.sl r1) E1 u1)] [.set E (fun w=>Zad w [.sl r0,.sl r1] E [u0,u1])]:=⟨_,ZeO [.sl E0 r0 u0,.sl E1 r1 u1]⟩
 refine pE [1000,1001] [1000] hre ?_
 have hm:=ZbF.mk (row:=[.sl r0,.sl r1]) (us:=[u0,u1]) (E:=E) rfl (by simp only [Zal,Tbq,List.map_nil,List.all_cons,List.all_nil,Bool.and_true,Tar];exact ⟨k0,k1⟩)
 exact (have F:=e0P;gTP (R:=ZbF [.sl r0,.sl r1]) [1000] hm)
theorem Zi6 {row:List C} (hok:Zae (sigF) row) {left:Int} (h0:0<=left) (h1:left<=1048576):Con e0 8 [.agg row,.one (.lit (.int .i64 left))] [.one (.lit (.int .i64 (sub left (bulkRow row))))]:=by
 obtain ⟨r0,r1,r2,rfl,g0,g1,g2⟩:=ZcQ hok
 rw [show bulkRow [.sl r0,.sl r1,.sl r2]=bulkRow [.sl r0,.sl r1]+(r2.length+bulkRows r2) by simp only [bulkRow,Zb3];omega]
 refine gI 66583 Tryz.func8 ?_
 (have F:=@e0P;refine gG ?_;clear F)
 refine gB ?_
 (have F:=@e0P;refine gC (Zm3 (Zfn g0 g1) (left:=left) om om) ?_;clear F)
 (have F:=@e0P;refine gR ?_;clear F)
 by_cases q:left < ((bulkRow [.sl r0,.sl r1]:Nat):Int)
 ·rw [ZaN (b:=bulkRow [.sl r0,.sl r1]) q]
  try rw [ZaN om]
  have q':((-1:Int) < 0)=True:=eq_true om
  (have F:=@q';refine gG ?_;exact gT)
 rw [Za8 (b:=bulkRow [.sl r0,.sl r1]) om]
 have q':(left - ((bulkRow [.sl r0,.sl r1]:Nat):Int) < 0)=False:=eq_false om
 (have F:=@q';refine gG ?_;clear F)
 obtain ⟨L0,e0⟩:∃ x,x=left - ((bulkRow [.sl r0,.sl r1]:Nat):Int):=⟨_,rfl⟩
 rw [<- e0]
 clear q'
 (have F:=@e0P;refine gG ?_;clear F)
 refine gB ?_
 (have F:=@e0P;refine gC (ZuD g2 (left:=L0) om om) ?_;clear F)
 (have F:=@e0P;refine gR ?_;clear F)
 by_cases q:L0 < (((r2.length+bulkRows r2):Nat):Int)
 ·rw [ZaN (b:=(r2.length+bulkRows r2)) q]
  try rw [ZaN om]
  have q':((-1:Int) < 0)=True:=eq_true om
  (have F:=@q';refine gG ?_;exact gT)
 rw [Za8 (b:=(r2.length+bulkRows r2)) om]
 have q':(L0 - (((r2.length+bulkRows r2):Nat):Int) < 0)=False:=eq_false om
 (have F:=@q';refine gG ?_;clear F)
 obtain ⟨L1,e1⟩:∃ x,x=L0 - (((r2.length+bulkRows r2):Nat):Int):=⟨_,rfl⟩
 rw [<- e1]
 clear q'
 try rw [Za8 om,show left - ((bulkRow [.sl r0,.sl r1]+(r2.length+bulkRows r2):Nat):Int)=L1 by omega]
 (have F:=@e0P;refine gG ?_;exact gT)
theorem Zi7 {row:List C} (hok:Zae (sigF) row):Con e0 15 [.agg row,.agg row] [.one (.lit (.bool true))]:=by
 obtain ⟨r0,r1,r2,rfl,g0,g1,g2⟩:=ZcQ hok
 refine gI 66591 Tryz.func15 ?_
 (have F:=@beq_self_eq_true.{0};refine gG ?_;clear F)
 refine gB ?_
 (have F:=@e0P;refine gC (Zm4 (Zfn g0 g1)) ?_;clear F)
 (have F:=@e0P;refine gR ?_;clear F)
 (have F:=@beq_self_eq_true.{0};refine gG ?_;clear F)
 refine gB ?_
 (have F:=@e0P;refine gC (ZuE g2) ?_;clear F)
 (have F:=@e0P;refine gR ?_;clear F)
 (have F:=@beq_self_eq_true.{0};refine gG ?_;exact gT)
theorem Zia {row:List C} (hok:Zae (sigF) row) (hb:bulkRow row<=1048576):ConP e0 11 [.agg row] [] (ZbF row):=by
 obtain ⟨r0,r1,r2,rfl,g0,g1,g2⟩:=ZcQ hok
 simp only [bulkRow,Zb3] at hb
 refine gIP (ts:=[.cell 2 41]) [] 15 Tryz.func11 ?_
 (have F:=@e0P;refine gG ?_;clear F)
 refine gB ?_
 (have F:=@e0P;refine gCP [] [1000] (Zmh (Zfn g0 g1) (by simp only [bulkRow,Zb3];omega)) ?_;clear F)
 rintro r pm ⟨us,E0,rfl,hu,hc,rfl⟩
 obtain ⟨u0,u1,rfl⟩:=len2 hu
 have hc:Zav (.lit u0)=true∧Zav (.lit u1)=true:=by simpa [Zal,Tar,and_assoc] using hc
 obtain ⟨k0,k1⟩:=hc
 have lr0:Zal [u0,u1]=[.lit u0,.lit u1]:=rfl
 rw [lr0]
 simp only [setA,retA,zipM,Taf,Tah]
 (have F:=ai @k0 @k1;refine gR ?_;clear F)
 (have F:=@e0P;refine gG ?_;clear F)
 refine gB ?_
 (have F:=@e0P;refine gCP [] [1001] (Zqr g2 om) ?_;clear F)
 rintro r pm ⟨u2,E2,rfl,k2,rfl⟩
 simp only [setA,retA,zipM,Taf,Tah]
 (have F:=@k2;refine gR ?_;clear F)
 (have F:=ai @k2 (ai @k0 @k1);refine gG ?_;clear F)
 obtain ⟨E,hre⟩:∃ E,Zcy [.set E0 (fun w=>Zad w [.sl r0,.sl r1] E0 [u0,u1]),.set E2 (fun w=>Own w (.sl r2) E2 u2)] [.set E (fun w=>Zad w [.sl r0,.sl r1,.sl r2] E [u0,u1,u2])]:=⟨_,ZeO [.st E0 [.sl r0,.sl r1] [u0,u1],.sl E2 r2 u2]⟩
 refine pE [1000,1001] [1000] hre ?_
 have hm:=ZbF.mk (row:=[.sl r0,.sl r1,.sl r2]) (us:=[u0,u1,u2]) (E:=E) rfl (by simp only [Zal,Tbq,List.map_nil,List.all_cons,List.all_nil,Bool.and_true,Tar];exact ⟨k0,k1,k2⟩)
 exact (have F:=e0P;gTP (R:=ZbF [.sl r0,.sl r1,.sl r2]) [1000] hm)
theorem Zi8 {row:List C} (hok:Zae (sigF) row) (hb:bulkRow row<=1048576):Con e0 11 [.agg row] [.agg row]:=Zmf (Zia hok hb)
theorem Zgn {row:List C} (hok:Zae (Zab .term) row) (HTerm:∀ (rows:List (List C)),Zbz rows < ZbE row->Zam (Zab .term) rows->∀ {left:Int},0<=left->left<=1048576->Con e0 49 [.one (.sl rows),.one (.lit (.int .i64 left))] [.one (.lit (.int .i64 (sub left (rows.length+bulkRows rows))))]) {left:Int} (h0:0<=left) (h1:left<=1048576):Con e0 9 [.agg row,.one (.lit (.int .i64 left))] [.one (.lit (.int .i64 (sub left (bulkRow row))))]:=by
 obtain ⟨i0,t1,i2,r3,rfl,g0,g1,g2,g3⟩:=ZeE hok
 rw [show bulkRow [.lit (.int .i64 i0),.lit (.string t1),.lit (.int .i64 i2),.sl r3]=t1.size+(r3.length+bulkRows r3) by simp only [bulkRow,Zb3];omega]
 refine gI 133143 Tryz.func9 ?_
 have hs:=g1
 unfold maxLen at hs
 have w:IntKind.i64.wrap (left - (t1.size:Int))=left - (t1.size:Int):=IntWalk.i64_in _ om
 clear hs
 by_cases q:left < (t1.size:Int)
 ·rw [ZaN om]
  have q':(left - (t1.size:Int) < 0)=True:=eq_true om
  (have F:=ai @w @q';refine gG ?_;exact gT)
 have q':(left - (t1.size:Int) < 0)=False:=eq_false om
 (have F:=ai @w @q';refine gG ?_;clear F)
 obtain ⟨L0,e0⟩:∃ x,x=left - (t1.size:Int):=⟨_,rfl⟩
 rw [<- e0]
 clear w q'
 (have F:=@e0P;refine gG ?_;clear F)
 refine gB ?_
 (have F:=@e0P;refine gC (HTerm r3 (by simp only [ZbE,Zfv];omega) g3 (left:=L0) om om) ?_;clear F)
 (have F:=@e0P;refine gR ?_;clear F)
 by_cases q:L0 < (((r3.length+bulkRows r3):Nat):Int)
 ·rw [ZaN (b:=(r3.length+bulkRows r3)) q]
  try rw [ZaN om]
  have q':((-1:Int) < 0)=True:=eq_true om
  (have F:=@q';refine gG ?_;exact gT)
 rw [Za8 (b:=(r3.length+bulkRows r3)) om]
 have q':(L0 - (((r3.length+bulkRows r3):Nat):Int) < 0)=False:=eq_false om
 (have F:=@q';refine gG ?_;clear F)
 obtain ⟨L1,e1⟩:∃ x,x=L0 - (((r3.length+bulkRows r3):Nat):Int):=⟨_,rfl⟩
 rw [<- e1]
 clear q'
 try rw [Za8 om,show left - ((t1.size+(r3.length+bulkRows r3):Nat):Int)=L1 by omega]
 (have F:=@e0P;refine gG ?_;exact gT)
theorem Zgo {row:List C} (hok:Zae (Zab .term) row) (HTerm:∀ (rows:List (List C)),Zbz rows < ZbE row->Zam (Zab .term) rows->Con e0 36 [.one (.sl rows),.one (.sl rows)] [.one (.lit (.bool true))]):Con e0 17 [.agg row,.agg row] [.one (.lit (.bool true))]:=by
 obtain ⟨i0,t1,i2,r3,rfl,g0,g1,g2,g3⟩:=ZeE hok
 refine gI 34095647 Tryz.func17 ?_
 (have F:=@beq_self_eq_true.{0};refine gG ?_;clear F)
 refine gB ?_
 (have F:=@e0P;refine gC (HTerm r3 (by simp only [ZbE,Zfv];omega) g3) ?_;clear F)
 (have F:=@e0P;refine gR ?_;clear F)
 (have F:=@beq_self_eq_true.{0};refine gG ?_;exact gT)
theorem ZfJ {row:List C} (hok:Zae (Zab .term) row) (HTerm:∀ (rows:List (List C)),Zbz rows < ZbE row->Zam (Zab .term) rows->rows.length+bulkRows rows<=1048576->ConP e0 55 [.one (.sl rows)] [] (Zce rows)) (hb:bulkRow row<=1048576):ConP e0 13 [.agg row] [] (ZbF row):=by
 obtain ⟨i0,t1,i2,r3,rfl,g0,g1,g2,g3⟩:=ZeE hok
 simp only [bulkRow,Zb3] at hb
 refine gIP (ts:=[.cell 2 46]) [] 15 Tryz.func13 ?_
 (have F:=@e0P;refine gG ?_;clear F)
 refine gB ?_
 (have F:=@e0P;refine gCP [] [1000] (HTerm r3 (by simp only [ZbE,Zfv];omega) g3 om) ?_;clear F)
 rintro r pm ⟨u3,E3,rfl,k3,rfl⟩
 simp only [setA,retA,zipM,Taf,Tah]
 (have F:=@k3;refine gR ?_;clear F)
 (have F:=@k3;refine gG ?_;clear F)
 obtain ⟨E,hre⟩:∃ E,Zcy [.set E3 (fun w=>Own w (.sl r3) E3 u3)] [.set E (fun w=>Zad w [.lit (.int .i64 i0),.lit (.string t1),.lit (.int .i64 i2),.sl r3] E [.int .i64 i0,.string t1,.int .i64 i2,u3])]:=⟨_,ZeO [.lits [.int .i64 i0,.string t1,.int .i64 i2],.sl E3 r3 u3]⟩
 refine pE [1000] [1000] hre ?_
 have hm:=ZbF.mk (row:=[.lit (.int .i64 i0),.lit (.string t1),.lit (.int .i64 i2),.sl r3]) (us:=[.int .i64 i0,.string t1,.int .i64 i2,u3]) (E:=E) rfl (by simp only [Zal,Tbq,List.map_nil,List.all_cons,List.all_nil,Bool.and_true,Tar];exact ⟨rfl,rfl,rfl,k3⟩)
 exact (have F:=e0P;gTP (R:=ZbF [.lit (.int .i64 i0),.lit (.string t1),.lit (.int .i64 i2),.sl r3]) [1000] hm)
theorem ZjC {rows:List (List C)} (hok:Zam (Zab .term) rows) (h:∀ (i:Nat) r,rows[i]?=some r->∀ {left:Int},0<=left->left<=1048576->Con e0 9 [.agg r,.one (.lit (.int .i64 left))] [.one (.lit (.int .i64 (sub left (bulkRow r))))]) {left:Int} (h0:0<=left) (h1:left<=1048576):Con e0 49 [.one (.sl rows),.one (.lit (.int .i64 left))] [.one (.lit (.int .i64 (sub left (rows.length+bulkRows rows))))]:=by
 refine Zcg (by kernel_rfl) fun hm=>?_
 unfold maxLen at hm
 have w:IntKind.i64.wrap (left - (rows.length:Int))=left - (rows.length:Int):=IntWalk.i64_in _ om
 have hrb:ZaE 4 rows=true:=ZaX.2 hok.rowsLen
 refine gI 33589299 Tryz.func49 ?_
 by_cases q:left < (rows.length:Int)
 ·rw [ZaN om]
  have q':(left - (rows.length:Int) < 0)=True:=eq_true om
  (have F:=ai @w @q';refine gG ?_;exact gT)
 have q':(left - (rows.length:Int) < 0)=False:=eq_false om
 (have F:=ai @w @q';refine gG ?_;clear F)
 (have F:=ai @tk0 (ai @Ze6 (ai @Int.natCast_zero @Int.sub_zero));refine gL (ι:=Nat) [1,4,5,15,25] [] (fun x=>[(5,.d (.one (.lit (.int .i64 (x:Int))))),(1,.d (.one (.lit (.int .i64 (left - (rows.length:Int) - (bulkRows (rows.take x):Int))))))]) (fun x=>[]) (fun x=>x<=rows.length∧0<=left - (rows.length:Int) - (bulkRows (rows.take x):Int)) (fun x=>rows.length - x) (0) (⟨Taj _,by simp [bulkRows];omega⟩) (fun x hx=>?_);clear F)
 obtain ⟨hx,hl⟩:=hx
 by_cases hlt:x < rows.length
 ·obtain ⟨r,hr⟩:∃ r,rows[x]?=some r:=⟨_,Taa hlt⟩
  have hq:=hok.get hr
  obtain ⟨ln,tk,dr⟩:=hq.take (n:=4) rfl
  have okc:=hq.cells
  have q1:((x:Int) < (rows.length:Int))=True:=eq_true om
  have wi:=Zap (k:=x) om
  have hbt:=Zej hr
  have hbl:=ZcT rows (x+1)
  skip
  obtain ⟨l,hle⟩:∃ l,l=left - (rows.length:Int) - (bulkRows (rows.take x):Int):=⟨_,rfl⟩
  rw [<- hle]
  (have F:=ai @hr (ai @hlt (ai @Zan (ai @okc (ai @ln (ai @tk (ai @dr (ai @Zar (ai @hrb @q1))))))));refine gG ?_;clear F)
  refine gB ?_
  (have F:=ai @hr (ai @hlt (ai @Zan (ai @okc (ai @ln (ai @tk (ai @dr (ai @Zar (ai @hrb @q1))))))));refine gC (h x _ hr (left:=l) om om) ?_;clear F)
  (have F:=ai @hr (ai @hlt (ai @Zan (ai @okc (ai @ln (ai @tk (ai @dr (ai @Zar (ai @hrb @q1))))))));refine gR ?_;clear F)
  by_cases q:l < ((bulkRow r:Nat):Int)
  ·rw [ZaN (b:=bulkRow r) q,ZaN om]
   have q':((-1:Int) < 0)=True:=eq_true om
   (have F:=@q';refine gG ?_;exact gT)
  rw [Za8 (b:=bulkRow r) om]
  have q':(l - ((bulkRow r:Nat):Int) < 0)=False:=eq_false om
  have e:left - (rows.length:Int) - (bulkRows (rows.take (x+1)):Int)=l - ((bulkRow r:Nat):Int):=by omega
  (have F:=ai @q' (ai @wi @e);refine gG ?_;exact ⟨x+1,⟨hlt,by omega⟩,gw,gw,by omega⟩)
 ·obtain rfl:x=rows.length:=by omega
  have q1:((rows.length:Int) < (rows.length:Int))=False:=eq_false om
  rw [Tap] at hl ⊢
  rw [Za8 om,show left - ((rows.length+bulkRows rows:Nat):Int)=left - (rows.length:Int) - (bulkRows rows:Int) by omega]
  (have F:=@q1;refine gG ?_;exact gT)
theorem ZjD {rows:List (List C)} (hok:Zam (Zab .term) rows) (h:∀ (i:Nat) r,rows[i]?=some r->Con e0 17 [.agg r,.agg r] [.one (.lit (.bool true))]):Con e0 36 [.one (.sl rows),.one (.sl rows)] [.one (.lit (.bool true))]:=by
 refine Zcg (by kernel_rfl) fun hm=>?_
 unfold maxLen at hm
 have hrb:ZaE 4 rows=true:=ZaX.2 hok.rowsLen
 refine gI 67126323 Tryz.func36 ?_
 (have F:=@beq_self_eq_true.{0};refine gG ?_;clear F)
 (have F:=@e0P;refine gL (ι:=Nat) [4,5,14,26] [] (fun x=>[(5,.d (.one (.lit (.int .i64 (x:Int)))))]) (fun x=>[]) (fun x=>x<=rows.length) (fun x=>rows.length - x) (0) (Taj _) (fun x hx=>?_);clear F)
 by_cases hlt:x < rows.length
 ·obtain ⟨r,hr⟩:∃ r,rows[x]?=some r:=⟨_,Taa hlt⟩
  have hq:=hok.get hr
  obtain ⟨ln,tk,dr⟩:=hq.take (n:=4) rfl
  have okc:=hq.cells
  have q1:((x:Int) < (rows.length:Int))=True:=eq_true om
  have wi:=Zap (k:=x) om
  (have F:=ai @hr (ai @hlt (ai @Zan (ai @okc (ai @ln (ai @tk (ai @dr (ai @Zar (ai @hrb @q1))))))));refine gG ?_;clear F)
  refine gB ?_
  (have F:=ai @hr (ai @hlt (ai @Zan (ai @okc (ai @ln (ai @tk (ai @dr (ai @Zar (ai @hrb @q1))))))));refine gC (h x _ hr) ?_;clear F)
  (have F:=ai @hr (ai @hlt (ai @Zan (ai @okc (ai @ln (ai @tk (ai @dr (ai @Zar (ai @hrb @q1))))))));refine gR ?_;clear F)
  (have F:=@wi;refine gG ?_;exact ⟨x+1,hlt,gw,gw,by omega⟩)
 ·obtain rfl:x=rows.length:=by omega
  have q1:((rows.length:Int) < (rows.length:Int))=False:=eq_false om
  (have F:=@q1;refine gG ?_;exact gT)
theorem Zi9 {rows:List (List C)} (hok:Zam (Zab .term) rows) (h:∀ (i:Nat) r,rows[i]?=some r->bulkRow r<=1048576->ConP e0 13 [.agg r] [] (ZbF r)) (hb:rows.length+bulkRows rows<=1048576):ConP e0 55 [.one (.sl rows)] [] (Zce rows):=by
 have hrb:ZaE 4 rows=true:=ZaX.2 hok.rowsLen
 have hmx:((rows.length:Int)<=(maxApp:Int))=True:=eq_true (by unfold maxApp;omega)
 refine gIP (ts:=[.slot 2]) [] 2077 Tryz.func55 ?_
 (have F:=ai @hmx @Tbt;refine gG ?_;clear F)
 refine pE [] [1000] ZeM ?_
 (have F:=ai @nla (ai @Nat.sub_zero @tk0);refine gL (ι:=Nat × List (List Value) × (Nat->Prop)) [3,4,11] [3,1000] (fun x=>[(4,.d (.one (.lit (.int .i64 (x.1:Int))))),(3,.buf 3)]) (fun x=>[(3,.buf none 46 4 (x.2.1.map Zal++List.replicate (rows.length - x.1) [C.lit (.int .i64 0),C.lit (.string .empty),C.lit (.int .i64 0),C.sl []])),(1000,.set x.2.2 (fun w=>ZaJ w (rows.take x.1) x.2.2 x.2.1))]) (fun x=>x.1<=rows.length∧x.2.1.length=x.1) (fun x=>rows.length - x.1) ((0,[],fun _=>False)) (⟨Taj _,rfl⟩) (fun x hx=>?_);clear F)
 obtain ⟨i,uss,E⟩:=x
 obtain ⟨hi,hn⟩:=hx
 simp only at hi hn
 dsimp only
 by_cases hlt:i < rows.length
 ·obtain ⟨r,hr⟩:∃ r,rows[i]?=some r:=⟨_,Taa hlt⟩
  have hq:=hok.get hr
  obtain ⟨ln,tk,dr⟩:=hq.take (n:=4) rfl
  have okc:=hq.cells
  have q1:((i:Int) < (rows.length:Int))=True:=eq_true om
  have wi:=Zap (k:=i) om
  obtain ⟨k,hk⟩:∃ k,rows.length - i=k+1:=⟨rows.length - i - 1,by omega⟩
  have hk2:rows.length - (i+1)=k:=by omega
  rw [hk]
  have bl:(uss.map Zal++List.replicate (k+1) [C.lit (.int .i64 0),C.lit (.string .empty),C.lit (.int .i64 0),C.sl []]).length=rows.length:=by simp;omega
  have bs:∀ X,(uss.map Zal++List.replicate (k+1) [C.lit (.int .i64 0),C.lit (.string .empty),C.lit (.int .i64 0),C.sl []]).set i X=(uss.map Zal++[X])++List.replicate k [C.lit (.int .i64 0),C.lit (.string .empty),C.lit (.int .i64 0),C.sl []]:=fun X=>ZeP _ _ _ _ _ (by simp [hn])
  have bg:(uss.map Zal++List.replicate (k+1) [C.lit (.int .i64 0),C.lit (.string .empty),C.lit (.int .i64 0),C.sl []])[i]?=some [C.lit (.int .i64 0),C.lit (.string .empty),C.lit (.int .i64 0),C.sl []]:=by rw [Tbn (by simp;omega),Tbo,if_pos (by simp;omega)]
  have hbr:=ZeQ hr
  (have F:=ai @hr (ai @hlt (ai @Zan (ai @okc (ai @ln (ai @tk (ai @dr (ai @Zar (ai @hrb (ai @q1 @bl)))))))));refine gG ?_;clear F)
  refine gB ?_
  (have F:=ai @hr (ai @hlt (ai @Zan (ai @okc (ai @ln (ai @tk (ai @dr (ai @Zar (ai @hrb (ai @q1 @bl)))))))));refine gCP [] [1001] (h i _ hr om) ?_;clear F)
  rintro r' pm ⟨us,E2,rfl,hu,hok2,rfl⟩
  rw [ln] at hu
  obtain ⟨u0,u1,u2,u3,rfl⟩:=len4 hu
  have hok2:Zav (.lit u0)=true∧Zav (.lit u1)=true∧Zav (.lit u2)=true∧Zav (.lit u3)=true:=by simpa [Zal,Tar,and_assoc] using hok2
  obtain ⟨k0,k1,k2,k3⟩:=hok2
  have lr:Zal [u0,u1,u2,u3]=[.lit u0,.lit u1,.lit u2,.lit u3]:=rfl
  rw [lr]
  simp only [setA,retA,zipM,Taf,Tah]
  (have F:=ai @hlt (ai @bl (ai @bs (ai @bg (ai @k0 (ai @k1 (ai @k2 @k3))))));refine gR ?_;clear F)
  refine pE [1000,1001] [1000] (ZiB (G':=fun w=>ZaJ w (rows.take (i+1)) (fun b=>E b∨E2 b) (uss++[[u0,u1,u2,u3]])) (fun w h1 h2 hd=>?_) (ZaJ.stable _ _ _)) ?_
  ·rw [tks hr];exact ZaJ.snoc h1 h2 (fun _ h=>.inl h) (fun _ h=>.inr h) hd
  (have F:=ai @bs (ai @wi (ai @hk2 (ai @lr ((@Tbr.{0,0})))));refine gG ?_;exact ⟨(i+1,uss++[[u0,u1,u2,u3]],fun b=>E b∨E2 b),⟨hlt,by simp [hn]⟩,gw,gw,by omega⟩)
 ·obtain rfl:i=rows.length:=by omega
  have q1:((rows.length:Int) < (rows.length:Int))=False:=eq_false om
  rw [Nat.sub_self,List.replicate_zero,List.append_nil,Tap]
  (have F:=@q1;refine gG ?_;clear F)
  refine pS 2 fun a cap=>?_
  refine pE [2,1000] [1000] (Zd1 (fun w h=>h) (Own.stable _ _ _)) ?_
  exact (have F:=e0P;gTP (R:=Zce rows) [1000] ⟨.slice a uss.length cap,_,rfl,rfl,rfl⟩)
theorem Zqv (n:Nat):(∀ rows,Zbz rows < n->Zam (Zab .term) rows->∀ {left:Int},0<=left->left<=1048576->Con e0 49 [.one (.sl rows),.one (.lit (.int .i64 left))] [.one (.lit (.int .i64 (sub left (rows.length+bulkRows rows))))]):=by
 induction n with
 | zero=>exact fun rows h=>absurd h om
 | succ n ih =>
  exact fun rows hn hok {left} h0 h1=>ZjC hok (fun i r hr left h0 h1=>Zgn (hok.get hr) (fun rows2 h2 ok2=>ih rows2 (by have:=Zek hr;omega) ok2) h0 h1) h0 h1
theorem Zja {row:List C} (hok:Zae (Zab .term) row) {left:Int} (h0:0<=left) (h1:left<=1048576):Con e0 9 [.agg row,.one (.lit (.int .i64 left))] [.one (.lit (.int .i64 (sub left (bulkRow row))))]:=Zgn hok (fun rows _ ok=>(Zqv _) rows (Tan _) ok) h0 h1
theorem Zqw (n:Nat):(∀ rows,Zbz rows < n->Zam (Zab .term) rows->Con e0 36 [.one (.sl rows),.one (.sl rows)] [.one (.lit (.bool true))]):=by
 induction n with
 | zero=>exact fun rows h=>absurd h om
 | succ n ih =>
  exact fun rows hn hok=>ZjD hok (fun i r hr=>Zgo (hok.get hr) (fun rows2 h2 ok2=>ih rows2 (by have:=Zek hr;omega) ok2))
theorem Zjb {row:List C} (hok:Zae (Zab .term) row):Con e0 17 [.agg row,.agg row] [.one (.lit (.bool true))]:=Zgo hok (fun rows _ ok=>(Zqw _) rows (Tan _) ok)
theorem Zqx (n:Nat):(∀ rows,Zbz rows < n->Zam (Zab .term) rows->rows.length+bulkRows rows<=1048576->ConP e0 55 [.one (.sl rows)] [] (Zce rows)):=by
 induction n with
 | zero=>exact fun rows h=>absurd h om
 | succ n ih =>
  exact fun rows hn hok hb=>Zi9 hok (fun i r hr hb=>ZfJ (hok.get hr) (fun rows2 h2 ok2=>ih rows2 (by have:=Zek hr;omega) ok2) hb) hb
theorem Zm5 {row:List C} (hok:Zae (Zab .term) row) (hb:bulkRow row<=1048576):ConP e0 13 [.agg row] [] (ZbF row):=ZfJ hok (fun rows _ ok=>(Zqx _) rows (Tan _) ok) hb
theorem Zjc {row:List C} (hok:Zae (Zab .term) row) (hb:bulkRow row<=1048576):Con e0 13 [.agg row] [.agg row]:=Zmf (Zm5 hok hb)
end Go.Proofs.YtcgacanpeaiabaaGreatDoor
