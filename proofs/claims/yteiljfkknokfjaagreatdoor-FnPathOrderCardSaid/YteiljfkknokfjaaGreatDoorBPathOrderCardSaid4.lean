/-
  Part of a proof.
-/
import Derived.Test.YteiljfkknokfjaaGreatDoorBPathOrderCardSaid0
import Derived.Test.YteiljfkknokfjaaGreatDoorBPathOrderCardSaid1
import Derived.Test.YteiljfkknokfjaaGreatDoorBPathOrderCardSaid2
import Derived.Test.YteiljfkknokfjaaGreatDoorBPathOrderCardSaid3
import Derived.Lib.LazyBuf
set_option linter.unusedSimpArgs false
set_option linter.unusedVariables false
set_option maxHeartbeats 400000000
set_option maxRecDepth 100000
namespace Go.Proofs.YteiljfkknokfjaaGreatDoor
open Go.RowKit Go.MapKept Go.ChangeMaps
theorem ZpH {e:Env} {E2:Nat->Prop} {G2:World->Prop} {ι:Type} {G:ι->World->Prop} {ok:ι->Prop} (hst:∀ i,Zc0 E2 (G i)) (ho:∀ w,G2 w->∃ i,ok i∧G i w) {f:FuncId} {xs r:List D} (h:Con (e.plus E2 G2) f xs r)
  {G1:World->Prop} (hi:∀ w,(∀ b,E2 b->¬ e.E b)->G1 w->G2 w):ConP e f xs [.set E2 G1] (fun r' pm=>r'=r∧∃ i',ok i'∧pm=[.set E2 (G i')]):=by
 refine ⟨h.1,fun w S vs hS hE hG hpm hap hvs=>?_⟩;obtain ⟨⟨h1,h2,h3⟩,hdj⟩:=hpm _ (Tbj.2 rfl);have hpb:∀ (G:World->Prop) (b:Nat),ZaU [.set E2 G] b ↔ E2 b:=fun G b=>⟨fun ⟨x,hx,hg⟩=>by obtain rfl:=Tbj.1 hx;exact hg,fun q=>⟨_,Tbj.2 rfl,q⟩⟩;have hd:∀ b,E2 b->¬ e.E b:=fun b q=>hdj b q;refine (h.2 w S vs (fun b hb=>⟨(hS b hb).1,fun q=>q.elim (hS b hb).2 fun q=>(h1 b q).2 hb⟩) (fun b hb=>hb.elim (hE b) fun q=>(h1 b q).1) ⟨hG,hi w hd h2⟩ hvs).mono fun en w' ⟨v,q1,hk,hg,ha⟩=>?_
 obtain ⟨i',hi1,hi2⟩:=ho w' hg.2;refine ⟨v,r,[.set E2 (G i')],q1,⟨rfl,i',hi1,rfl⟩,hk.up fun b q=>q.elim .inl fun q=>.inr ((hpb _ b).2 q),hg.1,fun x hx=>?_,⟨fun y hy=>(by cases hy),trivial⟩,ha.keep (Tai _) (fun _ _ _=>rfl) fun b hb=>?_⟩
 ·obtain rfl:=Tbj.1 hx;exact ⟨⟨fun b q=>⟨Tbd (h1 b q).1 hk.size,fun q2=>q2.2 ((hpb _ b).2 q)⟩,hi2,hst i'⟩,fun g q=>.inl ((hpb _ g).2 q)⟩
 ·rcases hb with q | q
  ·exact ⟨.inl q,fun q2=>(h1 b ((hpb _ b).1 q2)).2 q⟩
  ·exact ⟨.inr (.inr q),fun q2=>by have:=(h1 b ((hpb _ b).1 q2)).1;omega⟩
def keyQ (a b:Tm):ByteArray:=(keyS a++⟨#[62]⟩)++keyS b
theorem ZmH (a b:Tm):(keyQ a b).toList=Zcd a++62::(Zcd b++[]):=by
 simp [keyQ,keyS,ByteArray.toList_eq]
theorem ZoO {g:Sgn} (hg:SgnOk g) {a b a' b':Tm} (ha:Zau g a) (hb:Zau g b) (ha':Zau g a') (hb':Zau g b') (h:(keyQ a b).toList=(keyQ a' b').toList):a=a'∧b=b':=by
 rw [ZmH,ZmH] at h;obtain ⟨h1,h2⟩:=ZiZ a a' _ _ (Zds hg a ha) (Zds hg a' ha') h;simp only [List.cons.injEq,true_and] at h2;exact ⟨h1,(ZiZ b b' [] [] (Zds hg b hb) (Zds hg b' hb') h2).1⟩
def KeyM (g:Sgn) (rank:List Int) (M:List (ByteArray × Value)):Prop:=∀ u v,Zau g u->Zau g v->∀ x,Zbn M (keyQ u v)=some x->x=.bool (grB g rank u v)
def AbsM (g:Sgn) (Z:Tm->Tm->Prop) (M:List (ByteArray × Value)):Prop:=∀ u v,Zau g u->Zau g v->Z u v->Zbn M (keyQ u v)=none
theorem KeyM.nil {g:Sgn} {rank:List Int}:KeyM g rank []:=fun u v _ _ x h=>by simp [Zbn] at h
theorem AbsM.nil {g:Sgn} {Z:Tm->Tm->Prop}:AbsM g Z []:=fun u v _ _ _=>by simp [Zbn]
theorem KeyM.snoc {g:Sgn} {rank:List Int} (hg:SgnOk g) {M:List (ByteArray × Value)} (h:KeyM g rank M) {a b:Tm} (ha:Zau g a) (hb:Zau g b):KeyM g rank (M++[(keyQ a b,.bool (grB g rank a b))]):=by
 intro u v hu hv x hx;rw [ZfA] at hx
 cases hl:Zbn M (keyQ u v) with
 | some y =>
  rw [hl] at hx;simp only [Option.some_or,Taq] at hx;subst hx;exact h u v hu hv _ hl
 | none =>
  rw [hl,Option.none_or] at hx;by_cases e:(keyQ u v).toList=(keyQ a b).toList
  ·rw [if_pos e] at hx;obtain ⟨rfl,rfl⟩:=ZoO hg hu hv ha hb e;simpa using hx.symm
  ·rw [if_neg e] at hx;cases hx
theorem AbsM.snoc {g:Sgn} (hg:SgnOk g) {Z:Tm->Tm->Prop} {M:List (ByteArray × Value)} (h:AbsM g Z M) {a b:Tm} (ha:Zau g a) (hb:Zau g b) (hz:¬ Z a b) {x:Value}:AbsM g Z (M++[(keyQ a b,x)]):=by
 intro u v hu hv hz';rw [ZfA,h u v hu hv hz',Option.none_or,if_neg];intro e;obtain ⟨rfl,rfl⟩:=ZoO hg hu hv ha hb e;exact hz hz'
section
variable {g:Sgn} {rank:List Int} {Z:Tm->Tm->Prop} {b:Nat}
def Zzp (g:Sgn) (rank:List Int) (Z:Tm->Tm->Prop) (b:Nat) (w:World):Prop:=(∀ c,c=b->¬ e0.E c)∧∃ M,(KeyM g rank M∧AbsM g Z M)∧MapL w b M
noncomputable def eK (g:Sgn) (rank:List Int) (Z:Tm->Tm->Prop) (b:Nat):Env:=e0.plus (fun c=>c=b) (Zzp g rank Z b)
theorem eKP:∀ (g:Sgn) (rank:List Int) (Z:Tm->Tm->Prop) (b:Nat),(eK g rank Z b).P=Tryz.prog:=fun _ _ _ _=>rfl
theorem Zgt:Fits e0 (fun c=>c=b) (Zzp g rank Z b):=⟨fun w w' hz hE ⟨h1,M,h2,h3⟩=>⟨h1,M,h2,MapL.stable b M w w' hz hE h3⟩,fun w h=>h.1⟩
theorem Zlg:(eK g rank Z b).Ok:=Zgt.ok ZiQ
theorem Con.k {f:FuncId} {args r:List D} (h:Con e0 f args r):Con (eK g rank Z b) f args r:=Con.up Zgt h
theorem ConP.k {f:FuncId} {args:List D} {pm:List Bk} {R:List D->List Bk->Prop} (h:ConP e0 f args pm R):ConP (eK g rank Z b) f args pm R:=ConP.up Zgt h
def Ze7 (g:Sgn) (rank:List Int) (Z:Tm->Tm->Prop) (b:Nat) (x:Bool) (r:List D) (pm:List Bk):Prop:=r=[.one (.lit (.bool x))]∧∃ M,(KeyM g rank M∧AbsM g Z M)∧pm=[mapB b M]
theorem ZpI {f:FuncId} {xs:List D} {x:Bool} (hb:Zcf Tryz.prog f=true) (h:∀ M,KeyM g rank M∧AbsM g Z M->ConP e0 f xs [mapB b M] (Ze7 g rank Z b x)):Con (eK g rank Z b) f xs [.one (.lit (.bool x))] :=
 Zxt (ι:=List (ByteArray × Value)) (G:=fun M w=>MapL w b M) (ok:=fun M=>KeyM g rank M∧AbsM g Z M) Zgt (MapL.stable b) (fun w h=>h.2) (fun w M h1 h2 h3=>⟨h1,M,h2,h3⟩) hb h
theorem ZjJ {f:FuncId} {xs:List D} {x:Bool} (h:Con (eK g rank Z b) f xs [.one (.lit (.bool x))]) {M:List (ByteArray × Value)} (hM:KeyM g rank M∧AbsM g Z M):ConP e0 f xs [mapB b M] (Ze7 g rank Z b x) :=
 ZpH (ι:=List (ByteArray × Value)) (G:=fun M w=>MapL w b M) (ok:=fun M=>KeyM g rank M∧AbsM g Z M) (MapL.stable b) (fun w h=>h.2) h fun w hd h1=>⟨hd,M,hM,h1⟩
end
end Go.Proofs.YteiljfkknokfjaaGreatDoor
namespace Go.Proofs.YteiljfkknokfjaaGreatDoor
open Go.RowKit
theorem ZpJ {ts:List Tm} {f:FuncId} {caps:List C} {P:Tm->Bool} (hl:ts.length<=big) (h:∀ a∈ts,Con e0 f (.agg (Zab a)::caps.map .one) [.one (.lit (.bool (P a)))]) :
  ∃ r:Int,((∃ (k:Nat) (a:Tm),r=k∧ts[k]?=some a∧P a=true∧∀ (j:Nat) a,j < k->ts[j]?=some a->P a=false)∨(r=-1∧ts.any P=false))∧Con e0 107 [.one (.sl (Zaa ts)),.one (.fn f caps)] [.one (.lit (.int .i64 r))]:=by
 unfold big at hl;by_cases hA:ts.any P=true
 ·obtain ⟨k,hk,hbef⟩:∃ k:Nat,(∃ a,ts[k]?=some a∧P a=true)∧∀ (j:Nat) a,j < k->ts[j]?=some a->P a=false:=by
   have hex:∃ k:Nat,∃ a,ts[k]?=some a∧P a=true:=by
    obtain ⟨a,ha,hp⟩:=List.any_eq_true.1 hA;obtain ⟨k,hk⟩:=Tbk ha;exact ⟨k,a,hk,hp⟩
   obtain ⟨k,hk,hmin⟩:=Zzl hex;refine ⟨k,hk,fun j a hj ha=>?_⟩
   cases hp:P a with
   | false=>rfl
   | true=>exact absurd ⟨a,ha,hp⟩ (hmin j hj)
  obtain ⟨a0,ha0,hp0⟩:=hk;have hkl:=(Tad.1 ha0).1;refine ⟨(k:Int),.inl ⟨k,a0,rfl,ha0,hp0,hbef⟩,?_⟩;refine gI 66483 Tryz.func107 ?_;refine fG @tmz ?_;have F:=@e0P;refine gL (ι:=Nat) [4,5,8,9,16] [] (fun i=>[(8,A.d (.one (.lit (.int .i64 i))))]) (fun i=>[]) (fun i=>i<=k) (fun i=>k+1 - i) (0) om (fun i hi=>?_);clear F;have hl':(i:Int) < (ts.length:Int):=om;obtain ⟨a,ha⟩:∃ a,ts[i]?=some a:=⟨_,Taa om⟩;have hw1:=Zao (k:=i) om
  refine fB (ai @tmz @hl') ?_;refine fC (ai @tmz @ha) (h a (Tac ha)) ?_;by_cases hik:i=k
  ·subst hik;rw [ha] at ha0;injection ha0 with ha0
   subst ha0;refine fR (ai @tmz @hp0) ?_;exact fT @tmz
  ·have hpf:=hbef i a om ha;refine fR (ai @tmz @hpf) ?_;have F:=ai @hw1 @tmz;refine gG ?_;exact ⟨i+1,om,gw,gw,om⟩
 ·have hbef:∀ (j:Nat) a,ts[j]?=some a->P a=false:=fun j a ha=>by
   cases hp:P a with
   | false=>rfl
   | true=>exact absurd (List.any_eq_true.2 ⟨a,Tac ha,hp⟩) hA
  refine ⟨-1,.inr ⟨rfl,by simpa using hA⟩,?_⟩;refine gI 66483 Tryz.func107 ?_;refine fG @tmz ?_;have F:=@e0P;refine gL (ι:=Nat) [4,5,8,9,16] [] (fun i=>[(8,A.d (.one (.lit (.int .i64 i))))]) (fun i=>[]) (fun i=>i<=ts.length) (fun i=>ts.length - i) (0) om (fun i hi=>?_);clear F;by_cases hi':i < ts.length;rotate_left
  ·have hl':¬ ((i:Int) < (ts.length:Int)):=om;exact fT (ai @tmz @hl')
  have hl':(i:Int) < (ts.length:Int):=om;obtain ⟨a,ha⟩:∃ a,ts[i]?=some a:=⟨_,Taa om⟩;have hw1:=Zao (k:=i) om;have hpf:=hbef i a ha;refine fB (ai @tmz @hl') ?_;refine fC (ai @tmz @ha) (h a (Tac ha)) ?_;refine fR (ai @tmz @hpf) ?_;have F:=ai @hw1 @tmz;refine gG ?_;exact ⟨i+1,om,gw,gw,om⟩
theorem tmK:type_of% (aj3 @tmz @eKP @Zcz):=aj3 @tmz @eKP @Zcz
section
variable {g:Sgn} {rank:List Int} {Z:Tm->Tm->Prop} {b:Nat}
theorem Zsy {ts:List Tm} {f:FuncId} {caps:List C} {P:Tm->Bool} (hl:ts.length<=big) (h:∀ a∈ts,Con (eK g rank Z b) f (.agg (Zab a)::caps.map .one) [.one (.lit (.bool (P a)))]) :
  ∃ r:Int,(0<=r ↔ ts.any P=true)∧Con (eK g rank Z b) 107 [.one (.sl (Zaa ts)),.one (.fn f caps)] [.one (.lit (.int .i64 r))]:=by
 unfold big at hl;have hOk:=Zlg (g:=g) (rank:=rank) (Z:=Z) (b:=b);by_cases hA:ts.any P=true
 ·obtain ⟨k,hk,hbef⟩:∃ k:Nat,(∃ a,ts[k]?=some a∧P a=true)∧∀ (j:Nat) a,j < k->ts[j]?=some a->P a=false:=by
   have hex:∃ k:Nat,∃ a,ts[k]?=some a∧P a=true:=by
    obtain ⟨a,ha,hp⟩:=List.any_eq_true.1 hA;obtain ⟨k,hk⟩:=Tbk ha;exact ⟨k,a,hk,hp⟩
   obtain ⟨k,hk,hmin⟩:=Zzl hex;refine ⟨k,hk,fun j a hj ha=>?_⟩
   cases hp:P a with
   | false=>rfl
   | true=>exact absurd ⟨a,ha,hp⟩ (hmin j hj)
  obtain ⟨a0,ha0,hp0⟩:=hk;have hkl:=(Tad.1 ha0).1;refine ⟨(k:Int),⟨fun _=>hA,fun _=>om⟩,?_⟩;refine gI 66483 Tryz.func107 ?_;refine fG @tmK ?_;have F:=@tmK;refine gL (ι:=Nat) [4,5,8,9,16] [] (fun i=>[(8,A.d (.one (.lit (.int .i64 i))))]) (fun i=>[]) (fun i=>i<=k) (fun i=>k+1 - i) (0) om (fun i hi=>?_);clear F;have hl':(i:Int) < (ts.length:Int):=om;obtain ⟨a,ha⟩:∃ a,ts[i]?=some a:=⟨_,Taa om⟩;have hw1:=Zao (k:=i) om
  refine fB (ai @tmK @hl') ?_;refine fC (ai @tmK @ha) (h a (Tac ha)) ?_;by_cases hik:i=k
  ·subst hik;rw [ha] at ha0;injection ha0 with ha0
   subst ha0;refine fR (ai @tmK @hp0) ?_;exact fT @tmK
  ·have hpf:=hbef i a om ha;refine fR (ai @tmK @hpf) ?_;have F:=ai @hw1 @tmK;refine gG ?_;exact ⟨i+1,om,gw,gw,om⟩
 ·have hbef:∀ (j:Nat) a,ts[j]?=some a->P a=false:=fun j a ha=>by
   cases hp:P a with
   | false=>rfl
   | true=>exact absurd (List.any_eq_true.2 ⟨a,Tac ha,hp⟩) hA
  refine ⟨-1,⟨fun h=>om,fun h=>absurd h hA⟩,?_⟩;refine gI 66483 Tryz.func107 ?_;refine fG @tmK ?_;have F:=@tmK;refine gL (ι:=Nat) [4,5,8,9,16] [] (fun i=>[(8,A.d (.one (.lit (.int .i64 i))))]) (fun i=>[]) (fun i=>i<=ts.length) (fun i=>ts.length - i) (0) om (fun i hi=>?_);clear F;by_cases hi':i < ts.length;rotate_left
  ·have hl':¬ ((i:Int) < (ts.length:Int)):=om;exact fT (ai @tmK @hl')
  have hl':(i:Int) < (ts.length:Int):=om;obtain ⟨a,ha⟩:∃ a,ts[i]?=some a:=⟨_,Taa om⟩;have hw1:=Zao (k:=i) om;have hpf:=hbef i a ha;refine fB (ai @tmK @hl') ?_;refine fC (ai @tmK @ha) (h a (Tac ha)) ?_;refine fR (ai @tmK @hpf) ?_;have F:=ai @hw1 @tmK;refine gG ?_;exact ⟨i+1,om,gw,gw,om⟩
theorem ZmW {ts:List Tm} {f:FuncId} {caps:List C} {P:Tm->Bool} (hl:ts.length<=big) (h:∀ a∈ts,Con (eK g rank Z b) f (.agg (Zab a)::caps.map .one) [.one (.lit (.bool (P a)))]) :
  Con (eK g rank Z b) 110 [.one (.sl (Zaa ts)),.one (.fn f caps)] [.one (.lit (.bool (ts.any P)))]:=by
 have hOk:=Zlg (g:=g) (rank:=rank) (Z:=Z) (b:=b);obtain ⟨r,hr,c⟩:=Zsy hl h;refine gI 19 Tryz.func110 ?_;refine fB @tmK ?_;refine fC @tmK (c) ?_;have e:decide (0<=r)=ts.any P:=by
  rw [Bool.eq_iff_iff,decide_eq_true_iff];exact hr
 refine fR @tmK ?_;exact fT (ai @e @tmK)
theorem ZxJ (t u:Tm):Con e0 108 [.agg (Zab u),.one (.ptr (Zab t))] [.one (.lit (.bool (decide (Zah t u=0))))]:=by
 have c:=ZeG t u;refine gI (ts:=[.slot 3]) 15 Tryz.func108 ?_;refine fN 1 @tmz ?_;refine gB ?_;refine fC @tmz (c) ?_;refine fR @tmz ?_;exact fD @tmz
end
theorem ZpK {x:Tm}:∀ (n:Nat) {t:Tm},sizeTm t < n->sizeTm t<=1000->Con e0 44 [.agg (Zab x),.agg (Zab t)] [.one (.lit (.bool (occT x t)))]:=by
 intro n
 induction n with
 | zero=>exact fun {t} h _=>absurd h om
 | succ n IH =>
 intro t hn hs;have cS:=ZeG x t;rw [ZlF];have hal:t.args.length<=1000:=by
  have h1:=ZaD t;have h2:t.args.length<=sizeTms t.args:=by
   generalize t.args=l
   induction l with
   | nil=>simp
   | cons a l ih=>simp only [Tag,sizeTms];have:=ZaD a;omega
  omega
 refine gI (ts:=[.slot 4]) 555615 Tryz.func44 ?_;refine fN 1 @tmz ?_;refine gB ?_;refine fC @tmz (cS) ?_;by_cases h0:Zah x t=0
 ·rw [decide_eq_true h0];refine fR @tmz ?_;exact fD (ai @Bool.true_or @tmz)
 rw [decide_eq_false h0,Bool.false_or];refine fR @tmz ?_;refine fG @tmz ?_;have F:=@tmz;refine gL (ι:=Nat) [4,6,13,14,19] [] (fun i=>[(13,A.d (.one (.lit (.int .i64 i))))]) (fun i=>[]) (fun i=>i<=t.args.length∧(t.args.take i).any (occT x)=false) (fun i=>t.args.length - i) (0) (⟨Taj _,rfl⟩) (fun i hi=>?_);clear F;obtain ⟨hi,hall⟩:=hi;by_cases hlt:i < t.args.length;rotate_left
 ·obtain rfl:i=t.args.length:=by omega
  have q1:=lF t.args.length t.args.length;rw [Tap] at hall;rw [hall];exact fD (ai @q1 @tmz)
 have q1:=lT i t.args.length;obtain ⟨a,ha⟩:∃ a,t.args[i]?=some a:=⟨_,Taa hlt⟩;have ham:=Tac ha;have hw1:=Zao (k:=i) om;have hsa:=ZaT ham;have cO:=IH (t:=a) om om;refine fN 6 (aj5 @q1 @ha @hlt @Zax @tmz) ?_;refine gB ?_;refine fC @tmz (cO) ?_
 cases hh:occT x a with
 | true =>
  have hf:t.args.any (occT x)=true:=List.any_eq_true.2 ⟨a,ham,hh⟩;rw [hf];refine fR @tmz ?_;exact fD @tmz
 | false =>
  have hq:i+1<=t.args.length∧(t.args.take (i+1)).any (occT x)=false:=⟨hlt,by rw [List.take_add_one,ha,List.any_append,hall];simp [hh]⟩;refine fR @tmz ?_;have F:=ai @hw1 @tmz;refine gG ?_;exact ⟨i+1,hq,gw,gw,om⟩
end Go.Proofs.YteiljfkknokfjaaGreatDoor
namespace Go.Proofs.YteiljfkknokfjaaGreatDoor
open Go.RowKit Go.MapKept Go.ChangeMaps
section
variable {g:Sgn} {rank:List Int} {b:Nat}
def Zgu (g:Sgn) (mc:C) (rank:List Int) (b:Nat):List C:=[.ptr (encX g mc),.sl (rank.map Zaw),.lit (.map (some b))]
theorem Zg4:∀ (g:Sgn) (mc:C) (rank:List Int) (b:Nat),Zgu g mc rank b=[.ptr (encX g mc),.sl (rank.map Zaw),.lit (.map (some b))]:=fun _ _ _ _=>rfl
def GrK (g:Sgn) (mc:C) (rank:List Int) (b:Nat) (Z:Tm->Tm->Prop) (x y:Tm):Prop:=Con (eK g rank Z b) 23 [.agg (Zgu g mc rank b),.agg (Zab x),.agg (Zab y)] [.one (.lit (.bool (grB g rank x y)))]
def CmK (g:Sgn) (mc:C) (rank:List Int) (b:Nat) (Z:Tm->Tm->Prop) (x y:Tm):Prop:=Con (eK g rank Z b) 46 [.agg (Zgu g mc rank b),.agg (Zab x),.agg (Zab y)] [.one (.lit (.bool (grB g rank x y)))]
theorem ZxK (hg:SgnOk g) {mc:C} {Z:Tm->Tm->Prop} {x y:Tm} (hx:TermOk g x) (hy:TermOk g y) (hz:¬ Z x y) (hc:x.op≠-1->y.op≠-1->CmK g mc rank b (fun u v=>Z u v∨(u=x∧v=y)) x y):GrK g mc rank b Z x y:=by
 unfold GrK;refine ZpI (by kernel_rfl) fun M hM=>?_;rw [Zg4];by_cases hxv:x.op=-1
 ·have hV:ZcM g x:=by
   rcases hx.form.node with h | ⟨o,d,h⟩
   ·exact h
   ·have:=h.lo;omega
  have q1:(x.op < 0)=True:=eq_true om;rw [ZcE (Gr.no_var hV.2.2.2.2 hxv)];have hR:Ze7 g rank Z b false [.one (.lit (.bool false))] [mapB b M]:=⟨rfl,M,hM,rfl⟩;refine gIP (ts:=[.slot 6]) [1000] 8589972479 Tryz.func23 ?_;refine fG (ai @q1 @tmz) ?_;exact (have F:=tmz;gTP (R:=Ze7 g rank Z b false) [1000] hR (hp:=rfl))
 have x0:0<=x.op:=by
  rcases hx.form.node with h | ⟨o,d,h⟩
  ·exact absurd h.1 hxv
  ·exact h.lo
 have q1:(x.op < 0)=False:=eq_false om;by_cases hyv:y.op=-1
 ·have q2:(y.op < 0)=True:=eq_true om;have cO:=ZpK (x:=y) _ (Tan _) (t:=x) (by have:=hx.size;omega);have e:occT y x=grB g rank x y:=by rw [Bool.eq_iff_iff,ZbY];exact ZvW hxv hyv
  rw [e] at cO;have hR:Ze7 g rank Z b (grB g rank x y) [.one (.lit (.bool (grB g rank x y)))] [mapB b M]:=⟨rfl,M,hM,rfl⟩;refine gIP (ts:=[.slot 6]) [1000] 8589972479 Tryz.func23 ?_;refine fN 4 (aj3 @q1 @q2 @tmz) ?_;refine gB ?_;refine fC @tmz (cO) ?_;refine fR @tmz ?_;refine fG @tmz ?_;exact (have F:=tmz;gTP (R:=Ze7 g rank Z b (grB g rank x y)) [1000] hR (hp:=rfl))
 have y0:0<=y.op:=by
  rcases hy.form.node with h | ⟨o,d,h⟩
  ·exact absurd h.1 hyv
  ·exact h.lo
 have q2:(y.op < 0)=False:=eq_false om;have cX:=Zmq hg hx.form hx.size;have cY:=Zmq hg hy.form hy.size;have cC:=hc hxv hyv;unfold CmK at cC;rw [Zg4] at cC;refine gIP (ts:=[.slot 6]) [1000] 8589972479 Tryz.func23 ?_;refine fN 5 (aj3 @q1 @q2 @tmz) ?_;refine gB ?_;have sx:(keyS x).size<=2000:=by have:=Zhz hg x hx.form;have:=hx.size;show (Zcd x).toArray.size<=2000;simp;omega
 have sy:(keyS y).size<=2000:=by have:=Zhz hg y hy.form;have:=hy.size;show (Zcd y).toArray.size<=2000;simp;omega
 have z1:((keyS x).size+ByteArray.size { data:=#[62] }<=9223372036854775807)=True:=eq_true (by show (keyS x).size+1<=_;omega);have z2:((keyS x++{ data:=#[62] }).size+(keyS y).size<=9223372036854775807)=True:=eq_true (by rw [ByteArray.size_append];show (keyS x).size+1+_<=_;omega);have kq:keyS x++{ data:=#[62] }++keyS y=keyQ x y:=rfl;refine fC @tmz (cX) ?_;refine fC (aj3 @z1 @z2 @tmz) (cY) ?_;refine fR (aj4 @z1 @z2 @kq @tmz) ?_
 refine fN 6 @tmz ?_;refine gB ?_;have F:=@tmz;refine gP 3 ?_;clear F
 cases hfs:Zbn M (keyQ x y) with
 | some v =>
  have hv:=hM.1 x y hx.form hy.form v hfs;subst hv;have hR:Ze7 g rank Z b (grB g rank x y) [.one (.lit (.bool (grB g rank x y)))] [mapB b M]:=⟨rfl,M,hM,rfl⟩;refine (have F:=tmz;gLo 1000 ZdU ZeE ZfK (v:=.bool (grB g rank x y)) (f:=true) (by rw [hfs];rfl) (by rw [hfs];rfl) ?_);refine fR @tmz ?_;refine fG @tmz ?_;exact (have F:=tmz;gTP (R:=Ze7 g rank Z b (grB g rank x y)) [1000] hR (hp:=rfl))
 | none =>
 refine (have F:=tmz;gLo 1000 ZdU ZeE ZfK (v:=.bool false) (f:=false) (by rw [hfs];rfl) (by rw [hfs];rfl) ?_);have hA2:AbsM g (fun u v=>Z u v∨(u=x∧v=y)) M:=fun u v hu hv h=>by
  rcases h with h | ⟨rfl,rfl⟩
  ·exact hM.2 u v hu hv h
  ·exact hfs
 have cP:=ZjJ cC ⟨hM.1,hA2⟩;refine fR @tmz ?_;refine fN 8 @tmz ?_;refine gB ?_;have F:=@tmz;refine gCP [1000] [1000] (hpn:=rfl) (cP) ?_;clear F;rintro r pm ⟨rfl,M',⟨hM1,hA1⟩,rfl⟩;simp only [setA,retA,zipM,Taf,Tah];have hnone:Zbn M' (keyQ x y)=none:=hA1 x y hx.form hy.form (.inr ⟨rfl,rfl⟩);have hAZ:AbsM g Z M':=fun u v hu hv h=>hA1 u v hu hv (.inl h);have hR:Ze7 g rank Z b (grB g rank x y) [.one (.lit (.bool (grB g rank x y)))] [mapB b (M'++[(keyQ x y,.bool (grB g rank x y))])]:=⟨rfl,_,⟨hM1.snoc hg hx.form hy.form,hAZ.snoc hg hx.form hy.form hz⟩,rfl⟩
 refine fR @tmz ?_;refine fN 9 @tmz ?_;refine gB ?_;have F:=@tmz;refine gP 4 ?_;clear F;refine (have F:=tmz;gUp 1000 ZdU ZeE hnone ?_);refine fR @tmz ?_;refine fG @tmz ?_;exact (have F:=tmz;gTP (R:=Ze7 g rank Z b (grB g rank x y)) [1000] hR (hp:=rfl))
end
end Go.Proofs.YteiljfkknokfjaaGreatDoor
namespace Go.Proofs.YteiljfkknokfjaaGreatDoor
open Go.RowKit
section
variable {g:Sgn} {rank:List Int} {Z:Tm->Tm->Prop} {b:Nat}
theorem ZxL {mc:C} {t u:Tm} (h:GrK g mc rank b Z t u):Con (eK g rank Z b) 111 [.agg (Zab t),.one (.ptr (Zgu g mc rank b)),.one (.ptr (Zab u))] [.one (.lit (.bool (grB g rank t u)))]:=by
 have hOk:=Zlg (g:=g) (rank:=rank) (Z:=Z) (b:=b);unfold GrK at h;rw [Zg4] at *;refine gI (ts:=[.slot 4]) 31 Tryz.func111 ?_;refine fN 1 @tmK ?_;refine gB ?_;refine fC @tmK (h) ?_;refine fR @tmK ?_;exact fD @tmK
end
section
variable {g:Sgn} {rank:List Int} {b:Nat}
theorem ZxM (hg:SgnOk g) (hfr:∀ o∈g.ops,o.assoc=false) (hr:rank.length=g.ops.length) {mc:C} {Z:Tm->Tm->Prop} {x y:Tm} (hx:TermOk g x) (hy:TermOk g y) (hxv:x.op≠-1) (hyv:y.op≠-1)
  (IH:∀ u v,sizeTm u+sizeTm v < sizeTm x+sizeTm y->TermOk g u->TermOk g v->GrK g mc rank b Z u v)
  (hL:Con (eK g rank Z b) 89 [.agg (Zgu g mc rank b),.one (.sl (Zaa x.args)),.one (.sl (Zaa y.args))] [.one (.lit (.bool (bagB g rank x.args y.args)))]):CmK g mc rank b Z x y:=by
 have hOk:=Zlg (g:=g) (rank:=rank) (Z:=Z) (b:=b);have hl60:=Zej hx;have hl60b:=Zej hy;have rl:(rank.map Zaw).length=g.ops.length:=by rw [Tay,hr]
 have rr:ZaE 1 (rank.map Zaw)=true:=ZgR _;obtain ⟨o,d,hA⟩:∃ o d,AppOk g x o d:=by
  rcases hx.form.node with h | h
  ·exact absurd h.1 hxv
  ·exact h
 obtain ⟨o2,d2,hB⟩:∃ o d,AppOk g y o d:=by
  rcases hy.form.node with h | h
  ·exact absurd h.1 hyv
  ·exact h
 unfold GrK at IH;unfold CmK;rw [Zg4] at *;refine gI (ts:=[.slot 6]) 1268811471396428484708032306559 Tryz.func46 ?_;refine fG @tmK ?_;have F:=@tmK;refine gL (ι:=Nat) [6,8,16,17,28] [] (fun i=>[(16,A.d (.one (.lit (.int .i64 i))))]) (fun i=>[]) (fun i=>i<=x.args.length∧∀ (j:Nat) t,j < i->x.args[j]?=some t->t≠y∧grB g rank t y=false) (fun i=>x.args.length - i) (0) (⟨Taj _,fun j t h=>absurd h om⟩) (fun i hi=>?_);clear F
 obtain ⟨hi,hall⟩:=hi;by_cases hlt:i < x.args.length
 ·have q3:=lT i x.args.length;have hw1:=Zao (k:=i) om;obtain ⟨t,ht⟩:∃ t,x.args[i]?=some t:=⟨_,Taa hlt⟩;have htm:=Tac ht;have hts:=ZaT htm;have cT:=(ZeG t y).k (g:=g) (rank:=rank) (Z:=Z) (b:=b);have cG:=IH t y om (hx.arg htm) hy;refine fN 4 (aj5 @q3 @ht @hlt @Zax @tmK) ?_;refine gB ?_;refine fC @tmK (cT) ?_;by_cases h0:Zah t y=0
  ·obtain rfl:=ZbD.1 h0;rw [decide_eq_true h0,Zcy (.same htm)];refine fR @tmK ?_;exact fD @tmK
  rw [decide_eq_false h0];refine fC @tmK (cG) ?_
  cases hh:grB g rank t y with
  | true =>
   rw [Zcy (.sub htm (ZbY.1 hh))];refine fR @tmK ?_;exact fD @tmK
  | false =>
   have hq:i+1<=x.args.length∧∀ (j:Nat) t,j < i+1->x.args[j]?=some t->t≠y∧grB g rank t y=false:=⟨hlt,fun j t' hj ht'=>by
    by_cases e:j=i
    ·subst e;rw [ht] at ht';injection ht' with ht';subst ht';exact ⟨fun e=>h0 (ZbD.2 e),hh⟩
    ·exact hall j t' om ht'⟩
   refine fR @tmK ?_;have F:=ai @hw1 @tmK;refine gG ?_;exact ⟨i+1,hq,gw,gw,om⟩
 obtain rfl:i=x.args.length:=by omega
 have q3:=lF x.args.length x.args.length;have hno:∀ t∈x.args,t≠y∧¬ Gr (rkF rank) (cmF g) t y:=fun t ht=>by
  obtain ⟨j,hj⟩:=Tbk ht;have:=hall j t (Tad.1 hj).1 hj;exact ⟨this.1,fun h=>by rw [Zcy h] at this;cases this.2⟩
 have a0:(0<=x.op)=True:=eq_true hA.lo;have b0:(0<=y.op)=True:=eq_true hB.lo;have a1:(x.op.toNat < g.ops.length)=True:=eq_true (Tad.1 hA.at').1;have b1:(y.op.toNat < g.ops.length)=True:=eq_true (Tad.1 hB.at').1;have ga:=ZhH (rank:=rank) (op:=x.op) (by rw [hr];exact of_eq_true a1);have gb:=ZhH (rank:=rank) (op:=y.op) (by rw [hr];exact of_eq_true b1);by_cases hop:x.op=y.op;rotate_left
 ·have q6:(x.op=y.op)=False:=eq_false hop;by_cases h1:rkF rank x.op<=rkF rank y.op
  ·have q4:(rkF rank x.op<=rkF rank y.op)=True:=eq_true h1;rw [ZcE (ZlH hno (by by_cases e:rkF rank x.op=rkF rank y.op;exact .inr ⟨e,hop⟩;exact .inl om))];exact fD (aj12 @q3 @q4 @q6 @a0 @b0 @a1 @b1 @ga @gb @rl @rr @tmK)
  have q4:(rkF rank x.op<=rkF rank y.op)=False:=eq_false h1;refine fN 9 (aj12 @q3 @q4 @q6 @a0 @b0 @a1 @b1 @ga @gb @rl @rr @tmK) ?_;refine fG @tmK ?_;have F:=@tmK;refine gL (ι:=Nat) [6,10,53,54,61] [] (fun k=>[(53,A.d (.one (.lit (.int .i64 k))))]) (fun k=>[]) (fun k=>k<=y.args.length∧∀ (j:Nat) t,j < k->y.args[j]?=some t->grB g rank x t=true) (fun k=>y.args.length - k) (0) (⟨Taj _,fun j t h=>absurd h om⟩) (fun k hk=>?_);clear F
  obtain ⟨hk,hbl⟩:=hk;by_cases hkl:k < y.args.length
  ·have q7:=lT k y.args.length;have hw2:=Zao (k:=k) om;obtain ⟨t,ht⟩:∃ t,y.args[k]?=some t:=⟨_,Taa hkl⟩;have htm:=Tac ht;have hts:=ZaT htm;have cG:=IH x t om hx (hy.arg htm);refine fN 12 (aj5 @q7 @ht @hkl @Zax @tmK) ?_;refine gB ?_;refine fC @tmK (cG) ?_
   cases hh:grB g rank x t with
   | false =>
    rw [ZcE (ZfD hno htm fun h=>by rw [Zcy h] at hh;cases hh)];refine fR @tmK ?_;exact fD @tmK
   | true =>
    have hq:k+1<=y.args.length∧∀ (j:Nat) t,j < k+1->y.args[j]?=some t->grB g rank x t=true:=⟨hkl,fun j t' hj ht'=>by
     by_cases e:j=k
     ·subst e;rw [ht] at ht';injection ht' with ht';subst ht';exact hh
     ·exact hbl j t' om ht'⟩
    refine fR @tmK ?_;have F:=ai @hw2 @tmK;refine gG ?_;exact ⟨k+1,hq,gw,gw,om⟩
  obtain rfl:k=y.args.length:=by omega
  have q7:=lF y.args.length y.args.length;have hAll:∀ u∈y.args,Gr (rkF rank) (cmF g) x u:=fun u hu=>by
   obtain ⟨j,hj⟩:=Tbk hu;exact ZbY.1 (hbl j u (Tad.1 hj).1 hj)
  have hM:=Zi3 hxv hyv hno hAll;rw [Zcy (hM.2 (.inl om))];exact fD (aj3 @q7 @q6 @tmK)
 have q6:(x.op=y.op)=True:=eq_true hop;refine fN 9 (aj4 @q3 @q6 @tmK @tmK) ?_;refine fG @tmK ?_;have F:=@tmK;refine gL (ι:=Nat) [6,10,53,54,61] [] (fun k=>[(53,A.d (.one (.lit (.int .i64 k))))]) (fun k=>[]) (fun k=>k<=y.args.length∧∀ (j:Nat) t,j < k->y.args[j]?=some t->grB g rank x t=true) (fun k=>y.args.length - k) (0) (⟨Taj _,fun j t h=>absurd h om⟩) (fun k hk=>?_);clear F;obtain ⟨hk,hbl⟩:=hk;by_cases hkl:k < y.args.length
 ·have q7:=lT k y.args.length;have hw2:=Zao (k:=k) om;obtain ⟨t,ht⟩:∃ t,y.args[k]?=some t:=⟨_,Taa hkl⟩;have htm:=Tac ht;have hts:=ZaT htm;have cG:=IH x t om hx (hy.arg htm);refine fN 12 (aj5 @q7 @ht @hkl @Zax @tmK) ?_;refine gB ?_;refine fC @tmK (cG) ?_
  cases hh:grB g rank x t with
  | false =>
   rw [ZcE (ZfD hno htm fun h=>by rw [Zcy h] at hh;cases hh)];refine fR @tmK ?_;exact fD @tmK
  | true =>
   have hq:k+1<=y.args.length∧∀ (j:Nat) t,j < k+1->y.args[j]?=some t->grB g rank x t=true:=⟨hkl,fun j t' hj ht'=>by
    by_cases e:j=k
    ·subst e;rw [ht] at ht';injection ht' with ht';subst ht';exact hh
    ·exact hbl j t' om ht'⟩
   refine fR @tmK ?_;have F:=ai @hw2 @tmK;refine gG ?_;exact ⟨k+1,hq,gw,gw,om⟩
 obtain rfl:k=y.args.length:=by omega
 have q7:=lF y.args.length y.args.length;have hAll:∀ u∈y.args,Gr (rkF rank) (cmF g) x u:=fun u hu=>by
  obtain ⟨j,hj⟩:=Tbk hu;exact ZbY.1 (hbl j u (Tad.1 hj).1 hj)
 have hM:=Zi3 hxv hyv hno hAll;have hcm:cmF g x.op=o.comm:=by simp [cmF,hA.at']
 have ho:=hA.at';rw [hcm] at hM
 cases hc:o.comm with
 | true =>
  rw [hc] at hM;have e:bagB g rank x.args y.args=grB g rank x y:=by
   rw [Bool.eq_iff_iff,ZhG,ZbY,hM];constructor
   ·exact fun h=>.inr (.inl ⟨hop,rfl,h⟩)
   ·rintro (h | ⟨_,_,h⟩ | ⟨_,h,_⟩)
    ·rw [hop] at h;omega
    ·exact h
    ·cases h
  rw [e] at hL;refine fN 18 (aj8 @q7 @q6 @a0 @a1 @ho @hc @Zag @tmK) ?_;refine gB ?_;refine fC @tmK (hL) ?_;refine fR @tmK ?_;exact fD @tmK
 | false =>
  rw [hc] at hM;have hob2:o2=o:=by have:=hB.at';rw [<- hop,ho] at this;injection this with this;exact this.symm
  subst hob2;have hd2:d2=d:=by have:=hB.fst;rw [hA.fst] at this;injection this with this;exact this.symm
  subst hd2;have has:=hfr _ (Tac ho);have hlen:x.args.length=y.args.length:=by rw [hA.nas has,hB.nas has]
  have e:lexB g rank x.args y.args=grB g rank x y:=by
   rw [Bool.eq_iff_iff,ZhF,ZbY,hM];constructor
   ·exact fun h=>.inr (.inr ⟨hop,rfl,h⟩)
   ·rintro (h | ⟨_,h,_⟩ | ⟨_,_,h⟩)
    ·rw [hop] at h;omega
    ·cases h
    ·exact h
  rw [<- e];refine fN 19 (aj8 @q7 @q6 @a0 @a1 @ho @hc @Zag @tmK) ?_;refine fG @tmK ?_;have F:=@tmK;refine gL (ι:=Nat) [6,11,12,88,89,100] [] (fun i=>[(88,A.d (.one (.lit (.int .i64 i))))]) (fun i=>[]) (fun i=>i<=x.args.length∧∀ (j:Nat) u v,j < i->x.args[j]?=some u->y.args[j]?=some v->u=v) (fun i=>x.args.length - i) (0) (⟨Taj _,fun j u v h=>absurd h om⟩) (fun i hi=>?_);clear F;obtain ⟨hi2,hall2⟩:=hi
  by_cases hlt2:i < x.args.length;rotate_left
  ·obtain rfl:i=x.args.length:=by omega
   have q8:=lF x.args.length x.args.length;rw [Zrw fun j u v hu hv=>hall2 j u v (Tad.1 hu).1 hu hv];exact fD (ai @q8 @tmK)
  have q8:=lT i x.args.length;have hw3:=Zao (k:=i) om;have hlt3:i < y.args.length:=om;obtain ⟨u,hu⟩:∃ u,x.args[i]?=some u:=⟨_,Taa hlt2⟩;obtain ⟨v,hv⟩:∃ v,y.args[i]?=some v:=⟨_,Taa hlt3⟩;have hum:=Tac hu;have hvm:=Tac hv;have hus:=ZaT hum;have hvs:=ZaT hvm;have cT:=(ZeG u v).k (g:=g) (rank:=rank) (Z:=Z) (b:=b);have cG:=IH u v om (hx.arg hum) (hy.arg hvm);refine fN 22 (aj5 @q8 @hu @hlt2 @Zax @tmK) ?_
  refine gB ?_;refine fC (aj4 @hv @hlt3 @Zax @tmK) (cT) ?_;by_cases h0:Zah u v=0
  ·rw [decide_eq_true h0];have hq:i+1<=x.args.length∧∀ (j:Nat) u v,j < i+1->x.args[j]?=some u->y.args[j]?=some v->u=v:=⟨hlt2,fun j u' v' hj hu' hv'=>by
    by_cases e:j=i
    ·subst e;rw [hu] at hu';rw [hv] at hv';injection hu' with hu';injection hv' with hv';subst hu' hv';exact ZbD.1 h0
    ·exact hall2 j u' v' om hu' hv'⟩
   refine fR @tmK ?_;have F:=ai @hw3 @tmK;refine gG ?_;exact ⟨i+1,hq,gw,gw,om⟩
  ·rw [decide_eq_false h0,Zrv hu hv (fun e=>h0 (ZbD.2 e)) hall2];refine fR @tmK ?_;refine fN 23 @tmK ?_;refine gB ?_;refine fC (aj4 @hv @hlt3 @Zax @tmK) (cG) ?_;refine fR @tmK ?_;exact fD @tmK
end
section
variable {g:Sgn} {rank:List Int} {b:Nat} {mc:C}
def Zww (g:Sgn) (mc:C) (rank:List Int) (b:Nat):Prop:=∀ (Z:Tm->Tm->Prop) (xs ys:List Tm),xs.length<=60->ys.length<=60->(∀ x∈xs,∀ y∈ys,GrK g mc rank b Z x y) ->
 Con (eK g rank Z b) 89 [.agg (Zgu g mc rank b),.one (.sl (Zaa xs)),.one (.sl (Zaa ys))] [.one (.lit (.bool (bagB g rank xs ys)))]
theorem Zlh (hg:SgnOk g) (hfr:∀ o∈g.ops,o.assoc=false) (hr:rank.length=g.ops.length) (hL:Zww g mc rank b):∀ (n:Nat) (x y:Tm),sizeTm x+sizeTm y < n->TermOk g x->TermOk g y->∀ Z:Tm->Tm->Prop,(∀ u v,Z u v->sizeTm x+sizeTm y < sizeTm u+sizeTm v)->GrK g mc rank b Z x y
 | 0,x,y,hn,_,_,_,_=>om
 | n+1,x,y,hn,hx,hy,Z,hZ=>by
  refine ZxK hg hx hy (fun h=>by have:=hZ x y h;omega) fun hxv hyv=>?_;have IH:∀ u v,sizeTm u+sizeTm v < sizeTm x+sizeTm y->TermOk g u->TermOk g v->GrK g mc rank b (fun p q=>Z p q∨(p=x∧q=y)) u v:=fun u v h hu hv=>Zlh hg hfr hr hL n u v om hu hv _ fun p q h2=>by
   rcases h2 with h2 | ⟨rfl,rfl⟩
   ·have:=hZ p q h2;omega
   ·exact h
  exact ZxM hg hfr hr hx hy hxv hyv IH (hL _ _ _ (Zej hx) (Zej hy) fun u hu v hv=>IH u v (by have:=ZaT hu;have:=ZaT hv;omega) (hx.arg hu) (hy.arg hv))
end
section
variable {e:Env} {σ:St} {o:Oper} {K:St->Prop}
theorem Zsz {t t' el:TypeId} {x:Operand} (ho:o.op=.binOp .eql t x (.const (.slice none 0 0)) t') (ht:e.P.underlying t=some (.slice el)) {rows:List (List C)} (hx:evA σ.s x=.d (.one (.sl rows))) (hK:∀ b:Bool,(b=true->rows=[])->K ⟨setA σ.s o.dst (.d (.one (.lit (.bool b)))),σ.m⟩):Zbr e o σ K:=by
 intro he U w0 S0 nt a w Q hd ⟨S,L,h1⟩;have hx':=h1.eval x;rw [hx] at hx';simp only [ARel,DRel,Rep] at hx';obtain ⟨A,n,cap,hv,hn,_,_,hp⟩:=hx';unfold Oper.wp;have hrun:(execOp a.eval o).run e.P w=.ok (.value (.bool A.isNone)) w:=by
  have hc:a.eval (.const (.slice none 0 0))=.slice none 0 0:=rfl;simp only [execOp,ho,hv,hc,eqGuard];simp [Result.andThen];rw [Lib.run_eql_slice_nil w t el A n cap 0 0 ht]
 rw [hrun,Oper.upon_value];refine ⟨_,hK A.isNone (fun hb=>?_),S,L,h1.put (by simp [ARel,DRel,Rep]) hd⟩;rcases Nat.eq_zero_or_pos n with h0 | h0
 ·exact Tao om
 ·obtain ⟨b,off,rfl,_⟩:=hp h0
  cases hb
end
section
variable {e:Env} {K:St->Prop} {ds:List (Option Nat)} {os:List Oper} {s:List (Nat × A)} {m:List (Nat × Bk)}
theorem gNil {d t t' ty:Nat} {p:String} {ed:Array Edge} {x:Operand} {rows:List (List C)} {el:TypeId} (ht:e.P.underlying t=some (.slice el)) (hK:∀ b:Bool,(b=true->rows=[])->Runs e ds 0 os ⟨(d,.d (.one (.lit (.bool b))))::s,m⟩ K)
  (hx:evA s x=.d (.one (.sl rows)):=by exact sfx):Runs e ds 0 (⟨some d,.binOp .eql t x (.const (.slice none 0 0)) t',ty,p,ed,none⟩::os) ⟨s,m⟩ K :=
 ZeD rfl (Zsz rfl ht hx hK)
end
def RNew (ty sz:Nat) (rows:List (List C)) (r:List D) (pm:List Bk):Prop:=∃ a cap,r=[.one (.lit (.slice a rows.length cap))]∧pm=[.buf (some (a,cap)) ty sz rows]
theorem ZpL {ts:List Tm} (h:Zaa ts=[]):ts=[]:=by
 cases ts with
 | nil=>rfl
 | cons t ts=>simp [Zaa] at h
theorem ZsA (ts:List Tm) (hl:ts.length<=1048576):ConP e0 106 [.one (.sl (Zaa ts))] [] (RNew 34 4 (Zaa ts)):=by
 have l1:(ts.length<=maxApp)=True:=eq_true (by unfold maxApp;omega);refine gIP (ts:=[.slot 2]) [] 21 Tryz.func106 ?_;refine fN 1 @tmz ?_;refine gB ?_;have F:=@tmz;refine gP 1 ?_;clear F;refine (have F:=tmz;gNil (rows:=Zaa ts) (el:=34) (by kernel_rfl) fun b hb=>?_)
 cases b with
 | true =>
  have hb:=ZpL (hb rfl);subst hb;refine fR @tmz ?_;refine fG @tmz ?_;refine pS 2 fun a cap=>?_;exact (have F:=Zaj;gTP (R:=RNew 34 4 (Zaa [])) [2] ⟨a,cap,rfl,rfl⟩)
 | false =>
  refine fR @tmz ?_;refine fN 3 @tmz ?_;refine gB ?_;have F:=@tmz;refine gP 1 ?_;clear F;refine gO 5 34 4 ?_;have F:=ai @l1 @tmz;refine gP 2 ?_;clear F;refine gS 7 fun a cap=>?_;refine fR @tmz ?_;refine fG @tmz ?_;exact (have F:=Zaj;gTP (R:=RNew 34 4 (Zaa ts)) [7] ⟨a,cap,rfl,rfl⟩)
end Go.Proofs.YteiljfkknokfjaaGreatDoor
