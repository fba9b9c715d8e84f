/-
  Part of a proof: Zo, Or, Rd, Mt, Om, Dv, Du, Mk, Hd, Os, Hb, Cb, KsString, KsSub, KtSorts, Mi, KsDecl, KsOp, KtSignature, KsBinding, Cn.
-/
import Derived.Test.YtffmjghcpgpfpaaGreatDoorBBase0
import Derived.Test.YtffmjghcpgpfpaaGreatDoorBBase1
import Derived.Test.YtffmjghcpgpfpaaGreatDoorBBase2
import Derived.Test.YtffmjghcpgpfpaaGreatDoorBBase3
import Derived.Test.YtffmjghcpgpfpaaGreatDoorBBase4
set_option linter.unusedSimpArgs false
set_option linter.unusedVariables false
set_option maxHeartbeats 400000000
namespace Go.Proofs.YtffmjghcpgpfpaaGreatDoor
open Go.RowKit
theorem ZFz {w:World} {E:Nat->Prop}:Own w (.sl []) E (.slice none 0 0):=by
 simp only [Own]
 exact ⟨none,0,0,rfl,rfl,Nat.le_refl _,by decide,fun h=>absurd h (by decide)⟩
theorem ZE5:ZfJ [] [.set (fun _=>False) (fun w=>Zah w (Zae zTm) (fun _=>False) [.int .i64 0,.string ByteArray.empty,.int .i64 0,.slice none 0 0])]:=fun w S _ _ =>
 ⟨fun x hx=>by simp at hx;subst hx;exact ⟨fun b h=>h.elim,ZC1 (args:=[]) (by simp only [Zac];exact ZFz),Zah.stable _ _ _⟩,ZiK _,fun g ⟨x,hx,hg⟩=>by simp at hx;subst hx;exact hg.elim⟩
theorem ZEW {f:FuncId} {args:List D} {row:List C} (hb:Zb6 e0.P f=true) (hok:row.all ZaC=true)
  (h:∀ (w:World) (S:Nat->Prop) (vs:List Value),ZaG w S args vs->Calls e0.P f vs.toArray w fun e w'=>∃ us':List Value,e=.returned (.agg us'.toArray)∧Zah w' row (fun x=>w.heap.size<=x∧x < w'.heap.size) us'∧Below w.heap.size w w'):ConP e0 f args [] (Zhn row):=by
 refine ⟨hb,fun w S vs hS hE hG hpm ha hv=>(h w S vs hv).mono ?_⟩
 rintro en w' ⟨us,h1,h2,h3⟩
 obtain ⟨E,hE1,h2⟩:∃ E:Nat->Prop,(∀ b,E b->w.heap.size<=b∧b < w'.heap.size)∧Zah w' row E us:=⟨_,fun _ h=>h,h2⟩
 refine ⟨.agg us.toArray,[.agg (Za4 us)],[.set E (fun w=>Zah w row E us)],h1,Zhn.mk h2.len (h2.cells hok),Kept.of_below h3 (fun d=>d.elim),ZdJ.keep _ _ h3.size (fun b hb=>h3.block b (hE b hb)) hG,fun x hx=>?_,ZiK _,us,rfl,ZfE us⟩
 simp only [List.mem_cons,List.not_mem_nil,or_false] at hx
 subst hx
 exact ⟨⟨fun b hb=>⟨(hE1 b hb).2,fun hn=>hn.2 ⟨_,List.mem_cons_self,hb⟩⟩,h2,Zah.stable _ _ _⟩,fun g hg=>.inr (hE1 g hg).1⟩
def ZEP (rows:List (List C)) (r:List D) (pm:List Bk):Prop:=∃ v E,r=[.one (.lit v)]∧ZaC (.lit v)=true∧pm=[.set E (fun w=>Own w (.sl rows) E v)]
theorem ZFn {f:FuncId} {args:List D} {rows:List (List C)} (hb:Zb6 e0.P f=true)
  (h:∀ (w:World) (S:Nat->Prop) (vs:List Value),ZaG w S args vs->Calls e0.P f vs.toArray w fun e w'=>∃ v:Value,e=.returned v∧Own w' (.sl rows) (fun x=>w.heap.size<=x∧x < w'.heap.size) v∧Below w.heap.size w w'):ConP e0 f args [] (ZEP rows):=by
 refine ⟨hb,fun w S vs hS hE hG hpm ha hv=>(h w S vs hv).mono ?_⟩
 rintro en w' ⟨v,h1,h2,h3⟩
 obtain ⟨E,hE1,h2⟩:∃ E:Nat->Prop,(∀ b,E b->w.heap.size<=b∧b < w'.heap.size)∧Own w' (.sl rows) E v:=⟨_,fun _ h=>h,h2⟩
 refine ⟨v,[.one (.lit v)],[.set E (fun w=>Own w (.sl rows) E v)],h1,⟨v,E,rfl,ZgQ (c:=.sl rows) rfl (Own.rep (.sl rows) _ v h2),rfl⟩,Kept.of_below h3 (fun d=>d.elim),ZdJ.keep _ _ h3.size (fun b hb=>h3.block b (hE b hb)) hG,fun x hx=>?_,ZiK _,by simp [retA,ARel,DRel,Rep]⟩
 simp only [List.mem_cons,List.not_mem_nil,or_false] at hx
 subst hx
 exact ⟨⟨fun b hb=>⟨(hE1 b hb).2,fun hn=>hn.2 ⟨_,List.mem_cons_self,hb⟩⟩,h2,Own.stable _ _ _⟩,fun g hg=>.inr (hE1 g hg).1⟩
def ZEa:Bk->Bool
 | .set _ _=>true
 | _=>false
def litC:C->Bool
 | .lit _=>true
 | _=>false
def litD:D->Bool
 | .one c=>litC c
 | .agg cs=>cs.all litC
 | _=>false
theorem ZEI {w:World} {S S':Nat->Prop}:∀ {cs:List C} {vs:List Value},cs.all litC=true->Zaa w S cs vs->Zaa w S' cs vs
 | [],[],_,_=>trivial
 | .lit x::cs,v::vs,hl,h=>by
  simp only [List.all_cons,Bool.and_eq_true] at hl
  exact ⟨h.1,ZEI hl.2 h.2⟩
 | .sl _::_,_::_,hl,_=>by simp [litC] at hl
 | .ptr _::_,_::_,hl,_=>by simp [litC] at hl
 | .fn _ _::_,_::_,hl,_=>by simp [litC] at hl
 | [],_::_,_,h=>h.elim
 | _::_,[],_,h=>h.elim
theorem ZE6 {w:World} {S S':Nat->Prop} {x:D} {v:Value} (hl:litD x=true) (h:DRel w S x v):DRel w S' x v:=by
 cases x with
 | one c=>cases c with
  | lit y=>exact h
  | _=>simp [litD,litC] at hl
 | agg cs=>obtain ⟨vs,h1,h2⟩:=h;exact ⟨vs,h1,ZEI hl h2⟩
 | clip _=>simp [litD] at hl
theorem ZED {w:World} {S S':Nat->Prop}:∀ {r:List D} {vs:List Value},r.all litD=true->ZaG w S r vs->ZaG w S' r vs
 | [],[],_,_=>trivial
 | x::r,v::vs,hl,h=>by
  simp only [List.all_cons,Bool.and_eq_true] at hl
  exact ⟨ZE6 hl.1 h.1,ZED hl.2 h.2⟩
 | [],_::_,_,h=>h.elim
 | _::_,[],_,h=>h.elim
theorem ZFv {w:World} {S S':Nat->Prop} {L:Lay}:∀ {r:List D} {v:Value},r.all litD=true->ARel w S L (retA r) v->ARel w S' L (retA r) v
 | [],_,_,h=>by obtain ⟨vs,h1,h2⟩:=h;exact ⟨vs,h1,ZED rfl h2⟩
 | [x],v,hl,h=>by
  simp only [List.all_cons,List.all_nil,Bool.and_true] at hl
  exact ZE6 (x:=x) (v:=v) hl h
 | x::y::z,_,hl,h=>by obtain ⟨vs,h1,h2⟩:=h;exact ⟨vs,h1,ZED hl h2⟩
theorem ZFH {e:Env} {f:FuncId} {args r:List D} (h:Con e f args r):ConP e f args [] (fun r' pm=>r'=r∧pm=[]):=by
 refine ⟨h.1,fun w S vs hS hE hG hpm ha hv=>(h.2 w S vs hS hE hG hv).mono ?_⟩
 rintro en w' ⟨v,h1,h2,h3,h4⟩
 refine ⟨v,r,[],h1,⟨rfl,rfl⟩,⟨h2.os,h2.tape,h2.output,h2.drawn,h2.size,fun k hk hn=>h2.block k hk (fun h=>hn (.inl h))⟩,h3,fun x hx=>by simp at hx,trivial,?_⟩
 exact ARel.keep (Nat.le_refl _) (fun _ _ _=>rfl) (fun b hb=>⟨hb.elim .inl (fun h=>.inr (.inr h)),fun ⟨x,hx,_⟩=>by simp at hx⟩) h4
theorem ZFr {w:World} {S:Nat->Prop} {x:Bk} (hs:ZEa x=true) (h:ZcJ w S x) {g:Nat} (hg:pblk x g):g < w.heap.size∧¬ S g:=by
 cases x with
 | set E G=>exact h.1 g hg
 | _=>simp [ZEa] at hs
theorem ZE7 {w w':World} {S S':Nat->Prop} {x:Bk} (hs:ZEa x=true) (h:ZcJ w S x) (hz:w.heap.size<=w'.heap.size) (hk:∀ b,pblk x b->w'.heap[b]?=w.heap[b]?) (hS:∀ b,pblk x b->¬ S' b):ZcJ w' S' x:=by
 cases x with
 | set E G=>exact ⟨fun b hb=>⟨Nat.lt_of_lt_of_le (h.1 b hb).1 hz,hS b hb⟩,h.2.2 w w' hz hk h.2.1,h.2.2⟩
 | _=>simp [ZEa] at hs
theorem ZEX:∀ {a b:List Bk},Zdm a->Zdm b->(∀ x∈a,∀ y∈b,∀ g,pblk x g->¬ pblk y g)->Zdm (a++b)
 | [],_,_,h,_=>h
 | x::a,b,⟨h1,h2⟩,h,hd=>⟨fun y hy g hx hg=>(List.mem_append.1 hy).elim (fun q=>h1 y q g hx hg) (fun q=>hd x List.mem_cons_self y q g hx hg),ZEX h2 h (fun z hz=>hd z (List.mem_cons_of_mem _ hz))⟩
theorem ZFs {e:Env} {f:FuncId} {data lits:List D} {R:List D->List Bk->Prop} (pm:List Bk) (h:ConP e f data [] R) (hset:pm.all ZEa=true) (hR:∀ r q,R r q->r.all litD=true∧q.all ZEa=true)
  (hx:∀ (w:World) (S:Nat->Prop) (vs:List Value),(∀ x∈pm,ZcJ w S x)->ZaG w S lits vs->ZaG w (fun b=>S b∨Zba pm b) data vs):ConP e f lits pm (fun r q=>∃ q1,R r q1∧q=q1++pm):=by
 refine ⟨h.1,fun w S vs hS hE hG hpm ha hv=>?_⟩
 have hset':∀ x∈pm,ZEa x=true:=fun x hx=>List.all_eq_true.1 hset x hx
 have hlt:∀ g,Zba pm g->g < w.heap.size∧¬ S g∧¬ e.E g:=fun g ⟨x,hxm,hg⟩=>⟨(ZFr (hset' x hxm) (hpm x hxm).1 hg).1,(ZFr (hset' x hxm) (hpm x hxm).1 hg).2,(hpm x hxm).2 g hg⟩
 refine (h.2 w (fun b=>S b∨Zba pm b) vs (fun b hb=>hb.elim (hS b) (fun q=>⟨(hlt b q).1,(hlt b q).2.2⟩)) hE hG (fun x hx=>by simp at hx) trivial (hx w S vs (fun x hx=>(hpm x hx).1) hv)).mono ?_
 rintro en w' ⟨v,r,q1,h1,h2,h3,h4,h5,h6,h7⟩
 obtain ⟨l1,l2⟩:=hR r q1 h2
 have l2':∀ x∈q1,ZEa x=true:=fun x hx=>List.all_eq_true.1 l2 x hx
 have hnew:∀ x∈q1,∀ g,pblk x g->w.heap.size<=g:=fun x hx g hg=>((h5 x hx).2 g hg).elim (fun ⟨y,hy,_⟩=>by simp at hy) id
 have hnil:∀ b,¬ Zba [] b:=fun b ⟨y,hy,_⟩=>by simp at hy
 refine ⟨v,r,q1++pm,h1,⟨q1,h2,rfl⟩,⟨h3.os,h3.tape,h3.output,h3.drawn,h3.size,fun k hk hn=>h3.block k hk (fun q=>q.elim (fun q=>hn (.inl q)) (fun q=>hnil k q))⟩,h4,fun x hxm=>?_,ZEX h6 ha (fun x hx y hy g hg hg2=>?_),ZFv l1 h7⟩
 ·rcases List.mem_append.1 hxm with hq | hq
  ·refine ⟨ZE7 (l2' x hq) (h5 x hq).1 (Nat.le_refl _) (fun _ _=>rfl) (fun b hb hn=>hn.2 ⟨x,List.mem_append.2 (.inl hq),hb⟩),fun g hg=>.inr (hnew x hq g hg)⟩
  ·refine ⟨ZE7 (hset' x hq) (hpm x hq).1 h3.size (fun b hb=>h3.block b (hlt b ⟨x,hq,hb⟩).1 (fun q=>q.elim (hlt b ⟨x,hq,hb⟩).2.2 (hnil b))) (fun b hb hn=>hn.2 ⟨x,List.mem_append.2 (.inr hq),hb⟩),fun g hg=>.inl ⟨x,hq,hg⟩⟩
 ·have:=hnew x hx g hg
  have:=(hlt g ⟨y,hy,hg2⟩).1
  omega
def ZEA (pm:List Bk) (l d:D):Prop:=l=d∨(∃ us row E,l=.agg (Za4 us)∧d=.agg row∧.set E (fun w=>Zah w row E us)∈pm)∨(∃ v rows E,l=.one (.lit v)∧d=.one (.sl rows)∧.set E (fun w=>Own w (.sl rows) E v)∈pm)
def ZEG (pm:List Bk):List D->List D->Prop
 | [],[]=>True
 | l::ls,d::ds=>ZEA pm l d∧ZEG pm ls ds
 | _,_=>False
theorem ZEA.same {pm:List Bk} {d:D}:ZEA pm d d:=.inl rfl
theorem ZEA.tree {pm:List Bk} {us:List Value} {row:List C} {E:Nat->Prop} (h:.set E (fun w=>Zah w row E us)∈pm):ZEA pm (.agg (Za4 us)) (.agg row):=.inr (.inl ⟨us,row,E,rfl,rfl,h⟩)
theorem ZEA.treeS {pm:List Bk} {v:Value} {rows:List (List C)} {E:Nat->Prop} (h:.set E (fun w=>Own w (.sl rows) E v)∈pm):ZEA pm (.one (.lit v)) (.one (.sl rows)):=.inr (.inr ⟨v,rows,E,rfl,rfl,h⟩)
theorem ZEG.rel {pm:List Bk}:∀ {lits data:List D},ZEG pm lits data->∀ (w:World) (S:Nat->Prop) (vs:List Value),(∀ x∈pm,ZcJ w S x)->ZaG w S lits vs->ZaG w (fun b=>S b∨Zba pm b) data vs
 | [],[],_,w,S,[],_,_=>trivial
 | [],[],_,w,S,_::_,_,h=>h.elim
 | l::ls,d::ds,hr,w,S,[],_,h=>h.elim
 | l::ls,d::ds,⟨h1,h2⟩,w,S,v::vs,hp,⟨hv,hvs⟩=>by
  refine ⟨?_,ZEG.rel h2 w S vs hp hvs⟩
  rcases h1 with rfl | ⟨us,row,E,rfl,rfl,hm⟩ | ⟨u,rows,E,rfl,rfl,hm⟩
  ·exact DRel.keep (Nat.le_refl _) (fun _ _ _=>rfl) (fun b hb=>.inl hb) hv
  ·obtain ⟨vs',rfl,hr⟩:=hv
   rw [Zjm hr]
   obtain ⟨_,h3,_⟩:=hp _ hm
   exact ⟨us,rfl,Zah.rep row E _ us (fun b hb=>.inr ⟨_,hm,hb⟩) h3⟩
  ·have hv:v=u:=hv
   subst hv
   obtain ⟨_,h3,_⟩:=hp _ hm
   exact (Own.rep _ E v h3).mono fun b hb=>.inr ⟨_,hm,hb⟩
 | [],_::_,h,_,_,_,_,_=>h.elim
 | _::_,[],h,_,_,_,_,_=>h.elim
theorem ZFi {e:Env} {f:FuncId} {data lits:List D} {R:List D->List Bk->Prop} (pm:List Bk) (h:ConP e f data [] R) (hr:ZEG pm lits data) (hset:pm.all ZEa=true) (hR:∀ r q,R r q->r.all litD=true∧q.all ZEa=true):ConP e f lits pm (fun r q=>∃ q1,R r q1∧q=q1++pm) :=
 ZFs pm h hset hR hr.rel
theorem ZEr {e:Env} {f:FuncId} {data lits r:List D} (pm:List Bk) (h:Con e f data r) (hr:ZEG pm lits data) (hset:pm.all ZEa=true) (hl:r.all litD=true):ConP e f lits pm (fun r' q=>r'=r∧q=pm):=by
 have hc:=ZFi pm (ZFH h) hr hset (fun r' q ⟨h1,h2⟩=>by rw [h1,h2];exact ⟨hl,rfl⟩)
 refine ⟨hc.1,fun w S vs h1 h2 h3 h4 h5 h6=>(hc.2 w S vs h1 h2 h3 h4 h5 h6).mono ?_⟩
 rintro en w' ⟨v,r',q,k1,⟨q1,⟨rfl,rfl⟩,rfl⟩,k3⟩
 exact ⟨v,r',_,k1,⟨rfl,rfl⟩,k3⟩
theorem ZEJ (us:List Value):(Za4 us).all litC=true:=by
 induction us with
 | nil=>rfl
 | cons u us ih=>simp only [Za4,List.map_cons,List.all_cons,litC,Bool.true_and];exact ih
theorem Zhn.lits {row:List C} {r:List D} {q:List Bk} (h:Zhn row r q):r.all litD=true∧q.all ZEa=true:=by
 obtain ⟨us,E,rfl,_,_,rfl⟩:=h
 exact ⟨by simp only [List.all_cons,List.all_nil,litD,ZEJ];rfl,rfl⟩
theorem ZEP.lits {rows:List (List C)} {r:List D} {q:List Bk} (h:ZEP rows r q):r.all litD=true∧q.all ZEa=true:=by
 obtain ⟨v,E,rfl,_,rfl⟩:=h
 exact ⟨rfl,rfl⟩
def ZD8 (row:List C) (b:Bool) (r:List D) (pm:List Bk):Prop:=∃ us E,r=[.agg (Za4 us),.one (.lit (.bool b))]∧us.length=row.length∧(Za4 us).all ZaC=true∧pm=[.set E (fun w=>Zah w row E us)]
theorem ZD8.lits {row:List C} {b:Bool} {r:List D} {q:List Bk} (h:ZD8 row b r q):r.all litD=true∧q.all ZEa=true:=by
 obtain ⟨us,E,rfl,_,_,rfl⟩:=h
 exact ⟨by simp only [List.all_cons,List.all_nil,litD,ZEJ];rfl,rfl⟩
def ZFj (rows:List (List C)) (b:Bool) (r:List D) (pm:List Bk):Prop:=∃ v E,r=[.one (.lit v),.one (.lit (.bool b))]∧ZaC (.lit v)=true∧pm=[.set E (fun w=>Own w (.sl rows) E v)]
theorem ZFj.lits {rows:List (List C)} {b:Bool} {r:List D} {q:List Bk} (h:ZFj rows b r q):r.all litD=true∧q.all ZEa=true:=by
 obtain ⟨v,E,rfl,_,rfl⟩:=h
 exact ⟨rfl,rfl⟩
def dig (n:Nat):ByteArray:=ZiQ (IntKind.u8.wrap (IntKind.i64.wrap (48+(n:Int).tmod 10)))
def txtL (n:Nat) (acc:ByteArray):ByteArray:=if h:n=0 then acc else txtL (n / 10) (dig n++acc)
termination_by n
decreasing_by omega
def txt (k:Int):ByteArray:=if k<=0 then ⟨#[109,48]⟩ else ⟨#[109]⟩++txtL k.toNat ByteArray.empty
theorem ZFE (acc:ByteArray):txtL 0 acc=acc:=by rw [txtL];simp
theorem ZFF {n:Nat} (h:n≠0) (acc:ByteArray):txtL n acc=txtL (n / 10) (dig n++acc):=by rw [txtL];simp [h]
theorem ZE8 (n:Nat):(dig n).size=1:=rfl
set_option maxRecDepth 100000 in
theorem ZD9 (k:Int) (hk:k<=1000000000) (hk0:0<=k):Con e0 70 [.one (.lit (.int .i64 k))] [.one (.lit (.string (txt k)))]:=by
 by_cases h0:k<=0
 ·have h:txt k=⟨#[109,48]⟩:=by unfold txt;rw [if_pos h0]
  have q1:(k<=0)=True:=eq_true h0
  rw [h]
  refine gI (ts:=[.slot 2]) 173 Tryz.func70 ?_
  (have F:=@q1;refine gG ?_;exact gTd)
 ·have h:txt k=⟨#[109]⟩++txtL k.toNat ByteArray.empty:=by unfold txt;rw [if_neg h0]
  have q1:(k<=0)=False:=eq_false h0
  rw [h]
  obtain ⟨n,rfl⟩:∃ n:Nat,k=n:=⟨k.toNat,by omega⟩
  rw [Int.toNat_natCast]
  refine gI (ts:=[.slot 2]) 173 Tryz.func70 ?_
  (have F:=@q1;refine gG ?_;clear F)
  (have F:=@q1;refine gL (ι:=Nat × ByteArray) [0,3,7] [] (fun x=>[(0,.d (.one (.lit (.int .i64 (x.1:Int))))),(3,.d (.one (.lit (.string x.2))))]) (fun x=>[]) (fun x=>txtL n ByteArray.empty=txtL x.1 x.2∧x.2.size+x.1<=n) (fun x=>x.1) ((n,⟨#[]⟩)) (⟨rfl,by show 0+n<=n;omega⟩) (fun x hx=>?_);clear F)
  obtain ⟨j,acc⟩:=x
  obtain ⟨h1,h2⟩:=hx
  simp only at h1 h2
  rw [h1]
  clear h1
  by_cases hj:j=0
  ·subst hj
   have q2:(((0:Nat):Int) > 0)=False:=eq_false om
   rw [ZFE]
   have q5:((ByteArray.mk #[109]).size+acc.size<=9223372036854775807)=True:=eq_true (by show 1+acc.size<=_;omega)
   (have F:=ai @q2 @q5;refine gG ?_;exact gTd)
  ·have q2:((j:Int) > 0)=True:=eq_true om
   rw [ZFF hj]
   have q3:IntKind.i64.wrap ((j:Int).tdiv 10)=((j / 10:Nat):Int):=by rw [show (j:Int).tdiv 10=((j / 10:Nat):Int) from by rw [Int.ofNat_tdiv];rfl];exact IntWalk.i64_in _ om
   (have F:=@q2;have NN:Zai 5:=trivial;refine gGn ?_;clear F NN)
   refine gB ?_
   (have F:=@q2;refine gP 5 ?_;clear F)
   refine gY ?_
   have q5:((dig j).size+acc.size<=9223372036854775807)=True:=eq_true (by rw [ZE8];omega)
   change Runs _ _ _ _ ⟨(13,.d (.one (.lit (.string (dig j)))))::_,_⟩ _
   (have F:=ai @q2 @q5;refine gR ?_;clear F)
   have hd:=ZE8 j
   (have F:=ai @q2 @q3;refine gG ?_;exact ⟨(j / 10,dig j++acc),⟨rfl,by rw [ByteArray.size_append,hd];omega⟩,gw,gw,by omega⟩)
def mkV (k:Int):Value->Value
 | .int i _=>.int i k
 | .string _=>.string (txt k)
 | .bool _=>.bool (k % 3==0)
 | v=>v
mutual
def mkC:Int->C->C
 | k,.lit v=>.lit (mkV k v)
 | k,.sl rows=>.sl (ZDV k rows)
 | _,.ptr cs=>.ptr cs
 | _,.fn f cs=>.fn f cs
def ZD4:Int->List C->List C
 | _,[]=>[]
 | k,c::cs=>mkC k c::ZD4 (k+cntC c) cs
def ZDV:Int->List (List C)->List (List C)
 | _,[]=>[]
 | k,r::rs=>ZD4 k r::ZDV (k+ZD2 r) rs
def cntC:C->Nat
 | .lit _=>1
 | .sl rows=>cntRows rows
 | .ptr _=>0
 | .fn _ _=>0
def ZD2:List C->Nat
 | []=>0
 | c::cs=>cntC c+ZD2 cs
def cntRows:List (List C)->Nat
 | []=>0
 | r::rs=>ZD2 r+cntRows rs
end
theorem ZEY:∀ (k:Int) (cs:List C),(ZD4 k cs).length=cs.length
 | _,[]=>by simp [ZD4]
 | k,c::cs=>by simp [ZD4,ZEY _ cs]
theorem ZEQ:∀ (k:Int) (rs:List (List C)),(ZDV k rs).length=rs.length
 | _,[]=>by simp [ZDV]
 | k,c::cs=>by simp [ZDV,ZEQ _ cs]
theorem ZEb:∀ (rs:List (List C)) (r:List C),cntRows (rs++[r])=cntRows rs+ZD2 r
 | [],r=>by simp [cntRows]
 | q::rs,r=>by simp [cntRows,ZEb rs r];omega
theorem ZD3:∀ (rs:List (List C)) (r:List C) (k:Int),ZDV k (rs++[r])=ZDV k rs++[ZD4 (k+cntRows rs) r]
 | [],r,k=>by simp [ZDV,cntRows]
 | q::rs,r,k=>by simp [ZDV,cntRows,ZD3 rs r,Int.add_assoc]
theorem ZD0 {α:Type} {l:List α} {i:Nat} {x:α} (h:l[i]?=some x):l.take (i+1)=l.take i++[x]:=by simp [List.take_add_one,h]
theorem ZDZ {α:Type} {l:List α} {i:Nat} {x:α} (h:l[i]?=some x):l.drop i=x::l.drop (i+1):=by
 obtain ⟨h1,rfl⟩:=List.getElem?_eq_some_iff.1 h
 exact List.drop_eq_getElem_cons h1
theorem ZD1:∀ (rs:List (List C)) (i:Nat),cntRows (rs.take i)<=cntRows rs
 | [],i=>by simp [cntRows]
 | r::rs,0=>by simp [cntRows]
 | r::rs,i+1=>by have:=ZD1 rs i;simp only [List.take_succ_cons,cntRows];omega
theorem ZFA {x y:Bk} (h:∀ g,pblk x g->¬ pblk y g):Zdm [x,y]:=⟨fun z hz g hg=>by simp at hz;subst hz;exact h g hg,ZiK _⟩
theorem ZEs {E:Nat->Prop} {v:Value}:ZDh (ι:=Option Addr × Nat) [.set E (fun w=>Own w (.sl []) E v)] (fun i=>v=.slice i.1 0 i.2) (fun _=>[.set E (fun w=>Own w (.sl []) E v)]):=fun w S h ha=>by
 obtain ⟨h1,h2,h3⟩:_∧Own w (.sl []) E v∧_:=h (.set E (fun w=>Own w (.sl []) E v)) (by simp)
 simp only [Own] at h2
 obtain ⟨A,n,cap,hv,hn,_⟩:=h2
 simp at hn
 subst hn
 exact ⟨(A,cap),hv,h,ha,fun _ h=>h⟩
theorem ZEl {E:Nat->Prop} {v:Value} {rows:List (List C)} {sz:Nat} (hne:rows≠[]) (hrl:ZaH sz rows):ZDh (ι:=Option Addr × Nat × Nat × List (List Value) × (Nat->Prop)) [.set E (fun w=>Own w (.sl rows) E v)]
  (fun i=>v=.slice i.1 i.2.2.2.1.length i.2.1∧i.2.2.2.1.length=rows.length∧rows.length<=maxLen) (fun i=>[.buf (some (i.1,i.2.1)) i.2.2.1 sz (i.2.2.2.1.map Za4),.set i.2.2.2.2 (fun w=>Zbp w rows i.2.2.2.2 i.2.2.2.1)]):=fun w S h ha=>by
 obtain ⟨h1,h2,h3⟩:(∀ b,E b->b < w.heap.size∧¬ S b)∧Own w (.sl rows) E v∧_:=h (.set E (fun w=>Own w (.sl rows) E v)) (by simp)
 obtain ⟨A,n,cap,rfl,hn1,hn2,hn3⟩:=(Own.rep _ _ _ h2).form
 obtain ⟨uss,ety,E',rfl,k1,k2,k3,k4⟩:=Own.open (T:=S) (fun b hb=>(h1 b hb).2) hne hrl h2
 refine ⟨(A,cap,ety,uss,E'),⟨rfl,k2.len,by omega⟩,fun x hx=>?_,ZFA fun g hg hg2=>?_,fun g ⟨x,hx,hg⟩=>⟨_,List.mem_cons_self,?_⟩⟩
 ·simp only [List.mem_cons,List.not_mem_nil,or_false] at hx
  rcases hx with rfl | rfl
  ·show ZaJ w S ety sz (uss.map Za4) (.slice A (uss.map Za4).length cap)
   rw [List.length_map];exact k1
  ·exact ⟨fun b hb=>h1 b (k3 b hb).1,k2,Zbp.stable _ _ _⟩
 ·simp only [pblk,List.length_map] at hg hg2
  exact (k3 g hg2).2 hg
 ·simp only [List.mem_cons,List.not_mem_nil,or_false] at hx
  rcases hx with rfl | rfl
  ·simp only [pblk,List.length_map] at hg;exact k4 g hg
  ·exact (k3 g hg).1
def ZDY:List C->List Value->(Nat->Nat->Prop)->List Bk
 | .sl rows::cs,u::us,Es=>.set (Es 0) (fun w=>Own w (.sl rows) (Es 0) u)::ZDY cs us (fun k=>Es (k+1))
 | .lit _::cs,_::us,Es=>ZDY cs us Es
 | _,_,_=>[]
def ZEe:List C->List Value->Prop
 | [],[]=>True
 | .lit x::cs,u::us=>u=x∧ZEe cs us
 | .sl _::cs,_::us=>ZEe cs us
 | _,_=>False
def ZEc:C->Bool
 | .lit _=>true
 | .sl _=>true
 | _=>false
theorem ZEt {w:World} {S:Nat->Prop}:∀ {cs:List C} {us:List Value} {E:Nat->Prop},cs.all ZEc=true->Zah w cs E us->(∀ b,E b->b < w.heap.size∧¬ S b)->∃ Es,ZEe cs us∧(∀ x∈ZDY cs us Es,ZcJ w S x)∧Zdm (ZDY cs us Es)∧∀ g,Zba (ZDY cs us Es) g->E g
 | [],[],E,_,_,_=>⟨fun _ _=>False,trivial,by simp [ZDY],trivial,fun g ⟨x,hx,_⟩=>by simp [ZDY] at hx⟩
 | c::cs,u::us,E,hp,h,hE=>by
  simp only [Zah] at h
  obtain ⟨S1,S2,i1,i2,hd,h1,h2⟩:=h
  simp only [List.all_cons,Bool.and_eq_true] at hp
  obtain ⟨Es,k1,k2,k3,k4⟩:=ZEt hp.2 h2 (fun b hb=>hE b (i2 b hb))
  cases c with
  | lit x =>
   simp only [Own] at h1
   exact ⟨Es,⟨h1,k1⟩,k2,k3,fun g hg=>i2 g (k4 g hg)⟩
  | sl rows =>
   refine ⟨fun k=>match k with | 0=>S1 | k+1=>Es k,k1,fun x hx=>?_,⟨fun y hy g hg hg2=>hd g hg (k4 g ⟨y,hy,hg2⟩),k3⟩,fun g ⟨x,hx,hg⟩=>?_⟩
   ·simp only [ZDY,List.mem_cons] at hx
    rcases hx with rfl | hx
    ·exact ⟨fun b hb=>hE b (i1 b hb),h1,Own.stable _ _ _⟩
    ·exact k2 x hx
   ·simp only [ZDY,List.mem_cons] at hx
    rcases hx with rfl | hx
    ·exact i1 g hg
    ·exact i2 g (k4 g ⟨x,hx,hg⟩)
  | ptr _=>simp [ZEc] at hp
  | fn _ _=>simp [ZEc] at hp
 | [],_::_,_,_,h,_=>by simp [Zah] at h
 | _::_,[],_,_,h,_=>by simp [Zah] at h
theorem Zah.of_cells {w:World} {S:Nat->Prop}:∀ {cs:List C} {us:List Value} {Es:Nat->Nat->Prop},cs.all ZEc=true->ZEe cs us->(∀ x∈ZDY cs us Es,ZcJ w S x)->Zdm (ZDY cs us Es)->Zah w cs (Zba (ZDY cs us Es)) us
 | [],[],Es,_,_,_,_=>Zah.nil
 | .lit x::cs,u::us,Es,hp,hl,h,ha=>by
  obtain ⟨rfl,hl⟩:=hl
  simp only [List.all_cons,Bool.and_eq_true] at hp
  simp only [Zah]
  exact ⟨fun _=>False,_,fun _ h=>h.elim,fun _ h=>h,fun _ h _=>h,by simp [Own],Zah.of_cells (Es:=Es) hp.2 hl h ha⟩
 | .sl rows::cs,u::us,Es,hp,hl,h,ha=>by
  simp only [List.all_cons,Bool.and_eq_true] at hp
  simp only [Zah]
  obtain ⟨a1,a2⟩:=ha
  have hE:=h (.set (Es 0) (fun w=>Own w (.sl rows) (Es 0) u)) List.mem_cons_self
  refine ⟨Es 0,Zba (ZDY cs us (fun k=>Es (k+1))),fun b hb=>⟨_,List.mem_cons_self,hb⟩,fun b ⟨x,hx,hb⟩=>⟨x,List.mem_cons_of_mem _ hx,hb⟩,fun b hb ⟨x,hx,hb2⟩=>a1 x hx b hb hb2,hE.2.1,Zah.of_cells hp.2 hl (fun x hx=>h x (List.mem_cons_of_mem _ hx)) a2⟩
 | .ptr _::_,_::_,_,hp,_,_,_=>by simp [ZEc] at hp
 | .fn _ _::_,_::_,_,hp,_,_,_=>by simp [ZEc] at hp
 | [],_::_,_,_,hl,_,_=>by simp [ZEe] at hl
 | .lit _::_,[],_,_,hl,_,_=>by simp [ZEe] at hl
 | .sl _::_,[],_,_,hl,_,_=>by simp [ZEe] at hl
theorem ZEi:∀ {cs:List C} {us:List Value} {Es:Nat->Nat->Prop} (y:Bk),y∈ZDY cs us Es->∃ E G,y=.set E G
 | .sl rows::cs,u::us,Es,y,h=>by
  rcases List.mem_cons.1 h with rfl | h
  ·exact ⟨_,_,rfl⟩
  ·exact ZEi y h
 | .lit _::cs,_::us,Es,y,h=>ZEi (cs:=cs) (us:=us) y h
 | .ptr _::_,_,_,y,h=>by simp [ZDY] at h
 | .fn _ _::_,_,_,y,h=>by simp [ZDY] at h
 | [],_,_,y,h=>by simp [ZDY] at h
 | .lit _::_,[],_,y,h=>by simp [ZDY] at h
 | .sl _::_,[],_,y,h=>by simp [ZDY] at h
theorem ZEm {E:Nat->Prop} {r:List C} {rest:List (List C)} {us:List Value} {urest:List (List Value)} (hp:r.all ZEc=true):ZDh (ι:=Unit) [.set E (fun w=>Zbp w (r::rest) E (us::urest))] (fun _=>ZEe r us) (fun _=>[.set E (fun w=>Zbp w (r::rest) E (us::urest))]):=fun w S h ha=>by
 obtain ⟨h1,h2,h3⟩:(∀ b,E b->b < w.heap.size∧¬ S b)∧Zbp w (r::rest) E (us::urest)∧_:=h (.set E (fun w=>Zbp w (r::rest) E (us::urest))) (by simp)
 obtain ⟨S1,S2,i1,i2,hd,k1,k2⟩:=h2
 obtain ⟨Es,hl,_⟩:=ZEt (S:=S) hp k1 (fun b hb=>h1 b (i1 b hb))
 exact ⟨(),hl,h,ha,fun _ h=>h⟩
theorem ZEu {E:Nat->Prop} {r:List C} {rest:List (List C)} {us:List Value} {urest:List (List Value)} (hp:r.all ZEc=true):ZDh (ι:=(Nat->Prop) × (Nat->Nat->Prop)) [.set E (fun w=>Zbp w (r::rest) E (us::urest))] (fun _=>True) (fun i=>.set i.1 (fun w=>Zbp w rest i.1 urest)::ZDY r us i.2):=fun w S h ha=>by
 obtain ⟨h1,h2,h3⟩:(∀ b,E b->b < w.heap.size∧¬ S b)∧Zbp w (r::rest) E (us::urest)∧_:=h (.set E (fun w=>Zbp w (r::rest) E (us::urest))) (by simp)
 obtain ⟨S1,S2,i1,i2,hd,k1,k2⟩:=h2
 obtain ⟨Es,hl,q1,q2,q3⟩:=ZEt (S:=S) hp k1 (fun b hb=>h1 b (i1 b hb))
 refine ⟨(S2,Es),trivial,fun x hx=>?_,⟨fun y hy g hg hg2=>hd g (q3 g ⟨y,hy,hg2⟩) hg,q2⟩,fun g ⟨x,hx,hg⟩=>⟨_,List.mem_cons_self,?_⟩⟩
 ·rcases List.mem_cons.1 hx with rfl | hx
  ·exact ⟨fun b hb=>h1 b (i2 b hb),k2,Zbp.stable _ _ _⟩
  ·exact q1 x hx
 ·rcases List.mem_cons.1 hx with rfl | hx
  ·exact i2 g hg
  ·exact i1 g (q3 g ⟨x,hx,hg⟩)
theorem ZEv {E:Nat->Prop} {done:List (List C)} {ud:List (List Value)} {cs:List C} {us:List Value} {Es:Nat->Nat->Prop} (hp:cs.all ZEc=true) (hl:ZEe cs us):ZfJ (.set E (fun w=>Zbp w done E ud)::ZDY cs us Es) [.set (fun b=>E b∨Zba (ZDY cs us Es) b) (fun w=>Zbp w (done++[cs]) (fun b=>E b∨Zba (ZDY cs us Es) b) (ud++[us]))]:=fun w S h ha=>by
 have hE:=h (.set E (fun w=>Zbp w done E ud)) List.mem_cons_self
 have hv:=Zah.of_cells (w:=w) (S:=S) hp hl (fun x hx=>h x (List.mem_cons_of_mem _ hx)) ha.2
 refine ⟨fun x hx=>?_,ZiK _,fun g ⟨x,hx,hg⟩=>?_⟩
 ·simp only [List.mem_cons,List.not_mem_nil,or_false] at hx
  subst hx
  refine ⟨fun b hb=>?_,Zbp.snoc hE.2.1 hv (fun _ h=>.inl h) (fun _ h=>.inr h) (fun b hb ⟨y,hy,hg⟩=>ha.1 y hy b hb hg),Zbp.stable _ _ _⟩
  rcases hb with hb | ⟨y,hy,hg⟩
  ·exact hE.1 b hb
  ·obtain ⟨E',G',rfl⟩:=ZEi y hy
   exact (h _ (List.mem_cons_of_mem _ hy)).1 b hg
 ·simp only [List.mem_cons,List.not_mem_nil,or_false] at hx
  subst hx
  rcases hg with hg | ⟨y,hy,hg⟩
  ·exact ⟨_,List.mem_cons_self,hg⟩
  ·exact ⟨y,List.mem_cons_of_mem _ hy,hg⟩
theorem ZEw {w:World} {S:Nat->Prop}:∀ {us vs:List Value},Zaa w S (Za4 us) vs->vs=us
 | [],[],_=>rfl
 | u::us,v::vs,h=>by
  obtain ⟨h1,h2⟩:=h
  have h1:v=u:=h1
  rw [h1,ZEw h2]
 | [],_::_,h=>h.elim
 | _::_,[],h=>h.elim
theorem Kept.noPin {D:Prop} {E:Nat->Prop} {B:Nat} {w w':World} (h:Kept D (fun b=>E b∨Zba [] b) B w w'):Kept D E B w w' :=
 ⟨h.os,h.tape,h.output,h.drawn,h.size,fun k hk hn=>h.block k hk fun h=>h.elim hn fun ⟨x,hx,_⟩=>by cases hx⟩
theorem ZFt {e:Env} {f:FuncId} {args:List D} {row:List C} {b:Bool} (h:ConP e f args [] (ZD8 row b)):Con e f args [.agg row,.one (.lit (.bool b))]:=by
 refine ⟨h.1,fun w S vs hS hE hG hv=>(h.2 w S vs hS hE hG (fun x hx=>by cases hx) trivial hv).mono ?_⟩
 rintro en w' ⟨v,r,pm',h1,⟨us,E,rfl,hl,hok,rfl⟩,h3,h4,h5,h6,h7⟩
 obtain ⟨⟨q1,q2,q3⟩,p2⟩:=h5 _ List.mem_cons_self
 obtain ⟨vs',hvs,hd⟩:=h7
 match vs',hd with
 | [u0,u1],⟨⟨us0,hu0,hr⟩,hb,_⟩ =>
  have e1:=ZEw hr
  subst e1
  refine ⟨v,h1,h3.noPin,h4,[u0,u1],hvs,⟨us0,hu0,Zah.rep _ _ _ _ (fun g hg=>.inr ⟨?_,(q1 g hg).1⟩) q2⟩,hb,trivial⟩
  exact (p2 g hg).elim (fun ⟨x,hx,_⟩=>by cases hx) id
def ZD7 (f:FuncId) (rows:List (List C)):Prop:=∀ (k:Int) (E:Nat->Prop) (v:Value),0<=k->k+cntRows rows<=1000000000->ConP e0 f [.one (.lit v),.one (.lit (.int .i64 k))] [.set E (fun w=>Own w (.sl rows) E v)] (fun r pm=>∃ E',r=[.one (.lit (.int .i64 (k+cntRows rows)))]∧pm=[.set E' (fun w=>Own w (.sl (ZDV k rows)) E' v)])
theorem Zaq.rowsLen {fs:List F} {rows:List (List C)} (h:Zaq fs rows):ZaH fs.length rows:=fun r hr=>by
 obtain ⟨i,hi⟩:=List.getElem?_of_mem hr
 exact ⟨(h.get hi).len,(h.get hi).cells⟩
theorem ZD5 (k:Int):ZDV k []=[]:=by simp only [ZDV]
theorem ZEh:cntRows []=0:=by simp only [cntRows]
theorem ZEq {α:Type} {l:List α} {i:Nat} (h:i < l.length) (x:α):(l.set i x)[i]?=some x:=by simp [h]
theorem ZDW {α:Type} (l:List α) (i:Nat) (x:α):(l.set i x).length=l.length:=List.length_set
theorem ZDX {α:Type} (l:List α) (i:Nat) (x y:α):(l.set i x).set i y=l.set i y:=List.set_set ..
theorem ZEf {α:Type} {l:List α} {i:Nat} {x:α} (h:i < l.length):(l.set i x).take (i+1)=l.take i++[x]:=by
 rw [ZD0 (x:=x) (by simp [h]),List.take_set_of_le (Nat.le_refl _)]
theorem ZEg {α:Type} (l:List α) (i:Nat) (x:α):(l.set i x).drop (i+1)=l.drop (i+1):=List.drop_set_of_lt om
set_option maxRecDepth 100000 in
theorem ZFo (rows:List (List C)) (hok:Zaq (Zab .term) rows) (h:∀ r∈rows,∀ i0 t1 i2 r3,r=[.lit (.int .i64 i0),.lit (.string t1),.lit (.int .i64 i2),.sl r3]->ZD7 71 r3):ZD7 71 rows:=by
 intro k E v hk hb
 refine gIP (ts:=[.slot 4]) [1000] 563 Tryz.func71 ?_
 (have F:=@e0P;refine gG ?_;clear F)
 by_cases hne:rows=[]
 ·subst hne
  refine pEx [1000] [1000] ZEs ?_
  rintro ⟨a,cap⟩ rfl
  (have F:=@hk;refine gL (ι:=Unit) [1,5,9] [] (fun x=>[(5,.d (.one (.lit (.int .i64 0)))),(1,.d (.one (.lit (.int .i64 k))))]) (fun x=>[]) (fun x=>True) (fun x=>0) (()) (trivial) (fun x hx=>?_);clear F)
  have q1:((0:Int) < 0)=False:=eq_false (by decide)
  have q2:((0:Int) < ((0:Nat):Int))=False:=eq_false (by decide)
  (have F:=ai @q1 @q2;refine gG ?_;clear F)
  have F:=hk
  refine gTP (R:=fun r pm=>∃ E',r=[.one (.lit (.int .i64 (k+(cntRows []:Nat))))]∧pm=[.set E' (fun w=>Own w (.sl (ZDV k [])) E' (.slice a 0 cap))]) [1000] ⟨E,by simp only [cntRows,Int.natCast_zero,Int.add_zero];rfl,by simp only [ZDV];rfl⟩
 ·have hrl:ZaH 4 rows:=Zaq.rowsLen hok
  refine pEx [1000] [1000,1001] (ZEl hne hrl) ?_
  rintro ⟨a,cap,ety,uss,E1⟩ ⟨rfl,hl,hmx⟩
  simp only at hl ⊢
  unfold maxLen at hmx
  refine pE [] [1002] ZCe ?_
  (have F:=ai @ZD5 (ai @ZEh (ai @Int.add_zero @Int.natCast_zero));refine gL (ι:=Nat × List (List Value) × (Nat->Prop) × (Nat->Prop)) [1,5,9] [1000,1001,1002] (fun x=>[(5,.d (.one (.lit (.int .i64 (x.1:Int))))),(1,.d (.one (.lit (.int .i64 (k+(cntRows (rows.take x.1):Nat))))))]) (fun x=>[(1000,.buf (some (a,cap)) ety 4 (x.2.1.map Za4)),(1001,.set x.2.2.1 (fun w=>Zbp w (rows.drop x.1) x.2.2.1 (x.2.1.drop x.1))),(1002,.set x.2.2.2 (fun w=>Zbp w (ZDV k (rows.take x.1)) x.2.2.2 (x.2.1.take x.1)))]) (fun x=>x.1<=rows.length∧x.2.1.length=rows.length) (fun x=>rows.length - x.1) ((0,uss,E1,fun _=>False)) (⟨Nat.zero_le _,hl⟩) (fun x hx=>?_);clear F)
  obtain ⟨i,us,E2,E3⟩:=x
  obtain ⟨hi,hn⟩:=hx
  simp only at hi hn
  dsimp only
  by_cases hlt:i < rows.length
  ·obtain ⟨r,hr⟩:∃ r,rows[i]?=some r:=⟨_,List.getElem?_eq_getElem hlt⟩
   obtain ⟨u,hu⟩:∃ u,us[i]?=some u:=⟨_,List.getElem?_eq_getElem om⟩
   obtain ⟨i0,t1,i2,r3,rfl,_,_,_,g3⟩:=Zfl (hok.get hr)
   have hm:=h _ (List.mem_of_getElem? hr) i0 t1 i2 r3 rfl
   have hc1:cntRows (rows.take (i+1))=cntRows (rows.take i)+(3+cntRows r3):=by
    rw [ZD0 hr,ZEb];simp only [ZD2,cntC];omega
   have hc2:=ZD1 rows (i+1)
   rw [ZDZ hr,ZDZ hu]
   refine pEx [1001] [1001] (ZEm rfl) ?_
   rintro ⟨⟩ hlit
   obtain ⟨u3,rfl⟩:∃ u3,u=[.int .i64 i0,.string t1,.int .i64 i2,u3]:=by
    match u,hlit with
    | [_,_,_,u3],⟨rfl,rfl,rfl,_⟩=>exact ⟨u3,rfl⟩
   refine pEx (f:=fun (x:(Nat->Prop) × (Nat->Nat->Prop))=>[.set x.1 (fun w=>Zbp w (rows.drop (i+1)) x.1 (us.drop (i+1))),.set (x.2 0) (fun w=>Own w (.sl r3) (x.2 0) u3)]) [1001] [1001,1003] (ZEu rfl) ?_
   rintro ⟨E4,Es⟩ -
   dsimp only
   generalize hkk:k+(cntRows (rows.take i):Int)=kk
   have q1:((i:Int) < (rows.length:Int))=True:=eq_true om
   have q2:i < rows.length:=hlt
   have hs:∀ X:List C,((us.map Za4).set i X)[i]?=some X:=fun X=>ZEq (by rw [Zx6,hn];omega) X
   have w1:IntKind.i64.wrap (kk+1)=kk+1:=IntWalk.i64_in _ om
   have w2:IntKind.i64.wrap (kk+1+1)=kk+1+1:=IntWalk.i64_in _ om
   have w3:IntKind.i64.wrap (kk+1+1+1)=kk+1+1+1:=IntWalk.i64_in _ om
   have w4:IntKind.i64.wrap ((i:Int)+1)=(i:Int)+1:=IntWalk.i64_in _ om
   (have F:=ai @q1 (ai @hl (ai @hn (ai @hu (ai @ZiO (ai @Zx6 (ai @ZDW (ai @hs (ai @w1 (ai @w2 (ai @w3 (ai @q2 @ZDX)))))))))));refine gG ?_;clear F)
   refine gB ?_
   (have F:=@q1;refine gC (ZD9 (kk+1) om om) ?_;clear F)
   (have F:=ai @hl (ai @hn (ai @hu (ai @ZiO (ai @Zx6 (ai @ZDW (ai @hs (ai @q2 @ZDX)))))));refine gR ?_;clear F)
   (have F:=ai @q1 (ai @hl (ai @hn (ai @hu (ai @ZiO (ai @Zx6 (ai @ZDW (ai @hs (ai @w1 (ai @w2 (ai @w3 (ai @q2 @ZDX)))))))))));refine gG ?_;clear F)
   refine gB ?_
   (have F:=ai @q1 (ai @hl (ai @hn (ai @hu (ai @ZiO (ai @Zx6 (ai @ZDW (ai @hs (ai @w1 (ai @w2 (ai @w3 (ai @q2 @ZDX)))))))))));refine gCP [1003] [1003] (hm (kk+1+1+1) (Es 0) u3 om om) ?_;clear F)
   rintro r pm ⟨E5,rfl,rfl⟩
   simp only [setA,retA,zipM,List.cons_append,List.nil_append]
   (have F:=@q1;refine gR ?_;clear F)
   obtain ⟨E6,hre⟩:∃ E6,ZfJ [.set E3 (fun w=>Zbp w (ZDV k (rows.take i)) E3 (us.take i)),.set E5 (fun w=>Own w (.sl (ZDV (kk+1+1+1) r3)) E5 u3)] [.set E6 (fun w=>Zbp w (ZDV k (rows.take (i+1))) E6 ((us.set i [.int .i64 kk,.string (txt (kk+1)),.int .i64 (kk+1+1),u3]).take (i+1)))]:=by
    have hz:=ZEv (E:=E3) (done:=ZDV k (rows.take i)) (ud:=us.take i) (cs:=[.lit (.int .i64 kk),.lit (.string (txt (kk+1))),.lit (.int .i64 (kk+1+1)),.sl (ZDV (kk+1+1+1) r3)]) (us:=[.int .i64 kk,.string (txt (kk+1)),.int .i64 (kk+1+1),u3]) (Es:=fun _=>E5) rfl ⟨rfl,rfl,rfl,trivial⟩
    rw [ZD0 hr,ZD3,hkk,ZEf om]
    simp only [ZD4,mkC,mkV,cntC,Int.natCast_one]
    exact ⟨_,hz⟩
   refine pE [1002,1003] [1002] hre ?_
   have e1:((us.set i [.int .i64 kk,.string (txt (kk+1)),.int .i64 (kk+1+1),u3]).map Za4)=(us.map Za4).set i [.lit (.int .i64 kk),.lit (.string (txt (kk+1))),.lit (.int .i64 (kk+1+1)),.lit u3]:=by rw [List.map_set,ZiO]
   have e2:=ZEg us i [.int .i64 kk,.string (txt (kk+1)),.int .i64 (kk+1+1),u3]
   have e5:k+(cntRows (rows.take (i+1)):Int)=kk+1+1+1+(cntRows r3:Int):=by rw [hc1];omega
   have hn2:(us.set i [.int .i64 kk,.string (txt (kk+1)),.int .i64 (kk+1+1),u3]).length=rows.length:=by rw [ZDW,hn]
   generalize us.set i [.int .i64 kk,.string (txt (kk+1)),.int .i64 (kk+1+1),u3]=us2 at e1 e2 hn2 ⊢
   rw [<- e1,<- e2]
   (have F:=ai @w4 (ai @e5 @hl);refine gG ?_;exact ⟨(i+1,us2,E4,E6),⟨hlt,hn2⟩,gw,gw,by omega⟩)
  ·obtain rfl:i=rows.length:=by omega
   have q1:((rows.length:Int) < (rows.length:Int))=False:=eq_false om
   rw [List.take_length,List.take_of_length_le (Nat.le_of_eq hn)]
   (have F:=ai @q1 (ai @hl @hn);refine gG ?_;clear F)
   obtain ⟨E6,hre⟩:∃ E6,ZfJ [.buf (some (a,cap)) ety 4 (us.map Za4),.set E3 (fun w=>Zbp w (ZDV k rows) E3 us)] [.set E6 (fun w=>Own w (.sl (ZDV k rows)) E6 (.slice a uss.length cap))]:=by
    rw [hl,<- hn]
    exact ⟨_,Zx3 (fun w h=>h) (Own.stable _ _ _)⟩
   refine pE [1000,1002] [1000] hre ?_
   have F:=hk
   exact gTP (R:=fun r pm=>∃ E',r=[.one (.lit (.int .i64 (k+(cntRows rows:Nat))))]∧pm=[.set E' (fun w=>Own w (.sl (ZDV k rows)) E' (.slice a uss.length cap))]) [1000] ⟨E6,rfl,rfl⟩
theorem ZFd (n:Nat):∀ rows,ZbT rows < n->Zaq (Zab .term) rows->ZD7 71 rows:=by
 induction n with
 | zero=>exact fun _ h=>by omega
 | succ n ih =>
  intro rows hn hok
  refine ZFo rows hok fun r hr i0 t1 i2 r3 he=>?_
  subst he
  obtain ⟨i,hi⟩:=List.getElem?_of_mem hr
  have h1:=Zdt hi
  obtain ⟨_,_,_,_,he,_,_,_,g3⟩:=Zfl (hok.get hi)
  injection he with _ he;injection he with _ he;injection he with _ he;injection he with he _;injection he with he;subst he
  simp only [ZbD,ZeV] at h1
  exact ih _ om g3
theorem ZEn {rows:List (List C)} (hok:Zaq (Zab .term) rows):ZD7 71 rows:=ZFd _ rows (Nat.lt_succ_self _) hok
def ZEd:Int->List C->List C
 | _,[]=>[]
 | k,.sl rows::cs=>.sl (ZDV k rows)::ZEd (k+cntRows rows) cs
 | k,c::cs=>c::ZEd k cs
def cntTop:List C->Nat
 | []=>0
 | .sl rows::cs=>cntRows rows+cntTop cs
 | _::cs=>cntTop cs
def ZFp (f:FuncId) (row:List C):Prop:=∀ (k:Int) (E:Nat->Prop) (us:List Value),us.length=row.length->(Za4 us).all ZaC=true->0<=k->k+cntTop row<=1000000000->ConP e0 f [.agg (Za4 us),.one (.lit (.int .i64 k))] [.set E (fun w=>Zah w row E us)] (fun r pm=>∃ E',r=[.one (.lit (.int .i64 (k+cntTop row)))]∧pm=[.set E' (fun w=>Zah w (ZEd k row) E' us)])
theorem ZFC {E:Nat->Prop} {r:List C} {us:List Value} (hp:r.all ZEc=true):ZDh (ι:=Unit) [.set E (fun w=>Zah w r E us)] (fun _=>ZEe r us) (fun _=>[.set E (fun w=>Zah w r E us)]):=fun w S h ha=>by
 obtain ⟨h1,h2,h3⟩:(∀ b,E b->b < w.heap.size∧¬ S b)∧Zah w r E us∧_:=h (.set E (fun w=>Zah w r E us)) (by simp)
 obtain ⟨Es,hl,_⟩:=ZEt (S:=S) hp h2 h1
 exact ⟨(),hl,h,ha,fun _ h=>h⟩
theorem ZEB {E:Nat->Prop} {r:List C} {us:List Value} (hp:r.all ZEc=true):ZDh (ι:=Nat->Nat->Prop) [.set E (fun w=>Zah w r E us)] (fun _=>True) (fun i=>ZDY r us i):=fun w S h ha=>by
 obtain ⟨h1,h2,h3⟩:(∀ b,E b->b < w.heap.size∧¬ S b)∧Zah w r E us∧_:=h (.set E (fun w=>Zah w r E us)) (by simp)
 obtain ⟨Es,hl,q1,q2,q3⟩:=ZEt (S:=S) hp h2 h1
 exact ⟨Es,trivial,q1,q2,fun g hg=>⟨_,List.mem_cons_self,q3 g hg⟩⟩
theorem ZEC {cs:List C} {us:List Value} {Es:Nat->Nat->Prop} (hp:cs.all ZEc=true) (hl:ZEe cs us):ZfJ (ZDY cs us Es) [.set (Zba (ZDY cs us Es)) (fun w=>Zah w cs (Zba (ZDY cs us Es)) us)]:=fun w S h ha=>by
 have hv:=Zah.of_cells (w:=w) (S:=S) hp hl h ha
 refine ⟨fun x hx=>?_,ZiK _,fun g ⟨x,hx,hg⟩=>?_⟩
 ·simp only [List.mem_cons,List.not_mem_nil,or_false] at hx
  subst hx
  refine ⟨fun b ⟨y,hy,hg⟩=>?_,hv,Zah.stable _ _ _⟩
  obtain ⟨E',G',rfl⟩:=ZEi y hy
  exact (h _ hy).1 b hg
 ·simp only [List.mem_cons,List.not_mem_nil,or_false] at hx
  subst hx
  exact hg
theorem ZEE {row:List C} (hok:Zan (Zab .term) row):ZFp 28 row:=by
 obtain ⟨i0,t1,i2,r3,rfl,_,_,_,g3⟩:=Zfl hok
 intro k E us hl hc hk hb
 obtain ⟨u0,u1,u2,u3,rfl⟩:=len4 hl
 obtain ⟨k0,k1,k2,k3⟩:=okc4 hc
 simp only [cntTop,Nat.add_zero] at hb ⊢
 rw [ZiO]
 refine gIP (ts:=[.slot 4]) [1000] 23 Tryz.func28 ?_
 refine pEx [1000] [1000] (ZFC rfl) ?_
 rintro ⟨⟩ ⟨rfl,rfl,rfl,_⟩
 refine pEx (f:=fun (x:Nat->Nat->Prop)=>[.set (x 0) (fun w=>Own w (.sl r3) (x 0) u3)]) [1000] [1000] (ZEB rfl) ?_
 rintro Es -
 (have F:=ai @k0 (ai @k1 (ai @k2 @k3));refine gG ?_;clear F)
 refine gB ?_
 (have F:=ai @k0 (ai @k1 (ai @k2 @k3));refine gCP [1000] [1000] (ZEn g3 k (Es 0) u3 hk hb) ?_;clear F)
 rintro r pm ⟨E5,rfl,rfl⟩
 simp only [setA,retA,zipM,List.cons_append,List.nil_append]
 (have F:=ai @k0 (ai @k1 (ai @k2 @k3));refine gR ?_;clear F)
 (have F:=ai @k0 (ai @k1 (ai @k2 @k3));refine gG ?_;clear F)
 obtain ⟨E6,hre⟩:∃ E6,ZfJ [.set E5 (fun w=>Own w (.sl (ZDV k r3)) E5 u3)] [.set E6 (fun w=>Zah w [.lit (.int .i64 i0),.lit (.string t1),.lit (.int .i64 i2),.sl (ZDV k r3)] E6 [.int .i64 i0,.string t1,.int .i64 i2,u3])] :=
  ⟨_,ZEC (cs:=[.lit (.int .i64 i0),.lit (.string t1),.lit (.int .i64 i2),.sl (ZDV k r3)]) (us:=[.int .i64 i0,.string t1,.int .i64 i2,u3]) (Es:=fun _=>E5) rfl ⟨rfl,rfl,rfl,trivial⟩⟩
 refine pE [1000] [1000] hre ?_
 have F:=hk
 exact gTP (R:=fun r pm=>∃ E',r=[.one (.lit (.int .i64 (k+(cntRows r3:Nat))))]∧pm=[.set E' (fun w=>Zah w (ZEd k [.lit (.int .i64 i0),.lit (.string t1),.lit (.int .i64 i2),.sl r3]) E' [.int .i64 i0,.string t1,.int .i64 i2,u3])]) [1000] ⟨E6,rfl,by simp only [ZEd];rfl⟩
def ZE4 (f:FuncId) (rows:List (List C)):Prop:=∀ (k:Int),0<=k->k+cntRows rows<=1000000000->Con e0 f [.one (.sl (ZDV k rows)),.one (.lit (.int .i64 k))] [.one (.lit (.int .i64 (k+cntRows rows)))]
theorem ZER:∀ {rows:List (List C)} {i:Nat} {r:List C} (k:Int),rows[i]?=some r->(ZDV k rows)[i]?=some (ZD4 (k+cntRows (rows.take i)) r)
 | q::rows,0,r,k,h=>by simp at h;subst h;simp [ZDV,cntRows]
 | q::rows,i+1,r,k,h=>by
  simp only [List.getElem?_cons_succ] at h
  simp only [ZDV,List.getElem?_cons_succ,List.take_succ_cons,cntRows]
  rw [ZER _ h]
  congr 2
  omega
 | [],_,_,_,h=>by simp at h
theorem ZFG {v:Value} {k:Int} (h:ZaC (.lit v)=true):ZaC (.lit (mkV k v))=true:=by
 cases v <;> first | rfl | exact h
theorem ZEK:∀ (cs:List C) (k:Int),cs.all ZaC=true->(ZD4 k cs).all ZaC=true
 | [],_,_=>by simp [ZD4]
 | c::cs,k,h=>by
  simp only [List.all_cons,Bool.and_eq_true] at h
  simp only [ZD4,List.all_cons,Bool.and_eq_true]
  refine ⟨?_,ZEK cs _ h.2⟩
  cases c with
  | lit v=>simp only [mkC];exact ZFG h.1
  | _=>simp [mkC,ZaC]
theorem ZFy {n:Nat}:∀ {rows:List (List C)} (k:Int),ZaH n rows->ZaV n (ZDV k rows)=true
 | [],k,_=>by simp [ZDV,ZaV]
 | r::rows,k,h=>by
  have h1:=h r List.mem_cons_self
  have h2:=ZFy (k+ZD2 r) (fun x hx=>h x (List.mem_cons_of_mem _ hx):ZaH n rows)
  unfold ZaV at h2 ⊢
  simp only [ZDV,List.all_cons,Bool.and_eq_true]
  exact ⟨⟨by rw [ZEY,h1.1];exact beq_self_eq_true n,ZEK _ _ h1.2⟩,h2⟩
set_option maxRecDepth 100000 in
theorem ZFq (rows:List (List C)) (hok:Zaq (Zab .term) rows) (hmx:rows.length<=1048576) (h:∀ r∈rows,∀ i0 t1 i2 r3,r=[.lit (.int .i64 i0),.lit (.string t1),.lit (.int .i64 i2),.sl r3]->ZE4 72 r3):ZE4 72 rows:=by
 intro k hk hb
 have hrb:ZaV 4 (ZDV k rows)=true:=ZFy k hok.rowsLen
 have hml:=ZEQ k rows
 refine gI (ts:=[.slot 4]) 281612684362291 Tryz.func72 ?_
 (have F:=@e0P;refine gG ?_;clear F)
 (have F:=ai @ZD5 (ai @ZEh (ai @Int.add_zero @Int.natCast_zero));refine gL (ι:=Nat) [1,4,5,9,18,28,37,48] [] (fun x=>[(5,.d (.one (.lit (.int .i64 (x:Int))))),(1,.d (.one (.lit (.int .i64 (k+(cntRows (rows.take x):Nat))))))]) (fun x=>[]) (fun x=>x<=rows.length) (fun x=>rows.length - x) (0) (Nat.zero_le _) (fun x hx=>?_);clear F)
 by_cases hlt:x < rows.length
 ·obtain ⟨r,hr⟩:∃ r,rows[x]?=some r:=⟨_,List.getElem?_eq_getElem hlt⟩
  obtain ⟨i0,t1,i2,r3,rfl,_,_,_,g3⟩:=Zfl (hok.get hr)
  have hm:=h _ (List.mem_of_getElem? hr) i0 t1 i2 r3 rfl
  have hc1:cntRows (rows.take (x+1))=cntRows (rows.take x)+(3+cntRows r3):=by
   rw [ZD0 hr,ZEb];simp only [ZD2,cntC];omega
  have hc2:=ZD1 rows (x+1)
  have hg:=ZER k hr
  simp only [ZD4,mkC,mkV,cntC,Int.natCast_one] at hg
  have e5:k+(cntRows (rows.take (x+1)):Int)=k+(cntRows (rows.take x):Int)+1+1+1+(cntRows r3:Int):=by rw [hc1];omega
  have b1:k+(cntRows (rows.take x):Int)+3+cntRows r3<=1000000000:=by omega
  have b0:0<=k+(cntRows (rows.take x):Int):=by omega
  generalize k+(cntRows (rows.take x):Int)=kk at hg e5 b1 b0 ⊢
  have q1:((x:Int) < (rows.length:Int))=True:=eq_true om
  have w1:IntKind.i64.wrap (kk+1)=kk+1:=IntWalk.i64_in _ om
  have w2:IntKind.i64.wrap (kk+1+1)=kk+1+1:=IntWalk.i64_in _ om
  have w3:IntKind.i64.wrap (kk+1+1+1)=kk+1+1+1:=IntWalk.i64_in _ om
  have w4:IntKind.i64.wrap ((x:Int)+1)=(x:Int)+1:=IntWalk.i64_in _ om
  (have F:=ai @q1 (ai @hml (ai @hrb (ai @hg (ai @beq_self_eq_true.{0} @w1))));refine gG ?_;clear F)
  refine gB ?_
  (have F:=ai @q1 (ai @hml (ai @hrb @hg));refine gC (ZD9 (kk+1) om om) ?_;clear F)
  (have F:=ai @q1 (ai @hml (ai @hrb (ai @hg @beq_self_eq_true.{0})));refine gR ?_;clear F)
  (have F:=ai @q1 (ai @hml (ai @hrb (ai @hg (ai @beq_self_eq_true.{0} (ai @w1 (ai @w2 @w3))))));refine gG ?_;clear F)
  refine gB ?_
  (have F:=ai @q1 (ai @hml (ai @hrb @hg));refine gC (hm (kk+1+1+1) om om) ?_;clear F)
  (have F:=@q1;refine gR ?_;clear F)
  have q5:(kk+1+1+1+(cntRows r3:Int) < 0)=False:=eq_false om
  (have F:=ai @q5 (ai @w4 @e5);refine gG ?_;exact ⟨x+1,hlt,gw,gw,by omega⟩)
 ·obtain rfl:x=rows.length:=by omega
  have q1:((rows.length:Int) < (rows.length:Int))=False:=eq_false om
  rw [List.take_length]
  (have F:=ai @q1 @hml;refine gG ?_;exact gTd)
theorem ZFe (n:Nat):∀ rows,ZbT rows < n->Zaq (Zab .term) rows->rows.length+Zag rows<=1048576->ZE4 72 rows:=by
 induction n with
 | zero=>exact fun _ h=>by omega
 | succ n ih =>
  intro rows hn hok hB
  refine ZFq rows hok om fun r hr i0 t1 i2 r3 he=>?_
  subst he
  obtain ⟨i,hi⟩:=List.getElem?_of_mem hr
  have h1:=Zdt hi
  have h2:=Zc7 hi
  obtain ⟨_,_,_,_,he,_,_,_,g3⟩:=Zfl (hok.get hi)
  injection he with _ he;injection he with _ he;injection he with _ he;injection he with he _;injection he with he;subst he
  simp only [ZbD,ZeV] at h1
  simp only [Zak,ZbY] at h2
  exact ih _ om g3 om
theorem ZE0 {rows:List (List C)} (hok:Zaq (Zab .term) rows) (hB:rows.length+Zag rows<=1048576):ZE4 72 rows:=ZFe _ rows (Nat.lt_succ_self _) hok hB
theorem ZE9 {row:List C} (hok:Zan (Zab .term) row) (hB:Zak row<=1048576) (k:Int) (hk:0<=k) (hb:k+cntTop row<=1000000000):Con e0 29 [.agg (ZEd k row),.one (.lit (.int .i64 k))] [.one (.lit (.int .i64 (k+cntTop row)))]:=by
 obtain ⟨i0,t1,i2,r3,rfl,_,_,_,g3⟩:=Zfl hok
 simp only [cntTop,Nat.add_zero] at hb ⊢
 simp only [Zak,ZbY] at hB
 simp only [ZEd]
 have q5:(k+(cntRows r3:Int) < 0)=False:=eq_false om
 refine gI (ts:=[.slot 4]) 1047 Tryz.func29 ?_
 (have F:=@e0P;refine gG ?_;clear F)
 refine gB ?_
 (have F:=@q5;refine gC (ZE0 g3 om k hk hb) ?_;clear F)
 (have F:=@q5;refine gR ?_;clear F)
 (have F:=@q5;refine gG ?_;exact gTd)
theorem ZFf {row:List C} (hok:Zan (Zab .term) row) (hb:Zak row<=1048576):ConP e0 14 [.agg row] [] (Zhn row) :=
 ZEW (by kernel_rfl) hok.cells fun w S vs h=>by
  match vs,h with
  | [v],h =>
   obtain ⟨⟨us,rfl,hu⟩,_⟩:=h
   exact Zg5 row S us w hok hu hb
theorem ZEL {row:List C} (hok:Zan (sigF) row) (hb:Zak row<=1048576):ConP e0 12 [.agg row] [] (Zhn row) :=
 ZEW (by kernel_rfl) hok.cells fun w S vs h=>by
  match vs,h with
  | [v],h =>
   obtain ⟨⟨us,rfl,hu⟩,_⟩:=h
   exact Zkd row S us w hok hu hb
theorem ZES {rows:List (List C)} (hok:Zaq (Zab .binding) rows) (hb:rows.length+Zag rows<=1048576):ConP e0 21 [.one (.sl rows)] [] (ZEP rows) :=
 ZFn (by kernel_rfl) fun w S vs h=>by
  match vs,h with
  | [v],h =>
   obtain ⟨hv,_⟩:=h
   exact Zlk rows S v w hok hv hb
set_option maxRecDepth 100000 in
theorem ZET {rows:List (List C)} (hok:Zaq (Zab .str) rows):ZD7 123 rows:=by
 intro k E v hk hb
 refine gIP (ts:=[.slot 4]) [1000] 563 Tryz.func123 ?_
 (have F:=@e0P;refine gG ?_;clear F)
 by_cases hne:rows=[]
 ·subst hne
  refine pEx [1000] [1000] ZEs ?_
  rintro ⟨a,cap⟩ rfl
  (have F:=@hk;refine gL (ι:=Unit) [1,5,9] [] (fun x=>[(5,.d (.one (.lit (.int .i64 0)))),(1,.d (.one (.lit (.int .i64 k))))]) (fun x=>[]) (fun x=>True) (fun x=>0) (()) (trivial) (fun x hx=>?_);clear F)
  have q1:((0:Int) < 0)=False:=eq_false (by decide)
  have q2:((0:Int) < ((0:Nat):Int))=False:=eq_false (by decide)
  (have F:=ai @q1 @q2;refine gG ?_;clear F)
  have F:=hk
  refine gTP (R:=fun r pm=>∃ E',r=[.one (.lit (.int .i64 (k+(cntRows []:Nat))))]∧pm=[.set E' (fun w=>Own w (.sl (ZDV k [])) E' (.slice a 0 cap))]) [1000] ⟨E,by simp only [cntRows,Int.natCast_zero,Int.add_zero];rfl,by simp only [ZDV];rfl⟩
 ·have hrl:ZaH 1 rows:=Zaq.rowsLen hok
  refine pEx [1000] [1000,1001] (ZEl hne hrl) ?_
  rintro ⟨a,cap,ety,uss,E1⟩ ⟨rfl,hl,hmx⟩
  simp only at hl ⊢
  unfold maxLen at hmx
  refine pE [] [1002] ZCe ?_
  (have F:=ai @ZD5 (ai @ZEh (ai @Int.add_zero @Int.natCast_zero));refine gL (ι:=Nat × List (List Value) × (Nat->Prop) × (Nat->Prop)) [1,5,9] [1000,1001,1002] (fun x=>[(5,.d (.one (.lit (.int .i64 (x.1:Int))))),(1,.d (.one (.lit (.int .i64 (k+(cntRows (rows.take x.1):Nat))))))]) (fun x=>[(1000,.buf (some (a,cap)) ety 1 (x.2.1.map Za4)),(1001,.set x.2.2.1 (fun w=>Zbp w (rows.drop x.1) x.2.2.1 (x.2.1.drop x.1))),(1002,.set x.2.2.2 (fun w=>Zbp w (ZDV k (rows.take x.1)) x.2.2.2 (x.2.1.take x.1)))]) (fun x=>x.1<=rows.length∧x.2.1.length=rows.length) (fun x=>rows.length - x.1) ((0,uss,E1,fun _=>False)) (⟨Nat.zero_le _,hl⟩) (fun x hx=>?_);clear F)
  obtain ⟨i,us,E2,E3⟩:=x
  obtain ⟨hi,hn⟩:=hx
  simp only at hi hn
  dsimp only
  by_cases hlt:i < rows.length
  ·obtain ⟨r,hr⟩:∃ r,rows[i]?=some r:=⟨_,List.getElem?_eq_getElem hlt⟩
   obtain ⟨u,hu⟩:∃ u,us[i]?=some u:=⟨_,List.getElem?_eq_getElem om⟩
   obtain ⟨t0,rfl,g0⟩:=Zei (hok.get hr)
   have hc1:cntRows (rows.take (i+1))=cntRows (rows.take i)+(1):=by
    rw [ZD0 hr,ZEb];simp only [ZD2,cntC];try omega
   have hc2:=ZD1 rows (i+1)
   rw [ZDZ hr,ZDZ hu]
   refine pEx [1001] [1001] (ZEm rfl) ?_
   rintro ⟨⟩ hlit
   obtain rfl:u=[.string t0]:=by
    match u,hlit with
    | [_],⟨rfl,_⟩=>rfl
   refine pEx (f:=fun (x:(Nat->Prop) × (Nat->Nat->Prop))=>[.set x.1 (fun w=>Zbp w (rows.drop (i+1)) x.1 (us.drop (i+1)))]) [1001] [1001] (ZEu rfl) ?_
   rintro ⟨E4,Es⟩ -
   dsimp only
   have hkk0:0<=k+(cntRows (rows.take i):Int):=by omega
   have hkk1:k+(cntRows (rows.take i):Int)+((1:Nat):Int)<=1000000000:=by omega
   generalize hkk:k+(cntRows (rows.take i):Int)=kk at hkk0 hkk1 ⊢
   have q1:((i:Int) < (rows.length:Int))=True:=eq_true om
   have q2:i < rows.length:=hlt
   have hs:∀ X:List C,((us.map Za4).set i X)[i]?=some X:=fun X=>ZEq (by rw [Zx6,hn];omega) X
   have lr:Za4 [.string t0]=[.lit (.string t0)]:=rfl
   have w0:IntKind.i64.wrap (kk+1)=kk+1:=IntWalk.i64_in _ om
   have wi:IntKind.i64.wrap ((i:Int)+1)=(i:Int)+1:=IntWalk.i64_in _ om
   (have F:=ai @q1 (ai @hl (ai @hn (ai @hu (ai @lr (ai @Zx6 (ai @ZDW (ai @hs (ai @w0 (ai @q2 @ZDX)))))))));refine gG ?_;clear F)
   refine gB ?_
   (have F:=ai @q1 (ai @hl (ai @hn (ai @hu (ai @lr (ai @Zx6 (ai @ZDW (ai @hs (ai @w0 (ai @q2 @ZDX)))))))));refine gC (ZD9 (kk) om om) ?_;clear F)
   (have F:=ai @q1 (ai @hl (ai @hn (ai @hu (ai @lr (ai @Zx6 (ai @ZDW (ai @hs (ai @w0 (ai @q2 @ZDX)))))))));refine gR ?_;clear F)
   obtain ⟨E6,hre⟩:∃ E6,ZfJ [.set E3 (fun w=>Zbp w (ZDV k (rows.take i)) E3 (us.take i))] [.set E6 (fun w=>Zbp w (ZDV k (rows.take (i+1))) E6 ((us.set i [.string (txt (kk))]).take (i+1)))]:=by
    have hz:=ZEv (E:=E3) (done:=ZDV k (rows.take i)) (ud:=us.take i) (cs:=[.lit (.string (txt (kk)))]) (us:=[.string (txt (kk))]) (Es:=fun _ _=>False) rfl ⟨rfl,trivial⟩
    rw [ZD0 hr,ZD3,hkk,ZEf om]
    simp only [ZD4,mkC,mkV,cntC,Int.natCast_one]
    exact ⟨_,hz⟩
   refine pE [1002] [1002] hre ?_
   have e1:((us.set i [.string (txt (kk))]).map Za4)=(us.map Za4).set i [.lit (.string (txt (kk)))]:=by rw [List.map_set];rfl
   have e2:=ZEg us i [.string (txt (kk))]
   have e5:k+(cntRows (rows.take (i+1)):Int)=kk+1:=by rw [hc1];omega
   have hn2:(us.set i [.string (txt (kk))]).length=rows.length:=by rw [ZDW,hn]
   generalize us.set i [.string (txt (kk))]=us2 at e1 e2 hn2 ⊢
   rw [<- e1,<- e2]
   (have F:=ai @wi (ai @e5 (ai @hl (ai @w0 @hn)));refine gG ?_;exact ⟨(i+1,us2,E4,E6),⟨hlt,hn2⟩,gw,gw,by omega⟩)
  ·obtain rfl:i=rows.length:=by omega
   have q1:((rows.length:Int) < (rows.length:Int))=False:=eq_false om
   rw [List.take_length,List.take_of_length_le (Nat.le_of_eq hn)]
   (have F:=ai @q1 (ai @hl @hn);refine gG ?_;clear F)
   obtain ⟨E6,hre⟩:∃ E6,ZfJ [.buf (some (a,cap)) ety 1 (us.map Za4),.set E3 (fun w=>Zbp w (ZDV k rows) E3 us)] [.set E6 (fun w=>Own w (.sl (ZDV k rows)) E6 (.slice a uss.length cap))]:=by
    rw [hl,<- hn]
    exact ⟨_,Zx3 (fun w h=>h) (Own.stable _ _ _)⟩
   refine pE [1000,1002] [1000] hre ?_
   have F:=hk
   exact gTP (R:=fun r pm=>∃ E',r=[.one (.lit (.int .i64 (k+(cntRows rows:Nat))))]∧pm=[.set E' (fun w=>Own w (.sl (ZDV k rows)) E' (.slice a uss.length cap))]) [1000] ⟨E6,rfl,rfl⟩
theorem ZEU {rows:List (List C)} (hok:Zaq (Zab .str) rows):ZD7 123 rows:=ZET hok
set_option maxRecDepth 100000 in
theorem ZFa {rows:List (List C)} (hok:Zaq (Zab .sub) rows):ZD7 124 rows:=by
 intro k E v hk hb
 refine gIP (ts:=[.slot 4]) [1000] 563 Tryz.func124 ?_
 (have F:=@e0P;refine gG ?_;clear F)
 by_cases hne:rows=[]
 ·subst hne
  refine pEx [1000] [1000] ZEs ?_
  rintro ⟨a,cap⟩ rfl
  (have F:=@hk;refine gL (ι:=Unit) [1,5,9] [] (fun x=>[(5,.d (.one (.lit (.int .i64 0)))),(1,.d (.one (.lit (.int .i64 k))))]) (fun x=>[]) (fun x=>True) (fun x=>0) (()) (trivial) (fun x hx=>?_);clear F)
  have q1:((0:Int) < 0)=False:=eq_false (by decide)
  have q2:((0:Int) < ((0:Nat):Int))=False:=eq_false (by decide)
  (have F:=ai @q1 @q2;refine gG ?_;clear F)
  have F:=hk
  refine gTP (R:=fun r pm=>∃ E',r=[.one (.lit (.int .i64 (k+(cntRows []:Nat))))]∧pm=[.set E' (fun w=>Own w (.sl (ZDV k [])) E' (.slice a 0 cap))]) [1000] ⟨E,by simp only [cntRows,Int.natCast_zero,Int.add_zero];rfl,by simp only [ZDV];rfl⟩
 ·have hrl:ZaH 2 rows:=Zaq.rowsLen hok
  refine pEx [1000] [1000,1001] (ZEl hne hrl) ?_
  rintro ⟨a,cap,ety,uss,E1⟩ ⟨rfl,hl,hmx⟩
  simp only at hl ⊢
  unfold maxLen at hmx
  refine pE [] [1002] ZCe ?_
  (have F:=ai @ZD5 (ai @ZEh (ai @Int.add_zero @Int.natCast_zero));refine gL (ι:=Nat × List (List Value) × (Nat->Prop) × (Nat->Prop)) [1,5,9] [1000,1001,1002] (fun x=>[(5,.d (.one (.lit (.int .i64 (x.1:Int))))),(1,.d (.one (.lit (.int .i64 (k+(cntRows (rows.take x.1):Nat))))))]) (fun x=>[(1000,.buf (some (a,cap)) ety 2 (x.2.1.map Za4)),(1001,.set x.2.2.1 (fun w=>Zbp w (rows.drop x.1) x.2.2.1 (x.2.1.drop x.1))),(1002,.set x.2.2.2 (fun w=>Zbp w (ZDV k (rows.take x.1)) x.2.2.2 (x.2.1.take x.1)))]) (fun x=>x.1<=rows.length∧x.2.1.length=rows.length) (fun x=>rows.length - x.1) ((0,uss,E1,fun _=>False)) (⟨Nat.zero_le _,hl⟩) (fun x hx=>?_);clear F)
  obtain ⟨i,us,E2,E3⟩:=x
  obtain ⟨hi,hn⟩:=hx
  simp only at hi hn
  dsimp only
  by_cases hlt:i < rows.length
  ·obtain ⟨r,hr⟩:∃ r,rows[i]?=some r:=⟨_,List.getElem?_eq_getElem hlt⟩
   obtain ⟨u,hu⟩:∃ u,us[i]?=some u:=⟨_,List.getElem?_eq_getElem om⟩
   obtain ⟨i0,i1,rfl,g0,g1⟩:=Zf7 (hok.get hr)
   have hc1:cntRows (rows.take (i+1))=cntRows (rows.take i)+(2):=by
    rw [ZD0 hr,ZEb];simp only [ZD2,cntC];try omega
   have hc2:=ZD1 rows (i+1)
   rw [ZDZ hr,ZDZ hu]
   refine pEx [1001] [1001] (ZEm rfl) ?_
   rintro ⟨⟩ hlit
   obtain rfl:u=[.int .i64 i0,.int .i64 i1]:=by
    match u,hlit with
    | [_,_],⟨rfl,rfl,_⟩=>rfl
   refine pEx (f:=fun (x:(Nat->Prop) × (Nat->Nat->Prop))=>[.set x.1 (fun w=>Zbp w (rows.drop (i+1)) x.1 (us.drop (i+1)))]) [1001] [1001] (ZEu rfl) ?_
   rintro ⟨E4,Es⟩ -
   dsimp only
   have hkk0:0<=k+(cntRows (rows.take i):Int):=by omega
   have hkk1:k+(cntRows (rows.take i):Int)+((2:Nat):Int)<=1000000000:=by omega
   generalize hkk:k+(cntRows (rows.take i):Int)=kk at hkk0 hkk1 ⊢
   have q1:((i:Int) < (rows.length:Int))=True:=eq_true om
   have q2:i < rows.length:=hlt
   have hs:∀ X:List C,((us.map Za4).set i X)[i]?=some X:=fun X=>ZEq (by rw [Zx6,hn];omega) X
   have lr:Za4 [.int .i64 i0,.int .i64 i1]=[.lit (.int .i64 i0),.lit (.int .i64 i1)]:=rfl
   have w0:IntKind.i64.wrap (kk+1)=kk+1:=IntWalk.i64_in _ om
   have w1:IntKind.i64.wrap (kk+1+1)=kk+1+1:=IntWalk.i64_in _ om
   have wi:IntKind.i64.wrap ((i:Int)+1)=(i:Int)+1:=IntWalk.i64_in _ om
   (have F:=ai @q1 (ai @hl (ai @hn (ai @hu (ai @lr (ai @Zx6 (ai @ZDW (ai @hs (ai @w0 (ai @w1 (ai @q2 @ZDX))))))))));have NN:Zai 3:=trivial;refine gGn ?_;clear F NN)
   obtain ⟨E6,hre⟩:∃ E6,ZfJ [.set E3 (fun w=>Zbp w (ZDV k (rows.take i)) E3 (us.take i))] [.set E6 (fun w=>Zbp w (ZDV k (rows.take (i+1))) E6 ((us.set i [.int .i64 (kk),.int .i64 (kk+1)]).take (i+1)))]:=by
    have hz:=ZEv (E:=E3) (done:=ZDV k (rows.take i)) (ud:=us.take i) (cs:=[.lit (.int .i64 (kk)),.lit (.int .i64 (kk+1))]) (us:=[.int .i64 (kk),.int .i64 (kk+1)]) (Es:=fun _ _=>False) rfl ⟨rfl,rfl,trivial⟩
    rw [ZD0 hr,ZD3,hkk,ZEf om]
    simp only [ZD4,mkC,mkV,cntC,Int.natCast_one]
    exact ⟨_,hz⟩
   refine pE [1002] [1002] hre ?_
   have e1:((us.set i [.int .i64 (kk),.int .i64 (kk+1)]).map Za4)=(us.map Za4).set i [.lit (.int .i64 (kk)),.lit (.int .i64 (kk+1))]:=by rw [List.map_set];rfl
   have e2:=ZEg us i [.int .i64 (kk),.int .i64 (kk+1)]
   have e5:k+(cntRows (rows.take (i+1)):Int)=kk+1+1:=by rw [hc1];omega
   have hn2:(us.set i [.int .i64 (kk),.int .i64 (kk+1)]).length=rows.length:=by rw [ZDW,hn]
   generalize us.set i [.int .i64 (kk),.int .i64 (kk+1)]=us2 at e1 e2 hn2 ⊢
   rw [<- e1,<- e2]
   (have F:=ai @wi (ai @e5 (ai @hl (ai @w0 (ai @w1 @hn))));refine gG ?_;exact ⟨(i+1,us2,E4,E6),⟨hlt,hn2⟩,gw,gw,by omega⟩)
  ·obtain rfl:i=rows.length:=by omega
   have q1:((rows.length:Int) < (rows.length:Int))=False:=eq_false om
   rw [List.take_length,List.take_of_length_le (Nat.le_of_eq hn)]
   (have F:=ai @q1 (ai @hl @hn);refine gG ?_;clear F)
   obtain ⟨E6,hre⟩:∃ E6,ZfJ [.buf (some (a,cap)) ety 2 (us.map Za4),.set E3 (fun w=>Zbp w (ZDV k rows) E3 us)] [.set E6 (fun w=>Own w (.sl (ZDV k rows)) E6 (.slice a uss.length cap))]:=by
    rw [hl,<- hn]
    exact ⟨_,Zx3 (fun w h=>h) (Own.stable _ _ _)⟩
   refine pE [1000,1002] [1000] hre ?_
   have F:=hk
   exact gTP (R:=fun r pm=>∃ E',r=[.one (.lit (.int .i64 (k+(cntRows rows:Nat))))]∧pm=[.set E' (fun w=>Own w (.sl (ZDV k rows)) E' (.slice a uss.length cap))]) [1000] ⟨E6,rfl,rfl⟩
theorem ZFb {rows:List (List C)} (hok:Zaq (Zab .sub) rows):ZD7 124 rows:=ZFa hok
set_option maxRecDepth 100000 in
theorem ZE1 {row:List C} (hok:Zan (Zbe) row):ZFp 68 row:=by
 obtain ⟨r0,r1,rfl,g0,g1⟩:=Zgj hok
 intro kk E us hl hc hk hb
 obtain ⟨u0,u1,rfl⟩:=len2 hl
 have kc:ZaC (.lit u0)=true∧ZaC (.lit u1)=true:=by simpa [Za4,Bool.and_eq_true,and_assoc] using hc
 obtain ⟨k0,k1⟩:=kc
 simp only [cntTop,Nat.add_zero] at hb ⊢
 have lr:Za4 [u0,u1]=[.lit u0,.lit u1]:=rfl
 rw [lr]
 refine gIP (ts:=[.slot 4]) [1000] 23 Tryz.func68 ?_
 refine pEx (f:=fun (x:Nat->Nat->Prop)=>[.set (x 0) (fun w=>Own w (.sl r0) (x 0) u0),.set (x 1) (fun w=>Own w (.sl r1) (x 1) u1)]) [1000] [1003,1004] (ZEB rfl) ?_
 rintro Es -
 try dsimp only
 (have F:=ai @lr (ai @k0 @k1);refine gG ?_;clear F)
 refine gB ?_
 (have F:=ai @lr (ai @k0 @k1);refine gCP [1003] [1003] (ZEU g0 (kk) (Es 0) u0 om om) ?_;clear F)
 rintro r pm ⟨F0,rfl,rfl⟩
 simp only [setA,retA,zipM,List.cons_append,List.nil_append]
 (have F:=ai @lr (ai @k0 @k1);refine gR ?_;clear F)
 (have F:=ai @lr (ai @k0 @k1);refine gG ?_;clear F)
 refine gB ?_
 (have F:=ai @lr (ai @k0 @k1);refine gCP [1004] [1004] (ZFb g1 (kk+(cntRows r0:Int)) (Es 1) u1 om om) ?_;clear F)
 rintro r pm ⟨F1,rfl,rfl⟩
 simp only [setA,retA,zipM,List.cons_append,List.nil_append]
 (have F:=ai @lr (ai @k0 @k1);refine gR ?_;clear F)
 (have F:=ai @lr (ai @k0 @k1);refine gG ?_;clear F)
 obtain ⟨E6,hre⟩:∃ E6,ZfJ [.set F0 (fun w=>Own w (.sl (ZDV (kk) r0)) F0 u0),.set F1 (fun w=>Own w (.sl (ZDV (kk+(cntRows r0:Int)) r1)) F1 u1)] [.set E6 (fun w=>Zah w [.sl (ZDV (kk) r0),.sl (ZDV (kk+(cntRows r0:Int)) r1)] E6 [u0,u1])]:=⟨_,ZEC (cs:=[.sl (ZDV (kk) r0),.sl (ZDV (kk+(cntRows r0:Int)) r1)]) (us:=[u0,u1]) (Es:=fun k=>match k with | 0=>F0 | _=>F1) rfl trivial⟩
 refine pE [1003,1004] [1000] hre ?_
 have F:=hk
 have ee:kk+(cntRows r0:Int)+(cntRows r1:Int)=kk+((cntRows r0+(cntRows r1):Nat):Int):=by omega
 rw [ee]
 exact gTP (R:=fun r pm=>∃ E',r=[.one (.lit (.int .i64 (kk+((cntRows r0+(cntRows r1):Nat):Int))))]∧pm=[.set E' (fun w=>Zah w (ZEd kk [.sl r0,.sl r1]) E' [u0,u1])]) [1000] ⟨E6,rfl,by simp only [ZEd];rfl⟩
theorem ZFl (u0:Value):Za4 [u0]=[.lit u0]:=rfl
set_option maxRecDepth 100000 in
theorem ZFu {rows:List (List C)} (hok:Zaq (Zab .int) rows):ZD7 186 rows:=by
 intro k E v hk hb
 refine gIP (ts:=[.slot 4]) [1000] 563 Tryz.func186 ?_
 (have F:=@e0P;refine gG ?_;clear F)
 by_cases hne:rows=[]
 ·subst hne
  refine pEx [1000] [1000] ZEs ?_
  rintro ⟨a,cap⟩ rfl
  (have F:=@hk;refine gL (ι:=Unit) [1,5,9] [] (fun x=>[(5,.d (.one (.lit (.int .i64 0)))),(1,.d (.one (.lit (.int .i64 k))))]) (fun x=>[]) (fun x=>True) (fun x=>0) (()) (trivial) (fun x hx=>?_);clear F)
  have q1:((0:Int) < 0)=False:=eq_false (by decide)
  have q2:((0:Int) < ((0:Nat):Int))=False:=eq_false (by decide)
  (have F:=ai @q1 @q2;refine gG ?_;clear F)
  have F:=hk
  refine gTP (R:=fun r pm=>∃ E',r=[.one (.lit (.int .i64 (k+(cntRows []:Nat))))]∧pm=[.set E' (fun w=>Own w (.sl (ZDV k [])) E' (.slice a 0 cap))]) [1000] ⟨E,by simp only [cntRows,Int.natCast_zero,Int.add_zero];rfl,by simp only [ZDV];rfl⟩
 ·have hrl:ZaH 1 rows:=Zaq.rowsLen hok
  refine pEx [1000] [1000,1001] (ZEl hne hrl) ?_
  rintro ⟨a,cap,ety,uss,E1⟩ ⟨rfl,hl,hmx⟩
  simp only at hl ⊢
  unfold maxLen at hmx
  refine pE [] [1002] ZCe ?_
  (have F:=ai @ZD5 (ai @ZEh (ai @Int.add_zero @Int.natCast_zero));refine gL (ι:=Nat × List (List Value) × (Nat->Prop) × (Nat->Prop)) [1,5,9] [1000,1001,1002] (fun x=>[(5,.d (.one (.lit (.int .i64 (x.1:Int))))),(1,.d (.one (.lit (.int .i64 (k+(cntRows (rows.take x.1):Nat))))))]) (fun x=>[(1000,.buf (some (a,cap)) ety 1 (x.2.1.map Za4)),(1001,.set x.2.2.1 (fun w=>Zbp w (rows.drop x.1) x.2.2.1 (x.2.1.drop x.1))),(1002,.set x.2.2.2 (fun w=>Zbp w (ZDV k (rows.take x.1)) x.2.2.2 (x.2.1.take x.1)))]) (fun x=>x.1<=rows.length∧x.2.1.length=rows.length) (fun x=>rows.length - x.1) ((0,uss,E1,fun _=>False)) (⟨Nat.zero_le _,hl⟩) (fun x hx=>?_);clear F)
  obtain ⟨i,us,E2,E3⟩:=x
  obtain ⟨hi,hn⟩:=hx
  simp only at hi hn
  dsimp only
  by_cases hlt:i < rows.length
  ·obtain ⟨r,hr⟩:∃ r,rows[i]?=some r:=⟨_,List.getElem?_eq_getElem hlt⟩
   obtain ⟨u,hu⟩:∃ u,us[i]?=some u:=⟨_,List.getElem?_eq_getElem om⟩
   obtain ⟨i0,rfl,_⟩:=Zf8 (hok.get hr)
   have hc1:cntRows (rows.take (i+1))=cntRows (rows.take i)+1:=by
    rw [ZD0 hr,ZEb];simp only [ZD2,cntC]
   have hc2:=ZD1 rows (i+1)
   rw [ZDZ hr,ZDZ hu]
   refine pEx [1001] [1001] (ZEm rfl) ?_
   rintro ⟨⟩ hlit
   obtain rfl:u=[.int .i64 i0]:=by
    match u,hlit with
    | [_],⟨rfl,_⟩=>rfl
   refine pEx (f:=fun (x:(Nat->Prop) × (Nat->Nat->Prop))=>[.set x.1 (fun w=>Zbp w (rows.drop (i+1)) x.1 (us.drop (i+1)))]) [1001] [1001] (ZEu rfl) ?_
   rintro ⟨E4,Es⟩ -
   dsimp only
   generalize hkk:k+(cntRows (rows.take i):Int)=kk
   have q1:((i:Int) < (rows.length:Int))=True:=eq_true om
   have q2:i < rows.length:=hlt
   have w1:IntKind.i64.wrap (kk+1)=kk+1:=IntWalk.i64_in _ om
   have w4:IntKind.i64.wrap ((i:Int)+1)=(i:Int)+1:=IntWalk.i64_in _ om
   (have F:=ai @q1 (ai @hl (ai @hn (ai @hu (ai @ZFl (ai @Zx6 (ai @ZDW (ai @w1 @q2)))))));have NN:Zai 3:=trivial;refine gGn ?_;clear F NN)
   obtain ⟨E6,hre⟩:∃ E6,ZfJ [.set E3 (fun w=>Zbp w (ZDV k (rows.take i)) E3 (us.take i))] [.set E6 (fun w=>Zbp w (ZDV k (rows.take (i+1))) E6 ((us.set i [.int .i64 kk]).take (i+1)))]:=by
    have hz:=ZEv (E:=E3) (done:=ZDV k (rows.take i)) (ud:=us.take i) (cs:=[.lit (.int .i64 kk)]) (us:=[.int .i64 kk]) (Es:=fun _ _=>False) rfl ⟨rfl,trivial⟩
    rw [ZD0 hr,ZD3,hkk,ZEf om]
    simp only [ZD4,mkC,mkV]
    exact ⟨_,hz⟩
   refine pE [1002] [1002] hre ?_
   have e1:((us.set i [.int .i64 kk]).map Za4)=(us.map Za4).set i [.lit (.int .i64 kk)]:=by rw [List.map_set,ZFl]
   have e2:=ZEg us i [.int .i64 kk]
   have e5:k+(cntRows (rows.take (i+1)):Int)=kk+1:=by rw [hc1];omega
   have hn2:(us.set i [.int .i64 kk]).length=rows.length:=by rw [ZDW,hn]
   generalize us.set i [.int .i64 kk]=us2 at e1 e2 hn2 ⊢
   rw [<- e1,<- e2]
   (have F:=ai @w4 (ai @e5 @hl);refine gG ?_;exact ⟨(i+1,us2,E4,E6),⟨hlt,hn2⟩,gw,gw,by omega⟩)
  ·obtain rfl:i=rows.length:=by omega
   have q1:((rows.length:Int) < (rows.length:Int))=False:=eq_false om
   rw [List.take_length,List.take_of_length_le (Nat.le_of_eq hn)]
   (have F:=ai @q1 (ai @hl @hn);refine gG ?_;clear F)
   obtain ⟨E6,hre⟩:∃ E6,ZfJ [.buf (some (a,cap)) ety 1 (us.map Za4),.set E3 (fun w=>Zbp w (ZDV k rows) E3 us)] [.set E6 (fun w=>Own w (.sl (ZDV k rows)) E6 (.slice a uss.length cap))]:=by
    rw [hl,<- hn]
    exact ⟨_,Zx3 (fun w h=>h) (Own.stable _ _ _)⟩
   refine pE [1000,1002] [1000] hre ?_
   have F:=hk
   exact gTP (R:=fun r pm=>∃ E',r=[.one (.lit (.int .i64 (k+(cntRows rows:Nat))))]∧pm=[.set E' (fun w=>Own w (.sl (ZDV k rows)) E' (.slice a uss.length cap))]) [1000] ⟨E6,rfl,rfl⟩
theorem ZFc {rows:List (List C)} (hok:Zaq (Zab .int) rows):ZD7 186 rows:=ZFu hok
set_option maxRecDepth 100000 in
theorem ZE2 {rows:List (List C)} (hok:Zaq (Zab .decl) rows):ZD7 125 rows:=by
 intro k E v hk hb
 refine gIP (ts:=[.slot 4]) [1000] 563 Tryz.func125 ?_
 (have F:=@e0P;refine gG ?_;clear F)
 by_cases hne:rows=[]
 ·subst hne
  refine pEx [1000] [1000] ZEs ?_
  rintro ⟨a,cap⟩ rfl
  (have F:=@hk;refine gL (ι:=Unit) [1,5,9] [] (fun x=>[(5,.d (.one (.lit (.int .i64 0)))),(1,.d (.one (.lit (.int .i64 k))))]) (fun x=>[]) (fun x=>True) (fun x=>0) (()) (trivial) (fun x hx=>?_);clear F)
  have q1:((0:Int) < 0)=False:=eq_false (by decide)
  have q2:((0:Int) < ((0:Nat):Int))=False:=eq_false (by decide)
  (have F:=ai @q1 @q2;refine gG ?_;clear F)
  have F:=hk
  refine gTP (R:=fun r pm=>∃ E',r=[.one (.lit (.int .i64 (k+(cntRows []:Nat))))]∧pm=[.set E' (fun w=>Own w (.sl (ZDV k [])) E' (.slice a 0 cap))]) [1000] ⟨E,by simp only [cntRows,Int.natCast_zero,Int.add_zero];rfl,by simp only [ZDV];rfl⟩
 ·have hrl:ZaH 2 rows:=Zaq.rowsLen hok
  refine pEx [1000] [1000,1001] (ZEl hne hrl) ?_
  rintro ⟨a,cap,ety,uss,E1⟩ ⟨rfl,hl,hmx⟩
  simp only at hl ⊢
  unfold maxLen at hmx
  refine pE [] [1002] ZCe ?_
  (have F:=ai @ZD5 (ai @ZEh (ai @Int.add_zero @Int.natCast_zero));refine gL (ι:=Nat × List (List Value) × (Nat->Prop) × (Nat->Prop)) [1,5,9] [1000,1001,1002] (fun x=>[(5,.d (.one (.lit (.int .i64 (x.1:Int))))),(1,.d (.one (.lit (.int .i64 (k+(cntRows (rows.take x.1):Nat))))))]) (fun x=>[(1000,.buf (some (a,cap)) ety 2 (x.2.1.map Za4)),(1001,.set x.2.2.1 (fun w=>Zbp w (rows.drop x.1) x.2.2.1 (x.2.1.drop x.1))),(1002,.set x.2.2.2 (fun w=>Zbp w (ZDV k (rows.take x.1)) x.2.2.2 (x.2.1.take x.1)))]) (fun x=>x.1<=rows.length∧x.2.1.length=rows.length) (fun x=>rows.length - x.1) ((0,uss,E1,fun _=>False)) (⟨Nat.zero_le _,hl⟩) (fun x hx=>?_);clear F)
  obtain ⟨i,us,E2,E3⟩:=x
  obtain ⟨hi,hn⟩:=hx
  simp only at hi hn
  dsimp only
  by_cases hlt:i < rows.length
  ·obtain ⟨r,hr⟩:∃ r,rows[i]?=some r:=⟨_,List.getElem?_eq_getElem hlt⟩
   obtain ⟨u,hu⟩:∃ u,us[i]?=some u:=⟨_,List.getElem?_eq_getElem om⟩
   obtain ⟨r0,i1,rfl,g0,g1⟩:=Zfj (hok.get hr)
   have hm0:=ZFc g0
   have hc1:cntRows (rows.take (i+1))=cntRows (rows.take i)+(1+cntRows r0):=by
    rw [ZD0 hr,ZEb];simp only [ZD2,cntC];try omega
   have hc2:=ZD1 rows (i+1)
   rw [ZDZ hr,ZDZ hu]
   refine pEx [1001] [1001] (ZEm rfl) ?_
   rintro ⟨⟩ hlit
   obtain ⟨u0,rfl⟩:∃ u0,u=[u0,.int .i64 i1]:=by
    match u,hlit with
    | [u0,_],⟨rfl,_⟩=>exact ⟨u0,rfl⟩
   refine pEx (f:=fun (x:(Nat->Prop) × (Nat->Nat->Prop))=>[.set x.1 (fun w=>Zbp w (rows.drop (i+1)) x.1 (us.drop (i+1))),.set (x.2 0) (fun w=>Own w (.sl r0) (x.2 0) u0)]) [1001] [1001,1003] (ZEu rfl) ?_
   rintro ⟨E4,Es⟩ -
   dsimp only
   have hkk0:0<=k+(cntRows (rows.take i):Int):=by omega
   have hkk1:k+(cntRows (rows.take i):Int)+((1+cntRows r0:Nat):Int)<=1000000000:=by omega
   generalize hkk:k+(cntRows (rows.take i):Int)=kk at hkk0 hkk1 ⊢
   have q1:((i:Int) < (rows.length:Int))=True:=eq_true om
   have q2:i < rows.length:=hlt
   have hs:∀ X:List C,((us.map Za4).set i X)[i]?=some X:=fun X=>ZEq (by rw [Zx6,hn];omega) X
   have lr:Za4 [u0,.int .i64 i1]=[.lit (u0),.lit (.int .i64 i1)]:=rfl
   have w1:IntKind.i64.wrap (kk+(cntRows r0:Int)+1)=kk+(cntRows r0:Int)+1:=IntWalk.i64_in _ om
   have wi:IntKind.i64.wrap ((i:Int)+1)=(i:Int)+1:=IntWalk.i64_in _ om
   (have F:=ai @q1 (ai @hl (ai @hn (ai @hu (ai @lr (ai @Zx6 (ai @ZDW (ai @hs (ai @w1 (ai @q2 @ZDX)))))))));refine gG ?_;clear F)
   refine gB ?_
   (have F:=ai @q1 (ai @hl (ai @hn (ai @hu (ai @lr (ai @Zx6 (ai @ZDW (ai @hs (ai @w1 (ai @q2 @ZDX)))))))));refine gCP [1003] [1003] (hm0 (kk) (Es 0) u0 om om) ?_;clear F)
   rintro r pm ⟨F0,rfl,rfl⟩
   simp only [setA,retA,zipM,List.cons_append,List.nil_append]
   (have F:=ai @q1 (ai @hl (ai @hn (ai @hu (ai @lr (ai @Zx6 (ai @ZDW (ai @hs (ai @w1 (ai @q2 @ZDX)))))))));refine gR ?_;clear F)
   (have F:=ai @q1 (ai @hl (ai @hn (ai @hu (ai @lr (ai @Zx6 (ai @ZDW (ai @hs (ai @w1 (ai @q2 @ZDX)))))))));have NN:Zai 3:=trivial;refine gGn ?_;clear F NN)
   obtain ⟨E6,hre⟩:∃ E6,ZfJ [.set E3 (fun w=>Zbp w (ZDV k (rows.take i)) E3 (us.take i)),.set F0 (fun w=>Own w (.sl (ZDV (kk) r0)) F0 u0)] [.set E6 (fun w=>Zbp w (ZDV k (rows.take (i+1))) E6 ((us.set i [u0,.int .i64 (kk+(cntRows r0:Int))]).take (i+1)))]:=by
    have hz:=ZEv (E:=E3) (done:=ZDV k (rows.take i)) (ud:=us.take i) (cs:=[.sl (ZDV (kk) r0),.lit (.int .i64 (kk+(cntRows r0:Int)))]) (us:=[u0,.int .i64 (kk+(cntRows r0:Int))]) (Es:=fun _=>F0) rfl ⟨rfl,trivial⟩
    rw [ZD0 hr,ZD3,hkk,ZEf om]
    simp only [ZD4,mkC,mkV,cntC,Int.natCast_one]
    exact ⟨_,hz⟩
   refine pE [1002,1003] [1002] hre ?_
   have e1:((us.set i [u0,.int .i64 (kk+(cntRows r0:Int))]).map Za4)=(us.map Za4).set i [.lit (u0),.lit (.int .i64 (kk+(cntRows r0:Int)))]:=by rw [List.map_set];rfl
   have e2:=ZEg us i [u0,.int .i64 (kk+(cntRows r0:Int))]
   have e5:k+(cntRows (rows.take (i+1)):Int)=kk+(cntRows r0:Int)+1:=by rw [hc1];omega
   have hn2:(us.set i [u0,.int .i64 (kk+(cntRows r0:Int))]).length=rows.length:=by rw [ZDW,hn]
   generalize us.set i [u0,.int .i64 (kk+(cntRows r0:Int))]=us2 at e1 e2 hn2 ⊢
   rw [<- e1,<- e2]
   (have F:=ai @wi (ai @e5 (ai @hl (ai @w1 @hn)));refine gG ?_;exact ⟨(i+1,us2,E4,E6),⟨hlt,hn2⟩,gw,gw,by omega⟩)
  ·obtain rfl:i=rows.length:=by omega
   have q1:((rows.length:Int) < (rows.length:Int))=False:=eq_false om
   rw [List.take_length,List.take_of_length_le (Nat.le_of_eq hn)]
   (have F:=ai @q1 (ai @hl @hn);refine gG ?_;clear F)
   obtain ⟨E6,hre⟩:∃ E6,ZfJ [.buf (some (a,cap)) ety 2 (us.map Za4),.set E3 (fun w=>Zbp w (ZDV k rows) E3 us)] [.set E6 (fun w=>Own w (.sl (ZDV k rows)) E6 (.slice a uss.length cap))]:=by
    rw [hl,<- hn]
    exact ⟨_,Zx3 (fun w h=>h) (Own.stable _ _ _)⟩
   refine pE [1000,1002] [1000] hre ?_
   have F:=hk
   exact gTP (R:=fun r pm=>∃ E',r=[.one (.lit (.int .i64 (k+(cntRows rows:Nat))))]∧pm=[.set E' (fun w=>Own w (.sl (ZDV k rows)) E' (.slice a uss.length cap))]) [1000] ⟨E6,rfl,rfl⟩
theorem ZE3 {rows:List (List C)} (hok:Zaq (Zab .decl) rows):ZD7 125 rows:=ZE2 hok
theorem ZFm {k:Int} (h:0<=k):decide (k.tmod 3=0)=(k % 3==0):=by rw [Int.tmod_eq_emod_of_nonneg h,Bool.eq_iff_iff];simp
set_option maxRecDepth 100000 in
theorem ZFg {rows:List (List C)} (hok:Zaq (Zab .op) rows):ZD7 69 rows:=by
 intro k E v hk hb
 refine gIP (ts:=[.slot 4]) [1000] 563 Tryz.func69 ?_
 (have F:=@e0P;refine gG ?_;clear F)
 by_cases hne:rows=[]
 ·subst hne
  refine pEx [1000] [1000] ZEs ?_
  rintro ⟨a,cap⟩ rfl
  (have F:=@hk;refine gL (ι:=Unit) [1,5,9] [] (fun x=>[(5,.d (.one (.lit (.int .i64 0)))),(1,.d (.one (.lit (.int .i64 k))))]) (fun x=>[]) (fun x=>True) (fun x=>0) (()) (trivial) (fun x hx=>?_);clear F)
  have q1:((0:Int) < 0)=False:=eq_false (by decide)
  have q2:((0:Int) < ((0:Nat):Int))=False:=eq_false (by decide)
  (have F:=ai @q1 @q2;refine gG ?_;clear F)
  have F:=hk
  refine gTP (R:=fun r pm=>∃ E',r=[.one (.lit (.int .i64 (k+(cntRows []:Nat))))]∧pm=[.set E' (fun w=>Own w (.sl (ZDV k [])) E' (.slice a 0 cap))]) [1000] ⟨E,by simp only [cntRows,Int.natCast_zero,Int.add_zero];rfl,by simp only [ZDV];rfl⟩
 ·have hrl:ZaH 5 rows:=Zaq.rowsLen hok
  refine pEx [1000] [1000,1001] (ZEl hne hrl) ?_
  rintro ⟨a,cap,ety,uss,E1⟩ ⟨rfl,hl,hmx⟩
  simp only at hl ⊢
  unfold maxLen at hmx
  refine pE [] [1002] ZCe ?_
  (have F:=ai @ZD5 (ai @ZEh (ai @Int.add_zero @Int.natCast_zero));refine gL (ι:=Nat × List (List Value) × (Nat->Prop) × (Nat->Prop)) [1,5,9] [1000,1001,1002] (fun x=>[(5,.d (.one (.lit (.int .i64 (x.1:Int))))),(1,.d (.one (.lit (.int .i64 (k+(cntRows (rows.take x.1):Nat))))))]) (fun x=>[(1000,.buf (some (a,cap)) ety 5 (x.2.1.map Za4)),(1001,.set x.2.2.1 (fun w=>Zbp w (rows.drop x.1) x.2.2.1 (x.2.1.drop x.1))),(1002,.set x.2.2.2 (fun w=>Zbp w (ZDV k (rows.take x.1)) x.2.2.2 (x.2.1.take x.1)))]) (fun x=>x.1<=rows.length∧x.2.1.length=rows.length) (fun x=>rows.length - x.1) ((0,uss,E1,fun _=>False)) (⟨Nat.zero_le _,hl⟩) (fun x hx=>?_);clear F)
  obtain ⟨i,us,E2,E3⟩:=x
  obtain ⟨hi,hn⟩:=hx
  simp only at hi hn
  dsimp only
  by_cases hlt:i < rows.length
  ·obtain ⟨r,hr⟩:∃ r,rows[i]?=some r:=⟨_,List.getElem?_eq_getElem hlt⟩
   obtain ⟨u,hu⟩:∃ u,us[i]?=some u:=⟨_,List.getElem?_eq_getElem om⟩
   obtain ⟨t0,r1,p2,p3,i4,rfl,g0,g1,g2,g3,g4⟩:=ZgY (hok.get hr)
   have hm1:=ZE3 g1
   have hc1:cntRows (rows.take (i+1))=cntRows (rows.take i)+(4+cntRows r1):=by
    rw [ZD0 hr,ZEb];simp only [ZD2,cntC];try omega
   have hc2:=ZD1 rows (i+1)
   rw [ZDZ hr,ZDZ hu]
   refine pEx [1001] [1001] (ZEm rfl) ?_
   rintro ⟨⟩ hlit
   obtain ⟨u1,rfl⟩:∃ u1,u=[.string t0,u1,.bool p2,.bool p3,.int .i64 i4]:=by
    match u,hlit with
    | [_,u1,_,_,_],⟨rfl,rfl,rfl,rfl,_⟩=>exact ⟨u1,rfl⟩
   refine pEx (f:=fun (x:(Nat->Prop) × (Nat->Nat->Prop))=>[.set x.1 (fun w=>Zbp w (rows.drop (i+1)) x.1 (us.drop (i+1))),.set (x.2 0) (fun w=>Own w (.sl r1) (x.2 0) u1)]) [1001] [1001,1003] (ZEu rfl) ?_
   rintro ⟨E4,Es⟩ -
   dsimp only
   have hkk0:0<=k+(cntRows (rows.take i):Int):=by omega
   have hkk1:k+(cntRows (rows.take i):Int)+((4+cntRows r1:Nat):Int)<=1000000000:=by omega
   generalize hkk:k+(cntRows (rows.take i):Int)=kk at hkk0 hkk1 ⊢
   have q1:((i:Int) < (rows.length:Int))=True:=eq_true om
   have q2:i < rows.length:=hlt
   have hs:∀ X:List C,((us.map Za4).set i X)[i]?=some X:=fun X=>ZEq (by rw [Zx6,hn];omega) X
   have lr:Za4 [.string t0,u1,.bool p2,.bool p3,.int .i64 i4]=[.lit (.string t0),.lit (u1),.lit (.bool p2),.lit (.bool p3),.lit (.int .i64 i4)]:=rfl
   have w0:IntKind.i64.wrap (kk+1)=kk+1:=IntWalk.i64_in _ om
   have w2:IntKind.i64.wrap (kk+1+(cntRows r1:Int)+1)=kk+1+(cntRows r1:Int)+1:=IntWalk.i64_in _ om
   have b2:decide (((kk+1+(cntRows r1:Int)).tmod 3)=0)=((kk+1+(cntRows r1:Int)) % 3==0):=ZFm om
   have w3:IntKind.i64.wrap (kk+1+(cntRows r1:Int)+1+1)=kk+1+(cntRows r1:Int)+1+1:=IntWalk.i64_in _ om
   have b3:decide (((kk+1+(cntRows r1:Int)+1).tmod 3)=0)=((kk+1+(cntRows r1:Int)+1) % 3==0):=ZFm om
   have w4:IntKind.i64.wrap (kk+1+(cntRows r1:Int)+1+1+1)=kk+1+(cntRows r1:Int)+1+1+1:=IntWalk.i64_in _ om
   have wi:IntKind.i64.wrap ((i:Int)+1)=(i:Int)+1:=IntWalk.i64_in _ om
   (have F:=ai @q1 (ai @hl (ai @hn (ai @hu (ai @lr (ai @Zx6 (ai @ZDW (ai @hs (ai @w0 (ai @w2 (ai @b2 (ai @w3 (ai @b3 (ai @w4 (ai @q2 @ZDX))))))))))))));refine gG ?_;clear F)
   refine gB ?_
   (have F:=ai @q1 (ai @hl (ai @hn (ai @hu (ai @lr (ai @Zx6 (ai @ZDW (ai @hs (ai @w0 (ai @w2 (ai @b2 (ai @w3 (ai @b3 (ai @w4 (ai @q2 @ZDX))))))))))))));refine gC (ZD9 (kk) om om) ?_;clear F)
   (have F:=ai @q1 (ai @hl (ai @hn (ai @hu (ai @lr (ai @Zx6 (ai @ZDW (ai @hs (ai @w0 (ai @w2 (ai @b2 (ai @w3 (ai @b3 (ai @w4 (ai @q2 @ZDX))))))))))))));refine gR ?_;clear F)
   (have F:=ai @q1 (ai @hl (ai @hn (ai @hu (ai @lr (ai @Zx6 (ai @ZDW (ai @hs (ai @w0 (ai @w2 (ai @b2 (ai @w3 (ai @b3 (ai @w4 (ai @q2 @ZDX))))))))))))));refine gG ?_;clear F)
   refine gB ?_
   (have F:=ai @q1 (ai @hl (ai @hn (ai @hu (ai @lr (ai @Zx6 (ai @ZDW (ai @hs (ai @w0 (ai @w2 (ai @b2 (ai @w3 (ai @b3 (ai @w4 (ai @q2 @ZDX))))))))))))));refine gCP [1003] [1003] (hm1 (kk+1) (Es 0) u1 om om) ?_;clear F)
   rintro r pm ⟨F1,rfl,rfl⟩
   simp only [setA,retA,zipM,List.cons_append,List.nil_append]
   (have F:=ai @q1 (ai @hl (ai @hn (ai @hu (ai @lr (ai @Zx6 (ai @ZDW (ai @hs (ai @w0 (ai @w2 (ai @b2 (ai @w3 (ai @b3 (ai @w4 (ai @q2 @ZDX))))))))))))));refine gR ?_;clear F)
   (have F:=ai @q1 (ai @hl (ai @hn (ai @hu (ai @lr (ai @Zx6 (ai @ZDW (ai @hs (ai @w0 (ai @w2 (ai @b2 (ai @w3 (ai @b3 (ai @w4 (ai @q2 @ZDX))))))))))))));have NN:Zai 3:=trivial;refine gGn ?_;clear F NN)
   obtain ⟨E6,hre⟩:∃ E6,ZfJ [.set E3 (fun w=>Zbp w (ZDV k (rows.take i)) E3 (us.take i)),.set F1 (fun w=>Own w (.sl (ZDV (kk+1) r1)) F1 u1)] [.set E6 (fun w=>Zbp w (ZDV k (rows.take (i+1))) E6 ((us.set i [.string (txt (kk)),u1,.bool ((kk+1+(cntRows r1:Int)) % 3==0),.bool ((kk+1+(cntRows r1:Int)+1) % 3==0),.int .i64 (kk+1+(cntRows r1:Int)+1+1)]).take (i+1)))]:=by
    have hz:=ZEv (E:=E3) (done:=ZDV k (rows.take i)) (ud:=us.take i) (cs:=[.lit (.string (txt (kk))),.sl (ZDV (kk+1) r1),.lit (.bool ((kk+1+(cntRows r1:Int)) % 3==0)),.lit (.bool ((kk+1+(cntRows r1:Int)+1) % 3==0)),.lit (.int .i64 (kk+1+(cntRows r1:Int)+1+1))]) (us:=[.string (txt (kk)),u1,.bool ((kk+1+(cntRows r1:Int)) % 3==0),.bool ((kk+1+(cntRows r1:Int)+1) % 3==0),.int .i64 (kk+1+(cntRows r1:Int)+1+1)]) (Es:=fun _=>F1) rfl ⟨rfl,rfl,rfl,rfl,trivial⟩
    rw [ZD0 hr,ZD3,hkk,ZEf om]
    simp only [ZD4,mkC,mkV,cntC,Int.natCast_one]
    exact ⟨_,hz⟩
   refine pE [1002,1003] [1002] hre ?_
   have e1:((us.set i [.string (txt (kk)),u1,.bool ((kk+1+(cntRows r1:Int)) % 3==0),.bool ((kk+1+(cntRows r1:Int)+1) % 3==0),.int .i64 (kk+1+(cntRows r1:Int)+1+1)]).map Za4)=(us.map Za4).set i [.lit (.string (txt (kk))),.lit (u1),.lit (.bool ((kk+1+(cntRows r1:Int)) % 3==0)),.lit (.bool ((kk+1+(cntRows r1:Int)+1) % 3==0)),.lit (.int .i64 (kk+1+(cntRows r1:Int)+1+1))]:=by rw [List.map_set];rfl
   have e2:=ZEg us i [.string (txt (kk)),u1,.bool ((kk+1+(cntRows r1:Int)) % 3==0),.bool ((kk+1+(cntRows r1:Int)+1) % 3==0),.int .i64 (kk+1+(cntRows r1:Int)+1+1)]
   have e5:k+(cntRows (rows.take (i+1)):Int)=kk+1+(cntRows r1:Int)+1+1+1:=by rw [hc1];omega
   have hn2:(us.set i [.string (txt (kk)),u1,.bool ((kk+1+(cntRows r1:Int)) % 3==0),.bool ((kk+1+(cntRows r1:Int)+1) % 3==0),.int .i64 (kk+1+(cntRows r1:Int)+1+1)]).length=rows.length:=by rw [ZDW,hn]
   generalize us.set i [.string (txt (kk)),u1,.bool ((kk+1+(cntRows r1:Int)) % 3==0),.bool ((kk+1+(cntRows r1:Int)+1) % 3==0),.int .i64 (kk+1+(cntRows r1:Int)+1+1)]=us2 at e1 e2 hn2 ⊢
   rw [<- e1,<- e2]
   (have F:=ai @wi (ai @e5 (ai @hl (ai @w0 (ai @w2 (ai @b2 (ai @w3 (ai @b3 (ai @w4 @hn))))))));refine gG ?_;exact ⟨(i+1,us2,E4,E6),⟨hlt,hn2⟩,gw,gw,by omega⟩)
  ·obtain rfl:i=rows.length:=by omega
   have q1:((rows.length:Int) < (rows.length:Int))=False:=eq_false om
   rw [List.take_length,List.take_of_length_le (Nat.le_of_eq hn)]
   (have F:=ai @q1 (ai @hl @hn);refine gG ?_;clear F)
   obtain ⟨E6,hre⟩:∃ E6,ZfJ [.buf (some (a,cap)) ety 5 (us.map Za4),.set E3 (fun w=>Zbp w (ZDV k rows) E3 us)] [.set E6 (fun w=>Own w (.sl (ZDV k rows)) E6 (.slice a uss.length cap))]:=by
    rw [hl,<- hn]
    exact ⟨_,Zx3 (fun w h=>h) (Own.stable _ _ _)⟩
   refine pE [1000,1002] [1000] hre ?_
   have F:=hk
   exact gTP (R:=fun r pm=>∃ E',r=[.one (.lit (.int .i64 (k+(cntRows rows:Nat))))]∧pm=[.set E' (fun w=>Own w (.sl (ZDV k rows)) E' (.slice a uss.length cap))]) [1000] ⟨E6,rfl,rfl⟩
theorem ZFh {rows:List (List C)} (hok:Zaq (Zab .op) rows):ZD7 69 rows:=ZFg hok
set_option maxRecDepth 100000 in
theorem ZEH {row:List C} (hok:Zan (sigF) row):ZFp 26 row:=by
 obtain ⟨r0,r1,r2,rfl,g0,g1,g2⟩:=Zdp hok
 intro kk E us hl hc hk hb
 obtain ⟨u0,u1,u2,rfl⟩:=len3 hl
 have kc:ZaC (.lit u0)=true∧ZaC (.lit u1)=true∧ZaC (.lit u2)=true:=by simpa [Za4,Bool.and_eq_true,and_assoc] using hc
 obtain ⟨k0,k1,k2⟩:=kc
 simp only [cntTop,Nat.add_zero] at hb ⊢
 have lr:Za4 [u0,u1,u2]=[.lit u0,.lit u1,.lit u2]:=rfl
 rw [lr]
 refine gIP (ts:=[.slot 4]) [1000] 23 Tryz.func26 ?_
 refine pEx (f:=fun (x:Nat->Nat->Prop)=>[.set (x 0) (fun w=>Own w (.sl r0) (x 0) u0),.set (x 1) (fun w=>Own w (.sl r1) (x 1) u1),.set (x 2) (fun w=>Own w (.sl r2) (x 2) u2)]) [1000] [1003,1004,1005] (ZEB rfl) ?_
 rintro Es -
 try dsimp only
 obtain ⟨G0,hre0⟩:∃ G,ZfJ [.set (Es 0) (fun w=>Own w (.sl r0) (Es 0) u0),.set (Es 1) (fun w=>Own w (.sl r1) (Es 1) u1)] [.set G (fun w=>Zah w [.sl r0,.sl r1] G [u0,u1])]:=⟨_,ZEC (cs:=[.sl r0,.sl r1]) (us:=[u0,u1]) (Es:=fun k=>Es (k+0)) rfl trivial⟩
 refine pE [1003,1004] [1003] hre0 ?_
 have lr0:Za4 [u0,u1]=[.lit u0,.lit u1]:=rfl
 have hm0:=ZE1 (row:=[.sl r0,.sl r1]) (ZeH g0 g1) (kk) G0 [u0,u1] rfl (by rw [lr0];simp only [List.all_cons,List.all_nil,k0,k1,Bool.and_self]) om (by simp only [cntTop];omega)
 rw [lr0] at hm0
 simp only [cntTop,ZEd,Nat.add_zero,Int.natCast_add,<- Int.add_assoc] at hm0
 (have F:=ai @lr (ai @k0 (ai @k1 @k2));refine gG ?_;clear F)
 refine gB ?_
 (have F:=ai @lr (ai @k0 (ai @k1 @k2));refine gCP [1003] [1003] (hm0) ?_;clear F)
 rintro r pm ⟨G0',rfl,rfl⟩
 simp only [setA,retA,zipM,List.cons_append,List.nil_append]
 (have F:=ai @lr (ai @k0 (ai @k1 @k2));refine gR ?_;clear F)
 refine pEx (f:=fun (x:Nat->Nat->Prop)=>[.set (x 0) (fun w=>Own w (.sl (ZDV (kk) r0)) (x 0) u0),.set (x 1) (fun w=>Own w (.sl (ZDV (kk+(cntRows r0:Int)) r1)) (x 1) u1)]) [1003] [1003,1004] (ZEB (r:=[.sl (ZDV (kk) r0),.sl (ZDV (kk+(cntRows r0:Int)) r1)]) rfl) ?_
 rintro Fs0 -
 try dsimp only
 (have F:=ai @lr (ai @k0 (ai @k1 @k2));refine gG ?_;clear F)
 refine gB ?_
 (have F:=ai @lr (ai @k0 (ai @k1 @k2));refine gCP [1005] [1005] (ZFh g2 (kk+(cntRows r0:Int)+(cntRows r1:Int)) (Es 2) u2 om om) ?_;clear F)
 rintro r pm ⟨F2,rfl,rfl⟩
 simp only [setA,retA,zipM,List.cons_append,List.nil_append]
 (have F:=ai @lr (ai @k0 (ai @k1 @k2));refine gR ?_;clear F)
 (have F:=ai @lr (ai @k0 (ai @k1 @k2));refine gG ?_;clear F)
 obtain ⟨E6,hre⟩:∃ E6,ZfJ [.set (Fs0 0) (fun w=>Own w (.sl (ZDV (kk) r0)) (Fs0 0) u0),.set (Fs0 1) (fun w=>Own w (.sl (ZDV (kk+(cntRows r0:Int)) r1)) (Fs0 1) u1),.set F2 (fun w=>Own w (.sl (ZDV (kk+(cntRows r0:Int)+(cntRows r1:Int)) r2)) F2 u2)] [.set E6 (fun w=>Zah w [.sl (ZDV (kk) r0),.sl (ZDV (kk+(cntRows r0:Int)) r1),.sl (ZDV (kk+(cntRows r0:Int)+(cntRows r1:Int)) r2)] E6 [u0,u1,u2])]:=⟨_,ZEC (cs:=[.sl (ZDV (kk) r0),.sl (ZDV (kk+(cntRows r0:Int)) r1),.sl (ZDV (kk+(cntRows r0:Int)+(cntRows r1:Int)) r2)]) (us:=[u0,u1,u2]) (Es:=fun k=>match k with | 0=>Fs0 0 | 1=>Fs0 1 | _=>F2) rfl trivial⟩
 refine pE [1003,1004,1005] [1000] hre ?_
 have F:=hk
 have ee:kk+(cntRows r0:Int)+(cntRows r1:Int)+(cntRows r2:Int)=kk+((cntRows r0+(cntRows r1+(cntRows r2)):Nat):Int):=by omega
 rw [ee]
 exact gTP (R:=fun r pm=>∃ E',r=[.one (.lit (.int .i64 (kk+((cntRows r0+(cntRows r1+(cntRows r2)):Nat):Int))))]∧pm=[.set E' (fun w=>Zah w (ZEd kk [.sl r0,.sl r1,.sl r2]) E' [u0,u1,u2])]) [1000] ⟨E6,rfl,by simp only [ZEd];rfl⟩
set_option maxRecDepth 100000 in
theorem ZEM {rows:List (List C)} (hok:Zaq (Zab .binding) rows):ZD7 27 rows:=by
 intro k E v hk hb
 refine gIP (ts:=[.slot 4]) [1000] 563 Tryz.func27 ?_
 (have F:=@e0P;refine gG ?_;clear F)
 by_cases hne:rows=[]
 ·subst hne
  refine pEx [1000] [1000] ZEs ?_
  rintro ⟨a,cap⟩ rfl
  (have F:=@hk;refine gL (ι:=Unit) [1,5,9] [] (fun x=>[(5,.d (.one (.lit (.int .i64 0)))),(1,.d (.one (.lit (.int .i64 k))))]) (fun x=>[]) (fun x=>True) (fun x=>0) (()) (trivial) (fun x hx=>?_);clear F)
  have q1:((0:Int) < 0)=False:=eq_false (by decide)
  have q2:((0:Int) < ((0:Nat):Int))=False:=eq_false (by decide)
  (have F:=ai @q1 @q2;refine gG ?_;clear F)
  have F:=hk
  refine gTP (R:=fun r pm=>∃ E',r=[.one (.lit (.int .i64 (k+(cntRows []:Nat))))]∧pm=[.set E' (fun w=>Own w (.sl (ZDV k [])) E' (.slice a 0 cap))]) [1000] ⟨E,by simp only [cntRows,Int.natCast_zero,Int.add_zero];rfl,by simp only [ZDV];rfl⟩
 ·have hrl:ZaH 8 rows:=Zaq.rowsLen hok
  refine pEx [1000] [1000,1001] (ZEl hne hrl) ?_
  rintro ⟨a,cap,ety,uss,E1⟩ ⟨rfl,hl,hmx⟩
  simp only at hl ⊢
  unfold maxLen at hmx
  refine pE [] [1002] ZCe ?_
  (have F:=ai @ZD5 (ai @ZEh (ai @Int.add_zero @Int.natCast_zero));refine gL (ι:=Nat × List (List Value) × (Nat->Prop) × (Nat->Prop)) [1,5,9] [1000,1001,1002] (fun x=>[(5,.d (.one (.lit (.int .i64 (x.1:Int))))),(1,.d (.one (.lit (.int .i64 (k+(cntRows (rows.take x.1):Nat))))))]) (fun x=>[(1000,.buf (some (a,cap)) ety 8 (x.2.1.map Za4)),(1001,.set x.2.2.1 (fun w=>Zbp w (rows.drop x.1) x.2.2.1 (x.2.1.drop x.1))),(1002,.set x.2.2.2 (fun w=>Zbp w (ZDV k (rows.take x.1)) x.2.2.2 (x.2.1.take x.1)))]) (fun x=>x.1<=rows.length∧x.2.1.length=rows.length) (fun x=>rows.length - x.1) ((0,uss,E1,fun _=>False)) (⟨Nat.zero_le _,hl⟩) (fun x hx=>?_);clear F)
  obtain ⟨i,us,E2,E3⟩:=x
  obtain ⟨hi,hn⟩:=hx
  simp only at hi hn
  dsimp only
  by_cases hlt:i < rows.length
  ·obtain ⟨r,hr⟩:∃ r,rows[i]?=some r:=⟨_,List.getElem?_eq_getElem hlt⟩
   obtain ⟨u,hu⟩:∃ u,us[i]?=some u:=⟨_,List.getElem?_eq_getElem om⟩
   obtain ⟨i0,t1,i2,r3,i4,t5,i6,r7,rfl,g0,g1,g2,g3,g4,g5,g6,g7⟩:=Zd4 (hok.get hr)
   have hm3:=ZEn g3
   have hm7:=ZEn g7
   have hc1:cntRows (rows.take (i+1))=cntRows (rows.take i)+(6+cntRows r3+cntRows r7):=by
    rw [ZD0 hr,ZEb];simp only [ZD2,cntC];try omega
   have hc2:=ZD1 rows (i+1)
   rw [ZDZ hr,ZDZ hu]
   refine pEx [1001] [1001] (ZEm rfl) ?_
   rintro ⟨⟩ hlit
   obtain ⟨u3,u7,rfl⟩:∃ u3 u7,u=[.int .i64 i0,.string t1,.int .i64 i2,u3,.int .i64 i4,.string t5,.int .i64 i6,u7]:=by
    match u,hlit with
    | [_,_,_,u3,_,_,_,u7],⟨rfl,rfl,rfl,rfl,rfl,rfl,_⟩=>exact ⟨u3,u7,rfl⟩
   refine pEx (f:=fun (x:(Nat->Prop) × (Nat->Nat->Prop))=>[.set x.1 (fun w=>Zbp w (rows.drop (i+1)) x.1 (us.drop (i+1))),.set (x.2 0) (fun w=>Own w (.sl r3) (x.2 0) u3),.set (x.2 1) (fun w=>Own w (.sl r7) (x.2 1) u7)]) [1001] [1001,1003,1004] (ZEu rfl) ?_
   rintro ⟨E4,Es⟩ -
   dsimp only
   have hkk0:0<=k+(cntRows (rows.take i):Int):=by omega
   have hkk1:k+(cntRows (rows.take i):Int)+((6+cntRows r3+cntRows r7:Nat):Int)<=1000000000:=by omega
   generalize hkk:k+(cntRows (rows.take i):Int)=kk at hkk0 hkk1 ⊢
   have q1:((i:Int) < (rows.length:Int))=True:=eq_true om
   have q2:i < rows.length:=hlt
   have hs:∀ X:List C,((us.map Za4).set i X)[i]?=some X:=fun X=>ZEq (by rw [Zx6,hn];omega) X
   have lr:Za4 [.int .i64 i0,.string t1,.int .i64 i2,u3,.int .i64 i4,.string t5,.int .i64 i6,u7]=[.lit (.int .i64 i0),.lit (.string t1),.lit (.int .i64 i2),.lit (u3),.lit (.int .i64 i4),.lit (.string t5),.lit (.int .i64 i6),.lit (u7)]:=rfl
   have w0:IntKind.i64.wrap (kk+1)=kk+1:=IntWalk.i64_in _ om
   have w1:IntKind.i64.wrap (kk+1+1)=kk+1+1:=IntWalk.i64_in _ om
   have w2:IntKind.i64.wrap (kk+1+1+1)=kk+1+1+1:=IntWalk.i64_in _ om
   have w4:IntKind.i64.wrap (kk+1+1+1+(cntRows r3:Int)+1)=kk+1+1+1+(cntRows r3:Int)+1:=IntWalk.i64_in _ om
   have w5:IntKind.i64.wrap (kk+1+1+1+(cntRows r3:Int)+1+1)=kk+1+1+1+(cntRows r3:Int)+1+1:=IntWalk.i64_in _ om
   have w6:IntKind.i64.wrap (kk+1+1+1+(cntRows r3:Int)+1+1+1)=kk+1+1+1+(cntRows r3:Int)+1+1+1:=IntWalk.i64_in _ om
   have wi:IntKind.i64.wrap ((i:Int)+1)=(i:Int)+1:=IntWalk.i64_in _ om
   (have F:=ai @q1 (ai @hl (ai @hn (ai @hu (ai @lr (ai @Zx6 (ai @ZDW (ai @hs (ai @w0 (ai @w1 (ai @w2 (ai @w4 (ai @w5 (ai @w6 (ai @q2 @ZDX))))))))))))));refine gG ?_;clear F)
   refine gB ?_
   (have F:=ai @q1 (ai @hl (ai @hn (ai @hu (ai @lr (ai @Zx6 (ai @ZDW (ai @hs (ai @w0 (ai @w1 (ai @w2 (ai @w4 (ai @w5 (ai @w6 (ai @q2 @ZDX))))))))))))));refine gC (ZD9 (kk+1) om om) ?_;clear F)
   (have F:=ai @q1 (ai @hl (ai @hn (ai @hu (ai @lr (ai @Zx6 (ai @ZDW (ai @hs (ai @w0 (ai @w1 (ai @w2 (ai @w4 (ai @w5 (ai @w6 (ai @q2 @ZDX))))))))))))));refine gR ?_;clear F)
   (have F:=ai @q1 (ai @hl (ai @hn (ai @hu (ai @lr (ai @Zx6 (ai @ZDW (ai @hs (ai @w0 (ai @w1 (ai @w2 (ai @w4 (ai @w5 (ai @w6 (ai @q2 @ZDX))))))))))))));refine gG ?_;clear F)
   refine gB ?_
   (have F:=ai @q1 (ai @hl (ai @hn (ai @hu (ai @lr (ai @Zx6 (ai @ZDW (ai @hs (ai @w0 (ai @w1 (ai @w2 (ai @w4 (ai @w5 (ai @w6 (ai @q2 @ZDX))))))))))))));refine gCP [1003] [1003] (hm3 (kk+1+1+1) (Es 0) u3 om om) ?_;clear F)
   rintro r pm ⟨F3,rfl,rfl⟩
   simp only [setA,retA,zipM,List.cons_append,List.nil_append]
   (have F:=ai @q1 (ai @hl (ai @hn (ai @hu (ai @lr (ai @Zx6 (ai @ZDW (ai @hs (ai @w0 (ai @w1 (ai @w2 (ai @w4 (ai @w5 (ai @w6 (ai @q2 @ZDX))))))))))))));refine gR ?_;clear F)
   (have F:=ai @q1 (ai @hl (ai @hn (ai @hu (ai @lr (ai @Zx6 (ai @ZDW (ai @hs (ai @w0 (ai @w1 (ai @w2 (ai @w4 (ai @w5 (ai @w6 (ai @q2 @ZDX))))))))))))));refine gG ?_;clear F)
   refine gB ?_
   (have F:=ai @q1 (ai @hl (ai @hn (ai @hu (ai @lr (ai @Zx6 (ai @ZDW (ai @hs (ai @w0 (ai @w1 (ai @w2 (ai @w4 (ai @w5 (ai @w6 (ai @q2 @ZDX))))))))))))));refine gC (ZD9 (kk+1+1+1+(cntRows r3:Int)+1) om om) ?_;clear F)
   (have F:=ai @q1 (ai @hl (ai @hn (ai @hu (ai @lr (ai @Zx6 (ai @ZDW (ai @hs (ai @w0 (ai @w1 (ai @w2 (ai @w4 (ai @w5 (ai @w6 (ai @q2 @ZDX))))))))))))));refine gR ?_;clear F)
   (have F:=ai @q1 (ai @hl (ai @hn (ai @hu (ai @lr (ai @Zx6 (ai @ZDW (ai @hs (ai @w0 (ai @w1 (ai @w2 (ai @w4 (ai @w5 (ai @w6 (ai @q2 @ZDX))))))))))))));refine gG ?_;clear F)
   refine gB ?_
   (have F:=ai @q1 (ai @hl (ai @hn (ai @hu (ai @lr (ai @Zx6 (ai @ZDW (ai @hs (ai @w0 (ai @w1 (ai @w2 (ai @w4 (ai @w5 (ai @w6 (ai @q2 @ZDX))))))))))))));refine gCP [1004] [1004] (hm7 (kk+1+1+1+(cntRows r3:Int)+1+1+1) (Es 1) u7 om om) ?_;clear F)
   rintro r pm ⟨F7,rfl,rfl⟩
   simp only [setA,retA,zipM,List.cons_append,List.nil_append]
   (have F:=ai @q1 (ai @hl (ai @hn (ai @hu (ai @lr (ai @Zx6 (ai @ZDW (ai @hs (ai @w0 (ai @w1 (ai @w2 (ai @w4 (ai @w5 (ai @w6 (ai @q2 @ZDX))))))))))))));refine gR ?_;clear F)
   obtain ⟨E6,hre⟩:∃ E6,ZfJ [.set E3 (fun w=>Zbp w (ZDV k (rows.take i)) E3 (us.take i)),.set F3 (fun w=>Own w (.sl (ZDV (kk+1+1+1) r3)) F3 u3),.set F7 (fun w=>Own w (.sl (ZDV (kk+1+1+1+(cntRows r3:Int)+1+1+1) r7)) F7 u7)] [.set E6 (fun w=>Zbp w (ZDV k (rows.take (i+1))) E6 ((us.set i [.int .i64 (kk),.string (txt (kk+1)),.int .i64 (kk+1+1),u3,.int .i64 (kk+1+1+1+(cntRows r3:Int)),.string (txt (kk+1+1+1+(cntRows r3:Int)+1)),.int .i64 (kk+1+1+1+(cntRows r3:Int)+1+1),u7]).take (i+1)))]:=by
    have hz:=ZEv (E:=E3) (done:=ZDV k (rows.take i)) (ud:=us.take i) (cs:=[.lit (.int .i64 (kk)),.lit (.string (txt (kk+1))),.lit (.int .i64 (kk+1+1)),.sl (ZDV (kk+1+1+1) r3),.lit (.int .i64 (kk+1+1+1+(cntRows r3:Int))),.lit (.string (txt (kk+1+1+1+(cntRows r3:Int)+1))),.lit (.int .i64 (kk+1+1+1+(cntRows r3:Int)+1+1)),.sl (ZDV (kk+1+1+1+(cntRows r3:Int)+1+1+1) r7)]) (us:=[.int .i64 (kk),.string (txt (kk+1)),.int .i64 (kk+1+1),u3,.int .i64 (kk+1+1+1+(cntRows r3:Int)),.string (txt (kk+1+1+1+(cntRows r3:Int)+1)),.int .i64 (kk+1+1+1+(cntRows r3:Int)+1+1),u7]) (Es:=fun k=>match k with | 0=>F3 | _=>F7) rfl ⟨rfl,rfl,rfl,rfl,rfl,rfl,trivial⟩
    rw [ZD0 hr,ZD3,hkk,ZEf om]
    simp only [ZD4,mkC,mkV,cntC,Int.natCast_one]
    exact ⟨_,hz⟩
   refine pE [1002,1003,1004] [1002] hre ?_
   have e1:((us.set i [.int .i64 (kk),.string (txt (kk+1)),.int .i64 (kk+1+1),u3,.int .i64 (kk+1+1+1+(cntRows r3:Int)),.string (txt (kk+1+1+1+(cntRows r3:Int)+1)),.int .i64 (kk+1+1+1+(cntRows r3:Int)+1+1),u7]).map Za4)=(us.map Za4).set i [.lit (.int .i64 (kk)),.lit (.string (txt (kk+1))),.lit (.int .i64 (kk+1+1)),.lit (u3),.lit (.int .i64 (kk+1+1+1+(cntRows r3:Int))),.lit (.string (txt (kk+1+1+1+(cntRows r3:Int)+1))),.lit (.int .i64 (kk+1+1+1+(cntRows r3:Int)+1+1)),.lit (u7)]:=by rw [List.map_set];rfl
   have e2:=ZEg us i [.int .i64 (kk),.string (txt (kk+1)),.int .i64 (kk+1+1),u3,.int .i64 (kk+1+1+1+(cntRows r3:Int)),.string (txt (kk+1+1+1+(cntRows r3:Int)+1)),.int .i64 (kk+1+1+1+(cntRows r3:Int)+1+1),u7]
   have e5:k+(cntRows (rows.take (i+1)):Int)=kk+1+1+1+(cntRows r3:Int)+1+1+1+(cntRows r7:Int):=by rw [hc1];omega
   have hn2:(us.set i [.int .i64 (kk),.string (txt (kk+1)),.int .i64 (kk+1+1),u3,.int .i64 (kk+1+1+1+(cntRows r3:Int)),.string (txt (kk+1+1+1+(cntRows r3:Int)+1)),.int .i64 (kk+1+1+1+(cntRows r3:Int)+1+1),u7]).length=rows.length:=by rw [ZDW,hn]
   generalize us.set i [.int .i64 (kk),.string (txt (kk+1)),.int .i64 (kk+1+1),u3,.int .i64 (kk+1+1+1+(cntRows r3:Int)),.string (txt (kk+1+1+1+(cntRows r3:Int)+1)),.int .i64 (kk+1+1+1+(cntRows r3:Int)+1+1),u7]=us2 at e1 e2 hn2 ⊢
   rw [<- e1,<- e2]
   (have F:=ai @wi (ai @e5 (ai @hl (ai @w0 (ai @w1 (ai @w2 (ai @w4 (ai @w5 (ai @w6 @hn))))))));refine gG ?_;exact ⟨(i+1,us2,E4,E6),⟨hlt,hn2⟩,gw,gw,by omega⟩)
  ·obtain rfl:i=rows.length:=by omega
   have q1:((rows.length:Int) < (rows.length:Int))=False:=eq_false om
   rw [List.take_length,List.take_of_length_le (Nat.le_of_eq hn)]
   (have F:=ai @q1 (ai @hl @hn);refine gG ?_;clear F)
   obtain ⟨E6,hre⟩:∃ E6,ZfJ [.buf (some (a,cap)) ety 8 (us.map Za4),.set E3 (fun w=>Zbp w (ZDV k rows) E3 us)] [.set E6 (fun w=>Own w (.sl (ZDV k rows)) E6 (.slice a uss.length cap))]:=by
    rw [hl,<- hn]
    exact ⟨_,Zx3 (fun w h=>h) (Own.stable _ _ _)⟩
   refine pE [1000,1002] [1000] hre ?_
   have F:=hk
   exact gTP (R:=fun r pm=>∃ E',r=[.one (.lit (.int .i64 (k+(cntRows rows:Nat))))]∧pm=[.set E' (fun w=>Own w (.sl (ZDV k rows)) E' (.slice a uss.length cap))]) [1000] ⟨E6,rfl,rfl⟩
theorem ZEN {rows:List (List C)} (hok:Zaq (Zab .binding) rows):ZD7 27 rows:=ZEM hok
theorem ZEF (t:TN):(Zab t).length<=16:=by cases t <;> decide
mutual
theorem ZFD:∀ (f:F) (c:C),okC f c->cntC c<=1+16 * ZbY c
 | f,.lit v,_=>by simp only [cntC];omega
 | .sl t,.sl rows,h=>by
  have:=ZEo (Zab t) rows (ZEF t) (by simpa [okC] using h)
  simp only [cntC,ZbY]
  omega
 | .int,.sl _,h=>by simp [okC] at h
 | .str,.sl _,h=>by simp [okC] at h
 | .bool,.sl _,h=>by simp [okC] at h
 | f,.ptr _,_=>by simp [cntC]
 | f,.fn _ _,_=>by simp [cntC]
theorem ZEo:∀ (fs:List F) (rows:List (List C)),fs.length<=16->Zaq fs rows->cntRows rows<=16 * (rows.length+Zag rows)
 | fs,[],_,_=>by simp [cntRows]
 | fs,r::rs,hl,h=>by
  simp only [Zaq] at h
  have h1:=ZEZ fs r h.1
  have h2:=ZEo fs rs hl h.2
  simp only [cntRows,Zag,List.length_cons]
  omega
theorem ZEZ:∀ (fs:List F) (cs:List C),Zan fs cs->ZD2 cs<=fs.length+16 * Zak cs
 | [],[],_=>by simp [ZD2]
 | f::fs,c::cs,h=>by
  simp only [Zan] at h
  have h1:=ZFD f c h.1
  have h2:=ZEZ fs cs h.2
  simp only [ZD2,Zak,List.length_cons]
  omega
 | [],_::_,h=>by simp [Zan] at h
 | _::_,[],h=>by simp [Zan] at h
end
theorem ZEz:∀ (fs:List F) (cs:List C),Zan fs cs->cntTop cs<=16 * Zak cs
 | [],[],_=>by simp [cntTop]
 | f::fs,c::cs,h=>by
  simp only [Zan] at h
  have h2:=ZEz fs cs h.2
  cases c with
  | lit v=>simp only [cntTop,Zak];omega
  | sl rows =>
   cases f with
   | sl t =>
    have:=ZEo (Zab t) rows (ZEF t) (by simpa [okC] using h.1)
    simp only [cntTop,Zak,ZbY]
    omega
   | _=>simp [okC] at h
  | ptr _=>simp only [cntTop,Zak];omega
  | fn _ _=>simp only [cntTop,Zak];omega
 | [],_::_,h=>by simp [Zan] at h
 | _::_,[],h=>by simp [Zan] at h
theorem ZEO {us:List Value} {n:Nat} (h:us.length=n):(Za4 us).length=n∧(Za4 us).take n=Za4 us∧(Za4 us).drop n=[]:=by
 have hl:(Za4 us).length=n:=by unfold Za4;rw [List.length_map];exact h
 exact ⟨hl,List.take_of_length_le (Nat.le_of_eq hl),List.drop_of_length_le (Nat.le_of_eq hl)⟩
end Go.Proofs.YtffmjghcpgpfpaaGreatDoor
