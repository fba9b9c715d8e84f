/-
  Part of a proof.
-/
import Derived.Test.YtjoaefnnnbpflaaBResultsOfSaid0
import Derived.Test.YtjoaefnnnbpflaaBResultsOfSaid1
set_option linter.unusedSimpArgs false
set_option linter.unusedVariables false
set_option maxHeartbeats 400000000
set_option maxRecDepth 100000
namespace Go.Proofs.Ytjoaefnnnbpflaa
open Go.RowKit
variable {rows:List (List C)} {e:Env} {f:FuncId} {r:List D} {row:List C} {q:List Bk} {left:Int}
def Zge (pm:List Bk) (l d:D):Prop:=l=d∨(∃ us row E,l=.agg (Zae us)∧d=.agg row∧.set E (fun w=>Zac w row E us)∈pm)∨(∃ v rows E,l=.one (.lit v)∧d=.one (.sl rows)∧.set E (fun w=>Own w (.sl rows) E v)∈pm)
def Ze0 (pm:List Bk):List D->List D->Prop
 | [],[]=>True
 | l::ls,d::ds=>Zge pm l d∧Ze0 pm ls ds
 | _,_=>False
theorem Zge.same {pm:List Bk} {d:D}:Zge pm d d:=.inl rfl
theorem Zge.treeS {pm:List Bk} {v:Value} {E:Nat->Prop} (h:.set E (fun w=>Own w (.sl rows) E v)∈pm):Zge pm (.one (.lit v)) (.one (.sl rows)):=.inr (.inr ⟨v,rows,E,rfl,rfl,h⟩)
theorem Ze0.rel {pm:List Bk}:∀ {lits data:List D},Ze0 pm lits data->∀ (w:World) (S:Nat->Prop) (vs:List Value),(∀ x∈pm,Za4 w S x)->Zau w S lits vs->Zau w (fun b=>S b∨Zax pm b) data vs
 | [],[],_,w,S,[],_,_=>trivial
 | [],[],_,w,S,_::_,_,h=>h.elim
 | l::ls,d::ds,hr,w,S,[],_,h=>h.elim
 | l::ls,d::ds,⟨h1,h2⟩,w,S,v::vs,hp,⟨hv,hvs⟩=>by
  refine ⟨?_,Ze0.rel h2 w S vs hp hvs⟩;rcases h1 with rfl | ⟨us,row,E,rfl,rfl,hm⟩ | ⟨u,rows,E,rfl,rfl,hm⟩
  ·exact DRel.keep (Tah _) (fun _ _ _=>rfl) (fun b hb=>.inl hb) hv
  ·obtain ⟨vs',rfl,hr⟩:=hv;rw [Zck hr];obtain ⟨_,h3,_⟩:=hp _ hm;exact ⟨us,rfl,Zac.rep row E _ us (fun b hb=>.inr ⟨_,hm,hb⟩) h3⟩
  ·have hv:v=u:=hv;subst hv;obtain ⟨_,h3,_⟩:=hp _ hm;exact (Own.rep _ E v h3).mono fun b hb=>.inr ⟨_,hm,hb⟩
 | [],_::_,h,_,_,_,_,_=>h.elim
 | _::_,[],h,_,_,_,_,_=>h.elim
theorem ZkE {data lits:List D} {R:List D->List Bk->Prop} (pm:List Bk) (h:ConP e f data [] R) (hr:Ze0 pm lits data) (hset:pm.all ZbV=true) (hR:∀ r q,R r q->r.all litD=true∧q.all ZbV=true):ConP e f lits pm (fun r q=>∃ q1,R r q1∧q=q1++pm) :=
 ZgY pm h hset hR hr.rel
theorem ZdT {data lits:List D} (pm:List Bk) (h:Con e f data r) (hr:Ze0 pm lits data) (hset:pm.all ZbV=true) (hl:r.all litD=true):ConP e f lits pm (fun r' q=>r'=r∧q=pm):=by
 have hc:=ZkE pm (Zqe h) hr hset (fun r' q ⟨h1,h2⟩=>by rw [h1,h2];exact ⟨hl,rfl⟩);refine ⟨hc.1,fun w S vs h1 h2 h3 h4 h5 h6=>(hc.2 w S vs h1 h2 h3 h4 h5 h6).mono ?_⟩;rintro en w' ⟨v,r',q,k1,⟨q1,⟨rfl,rfl⟩,rfl⟩,k3⟩;exact ⟨v,r',_,k1,⟨rfl,rfl⟩,k3⟩
theorem Zfk (us:List Value):(Zae us).all litC=true:=by
 induction us with
 | nil=>rfl
 | cons u us ih=>simp only [Zae,Tbl,List.all_cons,litC,Bool.true_and];exact ih
theorem Zbb.lits (h:Zbb row r q):r.all litD=true∧q.all ZbV=true:=by
 obtain ⟨us,E,rfl,_,_,rfl⟩:=h;exact ⟨by simp only [List.all_cons,List.all_nil,litD,Zfk];rfl,rfl⟩
theorem Zbf.lits (h:Zbf rows r q):r.all litD=true∧q.all ZbV=true:=by
 obtain ⟨v,E,rfl,_,rfl⟩:=h;exact ⟨rfl,rfl⟩
def Zoi (row:List C) (b:Bool) (r:List D) (pm:List Bk):Prop:=∃ us E,r=[.agg (Zae us),.one (.lit (.bool b))]∧us.length=row.length∧(Zae us).all Zai=true∧pm=[.set E (fun w=>Zac w row E us)]
theorem Zoi.lits {b:Bool} (h:Zoi row b r q):r.all litD=true∧q.all ZbV=true:=by
 obtain ⟨us,E,rfl,_,_,rfl⟩:=h;exact ⟨by simp only [List.all_cons,List.all_nil,litD,Zfk];rfl,rfl⟩
def ZkF (rows:List (List C)) (b:Bool) (r:List D) (pm:List Bk):Prop:=∃ v E,r=[.one (.lit v),.one (.lit (.bool b))]∧Zai (.lit v)=true∧pm=[.set E (fun w=>Own w (.sl rows) E v)]
theorem ZkF.lits {b:Bool} (h:ZkF rows b r q):r.all litD=true∧q.all ZbV=true:=by
 obtain ⟨v,E,rfl,_,rfl⟩:=h;exact ⟨rfl,rfl⟩
theorem ZeL (t:TN):(Zab t).length<=16:=by cases t <;> decide
mutual
theorem ZqC:∀ (f:F) (c:C),okC f c->cntC c<=1+16 * Zbh c
 | f,.lit v,_=>by simp only [cntC];omega
 | .sl t,.sl rows,h=>by
  have:=Zdd (Zab t) rows (ZeL t) (by simpa [okC] using h);simp only [cntC,Zbh];omega
 | .int,.sl _,h=>by simp [okC] at h
 | .str,.sl _,h=>by simp [okC] at h
 | .bool,.sl _,h=>by simp [okC] at h
 | f,.ptr _,_=>by simp [cntC]
 | f,.fn _ _,_=>by simp [cntC]
theorem Zdd:∀ (fs:List F) (rows:List (List C)),fs.length<=16->Zah fs rows->cntRows rows<=16 * (rows.length+bulkRows rows)
 | fs,[],_,_=>by simp [cntRows]
 | fs,r::rs,hl,h=>by
  simp only [Zah] at h;have h1:=Zhe fs r h.1;have h2:=Zdd fs rs hl h.2;simp only [cntRows,bulkRows,Taf];omega
theorem Zhe:∀ (fs:List F) (cs:List C),Zam fs cs->ZbP cs<=fs.length+16 * bulkRow cs
 | [],[],_=>by simp [ZbP]
 | f::fs,c::cs,h=>by
  simp only [Zam] at h;have h1:=ZqC f c h.1;have h2:=Zhe fs cs h.2;simp only [ZbP,bulkRow,Taf];omega
 | [],_::_,h=>by simp [Zam] at h
 | _::_,[],h=>by simp [Zam] at h
end
theorem Kept.noPin {D:Prop} {E:Nat->Prop} {B:Nat} {w w':World} (h:Kept D (fun b=>E b∨Zax [] b) B w w'):Kept D E B w w' :=
 ⟨h.os,h.tape,h.output,h.drawn,h.size,fun k hk hn=>h.block k hk fun h=>h.elim hn fun ⟨x,hx,_⟩=>by cases hx⟩
theorem Zoj {args:List D} (h:ConP e f args [] (Zbf rows)):Con e f args [.one (.sl rows)]:=by
 refine ⟨h.1,fun w S vs hS hE hG hv=>(h.2 w S vs hS hE hG (fun x hx=>by cases hx) trivial hv).mono ?_⟩;rintro en w' ⟨v,r,pm',h1,⟨u,E,rfl,hok,rfl⟩,h3,h4,h5,h6,h7⟩;obtain ⟨⟨q1,q2,q3⟩,p2⟩:=h5 _ Tar;have h7:v=u:=by simpa [retA,ARel,DRel,Rep] using h7
 subst h7;refine ⟨v,h1,h3.noPin,h4,?_⟩;exact (Own.rep (.sl rows) E v q2).mono fun g hg=>.inr ⟨(p2 g hg).elim (fun ⟨x,hx,_⟩=>by cases hx) id,(q1 g hg).1⟩
inductive Seg
 | lits (us:List Value)
 | sl (E:Nat->Prop) (rows:List (List C)) (u:Value)
 | st (E:Nat->Prop) (cs:List C) (us:List Value)
def segB:List Seg->List Bk
 | []=>[]
 | .lits _::r=>segB r
 | .sl E rows u::r=>.set E (fun w=>Own w (.sl rows) E u)::segB r
 | .st E cs us::r=>.set E (fun w=>Zac w cs E us)::segB r
def segC:List Seg->List C
 | []=>[]
 | .lits us::r=>Zae us++segC r
 | .sl _ rows _::r=>.sl rows::segC r
 | .st _ cs _::r=>cs++segC r
def segV:List Seg->List Value
 | []=>[]
 | .lits us::r=>us++segV r
 | .sl _ _ u::r=>u::segV r
 | .st _ _ us::r=>us++segV r
theorem Zac.app {w:World} {S S1 S2:Nat->Prop} {ds:List C} {vs:List Value} (h2:Zac w ds S2 vs) (i2:∀ x,S2 x->S x):∀ {cs:List C} {us:List Value} {S1:Nat->Prop},Zac w cs S1 us->(∀ x,S1 x->S x)->(∀ x,S1 x->S2 x->False)->Zac w (cs++ds) S (us++vs)
 | [],[],_,_,_,_=>Zac.keep (Tah _) ds S2 S vs (fun _ _=>rfl) i2 h2
 | c::cs,u::us,T,h,i1,hd=>by
  simp only [Zac] at h;obtain ⟨T1,T2,a1,a2,a3,a4,a5⟩:=h;have h3:Zac w (cs++ds) (fun x=>T2 x∨S2 x) (us++vs):=Zac.app (S:=fun x=>T2 x∨S2 x) (S1:=T2) h2 (fun _ h=>.inr h) a5 (fun _ h=>.inl h) fun x hx=>hd x (a2 x hx);exact Zac.cons T1 (fun x=>T2 x∨S2 x) a4 h3 (fun x hx=>i1 x (a1 x hx)) (fun x hx=>hx.elim (fun q=>i1 x (a2 x q)) (i2 x)) fun x hx hy=>hy.elim (a3 x hx) (hd x (a1 x hx))
 | [],_::_,_,h,_,_=>by simp [Zac] at h
 | _::_,[],_,h,_,_=>by simp [Zac] at h
theorem Zac.lits {w:World}:∀ {us:List Value},Zac w (Zae us) (fun _=>False) us
 | []=>Zac.nil
 | u::us=>Zac.lit Zac.lits
theorem Zed {w:World} {S:Nat->Prop}:∀ {ss:List Seg},(∀ x∈segB ss,Za4 w S x)->Zbd (segB ss)->Zac w (segC ss) (Zax (segB ss)) (segV ss)
 | [],_,_=>Zac.nil
 | .lits us::r,h,ha=>Zac.app (S1:=fun _=>False) (Zed (ss:=r) h ha) (fun _ q=>q) Zac.lits (fun _ q=>q.elim) fun _ q=>q.elim
 | .sl E rows u::r,h,⟨a1,a2⟩=>Zac.cons E (Zax (segB r)) (h _ Tar).2.1 (Zed (fun x hx=>h x (Tak _ hx)) a2) (fun b q=>⟨_,Tar,q⟩) (fun b ⟨x,hx,q⟩=>⟨x,Tak _ hx,q⟩) fun b q ⟨x,hx,q2⟩=>a1 x hx b q q2
 | .st E cs us::r,h,⟨a1,a2⟩=>Zac.app (S1:=E) (Zed (fun x hx=>h x (Tak _ hx)) a2) (fun b ⟨x,hx,q⟩=>⟨x,Tak _ hx,q⟩) (h _ Tar).2.1 (fun b q=>⟨_,Tar,q⟩) fun b q ⟨x,hx,q2⟩=>a1 x hx b q q2
theorem Zee:∀ {ss:List Seg} {y:Bk},y∈segB ss->∃ E G,y=.set E G
 | .lits _::r,y,h=>Zee (ss:=r) h
 | .sl _ _ _::r,y,h=>by
  rcases Tbc.1 h with rfl | h
  ·exact ⟨_,_,rfl⟩
  ·exact Zee h
 | .st _ _ _::r,y,h=>by
  rcases Tbc.1 h with rfl | h
  ·exact ⟨_,_,rfl⟩
  ·exact Zee h
 | [],_,h=>by cases h
theorem Ze1 (ss:List Seg):Za5 (segB ss) [.set (Zax (segB ss)) (fun w=>Zac w (segC ss) (Zax (segB ss)) (segV ss))]:=fun w S h ha=>by
 have hv:=Zed (w:=w) (S:=S) h ha;refine ⟨fun x hx=>?_,Zcf _,fun g ⟨x,hx,hg⟩=>?_⟩
 ·simp only [Tbc,List.not_mem_nil,or_false] at hx;subst hx;refine ⟨fun b ⟨y,hy,hg⟩=>?_,hv,Zac.stable _ _ _⟩;obtain ⟨E',G',rfl⟩:=Zee hy;exact (h _ hy).1 b hg
 ·simp only [Tbc,List.not_mem_nil,or_false] at hx;subst hx;exact hg
theorem Ze2 {α:Type} (A:List α) (z x:α) (k:Nat) (i:Nat) (hi:i=A.length):(A++List.replicate (k+1) z).set i x=(A++[x])++List.replicate k z:=by
 subst hi;rw [List.set_append_right _ _ (Tah _),Nat.sub_self,List.replicate_succ,List.set_cons_zero,Tbb];rfl
theorem tks {α:Type} {l:List α} {i:Nat} {x:α} (h:l[i]?=some x):l.take (i+1)=l.take i++[x]:=by simp [List.take_add_one,h]
theorem tk0 (l:List (List C)):l.take 0=[]:=rfl
theorem nla (l:List (List C)):[]++l=l:=rfl
theorem Zq0 (u:Value):Zae [u]=[.lit u]:=rfl
theorem Zcu {post:List D} (hb:ZbM e.P f=true) (h:rows.length<=maxLen->Con e f (.one (.sl rows)::post) r):Con e f (.one (.sl rows)::post) r:=⟨hb,fun w S vs hS hE hG hv=>by
 match vs,hv with
 | v::vs,⟨h1,h2⟩ =>
  have h1':Rep w S (.sl rows) v:=h1;obtain ⟨A,n,cap,rfl,hn,hc,hm⟩:=h1'.form;exact (h om).2 w S _ hS hE hG ⟨h1,h2⟩⟩
theorem Zef:bulkRows []=0:=by simp [bulkRows]
def ZhF:F->Bool
 | .int=>true
 | .bool=>true
 | _=>false
theorem ZqS {fs:List F}:∀ {r:List C},fs.all ZhF=true->Zam fs r->bulkRow r=0:=by
 induction fs with
 | nil=>intro r _ h;cases r with
  | nil=>simp [bulkRow]
  | cons _ _=>simp [Zam] at h
 | cons f fs ih =>
  intro r hf h
  cases r with
  | nil=>simp [Zam] at h
  | cons c cs =>
   simp only [Zam] at h;simp only [List.all_cons,Taq] at hf;have h2:=ih hf.2 h.2
   cases f with
   | int=>obtain ⟨n,rfl,_⟩:=ZbK h.1;simp [bulkRow,Zbh,h2]
   | bool=>obtain ⟨n,rfl⟩:=Zok h.1;simp [bulkRow,Zbh,h2]
   | str=>simp [ZhF] at hf
   | sl t=>simp [ZhF] at hf
theorem Zql {fs:List F} (hf:fs.all ZhF=true):∀ {rows:List (List C)},Zah fs rows->bulkRows rows=0
 | [],_=>Zef
 | r::rs,h=>by
  simp only [Zah] at h;simp [bulkRows,ZqS hf h.1,Zql hf h.2]
theorem Zel (hok:Zam (Zab .term) row) (HTerm:∀ (rows:List (List C)),Za1 rows < ZaQ row->Zah (Zab .term) rows->∀ {left:Int},0<=left->left<=1048576->Con e0 46 [.one (.sl rows),.one (.lit (.int .i64 left))] [.one (.lit (.int .i64 (sub left (rows.length+bulkRows rows))))]) (h0:0<=left) (h1:left<=1048576):Con e0 21 [.agg row,.one (.lit (.int .i64 left))] [.one (.lit (.int .i64 (sub left (bulkRow row))))]:=by
 obtain ⟨i0,t1,i2,r3,rfl,g0,g1,g2,g3⟩:=ZbD hok;rw [show bulkRow [.lit (.int .i64 i0),.lit (.string t1),.lit (.int .i64 i2),.sl r3]=t1.size+(r3.length+bulkRows r3) by simp only [bulkRow,Zbh];omega];refine gI 133143 Try.func21 ?_;have hs:=g1;unfold maxLen at hs;have w:IntKind.i64.wrap (left - (t1.size:Int))=left - (t1.size:Int):=IntWalk.i64_in _ om;clear hs;by_cases q:left < (t1.size:Int)
 ·rw [ZaI om];have q':(left - (t1.size:Int) < 0)=True:=eq_true om;exact fT (ai @w @q')
 have q':(left - (t1.size:Int) < 0)=False:=eq_false om;refine fG (ai @w @q') ?_;obtain ⟨L0,e0⟩:∃ x,x=left - (t1.size:Int):=⟨_,rfl⟩;rw [<- e0];clear w q';refine fB @e0P ?_;refine fC @e0P (HTerm r3 (by simp only [ZaQ,Zb7];omega) g3 (left:=L0) om om) ?_;refine fR @e0P ?_;by_cases q:L0 < (((r3.length+bulkRows r3):Nat):Int)
 ·rw [ZaI (b:=(r3.length+bulkRows r3)) q]
  try rw [ZaI om]
  have q':=lT (-1) 0;exact fT @q'
 rw [ZaZ (b:=(r3.length+bulkRows r3)) om];have q':(L0 - (((r3.length+bulkRows r3):Nat):Int) < 0)=False:=eq_false om;refine fG @q' ?_;obtain ⟨L1,e1⟩:∃ x,x=L0 - (((r3.length+bulkRows r3):Nat):Int):=⟨_,rfl⟩;rw [<- e1];clear q'
 try rw [ZaZ om,show left - ((t1.size+(r3.length+bulkRows r3):Nat):Int)=L1 by omega]
 exact fT @e0P
theorem Zem (hok:Zam (Zab .term) row) (HTerm:∀ (rows:List (List C)),Za1 rows < ZaQ row->Zah (Zab .term) rows->Con e0 16 [.one (.sl rows),.one (.sl rows)] [.one (.lit (.bool true))]):Con e0 31 [.agg row,.agg row] [.one (.lit (.bool true))]:=by
 obtain ⟨i0,t1,i2,r3,rfl,g0,g1,g2,g3⟩:=ZbD hok;refine gI 34095647 Try.func31 ?_;refine fB (@beq_self_eq_true.{0}) ?_;refine fC @e0P (HTerm r3 (by simp only [ZaQ,Zb7];omega) g3) ?_;refine fR @e0P ?_;exact fT (@beq_self_eq_true.{0})
theorem ZdU (hok:Zam (Zab .term) row) (HTerm:∀ (rows:List (List C)),Za1 rows < ZaQ row->Zah (Zab .term) rows->rows.length+bulkRows rows<=1048576->ConP e0 50 [.one (.sl rows)] [] (Zbf rows)) (hb:bulkRow row<=1048576):ConP e0 26 [.agg row] [] (Zbb row):=by
 obtain ⟨i0,t1,i2,r3,rfl,g0,g1,g2,g3⟩:=ZbD hok;simp only [bulkRow,Zbh] at hb;refine gIP (ts:=[.cell 2 31]) [] 15 Try.func26 ?_;refine fB @e0P ?_;have F:=@e0P;refine gCP [] [1000] (HTerm r3 (by simp only [ZaQ,Zb7];omega) g3 om) ?_;clear F;rintro r pm ⟨u3,E3,rfl,k3,rfl⟩;simp only [setA,retA,zipM,Tae,Tag];refine fR @k3 ?_;refine fG @k3 ?_;obtain ⟨E,hre⟩:∃ E,Za5 [.set E3 (fun w=>Own w (.sl r3) E3 u3)] [.set E (fun w=>Zac w [.lit (.int .i64 i0),.lit (.string t1),.lit (.int .i64 i2),.sl r3] E [.int .i64 i0,.string t1,.int .i64 i2,u3])]:=⟨_,Ze1 [.lits [.int .i64 i0,.string t1,.int .i64 i2],.sl E3 r3 u3]⟩
 refine pE [1000] [1000] hre ?_;have hm:=Zbb.mk (row:=[.lit (.int .i64 i0),.lit (.string t1),.lit (.int .i64 i2),.sl r3]) (us:=[.int .i64 i0,.string t1,.int .i64 i2,u3]) (E:=E) rfl (by simp only [Zae,Tbl,List.map_nil,List.all_cons,List.all_nil,Bool.and_true,Taq];exact ⟨rfl,rfl,rfl,k3⟩);exact (have F:=e0P;gTP (R:=Zbb [.lit (.int .i64 i0),.lit (.string t1),.lit (.int .i64 i2),.sl r3]) [1000] hm)
theorem Zgz (hok:Zah (Zab .term) rows) (h:∀ (i:Nat) r,rows[i]?=some r->∀ {left:Int},0<=left->left<=1048576->Con e0 21 [.agg r,.one (.lit (.int .i64 left))] [.one (.lit (.int .i64 (sub left (bulkRow r))))]) (h0:0<=left) (h1:left<=1048576):Con e0 46 [.one (.sl rows),.one (.lit (.int .i64 left))] [.one (.lit (.int .i64 (sub left (rows.length+bulkRows rows))))]:=by
 refine Zcu (by kernel_rfl) fun hm=>?_;unfold maxLen at hm;have w:IntKind.i64.wrap (left - (rows.length:Int))=left - (rows.length:Int):=IntWalk.i64_in _ om;have hrb:Zay 4 rows=true:=ZaT.2 hok.rowsLen;refine gI 33589299 Try.func46 ?_;by_cases q:left < (rows.length:Int)
 ·rw [ZaI om];have q':(left - (rows.length:Int) < 0)=True:=eq_true om;exact fT (ai @w @q')
 have q':(left - (rows.length:Int) < 0)=False:=eq_false om;refine fG (ai @w @q') ?_;have F:=aj4 @tk0 @Zef @Int.natCast_zero @Int.sub_zero;refine gL (ι:=Nat) [1,4,5,15,25] [] (fun x=>[(5,.d (.one (.lit (.int .i64 (x:Int))))),(1,.d (.one (.lit (.int .i64 (left - (rows.length:Int) - (bulkRows (rows.take x):Int))))))]) (fun x=>[]) (fun x=>x<=rows.length∧0<=left - (rows.length:Int) - (bulkRows (rows.take x):Int)) (fun x=>rows.length - x) (0) (⟨Tai _,by simp [bulkRows];omega⟩) (fun x hx=>?_);clear F
 obtain ⟨hx,hl⟩:=hx;by_cases hlt:x < rows.length
 ·obtain ⟨r,hr⟩:∃ r,rows[x]?=some r:=⟨_,Taa hlt⟩;have hq:=hok.get hr;obtain ⟨ln,tk,dr⟩:=hq.take (n:=4) rfl;have okc:=hq.cells;have q1:=lT x rows.length;have wi:=Zb6 (k:=x) om;have hbt:=Zds hr;have hbl:=Zcv rows (x+1)
  skip
  have fe:=aj10 hr hlt ZbC hrb q1 okc ln tk dr (@Zaz C);obtain ⟨l,hle⟩:∃ l,l=left - (rows.length:Int) - (bulkRows (rows.take x):Int):=⟨_,rfl⟩;rw [<- hle];refine fB @fe ?_;refine fC @fe (h x _ hr (left:=l) om om) ?_;refine fR @fe ?_;by_cases q:l < ((bulkRow r:Nat):Int)
  ·rw [ZaI (b:=bulkRow r) q,ZaI om];have q':=lT (-1) 0;exact fT @q'
  rw [ZaZ (b:=bulkRow r) om];have q':(l - ((bulkRow r:Nat):Int) < 0)=False:=eq_false om;have e:left - (rows.length:Int) - (bulkRows (rows.take (x+1)):Int)=l - ((bulkRow r:Nat):Int):=om;have F:=aj3 @q' @wi @e;refine gG ?_;exact ⟨x+1,⟨hlt,om⟩,gw,gw,om⟩
 ·obtain rfl:x=rows.length:=by omega
  have q1:=lF rows.length rows.length;rw [Tao] at hl ⊢;rw [ZaZ om,show left - ((rows.length+bulkRows rows:Nat):Int)=left - (rows.length:Int) - (bulkRows rows:Int) by omega];exact fT @q1
theorem ZgA (hok:Zah (Zab .term) rows) (h:∀ (i:Nat) r,rows[i]?=some r->Con e0 31 [.agg r,.agg r] [.one (.lit (.bool true))]):Con e0 16 [.one (.sl rows),.one (.sl rows)] [.one (.lit (.bool true))]:=by
 refine Zcu (by kernel_rfl) fun hm=>?_;unfold maxLen at hm;have hrb:Zay 4 rows=true:=ZaT.2 hok.rowsLen;refine gI 67126323 Try.func16 ?_;refine fG (@beq_self_eq_true.{0}) ?_;have F:=@e0P;refine gL (ι:=Nat) [4,5,14,26] [] (fun x=>[(5,.d (.one (.lit (.int .i64 (x:Int)))))]) (fun x=>[]) (fun x=>x<=rows.length) (fun x=>rows.length - x) (0) (Tai _) (fun x hx=>?_);clear F;by_cases hlt:x < rows.length
 ·obtain ⟨r,hr⟩:∃ r,rows[x]?=some r:=⟨_,Taa hlt⟩;have hq:=hok.get hr;obtain ⟨ln,tk,dr⟩:=hq.take (n:=4) rfl;have okc:=hq.cells;have q1:=lT x rows.length;have wi:=Zb6 (k:=x) om;have fe:=aj10 hr hlt ZbC hrb q1 okc ln tk dr (@Zaz C);refine fB @fe ?_;refine fC @fe (h x _ hr) ?_;refine fR @fe ?_;have F:=@wi;refine gG ?_;exact ⟨x+1,hlt,gw,gw,om⟩
 ·obtain rfl:x=rows.length:=by omega
  have q1:=lF rows.length rows.length;exact fT @q1
theorem Zgf (hok:Zah (Zab .term) rows) (h:∀ (i:Nat) r,rows[i]?=some r->bulkRow r<=1048576->ConP e0 26 [.agg r] [] (Zbb r)) (hb:rows.length+bulkRows rows<=1048576):ConP e0 50 [.one (.sl rows)] [] (Zbf rows):=by
 have hrb:Zay 4 rows=true:=ZaT.2 hok.rowsLen;have hmx:((rows.length:Int)<=(maxApp:Int))=True:=eq_true (by unfold maxApp;omega);refine gIP (ts:=[.slot 2]) [] 2077 Try.func50 ?_;refine fG (ai @hmx @Tbo) ?_;refine pE [] [1000] Zb1 ?_;have F:=aj3 @nla @Nat.sub_zero @tk0;refine gL (ι:=Nat × List (List Value) × (Nat->Prop)) [3,4,11] [3,1000] (fun x=>[(4,.d (.one (.lit (.int .i64 (x.1:Int))))),(3,.buf 3)]) (fun x=>[(3,.buf none 31 4 (x.2.1.map Zae++List.replicate (rows.length - x.1) [C.lit (.int .i64 0),C.lit (.string .empty),C.lit (.int .i64 0),C.sl []])),(1000,.set x.2.2 (fun w=>Zag w (rows.take x.1) x.2.2 x.2.1))]) (fun x=>x.1<=rows.length∧x.2.1.length=x.1) (fun x=>rows.length - x.1) ((0,[],fun _=>False)) (⟨Tai _,rfl⟩) (fun x hx=>?_);clear F
 obtain ⟨i,uss,E⟩:=x;obtain ⟨hi,hn⟩:=hx;simp only at hi hn;dsimp only;by_cases hlt:i < rows.length
 ·obtain ⟨r,hr⟩:∃ r,rows[i]?=some r:=⟨_,Taa hlt⟩;have hq:=hok.get hr;obtain ⟨ln,tk,dr⟩:=hq.take (n:=4) rfl;have okc:=hq.cells;have q1:=lT i rows.length;have wi:=Zb6 (k:=i) om;have fe:=aj10 hr hlt ZbC hrb q1 okc ln tk dr (@Zaz C);obtain ⟨k,hk⟩:∃ k,rows.length - i=k+1:=⟨rows.length - i - 1,om⟩;have hk2:rows.length - (i+1)=k:=om;rw [hk];have bl:(uss.map Zae++List.replicate (k+1) [C.lit (.int .i64 0),C.lit (.string .empty),C.lit (.int .i64 0),C.sl []]).length=rows.length:=by simp;omega
  have bs:∀ X,(uss.map Zae++List.replicate (k+1) [C.lit (.int .i64 0),C.lit (.string .empty),C.lit (.int .i64 0),C.sl []]).set i X=(uss.map Zae++[X])++List.replicate k [C.lit (.int .i64 0),C.lit (.string .empty),C.lit (.int .i64 0),C.sl []]:=fun X=>Ze2 _ _ _ _ _ (by simp [hn]);have bg:(uss.map Zae++List.replicate (k+1) [C.lit (.int .i64 0),C.lit (.string .empty),C.lit (.int .i64 0),C.sl []])[i]?=some [C.lit (.int .i64 0),C.lit (.string .empty),C.lit (.int .i64 0),C.sl []]:=by rw [Tbj (by simp;omega),Tbk,if_pos (by simp;omega)]
  have hbr:=ZbQ hr;refine fB (ai @fe @bl) ?_;have F:=ai @fe @bl;refine gCP [] [1001] (h i _ hr om) ?_;clear F;rintro r' pm ⟨us,E2,rfl,hu,hok2,rfl⟩;rw [ln] at hu;obtain ⟨u0,u1,u2,u3,rfl⟩:=len4 hu;have hok2:Zai (.lit u0)=true∧Zai (.lit u1)=true∧Zai (.lit u2)=true∧Zai (.lit u3)=true:=by simpa [Zae,Taq,and_assoc] using hok2
  obtain ⟨k0,k1,k2,k3⟩:=hok2;have lr:Zae [u0,u1,u2,u3]=[.lit u0,.lit u1,.lit u2,.lit u3]:=rfl;rw [lr];simp only [setA,retA,zipM,Tae,Tag];refine fR (aj8 @hlt @bl @bs @bg @k0 @k1 @k2 @k3) ?_;refine pE [1000,1001] [1000] (ZeD (G':=fun w=>Zag w (rows.take (i+1)) (fun b=>E b∨E2 b) (uss++[[u0,u1,u2,u3]])) (fun w h1 h2 hd=>?_) (Zag.stable _ _ _)) ?_
  ·rw [tks hr];exact Zag.snoc h1 h2 (fun _ h=>.inl h) (fun _ h=>.inr h) hd
  have F:=aj5 @bs @wi @hk2 @lr ((@Tbm.{0,0}));refine gG ?_;exact ⟨(i+1,uss++[[u0,u1,u2,u3]],fun b=>E b∨E2 b),⟨hlt,by simp [hn]⟩,gw,gw,om⟩
 ·obtain rfl:i=rows.length:=by omega
  have q1:=lF rows.length rows.length;rw [Nat.sub_self,List.replicate_zero,List.append_nil,Tao];refine fG @q1 ?_;refine pS 2 fun a cap=>?_;refine pE [2,1000] [1000] (ZbE (fun w h=>h) (Own.stable _ _ _)) ?_;exact (have F:=e0P;gTP (R:=Zbf rows) [1000] ⟨.slice a uss.length cap,_,rfl,rfl,rfl⟩)
theorem Zgg (n:Nat):(∀ rows,Za1 rows < n->Zah (Zab .term) rows->∀ {left:Int},0<=left->left<=1048576->Con e0 46 [.one (.sl rows),.one (.lit (.int .i64 left))] [.one (.lit (.int .i64 (sub left (rows.length+bulkRows rows))))]):=by
 induction n with
 | zero=>exact fun rows h=>absurd h om
 | succ n ih =>
  exact fun rows hn hok {left} h0 h1=>Zgz hok (fun i r hr left h0 h1=>Zel (hok.get hr) (fun rows2 h2 ok2=>ih rows2 (by have:=Zbo hr;omega) ok2) h0 h1) h0 h1
theorem Zfl (hok:Zah (Zab .term) rows) (h0:0<=left) (h1:left<=1048576):Con e0 46 [.one (.sl rows),.one (.lit (.int .i64 left))] [.one (.lit (.int .i64 (sub left (rows.length+bulkRows rows))))]:=(Zgg _) rows (Tam _) hok h0 h1
theorem Zeg (hok:Zam (Zab .term) row) (h0:0<=left) (h1:left<=1048576):Con e0 21 [.agg row,.one (.lit (.int .i64 left))] [.one (.lit (.int .i64 (sub left (bulkRow row))))]:=Zel hok (fun rows _ ok=>(Zgg _) rows (Tam _) ok) h0 h1
theorem Zgh (n:Nat):(∀ rows,Za1 rows < n->Zah (Zab .term) rows->Con e0 16 [.one (.sl rows),.one (.sl rows)] [.one (.lit (.bool true))]):=by
 induction n with
 | zero=>exact fun rows h=>absurd h om
 | succ n ih =>
  exact fun rows hn hok=>ZgA hok (fun i r hr=>Zem (hok.get hr) (fun rows2 h2 ok2=>ih rows2 (by have:=Zbo hr;omega) ok2))
theorem ZdH (hok:Zah (Zab .term) rows):Con e0 16 [.one (.sl rows),.one (.sl rows)] [.one (.lit (.bool true))]:=(Zgh _) rows (Tam _) hok
theorem Zeh (hok:Zam (Zab .term) row):Con e0 31 [.agg row,.agg row] [.one (.lit (.bool true))]:=Zem hok (fun rows _ ok=>(Zgh _) rows (Tam _) ok)
theorem Zgi (n:Nat):(∀ rows,Za1 rows < n->Zah (Zab .term) rows->rows.length+bulkRows rows<=1048576->ConP e0 50 [.one (.sl rows)] [] (Zbf rows)):=by
 induction n with
 | zero=>exact fun rows h=>absurd h om
 | succ n ih =>
  exact fun rows hn hok hb=>Zgf hok (fun i r hr hb=>ZdU (hok.get hr) (fun rows2 h2 ok2=>ih rows2 (by have:=Zbo hr;omega) ok2) hb) hb
theorem ZeM (hok:Zah (Zab .term) rows) (hb:rows.length+bulkRows rows<=1048576):ConP e0 50 [.one (.sl rows)] [] (Zbf rows):=(Zgi _) rows (Tam _) hok hb
theorem ZdI (hok:Zam (Zab .term) row) (hb:bulkRow row<=1048576):ConP e0 26 [.agg row] [] (Zbb row):=ZdU hok (fun rows _ ok=>(Zgi _) rows (Tam _) ok) hb
theorem Zlc (hok:Zah (Zab .int) rows) (h0:0<=left) (h1:left<=1048576):Con e0 75 [.one (.sl rows),.one (.lit (.int .i64 left))] [.one (.lit (.int .i64 (sub left (rows.length+bulkRows rows))))]:=by
 refine Zcu (by kernel_rfl) fun hm=>?_;unfold maxLen at hm;have w:IntKind.i64.wrap (left - (rows.length:Int))=left - (rows.length:Int):=IntWalk.i64_in _ om;rw [Zql (fs:=Zab .int) (by rfl) hok,Nat.add_zero];refine gI 1043 Try.func75 ?_;by_cases q:left < (rows.length:Int)
 ·rw [ZaI om];have q':(left - (rows.length:Int) < 0)=True:=eq_true om;exact fT (ai @w @q')
 have q':(left - (rows.length:Int) < 0)=False:=eq_false om;rw [ZaZ om];exact fT (ai @w @q')
theorem Zld (hok:Zah (Zab .int) rows):Con e0 81 [.one (.sl rows),.one (.sl rows)] [.one (.lit (.bool true))]:=by
 refine Zcu (by kernel_rfl) fun hm=>?_;unfold maxLen at hm;have hrb:Zay 1 rows=true:=ZaT.2 hok.rowsLen;refine gI 33571891 Try.func81 ?_;refine fG (@beq_self_eq_true.{0}) ?_;have F:=@e0P;refine gL (ι:=Nat) [4,5,14,25] [] (fun x=>[(5,.d (.one (.lit (.int .i64 (x:Int)))))]) (fun x=>[]) (fun x=>x<=rows.length) (fun x=>rows.length - x) (0) (Tai _) (fun x hx=>?_);clear F;by_cases hlt:x < rows.length
 ·obtain ⟨r,hr⟩:∃ r,rows[x]?=some r:=⟨_,Taa hlt⟩;obtain ⟨x0,rfl,g0⟩:=ZeC (hok.get hr);have q1:=lT x rows.length;have wi:=Zb6 (k:=x) om;have fe:=aj5 hr hlt ZbC hrb q1;have F:=aj3 @beq_self_eq_true.{0} @wi @fe;refine gG ?_;exact ⟨x+1,hlt,gw,gw,om⟩
 ·obtain rfl:x=rows.length:=by omega
  have q1:=lF rows.length rows.length;exact fT @q1
theorem Zi3 (hok:Zah (Zab .int) rows) (hb:rows.length+bulkRows rows<=1048576):ConP e0 77 [.one (.sl rows)] [] (Zbf rows):=by
 have hrb:Zay 1 rows=true:=ZaT.2 hok.rowsLen;have hmx:((rows.length:Int)<=(maxApp:Int))=True:=eq_true (by unfold maxApp;omega);refine gIP (ts:=[.slot 2]) [] 2077 Try.func77 ?_;refine fG (ai @hmx @Tbo) ?_;refine pE [] [1000] Zb1 ?_;have F:=aj3 @nla @Nat.sub_zero @tk0;refine gL (ι:=Nat × List (List Value) × (Nat->Prop)) [3,4,11] [3,1000] (fun x=>[(4,.d (.one (.lit (.int .i64 (x.1:Int))))),(3,.buf 3)]) (fun x=>[(3,.buf none 3 1 (x.2.1.map Zae++List.replicate (rows.length - x.1) [C.lit (.int .i64 0)])),(1000,.set x.2.2 (fun w=>Zag w (rows.take x.1) x.2.2 x.2.1))]) (fun x=>x.1<=rows.length∧x.2.1.length=x.1) (fun x=>rows.length - x.1) ((0,[],fun _=>False)) (⟨Tai _,rfl⟩) (fun x hx=>?_);clear F
 obtain ⟨i,uss,E⟩:=x;obtain ⟨hi,hn⟩:=hx;simp only at hi hn;dsimp only;by_cases hlt:i < rows.length
 ·obtain ⟨r,hr⟩:∃ r,rows[i]?=some r:=⟨_,Taa hlt⟩;obtain ⟨x0,rfl,g0⟩:=ZeC (hok.get hr);have q1:=lT i rows.length;have wi:=Zb6 (k:=i) om;have fe:=aj5 hr hlt ZbC hrb q1;obtain ⟨k,hk⟩:∃ k,rows.length - i=k+1:=⟨rows.length - i - 1,om⟩;have hk2:rows.length - (i+1)=k:=om;rw [hk];have bl:(uss.map Zae++List.replicate (k+1) [C.lit (.int .i64 0)]).length=rows.length:=by simp;omega
  have bs:∀ X,(uss.map Zae++List.replicate (k+1) [C.lit (.int .i64 0)]).set i X=(uss.map Zae++[X])++List.replicate k [C.lit (.int .i64 0)]:=fun X=>Ze2 _ _ _ _ _ (by simp [hn]);have bg:(uss.map Zae++List.replicate (k+1) [C.lit (.int .i64 0)])[i]?=some [C.lit (.int .i64 0)]:=by rw [Tbj (by simp;omega),Tbk,if_pos (by simp;omega)]
  refine pE [1000] [1000] (ZnY (G':=fun w=>Zag w (rows.take (i+1)) E (uss++[[.int .i64 x0]])) (fun w h=>?_) (Zag.stable _ _ _)) ?_
  ·rw [tks hr];exact Zag.snoc (S2:=fun _=>False) h (Zac.lits (us:=[.int .i64 x0])) (fun _ h=>h) (fun _ h=>h.elim) (fun _ _ h=>h)
  have F:=aj8 @fe @bl @bs @bg @wi @hk2 @Zq0 ((@Tbm.{0,0}));refine gG ?_;exact ⟨(i+1,uss++[[.int .i64 x0]],E),⟨hlt,by simp [hn]⟩,gw,gw,om⟩
 ·obtain rfl:i=rows.length:=by omega
  have q1:=lF rows.length rows.length;rw [Nat.sub_self,List.replicate_zero,List.append_nil,Tao];refine fG @q1 ?_;refine pS 2 fun a cap=>?_;refine pE [2,1000] [1000] (ZbE (fun w h=>h) (Own.stable _ _ _)) ?_;exact (have F:=e0P;gTP (R:=Zbf rows) [1000] ⟨.slice a uss.length cap,_,rfl,rfl,rfl⟩)
theorem Zhr (hok:Zam (Zab .binding) row) (h0:0<=left) (h1:left<=1048576):Con e0 85 [.agg row,.one (.lit (.int .i64 left))] [.one (.lit (.int .i64 (sub left (bulkRow row))))]:=by
 obtain ⟨i0,t1,i2,r3,i4,t5,i6,r7,rfl,g0,g1,g2,g3,g4,g5,g6,g7⟩:=Zcq hok;rw [show bulkRow [.lit (.int .i64 i0),.lit (.string t1),.lit (.int .i64 i2),.sl r3,.lit (.int .i64 i4),.lit (.string t5),.lit (.int .i64 i6),.sl r7]=bulkRow [.lit (.int .i64 i0),.lit (.string t1),.lit (.int .i64 i2),.sl r3]+bulkRow [.lit (.int .i64 i4),.lit (.string t5),.lit (.int .i64 i6),.sl r7] by simp only [bulkRow,Zbh];omega]
 refine gI 66583 Try.func85 ?_;refine fB @e0P ?_;refine fC @e0P (Zeg (Zbc g0 g1 g2 g3) (left:=left) om om) ?_;refine fR @e0P ?_;by_cases q:left < ((bulkRow [.lit (.int .i64 i0),.lit (.string t1),.lit (.int .i64 i2),.sl r3]:Nat):Int)
 ·rw [ZaI (b:=bulkRow [.lit (.int .i64 i0),.lit (.string t1),.lit (.int .i64 i2),.sl r3]) q]
  try rw [ZaI om]
  have q':=lT (-1) 0;exact fT @q'
 rw [ZaZ (b:=bulkRow [.lit (.int .i64 i0),.lit (.string t1),.lit (.int .i64 i2),.sl r3]) om];have q':(left - ((bulkRow [.lit (.int .i64 i0),.lit (.string t1),.lit (.int .i64 i2),.sl r3]:Nat):Int) < 0)=False:=eq_false om;refine fG @q' ?_;obtain ⟨L0,e0⟩:∃ x,x=left - ((bulkRow [.lit (.int .i64 i0),.lit (.string t1),.lit (.int .i64 i2),.sl r3]:Nat):Int):=⟨_,rfl⟩;rw [<- e0];clear q';refine fB @e0P ?_;refine fC @e0P (Zeg (Zbc g4 g5 g6 g7) (left:=L0) om om) ?_
 refine fR @e0P ?_;by_cases q:L0 < ((bulkRow [.lit (.int .i64 i4),.lit (.string t5),.lit (.int .i64 i6),.sl r7]:Nat):Int)
 ·rw [ZaI (b:=bulkRow [.lit (.int .i64 i4),.lit (.string t5),.lit (.int .i64 i6),.sl r7]) q]
  try rw [ZaI om]
  have q':=lT (-1) 0;exact fT @q'
 rw [ZaZ (b:=bulkRow [.lit (.int .i64 i4),.lit (.string t5),.lit (.int .i64 i6),.sl r7]) om];have q':(L0 - ((bulkRow [.lit (.int .i64 i4),.lit (.string t5),.lit (.int .i64 i6),.sl r7]:Nat):Int) < 0)=False:=eq_false om;refine fG @q' ?_;obtain ⟨L1,e1⟩:∃ x,x=L0 - ((bulkRow [.lit (.int .i64 i4),.lit (.string t5),.lit (.int .i64 i6),.sl r7]:Nat):Int):=⟨_,rfl⟩;rw [<- e1];clear q'
 try rw [ZaZ om,show left - ((bulkRow [.lit (.int .i64 i0),.lit (.string t1),.lit (.int .i64 i2),.sl r3]+bulkRow [.lit (.int .i64 i4),.lit (.string t5),.lit (.int .i64 i6),.sl r7]:Nat):Int)=L1 by omega]
 exact fT @e0P
theorem Zhs (hok:Zam (Zab .binding) row):Con e0 97 [.agg row,.agg row] [.one (.lit (.bool true))]:=by
 obtain ⟨i0,t1,i2,r3,i4,t5,i6,r7,rfl,g0,g1,g2,g3,g4,g5,g6,g7⟩:=Zcq hok;refine gI 66591 Try.func97 ?_;refine fB (@beq_self_eq_true.{0}) ?_;refine fC @e0P (Zeh (Zbc g0 g1 g2 g3)) ?_;refine fR @e0P ?_;refine fB (@beq_self_eq_true.{0}) ?_;refine fC @e0P (Zeh (Zbc g4 g5 g6 g7)) ?_;refine fR @e0P ?_;exact fT (@beq_self_eq_true.{0})
theorem ZgB (hok:Zam (Zab .binding) row) (hb:bulkRow row<=1048576):ConP e0 86 [.agg row] [] (Zbb row):=by
 obtain ⟨i0,t1,i2,r3,i4,t5,i6,r7,rfl,g0,g1,g2,g3,g4,g5,g6,g7⟩:=Zcq hok;simp only [bulkRow,Zbh] at hb;refine gIP (ts:=[.cell 2 103]) [] 15 Try.func86 ?_;refine fB @e0P ?_;have F:=@e0P;refine gCP [] [1000] (ZdI (Zbc g0 g1 g2 g3) (by simp only [bulkRow,Zbh];omega)) ?_;clear F;rintro r pm ⟨us,E0,rfl,hu,hc,rfl⟩;obtain ⟨u0,u1,u2,u3,rfl⟩:=len4 hu;have hc:Zai (.lit u0)=true∧Zai (.lit u1)=true∧Zai (.lit u2)=true∧Zai (.lit u3)=true:=by simpa [Zae,Taq,and_assoc] using hc
 obtain ⟨k0,k1,k2,k3⟩:=hc;have lr0:Zae [u0,u1,u2,u3]=[.lit u0,.lit u1,.lit u2,.lit u3]:=rfl;rw [lr0];simp only [setA,retA,zipM,Tae,Tag];refine fR (aj4 @k0 @k1 @k2 @k3) ?_;refine fB @e0P ?_;have F:=@e0P;refine gCP [] [1001] (ZdI (Zbc g4 g5 g6 g7) (by simp only [bulkRow,Zbh];omega)) ?_;clear F;rintro r pm ⟨us,E4,rfl,hu,hc,rfl⟩;obtain ⟨u4,u5,u6,u7,rfl⟩:=len4 hu;have hc:Zai (.lit u4)=true∧Zai (.lit u5)=true∧Zai (.lit u6)=true∧Zai (.lit u7)=true:=by simpa [Zae,Taq,and_assoc] using hc
 obtain ⟨k4,k5,k6,k7⟩:=hc;have lr4:Zae [u4,u5,u6,u7]=[.lit u4,.lit u5,.lit u6,.lit u7]:=rfl;rw [lr4];simp only [setA,retA,zipM,Tae,Tag];refine fR (aj4 @k4 @k5 @k6 @k7) ?_;refine fG (aj8 @k0 @k1 @k2 @k3 @k4 @k5 @k6 @k7) ?_;obtain ⟨E,hre⟩:∃ E,Za5 [.set E0 (fun w=>Zac w [.lit (.int .i64 i0),.lit (.string t1),.lit (.int .i64 i2),.sl r3] E0 [u0,u1,u2,u3]),.set E4 (fun w=>Zac w [.lit (.int .i64 i4),.lit (.string t5),.lit (.int .i64 i6),.sl r7] E4 [u4,u5,u6,u7])] [.set E (fun w=>Zac w [.lit (.int .i64 i0),.lit (.string t1),.lit (.int .i64 i2),.sl r3,.lit (.int .i64 i4),.lit (.string t5),.lit (.int .i64 i6),.sl r7] E [u0,u1,u2,u3,u4,u5,u6,u7])]:=⟨_,Ze1 [.st E0 [.lit (.int .i64 i0),.lit (.string t1),.lit (.int .i64 i2),.sl r3] [u0,u1,u2,u3],.st E4 [.lit (.int .i64 i4),.lit (.string t5),.lit (.int .i64 i6),.sl r7] [u4,u5,u6,u7]]⟩
 refine pE [1000,1001] [1000] hre ?_;have hm:=Zbb.mk (row:=[.lit (.int .i64 i0),.lit (.string t1),.lit (.int .i64 i2),.sl r3,.lit (.int .i64 i4),.lit (.string t5),.lit (.int .i64 i6),.sl r7]) (us:=[u0,u1,u2,u3,u4,u5,u6,u7]) (E:=E) rfl (by simp only [Zae,Tbl,List.map_nil,List.all_cons,List.all_nil,Bool.and_true,Taq];exact ⟨k0,k1,k2,k3,k4,k5,k6,k7⟩);exact (have F:=e0P;gTP (R:=Zbb [.lit (.int .i64 i0),.lit (.string t1),.lit (.int .i64 i2),.sl r3,.lit (.int .i64 i4),.lit (.string t5),.lit (.int .i64 i6),.sl r7]) [1000] hm)
theorem ZgC (hok:Zah (Zab .binding) rows) (h0:0<=left) (h1:left<=1048576):Con e0 76 [.one (.sl rows),.one (.lit (.int .i64 left))] [.one (.lit (.int .i64 (sub left (rows.length+bulkRows rows))))]:=by
 refine Zcu (by kernel_rfl) fun hm=>?_;unfold maxLen at hm;have w:IntKind.i64.wrap (left - (rows.length:Int))=left - (rows.length:Int):=IntWalk.i64_in _ om;have hrb:Zay 8 rows=true:=ZaT.2 hok.rowsLen;refine gI 33589299 Try.func76 ?_;by_cases q:left < (rows.length:Int)
 ·rw [ZaI om];have q':(left - (rows.length:Int) < 0)=True:=eq_true om;exact fT (ai @w @q')
 have q':(left - (rows.length:Int) < 0)=False:=eq_false om;refine fG (ai @w @q') ?_;have F:=aj4 @tk0 @Zef @Int.natCast_zero @Int.sub_zero;refine gL (ι:=Nat) [1,4,5,15,25] [] (fun x=>[(5,.d (.one (.lit (.int .i64 (x:Int))))),(1,.d (.one (.lit (.int .i64 (left - (rows.length:Int) - (bulkRows (rows.take x):Int))))))]) (fun x=>[]) (fun x=>x<=rows.length∧0<=left - (rows.length:Int) - (bulkRows (rows.take x):Int)) (fun x=>rows.length - x) (0) (⟨Tai _,by simp [bulkRows];omega⟩) (fun x hx=>?_);clear F
 obtain ⟨hx,hl⟩:=hx;by_cases hlt:x < rows.length
 ·obtain ⟨r,hr⟩:∃ r,rows[x]?=some r:=⟨_,Taa hlt⟩;have hq:=hok.get hr;obtain ⟨ln,tk,dr⟩:=hq.take (n:=8) rfl;have okc:=hq.cells;have q1:=lT x rows.length;have wi:=Zb6 (k:=x) om;have hbt:=Zds hr;have hbl:=Zcv rows (x+1)
  skip
  have fe:=aj10 hr hlt ZbC hrb q1 okc ln tk dr (@Zaz C);obtain ⟨l,hle⟩:∃ l,l=left - (rows.length:Int) - (bulkRows (rows.take x):Int):=⟨_,rfl⟩;rw [<- hle];refine fB @fe ?_;refine fC @fe (Zhr hq (left:=l) om om) ?_;refine fR @fe ?_;by_cases q:l < ((bulkRow r:Nat):Int)
  ·rw [ZaI (b:=bulkRow r) q,ZaI om];have q':=lT (-1) 0;exact fT @q'
  rw [ZaZ (b:=bulkRow r) om];have q':(l - ((bulkRow r:Nat):Int) < 0)=False:=eq_false om;have e:left - (rows.length:Int) - (bulkRows (rows.take (x+1)):Int)=l - ((bulkRow r:Nat):Int):=om;have F:=aj3 @q' @wi @e;refine gG ?_;exact ⟨x+1,⟨hlt,om⟩,gw,gw,om⟩
 ·obtain rfl:x=rows.length:=by omega
  have q1:=lF rows.length rows.length;rw [Tao] at hl ⊢;rw [ZaZ om,show left - ((rows.length+bulkRows rows:Nat):Int)=left - (rows.length:Int) - (bulkRows rows:Int) by omega];exact fT @q1
theorem ZgD (hok:Zah (Zab .binding) rows):Con e0 82 [.one (.sl rows),.one (.sl rows)] [.one (.lit (.bool true))]:=by
 refine Zcu (by kernel_rfl) fun hm=>?_;unfold maxLen at hm;have hrb:Zay 8 rows=true:=ZaT.2 hok.rowsLen;refine gI 67126323 Try.func82 ?_;refine fG (@beq_self_eq_true.{0}) ?_;have F:=@e0P;refine gL (ι:=Nat) [4,5,14,26] [] (fun x=>[(5,.d (.one (.lit (.int .i64 (x:Int)))))]) (fun x=>[]) (fun x=>x<=rows.length) (fun x=>rows.length - x) (0) (Tai _) (fun x hx=>?_);clear F;by_cases hlt:x < rows.length
 ·obtain ⟨r,hr⟩:∃ r,rows[x]?=some r:=⟨_,Taa hlt⟩;have hq:=hok.get hr;obtain ⟨ln,tk,dr⟩:=hq.take (n:=8) rfl;have okc:=hq.cells;have q1:=lT x rows.length;have wi:=Zb6 (k:=x) om;have fe:=aj10 hr hlt ZbC hrb q1 okc ln tk dr (@Zaz C);refine fB @fe ?_;refine fC @fe (Zhs hq) ?_;refine fR @fe ?_;have F:=@wi;refine gG ?_;exact ⟨x+1,hlt,gw,gw,om⟩
 ·obtain rfl:x=rows.length:=by omega
  have q1:=lF rows.length rows.length;exact fT @q1
theorem Zgj (hok:Zah (Zab .binding) rows) (hb:rows.length+bulkRows rows<=1048576):ConP e0 78 [.one (.sl rows)] [] (Zbf rows):=by
 have hrb:Zay 8 rows=true:=ZaT.2 hok.rowsLen;have hmx:((rows.length:Int)<=(maxApp:Int))=True:=eq_true (by unfold maxApp;omega);refine gIP (ts:=[.slot 2]) [] 2077 Try.func78 ?_;refine fG (ai @hmx @Tbo) ?_;refine pE [] [1000] Zb1 ?_;have F:=aj3 @nla @Nat.sub_zero @tk0;refine gL (ι:=Nat × List (List Value) × (Nat->Prop)) [3,4,11] [3,1000] (fun x=>[(4,.d (.one (.lit (.int .i64 (x.1:Int))))),(3,.buf 3)]) (fun x=>[(3,.buf none 103 8 (x.2.1.map Zae++List.replicate (rows.length - x.1) [C.lit (.int .i64 0),C.lit (.string .empty),C.lit (.int .i64 0),C.sl [],C.lit (.int .i64 0),C.lit (.string .empty),C.lit (.int .i64 0),C.sl []])),(1000,.set x.2.2 (fun w=>Zag w (rows.take x.1) x.2.2 x.2.1))]) (fun x=>x.1<=rows.length∧x.2.1.length=x.1) (fun x=>rows.length - x.1) ((0,[],fun _=>False)) (⟨Tai _,rfl⟩) (fun x hx=>?_);clear F
 obtain ⟨i,uss,E⟩:=x;obtain ⟨hi,hn⟩:=hx;simp only at hi hn;dsimp only;by_cases hlt:i < rows.length
 ·obtain ⟨r,hr⟩:∃ r,rows[i]?=some r:=⟨_,Taa hlt⟩;have hq:=hok.get hr;obtain ⟨ln,tk,dr⟩:=hq.take (n:=8) rfl;have okc:=hq.cells;have q1:=lT i rows.length;have wi:=Zb6 (k:=i) om;have fe:=aj10 hr hlt ZbC hrb q1 okc ln tk dr (@Zaz C);obtain ⟨k,hk⟩:∃ k,rows.length - i=k+1:=⟨rows.length - i - 1,om⟩;have hk2:rows.length - (i+1)=k:=om;rw [hk];have bl:(uss.map Zae++List.replicate (k+1) [C.lit (.int .i64 0),C.lit (.string .empty),C.lit (.int .i64 0),C.sl [],C.lit (.int .i64 0),C.lit (.string .empty),C.lit (.int .i64 0),C.sl []]).length=rows.length:=by simp;omega
  have bs:∀ X,(uss.map Zae++List.replicate (k+1) [C.lit (.int .i64 0),C.lit (.string .empty),C.lit (.int .i64 0),C.sl [],C.lit (.int .i64 0),C.lit (.string .empty),C.lit (.int .i64 0),C.sl []]).set i X=(uss.map Zae++[X])++List.replicate k [C.lit (.int .i64 0),C.lit (.string .empty),C.lit (.int .i64 0),C.sl [],C.lit (.int .i64 0),C.lit (.string .empty),C.lit (.int .i64 0),C.sl []]:=fun X=>Ze2 _ _ _ _ _ (by simp [hn])
  have bg:(uss.map Zae++List.replicate (k+1) [C.lit (.int .i64 0),C.lit (.string .empty),C.lit (.int .i64 0),C.sl [],C.lit (.int .i64 0),C.lit (.string .empty),C.lit (.int .i64 0),C.sl []])[i]?=some [C.lit (.int .i64 0),C.lit (.string .empty),C.lit (.int .i64 0),C.sl [],C.lit (.int .i64 0),C.lit (.string .empty),C.lit (.int .i64 0),C.sl []]:=by rw [Tbj (by simp;omega),Tbk,if_pos (by simp;omega)]
  have hbr:=ZbQ hr;refine fB (ai @fe @bl) ?_;have F:=ai @fe @bl;refine gCP [] [1001] (ZgB hq om) ?_;clear F;rintro r' pm ⟨us,E2,rfl,hu,hok2,rfl⟩;rw [ln] at hu;obtain ⟨u0,u1,u2,u3,u4,u5,u6,u7,rfl⟩:=len8 hu;have hok2:Zai (.lit u0)=true∧Zai (.lit u1)=true∧Zai (.lit u2)=true∧Zai (.lit u3)=true∧Zai (.lit u4)=true∧Zai (.lit u5)=true∧Zai (.lit u6)=true∧Zai (.lit u7)=true:=by simpa [Zae,Taq,and_assoc] using hok2
  obtain ⟨k0,k1,k2,k3,k4,k5,k6,k7⟩:=hok2;have lr:Zae [u0,u1,u2,u3,u4,u5,u6,u7]=[.lit u0,.lit u1,.lit u2,.lit u3,.lit u4,.lit u5,.lit u6,.lit u7]:=rfl;rw [lr];simp only [setA,retA,zipM,Tae,Tag];refine fR (aj12 @hlt @bl @bs @bg @k0 @k1 @k2 @k3 @k4 @k5 @k6 @k7) ?_;refine pE [1000,1001] [1000] (ZeD (G':=fun w=>Zag w (rows.take (i+1)) (fun b=>E b∨E2 b) (uss++[[u0,u1,u2,u3,u4,u5,u6,u7]])) (fun w h1 h2 hd=>?_) (Zag.stable _ _ _)) ?_
  ·rw [tks hr];exact Zag.snoc h1 h2 (fun _ h=>.inl h) (fun _ h=>.inr h) hd
  have F:=aj5 @bs @wi @hk2 @lr ((@Tbm.{0,0}));refine gG ?_;exact ⟨(i+1,uss++[[u0,u1,u2,u3,u4,u5,u6,u7]],fun b=>E b∨E2 b),⟨hlt,by simp [hn]⟩,gw,gw,om⟩
 ·obtain rfl:i=rows.length:=by omega
  have q1:=lF rows.length rows.length;rw [Nat.sub_self,List.replicate_zero,List.append_nil,Tao];refine fG @q1 ?_;refine pS 2 fun a cap=>?_;refine pE [2,1000] [1000] (ZbE (fun w h=>h) (Own.stable _ _ _)) ?_;exact (have F:=e0P;gTP (R:=Zbf rows) [1000] ⟨.slice a uss.length cap,_,rfl,rfl,rfl⟩)
theorem ZfB (hok:Zam (Zab .occ) row) (h0:0<=left) (h1:left<=1048576):Con e0 60 [.agg row,.one (.lit (.int .i64 left))] [.one (.lit (.int .i64 (sub left (bulkRow row))))]:=by
 obtain ⟨r0,r1,r2,r3,rfl,g0,g1,g2,g3⟩:=Zcr hok;rw [show bulkRow [.sl r0,.sl r1,.sl r2,.sl r3]=(r0.length+bulkRows r0)+(r1.length+bulkRows r1)+(r2.length+bulkRows r2)+(r3.length+bulkRows r3) by simp only [bulkRow,Zbh];omega];refine gI 272696343 Try.func60 ?_;refine fB @e0P ?_;refine fC @e0P (Zlc g0 (left:=left) om om) ?_;refine fR @e0P ?_;by_cases q:left < (((r0.length+bulkRows r0):Nat):Int)
 ·rw [ZaI (b:=(r0.length+bulkRows r0)) q]
  try rw [ZaI om]
  have q':=lT (-1) 0;exact fT @q'
 rw [ZaZ (b:=(r0.length+bulkRows r0)) om];have q':(left - (((r0.length+bulkRows r0):Nat):Int) < 0)=False:=eq_false om;refine fG @q' ?_;obtain ⟨L0,e0⟩:∃ x,x=left - (((r0.length+bulkRows r0):Nat):Int):=⟨_,rfl⟩;rw [<- e0];clear q';refine fB @e0P ?_;refine fC @e0P (Zfl g1 (left:=L0) om om) ?_;refine fR @e0P ?_;by_cases q:L0 < (((r1.length+bulkRows r1):Nat):Int)
 ·rw [ZaI (b:=(r1.length+bulkRows r1)) q]
  try rw [ZaI om]
  have q':=lT (-1) 0;exact fT @q'
 rw [ZaZ (b:=(r1.length+bulkRows r1)) om];have q':(L0 - (((r1.length+bulkRows r1):Nat):Int) < 0)=False:=eq_false om;refine fG @q' ?_;obtain ⟨L1,e1⟩:∃ x,x=L0 - (((r1.length+bulkRows r1):Nat):Int):=⟨_,rfl⟩;rw [<- e1];clear q';refine fB @e0P ?_;refine fC @e0P (Zfl g2 (left:=L1) om om) ?_;refine fR @e0P ?_;by_cases q:L1 < (((r2.length+bulkRows r2):Nat):Int)
 ·rw [ZaI (b:=(r2.length+bulkRows r2)) q]
  try rw [ZaI om]
  have q':=lT (-1) 0;exact fT @q'
 rw [ZaZ (b:=(r2.length+bulkRows r2)) om];have q':(L1 - (((r2.length+bulkRows r2):Nat):Int) < 0)=False:=eq_false om;refine fG @q' ?_;obtain ⟨L2,e2⟩:∃ x,x=L1 - (((r2.length+bulkRows r2):Nat):Int):=⟨_,rfl⟩;rw [<- e2];clear q';refine fB @e0P ?_;refine fC @e0P (ZgC g3 (left:=L2) om om) ?_;refine fR @e0P ?_;by_cases q:L2 < (((r3.length+bulkRows r3):Nat):Int)
 ·rw [ZaI (b:=(r3.length+bulkRows r3)) q]
  try rw [ZaI om]
  have q':=lT (-1) 0;exact fT @q'
 rw [ZaZ (b:=(r3.length+bulkRows r3)) om];have q':(L2 - (((r3.length+bulkRows r3):Nat):Int) < 0)=False:=eq_false om;refine fG @q' ?_;obtain ⟨L3,e3⟩:∃ x,x=L2 - (((r3.length+bulkRows r3):Nat):Int):=⟨_,rfl⟩;rw [<- e3];clear q'
 try rw [ZaZ om,show left - (((r0.length+bulkRows r0)+(r1.length+bulkRows r1)+(r2.length+bulkRows r2)+(r3.length+bulkRows r3):Nat):Int)=L3 by omega]
 exact fT @e0P
theorem ZfC (hok:Zam (Zab .occ) row):Con e0 64 [.agg row,.agg row] [.one (.lit (.bool true))]:=by
 obtain ⟨r0,r1,r2,r3,rfl,g0,g1,g2,g3⟩:=Zcr hok;refine gI 272696351 Try.func64 ?_;refine fB (@beq_self_eq_true.{0}) ?_;refine fC @e0P (Zld g0) ?_;refine fR @e0P ?_;refine fB (@beq_self_eq_true.{0}) ?_;refine fC @e0P (ZdH g1) ?_;refine fR @e0P ?_;refine fB (@beq_self_eq_true.{0}) ?_;refine fC @e0P (ZdH g2) ?_;refine fR @e0P ?_;refine fB (@beq_self_eq_true.{0}) ?_;refine fC @e0P (ZgD g3) ?_;refine fR @e0P ?_
 exact fT (@beq_self_eq_true.{0})
theorem Ze3 (hok:Zam (Zab .occ) row) (hb:bulkRow row<=1048576):ConP e0 61 [.agg row] [] (Zbb row):=by
 obtain ⟨r0,r1,r2,r3,rfl,g0,g1,g2,g3⟩:=Zcr hok;simp only [bulkRow,Zbh] at hb;refine gIP (ts:=[.cell 2 72]) [] 15 Try.func61 ?_;refine fB @e0P ?_;have F:=@e0P;refine gCP [] [1000] (Zi3 g0 om) ?_;clear F;rintro r pm ⟨u0,E0,rfl,k0,rfl⟩;simp only [setA,retA,zipM,Tae,Tag];refine fR @k0 ?_;refine fB @e0P ?_;have F:=@e0P;refine gCP [] [1001] (ZeM g1 om) ?_;clear F;rintro r pm ⟨u1,E1,rfl,k1,rfl⟩;simp only [setA,retA,zipM,Tae,Tag]
 refine fR @k1 ?_;refine fB @e0P ?_;have F:=@e0P;refine gCP [] [1002] (ZeM g2 om) ?_;clear F;rintro r pm ⟨u2,E2,rfl,k2,rfl⟩;simp only [setA,retA,zipM,Tae,Tag];refine fR @k2 ?_;refine fB @e0P ?_;have F:=@e0P;refine gCP [] [1003] (Zgj g3 om) ?_;clear F;rintro r pm ⟨u3,E3,rfl,k3,rfl⟩;simp only [setA,retA,zipM,Tae,Tag];refine fR @k3 ?_;refine fG (aj4 @k0 @k1 @k2 @k3) ?_;obtain ⟨E,hre⟩:∃ E,Za5 [.set E0 (fun w=>Own w (.sl r0) E0 u0),.set E1 (fun w=>Own w (.sl r1) E1 u1),.set E2 (fun w=>Own w (.sl r2) E2 u2),.set E3 (fun w=>Own w (.sl r3) E3 u3)] [.set E (fun w=>Zac w [.sl r0,.sl r1,.sl r2,.sl r3] E [u0,u1,u2,u3])]:=⟨_,Ze1 [.sl E0 r0 u0,.sl E1 r1 u1,.sl E2 r2 u2,.sl E3 r3 u3]⟩
 refine pE [1000,1001,1002,1003] [1000] hre ?_;have hm:=Zbb.mk (row:=[.sl r0,.sl r1,.sl r2,.sl r3]) (us:=[u0,u1,u2,u3]) (E:=E) rfl (by simp only [Zae,Tbl,List.map_nil,List.all_cons,List.all_nil,Bool.and_true,Taq];exact ⟨k0,k1,k2,k3⟩);exact (have F:=e0P;gTP (R:=Zbb [.sl r0,.sl r1,.sl r2,.sl r3]) [1000] hm)
theorem Zle (hok:Zam (Zab .step) row) (h0:0<=left) (h1:left<=1048576):Con e0 37 [.agg row,.one (.lit (.int .i64 left))] [.one (.lit (.int .i64 (sub left (bulkRow row))))]:=by
 obtain ⟨i0,r1,r2,r3,r4,i5,t6,i7,r8,rfl,g0,g1,g2,g3,g4,g5,g6,g7,g8⟩:=ZcC hok;rw [show bulkRow [.lit (.int .i64 i0),.sl r1,.sl r2,.sl r3,.sl r4,.lit (.int .i64 i5),.lit (.string t6),.lit (.int .i64 i7),.sl r8]=bulkRow [.sl r1,.sl r2,.sl r3,.sl r4]+bulkRow [.lit (.int .i64 i5),.lit (.string t6),.lit (.int .i64 i7),.sl r8] by simp only [bulkRow,Zbh];omega];refine gI 66583 Try.func37 ?_;refine fB @e0P ?_
 refine fC @e0P (ZfB (Zcs g1 g2 g3 g4) (left:=left) om om) ?_;refine fR @e0P ?_;by_cases q:left < ((bulkRow [.sl r1,.sl r2,.sl r3,.sl r4]:Nat):Int)
 ·rw [ZaI (b:=bulkRow [.sl r1,.sl r2,.sl r3,.sl r4]) q]
  try rw [ZaI om]
  have q':=lT (-1) 0;exact fT @q'
 rw [ZaZ (b:=bulkRow [.sl r1,.sl r2,.sl r3,.sl r4]) om];have q':(left - ((bulkRow [.sl r1,.sl r2,.sl r3,.sl r4]:Nat):Int) < 0)=False:=eq_false om;refine fG @q' ?_;obtain ⟨L0,e0⟩:∃ x,x=left - ((bulkRow [.sl r1,.sl r2,.sl r3,.sl r4]:Nat):Int):=⟨_,rfl⟩;rw [<- e0];clear q';refine fB @e0P ?_;refine fC @e0P (Zeg (Zbc g5 g6 g7 g8) (left:=L0) om om) ?_;refine fR @e0P ?_;by_cases q:L0 < ((bulkRow [.lit (.int .i64 i5),.lit (.string t6),.lit (.int .i64 i7),.sl r8]:Nat):Int)
 ·rw [ZaI (b:=bulkRow [.lit (.int .i64 i5),.lit (.string t6),.lit (.int .i64 i7),.sl r8]) q]
  try rw [ZaI om]
  have q':=lT (-1) 0;exact fT @q'
 rw [ZaZ (b:=bulkRow [.lit (.int .i64 i5),.lit (.string t6),.lit (.int .i64 i7),.sl r8]) om];have q':(L0 - ((bulkRow [.lit (.int .i64 i5),.lit (.string t6),.lit (.int .i64 i7),.sl r8]:Nat):Int) < 0)=False:=eq_false om;refine fG @q' ?_;obtain ⟨L1,e1⟩:∃ x,x=L0 - ((bulkRow [.lit (.int .i64 i5),.lit (.string t6),.lit (.int .i64 i7),.sl r8]:Nat):Int):=⟨_,rfl⟩;rw [<- e1];clear q'
 try rw [ZaZ om,show left - ((bulkRow [.sl r1,.sl r2,.sl r3,.sl r4]+bulkRow [.lit (.int .i64 i5),.lit (.string t6),.lit (.int .i64 i7),.sl r8]:Nat):Int)=L1 by omega]
 exact fT @e0P
theorem Zlf (hok:Zam (Zab .step) row):Con e0 42 [.agg row,.agg row] [.one (.lit (.bool true))]:=by
 obtain ⟨i0,r1,r2,r3,r4,i5,t6,i7,r8,rfl,g0,g1,g2,g3,g4,g5,g6,g7,g8⟩:=ZcC hok;refine gI 2130463 Try.func42 ?_;refine fB (@beq_self_eq_true.{0}) ?_;refine fC @e0P (ZfC (Zcs g1 g2 g3 g4)) ?_;refine fR @e0P ?_;refine fB (@beq_self_eq_true.{0}) ?_;refine fC @e0P (Zeh (Zbc g5 g6 g7 g8)) ?_;refine fR @e0P ?_;exact fT (@beq_self_eq_true.{0})
theorem Zi4 (hok:Zam (Zab .step) row) (hb:bulkRow row<=1048576):ConP e0 40 [.agg row] [] (Zbb row):=by
 obtain ⟨i0,r1,r2,r3,r4,i5,t6,i7,r8,rfl,g0,g1,g2,g3,g4,g5,g6,g7,g8⟩:=ZcC hok;simp only [bulkRow,Zbh] at hb;refine gIP (ts:=[.cell 2 74]) [] 15 Try.func40 ?_;refine fB @e0P ?_;have F:=@e0P;refine gCP [] [1000] (Ze3 (Zcs g1 g2 g3 g4) (by simp only [bulkRow,Zbh];omega)) ?_;clear F;rintro r pm ⟨us,E1,rfl,hu,hc,rfl⟩;obtain ⟨u1,u2,u3,u4,rfl⟩:=len4 hu;have hc:Zai (.lit u1)=true∧Zai (.lit u2)=true∧Zai (.lit u3)=true∧Zai (.lit u4)=true:=by simpa [Zae,Taq,and_assoc] using hc
 obtain ⟨k1,k2,k3,k4⟩:=hc;have lr1:Zae [u1,u2,u3,u4]=[.lit u1,.lit u2,.lit u3,.lit u4]:=rfl;rw [lr1];simp only [setA,retA,zipM,Tae,Tag];refine fR (aj4 @k1 @k2 @k3 @k4) ?_;refine fB @e0P ?_;have F:=@e0P;refine gCP [] [1001] (ZdI (Zbc g5 g6 g7 g8) (by simp only [bulkRow,Zbh];omega)) ?_;clear F;rintro r pm ⟨us,E5,rfl,hu,hc,rfl⟩;obtain ⟨u5,u6,u7,u8,rfl⟩:=len4 hu;have hc:Zai (.lit u5)=true∧Zai (.lit u6)=true∧Zai (.lit u7)=true∧Zai (.lit u8)=true:=by simpa [Zae,Taq,and_assoc] using hc
 obtain ⟨k5,k6,k7,k8⟩:=hc;have lr5:Zae [u5,u6,u7,u8]=[.lit u5,.lit u6,.lit u7,.lit u8]:=rfl;rw [lr5];simp only [setA,retA,zipM,Tae,Tag];refine fR (aj4 @k5 @k6 @k7 @k8) ?_;refine fG (aj8 @k1 @k2 @k3 @k4 @k5 @k6 @k7 @k8) ?_;obtain ⟨E,hre⟩:∃ E,Za5 [.set E1 (fun w=>Zac w [.sl r1,.sl r2,.sl r3,.sl r4] E1 [u1,u2,u3,u4]),.set E5 (fun w=>Zac w [.lit (.int .i64 i5),.lit (.string t6),.lit (.int .i64 i7),.sl r8] E5 [u5,u6,u7,u8])] [.set E (fun w=>Zac w [.lit (.int .i64 i0),.sl r1,.sl r2,.sl r3,.sl r4,.lit (.int .i64 i5),.lit (.string t6),.lit (.int .i64 i7),.sl r8] E [.int .i64 i0,u1,u2,u3,u4,u5,u6,u7,u8])]:=⟨_,Ze1 [.lits [.int .i64 i0],.st E1 [.sl r1,.sl r2,.sl r3,.sl r4] [u1,u2,u3,u4],.st E5 [.lit (.int .i64 i5),.lit (.string t6),.lit (.int .i64 i7),.sl r8] [u5,u6,u7,u8]]⟩
 refine pE [1000,1001] [1000] hre ?_;have hm:=Zbb.mk (row:=[.lit (.int .i64 i0),.sl r1,.sl r2,.sl r3,.sl r4,.lit (.int .i64 i5),.lit (.string t6),.lit (.int .i64 i7),.sl r8]) (us:=[.int .i64 i0,u1,u2,u3,u4,u5,u6,u7,u8]) (E:=E) rfl (by simp only [Zae,Tbl,List.map_nil,List.all_cons,List.all_nil,Bool.and_true,Taq];exact ⟨rfl,k1,k2,k3,k4,k5,k6,k7,k8⟩);exact (have F:=e0P;gTP (R:=Zbb [.lit (.int .i64 i0),.sl r1,.sl r2,.sl r3,.sl r4,.lit (.int .i64 i5),.lit (.string t6),.lit (.int .i64 i7),.sl r8]) [1000] hm)
theorem Zi5 (hok:Zah (Zab .step) rows) (h0:0<=left) (h1:left<=1048576):Con e0 12 [.one (.sl rows),.one (.lit (.int .i64 left))] [.one (.lit (.int .i64 (sub left (rows.length+bulkRows rows))))]:=by
 refine Zcu (by kernel_rfl) fun hm=>?_;unfold maxLen at hm;have w:IntKind.i64.wrap (left - (rows.length:Int))=left - (rows.length:Int):=IntWalk.i64_in _ om;have hrb:Zay 9 rows=true:=ZaT.2 hok.rowsLen;refine gI 33589299 Try.func12 ?_;by_cases q:left < (rows.length:Int)
 ·rw [ZaI om];have q':(left - (rows.length:Int) < 0)=True:=eq_true om;exact fT (ai @w @q')
 have q':(left - (rows.length:Int) < 0)=False:=eq_false om;refine fG (ai @w @q') ?_;have F:=aj4 @tk0 @Zef @Int.natCast_zero @Int.sub_zero;refine gL (ι:=Nat) [1,4,5,15,25] [] (fun x=>[(5,.d (.one (.lit (.int .i64 (x:Int))))),(1,.d (.one (.lit (.int .i64 (left - (rows.length:Int) - (bulkRows (rows.take x):Int))))))]) (fun x=>[]) (fun x=>x<=rows.length∧0<=left - (rows.length:Int) - (bulkRows (rows.take x):Int)) (fun x=>rows.length - x) (0) (⟨Tai _,by simp [bulkRows];omega⟩) (fun x hx=>?_);clear F
 obtain ⟨hx,hl⟩:=hx;by_cases hlt:x < rows.length
 ·obtain ⟨r,hr⟩:∃ r,rows[x]?=some r:=⟨_,Taa hlt⟩;have hq:=hok.get hr;obtain ⟨ln,tk,dr⟩:=hq.take (n:=9) rfl;have okc:=hq.cells;have q1:=lT x rows.length;have wi:=Zb6 (k:=x) om;have hbt:=Zds hr;have hbl:=Zcv rows (x+1)
  skip
  have fe:=aj10 hr hlt ZbC hrb q1 okc ln tk dr (@Zaz C);obtain ⟨l,hle⟩:∃ l,l=left - (rows.length:Int) - (bulkRows (rows.take x):Int):=⟨_,rfl⟩;rw [<- hle];refine fB @fe ?_;refine fC @fe (Zle hq (left:=l) om om) ?_;refine fR @fe ?_;by_cases q:l < ((bulkRow r:Nat):Int)
  ·rw [ZaI (b:=bulkRow r) q,ZaI om];have q':=lT (-1) 0;exact fT @q'
  rw [ZaZ (b:=bulkRow r) om];have q':(l - ((bulkRow r:Nat):Int) < 0)=False:=eq_false om;have e:left - (rows.length:Int) - (bulkRows (rows.take (x+1)):Int)=l - ((bulkRow r:Nat):Int):=om;have F:=aj3 @q' @wi @e;refine gG ?_;exact ⟨x+1,⟨hlt,om⟩,gw,gw,om⟩
 ·obtain rfl:x=rows.length:=by omega
  have q1:=lF rows.length rows.length;rw [Tao] at hl ⊢;rw [ZaZ om,show left - ((rows.length+bulkRows rows:Nat):Int)=left - (rows.length:Int) - (bulkRows rows:Int) by omega];exact fT @q1
theorem Zi6 (hok:Zah (Zab .step) rows):Con e0 17 [.one (.sl rows),.one (.sl rows)] [.one (.lit (.bool true))]:=by
 refine Zcu (by kernel_rfl) fun hm=>?_;unfold maxLen at hm;have hrb:Zay 9 rows=true:=ZaT.2 hok.rowsLen;refine gI 67126323 Try.func17 ?_;refine fG (@beq_self_eq_true.{0}) ?_;have F:=@e0P;refine gL (ι:=Nat) [4,5,14,26] [] (fun x=>[(5,.d (.one (.lit (.int .i64 (x:Int)))))]) (fun x=>[]) (fun x=>x<=rows.length) (fun x=>rows.length - x) (0) (Tai _) (fun x hx=>?_);clear F;by_cases hlt:x < rows.length
 ·obtain ⟨r,hr⟩:∃ r,rows[x]?=some r:=⟨_,Taa hlt⟩;have hq:=hok.get hr;obtain ⟨ln,tk,dr⟩:=hq.take (n:=9) rfl;have okc:=hq.cells;have q1:=lT x rows.length;have wi:=Zb6 (k:=x) om;have fe:=aj10 hr hlt ZbC hrb q1 okc ln tk dr (@Zaz C);refine fB @fe ?_;refine fC @fe (Zlf hq) ?_;refine fR @fe ?_;have F:=@wi;refine gG ?_;exact ⟨x+1,hlt,gw,gw,om⟩
 ·obtain rfl:x=rows.length:=by omega
  have q1:=lF rows.length rows.length;exact fT @q1
theorem ZeN (hok:Zah (Zab .step) rows) (hb:rows.length+bulkRows rows<=1048576):ConP e0 14 [.one (.sl rows)] [] (Zbf rows):=by
 have hrb:Zay 9 rows=true:=ZaT.2 hok.rowsLen;have hmx:((rows.length:Int)<=(maxApp:Int))=True:=eq_true (by unfold maxApp;omega);refine gIP (ts:=[.slot 2]) [] 2077 Try.func14 ?_;refine fG (ai @hmx @Tbo) ?_;refine pE [] [1000] Zb1 ?_;have F:=aj3 @nla @Nat.sub_zero @tk0;refine gL (ι:=Nat × List (List Value) × (Nat->Prop)) [3,4,11] [3,1000] (fun x=>[(4,.d (.one (.lit (.int .i64 (x.1:Int))))),(3,.buf 3)]) (fun x=>[(3,.buf none 74 9 (x.2.1.map Zae++List.replicate (rows.length - x.1) [C.lit (.int .i64 0),C.sl [],C.sl [],C.sl [],C.sl [],C.lit (.int .i64 0),C.lit (.string .empty),C.lit (.int .i64 0),C.sl []])),(1000,.set x.2.2 (fun w=>Zag w (rows.take x.1) x.2.2 x.2.1))]) (fun x=>x.1<=rows.length∧x.2.1.length=x.1) (fun x=>rows.length - x.1) ((0,[],fun _=>False)) (⟨Tai _,rfl⟩) (fun x hx=>?_);clear F
 obtain ⟨i,uss,E⟩:=x;obtain ⟨hi,hn⟩:=hx;simp only at hi hn;dsimp only;by_cases hlt:i < rows.length
 ·obtain ⟨r,hr⟩:∃ r,rows[i]?=some r:=⟨_,Taa hlt⟩;have hq:=hok.get hr;obtain ⟨ln,tk,dr⟩:=hq.take (n:=9) rfl;have okc:=hq.cells;have q1:=lT i rows.length;have wi:=Zb6 (k:=i) om;have fe:=aj10 hr hlt ZbC hrb q1 okc ln tk dr (@Zaz C);obtain ⟨k,hk⟩:∃ k,rows.length - i=k+1:=⟨rows.length - i - 1,om⟩;have hk2:rows.length - (i+1)=k:=om;rw [hk];have bl:(uss.map Zae++List.replicate (k+1) [C.lit (.int .i64 0),C.sl [],C.sl [],C.sl [],C.sl [],C.lit (.int .i64 0),C.lit (.string .empty),C.lit (.int .i64 0),C.sl []]).length=rows.length:=by simp;omega
  have bs:∀ X,(uss.map Zae++List.replicate (k+1) [C.lit (.int .i64 0),C.sl [],C.sl [],C.sl [],C.sl [],C.lit (.int .i64 0),C.lit (.string .empty),C.lit (.int .i64 0),C.sl []]).set i X=(uss.map Zae++[X])++List.replicate k [C.lit (.int .i64 0),C.sl [],C.sl [],C.sl [],C.sl [],C.lit (.int .i64 0),C.lit (.string .empty),C.lit (.int .i64 0),C.sl []]:=fun X=>Ze2 _ _ _ _ _ (by simp [hn]);have bg:(uss.map Zae++List.replicate (k+1) [C.lit (.int .i64 0),C.sl [],C.sl [],C.sl [],C.sl [],C.lit (.int .i64 0),C.lit (.string .empty),C.lit (.int .i64 0),C.sl []])[i]?=some [C.lit (.int .i64 0),C.sl [],C.sl [],C.sl [],C.sl [],C.lit (.int .i64 0),C.lit (.string .empty),C.lit (.int .i64 0),C.sl []]:=by rw [Tbj (by simp;omega),Tbk,if_pos (by simp;omega)]
  have hbr:=ZbQ hr;refine fB (ai @fe @bl) ?_;have F:=ai @fe @bl;refine gCP [] [1001] (Zi4 hq om) ?_;clear F;rintro r' pm ⟨us,E2,rfl,hu,hok2,rfl⟩;rw [ln] at hu;obtain ⟨u0,u1,u2,u3,u4,u5,u6,u7,u8,rfl⟩:=len9 hu;have hok2:Zai (.lit u0)=true∧Zai (.lit u1)=true∧Zai (.lit u2)=true∧Zai (.lit u3)=true∧Zai (.lit u4)=true∧Zai (.lit u5)=true∧Zai (.lit u6)=true∧Zai (.lit u7)=true∧Zai (.lit u8)=true:=by simpa [Zae,Taq,and_assoc] using hok2
  obtain ⟨k0,k1,k2,k3,k4,k5,k6,k7,k8⟩:=hok2;have lr:Zae [u0,u1,u2,u3,u4,u5,u6,u7,u8]=[.lit u0,.lit u1,.lit u2,.lit u3,.lit u4,.lit u5,.lit u6,.lit u7,.lit u8]:=rfl;rw [lr];simp only [setA,retA,zipM,Tae,Tag];refine fR (aj13 @hlt @bl @bs @bg @k0 @k1 @k2 @k3 @k4 @k5 @k6 @k7 @k8) ?_;refine pE [1000,1001] [1000] (ZeD (G':=fun w=>Zag w (rows.take (i+1)) (fun b=>E b∨E2 b) (uss++[[u0,u1,u2,u3,u4,u5,u6,u7,u8]])) (fun w h1 h2 hd=>?_) (Zag.stable _ _ _)) ?_
  ·rw [tks hr];exact Zag.snoc h1 h2 (fun _ h=>.inl h) (fun _ h=>.inr h) hd
  have F:=aj5 @bs @wi @hk2 @lr ((@Tbm.{0,0}));refine gG ?_;exact ⟨(i+1,uss++[[u0,u1,u2,u3,u4,u5,u6,u7,u8]],fun b=>E b∨E2 b),⟨hlt,by simp [hn]⟩,gw,gw,om⟩
 ·obtain rfl:i=rows.length:=by omega
  have q1:=lF rows.length rows.length;rw [Nat.sub_self,List.replicate_zero,List.append_nil,Tao];refine fG @q1 ?_;refine pS 2 fun a cap=>?_;refine pE [2,1000] [1000] (ZbE (fun w h=>h) (Own.stable _ _ _)) ?_;exact (have F:=e0P;gTP (R:=Zbf rows) [1000] ⟨.slice a uss.length cap,_,rfl,rfl,rfl⟩)
theorem Zi7 (hok:Zah (Zab .step) rows) (hb:rows.length+bulkRows rows<=1048576):Con e0 14 [.one (.sl rows)] [.one (.sl rows)]:=Zoj (ZeN hok hb)
end Go.Proofs.Ytjoaefnnnbpflaa
