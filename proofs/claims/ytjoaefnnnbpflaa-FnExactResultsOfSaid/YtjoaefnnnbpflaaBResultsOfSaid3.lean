/-
  Part of a proof.
-/
import Derived.Test.YtjoaefnnnbpflaaBResultsOfSaid0
import Derived.Test.YtjoaefnnnbpflaaBResultsOfSaid1
import Derived.Test.YtjoaefnnnbpflaaBResultsOfSaid2
import Derived.Shelf.SlSortCmp.WholeK
import Derived.Shelf.SlSortCmp.NoneTotal
import Derived.Lib.QuietBelow
import Derived.Shelf.SlLaysF0
import Derived.Test.YtjoaefnnnbpflaaChecked
set_option linter.unusedSimpArgs false
set_option linter.unusedVariables false
set_option maxHeartbeats 400000000
set_option maxRecDepth 100000
namespace Go.Proofs.Ytjoaefnnnbpflaa
open Go.RowKit
open Go.Sort (grow HoldsK putRowK flatK SWO PermIn SortedIn Holds mapBlock onCells putRow putCells get_flatK size_flatK)
theorem ZnW {w w':World} (h:Kept True (fun _=>False) w.heap.size w w'):∃ q os,w'=grow (w.drewN q) os:=by
 obtain ⟨p,hp⟩:=regrown_of_below (w:=w) (w':=w') ⟨h.os,h.tape,h.output,h.size,fun k hk=>h.block k hk id⟩;have hd:=h.drawn trivial;have e:p.d=w'.drawn:=by rw [hp];rfl
 refine ⟨w'.drawn - w.drawn,p.os,?_⟩;have e2:redrawn w p.d=w.drewN (w'.drawn - w.drawn):=by
  unfold redrawn World.drewN;rw [e,show w.drawn+(w'.drawn - w.drawn)=w'.drawn by omega]
 rw [<- e2];exact hp
abbrev SRow (w:World) (S:Nat->Prop) (Q:List C->Prop):={x:List C × List Value // Q x.1∧Zaa w S x.1 x.2}
theorem Zii {α:Type} [Inhabited α] {enc:α->List Value} {k:Nat} {W:World} {b:Nat} {d:Array α} (hk:∀ x,(enc x).length=k) (h:HoldsK enc k W b 0 d) {i:Nat} {x:α} (hi:d.toList[i]?=some x) {j:Nat} {u:Value} (hj:(enc x)[j]?=some u):W.cell? ⟨b,0+i * k+j,none⟩=some u:=by
 have hil:i < d.size:=by have:=(Tac.1 hi).1;simpa using this
 have hjl:j < k:=by have:=(Tac.1 hj).1;rwa [hk] at this
 have ht:i * k+j < d.size * k:=by
  have:=Nat.mul_le_mul_right k (show i+1<=d.size from hil);rw [Nat.succ_mul] at this;omega
 have h1:=(h (i * k+j) (by rw [size_flatK];exact ht)).1;rw [get_flatK _ _ _ _ ht,show (i * k+j) / k=i by rw [Nat.add_comm,Nat.add_mul_div_right _ _ om,Nat.div_eq_of_lt hjl,Nat.zero_add],show (i * k+j) % k=j by rw [Nat.add_comm,Nat.add_mul_mod_self_right,Nat.mod_eq_of_lt hjl]] at h1;have e1:d[i]! = x:=by
  rw [getElem!_pos d i hil];have:=(Tac.1 hi).2;simpa using this
 have e2:(enc x)[j]! = u:=by
  rw [getElem!_pos (enc x) j (by rw [hk];exact hjl)];exact (Tac.1 hj).2
 rw [e1,e2,<- Tbn] at h1;exact h1
theorem ZnX {α:Type} [Inhabited α] {enc:α->List Value} {k:Nat} {w:World} {b:Nat} {l:List α} (hk:∀ x,(enc x).length=k) (hf:∀ o,w.frozen? ⟨b,o,none⟩=false) (h:∀ (i:Nat) x,l[i]?=some x->∀ j u,(enc x)[j]?=some u->w.cell? ⟨b,0+i * k+j,none⟩=some u):HoldsK enc k w b 0 l.toArray:=by
 intro t ht;refine ⟨?_,hf _⟩;rw [size_flatK] at ht;have ht':t < l.length * k:=by simpa using ht
 have k0 : 0 < k := by rcases Nat.eq_zero_or_pos k with e | e; · subst e; simp at ht'
                       ·exact e
 have hi:t / k < l.length:=Nat.div_lt_of_lt_mul (by rw [Nat.mul_comm];exact ht');have hj:t % k < k:=Nat.mod_lt _ k0;rw [get_flatK _ _ _ _ ht];have e1:l.toArray[t / k]! = l[t / k]:=by rw [getElem!_pos _ _ (by simpa using hi)];rfl
 rw [e1,getElem!_pos _ _ (by rw [hk];exact hj)];have:=h (t / k) l[t / k] (Taa hi) (t % k) _ (Taa (by rw [hk];exact hj))
 rwa [show 0+t / k * k+t % k=0+t by have:=Nat.div_add_mod' t k;omega] at this
theorem Zaa.one {w:World} {S:Nat->Prop}:∀ {cs:List C} {us:List Value},cs.all Zai=true->Zaa w S cs us->∀ v∈us,v.oneCell'=true
 | [],[],_,_,v,h=>by simp at h
 | c::cs,u::us,hc,h,v,hv=>by
  simp only [List.all_cons,Taq] at hc;simp only [Zaa] at h;rcases Tbc.1 hv with rfl | hv
  ·exact Zc7 hc.1 h.1
  ·exact Zaa.one hc.2 h.2 v hv
 | [],_::_,_,h,_,_=>by simp [Zaa] at h
 | _::_,[],_,h,_,_=>by simp [Zaa] at h
theorem ZoM {α:Type} [Inhabited α] {enc:α->List Value} {k:Nat} {w:World} {b n:Nat} {d:Array α} {os:Array Obj} {cur:Array Value} {ty:Nat} (hh:w.heap[b]?=some (.cells cur ty (0,0))):(sortWorldK enc k w b 0 n d os).heap[b]?=some (.cells (putCells id 0 (flatK enc k d) cur) ty (0,0)):=by
 have hb:b < w.heap.size:=(Tbg.1 hh).1;show ((w.heap.modify b (onCells (putCells id 0 (flatK enc k d))))++os)[b]?=_;rw [Array.getElem?_append_left (by simpa using hb),Array.getElem?_modify,if_pos rfl,hh];rfl
theorem Zd2 {α:Type} [Inhabited α] {enc:α->List Value} {k:Nat} {w:World} {b n j:Nat} {d:Array α} {os:Array Obj} (hj:j < w.heap.size) (hne:j≠b):(sortWorldK enc k w b 0 n d os).heap[j]?=w.heap[j]?:=by
 show ((w.heap.modify b (onCells (putCells id 0 (flatK enc k d))))++os)[j]?=_;rw [Array.getElem?_append_left (by simpa using hj),Array.getElem?_modify,if_neg (fun e=>hne e.symm)]
theorem Zct {α:Type} [Inhabited α] {enc:α->List Value} {k:Nat} {w:World} {b n:Nat} {d:Array α} {os:Array Obj}:w.heap.size<=(sortWorldK enc k w b 0 n d os).heap.size:=by
 show _<=((w.heap.modify b (onCells (putCells id 0 (flatK enc k d))))++os).size;simp
theorem Zag.mono' {w:World} {rows:List (List C)} {S S':Nat->Prop} {uss:List (List Value)} (h:Zag w rows S uss) (hS:∀ b,S b->S' b):Zag w rows S' uss:=Zag.keep (Tah _) rows S S' uss (fun _ _=>rfl) hS h
theorem Zag.perm {w:World} {l l':List (List C × List Value)} (h:l.Perm l'):∀ {E:Nat->Prop},Zag w (l.map (·.1)) E (l.map (·.2))->Zag w (l'.map (·.1)) E (l'.map (·.2)):=by
 induction h with
 | nil=>exact fun h=>h
 | cons x _ ih =>
  rintro E ⟨S1,S2,h1,h2,hd,hv,hr⟩;exact ⟨S1,S2,h1,h2,hd,hv,ih hr⟩
 | swap x y l =>
  rintro E ⟨S1,S2,h1,h2,hd,hv,T1,T2,k1,k2,kd,kv,kr⟩;exact ⟨T1,fun b=>S1 b∨T2 b,fun b hb=>h2 b (k1 b hb),fun b hb=>hb.elim (h1 b) fun q=>h2 b (k2 b q),fun b q1 q2=>q2.elim (fun q=>hd b q (k1 b q1)) (kd b q1),kv,S1,T2,fun _=>.inl,fun _=>.inr,fun b q1 q2=>hd b q1 (k2 b q2),hv,kr⟩
 | trans _ _ ih1 ih2=>exact fun h=>ih2 (ih1 h)
theorem Zag.sub {w:World} {l l':List (List C × List Value)} (h:l'.Sublist l):∀ {E:Nat->Prop},Zag w (l.map (·.1)) E (l.map (·.2))->Zag w (l'.map (·.1)) E (l'.map (·.2)):=by
 induction h with
 | slnil=>exact fun h=>h
 | cons x _ ih =>
  rintro E ⟨S1,S2,h1,h2,hd,hv,hr⟩;exact (ih hr).mono' h2
 | cons_cons x _ ih =>
  rintro E ⟨S1,S2,h1,h2,hd,hv,hr⟩;exact ⟨S1,S2,h1,h2,hd,hv,ih hr⟩
theorem Zag.rep {w:World} {rows:List (List C)} {E T:Nat->Prop} {uss:List (List Value)} (h:Zag w rows E uss) (hT:∀ b,E b->T b) {i:Nat} {r:List C} {us:List Value} (hr:rows[i]?=some r) (hu:uss[i]?=some us):Zaa w T r us :=
 Zac.rep _ _ _ _ hT (h.get hr hu)
theorem ZgZ {w:World} {S T:Nat->Prop} {b k:Nat} {Q:List C->Prop} (hk:∀ r,Q r->r.length=k):∀ (rows:List (List C)) (uss:List (List Value)) (off:Nat),uss.length=rows.length->(∀ r∈rows,Q r)->(∀ (i:Nat) r us,rows[i]?=some r->uss[i]?=some us->Zaa w T r us)->Zal w S b off (uss.map Zae)->∃ l:List (SRow w T Q),l.map (fun x=>x.1)=rows.zip uss∧∀ (i:Nat) x,l[i]?=some x->∀ j u,x.1.2[j]?=some u->w.cell? ⟨b,off+i * k+j,none⟩=some u
 | [],[],off,_,_,_,_=>⟨[],rfl,fun i x h=>by simp at h⟩
 | r::rs,us::uss,off,hl,hQ,hv,h=>by
  simp only [Tbl,Zal] at h;obtain ⟨vs,h1,h2⟩:=h.1.vals;obtain rfl:=Zck h1;have hr:=hQ r Tar;have hrv:=hv 0 r vs rfl rfl;have hlen:(Zae vs).length=k:=by rw [<- hk r hr,<- hrv.len];simp [Zae]
  obtain ⟨l,e,hl'⟩:=ZgZ hk rs uss (off+(Zae vs).length) (by simpa using hl) (fun x hx=>hQ x (Tak _ hx)) (fun i r us h1 h2=>hv (i+1) r us (by simpa using h1) (by simpa using h2)) h.2;refine ⟨⟨(r,vs),hr,hrv⟩::l,by simp [e],fun i x hi j u hj=>?_⟩
  cases i with
  | zero =>
   simp only [Tas,Tap] at hi;subst hi;have:=h2 j u hj
   rwa [Nat.zero_mul,Nat.add_zero]
  | succ i =>
   have:=hl' i x (by simpa using hi) j u hj;rw [hlen] at this
   rwa [show off+(i+1) * k+j=off+k+i * k+j by rw [Nat.succ_mul];omega]
 | [],_::_,_,hl,_,_,_=>by simp at hl
 | _::_,[],_,hl,_,_,_=>by simp at hl
theorem Zfe {W:World} {S2:Nat->Prop} {b k:Nat}:∀ (l:List (List Value)) (off:Nat),(∀ us∈l,us.length=k)->(∀ (i:Nat) us,l[i]?=some us->∀ j u,us[j]?=some u->W.cell? ⟨b,off+i * k+j,none⟩=some u)->Zal W S2 b off (l.map Zae)
 | [],off,_,_=>by simp [Zal]
 | x::l,off,hk,h=>by
  simp only [Tbl,Zal];refine ⟨Zaf.of_vals _ _ off (Zcz x) fun j u hj=>?_,?_⟩
  ·have:=h 0 x rfl j u hj
   rwa [Nat.zero_mul,Nat.add_zero] at this
  ·rw [show (Zae x).length=k by simp [Zae,hk x Tar]];refine Zfe l (off+k) (fun us hu=>hk us (Tak _ hu)) fun i y hi j u hj=>?_;have:=h (i+1) y (by simpa using hi) j u hj
   rwa [show off+(i+1) * k+j=off+k+i * k+j by rw [Nat.succ_mul];omega] at this
theorem ConP.imp0 {e:Env} {f:FuncId} {args:List D} {pm:List Bk} {R R':List D->List Bk->Prop} (h:ConP e f args pm R) (hR:∀ r pm,R r pm->R' r pm):ConP e f args pm R' :=
 ⟨h.1,fun w S vs hS hE hG hpm hap hvs=>(h.2 w S vs hS hE hG hpm hap hvs).mono fun en w' ⟨v,r,pm',h1,hr,hk⟩=>⟨v,r,pm',h1,hR r pm' hr,hk⟩⟩
theorem Zqv {f:FuncId} {args:List D} {pm:List Bk} {R:List D->List Bk->Prop} (h:ConP e1 f args pm R):ConP e0 f args pm R :=
 ⟨h.1,fun w S vs h1 h2 h3 h4 h5 h6=>(h.2 w S vs h1 h2 h3 h4 h5 h6).mono fun en w' ⟨v,r,pm',k1,hr,k2,k3⟩=>⟨v,r,pm',k1,hr,⟨k2.os,k2.tape,k2.output,fun d=>d.elim,k2.size,k2.block⟩,k3⟩⟩
theorem ZkW {P:Program} (hP:e1.P=P) {ρ:Go.Shelf.Ren} (L:SlLaysF0.n6 P ρ) {k ty:Nat} (aE:∀ w,(isAgg (ρ.t 24)).run P w=.ok true w) (zE:∀ w,(Go.sizeOf (ρ.t 24)).run P w=.ok k w) (hbody:ZbM P (ρ.f 6)=true) {g:FuncId} (eg:∀ args w,(callFunc g args).run P w=.ok (.enter g args) w)
  {rows rows':List (List C)} {cf:List C->List C->Int} (hlen:rows.length < 4611686018427387904) (hrlR:rowsLen k rows) (hg:∀ a∈rows,∀ b∈rows,Con e1 g [.agg a,.agg b] [.one (.lit (.int .i64 (cf a b)))])
  (h1:∀ a∈rows,¬ cf a a < 0) (h2:∀ a∈rows,∀ b∈rows,∀ c∈rows,cf a b < 0->cf b c < 0->cf a c < 0) (h3:∀ a∈rows,∀ b∈rows,∀ c∈rows,¬ cf a b < 0->¬ cf b c < 0->¬ cf a c < 0)
  (hu:∀ l:List (List C),l.Perm rows->(∀ (i j:Nat) a b,i < j->l[i]?=some a->l[j]?=some b->¬ cf b a < 0)->l=rows') {uss:List (List Value)} (hul:uss.length=rows.length) (E:Nat->Prop) (a:Option Addr) (cap:Nat) :
  ConP e1 (ρ.f 6) [.one (.lit (.slice a rows.length cap)),.one (.fn g [])] [.buf (some (a,cap)) ty k (uss.map Zae),.set E (fun w=>Zag w rows E uss)] (fun r pm=>r=[]∧∃ us':List (List Value),us'.length=rows'.length∧(∀ us∈us',us.length=k∧(Zae us).all Zai=true)∧pm=[.buf (some (a,cap)) ty k (us'.map Zae),.set E (fun w=>Zag w rows' E us')]):=by
 refine ⟨by rw [hP];exact hbody,fun w S vs hS hE hG hpm hap hargs=>?_⟩;rw [hP]
 match vs,hargs with
 | [v0,u],hargs =>
  obtain ⟨rfl,⟨us,rfl,hus⟩,_⟩:v0=.slice a rows.length cap∧(∃ us:List Value,u=.func (.func g) #[] us.toArray∧Zaa w S [] us)∧True:=by simpa [Zau,DRel,Rep] using hargs
  have hus0:us=[]:=by cases us with
   | nil=>rfl
   | cons _ _=>simp [Zaa] at hus
  subst hus0;obtain ⟨hbuf,hbE⟩:=hpm (.buf (some (a,cap)) ty k (uss.map Zae)) (by simp);obtain ⟨⟨hE1,hOwn,hst⟩,hEE⟩:=hpm (.set E (fun w=>Zag w rows E uss)) (by simp);have hdis:=hap.1 (.set E (fun w=>Zag w rows E uss)) (by simp);have hml:(uss.map Zae).length=rows.length:=by rw [Taw,hul]
  have hbuf:ZaK w S ty k (uss.map Zae) (.slice a rows.length cap):=by
   have:ZaK w S ty k (uss.map Zae) (.slice a (uss.map Zae).length cap):=hbuf
   rwa [hml] at this
  have hdis:∀ g,vblk (.slice a rows.length cap)=some g->¬ E g:=fun g hg=>hdis g (by simp only [pblk,hml];exact hg);have hbE:∀ g,vblk (.slice a rows.length cap)=some g->¬ e1.E g:=fun g hg=>hbE g (by simp only [pblk,hml];exact hg);have hEE:∀ g,E g->¬ e1.E g:=hEE;have hpb:∀ (us':List (List Value)),us'.length=rows.length->∀ (R:List (List C)) (g:Nat),Zax [.buf (some (a,cap)) ty k (us'.map Zae),.set E (fun w=>Zag w R E us')] g ↔ (vblk (.slice a rows.length cap)=some g∨E g):=fun us' hl R g=>by
   simp only [Zax,Tbc,List.not_mem_nil,or_false];constructor
   ·rintro ⟨x,rfl | rfl,hx⟩
    ·left;simpa only [pblk,Taw,hl] using hx
    ·exact .inr hx
   ·rintro (hx | hx)
    ·exact ⟨_,.inl rfl,by simpa only [pblk,Taw,hl] using hx⟩
    ·exact ⟨_,.inr rfl,hx⟩
  have hapt:∀ (us':List (List Value)),us'.length=rows.length->∀ R:List (List C),Zbd [.buf (some (a,cap)) ty k (us'.map Zae),.set E (fun w=>Zag w R E us')]:=fun us' hl R=>⟨fun y hy g hg hg2=>by
   obtain rfl:=List.mem_singleton.1 hy;exact hdis g (by simpa only [pblk,Taw,hl] using hg) hg2,Zcf _⟩
  obtain ⟨h0,hrl,hcase⟩:=hbuf;have hT:∀ b,(S b∨E b)->b < w.heap.size∧¬ e1.E b:=fun b hb=>hb.elim (hS b) fun q=>⟨(hE1 b q).1,hEE b q⟩;by_cases hne:rows=[]
  ·subst hne;have hr':rows'=[]:=(hu [] (List.Perm.refl _) (fun i j a b _ h=>by simp at h)).symm;subst hr';obtain rfl:uss=[]:=Tan hul;refine (AnyF.slices_SortFunc_none (P:=P) L a cap _ w).mono ?_;rintro e w' ⟨rfl,rfl⟩;refine ⟨_,[],_,rfl,⟨rfl,[],rfl,fun _ h=>by simp at h,rfl⟩,Kept.refl ..,hG,fun x hx=>?_,hapt [] rfl [],[],rfl,trivial⟩;simp only [Tbc,List.not_mem_nil,or_false] at hx;rcases hx with rfl | rfl
   ·refine ⟨⟨h0,hrl,?_⟩,fun g hg=>.inl ⟨_,Tar,hg⟩⟩;rcases hcase with hq | ⟨b,cap',cur,hv,hc,hbz,hSb,hh,hle,hmx,hcs,hrows⟩
    ·exact .inl hq
    ·refine .inr ⟨b,cap',cur,hv,hc,hbz,fun hn=>hn.2 ((hpb [] rfl [] b).2 (.inl ?_)),hh,hle,hmx,hcs,by simp [Zal]⟩;injection hv with e1 e2 e3
     subst e1 e3;simp only [vblk];rw [if_neg om]
   ·exact ⟨⟨fun b hb=>⟨(hE1 b hb).1,fun hn=>hn.2 ((hpb [] rfl [] b).2 (.inr hb))⟩,hOwn,hst⟩,fun g hg=>.inl ⟨_,Tak _ Tar,hg⟩⟩
  ·rcases hcase with ⟨e,_⟩ | ⟨b,cap',cur,hv0,hc,hbz,hSb,hh,hle,hmx,hcs,hrows⟩
   ·exact absurd (Tan (by rw [<- hml,e];rfl)) hne
   injection hv0 with q1 q2 q3
   subst q1 q3;have hkr:∀ r,r∈rows->r.length=k:=fun r hr=>(hrlR r hr).1;obtain ⟨l,hl,hcell⟩:=ZgZ (T:=fun b=>S b∨E b) (k:=k) (Q:=fun r=>r∈rows) hkr rows uss 0 hul (fun r h=>h) (fun i r us h1 h2=>hOwn.rep (fun _=>.inr) h1 h2) hrows;have hlz0:(rows.zip uss).length=rows.length:=by rw [List.length_zip,hul,Nat.min_self]
   have hll:l.length=rows.length:=by have:=congrArg List.length hl;rwa [Taw,hlz0] at this
   obtain ⟨x0,hx0⟩:∃ x,x∈l:=List.exists_mem_of_ne_nil _ (fun e=>hne (Tan (by rw [<- hll,e];rfl)))
   letI:Inhabited (SRow w (fun b=>S b∨E b) (fun r=>r∈rows)):=⟨x0⟩
   have hk:∀ x:SRow w (fun b=>S b∨E b) (fun r=>r∈rows),x.1.2.length=k:=fun x=>by rw [x.2.2.len];exact hkr _ x.2.1
   have h1c:∀ x:SRow w (fun b=>S b∨E b) (fun r=>r∈rows),∀ v∈x.1.2,v.oneCell'=true:=fun x=>Zaa.one (hrlR _ x.2.1).2 x.2.2;have hH:HoldsK (fun x:SRow w (fun b=>S b∨E b) (fun r=>r∈rows)=>x.1.2) k w b 0 l.toArray:=ZnX hk (fun o=>frozen_of_row w b o cur ty hh) hcell;have hvb:vblk (.slice (some ⟨b,0,none⟩) rows.length cap)=some b:=by simp only [vblk];rw [if_neg om]
   have hTb:∀ b',(S b'∨E b')->b'≠b:=fun b' hb' e=>by
    subst e;exact hb'.elim hSb (hdis b' hvb)
   have keepV:∀ (m:Nat) (os:Array Obj) (dk:Array (SRow w (fun b=>S b∨E b) (fun r=>r∈rows))),∀ x:SRow w (fun b=>S b∨E b) (fun r=>r∈rows),Zaa (sortWorldK (fun x:SRow w (fun b=>S b∨E b) (fun r=>r∈rows)=>x.1.2) k w b 0 m dk os) (fun b=>S b∨E b) x.1.1 x.1.2:=fun m os dk x =>
    Zaa.keep2 Zct (fun b' o hb'=>ZaW (Zd2 (hT b' hb').1 (hTb b' hb')) o) (fun _ h=>h) x.2.2
   have keepG:∀ (m:Nat) (os:Array Obj) (dk:Array (SRow w (fun b=>S b∨E b) (fun r=>r∈rows))),e1.G (sortWorldK (fun x:SRow w (fun b=>S b∨E b) (fun r=>r∈rows)=>x.1.2) k w b 0 m dk os):=fun m os dk =>
    ZkV.keep w _ Zct (fun b' hb'=>Zd2 (hE b' hb') (fun e=>hbE b hvb (e ▸ hb'))) hG
   have hcmp:CmpLays P g #[] (fun x:SRow w (fun b=>S b∨E b) (fun r=>r∈rows)=>x.1.2) k (fun x y=>cf x.1.1 y.1.1) b 0 l.toArray.size w:=by
    intro m os dk hdk x y
    have hc:=(hg _ x.2.1 _ y.2.1).2 (sortWorldK (fun x:SRow w (fun b=>S b∨E b) (fun r=>r∈rows)=>x.1.2) k w b 0 m dk os) (fun b=>S b∨E b) [.agg x.1.2.toArray,.agg y.1.2.toArray] (fun b' hb'=>⟨Taz (hT b' hb').1 Zct,(hT b' hb').2⟩) (fun b' h=>Taz (hE b' h) Zct) (keepG m os dk)
     ⟨⟨_,rfl,keepV m os dk x⟩,⟨_,rfl,keepV m os dk y⟩,trivial⟩
    rw [hP] at hc;refine hc.mono ?_;rintro e w' ⟨v,rfl,hK,hG',hv⟩;have hv:v=.int .i64 (cf x.1.1 y.1.1):=by simpa [retA,ARel,DRel,Rep] using hv
    exact ⟨by rw [hv],ZnW (hK.all1 (keepG m os dk) hG')⟩
   have hO:SWO (ltOf (fun x y:SRow w (fun b=>S b∨E b) (fun r=>r∈rows)=>cf x.1.1 y.1.1)):=by
    refine ⟨fun x=>?_,fun x y z=>?_,fun x y z=>?_⟩ <;> simp only [ltOf,decide_eq_false_iff_not,decide_eq_true_eq]
    ·exact h1 _ x.2.1
    ·exact h2 _ x.2.1 _ y.2.1 _ z.2.1
    ·exact h3 _ x.2.1 _ y.2.1 _ z.2.1
   have hsort:=AnyQ.slices_SortFunc L k aE zE (fun x:SRow w (fun b=>S b∨E b) (fun r=>r∈rows)=>x.1.2) hk h1c (fun x y=>cf x.1.1 y.1.1) hO g #[] b 0 cap l.toArray w eg hcmp hH hbz (by simp only [List.size_toArray];omega);have hlz:l.toArray.size=rows.length:=by simpa using hll
   rw [hlz] at hsort;refine hsort.mono ?_;rintro e w' ⟨rfl,d',n,os,hp,hs,rfl⟩;obtain ⟨hp1,_,hp3⟩:=hp;rw [hlz] at hp1;have hex:∀ a:Array (SRow w (fun b=>S b∨E b) (fun r=>r∈rows)),a.size=rows.length->a.extract 0 rows.length=a:=fun a ha=>by rw [<- ha];simp
   rw [hex d' hp1,hex _ hlz] at hp3;have hpp:(d'.toList.map (fun x=>x.1)).Perm (rows.zip uss):=by
    have:=hp3.map (fun x:SRow w (fun b=>S b∨E b) (fun r=>r∈rows)=>x.1)
    rwa [show l.toArray.toList=l from rfl,hl] at this
   have z1:(rows.zip uss).map (·.1)=rows:=List.map_fst_zip om;have z2:(rows.zip uss).map (·.2)=uss:=List.map_snd_zip om;have hperm:(d'.toList.map (fun x=>x.1.1)).Perm rows:=by
    have:=hpp.map (·.1)
    rwa [z1,List.map_map] at this
   have hrows':d'.toList.map (fun x=>x.1.1)=rows':=hu _ hperm fun i j a c hij ha hc=>by
    simp only [Tax,Tau] at ha hc;obtain ⟨x,hx,rfl⟩:=ha;obtain ⟨y,hy,rfl⟩:=hc;have hjl:j < rows.length:=by have:=(Tac.1 hy).1;simpa [hp1] using this
    have:=hs i j (Tai _) hij hjl;have ex:d'[i]! = x:=by
     rw [getElem!_pos d' i om];have:=(Tac.1 hx).2;simpa using this
    have ey:d'[j]! = y:=by
     rw [getElem!_pos d' j om];have:=(Tac.1 hy).2;simpa using this
    rw [ex,ey] at this;simpa [ltOf] using this
   have hlr:rows'.length=rows.length:=by rw [<- hrows',Taw,Array.length_toList,hp1]
   have hlu:(d'.toList.map (fun x=>x.1.2)).length=rows.length:=by rw [Taw,Array.length_toList,hp1]
   have hW:HoldsK (fun x:SRow w (fun b=>S b∨E b) (fun r=>r∈rows)=>x.1.2) k (sortWorldK (fun x:SRow w (fun b=>S b∨E b) (fun r=>r∈rows)=>x.1.2) k w b 0 n d' os) b 0 d':=SWK.holds (d0:=l.toArray) ⟨n,os,rfl⟩ hbz hH (by rw [hp1,hlz]);have hOwn2:Zag (sortWorldK (fun x:SRow w (fun b=>S b∨E b) (fun r=>r∈rows)=>x.1.2) k w b 0 n d' os) rows' E (d'.toList.map (fun x=>x.1.2)):=by
    refine Zag.stable _ _ _ w _ Zct (fun b' hb'=>Zd2 (hE1 b' hb').1 (hTb b' (.inr hb'))) ?_;have:=Zag.perm hpp.symm (E:=E) (by rw [z1,z2];exact hOwn);rw [List.map_map,List.map_map] at this;rw [<- hrows'];exact this
   have hrows2:∀ r∈(d'.toList.map (fun x=>x.1.2)).map Zae,r.length=k∧r.all Zai=true:=fun r hr=>by
    obtain ⟨us,hus,rfl⟩:=Tbe.1 hr;obtain ⟨x,hx,rfl⟩:=Tbe.1 hus;refine hrl _ (Tbe.2 ⟨x.1.2,?_,rfl⟩);have h4:x.1∈rows.zip uss:=hpp.mem_iff.1 (Tbe.2 ⟨x,hx,rfl⟩);rw [<- z2];exact Tbe.2 ⟨x.1,h4,rfl⟩
   have hpbw:=hpb (d'.toList.map (fun x=>x.1.2)) hlu rows';have hpbw0:=hpb uss hul rows;refine ⟨_,[],_,rfl,⟨rfl,d'.toList.map (fun x=>x.1.2),by rw [hlu,hlr],fun us hu=>?_,rfl⟩,⟨rfl,rfl,rfl,fun _=>Nat.le_add_right _ _,Zct,fun j hj hn=>Zd2 hj (fun e=>hn (.inr ((hpbw0 j).2 (.inl (by rw [hvb,e])))))⟩,keepG n os d',fun x hx=>?_,hapt _ hlu rows',[],rfl,trivial⟩
   ·have:=hrows2 _ (Tbe.2 ⟨us,hu,rfl⟩);exact ⟨by simpa [Zae] using this.1,this.2⟩
   simp only [Tbc,List.not_mem_nil,or_false] at hx;rcases hx with rfl | rfl
   ·refine ⟨⟨h0,fun r hr=>?_,.inr ⟨b,cap,_,by rw [Taw],hc,Taz hbz Zct,fun hn=>hn.2 ((hpbw b).2 (.inl hvb)),ZoM hh,by rw [Taw,hlu];omega,hmx,by simp [putCells,hcs],?_⟩⟩,fun g hg=>.inl ((hpbw0 g).2 (.inl (by simpa only [pblk,Taw,hlu] using hg)))⟩
    ·exact hrows2 r hr
    ·refine Zfe (k:=k) _ 0 (fun us hu=>?_) fun i us hi j u hj=>?_
     ·obtain ⟨x,hx,rfl⟩:=Tbe.1 hu;exact hk x
     ·rw [Tax,Tau] at hi;obtain ⟨x,hx,rfl⟩:=hi;exact Zii hk hW hx hj
   ·exact ⟨⟨fun b' hb'=>⟨Taz (hE1 b' hb').1 Zct,fun hn=>hn.2 ((hpbw b').2 (.inr hb'))⟩,hOwn2,Zag.stable _ _ _⟩,fun g hg=>.inl ((hpbw0 g).2 (.inr hg))⟩
end Go.Proofs.Ytjoaefnnnbpflaa
namespace Go.Proofs.Ytjoaefnnnbpflaa
open Go.Shelf
def Zn7:Ren:=⟨fun | 6=>62 | 15=>80 | 14=>79 | 28=>95 | 29=>96 | 20=>87 | 21=>88 | 22=>89 | 23=>90 | 24=>91 | 25=>92 | 26=>93 | 27=>94 | 46=>99 | 47=>100 | 48=>101 | 49=>102 | 50=>103 | 57=>104 | n=>n,fun | 22=>29 | 24=>31 | 25=>86 | 3=>3 | 39=>118 | 0=>0 | 53=>135 | 55=>137 | 4=>4 | 46=>128 | 45=>127 | 50=>132 | 5=>5 | 9=>9 | 66=>139 | 70=>143 | 76=>145 | 77=>146 | n=>n,fun | n=>n⟩
theorem ZqY:Go.Proofs.SlLaysF0.n6 Try.prog Zn7:={
 mixed:=by kernel_rfl,
 f6:=⟨Try.f62.name,by decide,Try.func62.trans (congrArg some (by kernel_rfl))⟩,
 f14:=⟨Try.f79.name,by decide,Try.func79.trans (congrArg some (by kernel_rfl))⟩,
 f15:=Try.func80.trans (congrArg some (by kernel_rfl)),
 f20:=⟨Try.f87.name,by decide,Try.func87.trans (congrArg some (by kernel_rfl))⟩,
 f21:=⟨Try.f88.name,by decide,Try.func88.trans (congrArg some (by kernel_rfl))⟩,
 f22:=⟨Try.f89.name,by decide,Try.func89.trans (congrArg some (by kernel_rfl))⟩,
 f23:=⟨Try.f90.name,by decide,Try.func90.trans (congrArg some (by kernel_rfl))⟩,
 f24:=⟨Try.f91.name,by decide,Try.func91.trans (congrArg some (by kernel_rfl))⟩,
 f25:=⟨Try.f92.name,by decide,Try.func92.trans (congrArg some (by kernel_rfl))⟩,
 f26:=⟨Try.f93.name,by decide,Try.func93.trans (congrArg some (by kernel_rfl))⟩,
 f27:=⟨Try.f94.name,by decide,Try.func94.trans (congrArg some (by kernel_rfl))⟩,
 f28:=Try.func95.trans (congrArg some (by kernel_rfl)),
 f29:=Try.func96.trans (congrArg some (by kernel_rfl)),
 f46:=⟨Try.f99.name,by decide,Try.func99.trans (congrArg some (by kernel_rfl))⟩,
 f47:=Try.func100.trans (congrArg some (by kernel_rfl)),
 f48:=Try.func101.trans (congrArg some (by kernel_rfl)),
 f49:=⟨Try.f102.name,by decide,Try.func102.trans (congrArg some (by kernel_rfl))⟩,
 f50:=⟨Try.f103.name,by decide,Try.func103.trans (congrArg some (by kernel_rfl))⟩,
 f57:=⟨Try.f104.name,by decide,Try.func104.trans (congrArg some (by kernel_rfl))⟩,
 t0:=Try.underlying0,
 a0:=Try.isAgg0,
 z0:=Try.sizeOf0,
 v0:=Try.zeroValue0,
 t3:=Try.underlying3,
 a3:=Try.isAgg3,
 z3:=Try.sizeOf3,
 v3:=Try.zeroValue3,
 t4:=Try.underlying4,
 a4:=Try.isAgg4,
 z4:=Try.sizeOf4,
 v4:=Try.zeroValue4,
 t5:=Try.underlying5,
 a5:=Try.isAgg5,
 z5:=Try.sizeOf5,
 v5:=Try.zeroValue5,
 t9:=Try.underlying9,
 a9:=Try.isAgg9,
 z9:=Try.sizeOf9,
 v9:=Try.zeroValue9,
 t22:=Try.underlying29,
 a22:=Try.isAgg29,
 z22:=Try.sizeOf29,
 v22:=Try.zeroValue29,
 t25:=Try.underlying86,
 a25:=Try.isAgg86,
 z25:=Try.sizeOf86,
 v25:=Try.zeroValue86,
 t39:=Try.underlying118,
 a39:=Try.isAgg118,
 z39:=Try.sizeOf118,
 v39:=Try.zeroValue118,
 t45:=Try.underlying127,
 a45:=Try.isAgg127,
 z45:=Try.sizeOf127,
 v45:=Try.zeroValue127,
 t46:=Try.underlying128,
 a46:=Try.isAgg128,
 z46:=Try.sizeOf128,
 v46:=Try.zeroValue128,
 t50:=Try.underlying132,
 a50:=Try.isAgg132,
 z50:=Try.sizeOf132,
 v50:=Try.zeroValue132,
 t53:=Try.underlying135,
 a53:=Try.isAgg135,
 z53:=Try.sizeOf135,
 v53:=Try.zeroValue135,
 t55:=Try.underlying137,
 a55:=Try.isAgg137,
 z55:=Try.sizeOf137,
 v55:=Try.zeroValue137,
 t66:=Try.underlying139,
 a66:=Try.isAgg139,
 z66:=Try.sizeOf139,
 v66:=Try.zeroValue139,
 t70:=Try.underlying143,
 a70:=Try.isAgg143,
 z70:=Try.sizeOf143,
 v70:=Try.zeroValue143,
 t76:=Try.underlying145,
 a76:=Try.isAgg145,
 z76:=Try.sizeOf145,
 v76:=Try.zeroValue145,
 t77:=Try.underlying146,
 a77:=Try.isAgg146,
 z77:=Try.sizeOf146,
 v77:=Try.zeroValue146 }
end Go.Proofs.Ytjoaefnnnbpflaa
namespace Go.Proofs.Ytjoaefnnnbpflaa
open Go.RowKit
theorem ZqK {m:List (Nat × Bk)} {a:Option Addr} {n cap:Nat}:lenA m (some true) [nrm m (.d (.one (.lit (.slice a n cap))))]=some (.d (.one (.lit (.int .i64 (n:Int))))):=by
 show lenA m (some true) [ZeQ m a n cap (bufK a n cap m)]=_
 cases bufK a n cap m with
 | none=>rfl
 | some k =>
  show lenA m (some true) [nrmB a n cap k (gm m k)]=_
  cases hg:gm m k with
  | none=>rfl
  | some bk =>
   cases bk with
   | var o cs=>rfl
   | set E G=>rfl
   | buf o ty sz rows =>
    cases o with
    | none=>rfl
    | some q =>
     obtain ⟨a',cap'⟩:=q;simp only [nrmB];split
     ·rename_i h;show lenS (bufA (gm m k))=_;rw [hg,h.2.1];rfl
     ·rfl
theorem Zn8 {m:List (Nat × Bk)} {a:Option Addr} {l h cap sz:Nat}:lenA m (some true) [nrm m (.d (.one (.lit (sliced a l h cap sz))))]=some (.d (.one (.lit (.int .i64 ((h - l:Nat):Int))))):=ZqK
theorem Zn9 {α:Type} {l:List α} {i:Nat} {x:α} (h:i < l.length):(l.set i x).take (i+1)=l.take i++[x]:=by
 rw [List.take_add_one,List.take_set_of_le (Tah _)];simp [h]
theorem ZiY (ts:List Tm):(Zc1 ts).length=ts.length:=(ZdG ts).length_eq
theorem Zqx (ts:List Tm):ddT none (Zc1 ts)=ZaY ts:=by rw [ZoT (Zg6 ts),ZiX (ZdG ts)]
structure PT where
 t:Tm
 u:List Value
 hl:u.length=4
 hk:(Zae u).all Zai=true
def encP (p:PT):List C:=Zae p.u
def Za8 (l:List PT):List (List C):=l.map encP
theorem ZeJ (t:PT):(encP t).length=4:=by simp [encP,Zae,t.hl]
theorem ZkA (t:PT):(encP t).take 4=encP t:=List.take_of_length_le (by rw [ZeJ];exact Tah _)
theorem ZkB (t:PT):(encP t).drop 4=[]:=List.drop_of_length_le (by rw [ZeJ];exact Tah _)
theorem Zk3 (t:PT):(encP t).all Zai=true:=t.hk
theorem Zqj (ts:List PT):Zay 4 (Za8 ts)=true:=ZbB (e:=encP) (n:=4) (fun t=>by rw [ZeJ,Zk3];rfl) ts
theorem ZaJ (ts:List PT):(Za8 ts).length=ts.length:=Taw ..
theorem Zha (ts:List PT) (i:Nat):(Za8 ts)[i]?=ts[i]?.map encP:=Tax
theorem Zoa (l:List PT) (k:Nat) (t:PT):(Za8 l).set k (encP t)=Za8 (l.set k t):=(List.map_set ..).symm
theorem Zk4 (l:List PT) (k:Nat):(Za8 l).take k=Za8 (l.take k):=(List.map_take ..).symm
theorem pmz:type_of% (aj8 ZeJ ZkA ZkB Zk3 Zqj Zha ZaJ @Zaz):=(aj8 ZeJ ZkA ZkB Zk3 Zqj Zha ZaJ @Zaz)
theorem mkPs:∀ (ts:List Tm) (us:List (List Value)),us.length=ts.length->(∀ u∈us,u.length=4∧(Zae u).all Zai=true)->∃ ps:List PT,ps.map (·.t)=ts∧ps.map (·.u)=us
 | [],[],_,_=>⟨[],rfl,rfl⟩
 | t::ts,u::us,h,hu=>by
  obtain ⟨ps,h1,h2⟩:=mkPs ts us (by simpa using h) (fun x hx=>hu x (Tak _ hx));have h3:=hu u Tar;exact ⟨⟨t,u,h3.1,h3.2⟩::ps,by simp [h1],by simp [h2]⟩
 | [],_::_,h,_=>by simp at h
 | _::_,[],h,_=>by simp at h
def ddP:Option PT->List PT->List PT
 | _,[]=>[]
 | none,x::xs=>x::ddP (some x) xs
 | some y,x::xs=>if Zao x.t y.t=0 then ddP (some x) xs else x::ddP (some x) xs
def ZdC:Option PT->List PT->Option PT
 | p,[]=>p
 | _,x::xs=>ZdC (some x) xs
theorem Zfw:∀ (p:Option PT) (l:List PT) (x:PT),ddP p (l++[x])=match ZdC p l with
  | none=>ddP p l++[x]
  | some y=>if Zao x.t y.t=0 then ddP p l else ddP p l++[x]
 | none,[],x=>rfl
 | some y,[],x=>by simp only [Tag,ddP,ZdC]
 | none,a::l,x=>by
  simp only [Tae,ddP,ZdC,Zfw (some a) l x];split
  ·rfl
  ·split <;> rfl
 | some y,a::l,x=>by
  simp only [Tae,ddP,ZdC,Zfw (some a) l x];split
  ·rfl
  ·split
   ·rfl
   ·split <;> rfl
theorem Zf7:∀ (p:Option PT) (l:List PT) (i:Nat) (y:PT),l[i]?=some y->ZdC p (l.take (i+1))=some y
 | p,[],i,y,h=>by simp at h
 | p,x::xs,0,y,h=>by simp at h;subst h;simp [ZdC]
 | p,x::xs,i+1,y,h=>by
  simp only [Tay,ZdC];exact Zf7 (some x) xs i y (by simpa using h)
theorem Zis {l:List PT} {i:Nat} {x y:PT} (hx:l[i+1]?=some x) (hy:l[i]?=some y):ddP none (l.take (i+2))=if Zao x.t y.t=0 then ddP none (l.take (i+1)) else ddP none (l.take (i+1))++[x]:=by
 have e:l.take (i+2)=l.take (i+1)++[x]:=by simp [List.take_add_one,hx]
 rw [e,Zfw,Zf7 none l i y hy]
theorem Zqy {l:List PT} {x:PT} (hx:l[0]?=some x):ddP none (l.take 1)=[x]:=by
 cases l with
 | nil=>simp at hx
 | cons a l=>simp at hx;subst hx;simp [ddP]
theorem ZeW:∀ (o:Option PT) (l:List PT),(ddP o l).map (·.t)=ddT (o.map (·.t)) (l.map (·.t))
 | _,[]=>rfl
 | none,x::xs=>by simp only [ddP,ddT,Tbl,Option.map_none,ZeW (some x) xs,Option.map_some]
 | some y,x::xs=>by
  simp only [ddP,ddT,Tbl,Option.map_some];split
  ·exact ZeW (some x) xs
  ·rw [Tbl,ZeW (some x) xs];rfl
theorem ZeX:∀ (o:Option PT) (l:List PT),(ddP o l).Sublist l
 | _,[]=>List.Sublist.slnil
 | none,x::xs=>(ZeX (some x) xs).cons_cons x
 | some y,x::xs=>by
  simp only [ddP];split
  ·exact (ZeX (some x) xs).cons x
  ·exact (ZeX (some x) xs).cons_cons x
theorem Zit {α:Type} {l l':List α} {m:Nat} (h:l.drop m=l'.drop m) (i:Nat):l[m+i]?=l'[m+i]?:=by
 rw [<- List.getElem?_drop,<- List.getElem?_drop,h]
theorem Zob {ts:List PT} (h:ts.length < 2):ddP none ts=ts:=by
 match ts,h with
 | [],_=>rfl
 | [x],_=>rfl
theorem ZqL (l:List PT):Zad (l.map (·.t))=(l.map fun p=>(Zak p.t,p.u)).map (·.1):=by rw [Za2,List.map_map,List.map_map];rfl
theorem ZqM (l:List PT):l.map (·.u)=(l.map fun p=>(Zak p.t,p.u)).map (·.2):=by rw [List.map_map];rfl
theorem Zag.subP {w:World} {l l':List PT} (h:l'.Sublist l) {E:Nat->Prop} (ho:Zag w (Zad (l.map (·.t))) E (l.map (·.u))):Zag w (Zad (l'.map (·.t))) E (l'.map (·.u)):=by
 rw [ZqL,ZqM] at ho ⊢;exact Zag.sub (h.map _) ho
def ZdD (a:Option Addr) (cap ty:Nat) (E:Nat->Prop) (ts:List PT) (r:List D) (pm:List Bk):Prop:=r=[.one (.lit (.slice a ts.length cap))]∧pm=[.buf (some (a,cap)) ty 4 (Za8 ts),.set E (fun w=>Zag w (Zad (ts.map (·.t))) E (ts.map (·.u)))]
theorem ZdD.mk {a:Option Addr} {cap ty:Nat} {E:Nat->Prop} {ts:List PT}:ZdD a cap ty E ts [.one (.lit (.slice a ts.length cap))] [.buf (some (a,cap)) ty 4 (Za8 ts),.set E (fun w=>Zag w (Zad (ts.map (·.t))) E (ts.map (·.u)))]:=⟨rfl,rfl⟩
theorem Zoc {ts:List PT} {E:Nat->Prop} {u v:PT} (hu:u∈ts) (hv:v∈ts):ConP e0 28 [.agg (encP u),.agg (encP v)] [.set E (fun w=>Zag w (Zad (ts.map (·.t))) E (ts.map (·.u)))] (fun r pm=>r=[.one (.lit (.bool (decide (Zao u.t v.t=0))))]∧pm=[.set E (fun w=>Zag w (Zad (ts.map (·.t))) E (ts.map (·.u)))]):=by
 have h0:=ZgY (lits:=[.agg (encP u),.agg (encP v)]) (R:=fun r' pm=>r'=[.one (.lit (.bool (decide (Zao u.t v.t=0))))]∧pm=[]) [.set E (fun w=>Zag w (Zad (ts.map (·.t))) E (ts.map (·.u)))] (Zqe (Zir u.t v.t)) rfl (fun r q h=>by rw [h.1,h.2];exact ⟨rfl,rfl⟩) fun w S vs hp hv'=>by
  have ho:Zag w (Zad (ts.map (·.t))) E (ts.map (·.u)):=(hp _ Tar).2.1;have key:∀ (p:PT),p∈ts->∀ x,DRel w S (.agg (encP p)) x->DRel w (fun b=>S b∨Zax [.set E (fun w=>Zag w (Zad (ts.map (·.t))) E (ts.map (·.u)))] b) (.agg (Zak p.t)) x:=fun p hp x hx=>by
   obtain ⟨us,rfl,hr⟩:=hx;obtain rfl:=Zck hr;obtain ⟨i,hi⟩:=Tbf hp;exact ⟨_,rfl,ho.rep (fun b hb=>.inr ⟨_,Tar,hb⟩) (i:=i) (by rw [Za7,Tax,hi];rfl) (by rw [Tax,hi];rfl)⟩
  match vs,hv' with
  | [x,y],⟨h1,h2,_⟩=>exact ⟨key u hu x h1,key v hv y h2,trivial⟩
 exact h0.imp0 fun r pm h=>by
   obtain ⟨q1,⟨h1,h2⟩,h3⟩:=h;subst h2;exact ⟨h1,h3⟩
theorem Zhm (ts:List PT) (hl:ts.length<=4000000) (E:Nat->Prop) (a:Option Addr) (cap:Nat):ConP e0 63 [.one (.lit (.slice a ts.length cap)),.one (.fn 28 [])] [.buf (some (a,cap)) 31 4 (Za8 ts),.set E (fun w=>Zag w (Zad (ts.map (·.t))) E (ts.map (·.u)))] (ZdD a cap 31 E (ddP none ts)):=by
 have hsame:∀ u∈ts,∀ v∈ts,ConP e0 28 [.agg (encP u),.agg (encP v)] [.set E (fun w=>Zag w (Zad (ts.map (·.t))) E (ts.map (·.u)))] (fun r pm=>r=[.one (.lit (.bool (decide (Zao u.t v.t=0))))]∧pm=[.set E (fun w=>Zag w (Zad (ts.map (·.t))) E (ts.map (·.u)))]):=fun u hu v hv=>Zoc hu hv;refine gIP (ts:=[.slot 4]) [1000,1001] 562984581629171 Try.func63 ?_;by_cases h2:ts.length < 2
 ·have q1:=lT ts.length 2;refine fG (ai @q1 @pmz) ?_;rw [Zob h2];exact (have F:=ZaJ;gTP (R:=ZdD a cap 31 E ts) [1000,1001] ZdD.mk)
 have q1:=lF ts.length 2;refine fG (ai @q1 @pmz) ?_;clear q1;obtain ⟨t0,ht0⟩:∃ t,ts[0]?=some t:=⟨_,Taa om⟩;have F:=@pmz;refine gL (ι:=Nat) [4,5,6,7,15,28,35,49] [] (fun x=>[(5,.d (.one (.lit (.int .i64 (x:Int)))))]) (fun x=>[]) (fun x=>1<=x∧x<=ts.length∧ddP none (ts.take x)=ts.take x) (fun x=>ts.length - x) (1) (⟨Tah _,om,by rw [Zqy ht0];cases ts with | nil=>simp at ht0 | cons y ys=>simp at ht0;simp [ht0]⟩) (fun x hx=>?_);clear F
 obtain ⟨hx1,hxn,hxd⟩:=hx;by_cases hlt:x < ts.length;rotate_left
 ·obtain rfl:x=ts.length:=by omega
  have q1:=lF ts.length ts.length;rw [Tao] at hxd;refine fG (ai @q1 @pmz) ?_;rw [hxd];exact (have F:=ZaJ;gTP (R:=ZdD a cap 31 E ts) [1000,1001] ZdD.mk)
 obtain ⟨u,hu⟩:∃ t,ts[x]?=some t:=⟨_,Taa hlt⟩;obtain ⟨z,rfl⟩:∃ z,x=z+1:=⟨x - 1,om⟩;obtain ⟨v,hv⟩:∃ t,ts[z]?=some t:=⟨_,Taa om⟩;have q1:=lT (z+1:Nat) ts.length;have w1:IntKind.i64.wrap (((z+1:Nat):Int) - 1)=(z:Int):=ZeV om om om;have w2:IntKind.i64.wrap (((z+1:Nat):Int)+1)=((z+1+1:Nat):Int):=ZeV om om om;have hz1:z+1 < ts.length:=hlt;have hz0:z < ts.length:=om;have hst:=Zis hu hv;generalize hxx:z+1=x at *
 rw [show z+2=x+1 by omega] at hst;refine fB (ai @q1 @pmz) ?_;have F:=aj8 @q1 @pmz @hu @hv @w1 @hz1 @hz0 @ZaJ;refine gCP [1001] [1001] (hsame u (Tab hu) v (Tab hv)) ?_;clear F;rintro r pm ⟨rfl,rfl⟩;simp only [setA,retA,zipM,Tae,Tag];refine fR (ai @q1 @pmz) ?_;by_cases h0:Zao u.t v.t=0;rotate_left
 ·have q3:decide (Zao u.t v.t=0)=false:=decide_eq_false h0;rw [if_neg h0,hxd] at hst;have F:=ai @q3 @w2;refine gG ?_;exact ⟨x+1,⟨om,hlt,by rw [hst];simp [List.take_add_one,hu]⟩,gw,gw,om⟩
 have q3:decide (Zao u.t v.t=0)=true:=decide_eq_true h0;rw [if_pos h0,hxd] at hst;refine fN 7 (ai @q3 @pmz) ?_;refine gB ?_;have F:=ai @q3 @pmz;refine gP 2 ?_;clear F;have F:=ZaJ;refine gSub 1000 x ts.length ⟨om,by rw [ZaJ];exact Tah _⟩ ?_;clear F;refine fR @pmz ?_;refine fG @pmz ?_;have F:=@pmz;refine gL (ι:=Nat × Nat × List PT) [5,7,35,49] [1000] (fun y=>[(7,.d (.one (.lit (.int .i64 (y.1:Int))))),(5,.d (.one (.lit (.int .i64 (y.2.1:Int)))))]) (fun y=>[(1000,.buf (some (a,cap)) 31 4 (Za8 y.2.2))]) (fun y=>1<=y.1∧x+y.1<=ts.length∧y.2.1+1<=x+y.1∧y.2.2.length=ts.length∧y.2.2.take y.2.1=ddP none (ts.take (x+y.1))∧y.2.2.drop (x+y.1 - 1)=ts.drop (x+y.1 - 1)) (fun y=>ts.length - y.1) ((1,x,ts)) (⟨Tah _,hlt,Tah _,rfl,hst.symm,rfl⟩) (fun y hy=>?_);clear F
 obtain ⟨j,k,us⟩:=y;obtain ⟨h1,h2',h3,h4,h5,h6⟩:=hy;simp only at h1 h2' h3 h4 h5 h6;dsimp only;have hn4:ts.length=us.length:=h4.symm;by_cases hj:j < ts.length - x
 ·obtain ⟨i,rfl⟩:∃ i,j=i+1:=⟨j - 1,om⟩;obtain ⟨u1,hu1⟩:∃ t,ts[x+i+1]?=some t:=⟨_,Taa om⟩;obtain ⟨v1,hv1⟩:∃ t,ts[x+i]?=some t:=⟨_,Taa om⟩;have e1:us[x+(i+1)]?=some u1:=by
   rw [<- hu1,show x+(i+1) - 1=x+i by omega] at *;exact Zit h6 1
  have e2:us[x+i]?=some v1:=by
   rw [<- hv1,show x+(i+1) - 1=x+i by omega] at *;exact Zit h6 0
  have q4:=lT (i+1:Nat) (ts.length - x:Nat);have w3:IntKind.i64.wrap (((i+1:Nat):Int) - 1)=(i:Int):=ZeV om om om;have w4:IntKind.i64.wrap (((i+1:Nat):Int)+1)=((i+1+1:Nat):Int):=ZeV om om om;have hst2:=Zis hu1 hv1;rw [show x+i+2=x+(i+1+1) by omega,show x+i+1=x+(i+1) by omega,<- h5] at hst2;refine fN 11 (aj3 @q4 @Zn8 @pmz) ?_;refine gB ?_;have F:=ai @q4 @pmz;refine gP 3 ?_;clear F;have F:=ZaJ;refine Zn1 (l:=x) (h:=ts.length) (rows:=Za8 us) 1000 (i+1) ⟨om,by rw [ZaJ];omega⟩ ?_
  clear F;have F:=aj3 @pmz @e1 @w3;refine gP 4 ?_;clear F;have F:=ZaJ;refine Zn1 (l:=x) (h:=ts.length) (rows:=Za8 us) 1000 i ⟨om,by rw [ZaJ];omega⟩ ?_;clear F;have F:=ai @pmz @e2;refine gCP [1001] [1001] (hsame u1 (Tab hu1) v1 (Tab hv1)) ?_;clear F;rintro r pm ⟨rfl,rfl⟩;simp only [setA,retA,zipM,Tae,Tag];refine fR @pmz ?_;by_cases h7:Zao u1.t v1.t=0
  ·have q5:decide (Zao u1.t v1.t=0)=true:=decide_eq_true h7;rw [if_pos h7] at hst2;have F:=ai @q5 @w4;refine gG ?_;exact ⟨(i+1+1,k,us),⟨by dsimp only;omega,by dsimp only;omega,by dsimp only;omega,h4,hst2.symm,by rw [show x+(i+1+1) - 1=x+(i+1) - 1+1 by omega,<- List.drop_drop,<- List.drop_drop,h6]⟩,gw,gw,om⟩
  ·have q5:decide (Zao u1.t v1.t=0)=false:=decide_eq_false h7;rw [if_neg h7] at hst2;obtain ⟨ok,hok⟩:∃ t,us[k]?=some t:=⟨_,Taa om⟩;have w5:IntKind.i64.wrap ((k:Int)+1)=((k+1:Nat):Int):=ZeV om om om;have hkl:k < us.length:=om;refine fN 12 (ai @q5 @pmz) ?_;refine gB ?_;have F:=ai @q5 @pmz;refine gP 4 ?_;clear F;have F:=ZaJ;refine ZqW (l:=x) (h:=ts.length) (rows:=Za8 us) 1000 (i+1) ⟨om,by rw [ZaJ];omega⟩ ?_
   clear F;refine fR (aj6 @pmz @e1 @hok @hn4 @hkl @Zoa) ?_;have F:=aj3 @w4 @w5 @hn4;refine gG ?_;exact ⟨(i+1+1,k+1,us.set k u1),⟨by dsimp only;omega,by dsimp only;omega,by dsimp only;omega,by rw [List.length_set];exact h4,by rw [hst2,Zn9 hkl],by rw [List.drop_set_of_lt om,show x+(i+1+1) - 1=x+(i+1) - 1+1 by omega,<- List.drop_drop,<- List.drop_drop,h6]⟩,gw,gw,om⟩
 ·have q4:=lF j (ts.length - x:Nat);have hjn:x+j=ts.length:=om;rw [hjn,Tao] at h5;have hkl:k < us.length:=om;refine fN 14 (aj3 @q4 @Zn8 @pmz) ?_;refine gB ?_;have F:=ai @q4 @pmz;refine gP 2 ?_;clear F;have F:=ai ZaJ hn4;refine gSub 1000 k us.length ⟨om,by rw [ZaJ];exact Tah _⟩ ?_;rw [show us.length=(Za8 us).length by rw [ZaJ]];refine ZqJ 1000 (by rw [ZaJ];exact hkl) ?_;clear F;have hRl:((Za8 us).take k++List.replicate ((Za8 us).length - k) [C.lit (Value.int IntKind.i64 0),C.lit (Value.string ByteArray.empty),C.lit (Value.int IntKind.i64 0),C.sl []]).length=us.length:=by simp [ZaJ];omega
  have hRt:((Za8 us).take k++List.replicate ((Za8 us).length - k) [C.lit (Value.int IntKind.i64 0),C.lit (Value.string ByteArray.empty),C.lit (Value.int IntKind.i64 0),C.sl []]).take k=Za8 (ddP none ts):=by
   rw [List.take_append_of_le_length (by simp [ZaJ];omega),List.take_take,Nat.min_self,Zk4,h5]
  generalize (Za8 us).take k++List.replicate ((Za8 us).length - k) [C.lit (Value.int IntKind.i64 0),C.lit (Value.string ByteArray.empty),C.lit (Value.int IntKind.i64 0),C.sl []]=R at hRl hRt ⊢;refine fR @pmz ?_;refine fN 15 (ai @q4 @pmz) ?_;refine gB ?_;have F:=ai @q4 @pmz;refine gP 2 ?_;clear F;have F:=ai hRl hn4;refine gSub 1000 0 k ⟨om,by rw [hRl];omega⟩ ?_;clear F;rw [ZiR];refine fR @pmz ?_;refine fG @pmz ?_
  refine pE [1000] [1000] (ZqI k (by rw [hRl];omega)) ?_;rw [hRt];have hk2:k=(Za8 (ddP none ts)).length:=by rw [ZaJ,<- h5,Tav];omega
  refine pE [1001] [1001] (ZnY (G':=fun w=>Zag w (Zad ((ddP none ts).map (·.t))) E ((ddP none ts).map (·.u))) (fun w h=>Zag.subP (ZeX none ts) h) (Zag.stable _ _ _)) ?_;exact (have F:=ZaJ;gTP (R:=ZdD a cap 31 E (ddP none ts)) [1000,1001] ⟨by rw [show (ddP none ts).length=k by rw [hk2,ZaJ]],rfl⟩)
theorem ZiZ (ts:List Tm) (hl:ts.length<=4000000) {uss:List (List Value)} (hul:uss.length=ts.length) (E:Nat->Prop) (a:Option Addr) (cap:Nat):ConP e0 62 [.one (.lit (.slice a ts.length cap)),.one (.fn 52 [])] [.buf (some (a,cap)) 31 4 (uss.map Zae),.set E (fun w=>Zag w (Zad ts) E uss)] (fun r pm=>r=[]∧∃ us':List (List Value),us'.length=(Zad (Zc1 ts)).length∧(∀ us∈us',us.length=4∧(Zae us).all Zai=true)∧pm=[.buf (some (a,cap)) 31 4 (us'.map Zae),.set E (fun w=>Zag w (Zad (Zc1 ts)) E us')]):=by
 have hrow:∀ a∈Zad ts,a=Zak (unT a):=fun a ha=>by
  rw [Za2] at ha;obtain ⟨t,_,rfl⟩:=Tbe.1 ha;rw [Zgu]
 have h:=Zqv (ZkW (P:=Try.prog) rfl ZqY (k:=4) (ty:=31) Try.isAgg31 Try.sizeOf31 (by kernel_rfl) (g:=52) (enters_of Try.func52 (by kernel_rfl) rfl) (rows:=Zad ts) (rows':=Zad (Zc1 ts)) (cf:=fun a b=>Zao (unT a) (unT b)) (by rw [Zar];omega)
  (fun r hr=>by rw [hrow r hr];exact ⟨ZeG _,ZhC _⟩)
  (fun a ha b hb=>by
   have h:=Ziq (unT a) (unT b)
   rwa [<- hrow a ha,<- hrow b hb] at h)
  (fun a _=>by rw [Zdb];omega) (fun a _ b _ c _ h1 h2=>ZcM h1 h2) (fun a _ b _ c _ h1 h2=>by
   rw [Zbq (unT b) (unT a)] at h1;rw [Zbq (unT c) (unT b)] at h2;rw [Zbq (unT c) (unT a)];have:=ZdQ (a:=unT c) (b:=unT b) (c:=unT a) om om;omega)
  (fun l hp hs=>by
   have hmem:∀ a∈l,a=Zak (unT a):=fun a ha=>hrow a (hp.mem_iff.1 ha);have hp2:(l.map unT).Perm ts:=by have:=hp.map unT;rwa [Zqw] at this
   have hup:Up (l.map unT):=by
    refine List.pairwise_iff_getElem.2 fun i j hi hj hij=>?_;simp only [List.getElem_map];simp only [Taw] at hi hj;have:=hs i j l[i] l[j] hij (Taa hi) (Taa hj);rw [Zbq (unT l[j]) (unT l[i])];omega
   have e:=Zkz (Zg6 ts) hup ((ZdG ts).trans hp2.symm);rw [e,Za2,List.map_map]
   conv=>lhs;rw [<- List.map_id l]
   exact List.map_congr_left fun a ha=>hmem a ha) (uss:=uss) (by rw [Zar];exact hul) E a cap)
 rwa [Zar] at h
theorem Zgv (ts:List Tm) (hl:ts.length<=4000000) {uss:List (List Value)} (hul:uss.length=ts.length) (E:Nat->Prop) (a:Option Addr) (cap:Nat):ConP e0 41 [.one (.lit (.slice a ts.length cap))] [.buf (some (a,cap)) 31 4 (uss.map Zae),.set E (fun w=>Zag w (Zad ts) E uss)] (fun r pm=>∃ us':List (List Value),us'.length=(ZaY ts).length∧r=[.one (.lit (.slice a us'.length cap))]∧pm=[.buf (some (a,cap)) 31 4 (us'.map Zae),.set E (fun w=>Zag w (Zad (ZaY ts)) E us')]):=by
 have hs:=ZiZ ts hl hul E a cap;refine gIP (ts:=[.slot 2]) [1000,1001] 5 Try.func41 ?_;refine fB @tmz ?_;have F:=@tmz;refine gCP [1000,1001] [1000,1001] (hs) ?_;clear F;rintro r pm ⟨rfl,us',h1,h2,rfl⟩;simp only [setA,retA,zipM,Tae,Tag];rw [Zar] at h1;obtain ⟨ps,e1,e2⟩:=mkPs (Zc1 ts) us' h1 h2;subst e2;have e3:(ps.map (·.u)).map Zae=Za8 ps:=by rw [List.map_map];rfl
 have e4:ps.length=ts.length:=by have:=congrArg List.length e1;rwa [Taw,ZiY] at this
 have e5:(ddP none ps).map (·.t)=ZaY ts:=by rw [ZeW,e1];exact Zqx ts
 have hc:=Zhm ps (by rw [e4];exact hl) E a cap;rw [e4] at hc;rw [e3,<- e1];refine fR @tmz ?_;refine fB @tmz ?_;have F:=@tmz;refine gCP [1000,1001] [1000,1001] (hc) ?_;clear F;rintro r pm ⟨rfl,rfl⟩;simp only [setA,retA,zipM,Tae,Tag];refine fR @tmz ?_;refine fG @tmz ?_;have e6:Za8 (ddP none ps)=((ddP none ps).map (·.u)).map Zae:=by rw [List.map_map];rfl
 exact (have F:=ZaJ;gTP (R:=fun r pm=>∃ us':List (List Value),us'.length=(ZaY ts).length∧r=[.one (.lit (.slice a us'.length cap))]∧pm=[.buf (some (a,cap)) 31 4 (us'.map Zae),.set E (fun w=>Zag w (Zad (ZaY ts)) E us')]) [1000,1001] ⟨(ddP none ps).map (·.u),by rw [<- e5,Taw,Taw],by rw [Taw],by rw [<- e6,<- e5]⟩)
theorem Zk5 {t x:Tm} {ts:List Tm} {i:Nat} (hx:ts[i]?=some x) (h:ZaF t ts=ts.take i++ZaF t (ts.drop i)) (hc:Zao x t < 0):ZaF t ts=ts.take (i+1)++ZaF t (ts.drop (i+1)):=by
 obtain ⟨hl,e⟩:=Tac.1 hx;rw [h,List.drop_eq_getElem_cons hl,e,ZaF,if_pos hc];simp [List.take_add_one,hx]
theorem Zk6 {t x:Tm} {ts:List Tm} {i:Nat} (hx:ts[i]?=some x) (h:ZaF t ts=ts.take i++ZaF t (ts.drop i)) (hc:Zao x t=0):ZaF t ts=ts:=by
 obtain ⟨hl,e⟩:=Tac.1 hx;rw [h,List.drop_eq_getElem_cons hl,e,ZaF,if_neg om,if_pos hc,<- e,<- List.drop_eq_getElem_cons hl,Tbh]
theorem Zk7 {t x:Tm} {ts:List Tm} {i:Nat} (hx:ts[i]?=some x) (h:ZaF t ts=ts.take i++ZaF t (ts.drop i)) (h1:¬ Zao x t < 0) (h2:¬ Zao x t=0):ZaF t ts=ts.take i++[t]++ts.drop i:=by
 obtain ⟨hl,e⟩:=Tac.1 hx;rw [h,List.drop_eq_getElem_cons hl,e,ZaF,if_neg h1,if_neg h2];simp
theorem Zod {t:Tm} {ts:List Tm} {i:Nat} (hi:ts.length<=i) (h:ZaF t ts=ts.take i++ZaF t (ts.drop i)):ZaF t ts=ts.take i++[t]++ts.drop i:=by
 rw [h,List.drop_eq_nil_of_le hi,ZaF];simp
theorem Ziu (ts:List Tm) (t:Tm) (hts:Za0 ts) (ht:okTm t) (hl:ts.length<=8000000):Con e0 38 [.one (.sl (Zad ts)),.agg (Zak t)] [.one (.sl (Zad (ZaF t ts)))]:=by
 refine gI (ts:=[.slot 4]) 8590459003 Try.func38 ?_;refine fG @tmz ?_;have F:=@tmz;refine gL (ι:=Nat) [5,19] [] (fun x=>[(5,.d (.one (.lit (.int .i64 (x:Int)))))]) (fun x=>[]) (fun x=>x<=ts.length∧ZaF t ts=ts.take x++ZaF t (ts.drop x)) (fun x=>ts.length - x) (0) (⟨Tai _,rfl⟩) (fun x hx=>?_);clear F;obtain ⟨hi,hf⟩:=hx;by_cases hlt:x < ts.length
 ·obtain ⟨a,ha⟩:∃ n,ts[x]?=some n:=⟨_,Taa hlt⟩;have q1:=lT x ts.length;have q4:IntKind.i64.wrap ((x:Int)+1)=(x:Int)+1:=IntWalk.i64_in _ om;have hcmp:=Zff (hts.mem (Tab ha)) ht;refine fB (ai @q1 @tmz) ?_;refine fC (aj3 @q1 @tmz @ha) (hcmp) ?_;by_cases hc:Zao a t < 0
  ·have q2:(Zao a t < 0)=True:=eq_true hc;refine fR (aj3 @q1 @q2 @tmz) ?_;have hs:=Zk5 ha hf hc;have F:=ai @q4 @q2;refine gG ?_;exact ⟨x+1,⟨hlt,hs⟩,gw,gw,om⟩
  ·have q2:(Zao a t < 0)=False:=eq_false hc;refine fR (aj3 @q1 @q2 @tmz) ?_;refine fB (aj3 @q1 @q2 @tmz) ?_;refine fC (aj3 @q1 @tmz @ha) (Zk2 (hts.mem (Tab ha)) ht) ?_;by_cases h0:Zao a t=0
   ·have q3:decide (Zao a t=0)=true:=decide_eq_true h0;refine fR (aj3 @q1 @q3 @tmz) ?_;rw [Zk6 ha hf h0];exact fD (ai @q3 @tmz)
   ·have q3:decide (Zao a t=0)=false:=decide_eq_false h0;refine fR (aj3 @q1 @q3 @tmz) ?_;have hins:=Zk7 ha hf hc h0;refine fN 6 (ai @q3 @tmz) ?_;rw [hins,Zdc,Zdc,Zf6,<- ZcS,<- ZcT];have hxl:((x:Int)<=(ts.length:Int))=True:=eq_true om;have r1:Zay 4 ((Zad ts).take x)=true:=by rw [ZcS];exact Zd4 _
    have r2:Zay 4 ((Zad ts).drop x)=true:=by rw [ZcT];exact Zd4 _
    have n1:((Zad ts).take x).length<=8000000:=by rw [Tav,Zar];omega
    have n2:((Zad ts).drop x).length<=8000000:=by rw [List.length_drop,Zar];omega
    have n3:((Zad ts).take x).length+1<=maxApp:=by unfold maxApp;omega
    have n4:((Zad ts).take x).length+1+((Zad ts).drop x).length<=maxApp:=by unfold maxApp;omega
    have F:=aj6 r1 r2 hxl n3 n4 tmz;refine gA 7 4 ?_ (.inl rfl) ?_
    ·show 0+_<=maxApp;unfold maxApp;omega
    clear F;refine fR (aj6 @r1 @r2 @hxl @n3 @n4 @tmz) ?_;have tkA:(Zad ts).take ts.length=Zad ts:=by rw [<- Zar ts,Tao]
    have n5:((Zad ts).take x++[Zak t]).length+((Zad ts).drop x).length<=maxApp:=by simp only [Tad,Taf,Taj];omega
    have hll:((ts.length:Int)<=(ts.length:Int))=True:=eq_true (Int.le_refl _);have F:=aj9 @r1 @r2 @hxl @n3 @n4 @n5 @hll @tkA @tmz;refine gG ?_;exact gTz [4]
 ·have q1:=lF x ts.length;have hins:=Zod om hf;refine fN 6 (ai @q1 @tmz) ?_;rw [hins,Zdc,Zdc,Zf6,<- ZcS,<- ZcT];have hxl:((x:Int)<=(ts.length:Int))=True:=eq_true om;have r1:Zay 4 ((Zad ts).take x)=true:=by rw [ZcS];exact Zd4 _
  have r2:Zay 4 ((Zad ts).drop x)=true:=by rw [ZcT];exact Zd4 _
  have n1:((Zad ts).take x).length<=8000000:=by rw [Tav,Zar];omega
  have n2:((Zad ts).drop x).length<=8000000:=by rw [List.length_drop,Zar];omega
  have n3:((Zad ts).take x).length+1<=maxApp:=by unfold maxApp;omega
  have n4:((Zad ts).take x).length+1+((Zad ts).drop x).length<=maxApp:=by unfold maxApp;omega
  have F:=aj6 r1 r2 hxl n3 n4 tmz;refine gA 7 4 ?_ (.inl rfl) ?_
  ·show 0+_<=maxApp;unfold maxApp;omega
  clear F;refine fR (aj6 @r1 @r2 @hxl @n3 @n4 @tmz) ?_;have tkA:(Zad ts).take ts.length=Zad ts:=by rw [<- Zar ts,Tao]
  have n5:((Zad ts).take x++[Zak t]).length+((Zad ts).drop x).length<=maxApp:=by simp only [Tad,Taf,Taj];omega
  have hll:((ts.length:Int)<=(ts.length:Int))=True:=eq_true (Int.le_refl _);have F:=aj9 @r1 @r2 @hxl @n3 @n4 @n5 @hll @tkA @tmz;refine gG ?_;exact gTz [4]
def colT (l:List Tm) (r:List Tm):List Tm:=l.foldl (fun r t=>ZaF t r) r
theorem ZoY (a b r:List Tm):colT (a++b) r=colT b (colT a r):=by unfold colT;rw [List.foldl_append]
theorem Zhb (t:Tm):∀ l:List Tm,(ZaF t l).length<=l.length+1
 | []=>by simp [ZaF]
 | x::xs=>by
  have:=Zhb t xs;simp only [ZaF];split
  ·simp only [Taf];omega
  ·split <;> simp only [Taf] <;> omega
theorem Ziv:∀ (l r:List Tm),(colT l r).length<=r.length+l.length
 | [],r=>by simp [colT]
 | x::xs,r=>by
  have h1:=Ziv xs (ZaF x r);have h2:=Zhb x r;simp only [colT,List.foldl_cons,Taf] at h1 ⊢;omega
theorem Ziw {t:Tm} (ht:okTm t):∀ {l:List Tm},Za0 l->Za0 (ZaF t l)
 | [],_=>by simp only [ZaF,Za0];exact ⟨ht,trivial⟩
 | x::xs,h=>by
  simp only [Za0] at h;simp only [ZaF];split
  ·simp only [Za0];exact ⟨h.1,Ziw ht h.2⟩
  ·split
   ·simp only [Za0];exact h
   ·simp only [Za0];exact ⟨ht,h⟩
theorem Zgw:∀ {l r:List Tm},Za0 l->Za0 r->Za0 (colT l r)
 | [],r,_,h=>h
 | x::xs,r,h1,h2=>by
  simp only [Za0] at h1;exact Zgw (l:=xs) (r:=ZaF x r) h1.2 (Ziw h1.1 h2)
noncomputable def tosT (rows:List (List C)):List Tm:=rows.map fun r=>unT (r.drop 5)
theorem Ziz (rows:List (List C)):(tosT rows).length=rows.length:=Taw ..
theorem Zd9 {r:List C} (h:Zam (Zab .step) r):∃ i0 r1 r2 r3 r4 i5 t6 i7 r8 t,r=[.lit (.int .i64 i0),.sl r1,.sl r2,.sl r3,.sl r4,.lit (.int .i64 i5),.lit (.string t6),.lit (.int .i64 i7),.sl r8]∧Zak t=[.lit (.int .i64 i5),.lit (.string t6),.lit (.int .i64 i7),.sl r8]∧okTm t∧unT (r.drop 5)=t:=by
 obtain ⟨i0,r1,r2,r3,r4,i5,t6,i7,r8,rfl,g0,g1,g2,g3,g4,g5,g6,g7,g8⟩:=ZcC h;obtain ⟨t,e,ht⟩:=ZqX (Zbc g5 g6 g7 g8);exact ⟨i0,r1,r2,r3,r4,i5,t6,i7,r8,t,rfl,e.symm,ht,by rw [show ([C.lit (.int .i64 i0),.sl r1,.sl r2,.sl r3,.sl r4,.lit (.int .i64 i5),.lit (.string t6),.lit (.int .i64 i7),.sl r8]:List C).drop 5=[.lit (.int .i64 i5),.lit (.string t6),.lit (.int .i64 i7),.sl r8] from rfl,e,Zgu]⟩
theorem Zea {ts:List Tm}:Za0 ts ↔ ∀ t∈ts,okTm t:=by
 induction ts with
 | nil=>simp [Za0]
 | cons t ts ih=>simp [Za0,ih]
theorem ZkC {rows:List (List C)} (h:Zah (Zab .step) rows):Za0 (tosT rows):=by
 refine Zea.2 fun t ht=>?_;obtain ⟨r,hr,rfl⟩:=Tbe.1 ht;obtain ⟨i,hi⟩:=Tbf hr;obtain ⟨_,_,_,_,_,_,_,_,_,t,_,_,h1,h2⟩:=Zd9 (h.get hi);rw [h2];exact h1
theorem ZeK:∀ {rows:List (List C)},Zah (Zab .step) rows->(tosT rows).length+bulkRows (Zad (tosT rows))<=rows.length+bulkRows rows
 | [],_=>by simp [tosT,Zad,bulkRows]
 | r::rows,h=>by
  simp only [Zah] at h;have ih:=ZeK h.2;obtain ⟨i0,r1,r2,r3,r4,i5,t6,i7,r8,t,rfl,e,_,h2⟩:=Zd9 h.1;have e1:tosT ([C.lit (.int .i64 i0),.sl r1,.sl r2,.sl r3,.sl r4,.lit (.int .i64 i5),.lit (.string t6),.lit (.int .i64 i7),.sl r8]::rows)=t::tosT rows:=by
   unfold tosT at *;rw [Tbl,h2]
  rw [e1];simp only [Zad,bulkRows,Taf,e,bulkRow,Zbh] at ih ⊢;omega
theorem ZiA (t:Tm):∀ l:List Tm,(ZaF t l).length+bulkRows (Zad (ZaF t l))<=l.length+bulkRows (Zad l)+(1+bulkRow (Zak t))
 | []=>by simp only [ZaF,Zad,bulkRows,Taf,Taj];omega
 | x::xs=>by
  have:=ZiA t xs;simp only [ZaF];split
  ·simp only [Zad,bulkRows,Taf];omega
  ·split <;> (simp only [Zad,bulkRows,Taf];omega)
theorem Zhc:∀ (l r:List Tm),(colT l r).length+bulkRows (Zad (colT l r))<=r.length+bulkRows (Zad r)+(l.length+bulkRows (Zad l))
 | [],r=>by simp [colT,Zad,bulkRows]
 | x::xs,r=>by
  have h1:=Zhc xs (ZaF x r);have h2:=ZiA x r;simp only [colT,List.foldl_cons,Taf,Zad,bulkRows] at h1 ⊢;omega
theorem ZiB {rows:List (List C)} (h:Zah (Zab .step) rows):(ZaY (tosT rows)).length+bulkRows (Zad (ZaY (tosT rows)))<=rows.length+bulkRows rows:=by
 have h1:=Zhc (tosT rows) [];have h2:=ZeK h;have e:ZaY (tosT rows)=colT (tosT rows) []:=rfl;rw [e];simp only [Zad,bulkRows,Taj] at h1;omega
theorem ZqO {rows:List (List C)} (h:Zah (Zab .step) rows):Zah (Zab .term) (Zad (ZaY (tosT rows))):=Zd3 _ (Zgw (ZkC h) trivial)
theorem ZqA {rows:List (List C)} (h:Zah (Zab .step) rows) (hb:rows.length+bulkRows rows<=1048576):(Zad (ZaY (tosT rows))).length+bulkRows (Zad (ZaY (tosT rows)))<=1048576:=by
 have:=ZiB h;rw [Zar];omega
theorem Zo1 {rows:List (List C)} (h:Zah (Zab .step) rows):∃ v,rows=v∧Zah (Zab .step) v:=⟨rows,rfl,h⟩
theorem Zof {ts:List Tm} {i:Nat} {t:Tm} (h:ts[i]?=some t):colT (ts.take (i+1)) []=ZaF t (colT (ts.take i) []):=by
 rw [show ts.take (i+1)=ts.take i++[t] by simp [List.take_add_one,h],ZoY];rfl
theorem Zi0 {rows:List (List C)} (hok:Zah (Zab .step) rows) (hB:rows.length+bulkRows rows<=1048576):Con e0 13 [.one (.sl rows)] [.one (.sl (Zad (ZaY (tosT rows))))]:=by
 have hts:=ZkC hok;have htl:=Ziz rows;have hrb:Zay 9 rows=true:=ZaT.2 (Zah.rowsLen hok);have e00:Zad (colT [] [])=[]:=ZcB;refine gI (ts:=[.slot 2]) 541 Try.func13 ?_;refine fG @tmz ?_;refine Zca (Zdw [3] (by simp only [pz,↓reduceIte,Nat.reduceEqDiff,Nat.reduceAdd,Nat.reduceSub,Nat.reduceMul,Nat.reduceLeDiff,Nat.reduceBEq,Tal,decide_true,decide_false,Int.reduceLE,Int.reduceToNat,Int.reduceLT,Int.reduceEq,eq_self,Nat.reduceShiftRight,Nat.reduceAnd,Nat.reduceBneDiff,tmz];exact rfl)) fun σ' hσ=>?_
 subst hσ;have F:=@e00;refine gL (ι:=Nat) [3,4,9] [] (fun i=>[(4,A.d (.one (.lit (.int .i64 i)))),(3,.d (.one (.sl (Zad (colT ((tosT rows).take i) [])))))]) (fun i=>[]) (fun i=>i<=rows.length) (fun i=>rows.length - i) (0) (Tai _) (fun i hi=>?_);clear F;by_cases hlt:i < rows.length;rotate_left
 ·obtain rfl:i=rows.length:=by omega
  have q2:=lF rows.length rows.length;have ee:colT ((tosT rows).take rows.length) []=ZaY (tosT rows):=by rw [<- htl,Tao];rfl
  rw [ee];have hb2:=ZiB hok;refine fB (ai @q2 @tmz) ?_;refine fC @tmz (Ziy (ZaY (tosT rows)) (by unfold tmsB;omega)) ?_;refine fR @tmz ?_;exact fT @tmz
 obtain ⟨r,hr⟩:∃ b,rows[i]?=some b:=⟨_,Taa hlt⟩;obtain ⟨i0,r1,r2,r3,r4,i5,t6,i7,r8,t,rfl,e,hkt,h2⟩:=Zd9 (hok.get hr);have hti:(tosT rows)[i]?=some t:=by unfold tosT;rw [Tax,hr,Option.map_some,h2]
 have q2:=lT i rows.length;have q4:=Zb6 (k:=i) om;have hcl:=Ziv ((tosT rows).take i) [];have hck:Za0 (colT ((tosT rows).take i) []):=Zgw (Zea.2 fun a ha=>Zea.1 hts a (List.mem_of_mem_take ha)) trivial;have hIn:=Ziu (colT ((tosT rows).take i) []) t hck hkt (by rw [Tav] at hcl;simp only [Taj] at hcl;omega);rw [<- Zof hti,e] at hIn;refine fB (ai @q2 @tmz) ?_;refine fC (aj4 @q2 @hr @hrb @tmz) (hIn) ?_
 refine fR @tmz ?_;have F:=@q4;refine gG ?_;exact ⟨i+1,hlt,gw,gw,om⟩
theorem ZiC {rows:List (List C)} (hok:Zah (Zab .step) rows) (hB:rows.length+bulkRows rows<=1048576):ConP e0 15 [.one (.sl rows)] [] (Zbf (Zad (ZaY (tosT rows)))):=by
 have htl:=Ziz rows;have hrb:Zay 9 rows=true:=ZaT.2 (Zah.rowsLen hok);have hrl:=Zah.rowsLen hok;have hbt:=ZeK hok;refine gIP (ts:=[.slot 2]) [] 1965 Try.func15 ?_;refine fG @tmz ?_;refine pE [] [1000] Zb1 ?_;have F:=ai @Zar @ZcB;refine gL (ι:=Nat × List (List Value) × (Nat->Prop)) [3,5,9,10] [3,1000] (fun x=>[(9,A.d (.one (.lit (.int .i64 x.1)))),(3,.buf 3)]) (fun x=>[(3,.buf none 31 4 (x.2.1.map Zae)),(1000,.set x.2.2 (fun w=>Zag w (Zad ((tosT rows).take x.1)) x.2.2 x.2.1))]) (fun x=>x.1<=rows.length∧x.2.1.length=x.1) (fun x=>rows.length - x.1) ((0,[],fun _=>False)) (⟨Tai _,rfl⟩) (fun x hx=>?_);clear F
 obtain ⟨i,uss,E⟩:=x;obtain ⟨hi,hn⟩:=hx;simp only at hi hn;by_cases hlt:i < rows.length
 ·obtain ⟨r,hr⟩:∃ b,rows[i]?=some b:=⟨_,Taa hlt⟩;obtain ⟨i0,r1,r2,r3,r4,i5,t6,i7,r8,t,rfl,e,hkt,h2⟩:=Zd9 (hok.get hr);have hti:(tosT rows)[i]?=some t:=by unfold tosT;rw [Tax,hr,Option.map_some,h2]
  have hti':(Zad (tosT rows))[i]?=some (Zak t):=by rw [Za7,hti];rfl
  have hbi:=ZbQ hti';have hc:=Zix t (by rw [htl] at hbt;omega);have q1:=lT i rows.length;rw [e] at hc;refine fB (aj4 @q1 @hr @hrb @tmz) ?_;have F:=aj3 @q1 @hr @tmz;refine gCP [] [1001] (hc) ?_;clear F;rintro r pm ⟨us,E2,rfl,hu,hokc,rfl⟩;obtain ⟨u0,u1,u2,u3,rfl⟩:=len4 hu;obtain ⟨k0,k1,k2,k3⟩:=okc4 hokc;have q3:IntKind.i64.wrap ((i:Int)+1)=(i:Int)+1:=IntWalk.i64_in _ om;have q2:i+1<=maxApp:=by unfold maxApp;omega
  simp only [Zbx,setA,retA,zipM,Tae,Tag];refine fR (aj8 @Zbx @Zap @hn @q2 @k0 @k1 @k2 @k3) ?_;refine pE [1000,1001] [1000] (ZeD (G':=fun w=>Zag w (Zad ((tosT rows).take (i+1))) (fun b=>E b∨E2 b) (uss++[[u0,u1,u2,u3]])) (fun w h1 h2 hd=>?_) (Zag.stable _ _ _)) ?_
  ·rw [ZcU (tosT rows) hti,e];exact Zag.snoc h1 h2 (fun _ h=>.inl h) (fun _ h=>.inr h) hd
  have F:=aj4 @Zbx @q3 @Zar ((@Tbm.{0,0}));refine gG ?_;exact ⟨(i+1,uss++[[u0,u1,u2,u3]],fun b=>E b∨E2 b),⟨hlt,by simp [hn]⟩,gw,gw,om⟩
 ·obtain rfl:i=rows.length:=by omega
  have q1:=lF rows.length rows.length;rw [<- htl] at hn;have ee:(tosT rows).take rows.length=tosT rows:=by rw [<- htl,Tao]
  rw [ee];refine fG @q1 ?_;refine pS 3 fun a cap=>?_;have hd:=Zgv (tosT rows) (by rw [htl];omega) hn E a cap;rw [<- hn] at hd;refine gB ?_;have F:=ai @Zap @tmz;refine gCP [3,1000] [1000,1001] (hd) ?_;clear F;rintro r pm ⟨us',h1,rfl,rfl⟩;simp only [setA,retA,zipM,Tae,Tag];refine fR @tmz ?_;refine fG @tmz ?_;refine pE [1000,1001] [1000] (ZbE (uss:=us') (G':=fun w=>Own w (.sl (Zad (ZaY (tosT rows)))) (fun b=>vblk (.slice a us'.length cap)=some b∨E b) (.slice a us'.length cap)) (fun w h=>h) (Own.stable _ _ _)) ?_
  exact (have F:=Zap;gTP (R:=Zbf (Zad (ZaY (tosT rows)))) [1000] ⟨.slice a us'.length cap,fun b=>vblk (.slice a us'.length cap)=some b∨E b,rfl,rfl,rfl⟩)
theorem ZfD {rows0:List (List C)} (hok0:Zah (Zab .step) rows0) {wr:List (List C)} (hokw:Zah (Zab .term) wr) (hBw0:rows0.length+bulkRows rows0<=1048576->wr.length+bulkRows wr<=1048576) (hsp0:rows0.length+bulkRows rows0<=1048576->Con e0 13 [.one (.sl rows0)] [.one (.sl wr)]) (him0:rows0.length+bulkRows rows0<=1048576->ConP e0 15 [.one (.sl rows0)] [] (Zbf wr)):Con e0 4 [.one (.sl rows0)] [.one (.lit (.bool true))]:=by
 refine gI 333204452330801498109 Try.func4 ?_;refine fG @Zaz ?_;have hL0_0:(0:Int)<=1048576:=om;have hL0_1:(1048576:Int)<=1048576:=om;refine gB ?_;refine fC @Zaz (Zi5 hok0 hL0_0 hL0_1) ?_;refine fR @Zaz ?_;by_cases hb0:((rows0.length+bulkRows rows0:Nat):Int)<=1048576;rotate_left
 ·have n1:sub 1048576 (rows0.length+bulkRows rows0:Nat)=-1:=ZaI om;have n2:(-1:Int) < 0:=om;exact fT (ai @n1 @n2)
 have nq:sub 1048576 (rows0.length+bulkRows rows0:Nat)=1048576 - ((rows0.length+bulkRows rows0:Nat):Nat):=ZaZ om;rw [nq];clear nq;have hB0:rows0.length+bulkRows rows0<=1048576:=om;have hL1_0:(0:Int)<=1048576 - ((rows0.length+bulkRows rows0:Nat):Nat):=om;have hL1_1:(1048576:Int) - ((rows0.length+bulkRows rows0:Nat):Nat)<=1048576:=om;generalize hgl0:(1048576:Int) - ((rows0.length+bulkRows rows0:Nat):Nat)=L1 at *
 have n2:¬ (L1 < 0):=om;refine fG (ai @n2 @Zaz) ?_;clear n2 hb0;have hsp:=hsp0 hB0;have him:=him0 hB0;have hBw:=hBw0 hB0;have hcw:cntRows wr<=16 * (wr.length+bulkRows wr):=Zdd _ _ (ZeL _) hokw;have cE:=ZdH hokw;have cT0:=Zi7 hok0 hB0;have cP0:=ZeN hok0 hB0;have cQ0:=Zi6 hok0;have hc0:cntRows rows0<=16 * (rows0.length+bulkRows rows0):=Zdd _ _ (ZeL _) hok0;refine gB ?_;refine fC @Zaz (cT0) ?_;refine fC @Zaz (hsp) ?_
 refine fR @Zaz ?_;refine fB @Zaz ?_;have F:=@Zaz;refine gCP [] [1000] (cP0) ?_;clear F;rintro r pm ⟨v0,E0,rfl,cu0,rfl⟩;simp only [setA,retA,zipM,Tae,Tag];refine fR (ai @Zaz @cu0) ?_;refine fB (ai @Zaz @cu0) ?_;have F:=ai @Zaz @cu0;refine gCP [1000] [1100,1000] (ZkE (lits:=[.one (.lit v0)]) [.set E0 (fun w=>Own w (.sl rows0) E0 v0)] him ⟨.treeS Tar,trivial⟩ rfl (fun _ _ h=>Zbf.lits h)) ?_;clear F;rintro r pm ⟨q1,⟨vg,Eg,rfl,cug,rfl⟩,rfl⟩
 simp only [setA,retA,zipM,Tae,Tag];refine fR (aj3 @Zaz @cu0 @cug) ?_;refine fB (aj3 @Zaz @cu0 @cug) ?_;have F:=aj3 @Zaz @cu0 @cug;refine gCP [1100] [1100] (ZdT (lits:=[.one (.lit vg),.one (.sl wr)]) [.set Eg (fun w=>Own w (.sl wr) Eg vg)] cE ⟨.treeS Tar,.same,trivial⟩ rfl rfl) ?_;clear F;rintro r pm ⟨rfl,rfl⟩;simp only [setA,retA,zipM,Tae,Tag];refine fR (aj4 @Zaz @cu0 @cug @beq_self_eq_true.{0}) ?_
 refine fB (aj4 @Zaz @cu0 @cug @beq_self_eq_true.{0}) ?_;refine fC (aj3 @Zaz @cu0 @cug) (cT0) ?_;have F:=aj3 @Zaz @cu0 @cug;refine gCP [1000] [1000] (ZdT (lits:=[.one (.lit v0),.one (.sl rows0)]) [.set E0 (fun w=>Own w (.sl rows0) E0 v0)] cQ0 ⟨.treeS Tar,.same,trivial⟩ rfl rfl) ?_;clear F;rintro r pm ⟨rfl,rfl⟩;simp only [setA,retA,zipM,Tae,Tag];refine fR (aj3 @Zaz @cu0 @cug) ?_;refine fB (aj3 @Zaz @cu0 @cug) ?_
 have F:=aj3 @Zaz @cu0 @cug;refine gCP [1000] [1000] (Zhq hok0 (1) E0 v0 om om) ?_;clear F;rintro r pm ⟨F0,rfl,rfl⟩;simp only [setA,retA,zipM,Tae,Tag];refine fR (aj3 @Zaz @cu0 @cug) ?_;refine fG (aj3 @Zaz @cu0 @cug) ?_;have nk:(1+(cntRows rows0:Int) < 0)=False:=eq_false om;refine gB ?_;have F:=aj4 @Zaz @cu0 @cug @nk;refine gCP [1100] [1100] (ZdT (lits:=[.one (.lit vg),.one (.sl wr)]) [.set Eg (fun w=>Own w (.sl wr) Eg vg)] cE ⟨.treeS Tar,.same,trivial⟩ rfl rfl) ?_;clear F
 rintro r pm ⟨rfl,rfl⟩;simp only [setA,retA,zipM,Tae,Tag];refine fR (aj5 @Zaz @cu0 @cug @nk @beq_self_eq_true.{0}) ?_;refine fB (aj5 @Zaz @cu0 @cug @nk @beq_self_eq_true.{0}) ?_;have F:=aj4 @Zaz @cu0 @cug @nk;refine gCP [1100] [1100] (Zby hokw 1 Eg vg om om) ?_;clear F;rintro r pm ⟨Fg,rfl,rfl⟩;simp only [setA,retA,zipM,Tae,Tag];refine fR (aj4 @Zaz @cu0 @cug @nk) ?_;refine fG (aj4 @Zaz @cu0 @cug @nk) ?_
 have nm:(1+(cntRows wr:Int) < 0)=False:=eq_false om;have cH:=Zho hokw om 1 om om;refine gB ?_;have F:=aj5 @Zaz @cu0 @cug @nk @nm;refine gCP [1100] [1100] (ZdT (lits:=[.one (.lit vg),.one (.lit (.int .i64 1))]) [.set Fg (fun w=>Own w (.sl (Zan 1 wr)) Fg vg)] cH ⟨.treeS Tar,.same,trivial⟩ rfl rfl) ?_;clear F;rintro r pm ⟨rfl,rfl⟩;simp only [setA,retA,zipM,Tae,Tag];refine fR (aj5 @Zaz @cu0 @cug @nk @nm) ?_
 refine fB (aj6 @Zaz @cu0 @cug @nk @nm @beq_self_eq_true.{0}) ?_;refine fC @Zaz (cT0) ?_;have F:=aj5 @Zaz @cu0 @cug @nk @nm;refine gCP [] [1200] (him) ?_;clear F;rintro r pm ⟨vh,Eh,rfl,cuh,rfl⟩;simp only [setA,retA,zipM,Tae,Tag];refine fR (aj6 @Zaz @cu0 @cug @nk @nm @cuh) ?_;refine fB (aj6 @Zaz @cu0 @cug @nk @nm @cuh) ?_;have F:=aj6 @Zaz @cu0 @cug @nk @nm @cuh;refine gCP [1200] [1200] (ZdT (lits:=[.one (.lit vh),.one (.sl wr)]) [.set Eh (fun w=>Own w (.sl wr) Eh vh)] cE ⟨.treeS Tar,.same,trivial⟩ rfl rfl) ?_;clear F
 rintro r pm ⟨rfl,rfl⟩;simp only [setA,retA,zipM,Tae,Tag];refine fR (aj7 @Zaz @cu0 @cug @nk @nm @cuh @beq_self_eq_true.{0}) ?_;refine fB (aj7 @Zaz @cu0 @cug @nk @nm @cuh @beq_self_eq_true.{0}) ?_;have F:=aj5 @Zaz @cu0 @cug @nk @nm;refine gCP [1100] [1100] (ZdT (lits:=[.one (.lit vg),.one (.lit (.int .i64 1))]) [.set Fg (fun w=>Own w (.sl (Zan 1 wr)) Fg vg)] cH ⟨.treeS Tar,.same,trivial⟩ rfl rfl) ?_;clear F
 rintro r pm ⟨rfl,rfl⟩;simp only [setA,retA,zipM,Tae,Tag];refine fR (aj5 @Zaz @cu0 @cug @nk @nm) ?_;exact fT (aj7 @Zaz @cu0 @cug @nk @nm @cuh @beq_self_eq_true.{0})
theorem Ze4 (w:World) (rows0:List (List C)) (S0:Nat->Prop) (u0:Value) (hok0:Zah (Zab .step) rows0) (hv0:Rep w S0 (.sl rows0) u0) :
  Calls Try.prog 4 #[u0] w fun e w'=>e=.returned (.bool true)∧Below w.heap.size w w':=by
 obtain ⟨l,rfl,k0⟩:=Zo1 hok0
 have hc:=(ZfD hok0 (ZqO k0) (fun b0=>ZqA k0 b0) (fun b0=>Zi0 k0 b0) (fun b0=>ZiC k0 b0)).2 w (fun b=>b < w.heap.size) [u0] (fun b hb=>⟨hb,id⟩) (fun b hb=>hb.elim) trivial
  ⟨(Rep.inside _ _ hv0).mono (fun b hb=>hb.2),trivial⟩
 refine hc.mono fun e w' ⟨v,h1,h2,_,h4⟩=>⟨?_,h2.below⟩;have h4:v=.bool true:=by simpa [retA,ARel,DRel,Rep] using h4
 rw [h1,h4]
end Go.Proofs.Ytjoaefnnnbpflaa
