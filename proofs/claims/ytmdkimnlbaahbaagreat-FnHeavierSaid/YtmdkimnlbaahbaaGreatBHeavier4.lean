/-
  Part of a proof.
-/
import Derived.Test.YtmdkimnlbaahbaaGreatBHeavier0
import Derived.Test.YtmdkimnlbaahbaaGreatBHeavier1
import Derived.Test.YtmdkimnlbaahbaaGreatBHeavier2
import Derived.Test.YtmdkimnlbaahbaaGreatBHeavier3
import Derived.Shelf.SlSortCmp.WholeK
import Derived.Shelf.SlSortCmp.NoneTotal
import Derived.Lib.QuietBelow
import Derived.Shelf.SlLaysF0
import Derived.Test.YtmdkimnlbaahbaaGreatChecked
import Derived.Shelf.Lays7
import Derived.Shelf.Spec.TrailingZeros
set_option linter.unusedSimpArgs false
set_option linter.unusedVariables false
set_option maxHeartbeats 400000000
set_option maxRecDepth 100000
namespace Go.Proofs.YtmdkimnlbaahbaaGreat
open Go.RowKit
open Go.Sort (grow HoldsK putRowK flatK SWO PermIn SortedIn Holds mapBlock onCells putRow putCells get_flatK size_flatK)
theorem Zwf {w w':World} (h:Kept True (fun _=>False) w.heap.size w w'):∃ q os,w'=grow (w.drewN q) os:=by
 obtain ⟨p,hp⟩:=regrown_of_below (w:=w) (w':=w') ⟨h.os,h.tape,h.output,h.size,fun k hk=>h.block k hk id⟩;have hd:=h.drawn trivial;have e:p.d=w'.drawn:=by rw [hp];rfl
 refine ⟨w'.drawn - w.drawn,p.os,?_⟩;have e2:redrawn w p.d=w.drewN (w'.drawn - w.drawn):=by
  unfold redrawn World.drewN;rw [e,show w.drawn+(w'.drawn - w.drawn)=w'.drawn by omega]
 rw [<- e2];exact hp
abbrev SRow (w:World) (S:Nat->Prop) (Q:List C->Prop):={x:List C × List Value // Q x.1∧Zad w S x.1 x.2}
theorem ZoG {w:World} {S:Nat->Prop} {b k:Nat} {Q:List C->Prop} (hk:∀ r,Q r->r.length=k):∀ (rows:List (List C)) (off:Nat),(∀ r∈rows,Q r)->Zap w S b off rows->∃ l:List (SRow w S Q),l.map (fun x=>x.1.1)=rows∧∀ (i:Nat) x,l[i]?=some x->∀ j u,x.1.2[j]?=some u->w.cell? ⟨b,off+i * k+j,none⟩=some u
 | [],off,_,_=>⟨[],rfl,fun i x h=>by simp at h⟩
 | r::rs,off,hQ,h=>by
  simp only [Zap] at h;obtain ⟨vs,h1,h2⟩:=h.1.vals;obtain ⟨l,e,hl⟩:=ZoG hk rs (off+r.length) (fun x hx=>hQ x (Tal _ hx)) h.2;have hr:=hQ r Tas;refine ⟨⟨(r,vs),hr,h1⟩::l,by simp [e],fun i x hi j u hj=>?_⟩
  cases i with
  | zero =>
   simp only [Tat,Taq] at hi;subst hi;have:=h2 j u hj
   rwa [Nat.zero_mul,Nat.add_zero]
  | succ i =>
   have:=hl i x (by simpa using hi) j u hj;rw [hk r hr] at this
   rwa [show off+(i+1) * k+j=off+k+i * k+j by rw [Nat.succ_mul];omega]
theorem Zlc {w W:World} {S S2:Nat->Prop} {b k:Nat} {Q:List C->Prop} (hk:∀ r,Q r->r.length=k) (hv:∀ x:SRow w S Q,Zad W S2 x.1.1 x.1.2):∀ (l:List (SRow w S Q)) (off:Nat),(∀ (i:Nat) x,l[i]?=some x->∀ j u,x.1.2[j]?=some u->W.cell? ⟨b,off+i * k+j,none⟩=some u)->Zap W S2 b off (l.map (fun x=>x.1.1))
 | [],off,_=>by simp [Zap]
 | x::l,off,h=>by
  simp only [Tbu,Zap];refine ⟨Zag.of_vals _ _ off (hv x) fun j u hj=>?_,?_⟩
  ·have:=h 0 x rfl j u hj
   rwa [Nat.zero_mul,Nat.add_zero] at this
  ·rw [hk _ x.2.1];refine Zlc hk hv l (off+k) fun i y hi j u hj=>?_;have:=h (i+1) y (by simpa using hi) j u hj
   rwa [show off+(i+1) * k+j=off+k+i * k+j by rw [Nat.succ_mul];omega] at this
theorem ZoH {α:Type} [Inhabited α] {enc:α->List Value} {k:Nat} {W:World} {b:Nat} {d:Array α} (hk:∀ x,(enc x).length=k) (h:HoldsK enc k W b 0 d) {i:Nat} {x:α} (hi:d.toList[i]?=some x) {j:Nat} {u:Value} (hj:(enc x)[j]?=some u):W.cell? ⟨b,0+i * k+j,none⟩=some u:=by
 have hil:i < d.size:=by have:=(Tad.1 hi).1;simpa using this
 have hjl:j < k:=by have:=(Tad.1 hj).1;rwa [hk] at this
 have ht:i * k+j < d.size * k:=by
  have:=Nat.mul_le_mul_right k (show i+1<=d.size from hil);rw [Nat.succ_mul] at this;omega
 have h1:=(h (i * k+j) (by rw [size_flatK];exact ht)).1;rw [get_flatK _ _ _ _ ht,show (i * k+j) / k=i by rw [Nat.add_comm,Nat.add_mul_div_right _ _ om,Nat.div_eq_of_lt hjl,Nat.zero_add],show (i * k+j) % k=j by rw [Nat.add_comm,Nat.add_mul_mod_self_right,Nat.mod_eq_of_lt hjl]] at h1;have e1:d[i]! = x:=by
  rw [getElem!_pos d i hil];have:=(Tad.1 hi).2;simpa using this
 have e2:(enc x)[j]! = u:=by
  rw [getElem!_pos (enc x) j (by rw [hk];exact hjl)];exact (Tad.1 hj).2
 rw [e1,e2,<- Nat.add_assoc] at h1;exact h1
theorem Zwg {α:Type} [Inhabited α] {enc:α->List Value} {k:Nat} {w:World} {b:Nat} {l:List α} (hk:∀ x,(enc x).length=k) (hf:∀ o,w.frozen? ⟨b,o,none⟩=false) (h:∀ (i:Nat) x,l[i]?=some x->∀ j u,(enc x)[j]?=some u->w.cell? ⟨b,0+i * k+j,none⟩=some u):HoldsK enc k w b 0 l.toArray:=by
 intro t ht;refine ⟨?_,hf _⟩;rw [size_flatK] at ht;have ht':t < l.length * k:=by simpa using ht
 have k0 : 0 < k := by rcases Nat.eq_zero_or_pos k with e | e; · subst e; simp at ht'
                       ·exact e
 have hi:t / k < l.length:=Nat.div_lt_of_lt_mul (by rw [Nat.mul_comm];exact ht');have hj:t % k < k:=Nat.mod_lt _ k0;rw [get_flatK _ _ _ _ ht];have e1:l.toArray[t / k]! = l[t / k]:=by rw [getElem!_pos _ _ (by simpa using hi)];rfl
 rw [e1,getElem!_pos _ _ (by rw [hk];exact hj)];have:=h (t / k) l[t / k] (Taa hi) (t % k) _ (Taa (by rw [hk];exact hj))
 rwa [show 0+t / k * k+t % k=0+t by have:=Nat.div_add_mod' t k;omega] at this
theorem Zad.one {w:World} {S:Nat->Prop}:∀ {cs:List C} {us:List Value},cs.all ZaB=true->Zad w S cs us->∀ v∈us,v.oneCell'=true
 | [],[],_,_,v,h=>by simp at h
 | c::cs,u::us,hc,h,v,hv=>by
  simp only [List.all_cons,Tar] at hc;simp only [Zad] at h;rcases Tbg.1 hv with rfl | hv
  ·exact Zfp hc.1 h.1
  ·exact Zad.one hc.2 h.2 v hv
 | [],_::_,_,h,_,_=>by simp [Zad] at h
 | _::_,[],_,h,_,_=>by simp [Zad] at h
theorem ZxO {α:Type} [Inhabited α] {enc:α->List Value} {k:Nat} {w:World} {b n:Nat} {d:Array α} {os:Array Obj} {cur:Array Value} {ty:Nat} (hh:w.heap[b]?=some (.cells cur ty (0,0))):(sortWorldK enc k w b 0 n d os).heap[b]?=some (.cells (putCells id 0 (flatK enc k d) cur) ty (0,0)):=by
 have hb:b < w.heap.size:=(Tbl.1 hh).1;show ((w.heap.modify b (onCells (putCells id 0 (flatK enc k d))))++os)[b]?=_;rw [Array.getElem?_append_left (by simpa using hb),Array.getElem?_modify,if_pos rfl,hh];rfl
theorem Zj6 {α:Type} [Inhabited α] {enc:α->List Value} {k:Nat} {w:World} {b n j:Nat} {d:Array α} {os:Array Obj} (hj:j < w.heap.size) (hne:j≠b):(sortWorldK enc k w b 0 n d os).heap[j]?=w.heap[j]?:=by
 show ((w.heap.modify b (onCells (putCells id 0 (flatK enc k d))))++os)[j]?=_;rw [Array.getElem?_append_left (by simpa using hj),Array.getElem?_modify,if_neg (fun e=>hne e.symm)]
theorem ZfG {α:Type} [Inhabited α] {enc:α->List Value} {k:Nat} {w:World} {b n:Nat} {d:Array α} {os:Array Obj}:w.heap.size<=(sortWorldK enc k w b 0 n d os).heap.size:=by
 show _<=((w.heap.modify b (onCells (putCells id 0 (flatK enc k d))))++os).size;simp
theorem Zwh {P:Program} (hP:e1.P=P) {ρ:Go.Shelf.Ren} (L:SlLaysF0.n6 P ρ) {k ty:Nat} (aE:∀ w,(isAgg (ρ.t 24)).run P w=.ok true w) (zE:∀ w,(Go.sizeOf (ρ.t 24)).run P w=.ok k w) (hbody:Zcc P (ρ.f 6)=true) {g:FuncId} (eg:∀ args w,(callFunc g args).run P w=.ok (.enter g args) w)
  {rows rows':List (List C)} {cf:List C->List C->Int} (hlen:rows.length < 4611686018427387904) (hg:∀ a∈rows,∀ b∈rows,Con e1 g [.agg a,.agg b] [.one (.lit (.int .i64 (cf a b)))])
  (h1:∀ a∈rows,¬ cf a a < 0) (h2:∀ a∈rows,∀ b∈rows,∀ c∈rows,cf a b < 0->cf b c < 0->cf a c < 0) (h3:∀ a∈rows,∀ b∈rows,∀ c∈rows,¬ cf a b < 0->¬ cf b c < 0->¬ cf a c < 0)
  (hu:∀ l:List (List C),l.Perm rows->(∀ (i j:Nat) a b,i < j->l[i]?=some a->l[j]?=some b->¬ cf b a < 0)->l=rows'):ConI e1 (ρ.f 6) ty k rows [.one (.fn g [])] rows' []:=by
 refine ⟨by rw [hP];exact hbody,fun w S v0 vs hS hE hvE hG hbuf hargs=>?_⟩;rw [hP]
 match vs,hargs with
 | [u],hargs =>
  obtain ⟨⟨us,rfl,hus⟩,_⟩:(∃ us:List Value,u=.func (.func g) #[] us.toArray∧Zad w S [] us)∧True:=by simpa [Zas,DRel,Rep] using hargs
  have hus0:us=[]:=by cases us with
   | nil=>rfl
   | cons _ _=>simp [Zad] at hus
  subst hus0;obtain ⟨h0,hrl,hcase⟩:=hbuf;by_cases hne:rows=[]
  ·subst hne;have hr':rows'=[]:=(hu [] (List.Perm.refl _) (fun i j a b _ h=>by simp at h)).symm;subst hr';have hform:∃ p cap,v0=.slice p 0 cap:=by
    rcases hcase with ⟨_,a,rfl⟩ | ⟨b,cap,cur,rfl,_⟩
    ·exact ⟨a,0,rfl⟩
    ·exact ⟨_,cap,rfl⟩
   obtain ⟨p,cap,hv0⟩:=hform;rw [hv0];refine (AnyF.slices_SortFunc_none (P:=P) L p cap _ w).mono ?_;rintro e w' ⟨rfl,rfl⟩;rw [<- hv0];have hs:(fun b=>S b∨(w'.heap.size<=b∧b < w'.heap.size))=S:=by
    funext b;exact propext ⟨fun h=>h.elim id (fun h=>absurd h.2 om),.inl⟩
   refine ⟨_,rfl,Kept.refl ..,hG,?_,[],rfl,trivial⟩;rw [hs];exact ⟨h0,hrl,hcase⟩
  ·rcases hcase with ⟨e,_⟩ | ⟨b,cap,cur,rfl,hc,hbz,hSb,hh,hle,hmx,hcs,hrows⟩
   ·exact absurd e hne
   have hkr:∀ r,r∈rows->r.length=k:=fun r hr=>(hrl r hr).1;obtain ⟨l,hl,hcell⟩:=ZoG (k:=k) (Q:=fun r=>r∈rows) hkr rows 0 (fun r h=>h) hrows;have hll:l.length=rows.length:=by have:=congrArg List.length hl;rwa [Tay] at this
   obtain ⟨x0,hx0⟩:∃ x,x∈l:=List.exists_mem_of_ne_nil _ (fun e=>hne (Tao (by rw [<- hll,e];rfl)))
   letI:Inhabited (SRow w S (fun r=>r∈rows)):=⟨x0⟩
   have hk:∀ x:SRow w S (fun r=>r∈rows),x.1.2.length=k:=fun x=>by rw [x.2.2.len];exact hkr _ x.2.1
   have h1c:∀ x:SRow w S (fun r=>r∈rows),∀ v∈x.1.2,v.oneCell'=true:=fun x=>Zad.one (hrl _ x.2.1).2 x.2.2;have hH:HoldsK (fun x:SRow w S (fun r=>r∈rows)=>x.1.2) k w b 0 l.toArray:=Zwg hk (fun o=>frozen_of_row w b o cur ty hh) hcell
   have keepV:∀ (m:Nat) (os:Array Obj) (dk:Array (SRow w S (fun r=>r∈rows))) (S2:Nat->Prop),(∀ b,S b->S2 b)->∀ x:SRow w S (fun r=>r∈rows),Zad (sortWorldK (fun x:SRow w S (fun r=>r∈rows)=>x.1.2) k w b 0 m dk os) S2 x.1.1 x.1.2:=fun m os dk S2 hS2 x =>
    Zad.keep2 ZfG (fun b' o hb'=>Zbi (Zj6 (hS b' hb').1 (fun e:b'=b=>hSb (by rw [<- e];exact hb'))) o) hS2 x.2.2
   have hvb:vblk (.slice (some ⟨b,0,none⟩) rows.length cap)=some b:=by simp only [vblk];rw [if_neg om]
   have keepG:∀ (m:Nat) (os:Array Obj) (dk:Array (SRow w S (fun r=>r∈rows))),e1.G (sortWorldK (fun x:SRow w S (fun r=>r∈rows)=>x.1.2) k w b 0 m dk os):=fun m os dk =>
    Znp.keep w _ ZfG (fun b' hb'=>Zj6 (hE b' hb') (fun e=>hvE b hvb (e ▸ hb'))) hG
   have hcmp:CmpLays P g #[] (fun x:SRow w S (fun r=>r∈rows)=>x.1.2) k (fun x y=>cf x.1.1 y.1.1) b 0 l.toArray.size w:=by
    intro m os dk hdk x y
    have hc:=(hg _ x.2.1 _ y.2.1).2 (sortWorldK (fun x:SRow w S (fun r=>r∈rows)=>x.1.2) k w b 0 m dk os) S [.agg x.1.2.toArray,.agg y.1.2.toArray] (fun b' hb'=>⟨Tbd (hS b' hb').1 ZfG,(hS b' hb').2⟩) (fun b' h=>Tbd (hE b' h) ZfG) (keepG m os dk)
     ⟨⟨_,rfl,keepV m os dk S (fun _ h=>h) x⟩,⟨_,rfl,keepV m os dk S (fun _ h=>h) y⟩,trivial⟩
    rw [hP] at hc;refine hc.mono ?_;rintro e w' ⟨v,rfl,hK,hG',hv⟩;have hv:v=.int .i64 (cf x.1.1 y.1.1):=by simpa [retA,ARel,DRel,Rep] using hv
    exact ⟨by rw [hv],Zwf (hK.all1 (keepG m os dk) hG')⟩
   have hO:SWO (ltOf (fun x y:SRow w S (fun r=>r∈rows)=>cf x.1.1 y.1.1)):=by
    refine ⟨fun x=>?_,fun x y z=>?_,fun x y z=>?_⟩ <;> simp only [ltOf,decide_eq_false_iff_not,decide_eq_true_eq]
    ·exact h1 _ x.2.1
    ·exact h2 _ x.2.1 _ y.2.1 _ z.2.1
    ·exact h3 _ x.2.1 _ y.2.1 _ z.2.1
   have hsort:=AnyQ.slices_SortFunc L k aE zE (fun x:SRow w S (fun r=>r∈rows)=>x.1.2) hk h1c (fun x y=>cf x.1.1 y.1.1) hO g #[] b 0 cap l.toArray w eg hcmp hH hbz (by simp only [List.size_toArray];omega);have hlz:l.toArray.size=rows.length:=by simpa using hll
   rw [hlz] at hsort;refine hsort.mono ?_;rintro e w' ⟨rfl,d',n,os,hp,hs,rfl⟩;obtain ⟨hp1,_,hp3⟩:=hp;rw [hlz] at hp1;have hex:∀ a:Array (SRow w S (fun r=>r∈rows)),a.size=rows.length->a.extract 0 rows.length=a:=fun a ha=>by rw [<- ha];simp
   rw [hex d' hp1,hex _ hlz] at hp3;have hperm:(d'.toList.map (fun x=>x.1.1)).Perm rows:=by
    have:=hp3.map (fun x:SRow w S (fun r=>r∈rows)=>x.1.1)
    rwa [show l.toArray.toList=l from rfl,hl] at this
   have hrows':d'.toList.map (fun x=>x.1.1)=rows':=hu _ hperm fun i j a c hij ha hc=>by
    simp only [Tba,Tav] at ha hc;obtain ⟨x,hx,rfl⟩:=ha;obtain ⟨y,hy,rfl⟩:=hc;have hjl:j < rows.length:=by have:=(Tad.1 hy).1;simpa [hp1] using this
    have:=hs i j (Taj _) hij hjl;have ex:d'[i]! = x:=by
     rw [getElem!_pos d' i om];have:=(Tad.1 hx).2;simpa using this
    have ey:d'[j]! = y:=by
     rw [getElem!_pos d' j om];have:=(Tad.1 hy).2;simpa using this
    rw [ex,ey] at this;simpa [ltOf] using this
   have hlr:rows'.length=rows.length:=by rw [<- hrows',Tay,Array.length_toList,hp1]
   have hW:HoldsK (fun x:SRow w S (fun r=>r∈rows)=>x.1.2) k (sortWorldK (fun x:SRow w S (fun r=>r∈rows)=>x.1.2) k w b 0 n d' os) b 0 d':=SWK.holds (d0:=l.toArray) ⟨n,os,rfl⟩ hbz hH (by rw [hp1,hlz]);refine ⟨_,rfl,⟨rfl,rfl,rfl,fun _=>Nat.le_add_right _ _,ZfG,fun j hj hn=>Zj6 hj (fun e=>hn (.inr (by rw [hvb,e])))⟩,keepG n os d',⟨h0,fun r hr=>?_,.inr ⟨b,cap,_,by rw [hlr],hc,Tbd hbz ZfG,fun hn=>?_,ZxO hh,om,hmx,by simp [putCells,hcs],?_⟩⟩,[],rfl,trivial⟩
   ·rw [<- hrows'] at hr;exact hrl r (hperm.mem_iff.1 hr)
   ·rcases hn with hn | hn
    ·exact hSb hn
    ·omega
   ·rw [<- hrows'];exact Zlc (Q:=fun r=>r∈rows) hkr (keepV n os d' _ (fun b hb=>.inl hb)) d'.toList 0 fun i x hi j u hj=>ZoH hk hW hi hj
end Go.Proofs.YtmdkimnlbaahbaaGreat
namespace Go.Proofs.YtmdkimnlbaahbaaGreat
open Go.Shelf
def Zwi:Ren:=⟨fun | 6=>104 | 15=>123 | 14=>122 | 28=>143 | 29=>144 | 20=>135 | 21=>136 | 22=>137 | 23=>138 | 24=>139 | 25=>140 | 26=>141 | 27=>142 | 46=>148 | 47=>149 | 48=>150 | 49=>151 | 50=>152 | 57=>155 | n=>n,fun | 22=>32 | 24=>34 | 25=>88 | 3=>3 | 39=>140 | 0=>0 | 53=>162 | 55=>164 | 4=>4 | 46=>155 | 45=>154 | 50=>159 | 5=>5 | 9=>9 | 66=>166 | 70=>170 | 76=>173 | 77=>174 | n=>n,fun | n=>n⟩
theorem ZA7:Go.Proofs.SlLaysF0.n6 Tryz.prog Zwi:={
 mixed:=by kernel_rfl,
 f6:=⟨Tryz.f104.name,by decide,Tryz.func104.trans (congrArg some (by kernel_rfl))⟩,
 f14:=⟨Tryz.f122.name,by decide,Tryz.func122.trans (congrArg some (by kernel_rfl))⟩,
 f15:=Tryz.func123.trans (congrArg some (by kernel_rfl)),
 f20:=⟨Tryz.f135.name,by decide,Tryz.func135.trans (congrArg some (by kernel_rfl))⟩,
 f21:=⟨Tryz.f136.name,by decide,Tryz.func136.trans (congrArg some (by kernel_rfl))⟩,
 f22:=⟨Tryz.f137.name,by decide,Tryz.func137.trans (congrArg some (by kernel_rfl))⟩,
 f23:=⟨Tryz.f138.name,by decide,Tryz.func138.trans (congrArg some (by kernel_rfl))⟩,
 f24:=⟨Tryz.f139.name,by decide,Tryz.func139.trans (congrArg some (by kernel_rfl))⟩,
 f25:=⟨Tryz.f140.name,by decide,Tryz.func140.trans (congrArg some (by kernel_rfl))⟩,
 f26:=⟨Tryz.f141.name,by decide,Tryz.func141.trans (congrArg some (by kernel_rfl))⟩,
 f27:=⟨Tryz.f142.name,by decide,Tryz.func142.trans (congrArg some (by kernel_rfl))⟩,
 f28:=Tryz.func143.trans (congrArg some (by kernel_rfl)),
 f29:=Tryz.func144.trans (congrArg some (by kernel_rfl)),
 f46:=⟨Tryz.f148.name,by decide,Tryz.func148.trans (congrArg some (by kernel_rfl))⟩,
 f47:=Tryz.func149.trans (congrArg some (by kernel_rfl)),
 f48:=Tryz.func150.trans (congrArg some (by kernel_rfl)),
 f49:=⟨Tryz.f151.name,by decide,Tryz.func151.trans (congrArg some (by kernel_rfl))⟩,
 f50:=⟨Tryz.f152.name,by decide,Tryz.func152.trans (congrArg some (by kernel_rfl))⟩,
 f57:=⟨Tryz.f155.name,by decide,Tryz.func155.trans (congrArg some (by kernel_rfl))⟩,
 t0:=Tryz.underlying0,
 a0:=Tryz.isAgg0,
 z0:=Tryz.sizeOf0,
 v0:=Tryz.zeroValue0,
 t3:=Tryz.underlying3,
 a3:=Tryz.isAgg3,
 z3:=Tryz.sizeOf3,
 v3:=Tryz.zeroValue3,
 t4:=Tryz.underlying4,
 a4:=Tryz.isAgg4,
 z4:=Tryz.sizeOf4,
 v4:=Tryz.zeroValue4,
 t5:=Tryz.underlying5,
 a5:=Tryz.isAgg5,
 z5:=Tryz.sizeOf5,
 v5:=Tryz.zeroValue5,
 t9:=Tryz.underlying9,
 a9:=Tryz.isAgg9,
 z9:=Tryz.sizeOf9,
 v9:=Tryz.zeroValue9,
 t22:=Tryz.underlying32,
 a22:=Tryz.isAgg32,
 z22:=Tryz.sizeOf32,
 v22:=Tryz.zeroValue32,
 t25:=Tryz.underlying88,
 a25:=Tryz.isAgg88,
 z25:=Tryz.sizeOf88,
 v25:=Tryz.zeroValue88,
 t39:=Tryz.underlying140,
 a39:=Tryz.isAgg140,
 z39:=Tryz.sizeOf140,
 v39:=Tryz.zeroValue140,
 t45:=Tryz.underlying154,
 a45:=Tryz.isAgg154,
 z45:=Tryz.sizeOf154,
 v45:=Tryz.zeroValue154,
 t46:=Tryz.underlying155,
 a46:=Tryz.isAgg155,
 z46:=Tryz.sizeOf155,
 v46:=Tryz.zeroValue155,
 t50:=Tryz.underlying159,
 a50:=Tryz.isAgg159,
 z50:=Tryz.sizeOf159,
 v50:=Tryz.zeroValue159,
 t53:=Tryz.underlying162,
 a53:=Tryz.isAgg162,
 z53:=Tryz.sizeOf162,
 v53:=Tryz.zeroValue162,
 t55:=Tryz.underlying164,
 a55:=Tryz.isAgg164,
 z55:=Tryz.sizeOf164,
 v55:=Tryz.zeroValue164,
 t66:=Tryz.underlying166,
 a66:=Tryz.isAgg166,
 z66:=Tryz.sizeOf166,
 v66:=Tryz.zeroValue166,
 t70:=Tryz.underlying170,
 a70:=Tryz.isAgg170,
 z70:=Tryz.sizeOf170,
 v70:=Tryz.zeroValue170,
 t76:=Tryz.underlying173,
 a76:=Tryz.isAgg173,
 z76:=Tryz.sizeOf173,
 v76:=Tryz.zeroValue173,
 t77:=Tryz.underlying174,
 a77:=Tryz.isAgg174,
 z77:=Tryz.sizeOf174,
 v77:=Tryz.zeroValue174 }
end Go.Proofs.YtmdkimnlbaahbaaGreat
namespace Go.Proofs.YtmdkimnlbaahbaaGreat
open Go.RowKit
theorem ZAa {f:FuncId} {ty sz:Nat} {rows rows':List (List C)} {args r:List D} (h:ConI e1 f ty sz rows args rows' r):ConI e0 f ty sz rows args rows' r :=
 ⟨h.1,fun w S v0 vs h1 h2 h3 h4 h5 h6=>(h.2 w S v0 vs h1 h2 h3 h4 h5 h6).mono fun en w' ⟨v,k1,k2,k3⟩=>⟨v,k1,⟨k2.os,k2.tape,k2.output,fun d=>d.elim,k2.size,k2.block⟩,k3⟩⟩
theorem Zso (ts:List Tm) (hl:ts.length<=4000000):ConI e0 104 34 4 (Zab ts) [.one (.fn 105 [])] (Zab (ZbE ts)) []:=by
 have hrow:∀ a∈Zab ts,a=Zaa (unT a):=fun a ha=>by
  rw [Zbs] at ha;obtain ⟨t,_,rfl⟩:=Tbi.1 ha;rw [Zrr]
 exact ZAa (Zwh (P:=Tryz.prog) rfl ZA7 (k:=4) (ty:=34) Tryz.isAgg34 Tryz.sizeOf34 (by kernel_rfl) (g:=105) (enters_of Tryz.func105 (by kernel_rfl) rfl) (rows:=Zab ts) (rows':=Zab (ZbE ts)) (cf:=fun a b=>Zah (unT a) (unT b)) (by rw [Zaj];omega)
  (fun a ha b hb=>by
   have h:=ZjT (unT a) (unT b)
   rwa [<- hrow a ha,<- hrow b hb] at h)
  (fun a _=>by rw [Zb6];omega) (fun a _ b _ c _ h1 h2=>ZeL h1 h2) (fun a _ b _ c _ h1 h2=>by
   rw [Zcn (unT b) (unT a)] at h1;rw [Zcn (unT c) (unT b)] at h2;rw [Zcn (unT c) (unT a)];have:=Zdg (a:=unT c) (b:=unT b) (c:=unT a) om om;omega)
  (fun l hp hs=>by
   have hmem:∀ a∈l,a=Zaa (unT a):=fun a ha=>hrow a (hp.mem_iff.1 ha);have hp2:(l.map unT).Perm ts:=by have:=hp.map unT;rwa [ZzZ] at this
   have hup:Up (l.map unT):=by
    refine List.pairwise_iff_getElem.2 fun i j hi hj hij=>?_;simp only [List.getElem_map];simp only [Tay] at hi hj;have:=hs i j l[i] l[j] hij (Taa hi) (Taa hj);rw [Zcn (unT l[j]) (unT l[i])];omega
   have e:=Zi4 (ZdO ts) hup ((ZbP ts).trans hp2.symm);rw [e,Zbs,List.map_map]
   conv=>lhs;rw [<- List.map_id l]
   exact List.map_congr_left fun a ha=>hmem a ha))
theorem Zj7 {g:Sgn} {t:Tm} (h:ZcQ g t):t∈Zau t:=by
 obtain ⟨op,nm,so,args⟩:=t;have e1:=h.1;have e2:=h.2.2.2.2;simp only [Tm.op,Tm.args] at e1 e2;subst e1 e2;simp [Zau]
theorem Zj8 {t b:Tm} (hop:0<=t.op) (hb:b∈t.args):∀ v∈Zau b,v∈Zau t:=by
 obtain ⟨op,nm,so,args⟩:=t;simp only [Tm.op,Tm.args] at hop hb;have h:¬ op=-1:=om;intro v hv;simp only [Zau,if_neg h];clear hop h
 induction args with
 | nil=>cases hb
 | cons x xs ih =>
  simp only [ZaC,Tbh];rcases Tbg.1 hb with rfl | hb
  ·exact .inl hv
  ·exact .inr (ih hb)
theorem Zsp (t v:Tm):Con e0 72 [.agg (Zaa v),.one (.ptr (Zaa t))] [.one (.lit (.bool (decide (Zah v t=0))))]:=by
 refine gI 15 Tryz.func72 ?_;refine fB @tmz ?_;refine fC @tmz (ZeA v t) ?_;refine fR @tmz ?_;exact fT @tmz
theorem Zm6 {g:Sgn} {ws:List Wt} {vs:List Tm} (hI:InOk g ws) (hvs:vs.length<=1048577) (hnd:vs.Nodup):∀ (n:Nat) (t:Tm),sizeTm t < n->Zaw g t->(∀ v∈Zau t,v∈vs) ->
  Con e0 32 [.agg (Zaf g),.one (.sl (ws.map ZbI)),.agg (Zaa t),.one (.sl (Zab vs))] (wOut g ws vs t):=by
 intro n
 induction n with
 | zero=>exact fun _ h=>om
 | succ n ih =>
  intro t hn hf hin;have hrw:=Zk8 ws;rw [Zaf] at ih ⊢;have hz:=fun z h=>Zwe (vs:=vs) z h;have hmx:((vs.length:Int)<=(maxApp:Int))=True:=eq_true (by unfold maxApp;omega);rcases ZeN hf.node with ⟨hvar,hop⟩ | ⟨hop,o,d,hap⟩
  ·have q1:(t.op < 0)=True:=eq_true hop;rw [ZcH (Zrx hop),Zf0 hop];have hmem:=hin t (Zj7 hvar);obtain ⟨r,hr,c⟩:=ZpJ (ts:=vs) (f:=72) (caps:=[.ptr (Zaa t)]) (P:=fun v=>decide (Zah v t=0)) (by unfold big;omega) fun v _=>Zsp t v;rcases hr with ⟨k,v,rfl,hk,hp,hbef⟩ | ⟨rfl,hno⟩
   rotate_left
   ·have:=List.any_eq_false.1 hno t hmem;simp [Zb6] at this
   have hkl:=(Tad.1 hk).1;have hst:=ZxN hnd hk (by simpa using hp);have hfn:numR (fun v=>wF g ws v t) vs=numR (fun v=>if Zah v t=0 then 1 else 0) vs:=Zfx fun v _=>Zfd hop;rw [hfn];have hln:=Zcs (f:=fun _=>0) (vs:=vs);have hrn:=Zdk (f:=fun _=>0) (vs:=vs);have hgn:=ZcN (f:=fun _=>0) hk;refine gI 11921513725999993503324533626165526367 Tryz.func32 ?_;refine fG (aj4 @tmz @hmx @Tbw @q1) ?_;rw [hz _ rfl]
   refine gB ?_;refine fC @tmz (c) ?_;refine fR (aj6 @tmz @hln @hrn @hkl @hgn @hst) ?_;refine fG @tmz ?_;have F:=@tmz;refine gG ?_;exact gTz [9]
  ·have q1:(t.op < 0)=False:=eq_false om;have hat:=hap.at';obtain ⟨x,hx⟩:∃ x,ws[t.op.toNat]?=some x:=⟨_,Taa (by rw [hI.len];exact (Tad.1 hat).1)⟩;have hwo:=hI.all _ o x hat hx;have hlo:=hwo.lo;have hhi:=hwo.hi;have has:isAs g t.op=o.assoc:=by simp [isAs,hat]
   have hla:t.args.length<=7:=by
    cases hac:o.assoc with
    | true=>exact (hap.asc hac).2
    | false =>
     rw [hap.nas hac];have:=(hI.sgn.decls o (Tac hat)).ar d hap.fst;omega
   have hb0:pWn g ws t 0=bsW g ws t.op t.args.length:=rfl;have hF0:numR (fun _=>0) vs=numR (fun v=>pWf g ws v t 0) vs:=Zfx fun v _=>rfl;have hs0:=Zz8 (vs:=vs) hI hap;refine gI 11921513725999993503324533626165526367 Tryz.func32 ?_;refine fG (aj10 @tmz @hmx @Tbw @q1 @hop @hx @hrw @Zar @hat @Zae) ?_;rw [hz _ rfl,hF0];refine gM (ι:=Unit) [13] [] (fun u=>[(13,.d (.one (.lit (.int .i64 (pWn g ws t 0)))))]) (fun u=>[]) (fun u=>True) ?_ (fun u hu=>Exists.intro _ (ai (Wk.refl _) ?_))
   ·cases hac:o.assoc with
    | true =>
     have h2:=(hap.asc hac).1;have w1:IntKind.i64.wrap ((t.args.length:Int) - 1)=(t.args.length:Int) - 1:=IntWalk.i64_in _ om;have hm:=Int.mul_nonneg hlo (show 0<=(t.args.length:Int) - 1 by omega);have hm2:=Int.mul_le_mul hhi (show (t.args.length:Int) - 1<=7 by omega) om om;have w2:IntKind.i64.wrap (x.const * ((t.args.length:Int) - 1))=x.const * ((t.args.length:Int) - 1):=IntWalk.i64_in _ om;have e1:pWn g ws t 0=x.const * ((t.args.length:Int) - 1):=by rw [hb0,bsW,has,hac,hx];rfl
     rw [e1];have F:=aj8 @tmz @hop @hat @Zae @hac @w1 @w2 @Zar;refine gG ?_;exact ⟨(),trivial,gw,gw⟩
    | false =>
     have e1:pWn g ws t 0=x.const:=by rw [hb0,bsW,has,hac,hx];simp
     rw [e1];have F:=aj6 @tmz @hop @hat @Zae @hac @Zar;refine gG ?_;exact ⟨(),trivial,gw,gw⟩
   clear hu;refine fG @tmz ?_;have F:=@e0P;refine gL (ι:=Nat) [8,9,10,11,13,14,15,16,17,18,19,20,59,60,71,87,94,95,96] [11] (fun i=>[(59,A.d (.one (.lit (.int .i64 i)))),(13,.d (.one (.lit (.int .i64 (pWn g ws t i))))),(11,.buf 11)]) (fun i=>[(11,.buf none 3 1 (numR (fun v=>pWf g ws v t i) vs))]) (fun i=>i<=t.args.length∧ZiB g ws vs t i∧(∀ j u,j < i->t.args[j]?=some u->okW g ws vs u)) (fun i=>t.args.length - i) (0) (⟨Taj _,hs0,fun j u h=>absurd h om⟩) (fun i hi=>?_);clear F
   obtain ⟨hil,hsm,hsub⟩:=hi;by_cases hlt:i < t.args.length
   ·have q2:(i:Int) < (t.args.length:Int):=om;obtain ⟨b,hb⟩:∃ b,t.args[i]?=some b:=⟨_,Taa hlt⟩;have hbm:=Tac hb;have hw1:=Zaq (k:=i) om;have hsz:sizeTm b < sizeTm t:=by
     have h1:=ZaV hbm;have h2:sizeTm t=1+sizeTms t.args:=by obtain ⟨op,nm,so,args⟩:=t;rfl
     omega
    have cI:=ih b om ((ZaK.1 hf).2.1 b hbm) (fun v hvm=>hin v (Zj8 hop hbm v hvm));have hcf:o.assoc=false->∃ c,x.coefs[i]?=some c∧c=cfW g ws t.op i:=fun hac=>by
     have hl:=hwo.len d hap.fst;rw [<- hap.nas hac] at hl;refine ⟨_,Taa om,?_⟩;rw [cfW,has,hac,hx];simp [List.getD_eq_getElem?_getD,Taa (show i < x.coefs.length by omega)]
    have hct:o.assoc=true->cfW g ws t.op i=1:=fun hac=>by rw [cfW,has,hac];rfl
    refine fG (aj6 @tmz @q2 @hb @hop @hat @Zae) ?_;refine gM (ι:=Unit) [16] [] (fun u=>[(16,.d (.one (.lit (.int .i64 (cfW g ws t.op i)))))]) (fun u=>[]) (fun u=>True) ?_ (fun u hu=>Exists.intro _ (ai (Wk.refl _) ?_))
    ·cases hac:o.assoc with
     | true =>
      have e1:=hct hac;rw [e1];have F:=aj5 @tmz @hop @hat @Zae @hac;refine gG ?_;exact ⟨(),trivial,gw,gw⟩
     | false =>
      obtain ⟨c,hc,e1⟩:=hcf hac;rw [<- e1];have F:=aj8 @tmz @hop @hat @Zae @hac @hc @Zai @Zar;refine gG ?_;exact ⟨(),trivial,gw,gw⟩
    clear hu hcf hct;refine fB @tmz ?_;by_cases hok:okW g ws vs b;rotate_left
    ·rw [Zcr hok] at cI;have hno:=Zcr (fun h=>hok (Zry hI hap hf hb h));rw [hno];refine fC @tmz (cI) ?_;refine fR @tmz ?_;have F:=@tmz;refine gG ?_;exact gTz [9]
    rw [ZcH hok] at cI;obtain ⟨s1,s2,s3⟩:=ZhD hI hap hf hb hok;have hsm':=Zsm hI hap hf hb hok hsm;have e2:=Zhz (g:=g) (ws:=ws) hb;have b1:=hsm'.1;have w1:IntKind.i64.wrap (cfW g ws t.op i * wN g ws b)=cfW g ws t.op i * wN g ws b:=IntWalk.i64_in _ om;have w2:IntKind.i64.wrap (pWn g ws t i+cfW g ws t.op i * wN g ws b)=pWn g ws t (i+1):=by rw [<- e2];exact IntWalk.i64_in _ om
    refine fC @tmz (cI) ?_;refine fR @tmz ?_;refine fG (aj4 @tmz @w1 @w2 @Zcs) ?_;have F:=@ZoE;refine gL (ι:=Nat) [11,20,95,96] [11] (fun j=>[(95,A.d (.one (.lit (.int .i64 j)))),(11,.buf 11)]) (fun j=>[(11,.buf none 3 1 (mixR (fun v=>pWf g ws v t (i+1)) (fun v=>pWf g ws v t i) vs j))]) (fun j=>j<=vs.length) (fun j=>vs.length - j) (0) (Taj _) (fun j hj=>?_);clear F;by_cases hlj:j < vs.length
    ·have q3:(j:Int) < (vs.length:Int):=om;obtain ⟨v,hv⟩:∃ v,vs[j]?=some v:=⟨_,Taa hlj⟩;have hwj:=Zaq (k:=j) om;have hvm:=Tac hv;have m1:=Zj5 (f:=fun v=>pWf g ws v t (i+1)) (g:=fun v=>pWf g ws v t i) hv;have m2:=ZhE (f:=fun v=>pWf g ws v t (i+1)) (g:=fun v=>pWf g ws v t i) hv;have m3:=Zf1 (f:=fun v=>pWf g ws v t (i+1)) (g:=fun v=>pWf g ws v t i) (vs:=vs) j;have m4:=Zgq (f:=fun v=>pWf g ws v t (i+1)) (g:=fun v=>pWf g ws v t i) (vs:=vs) j
     have m5:=ZcN (f:=fun v=>wF g ws v b) hv;have m6:=Zdk (f:=fun v=>wF g ws v b) (vs:=vs);have b2:=hsm'.2 v hvm;have b3:=s3 v hvm;have e3:=ZhA (g:=g) (ws:=ws) (v:=v) hb;have w3:IntKind.i64.wrap (cfW g ws t.op i * wF g ws v b)=cfW g ws t.op i * wF g ws v b:=IntWalk.i64_in _ om;have w4:IntKind.i64.wrap (pWf g ws v t i+cfW g ws t.op i * wF g ws v b)=pWf g ws v t (i+1):=by rw [<- e3];exact IntWalk.i64_in _ om
     have F:=aj12 @tmz @q3 @m1 @m2 @m3 @m4 @m5 @m6 @w3 @w4 @hwj @hlj;refine gG ?_;exact ⟨j+1,hlj,gw,gw,om⟩
    obtain rfl:j=vs.length:=by omega
    have q3:¬ ((vs.length:Int) < (vs.length:Int)):=om;have hq:i+1<=t.args.length∧ZiB g ws vs t (i+1)∧(∀ j u,j < i+1->t.args[j]?=some u->okW g ws vs u):=⟨hlt,hsm',fun j u hj hu=>by
     by_cases hij:j=i
     ·subst hij;rw [hb] at hu;injection hu with hu;subst hu;exact hok
     ·exact hsub j u om hu⟩
    rw [ZoF];have F:=aj3 @tmz @q3 @hw1;refine gG ?_;exact ⟨i+1,hq,gw,gw,om⟩
   obtain rfl:i=t.args.length:=by omega
   have q2:¬ ((t.args.length:Int) < (t.args.length:Int)):=om;have hokt:=ZlW (g:=g) (ws:=ws) (vs:=vs) (t:=t) om;rw [<- ZiA om];have hFt:(fun v=>pWf g ws v t t.args.length)=fun v=>wF g ws v t:=funext fun v=>(ZgX om).symm;rw [hFt];by_cases hN:wN g ws t<=1000000000;rotate_left
   ·have q3:(1000000000 < wN g ws t)=True:=eq_true om;rw [Zcr fun h=>hN h.1];have F:=aj3 @tmz @q2 @q3;refine gG ?_;exact gTz [9]
   have q3:(1000000000 < wN g ws t)=False:=eq_false om;refine fG (aj4 @tmz @q2 @q3 @Zcs) ?_;have F:=@e0P;refine gL (ι:=Nat) [8,9,10,22,118,119,123] [] (fun j=>[(118,A.d (.one (.lit (.int .i64 j))))]) (fun j=>[]) (fun j=>j<=vs.length∧∀ (i:Nat) v,i < j->vs[i]?=some v->wF g ws v t<=1000000000) (fun j=>vs.length - j) (0) (⟨Taj _,fun i v h=>absurd h om⟩) (fun j hj=>?_);clear F;obtain ⟨hjl,hall⟩:=hj;by_cases hlj:j < vs.length
   ·have q4:(j:Int) < (vs.length:Int):=om;obtain ⟨v,hv⟩:∃ v,vs[j]?=some v:=⟨_,Taa hlj⟩;have hwj:=Zaq (k:=j) om;have hvm:=Tac hv;have m1:=ZcN (f:=fun v=>wF g ws v t) hv;have m2:=Zcs (f:=fun v=>wF g ws v t) (vs:=vs);have m3:=Zdk (f:=fun v=>wF g ws v t) (vs:=vs);by_cases hF:wF g ws v t<=1000000000;rotate_left
    ·have q5:(1000000000 < wF g ws v t)=True:=eq_true om;rw [Zcr fun h=>hF (h.2 v hvm)];have F:=aj7 @tmz @q4 @m1 @m2 @m3 @q5 @hlj;refine gG ?_;exact gTz [9]
    have q5:(1000000000 < wF g ws v t)=False:=eq_false om;have hq:j+1<=vs.length∧∀ (i:Nat) v,i < j+1->vs[i]?=some v->wF g ws v t<=1000000000:=⟨hlj,fun i u hi hu=>by
     by_cases hij:i=j
     ·subst hij;rw [hv] at hu;injection hu with hu;subst hu;exact hF
     ·exact hall i u om hu⟩
    have F:=aj8 @tmz @q4 @m1 @m2 @m3 @q5 @hwj @hlj;refine gG ?_;exact ⟨j+1,hq,gw,gw,om⟩
   obtain rfl:j=vs.length:=by omega
   have q4:¬ ((vs.length:Int) < (vs.length:Int)):=om;rw [ZcH ⟨hN,fun v hv=>by obtain ⟨i,hi⟩:=Tbk hv;exact hall i v (Tad.1 hi).1 hi⟩];refine fG (ai @tmz @q4) ?_;have F:=@tmz;refine gG ?_;exact gTz [9]
theorem Zfk {g:Sgn} {ws:List Wt} {vs:List Tm} (hI:InOk g ws) (hvs:vs.length<=1048577) (hvok:Zax vs):∀ (n:Nat) (t:Tm),sizeTm t < n->okTm t->Zaw g t ->
  Con e0 41 [.one (.sl (ws.map ZbI)),.agg (Zaa t),.one (.sl (Zab vs))] (wOut g ws vs t):=by
 intro n
 induction n with
 | zero=>exact fun _ h=>om
 | succ n ih =>
  intro t hn hok hf;have hrw:=Zk8 ws;have hz:=fun z h=>Zwe (vs:=vs) z h;have hmx:((vs.length:Int)<=(maxApp:Int))=True:=eq_true (by unfold maxApp;omega);refine gI 53169124902310938727441965340034596823 Tryz.func41 ?_;rcases ZeN hf.node with ⟨hvar,hop⟩ | ⟨hop,o,d,hap⟩
  ·have q1:(t.op=-1)=True:=eq_true hvar.1;rw [ZcH (Zrx hop),Zf0 hop];have hfn:numR (fun v=>wF g ws v t) vs=numR (fun v=>if Zah v t=0 then 1 else 0) vs:=Zfx fun v _=>Zfd hop;rw [hfn];refine fG (aj4 @tmz @hmx @Tbw @q1) ?_;rw [hz _ rfl];have F:=@ZoE;refine gL (ι:=Nat) [9,10,28,36] [9] (fun j=>[(10,A.d (.one (.lit (.int .i64 j)))),(9,.buf 9)]) (fun j=>[(9,.buf none 3 1 (mixR (fun v=>if Zah v t=0 then 1 else 0) (fun _=>0) vs j))]) (fun j=>j<=vs.length) (fun j=>vs.length - j) (0) (Taj _) (fun j hj=>?_);clear F
   by_cases hlj:j < vs.length
   ·have q3:(j:Int) < (vs.length:Int):=om;obtain ⟨v,hv⟩:∃ v,vs[j]?=some v:=⟨_,Taa hlj⟩;have hwj:=Zaq (k:=j) om;have hvm:=Tac hv;have cS:=Zdo (hvok.mem hvm) hok;have m1:=Zj5 (f:=fun v=>if Zah v t=0 then (1:Int) else 0) (g:=fun _=>0) hv;have m2:=ZhE (f:=fun v=>if Zah v t=0 then (1:Int) else 0) (g:=fun _=>0) hv;have m3:=Zf1 (f:=fun v=>if Zah v t=0 then (1:Int) else 0) (g:=fun _=>0) (vs:=vs) j;have m4:=Zgq (f:=fun v=>if Zah v t=0 then (1:Int) else 0) (g:=fun _=>0) (vs:=vs) j
    refine fB (aj3 @tmz @q3 @hv) ?_;refine fC (ai @tmz @hv) (cS) ?_;by_cases he:Zah v t=0
    ·have q4:decide (Zah v t=0)=true:=decide_eq_true he;simp only [if_pos he] at m2;refine fR (ai @tmz @q4) ?_;have F:=aj7 @tmz @m1 @m2 @m3 @m4 @hwj @hlj;refine gG ?_;exact ⟨j+1,hlj,gw,gw,om⟩
    ·have q4:decide (Zah v t=0)=false:=decide_eq_false he;have m5:=Zwd (f:=fun v=>if Zah v t=0 then (1:Int) else 0) (g:=fun _=>0) hv (if_neg he);rw [m5];refine fR (ai @tmz @q4) ?_;have F:=ai @tmz @hwj;refine gG ?_;exact ⟨j+1,hlj,gw,gw,om⟩
   obtain rfl:j=vs.length:=by omega
   have q3:¬ ((vs.length:Int) < (vs.length:Int)):=om;rw [ZoF];refine fG (ai @tmz @q3) ?_;have F:=@tmz;refine gG ?_;exact gTz [7]
  ·have q1:(t.op=-1)=False:=eq_false om;have hat:=hap.at';obtain ⟨x,hx⟩:∃ x,ws[t.op.toNat]?=some x:=⟨_,Taa (by rw [hI.len];exact (Tad.1 hat).1)⟩;have hwo:=hI.all _ o x hat hx;have hlo:=hwo.lo;have hhi:=hwo.hi;have has:isAs g t.op=o.assoc:=by simp [isAs,hat]
   have hdl:=hwo.len d hap.fst;have hla:t.args.length<=7:=by
    cases hac:o.assoc with
    | true=>exact (hap.asc hac).2
    | false =>
     rw [hap.nas hac];have:=(hI.sgn.decls o (Tac hat)).ar d hap.fst;omega
   have hb0:pWn g ws t 0=bsW g ws t.op t.args.length:=rfl;have hF0:numR (fun _=>0) vs=numR (fun v=>pWf g ws v t 0) vs:=Zfx fun v _=>rfl;obtain ⟨hcf,hbs0,hbs1⟩:=Zgp hI hap;have hcase:(x.coefs.length < t.args.length∧pWn g ws t 0=x.const * ((t.args.length:Int) - 1)∧∀ i,i < t.args.length->cfW g ws t.op i=1)∨(t.args.length=x.coefs.length∧pWn g ws t 0=x.const∧∀ i,i < t.args.length->∃ c,x.coefs[i]?=some c∧cfW g ws t.op i=c):=by
    cases hac:o.assoc with
    | true =>
     have h2:=(hI.sgn.axs o (Tac hat)).two (.inl hac) d hap.fst;have h3:=(hap.asc hac).1;by_cases h4:t.args.length=2
     ·refine .inr ⟨om,by rw [hb0,bsW,has,hac,hx,h4];simp,fun i hi=>?_⟩;refine ⟨_,Taa om,?_⟩;rw [cfW,has,hac];simp [hwo.one (.inl hac) _ (List.getElem_mem (show i < x.coefs.length by omega))]
     ·exact .inl ⟨om,by rw [hb0,bsW,has,hac,hx];rfl,fun i _=>by rw [cfW,has,hac];rfl⟩
    | false =>
     have hl:=hap.nas hac;refine .inr ⟨om,by rw [hb0,bsW,has,hac,hx];simp,fun i hi=>⟨_,Taa om,?_⟩⟩;rw [cfW,has,hac,hx];simp [List.getD_eq_getElem?_getD,Taa (show i < x.coefs.length by omega)]
   refine fG (aj8 @tmz @hmx @Tbw @q1 @hop @hx @hrw @Zar) ?_;rw [hz _ rfl,hF0];refine gM (ι:=Unit) [12,54] [] (fun u=>[(12,.d (.one (.lit (.int .i64 (pWn g ws t 0)))))]) (fun u=>[]) (fun u=>True) ?_ (fun u hu=>Exists.intro _ (ai (Wk.refl _) ?_))
   ·rcases hcase with ⟨h1,e1,_⟩ | ⟨h1,e1,_⟩
    ·have w1:IntKind.i64.wrap ((t.args.length:Int) - 1)=(t.args.length:Int) - 1:=IntWalk.i64_in _ om;have w2:IntKind.i64.wrap (x.const * ((t.args.length:Int) - 1))=x.const * ((t.args.length:Int) - 1):=IntWalk.i64_in _ (by rw [<- e1,hb0];omega);have q2:decide ((x.coefs.length:Int) < (t.args.length:Int))=true:=decide_eq_true om;rw [e1];have F:=aj5 @tmz @q2 @w1 @w2 @Zar;refine gG ?_;exact ⟨(),trivial,gw,gw⟩
    ·have q2:decide ((x.coefs.length:Int) < (t.args.length:Int))=false:=decide_eq_false om;rw [e1];have F:=aj3 @tmz @q2 @Zar;refine gG ?_;exact ⟨(),trivial,gw,gw⟩
   clear hu;have hokt:=ZlW (g:=g) (ws:=ws) (vs:=vs) (t:=t) om;have hp0:ZhC g ws vs t 0:=⟨by rw [hb0];omega,fun v _=>by simp [pWf,sumW]⟩;have hpn0:∀ i,i<=t.args.length->0<=pWn g ws t i∧∀ v,0<=pWf g ws v t i:=fun i hi=>by
    have h:=Zow (g:=g) (ws:=ws) hI hap hf (Taj i) hi;exact ⟨Int.le_trans (by rw [hb0];exact hbs0) h.1,fun v=>Int.le_trans (by simp [pWf,sumW]) (h.2 v)⟩
   refine fG @tmz ?_;have F:=@e0P;refine gL (ι:=Nat) [6,7,8,9,12,13,14,15,16,17,18,65,81,88,102,123,125] [9] (fun i=>[(13,A.d (.one (.lit (.int .i64 i)))),(12,.d (.one (.lit (.int .i64 (pWn g ws t i))))),(9,.buf 9)]) (fun i=>[(9,.buf none 3 1 (numR (fun v=>pWf g ws v t i) vs))]) (fun i=>i<=t.args.length∧ZhC g ws vs t i) (fun i=>t.args.length - i) (0) (⟨Taj _,hp0⟩) (fun i hi=>?_);clear F;obtain ⟨hil,hpi⟩:=hi
   by_cases hlt:i < t.args.length
   ·have q2:(i:Int) < (t.args.length:Int):=om;obtain ⟨b,hb⟩:∃ b,t.args[i]?=some b:=⟨_,Taa hlt⟩;have hbm:=Tac hb;have hw1:=Zaq (k:=i) om;have hsz:sizeTm b < sizeTm t:=by
     have h1:=ZaV hbm;have h2:sizeTm t=1+sizeTms t.args:=by obtain ⟨op,nm,so,args⟩:=t;rfl
     omega
    have cI:=ih b om ((Zei.1 hok).2.2.2.mem hbm) ((ZaK.1 hf).2.1 b hbm);refine fB (ai @tmz @q2) ?_;by_cases hokb:okW g ws vs b;rotate_left
    ·rw [Zcr hokb] at cI;have hno:=Zcr (fun h=>hokb (Zry hI hap hf hb h));rw [hno];refine fC (ai @tmz @hb) (cI) ?_;refine fR @tmz ?_;have F:=@tmz;refine gG ?_;exact gTz [7]
    rw [ZcH hokb] at cI;obtain ⟨s1,s2,s3⟩:=ZhD hI hap hf hb hokb;have e2:=Zhz (g:=g) (ws:=ws) hb;have b1:=hpi.1;have b0:=(hpn0 i hil).1;have w1:IntKind.i64.wrap (cfW g ws t.op i * wN g ws b)=cfW g ws t.op i * wN g ws b:=IntWalk.i64_in _ om;have w2:IntKind.i64.wrap (pWn g ws t i+cfW g ws t.op i * wN g ws b)=pWn g ws t (i+1):=by rw [<- e2];exact IntWalk.i64_in _ om
    refine fC (ai @tmz @hb) (cI) ?_;refine fR @tmz ?_;refine fG (aj4 @tmz @w1 @w2 @Zar) ?_;refine gM (ι:=Unit) [17,88] [] (fun u=>[(17,.d (.one (.lit (.int .i64 (cfW g ws t.op i)))))]) (fun u=>[]) (fun u=>True) ?_ (fun u hu=>Exists.intro _ (ai (Wk.refl _) ?_))
    ·rcases hcase with ⟨h1,_,e1⟩ | ⟨h1,_,e1⟩
     ·have e1:=e1 i hlt;have q3:decide ((t.args.length:Int)=(x.coefs.length:Int))=false:=decide_eq_false om;rw [e1];have F:=aj3 @tmz @q3 @Zar;refine gG ?_;exact ⟨(),trivial,gw,gw⟩
     ·obtain ⟨c,hc,e1⟩:=e1 i hlt;have q3:decide ((t.args.length:Int)=(x.coefs.length:Int))=true:=decide_eq_true om;rw [e1];have F:=aj5 @tmz @q3 @hc @Zai @Zar;refine gG ?_;exact ⟨(),trivial,gw,gw⟩
    clear hu;have hpart:pWn g ws t (i+1)<=1000000000->(∀ (j:Nat) v,vs[j]?=some v->pWf g ws v t (i+1)<=1000000000)->i+1<=t.args.length∧ZhC g ws vs t (i+1):=fun h1 h2=>⟨hlt,h1,fun v hv=>by obtain ⟨j,hj⟩:=Tbk hv;exact h2 j v hj⟩;have hbad:¬ ZhC g ws vs t (i+1)->wOut g ws vs t=[.one (.lit (.int .i64 0)),.one (.sl []),.one (.lit (.bool false))]:=fun h=>Zcr fun h2=>h (Zox hI hap hf hlt h2);refine fG (aj4 @tmz @w1 @w2 @Zcs) ?_
    have F:=@ZoE;refine gL (ι:=Nat) [6,7,8,9,18,102,123] [9] (fun j=>[(18,A.d (.one (.lit (.int .i64 j)))),(9,.buf 9)]) (fun j=>[(9,.buf none 3 1 (mixR (fun v=>pWf g ws v t (i+1)) (fun v=>pWf g ws v t i) vs j))]) (fun j=>j<=vs.length∧∀ (k:Nat) v,k < j->vs[k]?=some v->pWf g ws v t (i+1)<=1000000000) (fun j=>vs.length - j) (0) (⟨Taj _,fun k v h=>absurd h om⟩) (fun j hj=>?_);clear F;obtain ⟨hjl,hall⟩:=hj
    by_cases hlj:j < vs.length
    ·have q3:(j:Int) < (vs.length:Int):=om;obtain ⟨v,hv⟩:∃ v,vs[j]?=some v:=⟨_,Taa hlj⟩;have hwj:=Zaq (k:=j) om;have hvm:=Tac hv;have m1:=Zj5 (f:=fun v=>pWf g ws v t (i+1)) (g:=fun v=>pWf g ws v t i) hv;have m2:=ZhE (f:=fun v=>pWf g ws v t (i+1)) (g:=fun v=>pWf g ws v t i) hv;have m3:=Zf1 (f:=fun v=>pWf g ws v t (i+1)) (g:=fun v=>pWf g ws v t i) (vs:=vs) j;have m4:=Zgq (f:=fun v=>pWf g ws v t (i+1)) (g:=fun v=>pWf g ws v t i) (vs:=vs) j
     have m1':=Zwc (f:=fun v=>pWf g ws v t (i+1)) (g:=fun v=>pWf g ws v t i) hv;have m3':=Zf1 (f:=fun v=>pWf g ws v t (i+1)) (g:=fun v=>pWf g ws v t i) (vs:=vs) (j+1);have m4':=Zgq (f:=fun v=>pWf g ws v t (i+1)) (g:=fun v=>pWf g ws v t i) (vs:=vs) (j+1);have m5:=ZcN (f:=fun v=>wF g ws v b) hv;have m6:=Zdk (f:=fun v=>wF g ws v b) (vs:=vs);have b2:=hpi.2 v hvm;have b20:=(hpn0 i hil).2 v;have b3:=s3 v hvm
     have e3:=ZhA (g:=g) (ws:=ws) (v:=v) hb;have w3:IntKind.i64.wrap (cfW g ws t.op i * wF g ws v b)=cfW g ws t.op i * wF g ws v b:=IntWalk.i64_in _ om;have w4:IntKind.i64.wrap (pWf g ws v t i+cfW g ws t.op i * wF g ws v b)=pWf g ws v t (i+1):=by rw [<- e3];exact IntWalk.i64_in _ om
     by_cases hF:pWf g ws v t (i+1)<=1000000000;rotate_left
     ·have q5:(1000000000 < pWf g ws v t (i+1))=True:=eq_true om;rw [hbad fun h=>hF (h.2 v hvm)];have F:=aj15 @tmz @q3 @m1 @m2 @m3 @m4 @m1' @m3' @m4' @m5 @m6 @w3 @w4 @hlj @q5;refine gG ?_;exact gTz [7]
     have q5:(1000000000 < pWf g ws v t (i+1))=False:=eq_false om;have hq:j+1<=vs.length∧∀ (k:Nat) v,k < j+1->vs[k]?=some v->pWf g ws v t (i+1)<=1000000000:=⟨hlj,fun k u hk hu=>by
      by_cases hkj:k=j
      ·subst hkj;rw [hv] at hu;injection hu with hu;subst hu;exact hF
      ·exact hall k u om hu⟩
     have F:=aj16 @tmz @q3 @m1 @m2 @m3 @m4 @m1' @m3' @m4' @m5 @m6 @w3 @w4 @hwj @hlj @q5;refine gG ?_;exact ⟨j+1,hq,gw,gw,om⟩
    obtain rfl:j=vs.length:=by omega
    have q3:¬ ((vs.length:Int) < (vs.length:Int)):=om;rw [ZoF];by_cases hN:pWn g ws t (i+1)<=1000000000;rotate_left
    ·have q5:(1000000000 < pWn g ws t (i+1))=True:=eq_true om;rw [hbad fun h=>hN h.1];have F:=aj4 @tmz @Zcs @q3 @q5;refine gG ?_;exact gTz [7]
    have q5:(1000000000 < pWn g ws t (i+1))=False:=eq_false om;have hq:=hpart hN fun j v hv=>hall j v (Tad.1 hv).1 hv;have F:=aj5 @tmz @Zcs @q3 @q5 @hw1;refine gG ?_;exact ⟨i+1,hq,gw,gw,om⟩
   obtain rfl:i=t.args.length:=by omega
   have q2:¬ ((t.args.length:Int) < (t.args.length:Int)):=om;rw [<- ZiA om];have hFt:(fun v=>pWf g ws v t t.args.length)=fun v=>wF g ws v t:=funext fun v=>(ZgX om).symm;rw [hFt,ZcH (hokt.2 hpi)];refine fG (ai @tmz @q2) ?_;have F:=@tmz;refine gG ?_;exact gTz [7]
def RCut (a:Option Addr) (cap ty sz:Nat) (rows:List (List C)) (r:List D) (pm:List Bk):Prop:=r=[.one (.lit (.slice a rows.length cap))]∧pm=[.buf (some (a,cap)) ty sz rows]
theorem Zwj {m:List (Nat × Bk)} {a:Option Addr} {n cap:Nat}:lenA m (some true) [nrm m (.d (.one (.lit (.slice a n cap))))]=some (.d (.one (.lit (.int .i64 (n:Int))))):=by
 show lenA m (some true) [ZiP m a n cap (bufK a n cap m)]=_
 cases bufK a n cap m with
 | none=>rfl
 | some k =>
  show lenA m (some true) [nrmB a n cap k (gm m k)]=_
  cases hg:gm m k with
  | none=>rfl
  | some bk =>
   cases bk with
   | var o cs=>rfl
   | set E G=>rfl
   | buf o ty sz rows =>
    cases o with
    | none=>rfl
    | some q =>
     obtain ⟨a',cap'⟩:=q;simp only [nrmB];split
     ·rename_i h;show lenS (bufA (gm m k))=_;rw [hg,h.2.1];rfl
     ·rfl
theorem Zwk {m:List (Nat × Bk)} {a:Option Addr} {l h cap sz:Nat}:lenA m (some true) [nrm m (.d (.one (.lit (sliced a l h cap sz))))]=some (.d (.one (.lit (.int .i64 ((h - l:Nat):Int))))):=Zwj
theorem Zsq (l:List Tm) (k:Nat) (t:Tm):(Zab l).set k (Zaa t)=Zab (l.set k t):=by rw [Zbs,Zbs,List.map_set]
theorem Zwl {α:Type} {l:List α} {i:Nat} {x:α} (h:i < l.length):(l.set i x).take (i+1)=l.take i++[x]:=by
 rw [List.take_add_one,List.take_set_of_le (Tai _)];simp [h]
theorem ZrA {l l':List Tm} {m:Nat} (h:l.drop m=l'.drop m) (i:Nat):l[m+i]?=l'[m+i]?:=by
 rw [<- Tbb,<- Tbb,h]
theorem ZxP {ts:List Tm} (h:ts.length < 2):ddT none ts=ts:=by
 match ts,h with
 | [],_=>rfl
 | [x],_=>rfl
theorem ZoI (ts:List Tm) (hl:ts.length<=4000000) (a:Option Addr) (cap:Nat):ConP e0 106 [.one (.lit (.slice a ts.length cap)),.one (.fn 69 [])] [.buf (some (a,cap)) 34 4 (Zab ts)] (RCut a cap 34 4 (Zab (ddT none ts))):=by
 refine gIP (ts:=[.slot 4]) [1000] 562984581629171 Tryz.func106 ?_;by_cases h2:ts.length < 2
 ·have q1:=lT ts.length 2;refine fG (ai @q1 @tmz) ?_;rw [ZxP h2];exact (have F:=Zaj;gTP (R:=RCut a cap 34 4 (Zab ts)) [1000] ⟨by rw [Zaj],rfl⟩)
 have q1:=lF ts.length 2;refine fG (ai @q1 @tmz) ?_;clear q1;obtain ⟨t0,ht0⟩:∃ t,ts[0]?=some t:=⟨_,Taa om⟩;have F:=@tmz;refine gL (ι:=Nat) [4,5,6,7,15,28,35,49] [] (fun x=>[(5,.d (.one (.lit (.int .i64 (x:Int)))))]) (fun x=>[]) (fun x=>1<=x∧x<=ts.length∧ddT none (ts.take x)=ts.take x) (fun x=>ts.length - x) (1) (⟨Tai _,om,by rw [ZzY ht0];cases ts with | nil=>simp at ht0 | cons y ys=>simp at ht0;simp [ht0]⟩) (fun x hx=>?_);clear F
 obtain ⟨hx1,hxn,hxd⟩:=hx;by_cases hlt:x < ts.length;rotate_left
 ·obtain rfl:x=ts.length:=by omega
  have q1:=lF ts.length ts.length;rw [Tap] at hxd;refine fG (ai @q1 @tmz) ?_;rw [hxd];exact (have F:=Zaj;gTP (R:=RCut a cap 34 4 (Zab ts)) [1000] ⟨by rw [Zaj],rfl⟩)
 obtain ⟨u,hu⟩:∃ t,ts[x]?=some t:=⟨_,Taa hlt⟩;obtain ⟨z,rfl⟩:∃ z,x=z+1:=⟨x - 1,om⟩;obtain ⟨v,hv⟩:∃ t,ts[z]?=some t:=⟨_,Taa om⟩;have q1:=lT (z+1:Nat) ts.length;have w1:IntKind.i64.wrap (((z+1:Nat):Int) - 1)=(z:Int):=Za2 om om om;have w2:IntKind.i64.wrap (((z+1:Nat):Int)+1)=((z+1+1:Nat):Int):=Za2 om om om;have hz1:z+1 < ts.length:=hlt;have hz0:z < ts.length:=om;have hst:=Zog hu hv;generalize hxx:z+1=x at *
 rw [show z+2=x+1 by omega] at hst;refine fB (ai @q1 @tmz) ?_;refine fC (aj8 @q1 @tmz @hu @hv @w1 @hz1 @hz0 @Zaj) (ZeA u v) ?_;refine fR (ai @q1 @tmz) ?_;by_cases h0:Zah u v=0;rotate_left
 ·have q3:decide (Zah u v=0)=false:=decide_eq_false h0;rw [if_neg h0,hxd] at hst;have F:=ai @q3 @w2;refine gG ?_;exact ⟨x+1,⟨om,hlt,by rw [hst];simp [List.take_add_one,hu]⟩,gw,gw,om⟩
 have q3:decide (Zah u v=0)=true:=decide_eq_true h0;rw [if_pos h0,hxd] at hst;refine fN 7 (ai @q3 @tmz) ?_;refine gB ?_;have F:=ai @q3 @tmz;refine gP 2 ?_;clear F;have F:=Zaj;refine gSub 1000 x ts.length ⟨om,by rw [Zaj];exact Tai _⟩ ?_;clear F;refine fR @tmz ?_;refine fG @tmz ?_;have F:=@tmz;refine gL (ι:=Nat × Nat × List Tm) [5,7,35,49] [1000] (fun y=>[(7,.d (.one (.lit (.int .i64 (y.1:Int))))),(5,.d (.one (.lit (.int .i64 (y.2.1:Int)))))]) (fun y=>[(1000,.buf (some (a,cap)) 34 4 (Zab y.2.2))]) (fun y=>1<=y.1∧x+y.1<=ts.length∧y.2.1+1<=x+y.1∧y.2.2.length=ts.length∧y.2.2.take y.2.1=ddT none (ts.take (x+y.1))∧y.2.2.drop (x+y.1 - 1)=ts.drop (x+y.1 - 1)) (fun y=>ts.length - y.1) ((1,x,ts)) (⟨Tai _,hlt,Tai _,rfl,hst.symm,rfl⟩) (fun y hy=>?_);clear F
 obtain ⟨j,k,us⟩:=y;obtain ⟨h1,h2',h3,h4,h5,h6⟩:=hy;simp only at h1 h2' h3 h4 h5 h6;dsimp only;have hn4:ts.length=us.length:=h4.symm;by_cases hj:j < ts.length - x
 ·obtain ⟨i,rfl⟩:∃ i,j=i+1:=⟨j - 1,om⟩;obtain ⟨u1,hu1⟩:∃ t,ts[x+i+1]?=some t:=⟨_,Taa om⟩;obtain ⟨v1,hv1⟩:∃ t,ts[x+i]?=some t:=⟨_,Taa om⟩;have e1:us[x+(i+1)]?=some u1:=by
   rw [<- hu1,show x+(i+1) - 1=x+i by omega] at *;exact ZrA h6 1
  have e2:us[x+i]?=some v1:=by
   rw [<- hv1,show x+(i+1) - 1=x+i by omega] at *;exact ZrA h6 0
  have q4:=lT (i+1:Nat) (ts.length - x:Nat);have w3:IntKind.i64.wrap (((i+1:Nat):Int) - 1)=(i:Int):=Za2 om om om;have w4:IntKind.i64.wrap (((i+1:Nat):Int)+1)=((i+1+1:Nat):Int):=Za2 om om om;have hst2:=Zog hu1 hv1;rw [show x+i+2=x+(i+1+1) by omega,show x+i+1=x+(i+1) by omega,<- h5] at hst2;refine fN 11 (aj3 @q4 @Zwk @tmz) ?_;refine gB ?_;have F:=ai @q4 @tmz;refine gP 3 ?_;clear F;have F:=Zaj;refine Zv6 (l:=x) (h:=ts.length) (rows:=Zab us) 1000 (i+1) ⟨om,by rw [Zaj];omega⟩ ?_
  clear F;have F:=aj3 @tmz @e1 @w3;refine gP 4 ?_;clear F;have F:=Zaj;refine Zv6 (l:=x) (h:=ts.length) (rows:=Zab us) 1000 i ⟨om,by rw [Zaj];omega⟩ ?_;clear F;refine fC (ai @tmz @e2) (ZeA u1 v1) ?_;refine fR @tmz ?_;by_cases h7:Zah u1 v1=0
  ·have q5:decide (Zah u1 v1=0)=true:=decide_eq_true h7;rw [if_pos h7] at hst2;have F:=ai @q5 @w4;refine gG ?_;exact ⟨(i+1+1,k,us),⟨by dsimp only;omega,by dsimp only;omega,by dsimp only;omega,h4,hst2.symm,by rw [show x+(i+1+1) - 1=x+(i+1) - 1+1 by omega,<- List.drop_drop,<- List.drop_drop,h6]⟩,gw,gw,om⟩
  ·have q5:decide (Zah u1 v1=0)=false:=decide_eq_false h7;rw [if_neg h7] at hst2;obtain ⟨ok,hok⟩:∃ t,us[k]?=some t:=⟨_,Taa om⟩;have w5:IntKind.i64.wrap ((k:Int)+1)=((k+1:Nat):Int):=Za2 om om om;have hkl:k < us.length:=om;refine fN 12 (ai @q5 @tmz) ?_;refine gB ?_;have F:=ai @q5 @tmz;refine gP 4 ?_;clear F;have F:=Zaj;refine ZA6 (l:=x) (h:=ts.length) (rows:=Zab us) 1000 (i+1) ⟨om,by rw [Zaj];omega⟩ ?_
   clear F;refine fR (aj6 @tmz @e1 @hok @hn4 @hkl @Zsq) ?_;have F:=aj3 @w4 @w5 @hn4;refine gG ?_;exact ⟨(i+1+1,k+1,us.set k u1),⟨by dsimp only;omega,by dsimp only;omega,by dsimp only;omega,by rw [Taz];exact h4,by rw [hst2,Zwl hkl],by rw [List.drop_set_of_lt om,show x+(i+1+1) - 1=x+(i+1) - 1+1 by omega,<- List.drop_drop,<- List.drop_drop,h6]⟩,gw,gw,om⟩
 ·have q4:=lF j (ts.length - x:Nat);have hjn:x+j=ts.length:=om;rw [hjn,Tap] at h5;have hkl:k < us.length:=om;refine fN 14 (aj3 @q4 @Zwk @tmz) ?_;refine gB ?_;have F:=ai @q4 @tmz;refine gP 2 ?_;clear F;have F:=ai Zaj hn4;refine gSub 1000 k us.length ⟨om,by rw [Zaj];exact Tai _⟩ ?_;rw [show us.length=(Zab us).length by rw [Zaj]];refine ZAK 1000 (by rw [Zaj];exact hkl) ?_;clear F;have hRl:((Zab us).take k++List.replicate ((Zab us).length - k) [C.lit (Value.int IntKind.i64 0),C.lit (Value.string ByteArray.empty),C.lit (Value.int IntKind.i64 0),C.sl []]).length=us.length:=by simp [Zaj];omega
  have hRt:((Zab us).take k++List.replicate ((Zab us).length - k) [C.lit (Value.int IntKind.i64 0),C.lit (Value.string ByteArray.empty),C.lit (Value.int IntKind.i64 0),C.sl []]).take k=Zab (ddT none ts):=by
   rw [List.take_append_of_le_length (by simp [Zaj];omega),List.take_take,Nat.min_self,ZdA,h5]
  generalize (Zab us).take k++List.replicate ((Zab us).length - k) [C.lit (Value.int IntKind.i64 0),C.lit (Value.string ByteArray.empty),C.lit (Value.int IntKind.i64 0),C.sl []]=R at hRl hRt ⊢;refine fR @tmz ?_;refine fN 15 (ai @q4 @tmz) ?_;refine gB ?_;have F:=ai @q4 @tmz;refine gP 2 ?_;clear F;have F:=ai hRl hn4;refine gSub 1000 0 k ⟨om,by rw [hRl];omega⟩ ?_;clear F;rw [ZjH];refine fR @tmz ?_;refine fG @tmz ?_
  refine pE [1000] [1000] (Zv5 k (by rw [hRl];omega)) ?_;rw [hRt];have hk2:k=(Zab (ddT none ts)).length:=by rw [Zaj,<- h5,Taw];omega
  exact (have F:=Zaj;gTP (R:=RCut a cap 34 4 (Zab (ddT none ts))) [1000] ⟨by rw [<- hk2],rfl⟩)
theorem ZgI (ts:List Tm):(ZbE ts).length=ts.length:=(ZbP ts).length_eq
theorem ZAb (ts:List Tm):ddT none (ZbE ts)=Zc0 ts:=by rw [ZxB (ZdO ts),ZpE (ZbP ts)]
theorem Zm7 (ts:List Tm) (hl:ts.length<=4000000) (a:Option Addr) (cap:Nat):ConP e0 66 [.one (.lit (.slice a ts.length cap))] [.buf (some (a,cap)) 34 4 (Zab ts)] (RCut a cap 34 4 (Zab (Zc0 ts))):=by
 have hc:=ZoI (ZbE ts) (by rw [ZgI];exact hl) a cap;rw [ZgI,ZAb] at hc;refine gIP (ts:=[.slot 2]) [1000] 5 Tryz.func66 ?_;refine fB @tmz ?_;have F:=@tmz;refine gCI (Zso ts hl) (by rw [Zaj,Zaj,ZgI]) ?_;clear F;refine fR @tmz ?_;refine fB @tmz ?_;have F:=@tmz;refine gCP [1000] [1000] (hc) ?_;clear F;rintro r pm ⟨rfl,rfl⟩;simp only [setA,retA,zipM,Taf,Tah];refine fR @tmz ?_;refine fG @tmz ?_;exact (have F:=Zaj;gTP (R:=RCut a cap 34 4 (Zab (Zc0 ts))) [1000] ⟨rfl,rfl⟩)
theorem Zsr {t x:Tm} {ts:List Tm} {i:Nat} (hx:ts[i]?=some x) (h:Za4 t ts=ts.take i++Za4 t (ts.drop i)) (hc:Zah x t < 0):Za4 t ts=ts.take (i+1)++Za4 t (ts.drop (i+1)):=by
 obtain ⟨hl,e⟩:=Tad.1 hx;rw [h,List.drop_eq_getElem_cons hl,e,Za4,if_pos hc];simp [List.take_add_one,hx]
theorem Zss {t x:Tm} {ts:List Tm} {i:Nat} (hx:ts[i]?=some x) (h:Za4 t ts=ts.take i++Za4 t (ts.drop i)) (hc:Zah x t=0):Za4 t ts=ts:=by
 obtain ⟨hl,e⟩:=Tad.1 hx;rw [h,List.drop_eq_getElem_cons hl,e,Za4,if_neg om,if_pos hc,<- e,<- List.drop_eq_getElem_cons hl,Tbm]
theorem Zst {t x:Tm} {ts:List Tm} {i:Nat} (hx:ts[i]?=some x) (h:Za4 t ts=ts.take i++Za4 t (ts.drop i)) (h1:¬ Zah x t < 0) (h2:¬ Zah x t=0):Za4 t ts=ts.take i++[t]++ts.drop i:=by
 obtain ⟨hl,e⟩:=Tad.1 hx;rw [h,List.drop_eq_getElem_cons hl,e,Za4,if_neg h1,if_neg h2];simp
theorem Zwm {t:Tm} {ts:List Tm} {i:Nat} (hi:ts.length<=i) (h:Za4 t ts=ts.take i++Za4 t (ts.drop i)):Za4 t ts=ts.take i++[t]++ts.drop i:=by
 rw [h,List.drop_eq_nil_of_le hi,Za4];simp
theorem ZiC (ts:List Tm) (t:Tm) (hts:Zax ts) (ht:okTm t) (hl:ts.length<=8000000):Con e0 96 [.one (.sl (Zab ts)),.agg (Zaa t)] [.one (.sl (Zab (Za4 t ts)))]:=by
 refine gI (ts:=[.slot 4]) 8590459003 Tryz.func96 ?_;refine fG @tmz ?_;have F:=@tmz;refine gL (ι:=Nat) [5,19] [] (fun x=>[(5,.d (.one (.lit (.int .i64 (x:Int)))))]) (fun x=>[]) (fun x=>x<=ts.length∧Za4 t ts=ts.take x++Za4 t (ts.drop x)) (fun x=>ts.length - x) (0) (⟨Taj _,rfl⟩) (fun x hx=>?_);clear F;obtain ⟨hi,hf⟩:=hx;by_cases hlt:x < ts.length
 ·obtain ⟨a,ha⟩:∃ n,ts[x]?=some n:=⟨_,Taa hlt⟩;have q1:=lT x ts.length;have q4:IntKind.i64.wrap ((x:Int)+1)=(x:Int)+1:=IntWalk.i64_in _ om;have hcmp:=Zd2 (hts.mem (Tac ha)) ht;refine fB (ai @q1 @tmz) ?_;refine fC (aj3 @q1 @tmz @ha) (hcmp) ?_;by_cases hc:Zah a t < 0
  ·have q2:(Zah a t < 0)=True:=eq_true hc;refine fR (aj3 @q1 @q2 @tmz) ?_;have hs:=Zsr ha hf hc;have F:=ai @q4 @q2;refine gG ?_;exact ⟨x+1,⟨hlt,hs⟩,gw,gw,om⟩
  ·have q2:(Zah a t < 0)=False:=eq_false hc;refine fR (aj3 @q1 @q2 @tmz) ?_;refine fB (aj3 @q1 @q2 @tmz) ?_;refine fC (aj3 @q1 @tmz @ha) (Zdo (hts.mem (Tac ha)) ht) ?_;by_cases h0:Zah a t=0
   ·have q3:decide (Zah a t=0)=true:=decide_eq_true h0;refine fR (aj3 @q1 @q3 @tmz) ?_;rw [Zss ha hf h0];exact fD (ai @q3 @tmz)
   ·have q3:decide (Zah a t=0)=false:=decide_eq_false h0;refine fR (aj3 @q1 @q3 @tmz) ?_;have hins:=Zst ha hf hc h0;refine fN 6 (ai @q3 @tmz) ?_;rw [hins,ZbH,ZbH,ZbX,<- ZdA,<- Zd7];have hxl:((x:Int)<=(ts.length:Int))=True:=eq_true om;have r1:ZaM 4 ((Zab ts).take x)=true:=by rw [ZdA];exact ZcO _
    have r2:ZaM 4 ((Zab ts).drop x)=true:=by rw [Zd7];exact ZcO _
    have n1:((Zab ts).take x).length<=8000000:=by rw [Taw,Zaj];omega
    have n2:((Zab ts).drop x).length<=8000000:=by rw [Tax,Zaj];omega
    have n3:((Zab ts).take x).length+1<=maxApp:=by unfold maxApp;omega
    have n4:((Zab ts).take x).length+1+((Zab ts).drop x).length<=maxApp:=by unfold maxApp;omega
    have F:=aj6 r1 r2 hxl n3 n4 tmz;refine gA 7 4 ?_ (.inl rfl) ?_
    ·show 0+_<=maxApp;unfold maxApp;omega
    clear F;refine fR (aj6 @r1 @r2 @hxl @n3 @n4 @tmz) ?_;have tkA:(Zab ts).take ts.length=Zab ts:=by rw [<- Zaj ts,Tap]
    have n5:((Zab ts).take x++[Zaa t]).length+((Zab ts).drop x).length<=maxApp:=by simp only [Tae,Tag,Tak];omega
    have hll:((ts.length:Int)<=(ts.length:Int))=True:=eq_true (Int.le_refl _);have F:=aj9 @r1 @r2 @hxl @n3 @n4 @n5 @hll @tkA @tmz;refine gG ?_;exact gTz [4]
 ·have q1:=lF x ts.length;have hins:=Zwm om hf;refine fN 6 (ai @q1 @tmz) ?_;rw [hins,ZbH,ZbH,ZbX,<- ZdA,<- Zd7];have hxl:((x:Int)<=(ts.length:Int))=True:=eq_true om;have r1:ZaM 4 ((Zab ts).take x)=true:=by rw [ZdA];exact ZcO _
  have r2:ZaM 4 ((Zab ts).drop x)=true:=by rw [Zd7];exact ZcO _
  have n1:((Zab ts).take x).length<=8000000:=by rw [Taw,Zaj];omega
  have n2:((Zab ts).drop x).length<=8000000:=by rw [Tax,Zaj];omega
  have n3:((Zab ts).take x).length+1<=maxApp:=by unfold maxApp;omega
  have n4:((Zab ts).take x).length+1+((Zab ts).drop x).length<=maxApp:=by unfold maxApp;omega
  have F:=aj6 r1 r2 hxl n3 n4 tmz;refine gA 7 4 ?_ (.inl rfl) ?_
  ·show 0+_<=maxApp;unfold maxApp;omega
  clear F;refine fR (aj6 @r1 @r2 @hxl @n3 @n4 @tmz) ?_;have tkA:(Zab ts).take ts.length=Zab ts:=by rw [<- Zaj ts,Tap]
  have n5:((Zab ts).take x++[Zaa t]).length+((Zab ts).drop x).length<=maxApp:=by simp only [Tae,Tag,Tak];omega
  have hll:((ts.length:Int)<=(ts.length:Int))=True:=eq_true (Int.le_refl _);have F:=aj9 @r1 @r2 @hxl @n3 @n4 @n5 @hll @tkA @tmz;refine gG ?_;exact gTz [4]
def colT (l:List Tm) (r:List Tm):List Tm:=l.foldl (fun r t=>Za4 t r) r
theorem colT_nil0 {ts:List Tm}:colT (ZaC []) ts=ts:=by simp [colT,ZaC]
theorem ZoJ (a b r:List Tm):colT (a++b) r=colT b (colT a r):=by unfold colT;rw [List.foldl_append]
theorem ZmD (t:Tm):∀ l:List Tm,(Za4 t l).length<=l.length+1
 | []=>by simp [Za4]
 | x::xs=>by
  have:=ZmD t xs;simp only [Za4];split
  ·simp only [Tag];omega
  ·split <;> simp only [Tag] <;> omega
theorem Zf2:∀ (l r:List Tm),(colT l r).length<=r.length+l.length
 | [],r=>by simp [colT]
 | x::xs,r=>by
  have h1:=Zf2 xs (Za4 x r);have h2:=ZmD x r;simp only [colT,List.foldl_cons,Tag] at h1 ⊢;omega
theorem ZoK {t:Tm} (ht:okTm t):∀ {l:List Tm},Zax l->Zax (Za4 t l)
 | [],_=>by simp only [Za4,Zax];exact ⟨ht,trivial⟩
 | x::xs,h=>by
  simp only [Zax] at h;simp only [Za4];split
  ·simp only [Zax];exact ⟨h.1,ZoK ht h.2⟩
  ·split
   ·simp only [Zax];exact h
   ·simp only [Zax];exact ⟨ht,h⟩
theorem Zi8:∀ {l r:List Tm},Zax l->Zax r->Zax (colT l r)
 | [],r,_,h=>h
 | x::xs,r,h1,h2=>by
  simp only [Zax] at h1;exact Zi8 (l:=xs) (r:=Za4 x r) h1.2 (ZoK h1.1 h2)
theorem ZiD:∀ {a b:List Tm},Zax a->Zax b->Zax (a++b)
 | [],_,_,h=>h
 | x::xs,b,h1,h2=>by
  simp only [Zax] at h1;simp only [Taf,Zax];exact ⟨h1.1,ZiD h1.2 h2⟩
mutual
theorem Zf3:∀ t:Tm,(Zau t).length<=1+Zal (Zaa t)
 | .mk op nm so args=>by
  have:=ZiE args;simp only [Zau,Zaa,Zal,Zc6,Zaj];split
  ·simp
  ·omega
theorem ZiE:∀ ts:List Tm,(ZaC ts).length<=ts.length+Zat (Zab ts)
 | []=>by simp [ZaC]
 | t::ts=>by
  have h1:=Zf3 t;have h2:=ZiE ts;simp only [ZaC,Zab,Zat,Tae,Tag];omega
end
theorem Zfe {t:Tm} (h:Zal (Zaa t)<=1048576):(Zau t).length<=1048576:=by
 obtain ⟨op,nm,so,args⟩:=t;have:=ZiE args;simp only [Zau,Zaa,Zal,Zc6,Zaj] at h ⊢;split
 ·simp
 ·omega
theorem ZiF:∀ (l:List Tm) (t:Tm),ZaC (l++[t])=ZaC l++Zau t
 | [],t=>by simp [ZaC]
 | x::xs,t=>by simp [ZaC,ZiF xs t]
theorem ZeC {l:List Tm} {i:Nat} {t:Tm} (h:l[i]?=some t):ZaC (l.take (i+1))=ZaC (l.take i)++Zau t:=by
 rw [show l.take (i+1)=l.take i++[t] by simp [List.take_add_one,h],ZiF]
theorem Zfy:∀ (l:List Tm) (i:Nat),(ZaC (l.take i)).length<=(ZaC l).length
 | [],i=>by simp [ZaC]
 | x::xs,0=>by simp [ZaC]
 | x::xs,i+1=>by have:=Zfy xs i;simp only [Tbc,ZaC,Tae];omega
def visL (ts args:List Tm) (i:Nat):List Tm:=ts++ZaC (args.take i)
theorem ZAL (ts args:List Tm):visL ts args 0=ts:=by simp [visL,ZaC]
theorem Zwn {ts args:List Tm} {i:Nat} {b:Tm} (h:args[i]?=some b):visL ts args (i+1)=visL ts args i++Zau b:=by
 unfold visL;rw [ZeC h,Tbf]
theorem ZxQ (ts args:List Tm):visL ts args args.length=ts++ZaC args:=by unfold visL;rw [Tap]
theorem ktF:ZaU Tryz.prog 106=some .one:=by kernel_rfl
theorem ztF:Za1 Tryz.prog 106=some 1:=by kernel_rfl
theorem otF:ZaQ Tryz.prog 106=some [.lit .nilFunc]:=by kernel_rfl
theorem ZAM:ZaB (.lit .nilFunc)=true:=rfl
theorem okFn {f:FuncId} {cs:List C}:ZaB (.fn f cs)=true:=rfl
theorem Ze4:Zab []=[]:=by simp [Zab]
theorem gTPn {X:Prop} {P:Program} {ts:List RS} {R:List D->List Bk->Prop} {σ:St} {r:List D} {pm:List Bk} (ks:List Nat) (hR:R r pm) (hx:Zni P ts R .normal σ->X:=by first | exact fun h=>h | exact fun h=>⟨_,Wk.refl _,h⟩) (hr:resD P σ ts=some r:=by exact sfy) (hg:getM σ.m ks=some pm:=by exact sny) (hn:ks.Nodup:=by decide) (hp:pm.all pinned=true:=by exact sny):X :=
 hx ⟨r,ks,pm,hg,hn,hp,hR,ZfO hr⟩
def ptr0 (b:Nat):Value:=.pointer (some ⟨b,0,none⟩)
def RVis (bo bv:Nat) (f:FuncId) (ty:Nat) (ts:List Tm) (r:List D) (pm:List Bk):Prop:=∃ a cap,r=[]∧pm=[.var (some bo) [.lit (.slice a ts.length cap)],.buf (some (a,cap)) ty 4 (Zab ts),.var (some bv) [.fn f [.lit (ptr0 bo),.lit (ptr0 bv)]]]
theorem Zm8 (t:Tm) (ts:List Tm) (a:Option Addr) (cap bo bv:Nat) (hne:bo≠bv) (hb:Zal (Zaa t)<=1048576) (hl:ts.length+(Zau t).length<=4000000)
  (h:∀ x∈t.args,∀ (us:List Tm) (a:Option Addr) (cap:Nat),us.length+(Zau x).length<=4000000->ConP e0 65 [.agg (Zaa x),.one (.lit (ptr0 bo)),.one (.lit (ptr0 bv))] [.var (some bo) [.lit (.slice a us.length cap)],.buf (some (a,cap)) 34 4 (Zab us),.var (some bv) [.fn 65 [.lit (ptr0 bo),.lit (ptr0 bv)]]] (RVis bo bv 65 34 (us++Zau x))) :
  ConP e0 65 [.agg (Zaa t),.one (.lit (ptr0 bo)),.one (.lit (ptr0 bv))] [.var (some bo) [.lit (.slice a ts.length cap)],.buf (some (a,cap)) 34 4 (Zab ts),.var (some bv) [.fn 65 [.lit (ptr0 bo),.lit (ptr0 bv)]]] (RVis bo bv 65 34 (ts++Zau t)):=by
 obtain ⟨op,nm,so,args⟩:=t;have hc:Zaa (.mk op nm so args)=[.lit (.int .i64 op),.lit (.string nm),.lit (.int .i64 so),.sl (Zab args)]:=by simp only [Zaa]
 have hn1:(bo=bv)=False:=eq_false hne;have hn2:(bv=bo)=False:=eq_false (fun e=>hne e.symm);simp only [Tm.args] at h;simp only [Zaa,Zal,Zc6,Zaj] at hb;simp only [ptr0] at h ⊢;refine gIP (ts:=[]) [1001,1000,1002] 15728943 Tryz.func65 ?_;by_cases ho:op=-1
 ·have q1:(op=-1)=True:=eq_true ho;have e1:Zau (.mk op nm so args)=[.mk (-1) nm so []]:=by simp only [Zau,if_pos ho]
  rw [e1] at hl ⊢;simp only [Tag,Tak,Nat.zero_add] at hl;have hm:ts.length+1<=maxApp:=by unfold maxApp;omega
  have c1:Zaa (.mk (-1) nm so [])=[.lit (.int .i64 (-1)),.lit (.string nm),.lit (.int .i64 so),.sl []]:=by simp only [Zaa,Zab]
  refine fN 2 (aj3 @hc @q1 @tmz) ?_
  have hR:∀ (a2:Option Addr) (cap2:Nat),RVis bo bv 65 34 (ts++[.mk (-1) nm so []]) [] [.var (some bo) [.lit (.slice a2 (ts.length+1) cap2)],.buf (some (a2,cap2)) 34 4 (Zab ts++[[.lit (.int .i64 (-1)),.lit (.string nm),.lit (.int .i64 so),.sl []]]),.var (some bv) [.fn 65 [.lit (.pointer (some ⟨bo,0,none⟩)),.lit (.pointer (some ⟨bv,0,none⟩))]]]:=fun a2 cap2=>⟨a2,cap2,rfl,by
   rw [show Zab (ts++[.mk (-1) nm so []])=Zab ts++[[.lit (.int .i64 (-1)),.lit (.string nm),.lit (.int .i64 so),.sl []]] by rw [Zbs,Tbv,<- Zbs,Tbu,List.map_nil,c1],Tae];rfl⟩
  have a1:(ts.length < ts.length+1)=True:=eq_true (Tan _);have a2:∀ Z:List C,(Zab ts++[Z])[ts.length]?=some Z:=fun Z=>by rw [Tbq (by rw [Zaj];exact Tai _),Zaj,Nat.sub_self];rfl
  have a3:∀ Z X:List C,(Zab ts++[Z]).set ts.length X=Zab ts++[X]:=fun Z X=>by rw [List.set_append_right _ _ (by rw [Zaj];exact Tai _),Zaj,Nat.sub_self];rfl
  have F:=aj10 a1 a2 a3 hc q1 @Zwj hm hn1 hn2 tmz;refine ZA2 8 ?_;refine gT1 8 ?_;refine gS 17 fun a2 cap2=>?_;refine ZbG ?_;refine gT2 9 11 ?_ ?_
  ·refine ZbG ?_;refine gT2 10 11 ?_ ?_
   ·refine ZbG ?_;refine gT1 11 ?_;refine ZbG ?_;refine gT0 ?_
    (refine wkI ?_;(refine fG @tmz ?_);exact (have F:=tmz;gTP [1001,17,1002] (hR a2 cap2)))
   ·refine ZbG ?_;refine gT1 10 ?_;refine ZbG ?_;refine gT0 ?_
    (refine wkI ?_;(refine fG @tmz ?_);exact (have F:=tmz;gTP [1001,17,1002] (hR a2 cap2)))
  ·refine ZbG ?_;refine gT1 9 ?_;refine ZbG ?_;refine gT1 10 ?_;refine ZbG ?_;refine gT0 ?_
   (refine wkI ?_;(refine fG @tmz ?_);exact (have F:=tmz;gTP [1001,17,1002] (hR a2 cap2)))
 ·have q1:(op=-1)=False:=eq_false ho;have e1:Zau (.mk op nm so args)=ZaC args:=by simp only [Zau,if_neg ho]
  rw [e1] at hl ⊢;have hal:args.length<=1048576:=om;refine fG (aj3 @hc @q1 @tmz) ?_;have F:=@ZAL;refine gL (ι:=Nat × Option Addr × Nat) [5,22,23] [1000,1001,1002] (fun x=>[(22,.d (.one (.lit (.int .i64 (x.1:Int)))))]) (fun x=>[(1001,.var (some bo) [.lit (.slice x.2.1 (visL ts args x.1).length x.2.2)]),(1000,.buf (some (x.2.1,x.2.2)) 34 4 (Zab (visL ts args x.1))),(1002,.var (some bv) [.fn 65 [.lit (.pointer (some ⟨bo,0,none⟩)),.lit (.pointer (some ⟨bv,0,none⟩))]])]) (fun x=>x.1<=args.length) (fun x=>args.length - x.1) ((0,a,cap)) (Taj _) (fun x hx=>?_);clear F
  obtain ⟨i,a2,cap2⟩:=x;simp only at hx;dsimp only;by_cases hlt:i < args.length
  ·obtain ⟨b,hg⟩:∃ b,args[i]?=some b:=⟨_,Taa hlt⟩;have q2:=lT i args.length;have q4:IntKind.i64.wrap ((i:Int)+1)=(i:Int)+1:=IntWalk.i64_in _ om;have hvt:=ZeC hg;have hle:=Zfy args (i+1);rw [hvt,Tae] at hle;have hcon:=h b (Tac hg) (visL ts args i) a2 cap2 (by unfold visL;rw [Tae];omega);rw [<- Zwn hg] at hcon;refine fB (aj6 @q2 @hc @Zaj @Zbj @hg @tmz) ?_;have F:=aj4 @ktF @hn1 @hn2 @tmz;refine gCP [1001,1000,1002] [1001,1000,1002] (hcon) ?_;clear F
   rintro r pm ⟨a3,cap3,rfl,rfl⟩;simp only [ptr0,setA,retA,zipM,Taf,Tah];refine fR @tmz ?_;have F:=@q4;refine gG ?_;exact ⟨(i+1,a3,cap3),hlt,gw,gw,om⟩
  ·obtain rfl:i=args.length:=by omega
   have q2:=lF args.length args.length;refine fG @q2 ?_;have hR:RVis bo bv 65 34 (ts++ZaC args) [] [.var (some bo) [.lit (.slice a2 (visL ts args args.length).length cap2)],.buf (some (a2,cap2)) 34 4 (Zab (visL ts args args.length)),.var (some bv) [.fn 65 [.lit (.pointer (some ⟨bo,0,none⟩)),.lit (.pointer (some ⟨bv,0,none⟩))]]]:=by
    rw [<- ZxQ];exact ⟨a2,cap2,rfl,rfl⟩
   exact (have F:=tmz;gTPn [1001,1000,1002] hR)
theorem ZoL (bo bv:Nat) (hne:bo≠bv) (n:Nat):∀ (t:Tm),Zcb (Zaa t) < n->Zal (Zaa t)<=1048576->∀ (ts:List Tm) (a:Option Addr) (cap:Nat),ts.length+(Zau t).length<=4000000->ConP e0 65 [.agg (Zaa t),.one (.lit (ptr0 bo)),.one (.lit (ptr0 bv))] [.var (some bo) [.lit (.slice a ts.length cap)],.buf (some (a,cap)) 34 4 (Zab ts),.var (some bv) [.fn 65 [.lit (ptr0 bo),.lit (ptr0 bv)]]] (RVis bo bv 65 34 (ts++Zau t)):=by
 induction n with
 | zero=>exact fun _ h=>om
 | succ n ih =>
  intro t hn hb ts a cap hl;refine Zm8 t ts a cap bo bv hne hb hl fun x hx us a cap hl2=>ih x ?_ ?_ us a cap hl2
  ·obtain ⟨op,nm,so,args⟩:=t;simp only [Zaa,Zcb,ZgL] at hn;simp only [Tm.args] at hx;obtain ⟨i,hi⟩:=Tbk hx;have hi':(Zab args)[i]?=some (Zaa x):=by rw [Zbj,hi];rfl
   have h1:=Zel hi';omega
  ·obtain ⟨op,nm,so,args⟩:=t;simp only [Zaa,Zal,Zc6] at hb;simp only [Tm.args] at hx;obtain ⟨i,hi⟩:=Tbk hx;have hi':(Zab args)[i]?=some (Zaa x):=by rw [Zbj,hi];rfl
   have h1:=ZdE hi';omega
theorem ZiG (t:Tm) (hb:Zal (Zaa t)<=1048576):Con e0 29 [.agg (Zaa t)] [.one (.sl (Zab (ZaD t)))]:=by
 have hv:=Zfe hb;refine gI (ts:=[.slot 2]) 31 Tryz.func29 ?_;refine fN 1 @tmz ?_;refine gB ?_;have F:=@tmz;refine gP 1 ?_;clear F;refine gO 5 34 4 ?_;refine gS 5 fun a cap=>?_;refine fR @tmz ?_;refine fN 3 (aj3 @otF @ztF @tmz) ?_;refine pV 3 fun b3 hb3=>?_;refine pV 4 fun b4 hb4=>?_;have hne:b3≠b4:=fun e=>hb4 3 b3 _ (by decide) rfl e.symm;clear hb3 hb4;have hn1:(b3=b4)=False:=eq_false hne;have hn2:(b4=b3)=False:=eq_false (fun e=>hne e.symm)
 refine fN 4 (aj7 @ktF @ztF @ZAM @okFn @hn1 @hn2 @tmz) ?_;refine gB ?_;have hcon:=ZoL b3 b4 hne _ t (Tan _) om [] a cap (by simp;omega);have hdis:=fun (a:Option Addr) (cap:Nat)=>Zm7 (Zau t) om a cap;simp only [ptr0,Tak,Tah,Ze4] at hcon;have F:=aj4 @ktF @hn1 @hn2 @tmz;refine gCP [3,5,4] [3,5,4] (hcon) ?_;clear F;rintro r pm ⟨a2,cap2,rfl,rfl⟩;simp only [ptr0,setA,retA,zipM,Taf,Tah];refine fR @tmz ?_
 refine fB @tmz ?_;have F:=aj3 @hn1 @hn2 @tmz;refine gCP [5] [5] (hdis a2 cap2) ?_;clear F;rintro r pm ⟨rfl,rfl⟩;simp only [setA,retA,zipM,Taf,Tah];refine fR @tmz ?_;refine pD 5 [2] [] ?_ (hs:=by exact snv);exact fD @tmz
theorem Zff (nm:ByteArray) (so:Int):Con e0 97 [.one (.lit (.string nm)),.one (.lit (.int .i64 so))] [.agg (Zaa (.mk (-1) nm so []))]:=by
 have c1:Zaa (.mk (-1) nm so [])=[.lit (.int .i64 (-1)),.lit (.string nm),.lit (.int .i64 so),.sl []]:=by simp only [Zaa,Zab]
 rw [c1];refine gI (ts:=[.cell 4 34]) 19 Tryz.func97 ?_;exact fD @e0P
theorem Zwo {e:Env} {f:FuncId} {a:D} {rows:List (List C)} {r:List D} (h:Con e f [a,.one (.sl rows)] r):Con e f [a,.clip rows] r :=
 ⟨h.1,fun w S vs h1 h2 h3 h4=>h.2 w S vs h1 h2 h3 (by
  match vs,h4 with
  | [x,y],h4=>exact ⟨h4.1,h4.2.1.1,trivial⟩)⟩
theorem Zj9 {op so:Int} {nm:ByteArray} {args:List Tm} (h:okTm (.mk op nm so args)):okTm (.mk (-1) nm so []):=by
 simp only [okTm,Zax,and_true] at h ⊢;exact ⟨by unfold I64;omega,h.2.1,h.2.2.1⟩
mutual
theorem ZmE:∀ {t:Tm},okTm t->Zax (Zau t)
 | .mk op nm so args,h=>by
  simp only [Zau];split
  ·simp only [Zax];exact ⟨Zj9 h,trivial⟩
  ·simp only [okTm] at h;exact Zfz h.2.2.2
theorem Zfz:∀ {l:List Tm},Zax l->Zax (ZaC l)
 | [],_=>by simp [ZaC,Zax]
 | x::xs,h=>by
  simp only [Zax] at h;simp only [ZaC];exact ZiD (ZmE h.1) (Zfz h.2)
end
theorem ZhF:∀ {l:List Tm} (i:Nat),Zax l->Zax (l.take i)
 | [],_,_=>by simp [Zax]
 | x::xs,0,_=>by simp [Zax]
 | x::xs,i+1,h=>by
  simp only [Zax] at h;simp only [Tbc,Zax];exact ⟨h.1,ZhF i h.2⟩
theorem Zka (t:Tm) (ts:List Tm) (ht:okTm t) (hts:Zax ts) (hb:Zal (Zaa t)<=1048576) (hl:ts.length+(Zau t).length<=7000000) (h:∀ x∈t.args,∀ us:List Tm,Zax us->us.length+(Zau x).length<=7000000->Con e0 54 [.agg (Zaa x),.one (.sl (Zab us))] [.one (.sl (Zab (colT (Zau x) us)))]) :
  Con e0 54 [.agg (Zaa t),.one (.sl (Zab ts))] [.one (.sl (Zab (colT (Zau t) ts)))]:=by
 obtain ⟨op,nm,so,args⟩:=t;have hc:Zaa (.mk op nm so args)=[.lit (.int .i64 op),.lit (.string nm),.lit (.int .i64 so),.sl (Zab args)]:=by simp only [Zaa]
 simp only [Tm.args] at h;simp only [Zaa,Zal,Zc6,Zaj] at hb;refine gI (ts:=[.slot 4]) 1048887 Tryz.func54 ?_;by_cases ho:op=-1
 ·have q1:(op=-1)=True:=eq_true ho;have e1:Zau (.mk op nm so args)=[.mk (-1) nm so []]:=by simp only [Zau,if_pos ho]
  rw [e1] at hl ⊢;simp only [Tag,Tak,Nat.zero_add] at hl;have hI:=ZiC ts (.mk (-1) nm so []) hts (Zj9 ht) om;refine fB (aj3 @hc @q1 @tmz) ?_;refine fC @hc (Zff nm so) ?_;refine fC @hc (hI) ?_;refine fR @hc ?_;simp only [colT,List.foldl_cons,List.foldl_nil];exact fD @tmz
 ·have q1:(op=-1)=False:=eq_false ho;have e1:Zau (.mk op nm so args)=ZaC args:=by simp only [Zau,if_neg ho]
  rw [e1] at hl ⊢;have hk:Zax args:=by simp only [okTm] at ht;exact ht.2.2.2
  refine fG (aj3 @hc @q1 @tmz) ?_;have F:=ai ((fun (r:List Tm)=>(colT_nil0:colT (ZaC []) r=r))) @tmz;refine gL (ι:=Nat) [1,5,20] [] (fun x=>[(5,.d (.one (.lit (.int .i64 (x:Int))))),(1,.d (.one (.sl (Zab (colT (ZaC (args.take x)) ts)))))]) (fun x=>[]) (fun x=>x<=args.length) (fun x=>args.length - x) (0) (Taj _) (fun x hx=>?_);clear F;by_cases hlt:x < args.length
  ·obtain ⟨b,hg⟩:∃ b,args[x]?=some b:=⟨_,Taa hlt⟩;have q2:=lT x args.length;have q4:IntKind.i64.wrap ((x:Int)+1)=(x:Int)+1:=IntWalk.i64_in _ om;have hvt:=ZeC hg;have hle:=Zfy args (x+1);rw [hvt,Tae] at hle;have hcl:=Zf2 (ZaC (args.take x)) ts;have hcon:=h b (Tac hg) (colT (ZaC (args.take x)) ts) (Zi8 (Zfz (ZhF x hk)) hts) om;rw [<- ZoJ,<- hvt] at hcon;refine fB (aj3 @q2 @hc @tmz) ?_;refine fC (aj4 @q2 @hc @hg @tmz) (hcon) ?_
   refine fR @tmz ?_;have F:=@q4;refine gG ?_;exact ⟨x+1,hlt,gw,gw,om⟩
  ·obtain rfl:x=args.length:=by omega
   have q2:=lF args.length args.length;rw [Tap];exact fD (aj3 @q2 @hc @tmz)
theorem Zgr (n:Nat):∀ t:Tm,Zcb (Zaa t) < n->okTm t->Zal (Zaa t)<=1048576->∀ ts:List Tm,Zax ts->ts.length+(Zau t).length<=7000000->Con e0 54 [.agg (Zaa t),.one (.sl (Zab ts))] [.one (.sl (Zab (colT (Zau t) ts)))]:=by
 induction n with
 | zero=>exact fun _ h=>om
 | succ n ih =>
  intro t hn ht hb ts hts hl;refine Zka t ts ht hts hb hl fun x hx us hus hl2=>?_;obtain ⟨op,nm,so,args⟩:=t;simp only [Zaa,Zcb,ZgL] at hn;simp only [Zaa,Zal,Zc6] at hb;simp only [okTm] at ht;simp only [Tm.args] at hx;obtain ⟨i,hi⟩:=Tbk hx;have hi':(Zab args)[i]?=some (Zaa x):=by rw [Zbj,hi];rfl
  have h1:=Zel hi';have h2:=ZdE hi';exact ih x om (ht.2.2.2.mem hx) om us hus hl2
theorem Zf4 {t:Tm} (ht:okTm t) (hb:Zal (Zaa t)<=1048576):Con e0 17 [.agg (Zaa t)] [.one (.sl (Zab (ZaD t)))]:=by
 have hv:=Zf3 t;have hcon:=Zgr _ t (Tan _) ht hb [] trivial (by simp;omega);have hcon:=Zwo (by rw [Ze4] at hcon;exact hcon);rw [show colT (Zau t) []=ZaD t from rfl] at hcon;refine gI (ts:=[.slot 2]) 7 Tryz.func17 ?_;refine fB @tmz ?_;refine fC @tmz (hcon) ?_;refine fR @tmz ?_;exact fD @tmz
theorem Zsu {l:List Tm} (h:Zax l):Zax (Zc0 l):=Zi8 (r:=[]) h trivial
theorem ZfA {t:Tm} (h:okTm t):Zax (ZaD t):=Zsu (ZmE h)
theorem ZxR (l:List Tm):(Zc0 l).length<=l.length:=by have:=Zf2 l [];simpa [colT,Zc0] using this
theorem ZeD (t:Tm):(ZaD t).length<=1+Zal (Zaa t):=Tbe (ZxR _) (Zf3 t)
theorem Zm9 {vs:List Tm} {p:Tm->Bool} {i:Nat} {a:Tm} (h:vs[i]?=some a):(vs.take (i+1)).any p=((vs.take i).any p || p a):=by
 rw [List.take_add_one,h];simp
theorem Zna {vs:List Tm} {p:Tm->Bool} {i:Nat} {a:Tm} (h:vs[i]?=some a):(vs.take (i+1)).all p=((vs.take i).all p && p a):=by
 rw [List.take_add_one,h];simp
theorem Zsv {α:Type} {vs:List α} {p:α->Bool} {i:Nat} {a:α} (h:vs[i]?=some a):(vs.take (i+1)).all p=((vs.take i).all p && p a):=by
 rw [List.take_add_one,h];simp
theorem ZmF {α:Type} {vs:List α} {p:α->Bool} {a:α} (h:a∈vs) (hp:p a=false):vs.all p=false:=by
 rw [List.all_eq_false];exact ⟨a,h,by simp [hp]⟩
theorem ZhG {t v:Tm}:v∈Zau t->v∈ZaD t:=fun h=>Zdp.2 h
theorem ZgY {g:Sgn} {t:Tm} (hok:Zbv g) (ht:okTm t) (hb:Zal (Zaa t)<=1048576):Con e0 28 [.agg (Zaf g),.agg (Zaa t)] [.one (.lit (.bool (Zbq g && Za8 g t)))]:=by
 by_cases hg:SgnOk g;rotate_left
 ·have hf:Zbq g=false:=ZeW hg;have c:=ZlQ hok hg;rw [Zaf] at c;refine gI 127 Tryz.func28 ?_;refine fB (ai @tmz @Zbh) ?_;refine fC @tmz (c) ?_;refine fR @tmz ?_;exact fT (ai @tmz @hf)
 have hs:=Zb4 hg;have c:=ZpD hok hg;rw [Zaf] at c;refine gI 127 Tryz.func28 ?_;refine fB (ai @tmz @Zbh) ?_;have F:=@tmz;refine gCE (c) ?_;clear F;rintro r ⟨b,rfl⟩;have c1:=ZpC (mc:=.lit (.map (some b))) hg ht (Zc5 hb);generalize C.lit (.map (some b))=mc at c1 ⊢;refine fR (ai @ZAC @ZiX) ?_;refine fB @tmz ?_;refine fC @tmz (c1) ?_;refine fR @tmz ?_;exact fT (ai @tmz @hs)
section
variable {g:Sgn} {a:Alg} {t:Tm} {xs:List Int}
theorem Zi9 (h:Za8 g t=true):Zaw g t:=(Zcz.1 h).form
end
def hasB (vs:List Tm) (v:Tm):Bool:=vs.any fun a=>decide (Zah v a=0)
def ZhH (vs:List Tm) (t:Tm):Bool:=(ZaD t).all (hasB vs)
theorem ZoM {vs:List Tm} {v:Tm}:hasB vs v=true ↔ v∈vs:=by
 simp only [hasB,List.any_eq_true,decide_eq_true_eq];exact ⟨fun ⟨a,h,e⟩=>Zdn e ▸ h,fun h=>⟨v,h,Zb6 v⟩⟩
theorem any_nil0 {p:Tm->Bool}:([]:List Tm).any p=false:=rfl
theorem Znb {t:Tm} {vs:List Tm} (ht:okTm t) (hvs:Zax vs) (hb:Zal (Zaa t)<=1048576) (hl:vs.length<=8000000):Con e0 73 [.agg (Zaa t),.one (.sl (Zab vs))] [.one (.lit (.bool (ZhH vs t)))]:=by
 have hok:=ZfA ht;have hle:=ZeD t;have cV:=Zf4 ht hb;have eW:ZhH vs t=(ZaD t).all (hasB vs):=rfl;rw [eW];clear eW;generalize ZaD t=us at hok hle cV ⊢;refine gI 68720542199 Tryz.func73 ?_;refine fB @tmz ?_;refine fC @tmz (cV) ?_;refine fR @tmz ?_;refine fG @tmz ?_;have F:=@e0P;refine gL (ι:=Nat) [4,6,7,8,14,20,36] [] (fun x=>[(6,A.d (.one (.lit (.int .i64 x))))]) (fun x=>[]) (fun x=>x<=us.length∧(us.take x).all (hasB vs)=true) (fun x=>us.length - x) (0) (⟨Taj _,rfl⟩) (fun x hx=>?_);clear F
 obtain ⟨hxl,hall⟩:=hx;by_cases hlt:x < us.length;rotate_left
 ·have q1:¬ ((x:Int) < (us.length:Int)):=om;obtain rfl:x=us.length:=by omega
  rw [Tap] at hall;exact fT (aj3 @tmz @q1 @hall)
 have q1:(x:Int) < (us.length:Int):=om;obtain ⟨v,hv⟩:∃ a,us[x]?=some a:=⟨_,Taa hlt⟩;have hvo:=hok.mem (Tac hv);have hw1:=Zaq (k:=x) om;refine fG (ai @tmz @q1) ?_;have F:=((fun (p:Tm->Bool)=>(any_nil0:([]:List Tm).any p=false)));refine gL (ι:=Nat) [7,8,20] [] (fun y=>[(7,.d (.one (.lit (.bool ((vs.take y).any fun a=>decide (Zah v a=0)))))),(8,A.d (.one (.lit (.int .i64 y))))]) (fun y=>[]) (fun y=>y<=vs.length) (fun y=>vs.length - y) (0) (Taj _) (fun y hy=>?_);clear F
 by_cases hlt2:y < vs.length;rotate_left
 ·have q2:¬ ((y:Int) < (vs.length:Int)):=om;obtain rfl:y=vs.length:=by omega
  rw [Tap]
  cases hh:hasB vs v with
  | true =>
   have e:(vs.any fun a=>decide (Zah v a=0))=true:=hh;have hq:x+1<=us.length∧(us.take (x+1)).all (hasB vs)=true:=⟨hlt,by rw [Zna hv,hall,hh];rfl⟩;have F:=aj5 @tmz @q1 @q2 @e @hw1;refine gG ?_;exact ⟨x+1,hq,gw,gw,om⟩
  | false =>
   have e:(vs.any fun a=>decide (Zah v a=0))=false:=hh;have hf:us.all (hasB vs)=false:=ZmF (Tac hv) hh;exact fT (aj5 @tmz @q1 @q2 @e @hf)
 have q2:(y:Int) < (vs.length:Int):=om;obtain ⟨a,ha⟩:∃ a,vs[y]?=some a:=⟨_,Taa hlt2⟩;have hao:=hvs.mem (Tac ha);have hw2:=Zaq (k:=y) om;have hst:=Zm9 (p:=fun a=>decide (Zah v a=0)) ha
 cases hc:(vs.take y).any fun a=>decide (Zah v a=0) with
 | true =>
  rw [hc,Bool.true_or] at hst;refine fG (aj3 @tmz @q1 @q2) ?_;have F:=aj4 @tmz @q2 @hst @hw2;refine gG ?_;exact ⟨y+1,hlt2,gw,gw,om⟩
 | false =>
  rw [hc,Bool.false_or] at hst;refine fB (aj3 @tmz @q1 @q2) ?_;refine fC (aj5 @tmz @q1 @q2 @hv @ha) (Zdo hvo hao) ?_;refine fR (aj3 @tmz @q1 @q2) ?_;have F:=aj4 @tmz @q2 @hst @hw2;refine gG ?_;exact ⟨y+1,hlt2,gw,gw,om⟩
theorem ZoN (t a:Tm):Con e0 68 [.agg (Zaa a),.one (.ptr (Zaa t))] [.one (.lit (.bool (decide (Zah t a=0))))]:=by
 refine gI 15 Tryz.func68 ?_;refine fB @tmz ?_;refine fC @tmz (ZeA t a) ?_;refine fR @tmz ?_;exact fT @tmz
theorem ZpK (ts:List Tm) (t:Tm) (hl:ts.length<=big):Con e0 30 [.one (.sl (Zab ts)),.agg (Zaa t)] [.one (.lit (.bool (hasB ts t)))]:=by
 have c:=Zj4 (ts:=ts) (f:=68) (caps:=[.ptr (Zaa t)]) (P:=fun a=>decide (Zah t a=0)) hl fun a _=>ZoN t a;have eh:hasB ts t=ts.any fun a=>decide (Zah t a=0):=rfl;rw [eh];refine gI 27 Tryz.func30 ?_;refine fB @tmz ?_;refine fC @tmz (c) ?_;refine fR @tmz ?_;exact fT @tmz
structure GtOk (g:Sgn) (ws:List Wt) (vs:List Tm) (a b:Tm):Prop where
 sub:ZhH vs b=true
 oka:okW g ws vs a
 okb:okW g ws vs b
 lt:wN g ws b < wN g ws a
 all:∀ v∈vs,wF g ws v b<=wF g ws v a
open Classical in
noncomputable def gtB (g:Sgn) (ws:List Wt) (a b:Tm):Bool:=decide (GtOk g ws (ZaD a) a b)
theorem ZoO {g:Sgn} {ws:List Wt} {a b:Tm} (h:GtOk g ws (ZaD a) a b):gtB g ws a b=true:=by simp only [gtB,decide_eq_true_eq];exact h
theorem Zzy {g:Sgn} {ws:List Wt} {a b:Tm} (h:¬ GtOk g ws (ZaD a) a b):gtB g ws a b=false:=by simp only [gtB,decide_eq_false_iff_not];exact h
theorem Zf5 (t:Tm):(ZaD t).Nodup:=(Zfv (Zau t)).imp fun h e=>by rw [e,Zb6] at h;exact absurd h (by decide)
theorem ZhI {vs:List Tm} {b:Tm} (h:ZhH vs b=true):∀ v∈Zau b,v∈vs:=fun v hv=>ZoM.1 (List.all_eq_true.1 h v (ZhG hv))
section
variable {g:Sgn} {ws:List Wt} {a b:Tm}
theorem Zsw (hI:InOk g ws) (ha:okTm a) (hb:okTm b) (hba:Zal (Zaa a)<=1048576) (hbb:Zal (Zaa b)<=1048576) (hfa:Zaw g a) (hfb:Zaw g b):Con e0 35 [.one (.sl (ws.map ZbI)),.agg (Zaa a),.agg (Zaa b)] [.one (.lit (.bool (gtB g ws a b)))]:=by
 have cV:=Zf4 ha hba;have hvl:=ZeD a;have hvt:=Zfe hba;have cW:=Znb hb (ZfA ha) hbb om;refine gI 4614078555730509815 Tryz.func35 ?_;refine fB @tmz ?_;refine fC @tmz (cV) ?_;refine fR @tmz ?_;refine fB @tmz ?_;refine fC @tmz (cW) ?_;have hyes:=ZoO (g:=g) (ws:=ws) (a:=a) (b:=b);have hno:=Zzy (g:=g) (ws:=ws) (a:=a) (b:=b);have hvok:=ZfA ha;have hvb:(ZaD a).length<=1048577:=om;generalize ZaD a=vs at *
 cases hs:ZhH vs b with
 | false =>
  have hf:=hno fun h=>by rw [h.sub] at hs;cases hs
  refine fR @tmz ?_;exact fT (ai @tmz @hf)
 | true =>
 have cA:=Zfk (vs:=vs) hI hvb hvok (sizeTm a+1) a (Tan _) ha hfa;have cB:=Zfk (vs:=vs) hI hvb hvok (sizeTm b+1) b (Tan _) hb hfb;refine fR @tmz ?_;refine fB @tmz ?_;by_cases hoa:okW g ws vs a;rotate_left
 ·rw [Zcr hoa] at cA;have hf:=hno fun h=>hoa h.oka;rw [hf];refine fC @tmz (cA) ?_;refine fR @tmz ?_;refine fB @tmz ?_;by_cases hob:okW g ws vs b
  ·rw [ZcH hob] at cB;refine fC @tmz (cB) ?_;refine fR @tmz ?_;exact fT @tmz
  ·rw [Zcr hob] at cB;refine fC @tmz (cB) ?_;refine fR @tmz ?_;exact fT @tmz
 rw [ZcH hoa] at cA;refine fC @tmz (cA) ?_;refine fR @tmz ?_;refine fB @tmz ?_;by_cases hob:okW g ws vs b;rotate_left
 ·rw [Zcr hob] at cB;have hf:=hno fun h=>hob h.okb;rw [hf];refine fC @tmz (cB) ?_;refine fR @tmz ?_;exact fT @tmz
 rw [ZcH hob] at cB;refine fC @tmz (cB) ?_;refine fR @tmz ?_;by_cases hlt:wN g ws b < wN g ws a;rotate_left
 ·have q1:(wN g ws a<=wN g ws b)=True:=eq_true om;have hf:=hno fun h=>hlt h.lt;exact fT (aj3 @tmz @q1 @hf)
 have q1:(wN g ws a<=wN g ws b)=False:=eq_false om;refine fG (ai @tmz @q1) ?_;have F:=@e0P;refine gL (ι:=Nat) [6,14,51,62] [] (fun j=>[(14,A.d (.one (.lit (.int .i64 j))))]) (fun j=>[]) (fun j=>j<=vs.length∧∀ (i:Nat) v,i < j->vs[i]?=some v->wF g ws v b<=wF g ws v a) (fun j=>vs.length - j) (0) (⟨Taj _,fun i v h=>absurd h om⟩) (fun j hj=>?_);clear F;obtain ⟨hjl,hall⟩:=hj;by_cases hlj:j < vs.length
 ·have q2:(j:Int) < (vs.length:Int):=om;obtain ⟨v,hv⟩:∃ v,vs[j]?=some v:=⟨_,Taa hlj⟩;have hwj:=Zaq (k:=j) om;have hvm:=Tac hv;have m1:=ZcN (f:=fun v=>wF g ws v a) hv;have m2:=ZcN (f:=fun v=>wF g ws v b) hv;have m3:=Zdk (f:=fun v=>wF g ws v a) (vs:=vs);have m4:=Zdk (f:=fun v=>wF g ws v b) (vs:=vs);by_cases hF:wF g ws v b<=wF g ws v a;rotate_left
  ·have q5:(wF g ws v a < wF g ws v b)=True:=eq_true om;have hf:=hno fun h=>hF (h.all v hvm);exact fT (aj8 @tmz @q2 @m1 @m2 @m3 @m4 @q5 @hf)
  have q5:(wF g ws v a < wF g ws v b)=False:=eq_false om;have hq:j+1<=vs.length∧∀ (i:Nat) v,i < j+1->vs[i]?=some v->wF g ws v b<=wF g ws v a:=⟨hlj,fun i u hi hu=>by
   by_cases hij:i=j
   ·subst hij;rw [hv] at hu;injection hu with hu;subst hu;exact hF
   ·exact hall i u om hu⟩
  have F:=aj8 @tmz @q2 @m1 @m2 @m3 @m4 @q5 @hwj;refine gG ?_;exact ⟨j+1,hq,gw,gw,om⟩
 obtain rfl:j=vs.length:=by omega
 have q2:¬ ((vs.length:Int) < (vs.length:Int)):=om;have ht:=hyes ⟨hs,hoa,hob,hlt,fun v hv=>by obtain ⟨i,hi⟩:=Tbk hv;exact hall i v (Tad.1 hi).1 hi⟩;exact fT (aj3 @tmz @q2 @ht)
noncomputable def hvB (g:Sgn) (ws:List Wt) (a b:Tm):Bool:=isIn g ws && (Za8 g a && (Za8 g b && gtB g ws a b))
theorem Zsx (hok:Zbv g) (hwl:ws.length<=1048576) (ha:okTm a) (hb:okTm b) (hba:Zal (Zaa a)<=1048576) (hbb:Zal (Zaa b)<=1048576):Con e0 7 [.agg (Zaf g),.one (.sl (ws.map ZbI)),.agg (Zaa a),.agg (Zaa b)] [.one (.lit (.bool (hvB g ws a b)))]:=by
 have cI:=Zsn (ws:=ws) hok hwl;have cTa:=ZgY hok ha hba;have cTb:=ZgY hok hb hbb;have cVa:=ZiG a hba;have cVb:=ZiG b hbb;have hvt:=Zfe hba;have hvl:=ZeD a;have hvt':=Zfe hbb;have hvl':=ZeD b;have cX:=fun h1 h2 h3 t=>Zm6 (g:=g) (ws:=ws) (vs:=ZaD a) h1 h2 h3 (sizeTm t+1) t (Tan _);have hfs:Zbq g=false->hvB g ws a b=false:=fun h=>by
  have:isIn g ws=false:=ZdZ fun hI=>by rw [Zb4 hI.sgn] at h;cases h
  rw [hvB,this];rfl
 rw [Zaf] at cI cTa cTb cX ⊢;refine gI 620065608666788527600040927 Tryz.func7 ?_;refine fB @tmz ?_
 cases hs:Zbq g with
 | false =>
  have hf:=hfs hs;rw [hs,Bool.false_and] at cTa;refine fC @tmz (cTa) ?_;refine fR @tmz ?_;exact fT (ai @tmz @hf)
 | true =>
 rw [hs,Bool.true_and] at cTa cTb;refine fC @tmz (cTa) ?_
 cases hA:Za8 g a with
 | false =>
  have hf:hvB g ws a b=false:=by rw [hvB,hA];simp
  refine fR @tmz ?_;exact fT (ai @tmz @hf)
 | true =>
 refine fC @tmz (cTb) ?_
 cases hB:Za8 g b with
 | false =>
  have hf:hvB g ws a b=false:=by rw [hvB,hB];simp
  refine fR @tmz ?_;exact fT (ai @tmz @hf)
 | true =>
 have he:hvB g ws a b=(isIn g ws && gtB g ws a b):=by rw [hvB,hA,hB];rfl
 rw [he];refine fR @tmz ?_;refine fB @tmz ?_;refine fC @tmz (cVa) ?_;refine fR @tmz ?_;refine fB @tmz ?_;refine fC @tmz (cVb) ?_;refine fR @tmz ?_;have hyes:=ZoO (g:=g) (ws:=ws) (a:=a) (b:=b);have hno:=Zzy (g:=g) (ws:=ws) (a:=a) (b:=b);have hnd:=Zf5 a;have hina:∀ v∈Zau a,v∈ZaD a:=fun v hv=>ZhG hv;have hvb:(ZaD a).length<=1048577:=om;have eW:∀ vs,ZhH vs b=(ZaD b).all (hasB vs):=fun vs=>rfl;generalize ZaD a=vs at *
 have hwm:=ZhI (vs:=vs) (b:=b);generalize ZaD b=us at *;refine fG @tmz ?_;have F:=@e0P;refine gL (ι:=Nat) [8,11,34,35,41] [] (fun i=>[(34,A.d (.one (.lit (.int .i64 i))))]) (fun i=>[]) (fun i=>i<=us.length∧(us.take i).all (hasB vs)=true) (fun i=>us.length - i) (0) (⟨Taj _,rfl⟩) (fun i hi=>?_);clear F;obtain ⟨hil,hall⟩:=hi;by_cases hlt:i < us.length
 ·have q2:(i:Int) < (us.length:Int):=om;obtain ⟨x,hx⟩:∃ x,us[i]?=some x:=⟨_,Taa hlt⟩;have hw1:=Zaq (k:=i) om;refine fB (aj3 @tmz @q2 @hx) ?_;refine fC @tmz (ZpK vs x (by unfold big;omega)) ?_
  cases hh:hasB vs x with
  | false =>
   have hf:=hno fun h=>by
    have:=h.sub;rw [eW,ZmF (Tac hx) hh] at this
    cases this
   refine fR @tmz ?_;exact fT (ai @tmz @hf)
  | true =>
   have hq:i+1<=us.length∧(us.take (i+1)).all (hasB vs)=true:=⟨hlt,by rw [Zsv hx,hall,hh];rfl⟩;refine fR @tmz ?_;have F:=ai @tmz @hw1;refine gG ?_;exact ⟨i+1,hq,gw,gw,om⟩
 obtain rfl:i=us.length:=by omega
 have q2:¬ ((us.length:Int) < (us.length:Int)):=om;rw [Tap] at hall;have hsub:ZhH vs b=true:=by rw [eW];exact hall
 have hinb:=hwm hsub;refine fB (ai @tmz @q2) ?_;refine fC @tmz (cI) ?_
 cases hI:isIn g ws with
 | false =>
  refine fR @tmz ?_;exact fT @tmz
 | true =>
 have hIO:=Zhy.1 hI;have cA:=cX hIO hvb hnd a (Zi9 hA) hina;have cB:=cX hIO hvb hnd b (Zi9 hB) hinb;refine fR @tmz ?_;refine fB @tmz ?_;by_cases hoa:okW g ws vs a;rotate_left
 ·rw [Zcr hoa] at cA;have hf:=hno fun h=>hoa h.oka;rw [hf];refine fC @tmz (cA) ?_;refine fR @tmz ?_;refine fB @tmz ?_;by_cases hob:okW g ws vs b
  ·rw [ZcH hob] at cB;refine fC @tmz (cB) ?_;refine fR @tmz ?_;exact fT @tmz
  ·rw [Zcr hob] at cB;refine fC @tmz (cB) ?_;refine fR @tmz ?_;exact fT @tmz
 rw [ZcH hoa] at cA;refine fC @tmz (cA) ?_;refine fR @tmz ?_;refine fB @tmz ?_;by_cases hob:okW g ws vs b;rotate_left
 ·rw [Zcr hob] at cB;have hf:=hno fun h=>hob h.okb;rw [hf];refine fC @tmz (cB) ?_;refine fR @tmz ?_;exact fT @tmz
 rw [ZcH hob] at cB;refine fC @tmz (cB) ?_;refine fR @tmz ?_;by_cases hlt:wN g ws b < wN g ws a;rotate_left
 ·have q1:(wN g ws a<=wN g ws b)=True:=eq_true om;have hf:=hno fun h=>hlt h.lt;exact fT (aj3 @tmz @q1 @hf)
 have q1:(wN g ws a<=wN g ws b)=False:=eq_false om;refine fG (ai @tmz @q1) ?_;have F:=@e0P;refine gL (ι:=Nat) [8,18,78,79,89] [] (fun j=>[(78,A.d (.one (.lit (.int .i64 j))))]) (fun j=>[]) (fun j=>j<=vs.length∧∀ (i:Nat) v,i < j->vs[i]?=some v->wF g ws v b<=wF g ws v a) (fun j=>vs.length - j) (0) (⟨Taj _,fun i v h=>absurd h om⟩) (fun j hj=>?_);clear F;obtain ⟨hjl,hall2⟩:=hj;by_cases hlj:j < vs.length
 ·have q2:(j:Int) < (vs.length:Int):=om;obtain ⟨v,hv⟩:∃ v,vs[j]?=some v:=⟨_,Taa hlj⟩;have hwj:=Zaq (k:=j) om;have hvm:=Tac hv;have m1:=ZcN (f:=fun v=>wF g ws v a) hv;have m2:=ZcN (f:=fun v=>wF g ws v b) hv;have m3:=Zdk (f:=fun v=>wF g ws v a) (vs:=vs);have m4:=Zdk (f:=fun v=>wF g ws v b) (vs:=vs);by_cases hF:wF g ws v b<=wF g ws v a;rotate_left
  ·have q5:(wF g ws v a < wF g ws v b)=True:=eq_true om;have hf:=hno fun h=>hF (h.all v hvm);exact fT (aj8 @tmz @q2 @m1 @m2 @m3 @m4 @q5 @hf)
  have q5:(wF g ws v a < wF g ws v b)=False:=eq_false om;have hq:j+1<=vs.length∧∀ (i:Nat) v,i < j+1->vs[i]?=some v->wF g ws v b<=wF g ws v a:=⟨hlj,fun i u hi hu=>by
   by_cases hij:i=j
   ·subst hij;rw [hv] at hu;injection hu with hu;subst hu;exact hF
   ·exact hall2 i u om hu⟩
  have F:=aj8 @tmz @q2 @m1 @m2 @m3 @m4 @q5 @hwj;refine gG ?_;exact ⟨j+1,hq,gw,gw,om⟩
 obtain rfl:j=vs.length:=by omega
 have q2:¬ ((vs.length:Int) < (vs.length:Int)):=om;have ht:=hyes ⟨hsub,hoa,hob,hlt,fun v hv=>by obtain ⟨i,hi⟩:=Tbk hv;exact hall2 i v (Tad.1 hi).1 hi⟩;exact fT (aj3 @tmz @q2 @ht)
end
def smV:List Tm->(Tm->Int)->Int
 | [],_=>0
 | v::V,h=>h v+smV V h
theorem ZrB {h k:Tm->Int}:∀ {V:List Tm},smV V (fun v=>h v+k v)=smV V h+smV V k
 | []=>rfl
 | v::V=>by simp only [smV,ZrB (V:=V)];omega
theorem ZrC {c:Int} {h:Tm->Int}:∀ {V:List Tm},smV V (fun v=>c * h v)=c * smV V h
 | []=>by simp [smV]
 | v::V=>by simp only [smV,ZrC (V:=V),Int.mul_add]
theorem Zgs {h k:Tm->Int}:∀ {V:List Tm},(∀ v∈V,h v=k v)->smV V h=smV V k
 | [],_=>rfl
 | v::V,q=>by rw [smV,smV,q v Tas,Zgs (V:=V) fun u hu=>q u (Tal _ hu)]
theorem Zwp {h k:Tm->Int}:∀ {V:List Tm},(∀ v∈V,h v<=k v)->smV V h<=smV V k
 | [],_=>Int.le_refl _
 | v::V,q=>by
  have h1:=q v Tas;have h2:=Zwp (V:=V) fun u hu=>q u (Tal _ hu);rw [smV,smV];omega
theorem ZoP {h:Tm->Int} {V:List Tm} (q:∀ v∈V,h v=0):smV V h=0:=by
 induction V with
 | nil=>rfl
 | cons v V ih=>rw [smV,q v Tas,ih fun u hu=>q u (Tal _ hu)];rfl
theorem ZrD {h:Tm->Int} {t:Tm}:∀ {V:List Tm},V.Nodup->t∈V->smV V (fun v=>(if Zah v t=0 then 1 else 0) * h v)=h t
 | [],_,q=>by cases q
 | v::V,hn,q=>by
  obtain ⟨h1,h2⟩:=List.nodup_cons.1 hn;rw [smV];by_cases he:v=t
  ·subst he;rw [if_pos (Zb6 _),ZoP,Int.one_mul,Int.add_zero];intro u hu;rw [if_neg fun q=>h1 (by rw [<- ZcZ.1 q];exact hu),Int.zero_mul]
  ·rw [if_neg fun q=>he (ZcZ.1 q),ZrD h2 ((Tbg.1 q).resolve_left fun q=>he q.symm),Int.zero_mul,Int.zero_add]
theorem ZoQ {cf:Nat->Int} {f nf h:Tm->Int} {vf:Tm->Tm->Int} {k:Int} {V:List Tm} {ap:Tm->Tm}:∀ {ts:List Tm} {i:Nat},(∀ t∈ts,f (ap t)=k * nf t+smV V fun v=>vf v t * h v)->dotW cf f i (ts.map ap)=k * dotW cf nf i ts+smV V fun v=>dotW cf (vf v) i ts * h v
 | [],_,_=>by simp only [List.map_nil,dotW,Int.zero_mul,Int.mul_zero,Int.zero_add];exact (ZoP fun _ _=>rfl).symm
 | t::ts,i,q=>by
  have h1:=q t Tas;have h2:=ZoQ (cf:=cf) (i:=i+1) (ts:=ts) fun u hu=>q u (Tal _ hu);simp only [Tbu,dotW];rw [h1,h2];have e:smV V (fun v=>(cf i * vf v t+dotW cf (vf v) (i+1) ts) * h v)=cf i * smV V (fun v=>vf v t * h v)+smV V fun v=>dotW cf (vf v) (i+1) ts * h v:=by
   rw [<- ZrC,<- ZrB];exact Zgs fun v _=>by rw [Int.add_mul,Int.mul_assoc]
  rw [e,Int.mul_add,Int.mul_add,<- Int.mul_assoc,<- Int.mul_assoc k,Int.mul_comm (cf i) k];omega
theorem ZrE {cf:Nat->Int} {f:Tm->Int}:∀ {ts:List Tm} {i:Nat},(∀ j,i<=j->j < i+ts.length->1<=cf j)->(∀ t∈ts,0<=f t)->0<=dotW cf f i ts∧∀ t∈ts,f t<=dotW cf f i ts
 | [],_,_,_=>⟨Int.le_refl _,fun _ h=>by cases h⟩
 | t::ts,i,hc,hf=>by
  obtain ⟨h1,h2⟩:=ZrE (cf:=cf) (f:=f) (ts:=ts) (i:=i+1) (fun j h q=>hc j om (by simp only [Tag];omega)) fun u hu=>hf u (Tal _ hu);have h3:=hc i (Tai _) (by simp);have h4:=hf t Tas;have h5:=Zoy h3 h4;rw [dotW];refine ⟨om,fun u hu=>?_⟩;rcases Tbg.1 hu with rfl | hu
  ·omega
  ·have:=h2 u hu;omega
theorem ZmG {cf:Nat->Int} {f:Tm->Int}:∀ {ts:List Tm} {i:Nat},(∀ t∈ts,f t=0)->dotW cf f i ts=0
 | [],_,_=>rfl
 | t::ts,i,h=>by rw [dotW,h t Tas,ZmG fun u hu=>h u (Tal _ hu),Int.mul_zero,Int.add_zero]
theorem ZlY {cf:Nat->Int} {f:Tm->Int} {B:Int}:∀ {ts:List Tm} {i:Nat},(∀ j,i<=j->j < i+ts.length->0<=cf j∧cf j<=3)->(∀ t∈ts,0<=f t∧f t<=B * (sizeTm t:Int))->dotW cf f i ts<=3 * (B * (sizeTms ts:Int))
 | [],_,_,_=>by simp [dotW,sizeTms]
 | t::ts,i,hc,hf=>by
  have h2:=ZlY (cf:=cf) (f:=f) (B:=B) (ts:=ts) (i:=i+1) (fun j h q=>hc j om (by simp only [Tag];omega)) fun u hu=>hf u (Tal _ hu);have h3:=hc i (Tai _) (by simp);have h4:=hf t Tas;have h5:=Int.mul_le_mul h3.2 h4.2 h4.1 (by decide);have e:((sizeTms (t::ts):Nat):Int)=(sizeTm t:Int)+(sizeTms ts:Int):=by simp only [sizeTms];omega
  rw [dotW,e,Int.mul_add];generalize B * (sizeTm t:Int)=p at *;generalize B * (sizeTms ts:Int)=q at *;generalize cf i * f t=r at *;omega
section
variable {g:Sgn} {ws:List Wt}
def stT (l:List Bd) (v:Tm):Tm:=(ZcA l v).getD v
theorem ZrF:∀ (n:Nat) (t:Tm),sizeTm t < n->∀ v∈Zau t,v.op=-1
 | 0,_,h=>om
 | n+1,.mk op nm so args,h=>fun v hv=>by
  simp only [Zau] at hv;split at hv
  ·rw [Tbj.1 hv];rfl
  ·simp only [sizeTm] at h;have key:∀ l:List Tm,sizeTms l < n->v∈ZaC l->v.op=-1:=fun l=>by
    induction l with
    | nil=>intro _ q;cases q
    | cons x l ih =>
     intro hl q;simp only [sizeTms] at hl;rcases Tbh.1 (show v∈Zau x++ZaC l from q) with q | q
     ·exact ZrF n x om v q
     ·exact ih om q
   exact key args om hv
theorem Zja (hI:InOk g ws) {t:Tm} (h:Zaw g t):0<=wN g ws t∧∀ v,0<=wF g ws v t:=ZhB hI (sizeTm t+1) t (Tan _) h
theorem Zle (hI:InOk g ws):∀ (n:Nat) (t:Tm),sizeTm t < n->Zaw g t->∀ v,(v∈Zau t->1<=wF g ws v t)∧(v ∉ Zau t->wF g ws v t=0)
 | 0,_,h,_=>om
 | n+1,t,hn,hf=>fun v=>by
  rcases ZeN hf.node with ⟨hv,hop⟩ | ⟨hop,o,d,hap⟩
  ·rw [Zfd hop];have hs:=Zj7 hv;have e:Zau t=[t]:=by
    obtain ⟨op,nm,so,args⟩:=t;have e1:=hv.1;have e2:=hv.2.2.2.2;simp only [Tm.op,Tm.args] at e1 e2;subst e1 e2;simp [Zau]
   rw [e,Tbj];exact ⟨fun q=>by rw [if_pos (ZcZ.2 q)];exact Int.le_refl _,fun q=>if_neg fun z=>q (ZcZ.1 z)⟩
  ·have hc:=(Zgp hI hap).1;have hs:=ZaN t;have hFA:=(ZaK.1 hf).2.1;have ih:=fun u (hu:u∈t.args)=>Zle hI n u (by have:=ZaV hu;omega) (hFA u hu) v;rw [(Zi7 (g:=g) (ws:=ws) v).app t hop,Int.zero_mul,Int.zero_add];constructor
   ·intro hv;have:∃ u∈t.args,v∈Zau u:=by
     obtain ⟨op,nm,so,args⟩:=t;simp only [Tm.op] at hop;have h:¬ op=-1:=om;simp only [Zau,if_neg h] at hv;clear ih hFA hs hc hap hop hf hn h;simp only [Tm.args]
     induction args with
     | nil=>cases hv
     | cons x xs ih =>
      simp only [ZaC,Tbh] at hv;rcases hv with hv | hv
      ·exact ⟨x,Tas,hv⟩
      ·obtain ⟨u,hu,h⟩:=ih hv;exact ⟨u,Tal _ hu,h⟩
    obtain ⟨u,hu,hv⟩:=this;have h1:=(ZrE (cf:=cfW g ws t.op) (f:=wF g ws v) (ts:=t.args) (i:=0) (fun j _ q=>(hc.all j om).1) fun u hu=>(Zja hI (hFA u hu)).2 v).2 u hu;have h2:=(ih u hu).1 hv;omega
   ·intro hv;exact ZmG fun u hu=>(ih u hu).2 fun q=>hv (Zj8 hop hu v q)
theorem ZlZ (hI:InOk g ws) {k:Int} {f:Tm->Int} (hW:Wgh g ws k f) {V:List Tm} (hV:V.Nodup) {l:List Bd} (hl:∀ y∈l,TermOk g y.to):∀ (n:Nat) {t u:Tm},sizeTm t < n->TermOk g t->(∀ v∈Zau t,v∈V)->apT g l t=some u->f u=k * wN g ws t+smV V fun v=>wF g ws v t * f (stT l v)
 | 0,_,_,h,_,_,_=>om
 | n+1,t,u,hn,ht,hin,hu=>by
  rcases ZeN ht.form.node with ⟨hv,hop⟩ | ⟨hop,o,d,hap⟩
  ·rw [Zi6 hv.1] at hu;injection hu with hu
   rw [Zf0 hop,Int.mul_zero,Int.zero_add,Zgs (k:=fun v=>(if Zah v t=0 then 1 else 0) * f (stT l v)) fun v _=>by rw [Zfd hop],ZrD (h:=fun v=>f (stT l v)) hV (hin t (Zj7 hv)),<- hu];rfl
  ·rw [ZgW om] at hu;obtain ⟨us,hus,hu⟩:=Option.bind_eq_some_iff.1 hu;have hs:=ZaN t;obtain ⟨e1,hea⟩:=ZmC hus;have hut:=Zv8 hI.sgn hl (fun a ha=>ht.arg ha) hus;rw [Zla hI hW hop hap.at' hap.fst hut hu,Zj3 hus,e1];have ih:∀ a∈t.args,f (apD g l a)=k * wN g ws a+smV V fun v=>wF g ws v a * f (stT l v):=fun a ha=>by
    obtain ⟨w,hw⟩:=hea a ha;have:apD g l a=w:=by rw [apD,hw];rfl
    rw [this];exact ZlZ hI hW hV hl n (by have:=ZaV ha;omega) (ht.arg ha) (fun v hv=>hin v (Zj8 hop ha v hv)) hw
   rw [ZoQ ih,(Zk9 (g:=g) (ws:=ws)).app t hop,Int.one_mul,Int.mul_add];have e2:smV V (fun v=>wF g ws v t * f (stT l v))=smV V fun v=>dotW (cfW g ws t.op) (wF g ws v) 0 t.args * f (stT l v):=Zgs fun v _=>by rw [(Zi7 (g:=g) (ws:=ws) v).app t hop,Int.zero_mul,Int.zero_add]
   rw [e2,Int.add_assoc]
theorem ZAN (hI:InOk g ws) {a b:Tm} (ha:Zaw g a) (hb:Zaw g b) (h:GtOk g ws (ZaD a) a b) (v:Tm):wF g ws v b<=wF g ws v a:=by
 by_cases hv:v∈ZaD a
 ·exact h.all v hv
 ·have h1:v ∉ Zau b:=fun q=>hv (ZhI h.sub v q);rw [(Zle hI _ b (Tan _) hb v).2 h1];exact (Zja hI ha).2 v
theorem Zzz (hI:InOk g ws) {x y:Tm} (hx:Zaw g x) (hy:Zaw g y) (ho:okW g ws (ZaD x) x) (hlt:wN g ws y < wN g ws x) (hall:∀ v,wF g ws v y<=wF g ws v x):GtOk g ws (ZaD x) x y:=by
 refine ⟨List.all_eq_true.2 fun v hv=>ZoM.2 (Zdp.2 ?_),ho,⟨by have:=ho.1;omega,fun v hv=>Int.le_trans (hall v) (ho.2 v hv)⟩,hlt,fun v _=>hall v⟩;have h1:=(Zle hI _ y (Tan _) hy v).1 (Zdp.1 hv);have h2:=hall v;refine Classical.byContradiction fun q=>?_;rw [(Zle hI _ x (Tan _) hx v).2 q] at h2;omega
theorem ZxS {a b x y:Tm} {l:List Bd} (hI:InOk g ws) (h:GtOk g ws (ZaD a) a b) (ha:TermOk g a) (hb:TermOk g b) (hl:∀ y∈l,TermOk g y.to) (hx:apT g l a=some x) (hy:apT g l b=some y) (ho:okW g ws (ZaD x) x):GtOk g ws (ZaD x) x y:=by
 have hg:=hI.sgn;have hxo:=ZfZ hg hl _ a (Tan _) ha hx;have hyo:=ZfZ hg hl _ b (Tan _) hb hy;have hin:∀ v∈Zau a,v∈ZaD a:=fun v hv=>ZhG hv;have hinb:=ZhI h.sub;have hst:∀ v∈ZaD a,0<=wN g ws (stT l v)∧∀ z,0<=wF g ws z (stT l v):=fun v hv=>by
  unfold stT;rcases hq:ZcA l v with _ | w
  ·have hop:=ZrF _ a (Tan _) v (Zdp.1 hv);have hop:v.op < 0:=om;refine ⟨by rw [Option.getD_none,Zf0 hop];exact Int.le_refl _,fun z=>?_⟩;rw [Option.getD_none,Zfd hop];split <;> decide
  ·exact Zja hI (ZlV hl hq).form
 have key:∀ {k:Int} {f:Tm->Int},Wgh g ws k f->(∀ v∈ZaD a,0<=f (stT l v))->f y+k * (wN g ws a - wN g ws b)<=f x:=fun {k f} hW hf=>by
  rw [ZlZ hI hW (Zf5 a) hl _ (Tan _) ha hin hx,ZlZ hI hW (Zf5 a) hl _ (Tan _) hb hinb hy];have:=Zwp (V:=ZaD a) (h:=fun v=>wF g ws v b * f (stT l v)) (k:=fun v=>wF g ws v a * f (stT l v)) fun v hv=>Int.mul_le_mul_of_nonneg_right (h.all v hv) (hf v hv);rw [Int.mul_sub];omega
 refine Zzz hI hxo.form hyo.form ho ?_ fun v=>?_
 ·have:=key Zk9 fun v hv=>(hst v hv).1;have:=h.lt;omega
 ·have:=key (Zi7 v) fun u hu=>(hst u hu).2 v;omega
theorem ZAc {a b u v:Tm} {op:Int} {o:Opr} {d:Dcl} (hI:InOk g ws) (h:GtOk g ws (ZaD a) a b) (ha:TermOk g a) (hb:TermOk g b) (h0:0<=op) (ho:g.ops[op.toNat]?=some o) (hd:o.decls[0]?=some d) (hu:mkT g op [a]=some u) (hv:mkT g op [b]=some v) (hok:okW g ws (ZaD u) u):GtOk g ws (ZaD u) u v:=by
 have hg:=hI.sgn;have hul:∀ {c:Tm},TermOk g c->∀ x∈[c],TermOk g x:=fun hc x hx=>by rw [Tbj.1 hx];exact hc
 have e:∀ {k:Int} {f:Tm->Int},Wgh g ws k f->f u=k * bsW g ws op 1+(cfW g ws op 0 * f a)∧f v=k * bsW g ws op 1+(cfW g ws op 0 * f b):=fun hW=>⟨by rw [Zla hI hW h0 ho hd (hul ha) hu];simp [dotW],by rw [Zla hI hW h0 ho hd (hul hb) hv];simp [dotW]⟩;have hc:1<=cfW g ws op 0:=by
  have hu':=hu;rw [Ziq ho hd] at hu';obtain ⟨hA,_⟩:=Zov hu';have hac:o.assoc=false:=by
   cases q:o.assoc with
   | false=>rfl
   | true=>exact absurd (.inl ⟨q,Tan 1⟩) hA
  have hal:d.args.length=1:=Decidable.byContradiction fun q=>hA (.inr ⟨hac,fun z=>q z.symm⟩);obtain ⟨w,hw⟩:∃ w,ws[op.toNat]?=some w:=⟨_,Taa (by rw [hI.len];exact (Tad.1 ho).1)⟩;have hwt:=hI.all _ o w ho hw;have hl:=hwt.len d hd;rw [cfW,ZlX ho,hac];simp only [Tam,if_false,hw,Option.map_some,Option.getD_some];rw [List.getD_eq_getElem?_getD,Taa om];exact (hwt.all _ (List.getElem_mem _)).1
 refine Zzz hI (Zfc hg h0 (hul ha) hu).form (Zfc hg h0 (hul hb) hv).form hok ?_ fun z=>?_
 ·obtain ⟨e1,e2⟩:=e Zk9;rw [e1,e2];have:=Int.mul_lt_mul_of_pos_left h.lt (show 0 < cfW g ws op 0 by omega);omega
 ·obtain ⟨e1,e2⟩:=e (Zi7 z);rw [e1,e2];have:=Int.mul_le_mul_of_nonneg_left (ZAN hI ha.form hb.form h z) (show 0<=cfW g ws op 0 by omega);omega
theorem cf_3 {op:Int} (h3:∀ w∈ws,∀ c∈w.coefs,c<=3) (i:Nat):cfW g ws op i<=3:=by
 rw [cfW];split
 ·decide
 rcases hw:ws[op.toNat]? with _ | w
 ·simp
 ·simp only [Option.map_some,Option.getD_some];rw [List.getD_eq_getElem?_getD];rcases hc:w.coefs[i]? with _ | c
  ·simp
  ·exact h3 w (Tac hw) c (Tac hc)
theorem ZrG (hI:InOk g ws) (h3:∀ w∈ws,∀ c∈w.coefs,c<=3):∀ (n:Nat) (t:Tm),depthTm t<=n->Zaw g t->wN g ws t<=(700 * 3 ^ n:Nat) * (sizeTm t:Int)∧∀ v,wF g ws v t<=(700 * 3 ^ n:Nat) * (sizeTm t:Int)
 | 0,t,h,_=>by have:=Zcy t;omega
 | n+1,t,hn,hf=>by
  have hp:1<=3 ^ n:=Nat.one_le_pow _ _ (by decide);have hps:3 ^ (n+1)=3 * 3 ^ n:=by rw [Nat.pow_succ,Nat.mul_comm]
  have hs:=ZaN t;have hdt:=Zcy t;generalize hB:3 ^ n=B at *;have hB2:((700 * 3 ^ (n+1):Nat):Int)=2100 * (B:Int):=by rw [hps];omega
  have hmul:2100 * (B:Int) * (sizeTm t:Int)=3 * ((700 * B:Nat):Int) * (sizeTms t.args:Int)+2100 * (B:Int):=by
   rw [hs];have e1:((1+sizeTms t.args:Nat):Int)=1+(sizeTms t.args:Int):=om;have e2:3 * ((700 * B:Nat):Int)=2100 * (B:Int):=om;rw [e1,e2,Int.mul_add,Int.mul_one];omega
  rw [hB2,hmul];have hnn:0<=3 * ((700 * B:Nat):Int) * (sizeTms t.args:Int):=Int.mul_nonneg om om;rcases ZeN hf.node with ⟨hv,hop⟩ | ⟨hop,o,d,hap⟩
  ·refine ⟨by rw [Zf0 hop];omega,fun v=>?_⟩;rw [Zfd hop];split <;> omega
  ·obtain ⟨hc,hb0,hb⟩:=Zgp hI hap;have hFA:=(ZaK.1 hf).2.1;have hcf:∀ j,0<=j->j < 0+t.args.length->0<=cfW g ws t.op j∧cfW g ws t.op j<=3:=fun j _ hj=>⟨by have:=(hc.all j om).1;omega,cf_3 h3 j⟩;have ih:=fun u (hu:u∈t.args)=>ZrG hI h3 n u (by have:=ZdN hu;omega) (hFA u hu);rw [hB] at ih;have hA:3 * ((700 * B:Nat):Int) * (sizeTms t.args:Int)=3 * (((700 * B:Nat):Int) * (sizeTms t.args:Int)):=Int.mul_assoc _ _ _
   rw [hA];refine ⟨?_,fun v=>?_⟩
   ·rw [(Zk9 (g:=g) (ws:=ws)).app t hop,Int.one_mul];have:=ZlY (B:=((700 * B:Nat):Int)) hcf fun u hu=>⟨(Zja hI (hFA u hu)).1,(ih u hu).1⟩;omega
   ·rw [(Zi7 (g:=g) (ws:=ws) v).app t hop,Int.zero_mul,Int.zero_add];have:=ZlY (B:=((700 * B:Nat):Int)) hcf fun u hu=>⟨(Zja hI (hFA u hu)).2 v,(ih u hu).2 v⟩;omega
theorem Zsy {a u:Tm} {op:Int} {o:Opr} {d:Dcl} (hI:InOk g ws) (h3:∀ w∈ws,∀ c∈w.coefs,c<=3) (ha:TermOk g a) (h4:depthTm a<=4) (h0:0<=op) (ho:g.ops[op.toNat]?=some o) (hd:o.decls[0]?=some d) (hu:mkT g op [a]=some u) (vs:List Tm):okW g ws vs u:=by
 have hul:∀ x∈[a],TermOk g x:=fun x hx=>by rw [Tbj.1 hx];exact ha
 have hut:=Zfc hI.sgn h0 hul hu;have e:∀ {k:Int} {f:Tm->Int},Wgh g ws k f->f u=k * bsW g ws op 1+(cfW g ws op 0 * f a):=fun hW=>by rw [Zla hI hW h0 ho hd hul hu];simp [dotW]
 have hb:=ZrG hI h3 4 a h4 ha.form;have hw:=Zja hI ha.form;have hsz:=ha.size;have hbs:bsW g ws op 1<=100:=by
  obtain ⟨w,hw⟩:∃ w,ws[op.toNat]?=some w:=⟨_,Taa (by rw [hI.len];exact (Tad.1 ho).1)⟩;have hwt:=hI.all _ o w ho hw;have hhi:=hwt.hi;rw [bsW,hw,ZlX ho]
  cases o.assoc <;> simp <;> omega
 have e7:((700 * 3 ^ 4:Nat):Int)=56700:=by decide
 rw [e7] at hb;have hm:∀ x:Int,0<=x->x<=56700 * (sizeTm a:Int)->cfW g ws op 0 * x<=10206000:=fun x h1 h2=>by
  have:=Int.mul_le_mul (cf_3 (g:=g) (op:=op) h3 0) (show x<=3402000 by omega) h1 (by decide);omega
 refine ⟨?_,fun v _=>?_⟩
 ·rw [e Zk9];have:=hm _ hw.1 hb.1;omega
 ·rw [e (Zi7 v)];have:=hm _ (hw.2 v) (hb.2 v);omega
end
end Go.Proofs.YtmdkimnlbaahbaaGreat
namespace Go.Proofs.YtmdkimnlbaahbaaGreat
open Go.Shelf
end Go.Proofs.YtmdkimnlbaahbaaGreat
namespace Go.Proofs.YtmdkimnlbaahbaaGreat
open Go.RowKit
theorem ZxV {p m:Nat} (h:p &&& m=p) (hp:p≠0) (hm:p≠m):1<=m ^^^ p∧m ^^^ p < m:=by
 have h1:=Zon hm;have h2:=(Zru h).2;have h3:m ^^^ p<=m:=by
  have h4:m ^^^ p<=p ||| (m ^^^ p):=Nat.right_le_or;rw [h2] at h4;exact h4
 have h4:m ^^^ p≠m:=fun e=>hp (by
  have:m ^^^ (m ^^^ p)=m ^^^ m:=by rw [e]
  rw [<- Nat.xor_assoc,Nat.xor_self,Nat.zero_xor] at this;exact this)
 omega
section
variable {g:Sgn} {mc:C}
end
section
variable {g:Sgn}
theorem Zws (hg:SgnOk g) {op:Int} {o:Opr} (h0:0<=op) (ho:g.ops[op.toNat]?=some o) (ha:o.assoc=true) (sets:List Nat) (hn1:1<=sets.length) (hn7:sets.length<=7) (hs:∀ s∈sets,s < 2 ^ g.sorts.names.length):Con e0 130 [.agg (Zaf g),.one (.lit (.int .i64 op)),.one (.sl (nR sets))] [.one (.lit (.int .i64 ((bvN g (Rel2 g o) sets (2 ^ sets.length - 1):Nat):Int)))]:=by
 have hN:=hg.sorts.n8;have rl:=Za7 (l:=sets);have rr:=Za0 (l:=sets);have hdeg:=Opr.deg2 hg ho (.inl ha);have cU:=ZfT hg.sorts.n8 hg.sorts.m16 (SortsOk.subsIn hg.sorts.subs);rw [Za3] at cU;have hRlt:=fun a c b (h:Rel2 g o a c b)=>Rel2.lt hg (Tac ho) h;have hany:∀ s t,ofB (Zdb g o [s,t]) g.sorts.names.length=ofB (fun b=>Two (Rel2 g o) s t b) g.sorts.names.length:=fun s t=>ZbF fun b _=>Zoo hdeg;have cG:=fun l=>ZhO hg (Tac ho) l
 generalize hRR:Rel2 g o=R at hRlt hany ⊢;have hcv:∀ m,bvN g R sets m < 2 ^ g.sorts.names.length:=fun m=>ZcM _ _;have cB:=Zgi (k:=sets.length) om;have hT0:=BagT.start (g:=g) (R:=R) (sets:=sets);have hpow:∀ q,2 ^ q < 2 ^ sets.length->q < sets.length:=fun q h=>(Nat.pow_lt_pow_iff_right om).1 h;have hZ1:2 ^ 1<=2 ^ sets.length:=Tbs om hn1;have hZ7:2 ^ sets.length<=2 ^ 7:=Tbs om hn7;have hBl:=fun M T (h:BagT g R sets M T)=>h.1
 have hBn:=fun M T (h:BagT g R sets M T)=>h.next;have hB0:=fun M T (h:BagT g R sets M T)=>h.zero;have hBg:=fun M T (h:BagT g R sets M T)=>h.2;generalize hZ:2 ^ sets.length=Z at cB hT0 hpow hZ1 hZ7 hBl hBn hB0 hBg ⊢;have hmx:((Z:Int)<=(maxApp:Int))=True:=eq_true (by unfold maxApp;omega);rw [Zaf];refine gI (ts:=[.slot 6]) 281509890105295 Tryz.func130 ?_;refine fN 2 (ai @rl @tmz) ?_;refine gB ?_;refine fC @tmz (cU) ?_
 refine fR @tmz ?_;refine Zhf ?_;refine gB ?_;refine fC @tmz (cB) ?_;refine fR (aj4 @hmx @Tbw @nR_0 @tmz) ?_;refine fG (ai @ZaW @tmz) ?_;generalize List.replicate Z 0=T0 at hT0 ⊢;have F:=@tmz;refine gL (ι:=Nat × List Nat) [9,10,11,12,24,29,35,48] [9] (fun x=>[(10,A.d (.one (.lit (.int .i64 x.1)))),(9,.buf 9)]) (fun x=>[(9,.buf none 3 1 (nR x.2))]) (fun x=>1<=x.1∧x.1<=Z∧BagT g R sets x.1 x.2) (fun x=>Z - x.1) ((1,T0)) (⟨Tai _,om,hT0⟩) (fun x hx=>?_);clear F
 clear hT0 T0;obtain ⟨m,T⟩:=x;obtain ⟨hm1,hm2,hT⟩:=hx;simp only at hm1 hm2 hT;dsimp only;refine fN 5 @tmz ?_;refine gB ?_;refine fC @tmz (cB) ?_;by_cases hmZ:m < Z;rotate_left
 ·obtain rfl:m=Z:=by omega
  have nl:=Za7 (l:=T);rw [hBl _ _ hT] at nl;have nr:=Za0 (l:=T);have q1:=lF m m;have hg2:=Zbd ((hBg _ _ hT (m - 1) om om).1 om);have w1:IntKind.i64.wrap ((m:Int) - 1)=((m - 1:Nat):Int):=Za2 om om om;have i1:(m - 1 < m)=True:=eq_true om;refine fR (ai @q1 @tmz) ?_;refine fN 16 @tmz ?_;refine gB ?_;refine fC @tmz (cB) ?_;refine fR (aj7 @nl @nr @hg2 @w1 @i1 @ZaW @tmz) ?_;exact fD @tmz
 have q1:=lT m Z;have hw:=Zaq (k:=m) om;have w1:IntKind.i64.wrap ((m:Int) - 1)=((m - 1:Nat):Int):=Za2 om om om;have ba2:=Zhh (a:=m - 1) (b:=m) om om;have i0:(m < Z)=True:=eq_true hmZ;have hz:=hB0 _ _ hT hm1 hmZ;have hzz:nR (T.set m 0)=nR T:=by rw [hz]
 have hT2:=hBn _ _ hT hmZ;refine fR (ai @q1 @tmz) ?_;refine fG @tmz ?_;have F:=ai @hzz @tmz;refine gL (ι:=Nat × Nat) [9,11,29,35] [9] (fun y=>[(11,A.d (.one (.lit (.int .i64 y.1)))),(9,.buf 9)]) (fun y=>[(9,.buf none 3 1 (nR (T.set m y.2)))]) (fun y=>y.1<=sets.length∧(∀ q,m=2 ^ q->(q < y.1->y.2=bvN g R sets m))∧((∀ q,q < y.1->m≠2 ^ q)->y.2=0)) (fun y=>sets.length - y.1) ((0,0)) (⟨om,fun q _ h=>om,fun _=>rfl⟩) (fun y hy=>?_);clear F
 obtain ⟨i,v⟩:=y;obtain ⟨hi,hv1,hv2⟩:=hy;simp only at hi hv1 hv2;dsimp only;by_cases hil:i < sets.length
 ·have q3:=lT i sets.length;have hwi:=Zaq (k:=i) om;have cBi:=Zgi (k:=i) om;refine fN 10 (ai @q3 @tmz) ?_;refine gB ?_;refine fC @tmz (cBi) ?_;by_cases e:m=2 ^ i
  ·have q4:((m:Int)=((2 ^ i:Nat):Int))=True:=eq_true (by rw [e]);obtain ⟨s,hsi⟩:∃ s,sets[i]?=some s:=⟨_,Taa hil⟩;have hbv:bvN g R sets m=s:=by rw [e];unfold bvN;exact Zz5 hsi (hs s (Tac hsi))
   have r1:=Zbd hsi;have nl:=Za7 (l:=T.set m v);rw [Taz,hBl _ _ hT] at nl;have nr:=Za0 (l:=T.set m v);have g1:(nR (T.set m v))[m]?=some [.lit (.int .i64 v)]:=Zbd (Tbn (by rw [hBl _ _ hT];exact hmZ));have ns:=fun x=>Zdf (l:=T.set m v) m x;simp only [List.set_set] at ns;have i1:(i < sets.length)=True:=eq_true hil;have hv0:(∀ q,q < i+1->m≠2 ^ q)->s=0:=fun h=>absurd e (h i om);clear cBi;generalize 2 ^ i=M at *
   refine fR (ai @q4 @tmz) ?_;have F:=aj12 @hwi @r1 @rl @rr @nl @nr @g1 @ns @i0 @i1 @ZaW @tmz;refine gG ?_;exact ⟨(i+1,s),⟨hil,fun q h1 h2=>hbv.symm,hv0⟩,gw,gw,om⟩
  have q4:((m:Int)=((2 ^ i:Nat):Int))=False:=eq_false om
  have hv3:∀ q,m=2 ^ q->(q < i+1->v=bvN g R sets m):=fun q h1 h2=>hv1 q h1 (by
   by_cases h3:q=i
   ·subst h3;exact absurd h1 e
   ·omega)
  have hv4:(∀ q,q < i+1->m≠2 ^ q)->v=0:=fun h=>hv2 fun q h1=>h q om;clear cBi;refine fR (ai @q4 @tmz) ?_;have F:=ai @hwi @tmz;refine gG ?_;exact ⟨(i+1,v),⟨hil,hv3,hv4⟩,gw,gw,om⟩
 obtain rfl:i=sets.length:=by omega
 have q3:=lF sets.length sets.length;have hz:=hB0 _ _ hT hm1 hmZ;have hle:(m - 1) &&& m<=m - 1:=Nat.and_le_left;refine fG (aj5 @q3 @w1 @ba2 @ZaW @tmz) ?_;by_cases hA:(m - 1) &&& m=0
 ·obtain ⟨q,rfl⟩:=ZAl om hA;have hq:=hpow q hmZ;have hv:=hv1 q rfl hq;subst hv;rw [hA];have F:=@tmz;refine gL (ι:=Nat) [12,48] [] (fun z=>[(12,A.d (.one (.lit (.int .i64 z))))]) (fun z=>[]) (fun z=>z=0) (fun z=>z) (0) (rfl) (fun z hz=>?_);clear F;subst hz;have q4:=lF 0 (0:Nat);generalize 2 ^ q=M at *;have F:=aj3 @q4 @hw @tmz;refine gG ?_;exact ⟨(M+1,T.set M (bvN g R sets M)),⟨om,om,hT2⟩,gw,gw,om⟩
 have hnp:∀ i,m≠2 ^ i:=fun i e=>hA (by subst e;exact ZAk i);have hv:=hv2 fun q _=>hnp q;subst hv;have hs0:=Zsf (R:=R) (sets:=sets) (N:=g.sorts.names.length) (m:=m) om;have hend:=ZxH (R:=R) (sets:=sets) (N:=g.sorts.names.length) (m:=m) hs hRlt hnp;have F:=@tmz;refine gL (ι:=Nat × Nat) [9,12,48] [9] (fun z=>[(12,A.d (.one (.lit (.int .i64 z.1)))),(9,.buf 9)]) (fun z=>[(9,.buf none 3 1 (nR (T.set m z.2)))]) (fun z=>z.1 < m∧z.1 &&& m=z.1∧z.2=ofB (Zgm R sets g.sorts.names.length m z.1) g.sorts.names.length) (fun z=>z.1) (((m - 1) &&& m,0)) (⟨om,by rw [Nat.and_assoc,Nat.and_self],hs0.symm⟩) (fun z hz=>?_);clear F
 obtain ⟨p,v⟩:=z;obtain ⟨hp1,hp2,hv⟩:=hz;simp only at hp1 hp2 hv;dsimp only;by_cases hp0:p=0
 ·subst hp0;have q3:=lF 0 (0:Nat);have e:v=bvN g R sets m:=by rw [hv,hend];rfl
  subst e;have F:=aj3 @q3 @hw @tmz;refine gG ?_;exact ⟨(m+1,T.set m (bvN g R sets m)),⟨om,om,hT2⟩,gw,gw,om⟩
 have q3:=lT 0 p;have wp:IntKind.i64.wrap ((p:Int) - 1)=((p - 1:Nat):Int):=Za2 om om om;have bap:=Zhh (a:=p - 1) (b:=m) om om;have bx:=ZxU (a:=m) (b:=p) om om;have hxp:=ZxV hp2 hp0 om;have hp3:(p - 1) &&& m<=p - 1:=Nat.and_le_left;have hTp:=(hBg _ _ hT p om om).1 hp1;have hTx:=(hBg _ _ hT (m ^^^ p) hxp.1 om).1 hxp.2;have e:=fun b=>ZvV (R:=R) (sets:=sets) (N:=g.sorts.names.length) (m:=m) (p:=p) (b:=b) hp0 om hp2
 have e:v ||| ofB (fun b=>Two R (bvN g R sets p) (bvN g R sets (m ^^^ p)) b) g.sorts.names.length=ofB (Zgm R sets g.sorts.names.length m ((p - 1) &&& m)) g.sorts.names.length:=by
  rw [hv,Zit];exact ZbF fun b _=>(e b).symm
 have cR:=cG [bvN g R sets p,bvN g R sets (m ^^^ p)] (fun d hd=>hdeg d hd) (by simp) (fun s hs=>by
  simp only [Tbg,List.not_mem_nil,or_false] at hs;rcases hs with rfl | rfl <;> exact hcv _)
 rw [hany] at cR;have cR:=ZiH cR;have hv62:v < 4611686018427387904:=by rw [hv];exact ZcI (ZcM _ _) hN
 have hor:=Zep hv62 (ZcI (ZcM (fun b=>Two R (bvN g R sets p) (bvN g R sets (m ^^^ p)) b) g.sorts.names.length) hN);rw [e] at hor;generalize ofB (fun b=>Two R (bvN g R sets p) (bvN g R sets (m ^^^ p)) b) g.sorts.names.length=tw at cR hor;have nl:=Za7 (l:=T.set m v);rw [Taz,hBl _ _ hT] at nl;have nr:=Za0 (l:=T.set m v);have g1:(nR (T.set m v))[m]?=some [.lit (.int .i64 v)]:=Zbd (Tbn (by rw [hBl _ _ hT];exact hmZ))
 have g2:(nR (T.set m v))[p]?=some [.lit (.int .i64 (bvN g R sets p))]:=Zbd (by rw [Tbo om];exact hTp);have g3:(nR (T.set m v))[m ^^^ p]?=some [.lit (.int .i64 (bvN g R sets (m ^^^ p)))]:=Zbd (by rw [Tbo om];exact hTx);have ns:=fun x=>Zdf (l:=T.set m v) m x;simp only [List.set_set] at ns;have i2:(p < Z)=True:=eq_true om;have i3:(m ^^^ p < Z)=True:=eq_true om;clear e hv hend;refine fN 15 (ai @q3 @tmz) ?_
 refine gB ?_;refine fC (aj14 @nl @nr @g1 @g2 @g3 @i0 @i2 @i3 @bx @h0 @ho @Zae @ZaW @tmz) (cR) ?_;refine fR (aj8 @nl @nr @g1 @hor @ns @i0 @ZaW @tmz) ?_;have F:=aj3 @wp @bap @tmz;refine gG ?_;exact ⟨((p - 1) &&& m,ofB (Zgm R sets g.sorts.names.length m ((p - 1) &&& m)) g.sorts.names.length),⟨om,by rw [Nat.and_assoc,Nat.and_self],rfl⟩,gw,gw,om⟩
end
section
variable {g:Sgn}
theorem AppOk.len7 (hg:SgnOk g) {t:Tm} {o:Opr} {d:Dcl} (hA:AppOk g t o d):t.args.length<=7:=by
 cases ha:o.assoc with
 | true=>exact (hA.asc ha).2
 | false =>
  rw [hA.nas ha];have:=(hg.decls o (Tac hA.at')).ar d hA.fst;omega
theorem AppOk.dlen (hg:SgnOk g) {t:Tm} {o:Opr} {d:Dcl} (hA:AppOk g t o d) (ha:o.assoc=false):∀ f∈o.decls,f.args.length=t.args.length:=by
 intro f hf;rw [hA.nas ha];exact ((hg.decls o (Tac hA.at')).all d hA.fst f hf).len
theorem ZsB {t a:Tm} {i:Nat} (h:t.args[i]?=some a):(t.args.take i).map (sortsTm g)++[sortsTm g a]=(t.args.take (i+1)).map (sortsTm g):=by
 rw [List.take_add_one,h,Tbv];rfl
theorem ZjK (hg:SgnOk g):∀ (n:Nat) {t:Tm},sizeTm t < n->Zaw g t->Con e0 110 [.agg (Zaf g),.agg (Zaa t)] [.one (.lit (.int .i64 ((sortsTm g t:Nat):Int)))]:=by
 intro n
 induction n with
 | zero=>exact fun {t} h _=>absurd h om
 | succ n IH =>
 intro t hsz hf;obtain ⟨hnode,hargs,_⟩:=ZaK.1 hf;have cU:=ZfT hg.sorts.n8 hg.sorts.m16 (SortsOk.subsIn hg.sorts.subs);rw [Za3] at cU;by_cases hop:t.op=-1
 ·have hv:ZcQ g t:=hnode.resolve_right fun ⟨o,d,hA⟩=>by have:=hA.lo;omega
  have q1:(t.op=-1)=True:=eq_true hop;obtain ⟨k,hk⟩:∃ k:Nat,t.sort=k:=⟨t.sort.toNat,by have:=hv.2.2.1;omega⟩;have hgk:=ZlU hg.sorts hv.2.2.1 hv.2.2.2.1;have hgk:=Zbd hgk.1;have e:=ZjB (g:=g) hop;rw [e];have ul:=Za7 (l:=up g.sorts);rw [(Zft (SortsOk.subsIn hg.sorts.subs)).1] at ul;have ur:=Za0 (l:=up g.sorts);have i0:0<=t.sort:=hv.2.2.1;have i1:(t.sort.toNat < g.sorts.names.length)=True:=eq_true (by have:=hv.2.2.2.1;omega)
  rw [Zaf];refine gI (ts:=[.slot 4]) 4629704814991770879 Tryz.func110 ?_;refine fN 2 (ai @q1 @tmz) ?_;refine gB ?_;refine fC @tmz (cU) ?_;refine fR (aj6 @i0 @i1 @ul @ur @hgk @tmz) ?_;exact fD @tmz
 have q1:(t.op=-1)=False:=eq_false hop;obtain ⟨o,d,hA⟩:∃ o d,AppOk g t o d:=hnode.resolve_left fun hv=>hop hv.1;have h0:=hA.lo;have ho:=hA.at';have h7:=hA.len7 hg
 have ih:∀ a∈t.args,Con e0 110 [.agg (Zaf g),.agg (Zaa a)] [.one (.lit (.int .i64 ((sortsTm g a:Nat):Int)))]:=fun a ha=>IH (by
  have h1:=ZaN t;have h2:=ZaV ha;omega) (hargs a ha)
 clear IH;have e:=ZjC hop ho;rw [e];have hss:∀ s∈t.args.map (sortsTm g),s < 2 ^ g.sorts.names.length:=fun s hs=>by
  obtain ⟨a,ha,rfl⟩:=Tbi.1 hs;exact Zfw hg (hargs a ha).node
 have hsl:(t.args.map (sortsTm g)).length=t.args.length:=Tay _;have cB:=fun (ha:o.assoc=true)=>Zws hg h0 ho ha (t.args.map (sortsTm g)) (by rw [hsl];have:=(hA.asc ha).1;omega) (by rw [hsl];exact h7) hss;have cC:=fun (ha:o.assoc=true)=>ZpQ hg h0 ho ha (t.args.map (sortsTm g)) (by rw [hsl];have:=(hA.asc ha).1;omega) (by rw [hsl];exact h7) hss;rw [Zaf] at ih cB cC ⊢;have hn0:nR []=[]:=rfl;have ht0:t.args.take 0=[]:=rfl
 refine gI (ts:=[.slot 4]) 4629704814991770879 Tryz.func110 ?_;refine fG (ai @q1 @tmz) ?_;have F:=aj3 @hn0 @ht0 @tmz;refine gL (ι:=Nat) [5,6,23] [5] (fun i=>[(6,A.d (.one (.lit (.int .i64 i)))),(5,.buf 5)]) (fun i=>[(5,.buf none 3 1 (nR ((t.args.take i).map (sortsTm g))))]) (fun i=>i<=t.args.length) (fun i=>t.args.length - i) (0) (Taj _) (fun i hi=>?_);clear F;have nl:=Za7 (l:=(t.args.take i).map (sortsTm g))
 rw [Tay,List.length_take_of_le hi] at nl;have nr:=Za0 (l:=(t.args.take i).map (sortsTm g));by_cases hil:i < t.args.length
 ·have q2:=lT i t.args.length;obtain ⟨a,hai⟩:∃ a,t.args[i]?=some a:=⟨_,Taa hil⟩;have cA:=ih a (Tac hai);have ns:=Zi0 (l:=(t.args.take i).map (sortsTm g)) (sortsTm g a);rw [ZsB hai] at ns;have hmx:(i+1<=maxApp)=True:=eq_true (by unfold maxApp;omega);have hw:=Zaq (k:=i) om;refine fN 7 (ai @q2 @tmz) ?_;refine gB ?_;refine fC (aj3 @hai @ZaW @tmz) (cA) ?_;refine fR (aj5 @nl @nr @ns @hmx @tmz) ?_;have F:=ai @hw @tmz;refine gG ?_;exact ⟨i+1,hil,gw,gw,om⟩
 obtain rfl:i=t.args.length:=by omega
 have q2:=lF t.args.length t.args.length;rw [Tap] at nl nr ⊢;have hlt:=fun b=>Zfw hg (t:=b);have hD:=hA.dlen hg;rw [<- hsl] at hD;have cF:=fun (ha:o.assoc=false)=>ZjJ hg h0 ho (t.args.map (sortsTm g)) (hD ha);have h2:=Opr.deg2 hg ho;rw [Zaf] at cF;clear hi hil
 cases ha:o.assoc with
 | true =>
  cases hc:o.comm with
  | true =>
   have cB:=cB ha;have e2:bvN g (Rel2 g o) (t.args.map (sortsTm g)) (2 ^ (t.args.map (sortsTm g)).length - 1)=appS g o (t.args.map (sortsTm g)):=by
    unfold bvN appS;exact ZbF fun b _=>by unfold AppB;rw [if_pos ha,if_pos hc]
   rw [e2] at cB;refine fN 10 (aj7 @q2 @ha @hc @h0 @ho @Zae @tmz) ?_;refine gB ?_;refine fC @tmz (cB) ?_;refine fR @tmz ?_;exact fD @tmz
  | false =>
   have cC:=cC ha;have e2:cvN g o (t.args.map (sortsTm g)) 0 (t.args.map (sortsTm g)).length=appS g o (t.args.map (sortsTm g)):=by
    unfold cvN appS;exact ZbF fun b _=>by unfold AppB;rw [if_pos ha,if_neg (by simp [hc])]
   rw [e2] at cC;refine fN 12 (aj7 @q2 @ha @hc @h0 @ho @Zae @tmz) ?_;refine gB ?_;refine fC @tmz (cC) ?_;refine fR @tmz ?_;exact fD @tmz
 | false =>
  have h3:t.args.length<=3:=by
   rw [hA.nas ha];exact (hg.decls o (Tac ho)).ar d hA.fst
  have cF:=cF ha (by rw [hsl];exact h3) hss
  cases hc:o.comm with
  | true =>
   have e2:ofB (Zdb g o (t.args.map (sortsTm g))) g.sorts.names.length ||| ofB (Zdb g o (t.args.map (sortsTm g)).reverse) g.sorts.names.length=appS g o (t.args.map (sortsTm g)):=by
    unfold appS;rw [Zit];exact ZbF fun b _=>by unfold AppB AnyB;rw [if_neg (by simp [ha]),hc];simp
   have hor:=Zep (ZcI (ZcM (Zdb g o (t.args.map (sortsTm g))) g.sorts.names.length) hg.sorts.n8) (ZcI (ZcM (Zdb g o (t.args.map (sortsTm g)).reverse) g.sorts.names.length) hg.sorts.n8);rw [e2] at hor;have cG:=ZjJ hg h0 ho (t.args.map (sortsTm g)).reverse (by rw [List.length_reverse];exact hD ha) (by rw [List.length_reverse,hsl];exact h3) (fun s hs=>hss s (List.mem_reverse.1 hs));rw [Zaf] at cG;have hl2:(t.args.map (sortsTm g)).length=2:=by rw [hsl,hA.nas ha];exact h2 (.inr (.inl hc)) d (Tac hA.fst)
   clear e2 cB cC hD h2 ih hargs e;rw [hsl] at hl2;generalize appS g o (t.args.map (sortsTm g))=V at hor ⊢;generalize ofB (Zdb g o (t.args.map (sortsTm g))) g.sorts.names.length=V1 at hor cF;generalize ofB (Zdb g o (t.args.map (sortsTm g)).reverse) g.sorts.names.length=V2 at hor cG;have hl3:=hsl;rw [hl2] at hl3 nl;obtain ⟨s1,s2,hs12⟩:∃ s1 s2,t.args.map (sortsTm g)=[s1,s2]:=by
    match t.args.map (sortsTm g),hl3 with
    | [x,y],_=>exact ⟨x,y,rfl⟩
   rw [hs12] at cF cG nr nl ⊢;simp only [List.reverse_cons,List.reverse_nil,Tah,List.singleton_append] at cG;have cG:=ZiH cG;have g0:(nR [s1,s2])[0]?=some [.lit (.int .i64 s1)]:=rfl;have g1:(nR [s1,s2])[1]?=some [.lit (.int .i64 s2)]:=rfl;refine fN 14 (aj7 @q2 @ha @hc @h0 @ho @Zae @tmz) ?_;refine Zc4 (Ze6 [5] (by simp only [pz,↓reduceIte,Nat.reduceEqDiff,Nat.reduceAdd,Nat.reduceSub,Nat.reduceMul,Nat.reduceLeDiff,Nat.reduceBEq,Tam,decide_true,decide_false,Int.reduceLE,Int.reduceToNat,Int.reduceLT,Int.reduceEq,eq_self,Nat.reduceShiftRight,Nat.reduceAnd,Nat.reduceBneDiff,tmz];exact rfl)) fun σ' hσ=>?_
   subst hσ;refine gB ?_;refine fC @tmz (cF) ?_;refine fC (aj5 @nl @nr @g0 @g1 @tmz) (cG) ?_;refine fR (ai @hor @tmz) ?_;exact fD @tmz
  | false =>
   have e2:ofB (Zdb g o (t.args.map (sortsTm g))) g.sorts.names.length=appS g o (t.args.map (sortsTm g)):=by
    unfold appS;exact ZbF fun b _=>by unfold AppB AnyB;rw [if_neg (by simp [ha]),hc];simp
   rw [e2] at cF;refine fN 15 (aj7 @q2 @ha @hc @h0 @ho @Zae @tmz) ?_;refine gB ?_;refine fC @tmz (cF) ?_;refine fR @tmz ?_;exact fD @tmz
end
section
variable {g:Sgn}
end
section
variable {g:Sgn}
noncomputable def sortsOf (g:Sgn) (t:Tm):Nat:=if Zbq g=true∧Za8 g t=true then sortsTm g t else 0
theorem Zll (hok:Zbv g) {t:Tm} (ht:okTm t) (hb:sizeTm t<=big):Con e0 77 [.agg (Zaf g),.agg (Zaa t)] [.one (.lit (.int .i64 ((sortsOf g t:Nat):Int)))]:=by
 have cT:=ZcG hok ht hb;unfold sortsOf;by_cases h:Zbq g=true∧Za8 g t=true
 ·have e:(Zbq g && Za8 g t)=true:=by rw [h.1,h.2];rfl
  have cS:=ZjK (Zdj.1 h.1) _ (Tan _) (Zcz.1 h.2).form;rw [if_pos h];rw [e] at cT;rw [Zaf] at cT cS ⊢;refine gI (ts:=[.slot 4]) 287 Tryz.func77 ?_;refine fN 1 @tmz ?_;refine gB ?_;refine fC @tmz (cT) ?_;refine fR @tmz ?_;refine fN 3 @tmz ?_;refine gB ?_;refine fC @tmz (cS) ?_;refine fR @tmz ?_;exact fD @tmz
 ·have e:(Zbq g && Za8 g t)=false:=by
   cases h1:Zbq g with
   | false=>rfl
   | true =>
    cases h2:Za8 g t with
    | false=>rfl
    | true=>exact absurd ⟨h1,h2⟩ h
  have z0:(((0:Nat):Int))=0:=rfl;rw [if_neg h];rw [e] at cT;rw [Zaf] at cT ⊢;refine gI (ts:=[.slot 4]) 287 Tryz.func77 ?_;refine fN 1 @tmz ?_;refine gB ?_;refine fC @tmz (cT) ?_;refine fR @tmz ?_;exact fD (ai @z0 @tmz)
end
section
variable {g:Sgn} {l:List Bd}
theorem ZcQ.term {t:Tm} (h:ZcQ g t):TermOk g t:=by
 have ha0:t.args=[]:=h.2.2.2.2;have hf:Zaw g t:=ZaK.2 ⟨.inl h,(by rw [ha0];intro a ha;cases ha),.inl h.1⟩;have h1:=ZaN t;rw [ha0,Zmr] at h1;have h2:=ZkN t;exact ⟨om,om,hf⟩
theorem TermOk.var {t:Tm} (h:TermOk g t) (ho:t.op=-1):ZcQ g t:=h.form.node.resolve_right fun ⟨o,d,hA⟩=>by have:=hA.lo;omega
theorem ZpR (hok:Zbv g) (hl:Zhr l) (hv:∀ y∈l,sizeTm y.var<=big) (ht:∀ y∈l,sizeTm y.to<=big):Con e0 38 [.agg (Zaf g),.one (.sl (ZaE l))] [.one (.lit (.bool (Zbq g && ZdY g l)))]:=by
 have cS:=Zd4 hok;have bl:=Zhs l;have bg:=Zht l;have hT:=fun y (hy:y∈l)=>ZcG hok (hl y hy).1 (hv y hy);have hO:=fun y (hy:y∈l)=>Zll hok (hl y hy).2 (ht y hy);have hC:=fun y z (hy:y∈l) (hz:z∈l)=>Zd2 (hl y hy).1 (hl z hz).1;rw [Zaf] at cS hT hO ⊢;have bb:ZaM 8 (ZaE l)=true:=by
  refine List.all_eq_true.2 fun r hr=>?_;obtain ⟨y,hy,rfl⟩:=Tbi.1 hr;simp [ZbR,List.all_append,tmz]
 refine gI (ts:=[.slot 4]) 1152991873351303287 Tryz.func38 ?_;refine fN 1 @tmz ?_;refine gB ?_;refine fC @tmz (cS) ?_
 cases hs:Zbq g with
 | false =>
  refine fR @tmz ?_;exact fD @tmz
 | true =>
 rw [Bool.true_and];by_cases h8:l.length<=8;rotate_left
 ·have q1:=lT 8 l.length;have hf:ZdY g l=false:=ZjD fun h=>h8 h.len;rw [hf];refine fR (aj3 @bl @q1 @tmz) ?_;exact fD @tmz
 have q1:=lF 8 l.length;refine fR (aj3 @bl @q1 @tmz) ?_;refine fG @tmz ?_;have F:=@tmz;refine gL (ι:=Nat) [4,5,6,18,46,60] [] (fun i=>[(5,A.d (.one (.lit (.int .i64 i))))]) (fun i=>[]) (fun i=>i<=l.length∧∀ (j:Nat) y,j < i->l[j]?=some y->SbsAt g l j y) (fun i=>l.length - i) (0) (⟨Taj _,fun j y h=>absurd h om⟩) (fun i hi=>?_);clear F;obtain ⟨hi,hall⟩:=hi;by_cases hil:i < l.length;rotate_left
 ·obtain rfl:i=l.length:=by omega
  have q2:=lF l.length l.length;have hf:ZdY g l=true:=Zsg ⟨h8,fun j y hj=>hall j y (Tad.1 hj).1 hj⟩;rw [hf];exact fD (aj3 @q2 @bl @tmz)
 have q2:=lT i l.length;obtain ⟨y,hy⟩:∃ y,l[i]?=some y:=⟨_,Taa hil⟩;have hym:=Tac hy;have hbad:¬ SbsAt g l i y->ZdY g l=false:=fun h=>ZjD fun h'=>h (h'.at' i y hy);have cT:=hT y hym;have cO:=hO y hym;rw [hs,Bool.true_and] at cT;refine fN 7 (aj8 @q2 @bl @bb @bg @hy @bdz @ZaW @tmz) ?_;by_cases hop:y.var.op=-1;rotate_left
 ·have q3:(y.var.op=-1)=False:=eq_false hop;have hf:=hbad fun h=>hop h.var.1;rw [hf];exact fD (aj3 @q3 @bdz @tmz)
 have q3:(y.var.op=-1)=True:=eq_true hop;refine gB ?_;refine fC (aj3 @q3 @bdz @tmz) (cT) ?_;by_cases hTv:Za8 g y.var=true;rotate_left
 ·have hf:=hbad fun h=>hTv (Ze0 h.var.term);have hTv:Za8 g y.var=false:=by simpa using hTv
  rw [hf,hTv];refine fR (ai @bdz @tmz) ?_;exact fD @tmz
 have hvo:=(Zcz.1 hTv).var hop;have hg:=Zdj.1 hs;rw [hTv];refine fC (ai @bdz @tmz) (cO) ?_;obtain ⟨k,hk⟩:∃ k:Nat,y.var.sort=k:=⟨y.var.sort.toNat,by have:=hvo.2.2.1;omega⟩;have hk8:k < 8:=by have:=hvo.2.2.2.1;have:=hg.sorts.n8;omega
 have hso:sortsOf g y.to < 4611686018427387904:=by
  unfold sortsOf;split
  ·next h=>exact ZcI (Zfw hg (Zcz.1 h.2).form.node) hg.sorts.n8
  ·omega
 have cH:=Zeq (k:=k) hso om;have hte:tbit (sortsOf g y.to) k=true ↔ TermOk g y.to∧(sortsTm g y.to).testBit y.var.sort.toNat=true:=by
  have e:y.var.sort.toNat=k:=om;rw [tbit,e];unfold sortsOf;by_cases h:Za8 g y.to=true
  ·rw [if_pos ⟨hs,h⟩];exact ⟨fun h1=>⟨Zcz.1 h,h1⟩,fun h1=>h1.2⟩
  ·rw [if_neg fun h1=>h h1.2,Nat.zero_testBit];exact ⟨fun h1=>(by cases h1),fun h1=>absurd (Ze0 h1.1) h⟩
 rw [<- hk] at cH;refine fC (ai @bdz @tmz) (cH) ?_
 cases hb:tbit (sortsOf g y.to) k with
 | false =>
  have hf:=hbad fun h=>by rw [hte.2 ⟨h.to',h.srt⟩] at hb;cases hb
  rw [hf];refine fR (ai @bdz @tmz) ?_;exact fD @tmz
 | true =>
 obtain ⟨b1,b2⟩:=hte.1 hb;refine fR (ai @bdz @tmz) ?_;have hwi:=Zaq (k:=i) om;have hnext:(∀ (j:Nat) p,i=j+1->l[j]?=some p->Zah p.var y.var < 0)->i+1<=l.length∧∀ (j:Nat) z,j < i+1->l[j]?=some z->SbsAt g l j z:=fun ho=>⟨hil,fun j z h1 h2=>by
  by_cases e:j=i
  ·subst e;rw [hy] at h2;injection h2 with h2
   subst h2;exact ⟨hvo,ho,b1,b2⟩
  ·exact hall j z om h2⟩
 by_cases hi0:i=0
 ·subst hi0;have q4:=lF 0 (0:Nat);have F:=aj4 @q4 @hwi @bdz @tmz;refine gG ?_;exact ⟨0+1,hnext fun j p h=>absurd h om,gw,gw,om⟩
 obtain ⟨j,rfl⟩:∃ j,i=j+1:=⟨i - 1,om⟩;have q4:=lT 0 (j+1:Nat);obtain ⟨p,hp⟩:∃ p,l[j]?=some p:=⟨_,Taa om⟩;have cC:=hC p y (Tac hp) hym;have wj:IntKind.i64.wrap (((j+1:Nat):Int) - 1)=(j:Int):=Za2 om om om;have i1:(j < l.length)=True:=eq_true om;refine fN 9 @tmz ?_;refine gB ?_;refine fC (aj10 @q4 @wj @i1 @bl @bb @bg @hp @bdz @ZaW @tmz) (cC) ?_;by_cases hcm:Zah p.var y.var < 0
 ·have q5:((0:Int)<=Zah p.var y.var)=False:=eq_false om;have hn2:=hnext fun j' p' h h1=>by
   obtain rfl:j=j':=by omega
   rw [hp] at h1;injection h1 with h1
   subst h1;exact hcm
  refine fR (aj3 @q5 @bdz @tmz) ?_;have F:=aj3 @hwi @bdz @tmz;refine gG ?_;exact ⟨j+1+1,hn2,gw,gw,om⟩
 ·have q5:((0:Int)<=Zah p.var y.var)=True:=eq_true om;have hf:=hbad fun h=>hcm (h.ord j p rfl hp);rw [hf];refine fR (aj3 @q5 @bdz @tmz) ?_;exact fD @tmz
end
section
variable {g:Sgn} {l:List Bd}
theorem Zwt {l:List Bd} {i:Nat} {y:Bd} (h:l[i]?=some y) (v:Tm):ZcA (l.drop i) v=if Zah y.var v=0 then some y.to else ZcA (l.drop (i+1)) v:=by
 obtain ⟨hi,rfl⟩:=Tad.1 h;rw [List.drop_eq_getElem_cons hi];rfl
theorem Zwu (hl:Zhr l) {v:Tm} (hv:okTm v) (h8:l.length<=1000):Con e0 78 [.one (.sl (ZaE l)),.agg (Zaa v)] [.agg (Zaa ((ZcA l v).getD zTm)),.one (.lit (.bool (ZcA l v).isSome))]:=by
 have bl:=Zhs l;have bg:=Zht l;have bb:=bds8 l;have hz:=Ze3;refine gI (ts:=[.cell 4 34,.slot 5]) 525435 Tryz.func78 ?_;refine fG (ai @bl @tmz) ?_;have F:=@tmz;refine gL (ι:=Nat) [5,6,10,19] [] (fun i=>[(6,A.d (.one (.lit (.int .i64 i))))]) (fun i=>[]) (fun i=>i<=l.length∧ZcA (l.drop i) v=ZcA l v) (fun i=>l.length - i) (0) (⟨Taj _,rfl⟩) (fun i hi=>?_);clear F;obtain ⟨hi,hlo⟩:=hi;by_cases hil:i < l.length
 rotate_left
 ·obtain rfl:i=l.length:=by omega
  have q2:=lF l.length l.length;rw [List.drop_length] at hlo;have e:ZcA l v=none:=hlo.symm;rw [e];have z1:(none:Option Tm).getD zTm=zTm:=rfl;exact fD (aj5 @q2 @z1 @hz @bl @tmz)
 have q2:=lT i l.length;obtain ⟨y,hy⟩:∃ y,l[i]?=some y:=⟨_,Taa hil⟩;rw [Zwt hy] at hlo;have hwi:=Zaq (k:=i) om;have cS:=Zdo (hl y (Tac hy)).1 hv;refine fN 4 (aj3 @q2 @bl @tmz) ?_;refine gB ?_;refine fC (aj7 @bl @bb @bg @hy @bdz @ZaW @tmz) (cS) ?_;by_cases h1:Zah y.var v=0;rotate_left
 ·have q3:decide (Zah y.var v=0)=false:=decide_eq_false h1;rw [if_neg h1] at hlo;rw [q3];refine fR @tmz ?_;have F:=aj3 @hwi @bdz @tmz;refine gG ?_;exact ⟨i+1,⟨hil,hlo⟩,gw,gw,om⟩
 have q3:decide (Zah y.var v=0)=true:=decide_eq_true h1;rw [if_pos h1] at hlo;rw [q3,<- hlo];have z1:(some y.to).getD zTm=y.to:=rfl;refine fR @tmz ?_;exact fD (aj8 @z1 @bl @bb @bg @hy @bdz @ZaW @tmz)
structure SbsW (g:Sgn) (l:List Bd):Prop where
 len:l.length<=1000
 var:∀ y∈l,ZcQ g y.var
 to':∀ y∈l,TermOk g y.to
theorem SbsOk.w (h:SbsOk g l):SbsW g l:=⟨Tbe h.len (by decide),h.var,h.to'⟩
theorem SbsW.okB (hg:SgnOk g) (h:SbsW g l):Zhr l:=fun y hy=>⟨Zaw.ok hg _ _ (Tan _) (h.var y hy).term.form,Zaw.ok hg _ _ (Tan _) (h.to' y hy).form⟩
noncomputable def ap6 (g:Sgn) (l:List Bd) (t:Tm):Tm:=if t.op=-1 then (ZcA l t).getD t else match apTs g l t.args with
 | none=>zTm
 | some us=>match g.ops[t.op.toNat]? with
  | none=>zTm
  | some o=>match o.decls[0]? with
   | none=>zTm
   | some d=>mk6 g o d t.op us
theorem ZrK {t:Tm} (h:t.op=-1):ap6 g l t=(ZcA l t).getD t:=by unfold ap6;rw [if_pos h]
theorem ZxW {t:Tm} (h:t.op≠-1) (hn:apTs g l t.args=none):ap6 g l t=zTm:=by unfold ap6;rw [if_neg h,hn]
theorem ZAn {t:Tm} {us:List Tm} {o:Opr} {d:Dcl} (h:t.op≠-1) (hu:apTs g l t.args=some us) (ho:g.ops[t.op.toNat]?=some o) (hd:o.decls[0]?=some d):ap6 g l t=mk6 g o d t.op us:=by
 unfold ap6;rw [if_neg h,hu];simp only [ho,hd]
theorem ZoU {t u:Tm} (h:apT g l t=some u):ap6 g l t=u:=by
 by_cases ho:t.op=-1
 ·rw [Zi6 ho,Taq] at h;rw [ZrK ho,h]
 ·rw [ZgW ho] at h;unfold ap6;rw [if_neg ho]
  cases h1:apTs g l t.args with
  | none=>rw [h1] at h;cases h
  | some us =>
   rw [h1,Option.bind_some] at h;unfold mkT at h
   cases h2:g.ops[t.op.toNat]? with
   | none=>rw [h2] at h;cases h
   | some o =>
    rw [h2] at h;simp only at h ⊢
    cases h3:o.decls[0]? with
    | none=>rw [h3] at h;cases h
    | some d =>
     rw [h3] at h;simp only at h ⊢;unfold mk6;rw [h];rfl
theorem ZpS (hokg:Zbv g) (hg:SgnOk g) (hS:SbsW g l):∀ (n:Nat) {t:Tm},sizeTm t < n->TermOk g t->Con e0 39 [.agg (Zaf g),.one (.sl (ZaE l)),.agg (Zaa t)] [.agg (Zaa (ap6 g l t)),.one (.lit (.bool (apT g l t).isSome))]:=by
 intro n
 induction n with
 | zero=>exact fun {t} h _=>absurd h om
 | succ n IH =>
 intro t hsz ht;have hz:=Ze3;have h60:=ZxE ht;have hok2:=Zaw.ok hg _ t (Tan _) ht.form;have hokB:Zhr l:=hS.okB hg;by_cases hop:t.op=-1
 ·have q1:(t.op=-1)=True:=eq_true hop;have cB:=Zwu hokB hok2 hS.len;have z2:(some ((ZcA l t).getD t)).isSome=true:=rfl;rw [ZrK hop,Zi6 hop];rw [Zaf] at *;refine gI (ts:=[.cell 6 34,.slot 7]) 70370900131823 Tryz.func39 ?_;refine fN 2 (ai @q1 @tmz) ?_;refine gB ?_;refine fC @tmz (cB) ?_;refine fR @tmz ?_
  cases hk:ZcA l t with
  | none =>
   have z1:(none:Option Tm).getD t=t:=rfl;have z3:(none:Option Tm).isSome=false:=rfl;rw [hk] at z2;exact fD (aj4 @z1 @z2 @z3 @tmz)
  | some u =>
   have z1:(some u).getD t=u:=rfl;have z3:(some u).isSome=true:=rfl;have z4:(some u).getD zTm=u:=rfl;rw [hk] at z2;exact fD (aj5 @z1 @z2 @z3 @z4 @tmz)
 obtain ⟨o,d,hA⟩:=ht.form.node.resolve_left (fun hv=>hop hv.1);have q1:(t.op=-1)=False:=eq_false hop;have cB:=fun us h1 h2=>Zlj hokg hg hA.lo hA.at' hA.fst us h1 h2;rw [Zaf] at *;refine gI (ts:=[.cell 6 34,.slot 7]) 70370900131823 Tryz.func39 ?_;refine fG (ai @q1 @tmz) ?_;have F:=ai @ZcB @tmz;refine gL (ι:=Nat × List Tm) [7,10,11,12,13,31,46] [10] (fun x=>[(11,A.d (.one (.lit (.int .i64 x.1)))),(10,.buf 10)]) (fun x=>[(10,.buf none 34 4 (Zab x.2))]) (fun x=>x.1<=t.args.length∧apTs g l (t.args.take x.1)=some x.2) (fun x=>t.args.length - x.1) ((0,[])) (⟨Taj _,rfl⟩) (fun x hx=>?_);clear F
 obtain ⟨i,us⟩:=x;obtain ⟨hi,hus⟩:=hx;simp only at hi hus;dsimp only;have hul:=Zj3 hus;rw [List.length_take_of_le hi] at hul;have nl:=Zaj us;have nr:ZaM 4 (Zab us)=true:=ZcO _;by_cases hil:i < t.args.length;rotate_left
 ·obtain rfl:i=t.args.length:=by omega
  have q2:=lF t.args.length t.args.length;rw [Tap] at hus;have e:apT g l t=mkO g o d t.op us:=by rw [ZgW hop,hus];exact Ziq hA.at' hA.fst us
  have cB:=cB us (fun u hu=>by
   obtain ⟨a,ha,hau⟩:=Zhx hus u hu;exact ZfZ hg hS.to' _ a (Tan _) (ht.arg ha) hau) om
  rw [e,ZAn hop hus hA.at' hA.fst];refine fN 14 (ai @q2 @tmz) ?_;refine gB ?_;refine fC @tmz (cB) ?_;refine fR @tmz ?_;exact fD @tmz
 have q2:=lT i t.args.length;obtain ⟨a,ha⟩:∃ a,t.args[i]?=some a:=⟨_,Taa hil⟩;have ham:=Tac ha;have hs1:=ZaN t;have hs2:=ZaV ham;have cA:=IH (t:=a) om (ht.arg ham);have hwi:=Zaq (k:=i) om;have hmx:(us.length+1<=maxApp)=True:=eq_true (by unfold maxApp;omega);have hsn:apTs g l (t.args.take (i+1))=(apT g l a).map fun u=>us++[u]:=by rw [ZfW ha,Zmx,hus];rfl
 refine fN 10 (aj4 @q2 @ha @ZaW @tmz) ?_;refine gLt 11 10 12 ?_;refine fC (aj3 @ha @ZaW @tmz) (cA) ?_;refine fR @tmz ?_
 cases hu:apT g l a with
 | none =>
  have z3:(none:Option Tm).isSome=false:=rfl;have z5:(none:Option Tm).getD zTm=zTm:=rfl;have e:apTs g l t.args=none:=Zmy ham hu;have e2:apT g l t=none:=by rw [ZgW hop,e];rfl
  rw [e2,ZxW hop e];exact fD (aj4 @z3 @z5 @hz @tmz)
 | some u =>
  have z3:(some u).isSome=true:=rfl;have z5:ap6 g l a=u:=ZoU hu;rw [hu] at hsn;have ns:Zab us++[Zaa u]=Zab (us++[u]):=by simp [Zbs]
  rw [z5];have F:=aj8 @z3 @z5 @nl @nr @ns @hmx @hwi @tmz;refine gG ?_;exact ⟨(i+1,us++[u]),⟨hil,hsn⟩,gw,gw,om⟩
end
section
variable {g:Sgn} {b:Nat}
def ZzB (g:Sgn) (b:Nat) (w:World):Prop:=(∀ c,c=b->¬ e0.E c)∧∃ M,Memo g M∧MapL w b M
noncomputable def eM (g:Sgn) (b:Nat):Env:=e0.plus (fun c=>c=b) (ZzB g b)
theorem Zet:Fits e0 (fun c=>c=b) (ZzB g b):=⟨fun w w' hz hE ⟨h1,M,h2,h3⟩=>⟨h1,M,h2,MapL.stable b M w w' hz hE h3⟩,fun w h=>h.1⟩
theorem Con.m {f:FuncId} {args r:List D} (h:Con e0 f args r):Con (eM g b) f args r:=Con.up Zet h
theorem ConE.m {f:FuncId} {args:List D} {R:List D->Prop} (h:ConE e0 f args R):ConE (eM g b) f args R:=ConE.up Zet h
theorem ConR.m {f:FuncId} {args:List D} {ty sz:Nat} {rows:List (List C)} (h:ConR e0 f args ty sz rows):ConR (eM g b) f args ty sz rows:=ConR.up Zet h
theorem ConI.m {f:FuncId} {ty sz:Nat} {rows rows':List (List C)} {args r:List D} (h:ConI e0 f ty sz rows args rows' r):ConI (eM g b) f ty sz rows args rows' r:=ConI.up Zet h
theorem ConT.m {f:FuncId} {ty sz:Nat} {rows rows':List (List C)} {args:List D} (h:ConT e0 f ty sz rows args rows'):ConT (eM g b) f ty sz rows args rows':=ConT.up Zet h
theorem ConP.m {f:FuncId} {args:List D} {pm:List Bk} {R:List D->List Bk->Prop} (h:ConP e0 f args pm R):ConP (eM g b) f args pm R:=ConP.up Zet h
theorem ConP.imp {e:Env} {f:FuncId} {args:List D} {pm:List Bk} {R R':List D->List Bk->Prop} (h:ConP e f args pm R) (hR:∀ r pm,R r pm->R' r pm):ConP e f args pm R' :=
 ⟨h.1,fun w S vs hS hE hG hpm hap hvs=>(h.2 w S vs hS hE hG hpm hap hvs).mono fun en w' ⟨v,r,pm',h1,hr,hk⟩=>⟨v,r,pm',h1,hR r pm' hr,hk⟩⟩
end
section
variable {g:Sgn} {l:List Bd} {b:Nat}
end
section
variable {g:Sgn} {l:List Bd}
theorem Zwv (hb:l.length+Zat (ZaE l)<=1048576):∀ y∈l,Zal (Zaa y.var)<=1048576∧Zal (Zaa y.to)<=1048576:=fun y hy=>by
 have h1:=Ziw (List.mem_map_of_mem (f:=ZbR) hy);have h2:Zal (ZbR y)=Zal (Zaa y.var)+Zal (Zaa y.to):=ZxK _ _;have h3:Zat (l.map ZbR)=Zat (ZaE l):=rfl;omega
theorem ZAp {t:Tm} (h:TermOk g t):Zal (Zaa t)<=1048576:=by
 have h1:=Zer h.form;have h2:=h.size;omega
open Classical in
noncomputable def aS (g:Sgn) (l:List Bd) (t:Tm):Option Tm:=if Zbq g=true∧ZdY g l=true∧Za8 g t=true then apT g l t else none
theorem ZiI:ZdY g l=true ↔ SbsOk g l:=by simp [ZdY]
theorem Znc (hok:Zbv g) (hl:Zhr l) (hb:l.length+Zat (ZaE l)<=1048576) {t:Tm} (ht:okTm t) (htb:Zal (Zaa t)<=1048576):Con e0 10 [.agg (Zaf g),.one (.sl (ZaE l)),.agg (Zaa t)] [.agg (Zaa ((aS g l t).getD zTm)),.one (.lit (.bool (aS g l t).isSome))]:=by
 have cS:=ZpR hok hl (fun y hy=>Zc5 (Zwv hb y hy).1) (fun y hy=>Zc5 (Zwv hb y hy).2);have cT:=ZcG hok ht (Zc5 htb);have hz:=Ze3;have z1:(none:Option Tm).getD zTm=zTm:=rfl;have z2:(none:Option Tm).isSome=false:=rfl;by_cases h:Zbq g=true∧ZdY g l=true∧Za8 g t=true;rotate_left
 ·have e:aS g l t=none:=by unfold aS;rw [if_neg h]
  rw [e];rw [Zaf] at cS cT ⊢;refine gI (ts:=[.cell 6 34,.slot 7]) 537396207 Tryz.func10 ?_;refine fN 1 @tmz ?_;refine gB ?_;refine fC @tmz (cS) ?_
  cases h1:(Zbq g && ZdY g l) with
  | false =>
   refine fR @tmz ?_;exact fD (aj4 @z1 @z2 @hz @tmz)
  | true =>
  have h2:(Zbq g && Za8 g t)=false:=by
   rw [Tar] at h1
   cases h3:Za8 g t with
   | false=>rw [Bool.and_false]
   | true=>exact absurd ⟨h1.1,h1.2,h3⟩ h
  rw [h2] at cT;refine fC @tmz (cT) ?_;refine fR @tmz ?_;exact fD (aj4 @z1 @z2 @hz @tmz)
 obtain ⟨h1,h2,h3⟩:=h;have e:aS g l t=apT g l t:=by unfold aS;rw [if_pos ⟨h1,h2,h3⟩]
 have hg:=Zdj.1 h1;have hS:=ZiI.1 h2;have hT:=Zcz.1 h3;have cA:=ZpS hok hg hS.w _ (Tan _) hT;rw [e];rw [h1,h2] at cS;rw [h1,h3] at cT;rw [Zaf] at cS cT cA ⊢;refine gI (ts:=[.cell 6 34,.slot 7]) 537396207 Tryz.func10 ?_;refine fN 1 @tmz ?_;refine gB ?_;refine fC @tmz (cS) ?_;refine fC @tmz (cT) ?_;refine fR @tmz ?_;refine fN 3 @tmz ?_;refine gB ?_;refine fC @tmz (cA) ?_;refine fR @tmz ?_
 cases hu:apT g l t with
 | none=>(exact fD (aj4 @z1 @z2 @hz @tmz))
 | some u =>
  have z3:(some u).getD zTm=u:=rfl;have z4:(some u).isSome=true:=rfl;have hk:=ZfZ hg hS.to' _ t (Tan _) hT hu;have cC:=ZeB u (ZAp hk);rw [ZoU hu];refine fN 6 (aj3 @z3 @z4 @tmz) ?_;refine gB ?_;refine fC @tmz (cC) ?_;refine fR @tmz ?_;exact fD (aj3 @z3 @z4 @tmz)
theorem ZsC {t u:Tm} (h:aS g l t=some u):TermOk g u:=by
 unfold aS at h;split at h
 ·next hc=>exact ZfZ (Zdj.1 hc.1) (ZiI.1 hc.2.1).to' _ t (Tan _) (Zcz.1 hc.2.2) h
 ·cases h
end
section
variable {g:Sgn}
theorem Znd (hok:Zbv g) (hg:SgnOk g) {i:Nat} {o:Opr} {d:Dcl} (ho:g.ops[i]?=some o) (hd:o.decls[0]?=some d):Con e0 12 [.agg (Zaf g),.one (.lit (.int .i64 i))] [.one (.lit (.int .i64 d.args.length))]:=by
 have cS:=Zd4 hok;have cI:=Zcf (i:Int) 0 ((g.ops.length:Int) - 1);have wl:IntKind.i64.wrap ((g.ops.length:Int) - 1)=(g.ops.length:Int) - 1:=IntWalk.i64_in _ (by have:=hg.len;omega);have hil:=(Tad.1 ho).1;have qd:decide ((0:Int)<=(i:Int)∧(i:Int)<=(g.ops.length:Int) - 1)=true:=decide_eq_true ⟨om,om⟩;have cA:=ZcF hd;rw [Zb4 hg] at cS;rw [ZaT] at cA;rw [qd] at cI;rw [Zaf] at cS ⊢;refine gI (ts:=[.slot 4]) 65559 Tryz.func12 ?_
 refine fN 1 @tmz ?_;refine gB ?_;refine fC @tmz (cS) ?_;refine fC (ai @wl @tmz) (cI) ?_;refine fR @tmz ?_;refine fN 3 @tmz ?_;refine gB ?_;refine fC (aj3 @ho @Zae @tmz) (cA) ?_;refine fR @tmz ?_;exact fD @tmz
theorem ZoV (hok:Zbv g) (hg:SgnOk g) {op:Nat} {o:Opr} (ho:g.ops[op]?=some o) {us:List Tm} (hus:∀ u∈us,TermOk g u) (hul:us.length<=1000):Con e0 13 [.agg (Zaf g),.one (.lit (.int .i64 op)),.one (.sl (Zab us))] [.agg (Zaa ((mkT g op us).getD zTm)),.one (.lit (.bool (mkT g op us).isSome))]:=by
 have cS:=Zd4 hok;have cI:=Zcf (op:Int) 0 ((g.ops.length:Int) - 1);have wl:IntKind.i64.wrap ((g.ops.length:Int) - 1)=(g.ops.length:Int) - 1:=IntWalk.i64_in _ (by have:=hg.len;omega);have hil:=(Tad.1 ho).1;have qd:decide ((0:Int)<=(op:Int)∧(op:Int)<=(g.ops.length:Int) - 1)=true:=decide_eq_true ⟨om,om⟩;have cM:=ZjL hok hg (op:=(op:Int)) om (by simpa using ho) us hus hul;have cSm:∀ {u:Tm},TermOk g u->Con e0 45 [.agg (Zaa u)] [.one (.lit (.bool true))]:=fun h=>by
  have:=Ze1 (Tbe h.size (by unfold big;decide))
  rwa [decide_eq_true ⟨h.size,h.depth⟩] at this
 have cF:∀ {u:Tm},TermOk g u->Con e0 46 [.agg (Zaf g),.agg (Zaa u)] [.one (.lit (.bool true))]:=fun h=>by
  have:=Zk1 hok hg (h.ok hg) (Tbe h.size (by unfold big;decide))
  rwa [Zd5 h.form] at this
 have hz:=Ze3;have z1:(none:Option Tm).getD zTm=zTm:=rfl;have z2:(none:Option Tm).isSome=false:=rfl;rw [Zb4 hg] at cS;rw [qd] at cI;rw [Zaf] at cS cM cF ⊢;refine gI (ts:=[.cell 6 34,.slot 7]) 18031990833940431 Tryz.func13 ?_;refine fN 1 @tmz ?_;refine gB ?_;refine fC @tmz (cS) ?_;refine fC (ai @wl @tmz) (cI) ?_;refine fR @tmz ?_;refine fG @tmz ?_;have F:=@tmz;refine gL (ι:=Nat) [7,8,27,44] [] (fun i=>[(8,A.d (.one (.lit (.int .i64 i))))]) (fun i=>[]) (fun i=>i<=us.length) (fun i=>us.length - i) (0) (Taj _) (fun i hi=>?_);clear F
 by_cases h1:i < us.length
 ·have q1:=lT i us.length;have wi:=Zaq (k:=i) om;obtain ⟨u,hu⟩:∃ u,us[i]?=some u:=⟨_,Taa h1⟩;have hut:=hus u (Tac hu);have hgu:(Zab us)[i]?=some (Zaa u):=by rw [Zbj,hu];rfl
  refine fN 6 (ai @q1 @tmz) ?_;refine gB ?_;refine fC (aj3 @hgu @hu @tmz) (cSm hut) ?_;refine fC (aj3 @hgu @hu @tmz) (cF hut) ?_;refine fR @tmz ?_;have F:=ai @wi @tmz;refine gG ?_;exact ⟨i+1,om,gw,gw,om⟩
 ·have q1:=lF i us.length;refine fN 8 (ai @q1 @tmz) ?_;refine gB ?_;refine fC @tmz (cM) ?_;refine fR @tmz ?_
  cases hu:mkT g op us with
  | none=>(exact fD (aj4 @z1 @z2 @hz @tmz))
  | some u =>
   have z3:(some u).getD zTm=u:=rfl;have z4:(some u).isSome=true:=rfl;rw [Zl1 hu];exact fD (aj3 @z3 @z4 @tmz)
end
def Zdq (k:Nat) (t:Tm):Prop:=okTm t∧sizeTm t<=k∧Zal (Zaa t)+1<=13 * sizeTm t
theorem Zo2:∀ {ts:List Tm} {k:Nat},(∀ t∈ts,Zdq k t)->Zax ts∧sizeTms ts<=ts.length * k∧Zat (Zab ts)+ts.length<=13 * sizeTms ts
 | [],k,_=>by simp [Zax,sizeTms,Zab,Zat]
 | t::ts,k,h=>by
  obtain ⟨h1,h2,h3⟩:=Zo2 (ts:=ts) (k:=k) fun t ht=>h t (Tal _ ht);obtain ⟨q1,q2,q3⟩:=h t Tas;simp only [Zax,sizeTms,Zab,Zat,Tag,Nat.succ_mul];exact ⟨⟨q1,h1⟩,om,om⟩
theorem Zg3 {op so:Int} {nm:ByteArray} {ts:List Tm} {k:Nat} (h0:-1<=op∧op<=1000) (h1:nm.size<=12) (h2:0<=so∧so<=1000) (h:∀ t∈ts,Zdq k t):Zdq (1+ts.length * k) (.mk op nm so ts):=by
 obtain ⟨q1,q2,q3⟩:=Zo2 h;refine ⟨?_,?_,?_⟩
 ·simp only [okTm];exact ⟨⟨om,om⟩,by unfold maxLen;omega,⟨om,om⟩,q1⟩
 ·rw [ZaN];simp only [Tm.args];omega
 ·rw [ZgZ,ZaN];simp only [Tm.args];omega
theorem Zdq.mono {k k':Nat} {t:Tm} (h:Zdq k t) (hk:k<=k'):Zdq k' t:=⟨h.1,by have:=h.2.1;omega,h.2.2⟩
def rawK:Nat->Nat
 | 0=>1
 | d+1=>1+3 * rawK d
theorem Zo3:∀ d,1<=rawK d
 | 0=>Tai _
 | d+1=>by simp only [rawK];omega
def RawD (d:Nat) (t:Tm):Prop:=Zdq (rawK d) t∧depthTm t<=d+1
def RTm (P:Tm->Prop) (r:List D):Prop:=∃ t,P t∧r=[.agg (Zaa t)]
theorem enc0 (op so:Int) (nm:ByteArray):Zaa (.mk op nm so [])=[.lit (.int .i64 op),.lit (.string nm),.lit (.int .i64 so),.sl []]:=by simp only [Zaa,Zab]
def xyz:List ByteArray:=[⟨#[120]⟩,⟨#[121]⟩,⟨#[122]⟩]
section
variable {x:Src} {b:Nat}
theorem ConE.args {e:Env} {f:FuncId} {lits data:List D} {R:List D->Prop} (h:ConE e f data R) (hd:∀ (w:World) (S:Nat->Prop) (vs:List Value),Zas w S lits vs->Zas w S data vs):ConE e f lits R:=⟨h.1,fun w S vs hS hE hG hvs=>h.2 w S vs hS hE hG (hd w S vs hvs)⟩
def RXyz (r:List D):Prop:=∃ nm:ByteArray,nm.size<=12∧r=[.one (.lit (.string nm))]
theorem Zo4 (hx:x.Ok):ConE (eC x b) 111 [curD b,.clip [[.lit (.string ⟨#[120]⟩)],[.lit (.string ⟨#[121]⟩)],[.lit (.string ⟨#[122]⟩)]]] RXyz:=by
 have h:=(ZwH (b:=b) hx (l:=xyz) (by decide) (by decide)).args (lits:=[curD b,.clip [[.lit (.string ⟨#[120]⟩)],[.lit (.string ⟨#[121]⟩)],[.lit (.string ⟨#[122]⟩)]]]) fun w S vs h=>by
  match vs,h with
  | [v1,v2],⟨h1,h2,_⟩=>exact ⟨h1,h2.1,trivial⟩
 refine ⟨h.1,fun w S vs hS hE hG hvs=>(h.2 w S vs hS hE hG hvs).mono fun en w' ⟨v,r,h1,⟨s,hs,hr⟩,h3⟩=>⟨v,r,h1,⟨s,?_,hr⟩,h3⟩⟩;simp only [xyz,Tbg,List.not_mem_nil,or_false] at hs;rcases hs with rfl | rfl | rfl <;> decide
theorem ZsK (hx:x.Ok) {n:Nat} (h4:5<=n) (h20:n<=20):∀ (d:Nat),d<=8->ConE (eC x b) 75 [curD b,.one (.lit (.int .i64 n)),.one (.lit (.int .i64 d))] (RTm (Zdq (rawK d))):=by
 intro d
 induction d using Nat.strongRecOn with
 | _ d ih =>
 intro hd8;have he:=hx.okC (b:=b);refine gIE (ts:=[.cell 6 34]) 72058693549638087 Tryz.func75 ?_;refine fN 1 @tmC ?_;refine gM (ι:=Bool) [14] [] (fun y=>[(14,A.d (.one (.lit (.bool y))))]) (fun y=>[]) (fun y=>y=false->1<=d) ?_ (fun y hy=>Exists.intro _ (ai (Wk.refl _) ?_))
 ·refine gB ?_;by_cases h0:d=0
  ·have q1:((d:Int)<=0)=True:=eq_true om;refine fR (ai @q1 @tmC) ?_;have F:=@tmC;refine gG ?_;exact ⟨true,(by simp),gw,gw⟩
  ·have q1:((d:Int)<=0)=False:=eq_false om;have F:=ai @q1 @tmC;refine gCE (Zby (b:=b) hx (n:=4) (by decide) (by decide)) ?_;clear F;rintro r ⟨y,rfl⟩;refine fR @tmC ?_;have F:=@tmC;refine gG ?_;exact ⟨y,(fun _=>om),gw,gw⟩
 cases y with
 | true =>
  have hpos:=Zo3 d;refine fN 2 @tmC ?_;refine gB ?_;have F:=@tmC;refine gCE (Zby (b:=b) hx (n:=3) (by decide) (by decide)) ?_;clear F;rintro r ⟨y,rfl⟩;refine fR @tmC ?_
  cases y
  ·refine fN 4 @tmC ?_;refine gB ?_;have F:=@tmC;refine gCE (ZbK (b:=b) hx (n:=3) (by decide) (by decide)) ?_;clear F;rintro r ⟨k,hk,rfl⟩;refine fR @tmC ?_;have hr:=Zg3 (op:=(k:Int)) (so:=0) (nm:=ByteArray.empty) (ts:=[]) (k:=0) om (by decide) om (fun t ht=>by cases ht);have hc:=enc0 (k:Int) 0 ByteArray.empty;exact (have F:=ai hc tmC;gTE (R:=RTm (Zdq (rawK d))) [] ⟨_,hr.mono (by simp;omega),rfl⟩)
  ·refine fN 3 @tmC ?_;refine gB ?_;have F:=@tmC;refine gCE (Zo4 hx) ?_;clear F;rintro r ⟨nm,hnm,rfl⟩;have F:=@tmC;refine gCE (ZbK (b:=b) hx (n:=3) (by decide) (by decide)) ?_;clear F;rintro r ⟨k,hk,rfl⟩;refine fC @tmC ((Zff nm k).cu hx) ?_;refine fR @tmC ?_;have hr:=Zg3 (op:=-1) (so:=(k:Int)) (nm:=nm) (ts:=[]) (k:=0) (by decide) hnm om (fun t ht=>by cases ht);exact (have F:=tmC;gTE (R:=RTm (Zdq (rawK d))) [] ⟨_,hr.mono (by simp;omega),rfl⟩)
 | false =>
  obtain ⟨d',rfl⟩:∃ d',d=d'+1:=⟨d - 1,by have:=hy rfl;omega⟩;have ih:=ih d' om om;clear hy;have w1:IntKind.i64.wrap ((n:Int) - 3)=((n - 3:Nat):Int):=Za2 om om om;have w2:IntKind.i64.wrap (((d'+1:Nat):Int) - 1)=(d':Int):=Za2 om om om;refine fN 5 @tmC ?_;refine gB ?_;have F:=ai @w1 @tmC;refine gCE (ZbK (b:=b) hx (n:=n - 3) om om) ?_;clear F;rintro r ⟨k,hk,rfl⟩;have w3:IntKind.i64.wrap (3+(k:Int))=((3+k:Nat):Int):=Za2 om om om
  refine fR (ai @w3 @tmC) ?_;refine fN 6 @tmC ?_;refine gB ?_;have F:=ai @w2 @tmC;refine gCE (ih) ?_;clear F;rintro r ⟨t1,ht1,rfl⟩;have F:=tmC;refine gBs ?_;clear F;refine gS 37 fun a1 c1=>?_;refine fR @tmC ?_;refine pE [37] [1000] ZeP ?_;have e1:Zab [t1]=[Zaa t1]:=ZbX t1;refine fN 7 @tmC ?_;refine gB ?_;refine fR @tmC ?_;generalize decide ((3:Int) < ((3+k:Nat):Int))=y4;refine gM (ι:=List Tm × Option Addr × Nat) [40] [8,1000] (fun q=>[]) (fun q=>[(8,.var none [.lit (.int .i64 ((3+k:Nat):Int)),.lit (.string ByteArray.empty),.lit (.int .i64 0),.lit (.slice q.2.1 (Zab q.1).length q.2.2)]),(1000,.buf (some (q.2.1,q.2.2)) 34 4 (Zab q.1))]) (fun q=>q.1.length<=2∧∀ t∈q.1,Zdq (rawK d') t) ?_ (fun q hq=>Exists.intro _ (ai (Wk.refl _) ?_))
  ·cases y4
   ·have F:=ai @e1 @tmC;refine gG ?_;exact ⟨([t1],a1,c1),⟨Nat.le_succ _,fun t ht=>by rw [Tbj.1 ht];exact ht1⟩,gw,gw⟩
   ·refine fN 8 @tmC ?_;have F:=tmC;refine gN0 8 [0,1,2,3,4,5] [6,7] ?_;clear F;have F:=ai w2 tmC;refine gNd ?_;clear F;have F:=tmC;refine gNE ih ?_;clear F;rintro r ⟨t2,ht2,rfl⟩;have F:=tmC;refine gNr ?_;clear F;refine gK 42 ?_;have F:=@tmC;refine gP 1 ?_;clear F;refine gS 49 fun a2 c2=>?_;have F:=@tmC;refine gP 2 ?_;clear F;refine gE [49] [1000] ZeP ?_;refine fR @tmC ?_;have e2:Zab [t1,t2]=[Zaa t1,Zaa t2]:=by simp only [Zab]
    have F:=ai @e2 @tmC;refine gG ?_;exact ⟨([t1,t2],a2,c2),⟨Tai _,fun t ht=>by simp only [Tbg,List.not_mem_nil,or_false] at ht;rcases ht with rfl | rfl <;> assumption⟩,gw,gw⟩
  obtain ⟨ts,a2,c2⟩:=q;obtain ⟨hq1,hq2⟩:=hq;dsimp only at hq1 hq2 ⊢;have hbs:1+(ts.length+1) * rawK d'<=rawK (d'+1):=by
   have:(ts.length+1) * rawK d'<=3 * rawK d':=Nat.mul_le_mul_right _ om;simp only [rawK];omega
  have hfin:∀ us:List Tm,(∀ t∈us,Zdq (rawK d') t)->us.length<=ts.length+1->Zdq (rawK (d'+1)) (.mk ((3+k:Nat):Int) ByteArray.empty 0 us):=fun us hu hl=>(Zg3 (op:=((3+k:Nat):Int)) (so:=0) (nm:=ByteArray.empty) om (by decide) om hu).mono (by
   have:us.length * rawK d'<=(ts.length+1) * rawK d':=Nat.mul_le_mul_right _ hl;omega)
  refine fN 9 @eCP ?_;refine gM (ι:=Bool) [56] [] (fun y=>[(56,A.d (.one (.lit (.bool y))))]) (fun y=>[]) (fun y=>True) ?_ (fun y hy=>Exists.intro _ (ai (Wk.refl _) ?_))
  ·refine gB ?_;by_cases h4:4 < 3+k
   ·have q1:=lT 4 (3+k:Nat);have F:=ai @q1 @eCP;refine gCE (Zby (b:=b) hx (n:=4) (by decide) (by decide)) ?_;clear F;rintro r ⟨y,rfl⟩;refine fR @eCP ?_;have F:=@eCP;refine gG ?_;exact ⟨y,trivial,gw,gw⟩
   ·have q1:=lF 4 (3+k:Nat);refine fR (ai @q1 @eCP) ?_;have F:=@eCP;refine gG ?_;exact ⟨false,trivial,gw,gw⟩
  cases y
  ·have hc:Zaa (.mk ((3+k:Nat):Int) ByteArray.empty 0 ts)=[.lit (.int .i64 ((3+k:Nat):Int)),.lit (.string ByteArray.empty),.lit (.int .i64 0),.sl (Zab ts)]:=by simp only [Zaa]
   refine fN 11 @e0P ?_;refine gB ?_;refine fR @eCP ?_;refine pD 1000 [] [6,8] ?_;exact (have F:=ai hc tmC;gTE (R:=RTm (Zdq (rawK (d'+1)))) [] ⟨_,hfin ts hq2 (Nat.le_succ _),rfl⟩)
  ·have l1:((Zab ts).length+1<=maxApp)=True:=eq_true (by rw [Zaj];unfold maxApp;omega);have l3:(ts.length+1<=maxApp)=True:=eq_true (by unfold maxApp;omega);refine fN 10 @eCP ?_;have F:=eCP;refine gN0 8 [0,1,2,3,4,5] [6,7] ?_;clear F;have F:=aj3 w2 @eCP @ZcO;refine gNd ?_;clear F;have F:=eCP;refine gNE ih ?_;clear F;rintro r ⟨t3,ht3,rfl⟩;have F:=aj3 @eCP @ZaX @Zbk;refine gNr ?_;clear F;refine gK 58 ?_
   have F:=aj5 l1 @ZcO @ZaX @Zbk @eCP;refine gP 1 ?_;clear F;have hsn:Zab ts++[Zaa t3]=Zab (ts++[t3]):=by rw [ZbH,ZbX]
   rw [hsn];refine gS 65 fun a3 c3=>?_;refine fR @eCP ?_;have hc:Zaa (.mk ((3+k:Nat):Int) ByteArray.empty 0 (ts++[t3]))=[.lit (.int .i64 ((3+k:Nat):Int)),.lit (.string ByteArray.empty),.lit (.int .i64 0),.sl (Zab (ts++[t3]))]:=by simp only [Zaa]
   refine fN 11 @e0P ?_;refine gB ?_;refine fR @eCP ?_;refine pD 65 [] [6,8] ?_;exact (have F:=ai hc tmC;gTE (R:=RTm (Zdq (rawK (d'+1)))) [] ⟨_,hfin (ts++[t3]) (fun v hv=>(Tbh.1 hv).elim (hq2 v) fun hv=>by rw [Tbj.1 hv];exact ht3) (by simp),rfl⟩)
theorem ZwJ (hx:x.Ok) {g:Sgn} (h4:4<=g.ops.length) (h14:g.ops.length<=14):∀ (d:Nat),d<=8->∀ vars list:Bool,ConE (eC x b) 99 [curD b,.agg (Zaf g),.one (.lit (.int .i64 d)),.one (.lit (.bool vars)),.one (.lit (.bool list))] (RTm (RawD d)):=by
 intro d
 induction d using Nat.strongRecOn with
 | _ d ih =>
 intro hd8 vars list;have he:=hx.okC (b:=b);rw [Zaf] at ih ⊢;have c2:=Zby (b:=b) hx (n:=2) (by decide) (by decide);have c3:=Zby (b:=b) hx (n:=3) (by decide) (by decide);have c5:=Zby (b:=b) hx (n:=5) (by decide) (by decide);have b2:=ZbK (b:=b) hx (n:=2) (by decide) (by decide);have hpos:=Zo3 d;have hvar:∀ (nm:ByteArray) (so:Int),nm.size<=12->0<=so∧so<=1000->RawD d (.mk (-1) nm so []):=fun nm so h1 h2=>⟨(Zg3 (op:=-1) (ts:=[]) (k:=0) (by decide) h1 h2 (fun t ht=>by cases ht)).mono (by simp;omega),by simp [depthTm,depthTms]⟩
 have hcst:∀ k:Nat,k<=2->RawD d (.mk (k:Int) ByteArray.empty 0 []):=fun k hk=>⟨(Zg3 (op:=(k:Int)) (so:=0) (nm:=ByteArray.empty) (ts:=[]) (k:=0) om (by decide) om (fun t ht=>by cases ht)).mono (by simp;omega),by simp [depthTm,depthTms]⟩;refine gIE (ts:=[.cell 10 34]) 316991230235621095696433708127 Tryz.func99 ?_;refine fN 1 @eCP ?_;refine gB ?_;refine fR @eCP ?_;generalize decide ((1:Int) < _)=dp;refine fN 2 @eCP ?_
 refine gM (ι:=Bool) [24] [] (fun y=>[(24,A.d (.one (.lit (.bool y))))]) (fun y=>[]) (fun y=>True) ?_ (fun y hy=>Exists.intro _ (ai (Wk.refl _) ?_))
 ·refine gB ?_
  cases vars
  ·refine fR @eCP ?_;have F:=@eCP;refine gG ?_;exact ⟨false,trivial,gw,gw⟩
  ·have F:=@eCP;refine gCE (c3) ?_;clear F;rintro r ⟨y,rfl⟩;refine fR @eCP ?_;have F:=@eCP;refine gG ?_;exact ⟨y,trivial,gw,gw⟩
 cases y with
 | true =>
  refine fN 3 @eCP ?_;refine gB ?_;have F:=@eCP;refine gCE (Zo4 hx) ?_;clear F;rintro r ⟨nm,hnm,rfl⟩;refine fR @eCP ?_
  cases list
  ·refine fN 6 @eCP ?_;refine gB ?_;have F:=@eCP;refine gCE (b2) ?_;clear F;rintro r ⟨k,hk,rfl⟩;refine fC @eCP ((Zff nm k).cu hx) ?_;refine fR @tmC ?_;exact (have F:=tmC;gTE (R:=RTm (RawD d)) [] ⟨_,hvar nm k hnm om,rfl⟩)
  ·refine fN 5 @eCP ?_;refine gB ?_;refine fC @eCP ((Zff nm 2).cu hx) ?_;refine fR @tmC ?_;exact (have F:=tmC;gTE (R:=RTm (RawD d)) [] ⟨_,hvar nm 2 hnm (by decide),rfl⟩)
 | false =>
 refine fN 7 @eCP ?_;refine gM (ι:=Bool) [40] [] (fun y=>[(40,A.d (.one (.lit (.bool y))))]) (fun y=>[]) (fun y=>y=false->1<=d) ?_ (fun y hy=>Exists.intro _ (ai (Wk.refl _) ?_))
 ·refine gB ?_;by_cases h0:d=0
  ·have q1:((d:Int)<=0)=True:=eq_true om;refine fR (ai @q1 @eCP) ?_;have F:=@eCP;refine gG ?_;exact ⟨true,(by simp),gw,gw⟩
  ·have q1:((d:Int)<=0)=False:=eq_false om;have F:=ai @q1 @eCP;refine gCE (c5) ?_;clear F;rintro r ⟨y,rfl⟩;refine fR @eCP ?_;have F:=@eCP;refine gG ?_;exact ⟨y,(fun _=>om),gw,gw⟩
 cases y with
 | true =>
  refine fN 8 @eCP ?_;refine gM (ι:=Bool) [49] [] (fun y=>[(49,A.d (.one (.lit (.bool y))))]) (fun y=>[]) (fun y=>True) ?_ (fun y hy=>Exists.intro _ (ai (Wk.refl _) ?_))
  ·refine gB ?_
   cases list
   ·refine fR @eCP ?_;have F:=@eCP;refine gG ?_;exact ⟨false,trivial,gw,gw⟩
   ·cases dp
    ·refine fR @eCP ?_;have F:=@eCP;refine gG ?_;exact ⟨true,trivial,gw,gw⟩
    ·have F:=@eCP;refine gCE (c2) ?_;clear F;rintro r ⟨y,rfl⟩;refine fR @eCP ?_;have F:=@eCP;refine gG ?_;exact ⟨y,trivial,gw,gw⟩
  cases y
  ·refine fN 10 @eCP ?_;refine gB ?_;have F:=@eCP;refine gCE (b2) ?_;clear F;rintro r ⟨k,hk,rfl⟩;refine fR @eCP ?_;have hc:=enc0 (k:Int) 0 ByteArray.empty;exact (have F:=ai hc tmC;gTE (R:=RTm (RawD d)) [] ⟨_,hcst k om,rfl⟩)
  ·have hc:=enc0 ((2:Nat):Int) 0 ByteArray.empty;refine fG @eCP ?_;exact (have F:=ai hc tmC;gTE (R:=RTm (RawD d)) [] ⟨_,hcst 2 om,rfl⟩)
 | false =>
 obtain ⟨d',rfl⟩:∃ d',d=d'+1:=⟨d - 1,by have:=hy rfl;omega⟩;have ih:=ih d' om om;clear hy;have w2:IntKind.i64.wrap (((d'+1:Nat):Int) - 1)=(d':Int):=Za2 om om om;have w1:IntKind.i64.wrap ((g.ops.length:Int) - 3)=((g.ops.length - 3:Nat):Int):=Za2 om om om
 have hfin:∀ (o:Nat) (us:List Tm),o<=20->(∀ t∈us,RawD d' t)->us.length<=2->RawD (d'+1) (.mk (o:Int) ByteArray.empty 0 us):=fun o us ho hu hl=>⟨(Zg3 (op:=(o:Int)) (so:=0) (nm:=ByteArray.empty) om (by decide) om fun t ht=>(hu t ht).1).mono (by
  have:us.length * rawK d'<=3 * rawK d':=Nat.mul_le_mul_right _ om;simp only [rawK];omega),by have:=ZgK fun t ht=>(hu t ht).2;rw [depthTm];omega⟩
 have hec:∀ (o:Int) (us:List Tm),Zaa (.mk o ByteArray.empty 0 us)=[.lit (.int .i64 o),.lit (.string ByteArray.empty),.lit (.int .i64 0),.sl (Zab us)]:=fun o us=>by simp only [Zaa]
 refine fN 11 @eCP ?_;refine gM (ι:=Bool) [58] [] (fun y=>[(58,A.d (.one (.lit (.bool y))))]) (fun y=>[]) (fun y=>True) ?_ (fun y hy=>Exists.intro _ (ai (Wk.refl _) ?_))
 ·cases list
  ·have F:=@eCP;refine gG ?_;exact ⟨false,trivial,gw,gw⟩
  ·cases dp
   ·have F:=@eCP;refine gG ?_;exact ⟨true,trivial,gw,gw⟩
   ·have F:=@eCP;refine gG ?_;exact ⟨false,trivial,gw,gw⟩
 cases y with
 | true =>
  refine fN 12 @eCP ?_;have F:=eCP;refine gN0 14 [0,1,2,3,4,6,7,8,9,10] [5,11,12,13] ?_;clear F;have F:=ai w2 @eCP;refine gNd ?_;clear F;have F:=eCP;refine gNE (ih vars false) ?_;clear F;rintro r ⟨t1,ht1,rfl⟩;have F:=eCP;refine gNE (ih vars true) ?_;clear F;rintro r ⟨t2,ht2,rfl⟩;have F:=aj3 @eCP @ZaX @Zbk;refine gNr ?_;clear F;refine fR @eCP ?_;have hc:=hec ((5:Nat):Int) [t1,t2];have e2:Zab [t1,t2]=[Zaa t1,Zaa t2]:=by simp only [Zab]
  exact (have F:=aj3 hc e2 @eCP;gTE (R:=RTm (RawD (d'+1))) [] ⟨_,hfin 5 [t1,t2] (by decide) (fun t ht=>by simp only [Tbg,List.not_mem_nil,or_false] at ht;rcases ht with rfl | rfl <;> assumption) (Tai _),rfl⟩)
 | false =>
 refine fN 13 @eCP ?_;refine gB ?_;have F:=ai @w1 @eCP;refine gCE (ZbK (b:=b) hx (n:=g.ops.length - 3) om om) ?_;clear F;rintro r ⟨k,hk,rfl⟩;have w3:IntKind.i64.wrap (3+(k:Int))=((3+k:Nat):Int):=Za2 om om om;refine fR (ai @w3 @eCP) ?_;refine fN 14 @eCP ?_;refine gB ?_;refine fR @eCP ?_;refine gM (ι:=Nat) [13,80] [] (fun o=>[(13,A.d (.one (.lit (.int .i64 o))))]) (fun o=>[]) (fun o=>o<=20) ?_ (fun o ho=>Exists.intro _ (ai (Wk.refl _) ?_))
 ·cases list
  ·have F:=@eCP;refine gG ?_;exact ⟨3+k,om,gw,gw⟩
  ·have F:=@eCP;refine gG ?_;exact ⟨5,om,gw,gw⟩
 refine fN 16 @eCP ?_;refine gM (ι:=Bool) [86] [] (fun y=>[(86,A.d (.one (.lit (.bool y))))]) (fun y=>[]) (fun y=>True) ?_ (fun y hy=>Exists.intro _ (ai (Wk.refl _) ?_))
 ·refine gB ?_;by_cases h5:o=5
  ·have q1:((o:Int)=5)=True:=eq_true om
   cases dp
   ·refine fR (ai @q1 @eCP) ?_;have F:=@eCP;refine gG ?_;exact ⟨true,trivial,gw,gw⟩
   ·refine fR (ai @q1 @eCP) ?_;have F:=@eCP;refine gG ?_;exact ⟨false,trivial,gw,gw⟩
  ·have q1:((o:Int)=5)=False:=eq_false om;refine fR (ai @q1 @eCP) ?_;have F:=@eCP;refine gG ?_;exact ⟨false,trivial,gw,gw⟩
 refine gM (ι:=Nat) [13,86] [] (fun p=>[(13,A.d (.one (.lit (.int .i64 p))))]) (fun p=>[]) (fun p=>p<=20) ?_ (fun p hp=>Exists.intro _ (ai (Wk.refl _) ?_))
 ·cases y
  ·have F:=@eCP;refine gG ?_;exact ⟨o,ho,gw,gw⟩
  ·have F:=@eCP;refine gG ?_;exact ⟨4,(by decide),gw,gw⟩
 refine fN 18 @eCP ?_;refine gB ?_;have F:=ai @w2 @eCP;refine gCE (ih vars list) ?_;clear F;rintro r ⟨t1,ht1,rfl⟩;have F:=aj3 @eCP @ZaX @Zbk;refine gBs ?_;clear F;have e1:[Zaa t1]=Zab [t1]:=(ZbX t1).symm;rw [e1];refine gS 95 fun a1 c1=>?_;refine fR @eCP ?_;refine pE [95] [1000] ZeP ?_;refine fN 19 @eCP ?_;refine gB ?_;refine fR @eCP ?_;generalize decide ((3:Int) < _)=y4
 cases y4
 ·have hc:=hec (p:Int) [t1];refine fN 21 @eCP ?_;refine gB ?_;refine fR @eCP ?_;refine pD 1000 [] [10,14] ?_;exact (have F:=ai hc @eCP;gTE (R:=RTm (RawD (d'+1))) [] ⟨_,hfin p [t1] hp (fun t ht=>by rw [Tbj.1 ht];exact ht1) (Nat.le_succ _),rfl⟩)
 ·have l1:((Zab [t1]).length+1<=maxApp)=True:=eq_true (by rw [Zaj];unfold maxApp;simp);refine fN 20 @eCP ?_;have F:=eCP;refine gN0 10 [0,1,2,3,4,5,6,7] [8,9] ?_;clear F;have F:=ai w2 @eCP;refine gNd ?_;clear F;have F:=eCP;refine gNE (ih vars list) ?_;clear F;rintro r ⟨t2,ht2,rfl⟩;have F:=aj3 @eCP @ZaX @Zbk;refine gNr ?_;clear F;refine gK 100 ?_;have F:=aj5 l1 @ZcO @ZaX @Zbk @eCP;refine gP 1 ?_;clear F
  have hsn:Zab [t1]++[Zaa t2]=Zab [t1,t2]:=by simp only [Zab,Taf,Tah]
  rw [hsn];refine gS 109 fun a3 c3=>?_;refine fR @eCP ?_;have hc:=hec (p:Int) [t1,t2];refine fN 21 @eCP ?_;refine gB ?_;refine fR @eCP ?_;refine pD 109 [] [10,14] ?_;exact (have F:=ai hc @eCP;gTE (R:=RTm (RawD (d'+1))) [] ⟨_,hfin p [t1,t2] hp (fun t ht=>by simp only [Tbg,List.not_mem_nil,or_false] at ht;rcases ht with rfl | rfl <;> assumption) (Tai _),rfl⟩)
end
section
variable {x:Src} {b:Nat} {g:Sgn}
theorem Zx6 (hx:x.Ok) (h4:4<=g.ops.length) (h14:g.ops.length<=14) {d:Nat} (hd:d<=8) (vars:Bool):ConE (eC x b) 60 [curD b,.agg (Zaf g),.one (.lit (.int .i64 d)),.one (.lit (.bool vars))] (RTm (RawD d)):=by
 have he:=hx.okC (b:=b);have cW:=fun l=>ZwJ (b:=b) hx h4 h14 d hd vars l;rw [Zaf] at cW ⊢;have c2:=Zby (b:=b) hx (n:=2) (by decide) (by decide);have c3:=Zby (b:=b) hx (n:=3) (by decide) (by decide);refine gIE (ts:=[.cell 8 34]) 815 Tryz.func60 ?_;refine fN 1 @eCP ?_;refine gB ?_;refine fR @eCP ?_;generalize decide ((1:Int) < _)=dp;refine fN 2 @eCP ?_;have F:=eCP;refine gN0 18 [0,1,2,3] [4,5,6,7,8,9,10,11,12,13,14,15,16,17] ?_;clear F
 have F:=eCP;refine gNd ?_;clear F
 cases dp
 ·have F:=eCP;refine gNE c3 ?_;clear F;rintro r ⟨y,rfl⟩;have F:=eCP;refine gNE (cW y) ?_;clear F;rintro r ⟨t,ht,rfl⟩;have F:=tmC;refine gNr ?_;clear F;refine fR @tmC ?_;exact (have F:=tmC;gTE (R:=RTm (RawD d)) [] ⟨_,ht,rfl⟩)
 ·have F:=eCP;refine gNE c2 ?_;clear F;rintro r ⟨y,rfl⟩
  cases y
  ·have F:=eCP;refine gNE (cW false) ?_;clear F;rintro r ⟨t,ht,rfl⟩;have F:=tmC;refine gNr ?_;clear F;refine fR @tmC ?_;exact (have F:=tmC;gTE (R:=RTm (RawD d)) [] ⟨_,ht,rfl⟩)
  ·have F:=eCP;refine gNE (cW true) ?_;clear F;rintro r ⟨t,ht,rfl⟩;have F:=tmC;refine gNr ?_;clear F;refine fR @tmC ?_;exact (have F:=tmC;gTE (R:=RTm (RawD d)) [] ⟨_,ht,rfl⟩)
def RDr (P:Tm->Prop) (r:List D) (pm:List Bk):Prop:=∃ u,P u∧RTop u r pm
theorem ZAu:∀ d,d<=5->rawK d<=364:=by decide
theorem Zls (hx:x.Ok) (hok:Zbv g) (hg:SgnOk g) (h4:4<=g.ops.length) (hz:TermOk g zTm) {d:Nat} (hd:d<=5) (vars:Bool):ConP (eC x b) 24 [curD b,.agg (Zaf g),.one (.lit (.int .i64 d)),.one (.lit (.bool vars))] [] (RDr fun u=>TermOk g u∧depthTm u<=d+1):=by
 have he:=hx.okC (b:=b);have cR:=Zx6 (b:=b) hx h4 hg.len (d:=d) om vars;have cC:∀ t,RawD d t->ConP (eC x b) 59 [.agg (Zaf g),.agg (Zaa t)] [] (Zjd g (depthTm t)):=fun t ht=>(Zlp hok hg (sizeTm t+1) (Tan _) ht.1.1 (by have:=ht.1.2.1;have:=ZAu d hd;omega)).cu hx;rw [Zaf] at cR cC ⊢;refine gIP (ts:=[.cell 8 34]) [] 67120943 Tryz.func24 ?_;refine fG @tmC ?_;have F:=@tmC;refine gL (ι:=Nat) [9,10,11,13,26] [] (fun i=>[(9,A.d (.one (.lit (.int .i64 i))))]) (fun i=>[]) (fun i=>i<=8) (fun i=>8 - i) (0) (Taj _) (fun i hi=>?_);clear F
 by_cases h1:i < 8
 ·have q1:=lT i 8;have wi:=Zaq (k:=i) om;refine fN 4 (ai @q1 @tmC) ?_;refine gF0 ?_;refine gLa 8 9 ?_;refine gLa 9 11 ?_;have F:=tmC;refine gNa 10 [0,1,2,3,4] [5,6,7,8,9] ?_;clear F;have F:=tmC;refine gNd ?_;clear F;have F:=tmC;refine gNE cR ?_;clear F;rintro r ⟨t,ht,rfl⟩;have F:=tmC;refine gNP [1000] (cC t ht) ?_;clear F;rintro r pm ⟨u,ok,hu,a,k,rfl,rfl⟩;have F:=ai @eCP @ZeG;refine gNr ?_;clear F
  refine fR (ai @ZeG @eCP) ?_
  cases ok with
  | true =>
   refine fN 6 @eCP ?_;refine gB ?_;refine fR @eCP ?_;refine fG @eCP ?_;exact (have F:=eCP;gTP (R:=RDr fun u=>TermOk g u∧depthTm u<=d+1) [1000] ⟨u,⟨(hu rfl).1,Tbe (hu rfl).2 ht.2⟩,a,k,rfl,rfl⟩)
  | false =>
   refine pD 1000 [] [10] ?_;have F:=ai @wi @eCP;refine gG ?_;exact ⟨i+1,om,gw,gw,om⟩
 ·have q1:=lF i 8;refine fN 7 (ai @q1 @tmC) ?_;refine gB ?_;have F:=tmC;refine gXc ?_;clear F;refine fR @eCP ?_;refine pN 1000 34 4 ?_;exact (have F:=eCP;gTP (R:=RDr fun u=>TermOk g u∧depthTm u<=d+1) [1000] ⟨zTm,⟨hz,by simp [zTm,depthTm,depthTms]⟩,none,0,rfl,rfl⟩)
theorem ZmO (hx:x.Ok) (hok:Zbv g) (hg:SgnOk g) (h4:4<=g.ops.length) (hz:TermOk g zTm) {d:Nat} (hd:d<=5) (vars:Bool):ConP (eC x b) 24 [curD b,.agg (Zaf g),.one (.lit (.int .i64 d)),.one (.lit (.bool vars))] [] (RDr (TermOk g)):=by
 have h:=Zls (b:=b) hx hok hg h4 hz hd vars;exact ⟨h.1,fun w S vs hS hE hG hd2 hp hvs=>(h.2 w S vs hS hE hG hd2 hp hvs).mono fun en w' ⟨v,r,pm',q1,⟨u,hu,hq⟩,q2⟩=>⟨v,r,pm',q1,⟨u,hu.1,hq⟩,q2⟩⟩
theorem Zlt {e:Env} {f:FuncId} {xs:List D} {P:Tm->Prop} (h:ConP e f xs [] (RDr P)):ConE e f xs (RTm P):=by
 refine ⟨h.1,fun w S vs hS hE hG hvs=>(h.2 w S vs hS hE hG (fun x hx=>by cases hx) trivial hvs).mono fun en w' ⟨v,r,pm,h1,⟨u,hP,a,cap,hr,hpm⟩,hk,hg,hp,_,ha⟩=>?_⟩;subst hr hpm;refine ⟨v,_,h1,⟨u,hP,rfl⟩,hk.up fun c q=>q.elim id fun ⟨x,hx,_⟩=>(by cases hx),hg,?_⟩;obtain ⟨q1,q2⟩:=hp _ Tas;have q1:ZaS w' _ _ 4 (Zab u.args) (.slice a (Zab u.args).length cap):=q1;obtain ⟨vs1,e1,hr1⟩:=ha
 ·refine ⟨vs1,e1,?_⟩
  match vs1,hr1 with
  | [u0,u1,u2,u3],hr1 =>
   simp only [topC,Zad,and_true] at hr1;obtain ⟨k0,k1,k2,k3⟩:=hr1;have hec:Zaa u=[.lit (.int .i64 u.op),.lit (.string u.name),.lit (.int .i64 u.sort),.sl (Zab u.args)]:=by cases u;simp only [Zaa,Tm.op,Tm.name,Tm.sort,Tm.args]
   rw [hec];simp only [Zad,and_true];refine ⟨k0,k1,k2,?_⟩;simp only [Rep] at k3;subst k3;refine Rep.mono q1.rep fun c hc=>?_;rcases hc with ⟨hc,_⟩ | hc
   ·rcases hc with hc | ⟨x,hx,_⟩ | hc
    ·exact .inl hc
    ·cases hx
    ·exact .inr hc
   ·rcases q2 c hc with ⟨x,hx,_⟩ | hc'
    ·cases hx
    ·refine .inr ⟨hc',?_⟩;rcases q1.2.2 with ⟨_,a',e'⟩ | ⟨g,cap',cur,e',hc0,hg',_⟩
     ·injection e' with _ _ e3
      rw [e3] at hc
      cases a <;> simp [vblk] at hc
     ·rw [e'] at hc;simp only [vblk] at hc;split at hc
      ·cases hc
      ·injection hc with hc
       subst hc;exact hg'
theorem ZsL (hx:x.Ok) (hok:Zbv g) (hg:SgnOk g) (h4:4<=g.ops.length) (hz:TermOk g zTm) {d:Nat} (hd:d<=5) (vars:Bool):ConE (eC x b) 24 [curD b,.agg (Zaf g),.one (.lit (.int .i64 d)),.one (.lit (.bool vars))] (RTm fun u=>TermOk g u∧depthTm u<=d+1):=Zlt (Zls hx hok hg h4 hz hd vars)
theorem ZiL (hx:x.Ok) (hok:Zbv g) (hg:SgnOk g) (h4:4<=g.ops.length) (hz:TermOk g zTm) {d:Nat} (hd:d<=5) (vars:Bool):ConE (eC x b) 24 [curD b,.agg (Zaf g),.one (.lit (.int .i64 d)),.one (.lit (.bool vars))] (RTm (TermOk g)):=Zlt (ZmO hx hok hg h4 hz hd vars)
end
section
variable {x:Src} {b:Nat} {g:Sgn}
theorem Zlu (hx:x.Ok) (hok:Zbv g) (hg:SgnOk g) (h4:4<=g.ops.length) (hz:TermOk g zTm):∀ (n:Nat) {t:Tm},sizeTm t < n->TermOk g t->ConE (eC x b) 25 [curD b,.agg (Zaf g),.agg (Zaa t)] (RTm (TermOk g))
 | 0,t,hn,_=>om
 | n+1,t,hn,ht=>by
  have he:=hx.okC (b:=b);have ih:∀ a∈t.args,ConE (eC x b) 25 [curD b,.agg (Zaf g),.agg (Zaa a)] (RTm (TermOk g)):=fun a ha=>by
   have h1:=ZaV ha;have h2:=ZaN t;exact Zlu hx hok hg h4 hz n om (ht.arg ha)
  have c2:=Zby (b:=b) hx (n:=2) (by decide) (by decide);have c8:=Zby (b:=b) hx (n:=8) (by decide) (by decide);have cD:=ZiL (b:=b) hx hok hg h4 hz (d:=1) (by decide) true;have cK:∀ {u:Tm},TermOk g u->ConE (eC x b) 61 [.agg (Zaf g),.agg (Zaa u)] (fun r=>r=[.one (.lit (.int .i64 (Zbt g u)))]):=fun hu=>((Zfu hok hg hu.form.node).cu hx).toE;rw [Zaf] at ih cD cK ⊢;have hal:t.args.length<=1000:=by have:=Zbp t.args;have:=ZaN t;have:=ht.size;omega
  refine gIE (ts:=[.cell 6 34]) 2362336180669096402935 Tryz.func25 ?_;refine fN 1 @tmC ?_;refine gM (ι:=Bool) [23] [] (fun y=>[(23,A.d (.one (.lit (.bool y))))]) (fun y=>[]) (fun y=>True) ?_ (fun y hy=>Exists.intro _ (ai (Wk.refl _) ?_))
  ·refine gB ?_;by_cases hv:t.op=-1
   ·have F:=ai @hv @tmC;refine gCE (c2) ?_;clear F;rintro r ⟨y,rfl⟩
    cases y
    ·have F:=@tmC;refine gCE (c8) ?_;clear F;rintro r ⟨y,rfl⟩;refine fR @tmC ?_;have F:=@tmC;refine gG ?_;exact ⟨y,trivial,gw,gw⟩
    ·refine fR @tmC ?_;have F:=@tmC;refine gG ?_;exact ⟨true,trivial,gw,gw⟩
   ·have F:=ai @hv @tmC;refine gCE (c8) ?_;clear F;rintro r ⟨y,rfl⟩;refine fR @tmC ?_;have F:=@tmC;refine gG ?_;exact ⟨y,trivial,gw,gw⟩
  refine gM (ι:=Unit) [] [] (fun y=>[]) (fun y=>[]) (fun y=>True) ?_ (fun y hy=>Exists.intro _ (ai (Wk.refl _) ?_))
  ·cases y
   ·have F:=@tmC;refine gG ?_;exact ⟨(),trivial,gw,gw⟩
   ·refine fG @tmC ?_;have F:=@tmC;refine gL (ι:=Nat) [7,8,25,37] [] (fun i=>[(7,A.d (.one (.lit (.int .i64 i))))]) (fun i=>[]) (fun i=>i<=6) (fun i=>6 - i) (0) (Taj _) (fun i hi=>?_);clear F;by_cases h1:i < 6
    ·have q1:=lT i 6;have wi:=Zaq (k:=i) om;refine fN 5 (ai @q1 @tmC) ?_;refine gB ?_;have F:=@tmC;refine gCE (cD) ?_;clear F;rintro r ⟨u,hu,rfl⟩;refine fR @tmC ?_;refine fN 6 @tmC ?_;have F:=tmC;refine gN0 7 [0,1,3,4] [2,5,6] ?_;clear F;have F:=tmC;refine gNd ?_;clear F;have F:=tmC;refine gNE (cK hu) ?_;clear F;rintro r rfl;have F:=tmC;refine gNE (cK ht) ?_;clear F;rintro r rfl;have F:=tmC;refine gNr ?_;clear F
     refine fR @tmC ?_;generalize decide (Zbt g u=Zbt g t)=y
     cases y
     ·have F:=ai @wi @tmC;refine gG ?_;exact ⟨i+1,om,gw,gw,om⟩
     ·refine fG @tmC ?_;exact (have F:=tmC;gTE (R:=RTm (TermOk g)) [] ⟨_,hu,rfl⟩)
    ·have q1:=lF i 6;have F:=ai @q1 @tmC;refine gG ?_;exact ⟨(),trivial,gw,gw⟩
  clear cK cD c2 c8;refine fG @tmC ?_;have F:=ai @ZcB @tmC;refine gL (ι:=List Tm) [7,8,9,10,25,37] [9] (fun us=>[(10,A.d (.one (.lit (.int .i64 us.length)))),(9,.buf 9)]) (fun us=>[(9,.buf none 34 4 (Zab us))]) (fun us=>us.length<=t.args.length∧∀ u∈us,TermOk g u) (fun us=>t.args.length - us.length) ([]) (⟨Taj _,fun u hu=>(by cases hu)⟩) (fun us hus=>?_);clear F;obtain ⟨hul,huo⟩:=hus;by_cases hlt:us.length < t.args.length
  ·have q1:=lT us.length t.args.length;have wi:=Zaq (k:=us.length) om;have hm:(us.length+1<=maxApp)=True:=eq_true (by unfold maxApp;omega);have hg1:t.args[us.length]?=some t.args[us.length]:=Taa hlt;have cI:=ih t.args[us.length] (List.getElem_mem hlt);generalize t.args[us.length]=a at hg1 cI;refine fN 12 (ai @q1 @tmC) ?_;have F:=tmC;refine gN0 10 [0,1,2,3,4,5,6,7] [8,9] ?_;clear F;have F:=ai hg1 @tmC;refine gNd ?_;clear F
   have F:=tmC;refine gNE cI ?_;clear F;rintro r ⟨u,hu,rfl⟩;have F:=tmC;refine gNr ?_;clear F;have hsn:Zab us++[Zaa u]=Zab (us++[u]):=by rw [ZbH,ZbX]
   refine fR (aj3 @hm @hsn @tmC) ?_;have hl:(us++[u]).length=us.length+1:=by simp
   have F:=aj5 @wi @hl @hm @hsn @tmC;refine gG ?_;exact ⟨us++[u],⟨om,fun v hv=>(Tbh.1 hv).elim (huo v) fun hv=>by rw [Tbj.1 hv];exact hu⟩,gw,gw,om⟩
  ·have q1:=lF us.length t.args.length;have q2:us.length=t.args.length:=om;by_cases hv:t.op=-1
   ·refine fG (aj3 @q1 @hv @tmC) ?_;exact (have F:=tmC;gTE (R:=RTm (TermOk g)) [9] ⟨_,ht,rfl⟩)
   ·obtain ⟨o,d,hA⟩:=ht.form.node.app hv;have cM:=((ZjL hok hg hA.lo hA.at' us huo om).cu (b:=b) hx).toE;rw [Zaf] at cM;refine fN 15 (aj3 @q1 @hv @tmC) ?_;refine pS 9 fun a1 k1=>?_;refine pD 9 [9] [] ?_;refine gB ?_;have F:=@tmC;refine gCE (cM) ?_;clear F;rintro r rfl;refine fR @tmC ?_;have hr:(mkT g t.op us).isSome=true->TermOk g (mk6T g t.op us):=fun h=>by
     obtain ⟨v,hm⟩:=Option.isSome_iff_exists.1 h;rw [Zl1 hm];exact Zfc hg hA.lo huo hm
    generalize (mkT g t.op us).isSome=y at hr;generalize mk6T g t.op us=v at hr
    cases y
    ·refine fG @tmC ?_;exact (have F:=tmC;gTE (R:=RTm (TermOk g)) [] ⟨_,ht,rfl⟩)
    ·refine fG @tmC ?_;exact (have F:=tmC;gTE (R:=RTm (TermOk g)) [] ⟨_,hr rfl,rfl⟩)
end
structure DrOk (g:Sgn):Prop where
 ok:Zbv g
 sg:SgnOk g
 h4:4<=g.ops.length
 hz:TermOk g zTm
 hb:Zal (Zaf g)<=1048576
def smI (n:Int):Bool:=decide (-1<=n∧n<=1000)
theorem ZiM {n:Int} (h:smI n=true):I64 n:=by
 have:=of_decide_eq_true h;exact ⟨om,om⟩
def Zlv (g:Sgn):Bool:=g.sorts.names.all (fun x=>decide (x.size<=12)) && g.sorts.subs.all (fun p=>smI p.1 && smI p.2) && g.ops.all (fun o=>decide (o.name.size<=12) && o.decls.all (fun d=>d.args.all smI && smI d.res) && smI o.unit)
theorem ZwK {g:Sgn} (h:Zlv g=true):Zbv g:=by
 simp only [Zlv,Tar,List.all_eq_true,decide_eq_true_eq] at h;obtain ⟨⟨h1,h2⟩,h3⟩:=h;refine ⟨⟨fun x hx=>Tbe (h1 x hx) (by decide),fun p hp=>⟨ZiM (h2 p hp).1,ZiM (h2 p hp).2⟩⟩,fun o ho=>?_⟩;obtain ⟨⟨q1,q2⟩,q3⟩:=h3 o ho;exact ⟨Tbe q1 (by decide),fun d hd=>⟨fun k hk=>ZiM ((q2 d hd).1 k hk),ZiM (q2 d hd).2⟩,ZiM q3⟩
theorem Zx7 {g:Sgn} {o:Opr} {d:Dcl} (h0:g.ops[0]?=some o) (h1:o.decls[0]?=some d) (h2:d.args=[]) (h3:o.assoc=false):TermOk g zTm:=by
 refine ⟨by simp [zTm,sizeTm,sizeTms],by simp [zTm,depthTm,depthTms],ZaK.2 ⟨.inr ⟨o,d,⟨by simp [zTm,Tm.op],h0,h1,rfl,rfl,fun h=>(by rw [h3] at h;cases h),fun _=>by rw [h2];rfl⟩⟩,fun a ha=>by simp [zTm,Tm.args] at ha,.inr fun o' d' _ _ i a ha=>by simp [zTm,Tm.args] at ha⟩⟩
theorem ZAR {z u hc fa fc fu:Bool} {w:Option Bool} (h:z=true∨(fa=false∧fc=false∧fu=false)):DrOk (sigD z u hc fa fc fu w):=by
 have H:∀ z u hc fa fc fu w',(Zlv (sigD z u hc fa fc fu none)=true∧Zal (Zaf (sigD z u hc fa fc fu none))<=1048576)∧Zlv (sigD z u hc fa fc fu (some w'))=true∧Zal (Zaf (sigD z u hc fa fc fu (some w')))<=1048576:=by decide +kernel
 refine ⟨ZwK ?_,ZAt h,by cases w <;> exact Nat.le_of_ble_eq_true rfl,Zx7 (o:=⟨nm1 97,[⟨[],0⟩],false,false,0⟩) (d:=⟨[],0⟩) (by cases w <;> rfl) rfl rfl rfl,?_⟩
 ·cases w with
  | none=>exact (H z u hc fa fc fu true).1.1
  | some w=>exact (H z u hc fa fc fu w).2.1
 ·cases w with
  | none=>exact (H z u hc fa fc fu true).1.2
  | some w=>exact (H z u hc fa fc fu w).2.2
section
variable {x:Src} {b:Nat}
def curS (x:Src) (b:Nat):Bk:=.set (fun c=>c=b) fun w=>∃ i h:Int,0<=i∧(∃ arr ty,w.heap[b]?=some (.cells arr ty (0,0))∧arr.size=3)∧Zag w (fun _=>False) b 0 (curC x i h)
theorem ZAS {i h:Int} (hi:0<=i):ZgT [.var (some b) (curC x i h)] [curS x b]:=fun w S h1 h2=>by
 obtain ⟨q1,q2,⟨arr,ty,q3,q4⟩,q5⟩:=h1 _ (Tbj.2 rfl);refine ⟨fun y hy=>?_,⟨fun y hy=>(by cases hy),trivial⟩,fun g ⟨y,hy,hg⟩=>?_⟩
 ·obtain rfl:=Tbj.1 hy;refine ⟨fun c hc=>by subst hc;exact ⟨q1,q2⟩,⟨i,h,hi,⟨arr,ty,q3,by rw [q4];rfl⟩,ZeH (fun _=>rfl) q5⟩,fun w w' hz hE ⟨i,h,h0,h2,h3⟩=>⟨i,h,h0,by rw [hE b rfl];exact h2,ZeH (fun o=>Zbi (hE b rfl) o) h3⟩⟩
 ·obtain rfl:=Tbj.1 hy;exact ⟨_,Tbj.2 rfl,Eq.symm hg⟩
theorem pCur {mask:Nat} {c:Code} {s s2:List (Nat × A)} {m m2 m3:List (Nat × Bk)} {Q:PX->St->Prop} {i h:Int} (k:Nat) (hi:0<=i) (hK:pwp (eC x b) mask c ⟨s2,m3⟩ Q) (hpm:getM m [k]=some [.var (some b) (curC x i h)]:=by exact sny)
  (hs:Zca ([k]++[k]) s=s2:=by exact snv) (hr:Zcg ([k]++[k]) m=m2:=by exact snv) (h3:remM k (zipM [k] [curS x b]++m2)=m3:=by exact snv):pwp (eB x) mask c ⟨s,m⟩ Q:=by
 refine pE (m3:=zipM [k] [curS x b]++m2) [k] [k] (ZAS hi) ?_ hpm (by simp) (by rfl) hs hr rfl;subst h3;exact ZAo (E2:=fun c=>c=b) (G2:=curG x b) k Zek.st (by show gm ((k,curS x b)::m2) k=_;simp [gm,curS]) (fun hd=>⟨Zek,fun w h=>⟨hd b rfl,h⟩⟩) fun _=>hK
end
def WtDr (w:Wt):Prop:=okWt w∧∀ c∈w.coefs,c<=3
def RWs (g:Sgn) (r:List D):Prop:=∃ ws:List Wt,ws.length=g.ops.length∧(∀ w∈ws,WtDr w)∧r=[.one (.sl (ws.map ZbI))]
def ROfI (l:List Int) (r:List D):Prop:=∃ s∈l,r=[.one (.lit (.int .i64 s))]
theorem ZzJ {c:Int} {cs:List Int} (hc:I64 c) (h:∀ c∈cs,1<=c∧c<=3):WtDr ⟨c,cs⟩:=⟨⟨hc,fun k hk=>by have:=h k hk;exact ⟨om,om⟩⟩,fun k hk=>(h k hk).2⟩
theorem ZwL {ws:List Wt} {j:Nat} {w:Wt} (h:∀ w∈ws,WtDr w) (hw:WtDr w):∀ x∈ws.set j w,WtDr x:=fun x hx=>(List.mem_or_eq_of_mem_set hx).elim (h x) fun e=>e ▸ hw
section
variable {x:Src} {b:Nat} {g:Sgn}
theorem Zo5 (hx:x.Ok) {l:List Int} (h1:1<=l.length) (h2:l.length<=256):ConE (eC x b) 62 [curD b,.one (.sl (l.map ZaG))] (ROfI l):=by
 have he:=hx.okC (b:=b);refine gIE (ts:=[.slot 4]) 19 Tryz.func62 ?_;refine fN 1 @tmC ?_;refine gB ?_;have F:=@tmC;refine gCE (ZbK hx h1 h2) ?_;clear F;rintro r ⟨k,hk,rfl⟩;have hg:(l.map ZaG)[k]?=some (ZaG l[k]):=by rw [Tba,Taa hk];rfl
 refine fR (aj3 @hg @Zai @tmC) ?_;exact (have F:=tmC;gTE (R:=ROfI l) [] ⟨l[k],List.getElem_mem hk,rfl⟩)
theorem ZsM (hx:x.Ok):ConE (eC x b) 62 [curD b,.clip [[.lit (.int .i64 (-1))],[.lit (.int .i64 100)],[.lit (.int .i64 101)]]] (ROfI [-1,100,101]) :=
 (Zo5 (b:=b) hx (l:=[-1,100,101]) (by decide) (by decide)).args fun w S vs h=>by
  match vs,h with
  | [v1,v2],⟨h1,h2,_⟩=>exact ⟨h1,h2.1,trivial⟩
theorem Zo6 (hx:x.Ok) (hd:DrOk g):ConE (eC x b) 27 [curD b,.agg (Zaf g)] (RWs g):=by
 have he:=hx.okC (b:=b);have c2:=Zby (b:=b) hx (n:=2) (by decide) (by decide);have b2:=ZbK (b:=b) hx (n:=2) (by decide) (by decide);have b3:=ZbK (b:=b) hx (n:=3) (by decide) (by decide);have c16:=Zby (b:=b) hx (n:=16) (by decide) (by decide);have hg:=hd.sg;have h14:=hg.len;have h4:=hd.h4;have cAr:∀ {o:Opr} {d:Dcl},o.decls[0]?=some d->Con (eC x b) 44 [.agg (ZaT o)] [.one (.lit (.int .i64 d.args.length))]:=fun h=>(ZcF h).cu hx
 simp only [ZaT] at cAr;rw [Zaf];refine gIE (ts:=[.slot 4]) 85091401522102648199741723757617745915 Tryz.func27 ?_;refine fG @tmC ?_;have F:=@tmC;refine gL (ι:=List Wt) [5,6,7,8,9,17,33,50,79,95] [5] (fun ws=>[(6,A.d (.one (.lit (.int .i64 ws.length)))),(5,.buf 5)]) (fun ws=>[(5,.buf none 101 2 (ws.map ZbI))]) (fun ws=>ws.length<=g.ops.length∧∀ w∈ws,WtDr w) (fun ws=>g.ops.length - ws.length) ([]) (⟨Taj _,fun w h=>by cases h⟩) (fun ws hws=>?_);clear F
 obtain ⟨hwl,hwd⟩:=hws;by_cases h1:ws.length < g.ops.length
 ·have q1:=lT ws.length g.ops.length;obtain ⟨o,ho⟩:∃ o,g.ops[ws.length]?=some o:=⟨_,Taa h1⟩;obtain ⟨d,hd0,_⟩:=hg.first ho;have har:=(hg.decls o (Tac ho)).ar d hd0;have cA:=cAr hd0;clear cAr;refine fN 5 (ai @q1 @tmC) ?_;refine gB ?_;have F:=@tmC;refine gCE (b3) ?_;clear F;rintro r ⟨c0,hc0,rfl⟩;have F:=tmC;refine gXc ?_;clear F;refine fR @tmC ?_;refine fN 6 @tmC ?_;refine gB ?_;have F:=@tmC;refine gCE (b2) ?_;clear F
  rintro r ⟨k0,hk0,rfl⟩;have w0:IntKind.i64.wrap (1+(k0:Int))=((1+k0:Nat):Int):=Za2 om om om;refine fR (ai @w0 @tmC) ?_;refine pN 1001 3 1 ?_;refine fG @tmC ?_;have F:=@tmC;refine gL (ι:=List Int × Nat × Option Addr × Nat) [8,9,33,50,79] [7,1001] (fun q=>[(9,A.d (.one (.lit (.int .i64 q.1.length)))),(8,A.d (.one (.lit (.int .i64 q.2.1))))]) (fun q=>[(7,.var none [.lit (.int .i64 (c0:Int)),.lit (.slice q.2.2.1 (q.1.map ZaG).length q.2.2.2)]),(1001,.buf (some (q.2.2.1,q.2.2.2)) 3 1 (q.1.map ZaG))]) (fun q=>q.1.length<=d.args.length∧(1<=q.2.1∧q.2.1<=3)∧∀ c∈q.1,1<=c∧c<=3) (fun q=>d.args.length - q.1.length) (([],1+k0,none,0)) (⟨Taj _,⟨by dsimp only;omega,by dsimp only;omega⟩,fun c h=>by cases h⟩) (fun q hq=>?_);clear F
  obtain ⟨cs,k,a1,n1⟩:=q;obtain ⟨hql,hqk,hqc⟩:=hq;dsimp only at hql hqk hqc ⊢;by_cases h2:cs.length < d.args.length
  ·have q2:=lT cs.length d.args.length;refine fN 8 @tmC ?_;refine gB ?_;refine fC (aj3 @ho @Zae @tmC) (cA) ?_;refine fR (ai @q2 @tmC) ?_;refine fN 10 (aj3 @ho @Zae @tmC) ?_;refine gM (ι:=Bool) [50] [] (fun y=>[(50,A.d (.one (.lit (.bool y))))]) (fun y=>[]) (fun y=>True) ?_ (fun y hy=>Exists.intro _ (ai (Wk.refl _) ?_))
   ·refine gB ?_
    cases hac:o.assoc with
    | true =>
     refine fR (aj4 @ho @Zae @hac @tmC) ?_;have F:=@tmC;refine gG ?_;exact ⟨true,trivial,gw,gw⟩
    | false =>
     refine fR (aj4 @ho @Zae @hac @tmC) ?_;have F:=@tmC;refine gG ?_;exact ⟨decide (0 < o.unit),trivial,gw,gw⟩
   clear hy;refine gM (ι:=Nat) [8,50] [] (fun k2=>[(8,A.d (.one (.lit (.int .i64 k2))))]) (fun k2=>[]) (fun k2=>1<=k2∧k2<=3) ?_ (fun k2 hk2=>Exists.intro _ (ai (Wk.refl _) ?_))
   ·cases y
    ·have F:=@tmC;refine gG ?_;exact ⟨k,hqk,gw,gw⟩
    ·have F:=@tmC;refine gG ?_;exact ⟨1,(by decide),gw,gw⟩
   clear hqk y;refine fN 12 @tmC ?_;refine gM (ι:=Bool) [79] [] (fun y=>[(79,A.d (.one (.lit (.bool y))))]) (fun y=>[]) (fun y=>True) ?_ (fun y hy=>Exists.intro _ (ai (Wk.refl _) ?_))
   ·refine gB ?_
    cases hcm:o.comm with
    | true =>
     refine fR (aj4 @ho @Zae @hcm @tmC) ?_;have F:=@tmC;refine gG ?_;exact ⟨false,trivial,gw,gw⟩
    | false =>
    cases hac:o.assoc with
    | true =>
     refine fR (aj5 @ho @Zae @hcm @hac @tmC) ?_;have F:=@tmC;refine gG ?_;exact ⟨false,trivial,gw,gw⟩
    | false =>
    by_cases hu:o.unit=0
    ·have F:=aj6 @ho @Zae @hcm @hac @hu @tmC;refine gCE (c2) ?_;clear F;rintro r ⟨y,rfl⟩;refine fR (aj6 @ho @Zae @hcm @hac @hu @tmC) ?_;have F:=@tmC;refine gG ?_;exact ⟨y,trivial,gw,gw⟩
    ·refine fR (aj6 @ho @Zae @hcm @hac @hu @tmC) ?_;have F:=@tmC;refine gG ?_;exact ⟨false,trivial,gw,gw⟩
   clear hy;refine gM (ι:=Nat) [8,79] [] (fun k3=>[(8,A.d (.one (.lit (.int .i64 k3))))]) (fun k3=>[]) (fun k3=>1<=k3∧k3<=3) ?_ (fun k3 hk3=>Exists.intro _ (ai (Wk.refl _) ?_))
   ·cases y
    ·have F:=@tmC;refine gG ?_;exact ⟨k2,hk2,gw,gw⟩
    ·refine fN 13 @tmC ?_;refine gB ?_;have F:=@tmC;refine gCE (b3) ?_;clear F;rintro r ⟨k4,hk4,rfl⟩;have w4:IntKind.i64.wrap (1+(k4:Int))=((1+k4:Nat):Int):=Za2 om om om;refine fR (ai @w4 @tmC) ?_;have F:=@tmC;refine gG ?_;exact ⟨1+k4,⟨om,om⟩,gw,gw⟩
   clear hk2 y;have hm:((cs.map ZaG).length+1<=maxApp)=True:=eq_true (by rw [Tay];unfold maxApp;omega);have hm2:(cs.length+1<=maxApp)=True:=eq_true (by unfold maxApp;omega);have hsn:cs.map ZaG++[[C.lit (.int .i64 (k3:Int))]]=(cs++[(k3:Int)]).map ZaG:=by rw [Tbv];rfl
   refine fN 14 @tmC ?_;refine gB ?_;have F:=@tmC;refine gP 2 ?_;clear F;refine gK 84 ?_;have F:=aj3 @hm @hm2 @tmC;refine gP 3 ?_;clear F;rw [hsn];refine gS 87 fun a2 n2=>?_;have F:=@tmC;refine gP 2 ?_;clear F;refine gE [87] [1001] ZeP ?_;refine fR @tmC ?_;have wi:=Zaq (k:=cs.length) om;have hl:(cs++[(k3:Int)]).length=cs.length+1:=by simp
   have hl2:((cs++[(k3:Int)],k3,a2,n2):List Int × Nat × Option Addr × Nat).1.length=cs.length+1:=by simp
   have F:=aj3 @wi @hl @tmC;refine gG ?_;exact ⟨(cs++[(k3:Int)],k3,a2,n2),⟨by dsimp only;omega,hk3,fun c hc=>(Tbh.1 hc).elim (hqc c) fun h=>by rw [Tbj.1 h];omega⟩,gw,gw,om⟩
  ·have q2:=lF cs.length d.args.length;refine fN 8 @tmC ?_;refine gB ?_;refine fC (aj3 @ho @Zae @tmC) (cA) ?_;refine fR (ai @q2 @tmC) ?_;refine pD 1001 [] [7] ?_;clear cA;refine fN 15 @tmC ?_;refine gB ?_;refine fR (aj3 @ho @Zae @tmC) ?_;generalize decide ((0:Int) < o.unit)=y;refine gM (ι:=Int) [95] [7] (fun c=>[]) (fun c=>[(7,.var none [.lit (.int .i64 c),.sl (cs.map ZaG)])]) (fun c=>I64 c) ?_ (fun c hc=>Exists.intro _ (ai (Wk.refl _) ?_))
   ·cases y
    ·have F:=@tmC;refine gG ?_;exact ⟨(c0:Int),⟨om,om⟩,gw,gw⟩
    ·have F:=@tmC;refine gG ?_;exact ⟨0,⟨by decide,by decide⟩,gw,gw⟩
   have hsn:ws.map ZbI++[[.lit (.int .i64 c),.sl (cs.map ZaG)]]=(ws++[(⟨c,cs⟩:Wt)]).map ZbI:=by rw [Tbv];rfl
   have hm:((ws.map ZbI).length+1<=maxApp)=True:=eq_true (by rw [Tay];unfold maxApp;omega);have hm2:(ws.length+1<=maxApp)=True:=eq_true (by unfold maxApp;omega);have wi:=Zaq (k:=ws.length) om;have hl:(ws++[(⟨c,cs⟩:Wt)]).length=ws.length+1:=by simp
   refine fN 17 @tmC ?_;refine gB ?_;refine fR (aj4 @hm @hm2 @hsn @tmC) ?_;have F:=aj3 @wi @hl @tmC;refine gG ?_;exact ⟨ws++[⟨c,cs⟩],⟨om,fun w hw=>(Tbh.1 hw).elim (hwd w) fun h=>by rw [Tbj.1 h];exact ZzJ hc hqc⟩,gw,gw,om⟩
 ·have q1:=lF ws.length g.ops.length;have hwl:ws.length=g.ops.length:=om;clear cAr;refine fG (ai @q1 @tmC) ?_;have F:=@tmC;refine gL (ι:=Nat × List Wt) [5,10,105,114] [5] (fun z=>[(10,A.d (.one (.lit (.int .i64 z.1)))),(5,.buf 5)]) (fun z=>[(5,.buf none 101 2 (z.2.map ZbI))]) (fun z=>z.1<=g.ops.length∧z.2.length=g.ops.length∧∀ w∈z.2,WtDr w) (fun z=>g.ops.length - z.1) ((0,ws)) (⟨Taj _,hwl,hwd⟩) (fun z hz=>?_);clear F
  obtain ⟨i,us⟩:=z;obtain ⟨hil,hul,hud⟩:=hz;dsimp only at hil hul hud ⊢;clear hwd hwl h1 q1;by_cases h1:i < g.ops.length
  ·have q1:=lT i g.ops.length;obtain ⟨o,ho⟩:∃ o,g.ops[i]?=some o:=⟨_,Taa h1⟩;have wi:=Zaq (k:=i) om;have hax:=hg.axs o (Tac ho);have hhi:=hax.hi;have hlo:=hax.lo;by_cases hu:0 < o.unit
   ·have q2:((0:Int) < o.unit)=True:=eq_true hu;have w1:IntKind.i64.wrap (o.unit - 1)=((o.unit.toNat - 1:Nat):Int):=by
     have e:o.unit=(o.unit.toNat:Int):=om;rw [e];exact Za2 om om om
    have hjl:o.unit.toNat - 1 < us.length:=om;generalize o.unit.toNat - 1=j at w1 hjl;obtain ⟨w,hw⟩:∃ w,us[j]?=some w:=⟨_,Taa hjl⟩;have hgw:(us.map ZbI)[j]?=some [.lit (.int .i64 w.const),.sl (w.coefs.map ZaG)]:=by rw [Tba,hw];rfl
    refine fN 22 (aj5 @q1 @ho @Zae @q2 @tmC) ?_;refine gB ?_;have F:=aj6 @ho @Zae @w1 @hgw @hjl @tmC;refine gP 11 ?_;clear F;have s1:(us.map ZbI).set j [.lit (.int .i64 0),.sl (w.coefs.map ZaG)]=(us.set j ⟨0,w.coefs⟩).map ZbI:=by rw [List.map_set];rfl
    rw [s1];refine fR @tmC ?_;have hl:(us.set j ⟨0,w.coefs⟩).length=us.length:=Taz ..;have hl2:((i+1,us.set j ⟨0,w.coefs⟩):Nat × List Wt).1=i+1:=rfl;have hwd:=hud w (Tac hw);have F:=ai @wi @tmC;refine gG ?_;exact ⟨(i+1,us.set j ⟨0,w.coefs⟩),⟨by dsimp only;omega,by dsimp only;omega,ZwL hud ⟨⟨(show I64 (0:Int) from ⟨by decide,by decide⟩),hwd.1.2⟩,hwd.2⟩⟩,gw,gw,om⟩
   ·have q2:((0:Int) < o.unit)=False:=eq_false hu;refine fG (aj5 @q1 @ho @Zae @q2 @tmC) ?_;have hl2:((i+1,us):Nat × List Wt).1=i+1:=rfl;have F:=ai @wi @tmC;refine gG ?_;exact ⟨(i+1,us),⟨by dsimp only;omega,hul,hud⟩,gw,gw,om⟩
  ·have q1:=lF i g.ops.length;refine fN 23 (ai @q1 @tmC) ?_;refine gB ?_;have F:=@tmC;refine gCE (c16) ?_;clear F;rintro r ⟨y,rfl⟩;refine fR @tmC ?_
   cases y
   ·refine fG @tmC ?_;exact (have F:=tmC;gTE (R:=RWs g) [4] ⟨us,hul,hud,rfl⟩)
   ·have hum:(us.map ZbI).length=us.length:=Tay _;refine fN 24 @tmC ?_;refine gB ?_;have F:=ai @hum @tmC;refine gCE (ZbK (b:=b) hx (n:=us.length) om om) ?_;clear F;rintro r ⟨j,hjl,rfl⟩;refine fR @tmC ?_;obtain ⟨w,hw⟩:∃ w,us[j]?=some w:=⟨_,Taa hjl⟩;have hgw:(us.map ZbI)[j]?=some [.lit (.int .i64 w.const),.sl (w.coefs.map ZaG)]:=by rw [Tba,hw];rfl
    refine fN 25 @tmC ?_;refine gB ?_;have F:=@tmC;refine gCE (ZsM hx) ?_;clear F;rintro r ⟨k,hk,rfl⟩;have hk:I64 k:=by
     simp only [Tbg,List.not_mem_nil,or_false] at hk;rcases hk with rfl | rfl | rfl <;> exact ⟨by decide,by decide⟩
    have F:=aj3 @hgw @hjl @tmC;refine gP 3 ?_;clear F;have s1:(us.map ZbI).set j [.lit (.int .i64 k),.sl (w.coefs.map ZaG)]=(us.set j ⟨k,w.coefs⟩).map ZbI:=by rw [List.map_set];rfl
    rw [s1];refine fR @tmC ?_;have hl:(us.set j ⟨k,w.coefs⟩).length=us.length:=Taz ..;have hwd:=hud w (Tac hw);refine fG @tmC ?_;exact (have F:=tmC;gTE (R:=RWs g) [4] ⟨us.set j ⟨k,w.coefs⟩,om,ZwL hud ⟨⟨hk,hwd.1.2⟩,hwd.2⟩,rfl⟩)
end
section
variable {x:Src}
end
theorem ConP.args {e:Env} {f:FuncId} {lits data:List D} {pm:List Bk} {R:List D->List Bk->Prop} (h:ConP e f data pm R) (hd:∀ (w:World) (S:Nat->Prop) (vs:List Value),Zas w S lits vs->Zas w S data vs):ConP e f lits pm R:=⟨h.1,fun w S vs hS hE hG hp ha hvs=>h.2 w S vs hS hE hG hp ha (hd w S vs hvs)⟩
theorem ZAT {d:D} {rows:List (List C)} (w:World) (S:Nat->Prop) (vs:List Value) (h:Zas w S [d,.clip rows] vs):Zas w S [d,.one (.sl rows)] vs:=by
 match vs,h with
 | [x,y],h=>exact ⟨h.1,h.2.1.1,trivial⟩
def Zlw (d:D) (bk:Bk) (r:List D) (pm:List Bk):Prop:=r=[d]∧pm=[bk]
theorem Zlx {u:Tm} (hu:okTm u) (hb:Zal (Zaa u)<=1048576) (a:Option Addr) (k:Nat):ConP e0 54 [.agg (topC u a k),.one (.sl [])] [topB u a k] (Zlw (.one (.sl (Zab (ZaD u)))) (topB u a k)):=by
 have hlen:=Zf3 u;obtain ⟨op,nm,so,args⟩:=u;have hall:∀ x∈args,Zal (Zaa x)<=1048576:=fun x hx=>by
  obtain ⟨i,hi⟩:=Tbk hx;have hi':(Zab args)[i]?=some (Zaa x):=by rw [Zbj,hi];rfl
  have h2:=ZdE hi';simp only [Zaa,Zal,Zc6] at hb;omega
 have hv0:ZaD (.mk op nm so args)=colT (Zau (.mk op nm so args)) []:=rfl;rw [hv0,ZeG];simp only [topB,Tm.op,Tm.name,Tm.sort,Tm.args];have hn:=Zaj args;refine gIP (ts:=[.slot 4]) [1000] 1048887 Tryz.func54 ?_;by_cases ho:op=-1
 ·have e1:Zau (.mk op nm so args)=[.mk (-1) nm so []]:=by simp only [Zau,if_pos ho]
  rw [e1];have hI:=ZiC [] (.mk (-1) nm so []) trivial (Zj9 hu) (by simp);rw [Ze4] at hI;refine fN 2 @ho ?_;refine gB ?_;refine fC @e0P (Zff nm so) ?_;refine fC @e0P (hI) ?_;refine fR @e0P ?_;exact (have F:=e0P;gTP (R:=Zlw (.one (.sl (Zab (colT [.mk (-1) nm so []] [])))) (.buf (some (a,k)) 34 4 (Zab args))) [1000] ⟨rfl,rfl⟩)
 ·have e1:Zau (.mk op nm so args)=ZaC args:=by simp only [Zau,if_neg ho]
  rw [e1] at hlen ⊢;have hk:Zax args:=by simp only [okTm] at hu;exact hu.2.2.2
  refine fG @ho ?_;have F:=ai ((fun (r:List Tm)=>(colT_nil0:colT (ZaC []) r=r))) @Ze4;refine gL (ι:=Nat) [1,5,20] [] (fun x=>[(5,.d (.one (.lit (.int .i64 (x:Int))))),(1,.d (.one (.sl (Zab (colT (ZaC (args.take x)) [])))))]) (fun x=>[]) (fun x=>x<=args.length) (fun x=>args.length - x) (0) (Taj _) (fun x hx=>?_);clear F;by_cases hlt:x < args.length
  ·obtain ⟨b,hg⟩:∃ b,args[x]?=some b:=⟨_,Taa hlt⟩;have q2:((x:Int) < ((Zab args).length:Int))=True:=eq_true (by rw [hn];omega);have q4:IntKind.i64.wrap ((x:Int)+1)=(x:Int)+1:=IntWalk.i64_in _ (by have:=hx;simp only [Zaa,Zal,Zc6] at hb;omega);have hvt:=ZeC hg;have hle:=Zfy args (x+1);rw [hvt,Tae] at hle;have hcl:=Zf2 (ZaC (args.take x)) [];have hbb:=hall b (Tac hg);have hvb:=Zf3 b;have hvl:(ZaC args).length<=1048577:=om
   have hcon:=Zgr _ b (Tan _) (hk.mem (Tac hg)) hbb (colT (ZaC (args.take x)) []) (Zi8 (Zfz (ZhF x hk)) trivial) (by simp only [Tak,Nat.zero_add] at hcl;omega);rw [<- ZoJ,<- hvt] at hcon;have hge:(Zab args)[x]?=some (Zaa b):=by rw [Zbj,hg];rfl
   have hl2:x < (Zab args).length:=by rw [hn];exact hlt
   refine fN 6 @q2 ?_;refine gB ?_;refine fC (aj6 @q2 @hge @hl2 @Zbk @ZaX @Zbn) (hcon) ?_;refine fR @e0P ?_;have F:=@q4;refine gG ?_;exact ⟨x+1,hlt,gw,gw,om⟩
  ·obtain rfl:x=args.length:=by omega
   have q2:=lF ((Zab args).length) ((Zab args).length);rw [Tap,<- hn];refine fG @q2 ?_;exact (have F:=e0P;gTP (R:=Zlw (.one (.sl (Zab (colT (ZaC args) [])))) (.buf (some (a,k)) 34 4 (Zab args))) [1000] ⟨rfl,rfl⟩)
theorem Zo7 {u:Tm} (hu:okTm u) (hb:Zal (Zaa u)<=1048576) (a:Option Addr) (k:Nat):ConP e0 17 [.agg (topC u a k)] [topB u a k] (Zlw (.one (.sl (Zab (ZaD u)))) (topB u a k)):=by
 have hc:=(Zlx hu hb a k).args ZAT;rw [ZeG] at hc ⊢;refine gIP (ts:=[.slot 2]) [1000] 7 Tryz.func17 ?_;refine fN 1 @e0P ?_;refine gB ?_;have F:=@e0P;refine gCP [1000] [1000] (hc) ?_;clear F;rintro r pm ⟨rfl,rfl⟩;simp only [setA,retA,zipM,Taf,Tah];refine fR @e0P ?_;exact (have F:=e0P;gTP (R:=Zlw (.one (.sl (Zab (ZaD u)))) (topB u a k)) [1000] ⟨rfl,rfl⟩)
theorem Zh0:∀ (a b:List (List C)),Zat (a++b)=Zat a+Zat b
 | [],b=>by simp [Zat]
 | x::a,b=>by simp only [Taf,Zat,Zh0 a b];omega
def Zg4 (t:Tm):Prop:=okTm t∧Zal (Zaa t)<=2000
def ZsN (r:List D) (pm:List Bk):Prop:=∃ t,Zg4 t∧r=[.agg (Zaa t)]∧pm=[]
section
variable {x:Src} {b:Nat} {g:Sgn}
theorem ZwN (hx:x.Ok) (hd:DrOk g) {u:Tm} (hu:TermOk g u) (a:Option Addr) (k:Nat):ConP (eC x b) 37 [curD b,.agg (Zaf g),.agg (topC u a k)] [topB u a k] ZsN:=by
 have he:=hx.okC (b:=b);have c20:=ZbK (b:=b) hx (n:=20) (by decide) (by decide);have cR:=ZsK (b:=b) hx (n:=7) (by decide) (by decide) 2 (by decide);have huo:=hu.ok hd.sg;have hub:Zal (Zaa u)+1<=780:=by have h1:=Zer hu.form;have h2:=hu.size;omega
 rw [Zaf,ZeG];obtain ⟨op,nm,so,args⟩:=u;simp only [topB,Tm.op,Tm.name,Tm.sort,Tm.args];have hc:∀ op nm so args,Zaa (.mk op nm so args)=[.lit (.int .i64 op),.lit (.string nm),.lit (.int .i64 so),.sl (Zab args)]:=fun op nm so args=>by simp only [Zaa]
 have hn:=Zaj args;rw [ZgZ] at hub;have hbk:∀ (op so:Int) (nm:ByteArray) (l:List Tm),nm.size<=1000->l.length+Zat (Zab l)<=900->Zal (Zaa (.mk op nm so l))<=2000:=fun op so nm l h1 h2=>by rw [ZgZ];omega
 simp only [okTm] at huo;obtain ⟨ho1,ho2,ho3,ho4⟩:=huo;refine gIP (ts:=[.cell 6 34]) [1000] 17592739767143 Tryz.func37 ?_;refine fN 1 @eCP ?_;refine gB ?_;have F:=@eCP;refine gCE (c20) ?_;clear F;rintro r ⟨j,hj,rfl⟩;refine fR @eCP ?_;refine gM (ι:=Tm) [] [5,1000] (fun v=>[]) (fun v=>[(5,.var none (Zaa v))]) (fun v=>Zg4 v) ?_ (fun v hv=>Exists.intro _ (ai (Wk.refl _) ?_))
 ·by_cases j0:j=0
  ·have q0:((j:Int)=0)=True:=eq_true om;refine fN 3 (ai @q0 @eCP) ?_;refine gB ?_;have F:=@tmC;refine gCE (cR) ?_;clear F;rintro r ⟨t,ht,rfl⟩;refine fR (aj4 @Zbk @ZaX @Zbn @eCP) ?_;exact (have F:=aj4 @Zbk @ZaX @Zbn @eCP;gTP (R:=ZsN) [] ⟨t,⟨ht.1,by have h1:=ht.2.1;have h2:=ht.2.2;simp only [rawK] at h1;omega⟩,rfl,rfl⟩)
  have q0:((j:Int)=0)=False:=eq_false om;by_cases j1:j=1
  ·have q1:((j:Int)=1)=True:=eq_true om;have h2:=hc op ⟨#[120]⟩ so args;refine fN 5 (aj3 @q0 @q1 @eCP) ?_;refine pD 1000 [] [5] ?_;refine fG (aj3 @q0 @q1 @eCP) ?_;rw [<- h2];have F:=@eCP;refine gG ?_;exact ⟨.mk op ⟨#[120]⟩ so args,⟨(by simp only [okTm];exact ⟨ho1,by decide,ho3,ho4⟩),hbk _ _ _ _ (by decide) om⟩,gw,gw⟩
  have q1:((j:Int)=1)=False:=eq_false om;by_cases j2:j=2
  ·have q2:((j:Int)=2)=True:=eq_true om;have hm:((Zab args).length+1<=maxApp)=True:=eq_true (by rw [hn];unfold maxApp;omega);have h2:=hc op nm so (args++[zTm]);refine fN 7 (aj4 @q0 @q1 @q2 @eCP) ?_;refine gB ?_;have F:=ai @Ze3 @eCP;refine gP 4 ?_;clear F;refine gK 19 ?_;have F:=aj5 hm @ZcO @ZaX @Zbk @eCP;refine gP 1 ?_;clear F;have hsn:Zab args++[[.lit (.int .i64 0),.lit (.string ByteArray.empty),.lit (.int .i64 0),.sl []]]=Zab (args++[zTm]):=by rw [ZbH,ZbX,Ze3]
   rw [hsn];refine gS 22 fun a3 c3=>?_;have F:=@eCP;refine gP 2 ?_;clear F;refine gD 22 [] [5] ?_;rw [<- h2];refine fR @eCP ?_;have F:=aj4 @q0 @q1 @q2 @eCP;refine gG ?_;exact ⟨.mk op nm so (args++[zTm]),⟨(by simp only [okTm];exact ⟨ho1,ho2,ho3,ZiD ho4 ⟨Zos,trivial⟩⟩),hbk _ _ _ _ om (by rw [ZbH,ZbX,Zh0,Tae,Ze3];simp [Zat,Zal,Zc6];omega)⟩,gw,gw⟩
  have q2:((j:Int)=2)=False:=eq_false om;by_cases j3:j=3
  ·have q3:((j:Int)=3)=True:=eq_true om;refine pD 1000 [] [5] ?_;by_cases hl:1 < args.length
   ·have q5:=lT 1 args.length;refine fN 10 (aj6 @q0 @q1 @q2 @q3 @q5 @tmC) ?_;have hl2:2<=args.length:=hl;obtain ⟨t0,t1,rest,rfl⟩:∃ t0 t1 rest,args=t0::t1::rest:=by
     match args,hl2 with
     | t0::t1::rest,_=>exact ⟨t0,t1,rest,rfl⟩
    have e3:Zab (t0::t1::rest)=Zaa t0::Zaa t1::Zab rest:=by simp only [Zab]
    have h2:=hc op nm so (t1::t0::rest);have e4:Zab (t1::t0::rest)=Zaa t1::Zaa t0::Zab rest:=by simp only [Zab]
    have hok:Zg4 (.mk op nm so (t1::t0::rest)):=⟨(by simp only [okTm,Zax] at ho4 ⊢;exact ⟨ho1,ho2,ho3,ho4.2.1,ho4.1,ho4.2.2⟩),hbk _ _ _ _ om (by simp only [Zab,Zat,Tag] at hub ⊢;omega)⟩;have hr:=Zaj rest;have s2:ZaM 4 (Zab rest)=true:=ZcO _;rw [e4] at h2;rw [e3];have hrl:(Zab rest).length<=1000:=by simp only [Tag] at hub;omega
    generalize Zab rest=L at hr s2 hrl h2 ⊢;have s3:ZaM 4 [Zaa t1,Zaa t0]=true:=by simp [ZaM,ZaX,Zbk]
    have s1:((2:Int)<=((L.length+1+1:Nat):Int))=True:=eq_true om;have s4:(((L.length+1+1:Nat):Int)<=((L.length+1+1:Nat):Int))=True:=eq_true (Int.le_refl _);have s5:L.take L.length=L:=Tap;have F:=aj9 s1 s2 s3 s4 s5 @Zbk @ZaX @Zbn @eCP;by_cases hL:L=[]
    ·subst hL;clear F;refine gB ?_;have p1:((2:Int)<=((2:Nat):Int))=True:=eq_true (by decide);have p2:(((2:Nat):Int)<=((2:Nat):Int))=True:=eq_true (by decide);have F:=aj6 @p1 @p2 @Zbk @ZaX @Zbn @eCP;refine gP 12 ?_;clear F;have F:=eCP;refine gAe ?_;clear F;refine fR @eCP ?_;rw [<- h2];have F:=ai @hr @eCP;refine gG ?_;exact ⟨.mk op nm so (t1::t0::rest),hok,gw,gw⟩
    ·have hle:([Zaa t1,Zaa t0]:List (List C)).length+L.length<=maxApp:=by unfold maxApp;simp;omega
     refine gA 13 12 hle (.inr hL) ?_;clear F;refine gS 42 fun a3 c3=>?_;have F:=@eCP;refine gP 2 ?_;clear F;refine gD 42 [] [5] ?_;rw [<- h2];refine fR @eCP ?_;have F:=ai @hr @eCP;refine gG ?_;exact ⟨.mk op nm so (t1::t0::rest),hok,gw,gw⟩
   ·have q5:=lF 1 args.length;have h2:=hc op nm so args;rw [<- h2];have F:=aj8 @q0 @q1 @q2 @q3 @q5 @h2 @hn @eCP;refine gG ?_;exact ⟨.mk op nm so args,⟨(by simp only [okTm];exact ⟨ho1,ho2,ho3,ho4⟩),hbk _ _ _ _ om om⟩,gw,gw⟩
  have q3:((j:Int)=3)=False:=eq_false om;by_cases j4:j=4
  ·have q4:((j:Int)=4)=True:=eq_true om;have h2:=hc op nm 1 args;refine fN 12 (aj6 @q0 @q1 @q2 @q3 @q4 @eCP) ?_;refine pD 1000 [] [5] ?_;refine fG (aj3 @q0 @q1 @eCP) ?_;rw [<- h2];have F:=@eCP;refine gG ?_;exact ⟨.mk op nm 1 args,⟨(by simp only [okTm];exact ⟨ho1,ho2,⟨by decide,by decide⟩,ho4⟩),hbk _ _ _ _ om om⟩,gw,gw⟩
  have q4:((j:Int)=4)=False:=eq_false om;have h2:=hc op nm so args;refine pD 1000 [] [5] ?_;rw [<- h2];have F:=aj6 @q0 @q1 @q2 @q3 @q4 @eCP;refine gG ?_;exact ⟨.mk op nm so args,⟨(by simp only [okTm];exact ⟨ho1,ho2,ho3,ho4⟩),hbk _ _ _ _ om om⟩,gw,gw⟩
 ·refine fN 13 @eCP ?_;refine gB ?_;refine fR (aj4 @Zbk @ZaX @Zbn @eCP) ?_;exact (have F:=aj4 @Zbk @ZaX @Zbn @eCP;gTP (R:=ZsN) [] ⟨v,hv,rfl,rfl⟩)
end
theorem ZmP {g:Sgn}:∀ (n:Nat) (t:Tm),sizeTm t < n->Zaw g t->∀ v∈Zau t,ZcQ g v
 | 0,t,hn,_,_,_=>om
 | n+1,t,hn,ht,v,hv=>by
  have hs:=hn;rw [ZaN] at hs;have key:∀ {ts:List Tm},v∈ZaC ts->∃ a∈ts,v∈Zau a:=fun {ts}=>by
   induction ts with
   | nil=>intro h;simp [ZaC] at h
   | cons x xs ih =>
    intro h;simp only [ZaC,Tbh] at h;rcases h with h | h
    ·exact ⟨x,Tas,h⟩
    ·obtain ⟨a,ha,h⟩:=ih h;exact ⟨a,Tal _ ha,h⟩
  by_cases hop:t.op=-1
  ·have hV:ZcQ g t:=by
    rcases ht.node with h | ⟨o,d,h⟩
    ·exact h
    ·have:=h.lo;omega
   obtain ⟨op,nm,so,args⟩:=t;simp only [Tm.op] at hop;have ha0:args=[]:=hV.2.2.2.2;subst hop ha0;simp only [Zau,if_pos,Tbj] at hv;rw [hv];exact hV
  ·have e:Zau t=ZaC t.args:=by
    obtain ⟨op,nm,so,args⟩:=t;simp only [Tm.op] at hop;simp only [Zau,if_neg hop,Tm.args]
   rw [e] at hv;obtain ⟨a,ha,hv⟩:=key hv;have:=ZaV ha;exact ZmP n a om ((ZaK.1 ht).2.1 a ha) v hv
mutual
theorem ZmQ:∀ t:Tm,(Zau t).length<=sizeTm t
 | .mk op nm so args=>by
  have:=Zly args;simp only [Zau,sizeTm];split
  ·simp only [Tag,Tak];omega
  ·omega
theorem Zly:∀ ts:List Tm,(ZaC ts).length<=sizeTms ts
 | []=>by simp [ZaC]
 | t::ts=>by
  have h1:=ZmQ t;have h2:=Zly ts;simp only [ZaC,sizeTms,Tae];omega
end
theorem ZmR {t v:Tm}:∀ {l:List Tm},v∈Za4 t l->v=t∨v∈l
 | [],h=>by simp [Za4] at h;exact .inl h
 | x::xs,h=>by
  simp only [Za4] at h;split at h
  ·rcases Tbg.1 h with h | h
   ·exact .inr (h ▸ Tas)
   ·exact (ZmR h).imp id (Tal _)
  ·split at h
   ·exact .inr h
   ·exact Tbg.1 h
theorem Zo8 {v:Tm}:∀ {l r:List Tm},v∈colT l r->v∈l∨v∈r
 | [],r,h=>.inr h
 | x::xs,r,h=>by
  rcases Zo8 (l:=xs) (r:=Za4 x r) h with h | h
  ·exact .inl (Tal _ h)
  ·rcases ZmR h with h | h
   ·exact .inl (h ▸ Tas)
   ·exact .inr h
theorem ZAw {s:ByteArray} (h:Za6 s=true):s.size<=12:=by
 unfold Za6 at h;simp only [Tar,decide_eq_true_eq] at h;exact h.1.1.1.2
structure BdDr (g:Sgn) (y:Bd):Prop where
 vo:okTm y.var
 vb:Zal (Zaa y.var)<=12
 to:TermOk g y.to
def Zgx (g:Sgn) (n:Nat) (l:List Bd):Prop:=l.length<=n∧∀ y∈l,BdDr g y
def RBds (g:Sgn) (bk:Bk) (r:List D) (pm:List Bk):Prop:=∃ (l:List Bd) (a:Option Addr) (cap:Nat),Zgx g 60 l∧r=[.one (.lit (.slice a (ZaE l).length cap))]∧pm=[bk,.buf (some (a,cap)) 58 8 (ZaE l)]
section
variable {x:Src} {b:Nat} {g:Sgn}
theorem Zo9 (hx:x.Ok) (hd:DrOk g) {u:Tm} (hu:TermOk g u) (a:Option Addr) (k:Nat):ConP (eC x b) 74 [curD b,.agg (Zaf g),.agg (topC u a k)] [topB u a k] (RBds g (topB u a k)):=by
 have he:=hx.okC (b:=b);have c6:=Zby (b:=b) hx (n:=6) (by decide) (by decide);have c2:=Zby (b:=b) hx (n:=2) (by decide) (by decide);have cD:=fun y=>ZiL (b:=b) hx hd.ok hd.sg hd.h4 hd.hz (d:=2) (by decide) y;have huo:=hu.ok hd.sg;have hub:Zal (Zaa u)+1<=780:=by have h1:=Zer hu.form;have h2:=hu.size;omega
 have cV:=(Zo7 huo om a k).cu (b:=b) hx;have hvl:(ZaD u).length<=60:=by
  have h1:=Zf2 (Zau u) [];have h2:=ZmQ u;have h3:=hu.size;have:ZaD u=colT (Zau u) []:=rfl;rw [this];simp only [Tak,Nat.zero_add] at h1;omega
 have hvo:∀ v∈ZaD u,ZcQ g v:=fun v hv=>by
  rcases Zo8 (show v∈colT (Zau u) [] from hv) with h | h
  ·exact ZmP _ u (Tan _) hu.form v h
  ·cases h
 generalize ZaD u=vs at cV hvl hvo;have cS:∀ {t:Tm},TermOk g t->ConE (eC x b) 110 [.agg (Zaf g),.agg (Zaa t)] (fun r=>r=[.one (.lit (.int .i64 ((sortsTm g t:Nat):Int)))]):=fun {t} ht=>((ZjK hd.sg (sizeTm t+1) (Tan _) ht.form).cu hx).toE;rw [Zaf] at cD cS ⊢;rw [ZeG] at cV ⊢;refine gIP (ts:=[.slot 6]) [1000] 8796227506167 Tryz.func74 ?_;refine fN 2 @eCP ?_;refine gB ?_;have F:=@eCP;refine gCP [1000] [1000] (cV) ?_;clear F
 rintro r pm ⟨rfl,rfl⟩;simp only [setA,retA,zipM,Taf,Tah];refine fR @eCP ?_;refine fG @eCP ?_;have hb0:ZaE []=[]:=rfl;have F:=ai @hb0 @eCP;refine gL (ι:=Nat × List Bd) [7,9,10,11,18,27,43] [7] (fun z=>[(9,A.d (.one (.lit (.int .i64 z.1)))),(7,.buf 7)]) (fun z=>[(7,.buf none 58 8 (ZaE z.2))]) (fun z=>z.1<=vs.length∧z.2.length<=z.1∧∀ y∈z.2,BdDr g y) (fun z=>vs.length - z.1) ((0,[])) (⟨Taj _,Tai _,fun y hy=>(by cases hy)⟩) (fun z hz=>?_);clear F
 obtain ⟨i,l⟩:=z;obtain ⟨hz1,hz2,hz3⟩:=hz;dsimp only at hz1 hz2 hz3 ⊢;by_cases hlt:i < vs.length
 ·have q1:=lT i vs.length;have wi:=Zaq (k:=i) om;have hg1:vs[i]?=some vs[i]:=Taa hlt;have hv:=hvo vs[i] (List.getElem_mem hlt);generalize vs[i]=v at hg1 hv;refine fN 6 (ai @q1 @tmC) ?_;refine gB ?_;refine fR @tmC ?_;refine gM (ι:=List Bd) [7,10,11,27,43] [7,11] (fun l'=>[(7,.buf 7)]) (fun l'=>[(7,.buf none 58 8 (ZaE l'))]) (fun l'=>l'.length<=i+1∧∀ y∈l',BdDr g y) ?_ (fun l' hl'=>Exists.intro _ (ai (Wk.refl _) ?_))
  ·refine fG @tmC ?_;have F:=@tmC;refine gL (ι:=Nat) [7,10,11,27,43] [7] (fun j=>[(10,A.d (.one (.lit (.int .i64 j)))),(7,.buf 7)]) (fun j=>[(7,.buf none 58 8 (ZaE l))]) (fun j=>j<=4) (fun j=>4 - j) (0) (Taj _) (fun j hj=>?_);clear F;by_cases h4:j < 4;rotate_left
   ·have q4:=lF j 4;refine fN 7 (ai @q4 @tmC) ?_;refine gB ?_;refine fR (ai @q4 @tmC) ?_;have F:=ai @q4 @tmC;refine gG ?_;exact ⟨l,⟨om,hz3⟩,gw,gw⟩
   have q4:=lT j 4;have wj:=Zaq (k:=j) om;refine fN 7 (ai @q4 @tmC) ?_;refine gB ?_;have F:=ai @q4 @tmC;refine gCE (c6) ?_;clear F;rintro r ⟨y,rfl⟩
   cases y
   rotate_left
   ·refine fR (ai @q4 @tmC) ?_;have F:=ai @q4 @tmC;refine gG ?_;exact ⟨l,⟨om,hz3⟩,gw,gw⟩
   refine fR (ai @q4 @tmC) ?_;refine fN 9 @tmC ?_;refine gF0 ?_;have F:=tmC;refine gNa 5 [0,1,2] [3,4] ?_;clear F;have F:=tmC;refine gNd ?_;clear F;have F:=tmC;refine gNE c2 ?_;clear F;rintro r ⟨y2,rfl⟩;have F:=tmC;refine gNE (cD y2) ?_;clear F;rintro r ⟨t,ht,rfl⟩;have F:=tmC;refine gNr ?_;clear F;refine fR @tmC ?_;obtain ⟨kv,hkv⟩:=Int.eq_ofNat_of_zero_le hv.2.2.1;have hk16:kv < 16:=by have:=hd.sg.sorts.n8;have:=hv.2.2.2.1;omega
   have hst:=Zfw hd.sg ht.form.node;have h2p:(2:Nat) ^ g.sorts.names.length<=2 ^ 16:=Tbs (by decide) (by have:=hd.sg.sorts.n8;omega);have cH:=((Zeq (a:=sortsTm g t) (k:=kv) om hk16).cu (b:=b) hx).toE;have hve:Zaa v=[.lit (.int .i64 v.op),.lit (.string v.name),.lit (.int .i64 (kv:Int)),.sl (Zab v.args)]:=by
    obtain ⟨o1,n1,s1,a1⟩:=v;simp only [Tm.sort] at hkv;subst hkv;simp only [Zaa,Tm.op,Tm.name,Tm.args]
   refine fN 10 @tmC ?_;have F:=tmC;refine gN0 9 [0,1,3,4,5,6,7] [2,8] ?_;clear F;have F:=aj3 hg1 hve tmC;refine gNd ?_;clear F;have F:=tmC;refine gNE (cS ht) ?_;clear F;rintro r rfl;have F:=tmC;refine gNE cH ?_;clear F;rintro r rfl;have F:=tmC;refine gNr ?_;clear F;refine fR @tmC ?_;generalize tbit (sortsTm g t) kv=y3
   cases y3
   ·have F:=ai @wj @tmC;refine gG ?_;exact ⟨j+1,om,gw,gw,om⟩
   ·have hbs:ZaE l++[Zaa v++Zaa t]=ZaE (l++[⟨v,t⟩]):=by simp only [ZaE,Tbv,Tbu,List.map_nil];rfl
    have hm:((ZaE l).length+1<=maxApp)=True:=eq_true (by simp only [ZaE,Tay];unfold maxApp;omega);have hm2:(l.length+1<=maxApp)=True:=eq_true (by unfold maxApp;omega);have hvd:BdDr g ⟨v,t⟩:=by
     have hs12:=ZAw hv.2.1;have hz:=hv.2.2.2.1;have hn8:=hd.sg.sorts.n8;obtain ⟨o1,n1,s1,a1⟩:=v;simp only [ZcQ,Tm.op,Tm.name,Tm.sort,Tm.args] at hv hs12 hz hkv;obtain ⟨rfl,_,_,_,rfl⟩:=hv;exact ⟨by simp only [okTm,Zax,and_true];exact ⟨⟨by decide,by decide⟩,by unfold maxLen;omega,⟨om,om⟩⟩,by rw [ZgZ];simp only [Zab,Zat,Tak];omega,ht⟩
    have h7:∀ (c0 c1 c2 c3:C),List.take 4 (Zaa v++[c0,c1,c2,c3])++Zaa t++List.drop 8 (Zaa v++[c0,c1,c2,c3])=Zaa v++Zaa t:=fun c0 c1 c2 c3=>by
     obtain ⟨o1,n1,s1,a1⟩:=v;simp [Zaa]
    refine fN 11 @tmC ?_;refine gB ?_;have bl:∀ l:List Bd,(ZaE l).length=l.length:=fun l=>by simp [ZaE]
    have r8:∀ l:List Bd,ZaM 8 (ZaE l)=true:=fun l=>ZcD (fun y=>by obtain ⟨⟨o1,n1,s1,a1⟩,⟨o2,n2,s2,a2⟩⟩:=y;rfl) l;have r81:ZaM 8 [Zaa v++Zaa t]=true:=r8 [⟨v,t⟩];have ok8:(Zaa v++Zaa t).all ZaB=true:=by rw [List.all_append,Zbk,Zbk];rfl
    have ln8:(Zaa v++Zaa t).length=8:=by rw [Tae,ZaX,ZaX]
    refine fR (aj13 @hg1 @h7 @ok8 @ln8 @bl @r8 @r81 @hm2 @hbs @Zbk @ZaX @Zbn @tmC) ?_;have F:=ai @bl @tmC;refine gG ?_;exact ⟨l++[⟨v,t⟩],⟨by rw [Tae];exact Nat.succ_le_succ hz2,fun y hy=>(Tbh.1 hy).elim (hz3 y) fun hy=>by rw [Tbj.1 hy];exact hvd⟩,gw,gw⟩
  ·have F:=ai @wi @tmC;refine gG ?_;exact ⟨(i+1,l'),⟨om,hl'.1,hl'.2⟩,gw,gw,om⟩
 ·have q1:=lF i vs.length;refine fG (ai @q1 @tmC) ?_;refine pS 6 fun a1 k1=>?_;exact (have F:=eCP;gTP (R:=RBds g (topB u a k)) [1000,6] ⟨l,a1,k1,⟨om,hz3⟩,rfl,rfl⟩)
end
theorem ZwO {e:Env} {σ:St} {a0:Option Addr} {n cap ety sz:Nat} {rows:List (List C)} (t κ:Nat) (hs:gs σ.s t=.d (.one (.lit (.slice a0 n cap)))) (hm:gm σ.m κ=some (.buf (some (a0,cap)) ety sz rows)) (hn:n=rows.length):Turn e σ (fun σ'=>σ'=⟨(t,.buf κ)::σ.s,σ.m⟩):=by
 intro he U w0 S0 nt a w ⟨S,L,h⟩;refine ⟨_,rfl,S,L,h.cls,fun t'=>?_,h.size,h.defers,h.kept⟩;simp only [gs];split
 ·rename_i e;subst e;have hr:=h.rel t';rw [hs] at hr;have hv:a.tmps.getD t' undef=.slice a0 n cap:=by simpa [ARel,DRel,Rep] using hr
  have h2:=(h.cls.own κ _ hm).1 (a0,cap) rfl;show _=_;rw [hv,h2,hn]
 ·exact h.rel t'
theorem pKk {e:Env} {mask:Nat} {Q:PX->St->Prop} {c:Code} {s:List (Nat × A)} {m:List (Nat × Bk)} {a0:Option Addr} {n cap ety sz:Nat} {rows:List (List C)} (t κ:Nat) (hK:pwp e mask c ⟨(t,.buf κ)::s,m⟩ Q) (hm:gm m κ=some (.buf (some (a0,cap)) ety sz rows):=by exact snv) (hs:gs s t=.d (.one (.lit (.slice a0 n cap))):=by exact snv) (hn:n=rows.length:=by rfl):pwp e mask c ⟨s,m⟩ Q :=
 Zc4 (ZwO t κ hs hm hn) fun σ' hσ=>by subst hσ;exact hK
def ZzK (g:Sgn) (bk:Bk) (r:List D) (pm:List Bk):Prop:=∃ l:List Bd,Zgx g 61 l∧r=[.one (.sl (ZaE l))]∧pm=[bk]
theorem ZAU {g:Sgn} {t:Tm} (h:TermOk g t):BdDr g ⟨zTm,t⟩:=⟨Zos,by rw [Zor];decide,h⟩
section
variable {x:Src} {b:Nat} {g:Sgn}
theorem Zpa (hx:x.Ok) (hd:DrOk g) {u:Tm} (hu:TermOk g u) (a:Option Addr) (k:Nat):ConP (eC x b) 36 [curD b,.agg (Zaf g),.agg (topC u a k)] [topB u a k] (ZzK g (topB u a k)):=by
 have he:=hx.okC (b:=b);have c8:=Zby (b:=b) hx (n:=8) (by decide) (by decide);have c3:=ZbK (b:=b) hx (n:=3) (by decide) (by decide);have cD:=ZiL (b:=b) hx hd.ok hd.sg hd.h4 hd.hz (d:=1) (by decide) true;have cB:=Zo9 (b:=b) hx hd hu a k;rw [Zaf] at cD cB ⊢;rw [ZeG] at cB ⊢;refine gIP (ts:=[.slot 6]) [1000] 17626646970871 Tryz.func36 ?_;refine fN 1 @eCP ?_;refine gB ?_;have F:=@eCP;refine gCP [1000] [1000,1001] (cB) ?_;clear F
 rintro r pm ⟨l,a1,k1,⟨hl1,hl2⟩,rfl,rfl⟩;simp only [setA,retA,zipM,Taf,Tah];refine fR @eCP ?_;refine pKk 7 1001 ?_;have bl:(ZaE l).length=l.length:=Zhs l;refine fN 2 @eCP ?_;refine gM (ι:=Bool) [19] [] (fun y=>[(19,A.d (.one (.lit (.bool y))))]) (fun y=>[]) (fun y=>y=true->1<=l.length) ?_ (fun y hy=>Exists.intro _ (ai (Wk.refl _) ?_))
 ·refine gB ?_;by_cases h0:0 < l.length
  ·have q0:((0:Int) < ((ZaE l).length:Int))=True:=eq_true (by rw [bl];omega);have F:=ai @q0 @eCP;refine gCE (c8) ?_;clear F;rintro r ⟨y,rfl⟩;refine fR @eCP ?_;have F:=@eCP;refine gG ?_;exact ⟨y,fun _=>h0,gw,gw⟩
  ·have q0:((0:Int) < ((ZaE l).length:Int))=False:=eq_false (by rw [bl];omega);refine fR (ai @q0 @eCP) ?_;have F:=@eCP;refine gG ?_;exact ⟨false,(by simp),gw,gw⟩
 refine gM (ι:=List Bd) [7,8,25,26,35,44] [1001] (fun l'=>[(7,.d (.one (.sl (ZaE l'))))]) (fun l'=>[]) (fun l'=>Zgx g 61 l') ?_ (fun l' hl'=>Exists.intro _ (ai (Wk.refl _) ?_))
 ·cases y with
  | false =>
   refine pD 1001 [7] [] ?_;have F:=@eCP;refine gG ?_;exact ⟨l,⟨om,hl2⟩,gw,gw⟩
  | true =>
   have h1:=hy rfl;have cW:=ZbK (b:=b) hx (n:=(ZaE l).length) (by rw [bl];exact h1) (by rw [bl];omega);refine fN 3 @eCP ?_;refine gB ?_;have F:=@eCP;refine gCE (cW) ?_;clear F;rintro r ⟨j,hj,rfl⟩;refine fR @eCP ?_;refine fN 4 @eCP ?_;refine gB ?_;have F:=@eCP;refine gCE (c3) ?_;clear F;rintro r ⟨q,hq,rfl⟩;refine fR @eCP ?_;have hjl:j < l.length:=by rw [bl] at hj;exact hj
   obtain ⟨y,hy1⟩:∃ y,l[j]?=some y:=⟨_,Taa hjl⟩;have hyb:=hl2 y (Tac hy1);have hgy:(ZaE l)[j]?=some (Zaa y.var++Zaa y.to):=by rw [Zht,hy1];rfl
   have ok8:(Zaa y.var++Zaa y.to).all ZaB=true:=by rw [List.all_append,Zbk,Zbk];rfl
   have ln8:(Zaa y.var++Zaa y.to).length=8:=by rw [Tae,ZaX,ZaX]
   have hset:∀ z:Bd,BdDr g z->Zgx g 61 (l.set j z):=fun z hz=>⟨by rw [Taz];omega,fun w hw=>(List.mem_or_eq_of_mem_set hw).elim (hl2 w) fun h=>h ▸ hz⟩;by_cases q0:q=0
   ·have e0:((q:Int)=0)=True:=eq_true om;refine fN 6 (ai @e0 @eCP) ?_;refine gB ?_;have F:=@eCP;refine gCE (cD) ?_;clear F;rintro r ⟨t,ht,rfl⟩;have F:=aj8 @hj @hgy @ok8 @ln8 @Zbk @ZaX @Zbn @eCP;refine gP 3 ?_;clear F;have s0:(ZaE l).set j (List.take 4 (Zaa y.var++Zaa y.to)++Zaa t++List.drop 8 (Zaa y.var++Zaa y.to))=ZaE (l.set j ⟨y.var,t⟩):=by
     have e:List.take 4 (Zaa y.var++Zaa y.to)++Zaa t++List.drop 8 (Zaa y.var++Zaa y.to)=ZbR ⟨y.var,t⟩:=by
      obtain ⟨⟨o1,n1,s1,a1⟩,⟨o2,n2,s2,a2⟩⟩:=y;simp [Zaa,ZbR]
     rw [e];exact (List.map_set).symm
    rw [s0];refine gD 1001 [7] [] ?_;refine fR @eCP ?_;have F:=@eCP;refine gG ?_;exact ⟨l.set j ⟨y.var,t⟩,hset _ ⟨hyb.vo,hyb.vb,ht⟩,gw,gw⟩
   have e0:((q:Int)=0)=False:=eq_false om;by_cases q1:q=1
   ·have e1:((q:Int)=1)=True:=eq_true om;refine fN 8 (aj3 @e0 @e1 @eCP) ?_;refine gB ?_;have r8:ZaM 8 [Zaa y.var++Zaa y.to]=true:=bds8 [y];have hm:((ZaE l).length+1<=maxApp)=True:=eq_true (by rw [bl];unfold maxApp;omega);have tk8:List.take 8 (Zaa y.var++Zaa y.to)=Zaa y.var++Zaa y.to:=List.take_of_length_le (by rw [ln8];exact Tai _);have F:=aj11 @hj @hgy @ok8 @ln8 @r8 @hm @tk8 @Zbk @ZaX @Zbn @eCP;refine gP 7 ?_;clear F
    have s1:ZaE l++[Zaa y.var++Zaa y.to]=ZaE (l++[y]):=by simp only [ZaE,Tbv,Tbu,List.map_nil];rfl
    rw [s1];refine gS 43 fun a2 k2=>?_;refine gD 43 [43] [] ?_;refine fR @eCP ?_;have F:=@eCP;refine gG ?_;exact ⟨l++[y],⟨by rw [Tae];simp only [Tag,Tak];omega,fun w hw=>(Tbh.1 hw).elim (hl2 w) fun h=>by rw [Tbj.1 h];exact hyb⟩,gw,gw⟩
   have e1:((q:Int)=1)=False:=eq_false om;have e2:((q:Int)=2)=True:=eq_true om;refine fN 10 (aj4 @e0 @e1 @e2 @eCP) ?_;refine gB ?_;have F:=aj8 @hj @hgy @ok8 @ln8 @Zbk @ZaX @Zbn @eCP;refine gP 6 ?_;clear F;have s2:(ZaE l).set j (.lit (.int .i64 0)::.lit (.string ByteArray.empty)::.lit (.int .i64 0)::.sl []::List.drop 4 (Zaa y.var++Zaa y.to))=ZaE (l.set j ⟨zTm,y.to⟩):=by
    have e:(.lit (.int .i64 0)::.lit (.string ByteArray.empty)::.lit (.int .i64 0)::.sl []::List.drop 4 (Zaa y.var++Zaa y.to))=ZbR ⟨zTm,y.to⟩:=by
     obtain ⟨⟨o1,n1,s1,a1⟩,⟨o2,n2,s2,a2⟩⟩:=y;simp [Zaa,ZbR,Ze3]
    rw [e];exact (List.map_set).symm
   rw [s2];refine gD 1001 [7] [] ?_;refine fR @eCP ?_;have F:=@eCP;refine gG ?_;exact ⟨l.set j ⟨zTm,y.to⟩,hset _ (ZAU hyb.to),gw,gw⟩
 ·refine fG @eCP ?_;exact (have F:=eCP;gTP (R:=ZzK g (topB u a k)) [1000] ⟨l',hl',rfl,rfl⟩)
end
section
variable {L:List Oper} {cons:Nat->Option Nat} {X:Type} {ok:Nat->X->Prop} {T:X->Tab} {i:Nat} {sb:List (Nat × A)} {mb:List (Nat × Bk)} {s:List (Nat × A)} {m:List (Nat × Bk)} {d:Nat} {α:A} {bk:Bk}
theorem Lks.lent {κ:Nat} (h:Lks sb mb ⟨s,m⟩) (hf:Zgy d κ sb mb=true):Lks sb mb ⟨Zao κ s,remM κ m⟩:=by
 have hf2:=hf;simp only [Zgy,Tar,List.all_eq_true,bne_iff_ne,ne_eq,Bool.not_eq_true'] at hf2;refine Lks.mrem (Lks.kill h ?_) ?_
 ·simp only [List.all_eq_true,Bool.not_eq_true'];exact fun p hp=>(hf2.1 p hp).2
 ·simp only [List.all_eq_true,bne_iff_ne,ne_eq];exact hf2.2
theorem Lks.lentD {κ:Nat} (h:Lks sb mb ⟨s,m⟩) (hf:Zgy d κ sb mb=true):Lks sb mb ⟨(d,α)::Zao κ s,remM κ m⟩:=by
 have hf2:=hf;simp only [Zgy,Tar,List.all_eq_true,bne_iff_ne,ne_eq,Bool.not_eq_true'] at hf2;exact Lks.slot (h.lent hf) (by simp only [List.all_eq_true,bne_iff_ne,ne_eq];exact fun p hp=>(hf2.1 p hp).1)
theorem xLB {κ:Nat} (hB:Lks sb mb ⟨s,m⟩) (hp:tabX ok T i ⟨(d,α)::Zao κ (Zao κ s),(κ,bk)::remM κ (remM κ m)⟩) (h1:Zgy d κ sb mb=true:=by rfl) (h2:∀ x,Zjc L cons (T x) i (Zgy d κ)=true:=by intro x;rfl):DidX L cons ok T i sb mb s m ⟨(d,α)::Zao κ (Zao κ s),(κ,bk)::remM κ (remM κ m)⟩:=⟨Lks.bornC (hB.lent h1) h1,hp,ZhR h2 fun _ _ h hl=>Lks.bornC (hl.lent h) h⟩
theorem xLD {κ:Nat} (hB:Lks sb mb ⟨s,m⟩) (hp:tabX ok T i ⟨(d,α)::Zao κ s,remM κ m⟩) (h1:Zgy d κ sb mb=true:=by rfl) (h2:∀ x,Zjc L cons (T x) i (Zgy d κ)=true:=by intro x;rfl):DidX L cons ok T i sb mb s m ⟨(d,α)::Zao κ s,remM κ m⟩:=⟨hB.lentD h1,hp,ZhR h2 fun _ _ h hl=>hl.lentD h⟩
end
def DrD (g:Sgn):Prop:=∃ (z u hc fa fc fu:Bool) (w:Option Bool),(z=true∨(fa=false∧fc=false∧fu=false))∧g=sigD z u hc fa fc fu w
theorem Zjf {g:Sgn} (h:DrD g):DrOk g:=by
 obtain ⟨z,u,hc,fa,fc,fu,w,h,rfl⟩:=h;exact ZAR h
section
variable {x:Src}
def ZwP (r:List D):Prop:=∃ (g:Sgn) (l:List Bd) (t:Tm),DrD g∧Zgx g 61 l∧Zg4 t∧r=[.agg (Zaf g),.one (.sl (ZaE l)),.agg (Zaa t)]
theorem Zl2 (hx:x.Ok):ConE (eB x) 9 [Zje x] ZwP:=by
 have he:=hx.ok;refine gIE (ts:=[.cell 2 30,.slot 3,.cell 4 34]) 253 Tryz.func9 ?_;refine fN 1 @tmB ?_;refine gB ?_;have F:=@tmB;refine gCP [] [1000] (ZoZ hx) ?_;clear F;rintro r pm ⟨b,h,rfl,rfl⟩;simp only [setA,retA,zipM,Taf,Tah];refine fR @tmB ?_;refine pCur 1000 (Int.le_refl 0) ?_;clear he;have he:=hx.okC (b:=b);refine fN 2 @tmC ?_;refine gB ?_;have F:=@tmC;refine gCP [] [1000] ((ZjN hx)) ?_;clear F
 rintro r pm ⟨z,u,hc,fa,fc,fu,w,a0,k0,hz,rfl,rfl⟩;simp only [setA,retA,zipM,Taf,Tah];refine fR @tmC ?_;obtain ⟨e1,e2,e3⟩:=Zo0 z u hc fa fc fu w;rw [e1,e2,e3];have hDr:DrD (sigD z u hc fa fc fu w):=⟨z,u,hc,fa,fc,fu,w,hz,rfl⟩;clear e1 e2 e3;generalize sigD z u hc fa fc fu w=g at hDr ⊢;clear hz;refine pD 1000 [] [6] ?_;have hd:=Zjf hDr;have cD:=ZmO (b:=b) hx hd.ok hd.sg hd.h4 hd.hz (d:=3) (by decide) true
 have hE:Zaf g=[.sl (g.sorts.names.map ZbA),.sl (g.sorts.subs.map ZbN),.sl (g.ops.map ZaT)]:=by rw [Zaf]
 rw [hE] at cD;refine fN 3 @tmC ?_;refine gB ?_;have F:=@tmC;refine gCP [] [1001] (cD) ?_;clear F;rintro r pm ⟨u,hu,a,k,rfl,rfl⟩;simp only [setA,retA,zipM,Taf,Tah];refine fR (ai @ZeG @eCP) ?_;have cB:=Zpa (b:=b) hx hd hu a k;have cT:=ZwN (b:=b) hx hd hu a k;rw [hE] at cB cT;rw [ZeG] at cB cT;have ok00:Zgx g 61 ([]:List Bd)∧Zg4 zTm:=⟨⟨by decide,fun y hy=>(by cases hy)⟩,Zos,by rw [Zor];decide⟩;refine fN 4 @eCP ?_
 /- gk drs -/
 refine gGx (X:=List Bd × Tm) [(2,.ref 2 0),(4,.ref 4 0),(5,.d (curD b)),(6,.ref 6 0),(7,.ref 7 0)] [(6,.var none [.sl (g.sorts.names.map ZbA),.sl (g.sorts.subs.map ZbN),.sl (g.ops.map ZaT)]),(7,.var none [.lit (.int .i64 u.op),.lit (.string u.name),.lit (.int .i64 u.sort),.lit (.slice a (Zab u.args).length k)])] (fun _ x=>Zgx g 61 x.1∧Zg4 x.2) (fun x=>[([(15,.d (.agg [.sl (g.sorts.names.map ZbA),.sl (g.sorts.subs.map ZbN),.sl (g.ops.map ZaT)]))],[]),([(16,.d (curD b))],[]),([(17,.d (.agg [.sl (g.sorts.names.map ZbA),.sl (g.sorts.subs.map ZbN),.sl (g.ops.map ZaT)]))],[]),([(18,.d (.agg [.lit (.int .i64 u.op),.lit (.string u.name),.lit (.int .i64 u.sort),.lit (.slice a (Zab u.args).length k)]))],[]),([(19,.d (.one (.sl (ZaE x.1))))],[(1001,.buf (some (a,k)) 34 4 (Zab u.args))]),([(20,.d (curD b))],[]),([(21,.d (.agg [.sl (g.sorts.names.map ZbA),.sl (g.sorts.subs.map ZbN),.sl (g.ops.map ZaT)]))],[]),([(22,.d (.agg [.lit (.int .i64 u.op),.lit (.string u.name),.lit (.int .i64 u.sort),.lit (.slice a (Zab u.args).length k)]))],[]),([(19,.d (.one (.sl (ZaE x.1)))),(23,.d (.agg (Zaa x.2)))],[]),([(19,.d (.one (.sl (ZaE x.1))))],[(2,.var none [.sl (g.sorts.names.map ZbA),.sl (g.sorts.subs.map ZbN),.sl (g.ops.map ZaT)])]),([(3,.d (.one (.sl (ZaE x.1))))],[]),([],[(4,.var none (Zaa x.2))]),([],[(1001,.buf (some (a,k)) 34 4 (Zab u.args))]),([],[(2,.var none [.sl [],.sl [],.sl []])]),([],[(4,.var none [.lit (.int .i64 0),.lit (.string ByteArray.empty),.lit (.int .i64 0),.sl []])])]) (fun j=>([(4,8),(12,4),(13,9),(14,11)]:List (Nat × Nat)).lookup j) [12,13,14] (⟨by simp [gs],by simp [gm]⟩) (fun j hj=>by simp only [Tbg,List.not_mem_nil,or_false] at hj;rcases hj with rfl | rfl | rfl <;> exact ⟨([],zTm),ok00,by simp [gs],by simp [gm]⟩) ⟨?_,?_,?_,?_,?_,?_,?_,?_,?_,?_,?_,?_,trivial⟩ ?_
 ·intro s' m' hB hD hI hJ;have F:=ZbC.1 hB;simp only [lkS,lkM,List.getD_cons_zero,List.getD_cons_succ,and_true,true_and] at F;have F:=aj5 F @Zbk @ZaX @Zbn eCP;refine gO3 ?_;exact xS hB (Zay.2 ⟨([],zTm),ok00,by simp [lkS,lkM,gs,gm,ZaA]⟩)
 ·intro s' m' hB hD hI hJ;have F:=ZbC.1 hB;simp only [lkS,lkM,List.getD_cons_zero,List.getD_cons_succ,and_true,true_and] at F;have F:=aj5 F @Zbk @ZaX @Zbn eCP;refine gO3 ?_;exact xS hB (Zay.2 ⟨([],zTm),ok00,by simp [lkS,lkM,gs,gm,ZaA]⟩)
 ·intro s' m' hB hD hI hJ;have F:=ZbC.1 hB;simp only [lkS,lkM,List.getD_cons_zero,List.getD_cons_succ,and_true,true_and] at F;have F:=aj5 F @Zbk @ZaX @Zbn eCP;refine gO3 ?_;exact xS hB (Zay.2 ⟨([],zTm),ok00,by simp [lkS,lkM,gs,gm,ZaA]⟩)
 ·intro s' m' hB hD hI hJ;have F:=ZbC.1 hB;simp only [lkS,lkM,List.getD_cons_zero,List.getD_cons_succ,and_true,true_and] at F;have F:=aj5 F @Zbk @ZaX @Zbn eCP;refine gO3 ?_;exact xS hB (Zay.2 ⟨([],zTm),ok00,by simp [lkS,lkM,gs,gm,ZaA]⟩)
 ·intro s' m' hB hD hI hJ;have F:=ZbC.1 hB;simp only [lkS,lkM,List.getD_cons_zero,List.getD_cons_succ,and_true,true_and] at F;obtain ⟨x1,o1,F1⟩:=Zay.1 (hD 1 (by decide) (.inl rfl));obtain ⟨x2,o2,F2⟩:=Zay.1 (hD 2 (by decide) (.inl rfl));obtain ⟨x3,o3,F3⟩:=Zay.1 (hD 3 (by decide) (.inl rfl));obtain ⟨x12,o12,F12⟩:=Zay.1 (hI 12 (by decide) (by decide));simp only [lkS,lkM,List.getD_cons_zero,List.getD_cons_succ,and_true,true_and] at F1
  have F:=ai F F1;simp only [lkS,lkM,List.getD_cons_zero,List.getD_cons_succ,and_true,true_and] at F2;have F:=ai F F2;simp only [lkS,lkM,List.getD_cons_zero,List.getD_cons_succ,and_true,true_and] at F3;have F:=ai F F3;simp only [lkS,lkM,List.getD_cons_zero,List.getD_cons_succ,and_true,true_and] at F12;have F:=ai F F12;have F:=aj5 F @Zbk @ZaX @Zbn eCP;refine gCP [1001] [1001] (cB) ?_ (hpm:=by rw [ZiY,F12];rfl) (hpn:=rfl)
  rintro r pm ⟨l,hl,rfl,rfl⟩;simp only [setA,retA,zipM,Taf,Tah];refine ZbG ?_;exact xLB hB (Zay.2 ⟨(l,zTm),⟨hl,ok00.2⟩,by simp [lkS,lkM,gs,gm]⟩)
 ·intro s' m' hB hD hI hJ;have F:=ZbC.1 hB;simp only [lkS,lkM,List.getD_cons_zero,List.getD_cons_succ,and_true,true_and] at F;have F:=aj5 F @Zbk @ZaX @Zbn eCP;refine gO3 ?_;exact xS hB (Zay.2 ⟨([],zTm),ok00,by simp [lkS,lkM,gs,gm,ZaA]⟩)
 ·intro s' m' hB hD hI hJ;have F:=ZbC.1 hB;simp only [lkS,lkM,List.getD_cons_zero,List.getD_cons_succ,and_true,true_and] at F;have F:=aj5 F @Zbk @ZaX @Zbn eCP;refine gO3 ?_;exact xS hB (Zay.2 ⟨([],zTm),ok00,by simp [lkS,lkM,gs,gm,ZaA]⟩)
 ·intro s' m' hB hD hI hJ;have F:=ZbC.1 hB;simp only [lkS,lkM,List.getD_cons_zero,List.getD_cons_succ,and_true,true_and] at F;have F:=aj5 F @Zbk @ZaX @Zbn eCP;refine gO3 ?_;exact xS hB (Zay.2 ⟨([],zTm),ok00,by simp [lkS,lkM,gs,gm,ZaA]⟩)
 ·intro s' m' hB hD hI hJ;have F:=ZbC.1 hB;simp only [lkS,lkM,List.getD_cons_zero,List.getD_cons_succ,and_true,true_and] at F;obtain ⟨x4,o4,F4⟩:=Zay.1 (hD 4 (by decide) (.inr rfl));obtain ⟨x5,o5,F5⟩:=Zay.1 (hD 5 (by decide) (.inl rfl));obtain ⟨x6,o6,F6⟩:=Zay.1 (hD 6 (by decide) (.inl rfl));obtain ⟨x7,o7,F7⟩:=Zay.1 (hD 7 (by decide) (.inl rfl));simp only [lkS,lkM,List.getD_cons_zero,List.getD_cons_succ,and_true,true_and] at F4
  have F:=ai F F4;simp only [lkS,lkM,List.getD_cons_zero,List.getD_cons_succ,and_true,true_and] at F5;have F:=ai F F5;simp only [lkS,lkM,List.getD_cons_zero,List.getD_cons_succ,and_true,true_and] at F6;have F:=ai F F6;simp only [lkS,lkM,List.getD_cons_zero,List.getD_cons_succ,and_true,true_and] at F7;have F:=ai F F7;have F:=aj5 F @Zbk @ZaX @Zbn eCP;refine gCP [1001] [] (cT) ?_ (hpm:=by rw [ZiY,F4.2];rfl) (hpn:=rfl)
  rintro r pm ⟨t,ht,rfl,rfl⟩;simp only [setA,retA,zipM,Taf,Tah];refine ZbG ?_;have k19:gs (Zao 1001 s') 19=.d (.one (.sl (ZaE x4.1))):=by rw [Zdu _ _ _ (by rw [F4.1];rfl)];exact F4.1
  exact xLD hB (Zay.2 ⟨(x4.1,t),⟨o4.1,ht⟩,by simp [lkS,lkM,gs,gm,k19]⟩)
 ·intro s' m' hB hD hI hJ;have F:=ZbC.1 hB;simp only [lkS,lkM,List.getD_cons_zero,List.getD_cons_succ,and_true,true_and] at F;obtain ⟨x0,o0,F0⟩:=Zay.1 (hD 0 (by decide) (.inl rfl));obtain ⟨x8,o8,F8⟩:=Zay.1 (hD 8 (by decide) (.inl rfl));obtain ⟨x13,o13,F13⟩:=Zay.1 (hI 13 (by decide) (by decide));simp only [lkS,lkM,List.getD_cons_zero,List.getD_cons_succ,and_true,true_and] at F0;have F:=ai F F0;simp only [lkS,lkM,List.getD_cons_zero,List.getD_cons_succ,and_true,true_and] at F8
  have F:=ai F F8;simp only [lkS,lkM,List.getD_cons_zero,List.getD_cons_succ,and_true,true_and] at F13;have F:=ai F F13;have F:=aj5 F @Zbk @ZaX @Zbn eCP;refine gO3 ?_;exact xM hB (Zay.2 ⟨x8,o8,by simp [lkS,lkM,gs,gm,ZaA,F0,F8]⟩)
 ·intro s' m' hB hD hI hJ;have F:=ZbC.1 hB;simp only [lkS,lkM,List.getD_cons_zero,List.getD_cons_succ,and_true,true_and] at F;obtain ⟨x9,o9,F9⟩:=Zay.1 (hD 9 (by decide) (.inl rfl));simp only [lkS,lkM,List.getD_cons_zero,List.getD_cons_succ,and_true,true_and] at F9;have F:=ai F F9;have F:=aj5 F @Zbk @ZaX @Zbn eCP;refine gO3 ?_;exact xS hB (Zay.2 ⟨x9,o9,by simp [lkS,lkM,gs,gm,ZaA,F9]⟩)
 ·intro s' m' hB hD hI hJ;have F:=ZbC.1 hB;simp only [lkS,lkM,List.getD_cons_zero,List.getD_cons_succ,and_true,true_and] at F;obtain ⟨x8,o8,F8⟩:=Zay.1 (hD 8 (by decide) (.inl rfl));obtain ⟨x14,o14,F14⟩:=Zay.1 (hI 14 (by decide) (by decide));simp only [lkS,lkM,List.getD_cons_zero,List.getD_cons_succ,and_true,true_and] at F8;have F:=ai F F8;simp only [lkS,lkM,List.getD_cons_zero,List.getD_cons_succ,and_true,true_and] at F14
  have F:=ai F F14;have F:=aj5 F @Zbk @ZaX @Zbn eCP;refine gO3 ?_;exact xM hB (Zay.2 ⟨x8,o8,by simp [lkS,lkM,gs,gm,ZaA,F8]⟩)
 intro s' m' hB hP;obtain ⟨x9,o9,P9⟩:=hP 9 (.inl (by decide)) (fun k h=>by simp [List.lookup] at h);obtain ⟨x10,o10,P10⟩:=hP 10 (.inl (by decide)) (fun k h=>by simp [List.lookup] at h);obtain ⟨x11,o11,P11⟩:=hP 11 (.inl (by decide)) (fun k h=>by simp [List.lookup] at h);refine ⟨_,_,((hB.app P9).app P10).app P11,?_⟩;simp only [Taf,Tah,List.append_nil,List.getD_cons_zero,List.getD_cons_succ]
 /- gk end drs -/
 refine ⟨_,Wk.refl _,?_⟩;exact (have F:=aj6 hE @eBP @Zbk @ZaX @Zbn eCP;gTE (R:=ZwP) [] ⟨g,x10.1,x11.2,hDr,o10.1,o11.2,rfl⟩)
end
section
variable {x:Src}
def ZwQ (r:List D):Prop:=∃ (g:Sgn) (ws:List Wt) (s t:Tm),DrD g∧(ws.length=g.ops.length∧∀ w∈ws,WtDr w)∧(TermOk g s∧depthTm s<=4)∧TermOk g t∧r=[.agg (Zaf g),.one (.sl (ws.map ZbI)),.agg (Zaa s),.agg (Zaa t)]
theorem ZpY (hx:x.Ok):ConE (eB x) 6 [Zje x] ZwQ:=by
 have he:=hx.ok;refine gIE (ts:=[.cell 2 30,.slot 3,.cell 4 34,.cell 5 34]) 268436477 Tryz.func6 ?_;refine fN 1 @tmB ?_;refine gB ?_;have F:=@tmB;refine gCP [] [1000] (ZoZ hx) ?_;clear F;rintro r pm ⟨b,h,rfl,rfl⟩;simp only [setA,retA,zipM,Taf,Tah];refine fR @tmB ?_;refine pCur 1000 (Int.le_refl 0) ?_;clear he;have he:=hx.okC (b:=b);refine fN 2 @tmC ?_;refine gB ?_;have F:=@tmC;refine gCP [] [1000] ((ZjN hx)) ?_;clear F
 rintro r pm ⟨z,u,hc,fa,fc,fu,w,a0,k0,hz,rfl,rfl⟩;simp only [setA,retA,zipM,Taf,Tah];refine fR @tmC ?_;obtain ⟨e1,e2,e3⟩:=Zo0 z u hc fa fc fu w;rw [e1,e2,e3];have hDr:DrD (sigD z u hc fa fc fu w):=⟨z,u,hc,fa,fc,fu,w,hz,rfl⟩;clear e1 e2 e3;generalize sigD z u hc fa fc fu w=g at hDr ⊢;clear hz;refine pD 1000 [] [7] ?_;have hd:=Zjf hDr;have cD:=ZsL (b:=b) hx hd.ok hd.sg hd.h4 hd.hz (d:=3) (by decide) true
 have cA:=fun (t:Tm) (h:TermOk g t)=>Zlu (b:=b) hx hd.ok hd.sg hd.h4 hd.hz (sizeTm t+1) (Tan _) h;have cW:=Zo6 (b:=b) hx hd;have c2:=Zby (b:=b) hx (n:=2) (by decide) (by decide);have hE:Zaf g=[.sl (g.sorts.names.map ZbA),.sl (g.sorts.subs.map ZbN),.sl (g.ops.map ZaT)]:=by rw [Zaf]
 rw [hE] at cD cA cW;refine fN 3 @tmC ?_;refine gB ?_;have F:=@tmC;refine gCE (cD) ?_;clear F;rintro r ⟨s,hs,rfl⟩;refine fR @tmC ?_;refine fN 4 @tmC ?_;refine gB ?_;have F:=@tmC;refine gCE (cA s hs.1) ?_;clear F;rintro r ⟨t,ht,rfl⟩;refine fR @tmC ?_;have hsE:Zaa s=[.lit (.int .i64 s.op),.lit (.string s.name),.lit (.int .i64 s.sort),.sl (Zab s.args)]:=by cases s;simp only [Zaa,Tm.op,Tm.name,Tm.sort,Tm.args]
 refine fN 5 @tmC ?_;refine gM (ι:=Bool) [28] [] (fun y=>[(28,A.d (.one (.lit (.bool y))))]) (fun y=>[]) (fun y=>y=true->0 < s.args.length) ?_ (fun y hy=>Exists.intro _ (ai (Wk.refl _) ?_))
 ·refine gB ?_;by_cases h0:0 < s.args.length
  ·have q0:=lT 0 s.args.length;have F:=aj3 @hsE @q0 @tmC;refine gCE (c2) ?_;clear F;rintro r ⟨y,rfl⟩;refine fR @tmC ?_;have F:=ai @hsE @tmC;refine gG ?_;exact ⟨y,fun _=>h0,gw,gw⟩
  ·have q0:=lF 0 s.args.length;refine fR (aj3 @hsE @q0 @tmC) ?_;have F:=ai @hsE @tmC;refine gG ?_;exact ⟨false,(by simp),gw,gw⟩
 refine gM (ι:=Tm) [28] [9] (fun u=>[]) (fun u=>[(9,.var none (Zaa u))]) (fun u=>TermOk g u) ?_ (fun u hu=>Exists.intro _ (ai (Wk.refl _) ?_))
 ·cases y with
  | false=>(have F:=@tmC;refine gG ?_;exact ⟨t,ht,gw,gw⟩)
  | true =>
   have h0:=hy rfl;obtain ⟨a0,ha0⟩:∃ a0,s.args[0]?=some a0:=⟨_,Taa h0⟩;refine fN 6 @tmC ?_;refine gB ?_;refine fR (aj4 @ha0 @h0 @hsE @tmC) ?_;have F:=ai @hsE @tmC;refine gG ?_;exact ⟨a0,hs.1.arg (Tac ha0),gw,gw⟩
 clear hy y;obtain ⟨ws0,ok00⟩:∃ ws:List Wt,ws.length=g.ops.length∧∀ w∈ws,WtDr w:=⟨List.replicate g.ops.length ⟨0,[]⟩,List.length_replicate,fun w hw=>by rw [(List.mem_replicate.1 hw).2];exact ZzJ ⟨by decide,by decide⟩ (fun c h=>by cases h)⟩;clear hsE;refine fN 7 @tmC ?_
 /- gk drh -/
 refine gGx (X:=List Wt) [(2,.ref 2 0),(4,.ref 4 0),(5,.ref 5 0),(6,.d (curD b)),(7,.ref 7 0),(8,.ref 8 0),(9,.ref 9 0)] [(7,.var none [.sl (g.sorts.names.map ZbA),.sl (g.sorts.subs.map ZbN),.sl (g.ops.map ZaT)]),(8,.var none (Zaa s)),(9,.var none (Zaa u))] (fun _ x=>x.length=g.ops.length∧∀ w∈x,WtDr w) (fun x=>[([(33,.d (.agg [.sl (g.sorts.names.map ZbA),.sl (g.sorts.subs.map ZbN),.sl (g.ops.map ZaT)]))],[]),([(34,.d (curD b))],[]),([(35,.d (.agg [.sl (g.sorts.names.map ZbA),.sl (g.sorts.subs.map ZbN),.sl (g.ops.map ZaT)]))],[]),([(36,.d (.one (.sl (x.map ZbI))))],[]),([(37,.d (.agg (Zaa s)))],[]),([(38,.d (.agg (Zaa u)))],[]),([],[(2,.var none [.sl (g.sorts.names.map ZbA),.sl (g.sorts.subs.map ZbN),.sl (g.ops.map ZaT)])]),([(3,.d (.one (.sl (x.map ZbI))))],[]),([],[(4,.var none (Zaa s))]),([],[(5,.var none (Zaa u))]),([],[(2,.var none [.sl [],.sl [],.sl []])]),([],[(4,.var none [.lit (.int .i64 0),.lit (.string ByteArray.empty),.lit (.int .i64 0),.sl []])]),([],[(5,.var none [.lit (.int .i64 0),.lit (.string ByteArray.empty),.lit (.int .i64 0),.sl []])])]) (fun j=>([(10,6),(11,8),(12,9)]:List (Nat × Nat)).lookup j) [10,11,12] (⟨by simp [gs],by simp [gm]⟩) (fun j hj=>by simp only [Tbg,List.not_mem_nil,or_false] at hj;rcases hj with rfl | rfl | rfl <;> exact ⟨ws0,ok00,by simp [gs],by simp [gm]⟩) ⟨?_,?_,?_,?_,?_,?_,?_,?_,?_,?_,trivial⟩ ?_
 ·intro s' m' hB hD hI hJ;have F:=ZbC.1 hB;simp only [lkS,lkM,List.getD_cons_zero,List.getD_cons_succ,and_true,true_and] at F;have F:=ai F (tmC);refine gO3 ?_;exact xS hB (Zay.2 ⟨ws0,ok00,by simp [lkS,lkM,gs,gm,ZaA]⟩)
 ·intro s' m' hB hD hI hJ;have F:=ZbC.1 hB;simp only [lkS,lkM,List.getD_cons_zero,List.getD_cons_succ,and_true,true_and] at F;have F:=ai F (tmC);refine gO3 ?_;exact xS hB (Zay.2 ⟨ws0,ok00,by simp [lkS,lkM,gs,gm,ZaA]⟩)
 ·intro s' m' hB hD hI hJ;have F:=ZbC.1 hB;simp only [lkS,lkM,List.getD_cons_zero,List.getD_cons_succ,and_true,true_and] at F;have F:=ai F (tmC);refine gO3 ?_;exact xS hB (Zay.2 ⟨ws0,ok00,by simp [lkS,lkM,gs,gm,ZaA]⟩)
 ·intro s' m' hB hD hI hJ;have F:=ZbC.1 hB;simp only [lkS,lkM,List.getD_cons_zero,List.getD_cons_succ,and_true,true_and] at F;obtain ⟨x1,o1,F1⟩:=Zay.1 (hD 1 (by decide) (.inl rfl));obtain ⟨x2,o2,F2⟩:=Zay.1 (hD 2 (by decide) (.inl rfl));simp only [lkS,lkM,List.getD_cons_zero,List.getD_cons_succ,and_true,true_and] at F1;have F:=ai F F1;simp only [lkS,lkM,List.getD_cons_zero,List.getD_cons_succ,and_true,true_and] at F2
  have F:=ai F F2;have F:=ai F (tmC);refine gCE (cW) ?_;rintro r ⟨ws,h1,h2,rfl⟩;refine ZbG ?_;exact xS hB (Zay.2 ⟨ws,⟨h1,h2⟩,by simp [lkS,lkM,gs,gm,retA]⟩)
 ·intro s' m' hB hD hI hJ;have F:=ZbC.1 hB;simp only [lkS,lkM,List.getD_cons_zero,List.getD_cons_succ,and_true,true_and] at F;have F:=ai F (tmC);refine gO3 ?_;exact xS hB (Zay.2 ⟨ws0,ok00,by simp [lkS,lkM,gs,gm,ZaA]⟩)
 ·intro s' m' hB hD hI hJ;have F:=ZbC.1 hB;simp only [lkS,lkM,List.getD_cons_zero,List.getD_cons_succ,and_true,true_and] at F;have F:=ai F (tmC);refine gO3 ?_;exact xS hB (Zay.2 ⟨ws0,ok00,by simp [lkS,lkM,gs,gm,ZaA]⟩)
 ·intro s' m' hB hD hI hJ;have F:=ZbC.1 hB;simp only [lkS,lkM,List.getD_cons_zero,List.getD_cons_succ,and_true,true_and] at F;obtain ⟨x0,o0,F0⟩:=Zay.1 (hD 0 (by decide) (.inl rfl));obtain ⟨x10,o10,F10⟩:=Zay.1 (hI 10 (by decide) (by decide));simp only [lkS,lkM,List.getD_cons_zero,List.getD_cons_succ,and_true,true_and] at F0;have F:=ai F F0;simp only [lkS,lkM,List.getD_cons_zero,List.getD_cons_succ,and_true,true_and] at F10
  have F:=ai F F10;have F:=ai F (tmC);refine gO3 ?_;exact xM hB (Zay.2 ⟨ws0,ok00,by simp [lkS,lkM,gs,gm,ZaA,F0]⟩)
 ·intro s' m' hB hD hI hJ;have F:=ZbC.1 hB;simp only [lkS,lkM,List.getD_cons_zero,List.getD_cons_succ,and_true,true_and] at F;obtain ⟨x3,o3,F3⟩:=Zay.1 (hD 3 (by decide) (.inl rfl));simp only [lkS,lkM,List.getD_cons_zero,List.getD_cons_succ,and_true,true_and] at F3;have F:=ai F F3;have F:=ai F (tmC);refine gO3 ?_;exact xS hB (Zay.2 ⟨x3,o3,by simp [lkS,lkM,gs,gm,ZaA,F3]⟩)
 ·intro s' m' hB hD hI hJ;have F:=ZbC.1 hB;simp only [lkS,lkM,List.getD_cons_zero,List.getD_cons_succ,and_true,true_and] at F;obtain ⟨x4,o4,F4⟩:=Zay.1 (hD 4 (by decide) (.inl rfl));obtain ⟨x11,o11,F11⟩:=Zay.1 (hI 11 (by decide) (by decide));simp only [lkS,lkM,List.getD_cons_zero,List.getD_cons_succ,and_true,true_and] at F4;have F:=ai F F4;simp only [lkS,lkM,List.getD_cons_zero,List.getD_cons_succ,and_true,true_and] at F11
  have F:=ai F F11;have F:=ai F (tmC);refine gO3 ?_;exact xM hB (Zay.2 ⟨ws0,ok00,by simp [lkS,lkM,gs,gm,ZaA,F4]⟩)
 ·intro s' m' hB hD hI hJ;have F:=ZbC.1 hB;simp only [lkS,lkM,List.getD_cons_zero,List.getD_cons_succ,and_true,true_and] at F;obtain ⟨x5,o5,F5⟩:=Zay.1 (hD 5 (by decide) (.inl rfl));obtain ⟨x12,o12,F12⟩:=Zay.1 (hI 12 (by decide) (by decide));simp only [lkS,lkM,List.getD_cons_zero,List.getD_cons_succ,and_true,true_and] at F5;have F:=ai F F5;simp only [lkS,lkM,List.getD_cons_zero,List.getD_cons_succ,and_true,true_and] at F12
  have F:=ai F F12;have F:=ai F (tmC);refine gO3 ?_;exact xM hB (Zay.2 ⟨ws0,ok00,by simp [lkS,lkM,gs,gm,ZaA,F5]⟩)
 intro s' m' hB hP;obtain ⟨x6,o6,P6⟩:=hP 6 (.inl (by decide)) (fun k h=>by simp [List.lookup] at h);obtain ⟨x7,o7,P7⟩:=hP 7 (.inl (by decide)) (fun k h=>by simp [List.lookup] at h);obtain ⟨x8,o8,P8⟩:=hP 8 (.inl (by decide)) (fun k h=>by simp [List.lookup] at h);obtain ⟨x9,o9,P9⟩:=hP 9 (.inl (by decide)) (fun k h=>by simp [List.lookup] at h);refine ⟨_,_,(((hB.app P6).app P7).app P8).app P9,?_⟩;simp only [Taf,Tah,List.append_nil,List.getD_cons_zero,List.getD_cons_succ]
 /- gk end drh -/
 refine ⟨_,Wk.refl _,?_⟩;exact (have F:=aj3 hE @eBP tmC;gTE (R:=ZwQ) [] ⟨g,x7,s,u,hDr,o7,hs,hu,rfl⟩)
end
section
variable {e:Env} {U:Nat->Prop} {base:Nat} {S0:Nat->Prop} {σ:St} {o:Oper} {K:St->Prop}
end
section
variable {e:Env} {K:St->Prop} {ds:List (Option Nat)} {os:List Oper} {d t ty q:Nat} {p:String} {ed:Array Edge} {x lo:Operand} {s:List (Nat × A)} {m:List (Nat × Bk)}
end
section
variable {x:Src}
theorem ZAx (he:(eB x).Ok):Con (eB x) 5 [Zje x] [.one (.lit (.bool (decide (x.n > 1048576))))]:=by
 have hd:decide ((x.n:Int) > 1048576)=decide (x.n > 1048576):=by rw [decide_eq_decide];omega
 rw [<- hd];refine gI (ts:=[.slot 2]) 5 Tryz.func5 ?_;refine fG @tmB ?_;exact fD @tmB
end
section
variable {g:Sgn} {ws:List Wt} {a b:Tm}
theorem ZsO (hok:Zbv g) (hwl:ws.length<=1048576) (ha:okTm a) (hb:okTm b) (hba:Zal (Zaa a)<=1048576) (hbb:Zal (Zaa b)<=1048576):Con e0 8 [.agg (Zaf g),.one (.sl (ws.map ZbI)),.agg (Zaa a),.agg (Zaa b)] [.one (.lit (.bool (hvB g ws a b)))]:=by
 have cI:=Zld (ws:=ws) hok hwl;have cTa:=ZcG hok ha (Zc5 hba);have cTb:=ZcG hok hb (Zc5 hbb);have cG:=fun h1 h2 h3=>Zsw (g:=g) (ws:=ws) h1 ha hb hba hbb h2 h3;rw [Zaf] at cI cTa cTb ⊢;refine gI 479 Tryz.func8 ?_;refine fB @tmz ?_;refine fC @tmz (cI) ?_
 cases hI:isIn g ws with
 | false =>
  have hf:hvB g ws a b=false:=by rw [hvB,hI];rfl
  refine fR @tmz ?_;exact fT (ai @tmz @hf)
 | true =>
 have hIO:=Zhy.1 hI;have hs:=Zb4 hIO.sgn;rw [hs,Bool.true_and] at cTa cTb;refine fC @tmz (cTa) ?_
 cases hA:Za8 g a with
 | false =>
  have hf:hvB g ws a b=false:=by rw [hvB,hI,hA];rfl
  refine fR @tmz ?_;exact fT (ai @tmz @hf)
 | true =>
 refine fC @tmz (cTb) ?_
 cases hB:Za8 g b with
 | false =>
  have hf:hvB g ws a b=false:=by rw [hvB,hI,hA,hB];rfl
  refine fR @tmz ?_;exact fT (ai @tmz @hf)
 | true =>
 have hf:hvB g ws a b=gtB g ws a b:=by rw [hvB,hI,hA,hB];rfl
 refine fC @tmz (cG hIO (Zi9 hA) (Zi9 hB)) ?_;rw [hf];refine fR @tmz ?_;exact fT @tmz
end
section
variable {g:Sgn} {ws:List Wt} {t:Tm}
open Classical in
noncomputable def wfB (g:Sgn) (ws:List Wt) (t:Tm):Bool:=decide (isIn g ws=true∧Za8 g t=true∧okW g ws (ZaD t) t)
noncomputable def wfN (g:Sgn) (ws:List Wt) (t:Tm):Int:=if wfB g ws t=true then wN g ws t else 0
noncomputable def wfL (g:Sgn) (ws:List Wt) (t:Tm):List Int:=if wfB g ws t=true then (ZaD t).map fun v=>wF g ws v t else []
theorem ZAV (h1:isIn g ws=true) (h2:Za8 g t=true) (h3:okW g ws (ZaD t) t):wfB g ws t=true∧wfN g ws t=wN g ws t∧(wfL g ws t).map ZaG=numR (fun v=>wF g ws v t) (ZaD t):=by
 have hb:wfB g ws t=true:=by simp [wfB,h1,h2,h3]
 exact ⟨hb,by rw [wfN,if_pos hb],by rw [wfL,if_pos hb,numR,List.map_map];rfl⟩
theorem ZsP (h:¬ (isIn g ws=true∧Za8 g t=true∧okW g ws (ZaD t) t)):wfB g ws t=false∧wfN g ws t=0∧(wfL g ws t).map ZaG=[]:=by
 have hb:wfB g ws t=false:=by simp only [wfB,decide_eq_false_iff_not];exact h
 exact ⟨hb,by rw [wfN,hb];rfl,by rw [wfL,hb];rfl⟩
theorem ZsQ (hok:Zbv g) (hwl:ws.length<=1048576) (ht:okTm t) (hb:Zal (Zaa t)<=1048576):Con e0 11 [.agg (Zaf g),.one (.sl (ws.map ZbI)),.agg (Zaa t)] [.one (.lit (.int .i64 (wfN g ws t))),.one (.sl ((wfL g ws t).map ZaG)),.one (.lit (.bool (wfB g ws t)))]:=by
 have cI:=Zld (ws:=ws) hok hwl;have cT:=ZcG hok ht (Zc5 hb);have cV:=Zf4 ht hb;have hvt:=Zfe hb;have hvl:=ZeD t;rw [Zaf] at cI cT ⊢;refine gI 4297068527 Tryz.func11 ?_;refine fB @tmz ?_;refine fC @tmz (cI) ?_
 cases hI:isIn g ws with
 | false =>
  obtain ⟨h1,h2,h3⟩:=ZsP (g:=g) (ws:=ws) (t:=t) fun h=>by rw [hI] at h;cases h.1
  rw [h1,h2,h3];refine fR @tmz ?_;have F:=@tmz;refine gG ?_;exact gTz [7]
 | true =>
 have hII:=Zhy.1 hI;rw [Zb4 hII.sgn,Bool.true_and] at cT;refine fC @tmz (cT) ?_
 cases hT:Za8 g t with
 | false =>
  obtain ⟨h1,h2,h3⟩:=ZsP (g:=g) (ws:=ws) (t:=t) fun h=>by rw [hT] at h;cases h.2.1
  rw [h1,h2,h3];refine fR @tmz ?_;have F:=@tmz;refine gG ?_;exact gTz [7]
 | true =>
 have cW:=Zfk (vs:=ZaD t) hII om (ZfA ht) (sizeTm t+1) t (Tan _) ht (Zcz.1 hT).form;refine fR @tmz ?_;refine fB @tmz ?_;refine fC @tmz (cV) ?_;by_cases hk:okW g ws (ZaD t) t
 ·obtain ⟨h1,h2,h3⟩:=ZAV hI hT hk;rw [ZcH hk] at cW;rw [h1,h2,h3];refine fC @tmz (cW) ?_;have F:=@tmz;refine gP 4 ?_;clear F;refine (have F:=hI;gAq ?_);refine (have F:=hI;gAq ?_);refine fR @tmz ?_;exact fT @tmz
 ·obtain ⟨h1,h2,h3⟩:=ZsP (g:=g) (ws:=ws) (t:=t) fun h=>hk h.2.2;rw [Zcr hk] at cW;rw [h1,h2,h3];refine fC @tmz (cW) ?_;have F:=@tmz;refine gP 4 ?_;clear F;refine (have F:=hI;gAq ?_);refine (have F:=hI;gAq ?_);refine fR @tmz ?_;have F:=@tmz;refine gG ?_;exact gTz [7]
end
section
variable {g:Sgn} {ws:List Wt} {t:Tm}
end
theorem ZiN:∀ (a b:List C),Zal (a++b)=Zal a+Zal b
 | [],b=>by simp [Zal]
 | x::a,b=>by simp only [Taf,Zal,ZiN a b];omega
theorem Zdr {g:Sgn} {t:Tm} (hg:SgnOk g) (h:TermOk g t):okTm t∧Zal (Zaa t)<=1048576∧sizeTm t<=60:=by
 have h1:=Zer h.form;have h2:=h.size;exact ⟨h.ok hg,om,h2⟩
theorem ZwR {g:Sgn} {l:List Bd} (hg:SgnOk g) (hl:Zgx g 61 l):Zhr l∧l.length+Zat (ZaE l)<=1048576:=by
 refine ⟨fun y hy=>⟨(hl.2 y hy).vo,(hl.2 y hy).to.ok hg⟩,?_⟩;have hk:∀ l:List Bd,(∀ y∈l,BdDr g y)->Zat (ZaE l)<=l.length * 800:=fun l=>by
  induction l with
  | nil=>intro _;simp [ZaE,Zat]
  | cons y l ih =>
   intro h;have h1:=ih fun z hz=>h z (Tal _ hz);have h2:=h y Tas;have h3:=Zer h2.to.form;have h4:=h2.to.size;have h5:=h2.vb;have h6:Zal (ZbR y)=Zal (Zaa y.var)+Zal (Zaa y.to):=ZiN _ _;simp only [ZaE,Tbu,Zat,Tag] at h1 ⊢;omega
 have h1:=hk l hl.2;have h2:=hl.1;omega
theorem ZsR {g:Sgn} {ws:List Wt} {a b:Tm} (h:hvB g ws a b=true):InOk g ws∧GtOk g ws (ZaD a) a b:=by
 simp only [hvB,Tar] at h;exact ⟨Zhy.1 h.1,by simpa [gtB] using h.2.2.2⟩
theorem ZwS {g:Sgn} {ws:List Wt} {a b:Tm} (hI:InOk g ws) (ha:TermOk g a) (hb:TermOk g b) (h:GtOk g ws (ZaD a) a b):hvB g ws a b=true:=by
 rw [hvB,Ziz hI,Ze0 ha,Ze0 hb,ZoO h];rfl
theorem ZAy {g:Sgn} {ws:List Wt} {a b:Tm} (h:hvB g ws a b=true):hvB g ws b a=false:=by
 cases q:hvB g ws b a with
 | false=>rfl
 | true=>have:=(ZsR h).2.lt;have:=(ZsR q).2.lt;omega
theorem ZBc {g:Sgn} {ws:List Wt} {t:Tm} (h:wfB g ws t=true):okW g ws (ZaD t) t:=by
 simp only [wfB,decide_eq_true_eq] at h;exact h.2.2
theorem ZrN {g:Sgn} {l:List Bd} {t u:Tm} (h:aS g l t=some u):SgnOk g∧SbsOk g l∧TermOk g t∧apT g l t=some u:=by
 unfold aS at h;split at h
 ·next hc=>exact ⟨Zdj.1 hc.1,ZiI.1 hc.2.1,Zcz.1 hc.2.2,h⟩
 ·cases h
section
variable {x:Src}
theorem ZwT (hx0:x.n<=1048576->x.Ok) (he:(eB x).Ok) (hc:x.n<=x.cap):Con (eB x) 3 [Zje x] [.one (.lit (.bool true))]:=by
 have cBig:=ZAx he;refine gI (ts:=[.slot 2]) 170141184104507537169906435712643660541 Tryz.func3 ?_;refine fN 1 @tmB ?_;refine gB ?_;refine fC @tmB (cBig) ?_;by_cases hn:x.n > 1048576
 ·have q1:decide (x.n > 1048576)=true:=decide_eq_true hn;refine fR (ai @q1 @tmB) ?_;exact fD @tmB
 have q1:decide (x.n > 1048576)=false:=decide_eq_false hn;refine fR (ai @q1 @tmB) ?_;have hx:=hx0 om;clear q1 cBig hx0;refine fN 3 @tmB ?_;refine gB ?_;have F:=@tmB;refine gCE (ZpY hx) ?_;clear F;rintro r ⟨g,ws,s,t,hg,⟨hwl,hw3⟩,⟨hs,hs4⟩,ht,rfl⟩;have hd:=Zjf hg;have hE:Zaf g=[.sl (g.sorts.names.map ZbA),.sl (g.sorts.subs.map ZbN),.sl (g.ops.map ZaT)]:=by rw [Zaf]
 refine fR (ai @hE @tmB) ?_;have h14:=hd.sg.len;have hw9:ws.length<=1048576:=om;have fs:=Zdr hd.sg hs;have ft:=Zdr hd.sg ht;have cI:∀ {a b:Tm},okTm a->Zal (Zaa a)<=1048576->okTm b->Zal (Zaa b)<=1048576->Con (eB x) 7 [.agg (Zaf g),.one (.sl (ws.map ZbI)),.agg (Zaa a),.agg (Zaa b)] [.one (.lit (.bool (hvB g ws a b)))]:=fun h1 h2 h3 h4=>(Zsx hd.ok hw9 h1 h3 h2 h4).bt hx;have cS:∀ {a b:Tm},okTm a->Zal (Zaa a)<=1048576->okTm b->Zal (Zaa b)<=1048576->Con (eB x) 8 [.agg (Zaf g),.one (.sl (ws.map ZbI)),.agg (Zaa a),.agg (Zaa b)] [.one (.lit (.bool (hvB g ws a b)))]:=fun h1 h2 h3 h4=>(ZsO hd.ok hw9 h1 h3 h2 h4).bt hx
 have cA:∀ {l:List Bd} {a:Tm},Zhr l->l.length+Zat (ZaE l)<=1048576->okTm a->Zal (Zaa a)<=1048576->Con (eB x) 10 [.agg (Zaf g),.one (.sl (ZaE l)),.agg (Zaa a)] [.agg (Zaa ((aS g l a).getD zTm)),.one (.lit (.bool (aS g l a).isSome))]:=fun h1 h2 h3 h4=>(Znc hd.ok h1 h2 h3 h4).bt hx;have cW:∀ {a:Tm},okTm a->Zal (Zaa a)<=1048576->Con (eB x) 11 [.agg (Zaf g),.one (.sl (ws.map ZbI)),.agg (Zaa a)] [.one (.lit (.int .i64 (wfN g ws a))),.one (.sl ((wfL g ws a).map ZaG)),.one (.lit (.bool (wfB g ws a)))]:=fun h1 h2=>(ZsQ hd.ok hw9 h1 h2).bt hx
 have cR:∀ {i:Nat} {o:Opr} {d:Dcl},g.ops[i]?=some o->o.decls[0]?=some d->Con (eB x) 12 [.agg (Zaf g),.one (.lit (.int .i64 i))] [.one (.lit (.int .i64 d.args.length))]:=fun h1 h2=>(Znd hd.ok hd.sg h1 h2).bt hx;have cM:∀ {i:Nat} {o:Opr} {a:Tm},g.ops[i]?=some o->TermOk g a->Con (eB x) 13 [.agg (Zaf g),.one (.lit (.int .i64 i)),.clip [Zaa a]] [.agg (Zaa ((mkT g i [a]).getD zTm)),.one (.lit (.bool (mkT g i [a]).isSome))]:=fun {i o a} h1 h2=>by
  have h:=(ZoV hd.ok hd.sg h1 (us:=[a]) (fun u hu=>by rw [Tbj.1 hu];exact h2) (by simp)).bt hx;rw [ZbX] at h;exact h.args fun w S vs h=>by
   match vs,h with
   | [v1,v2,v3],⟨h1,h2,h3,_⟩=>exact ⟨h1,h2,h3.1,trivial⟩
 rw [hE] at cI cS cA cW cR cM;clear hE;refine fN 4 @tmB ?_;refine gB ?_;refine fC @tmB (cI fs.1 fs.2.1 ft.1 ft.2.1) ?_;refine fR @tmB ?_;refine fN 5 @tmB ?_;refine gB ?_;refine fC @tmB (cS fs.1 fs.2.1 ft.1 ft.2.1) ?_
 cases hgt:hvB g ws s t with
 | false =>
  refine fR @tmB ?_;exact fD @tmB
 | true =>
 obtain ⟨hI,hG⟩:=ZsR hgt;have hAs:=ZAy hgt;clear hgt cS;refine fR @tmB ?_;refine fN 9 @tmB ?_;refine gB ?_;have F:=@tmB;refine gCE (Zl2 hx) ?_;clear F;rintro r ⟨g3,l,t3,hg3,hl,ht3,rfl⟩;have hE3:Zaf g3=[.sl (g3.sorts.names.map ZbA),.sl (g3.sorts.subs.map ZbN),.sl (g3.ops.map ZaT)]:=by rw [Zaf]
 obtain ⟨hlo,hlb⟩:=ZwR (Zjf hg3).sg hl;have hz:TermOk g zTm:=hd.hz;have hG1:∀ a,TermOk g ((aS g l a).getD zTm):=fun a=>by
  cases q:aS g l a with
  | none=>exact hz
  | some v=>exact ZsC q
 have f1:=Zdr hd.sg (hG1 s);refine fR (ai @hE3 @tmB) ?_;refine fN 10 @tmB ?_;refine gB ?_;refine fC @tmB (cA hlo hlb fs.1 fs.2.1) ?_;refine fR @tmB ?_;refine fN 11 @tmB ?_;refine gB ?_;refine fC @tmB (cA hlo hlb ft.1 ft.2.1) ?_;refine fR @tmB ?_;refine fN 12 @tmB ?_;refine gB ?_;refine fC @tmB (cW f1.1 f1.2.1) ?_;refine fR @tmB ?_;clear cA cW hE3;refine fN 13 @tmB ?_;refine gM (ι:=Unit) [88] [] (fun q=>[(88,A.d (.one (.lit (.bool false))))]) (fun q=>[]) (fun q=>True) ?_ (fun q hq=>Exists.intro _ (ai (Wk.refl _) ?_))
 ·refine gB ?_
  cases hu1:aS g l s with
  | none =>
   have z:(none:Option Tm).isSome=false:=rfl;rw [z];refine fR @tmB ?_;have F:=@tmB;refine gG ?_;exact ⟨(),trivial,gw,gw⟩
  | some v1 =>
  have z1:(some v1).isSome=true:=rfl;rw [z1]
  cases hu2:aS g l t with
  | none =>
   have z:(none:Option Tm).isSome=false:=rfl;rw [z];refine fR @tmB ?_;have F:=@tmB;refine gG ?_;exact ⟨(),trivial,gw,gw⟩
  | some v2 =>
  have z2:(some v2).isSome=true:=rfl;have z3:(some v1).getD zTm=v1:=rfl;have z4:(some v2).getD zTm=v2:=rfl;rw [z2,z3,z4]
  cases hwf:wfB g ws v1 with
  | false =>
   refine fR @tmB ?_;have F:=@tmB;refine gG ?_;exact ⟨(),trivial,gw,gw⟩
  | true =>
   obtain ⟨_,hSb,_,ha1⟩:=ZrN hu1;obtain ⟨_,_,_,ha2⟩:=ZrN hu2;have h1:=ZsC hu1;have h2:=ZsC hu2;have f3:=Zdr hd.sg h1;have f4:=Zdr hd.sg h2;have h5:=ZwS hI h1 h2 (ZxS hI hG hs ht hSb.to' ha1 ha2 (ZBc hwf));refine fC @tmB (cI f3.1 f3.2.1 f4.1 f4.2.1) ?_;refine fR (ai @h5 @tmB) ?_;have F:=@tmB;refine gG ?_;exact ⟨(),trivial,gw,gw⟩
 clear q f1 hG1 hlo hlb;refine fG @tmB ?_;have F:=@tmB;refine gL (ι:=Nat) [2,18,19,20,21,22,93,99,127] [] (fun i=>[(18,A.d (.one (.lit (.int .i64 i))))]) (fun i=>[]) (fun i=>i<=g.ops.length) (fun i=>g.ops.length - i) (0) (Taj _) (fun i hi=>?_);clear F;by_cases h1:i < g.ops.length
 ·have q1:=lT i g.ops.length;have wi:=Zaq (k:=i) om;obtain ⟨o,ho⟩:∃ o,g.ops[i]?=some o:=⟨_,Taa h1⟩;obtain ⟨d,hd0,_⟩:=hd.sg.first ho;have ho':g.ops[(i:Int).toNat]?=some o:=by simpa using ho
  refine fN 18 (ai @q1 @tmB) ?_;refine gB ?_;refine fC @tmB (cR ho hd0) ?_;by_cases h2:d.args.length=1
  ·have q2:((d.args.length:Int)=1)=True:=eq_true om;refine fR (ai @q2 @tmB) ?_;refine fN 19 @tmB ?_;refine gB ?_;refine fC @tmB (cM ho hs) ?_;refine fR @tmB ?_;refine fN 20 @tmB ?_;refine gB ?_;refine fC @tmB (cM ho ht) ?_;refine fR @tmB ?_;refine fN 21 @tmB ?_;refine gM (ι:=Unit) [127] [] (fun q=>[(127,A.d (.one (.lit (.bool false))))]) (fun q=>[]) (fun q=>True) ?_ (fun q hq=>Exists.intro _ (ai (Wk.refl _) ?_))
   ·refine gB ?_
    cases hu1:mkT g i [s] with
    | none =>
     have z:(none:Option Tm).isSome=false:=rfl;rw [z];refine fR @tmB ?_;have F:=@tmB;refine gG ?_;exact ⟨(),trivial,gw,gw⟩
    | some v1 =>
    have z1:(some v1).isSome=true:=rfl;rw [z1]
    cases hu2:mkT g i [t] with
    | none =>
     have z:(none:Option Tm).isSome=false:=rfl;rw [z];refine fR @tmB ?_;have F:=@tmB;refine gG ?_;exact ⟨(),trivial,gw,gw⟩
    | some v2 =>
     have z2:(some v2).isSome=true:=rfl;have z3:(some v1).getD zTm=v1:=rfl;have z4:(some v2).getD zTm=v2:=rfl;rw [z2,z3,z4];have hone:∀ {a:Tm},TermOk g a->∀ u∈[a],TermOk g u:=fun h u hu=>by rw [Tbj.1 hu];exact h
     have h3:=Zfc hd.sg (Tbx i) (hone hs) hu1;have h4:=Zfc hd.sg (Tbx i) (hone ht) hu2;have f3:=Zdr hd.sg h3;have f4:=Zdr hd.sg h4;have hsm:=Zsy hI (fun w hw=>(hw3 w hw).2) hs hs4 (Tbx i) ho' hd0 hu1 (ZaD v1);have h5:=ZwS hI h3 h4 (ZAc hI hG hs ht (Tbx i) ho' hd0 hu1 hu2 hsm);refine fC @tmB (cI f3.1 f3.2.1 f4.1 f4.2.1) ?_;refine fR (ai @h5 @tmB) ?_;have F:=@tmB;refine gG ?_;exact ⟨(),trivial,gw,gw⟩
   have F:=ai @wi @tmB;refine gG ?_;exact ⟨i+1,om,gw,gw,om⟩
  ·have q2:((d.args.length:Int)=1)=False:=eq_false om;refine fR (ai @q2 @tmB) ?_;have F:=ai @wi @tmB;refine gG ?_;exact ⟨i+1,om,gw,gw,om⟩
 ·have q1:=lF i g.ops.length;refine fN 23 (ai @q1 @tmB) ?_;refine gB ?_;refine fC @tmB (cI ft.1 ft.2.1 fs.1 fs.2.1) ?_;refine fR (ai @hAs @tmB) ?_;exact fD @tmB
end
def Zjg (w:World) (a:Option Addr) (n cap:Nat):Src:=⟨fun b=>(0 < n∧∃ off,a=some ⟨b,off,none⟩)∧¬ e0.E b,fun w'=>∀ b,((0 < n∧∃ off,a=some ⟨b,off,none⟩)∧¬ e0.E b)->w'.heap[b]?=w.heap[b]?,a,n,cap⟩
def Zl3 (w:World) (a:Option Addr) (n:Nat):Prop:=0 < n->∃ (g off:Nat) (f:Nat->Nat),a=some ⟨g,off,none⟩∧(∀ j,f j < 256)∧∀ j,j < n->w.cell? ⟨g,off+j,none⟩=some (.int .u8 (f j))
theorem ZmS {w:World} {a:Option Addr} {n cap:Nat}:Fits e0 (Zjg w a n cap).E2 (Zjg w a n cap).G2:=⟨fun w1 w2 _ hE hG b hb=>(hE b hb).trans (hG b hb),fun _ _ b hb=>hb.2⟩
def ZlA (_:World):Prop:=True
theorem Zpb {w w':World} (h:ZlA w) (h':ZlA w') {b:Nat} (hb:e0.E b):w'.heap[b]?=w.heap[b]?:=(show False from hb).elim
theorem ZAW {w:World} (h:ZlA w):∀ b,e0.E b->b < w.heap.size:=fun b hb=>(show False from hb).elim
theorem Zx8 {w:World} (hT:ZlA w) {a:Option Addr} {n cap:Nat} (hb:Zl3 w a n) (hn:n<=1048576):(Zjg w a n cap).Ok:=by
 refine ⟨ZmS,fun h0=>?_,hn⟩;have h0':0 < n:=h0;obtain ⟨g,off,f,ha,hf,hc⟩:=hb h0';refine ⟨g,off,f,ha,hf,fun w' hw j hj=>?_⟩;rw [<- hc j hj];refine Zbi ?_ _;by_cases hE:e0.E g
 ·exact Zpb hT hw.1 hE
 ·exact hw.2 g ⟨⟨h0',off,ha⟩,hE⟩
theorem ZwU {F:FuncId} (hcon:∀ x:Src,(x.n<=1048576->x.Ok)->(eB x).Ok->x.n<=x.cap->Con (eB x) F [Zje x] [.one (.lit (.bool true))]) (w:World) (hT:ZlA w) (a:Option Addr) (n cap:Nat) (hc:n<=cap) (hb:Zl3 w a n) :
  Calls Tryz.prog F #[.slice a n cap] w fun e w'=>e=.returned (.bool true)∧Below w.heap.size w w':=by
 have hcon:=(hcon (Zjg w a n cap) (fun hn=>Zx8 hT hb hn) (ZmS.ok ZkC) hc).2 w (fun _=>False) [.slice a n cap] (fun b hb=>hb.elim) (fun b hE=>?_) ⟨hT,fun b _=>rfl⟩ ⟨by simp [DRel,Rep,Zjg],trivial⟩
 ·refine hcon.mono fun e w' ⟨v,h1,h2,h3,h4⟩=>⟨?_,h2.os,h2.tape,h2.output,h2.size,fun k hk=>?_⟩
  ·have h4:v=.bool true:=by simpa [retA,ARel,DRel,Rep] using h4
   rw [h1,h4]
  ·by_cases hE:e0.E k
   ·exact Zpb hT h3.1 hE
   ·by_cases hE2:(Zjg w a n cap).E2 k
    ·exact h3.2 k hE2
    ·exact h2.block k hk fun q=>q.elim hE hE2
 ·rcases hE with hE | hE
  ·exact ZAW hT b hE
  ·obtain ⟨⟨h0,off,ha⟩,_⟩:=hE;obtain ⟨g,off',f,ha',_,hcell⟩:=hb h0;rw [ha] at ha';injection ha' with ha'
   injection ha' with h1 h2
   subst h1;have:=hcell 0 h0;by_cases hlt:b < w.heap.size
   ·exact hlt
   ·unfold World.cell? at this;rw [show w.heap[b]?=none from Array.getElem?_eq_none om] at this
    cases this
end Go.Proofs.YtmdkimnlbaahbaaGreat
