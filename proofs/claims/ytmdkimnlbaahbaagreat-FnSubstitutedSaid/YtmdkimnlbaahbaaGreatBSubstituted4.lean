/-
  Part of a proof.
-/
import Derived.Test.YtmdkimnlbaahbaaGreatBSubstituted0
import Derived.Test.YtmdkimnlbaahbaaGreatBSubstituted1
import Derived.Test.YtmdkimnlbaahbaaGreatBSubstituted2
import Derived.Test.YtmdkimnlbaahbaaGreatBSubstituted3
import Derived.Shelf.SlSortCmp.WholeK
import Derived.Shelf.SlSortCmp.NoneTotal
import Derived.Lib.QuietBelow
import Derived.Shelf.SlLaysF0
import Derived.Test.YtmdkimnlbaahbaaGreatChecked
import Derived.Shelf.Lays7
import Derived.Shelf.Spec.TrailingZeros
set_option linter.unusedSimpArgs false
set_option linter.unusedVariables false
set_option maxHeartbeats 400000000
set_option maxRecDepth 100000
namespace Go.Proofs.YtmdkimnlbaahbaaGreat
open Go.RowKit
open Go.Sort (grow HoldsK putRowK flatK SWO PermIn SortedIn Holds mapBlock onCells putRow putCells get_flatK size_flatK)
theorem ZvW {w w':World} (h:Kept True (fun _=>False) w.heap.size w w'):∃ q os,w'=grow (w.drewN q) os:=by
 obtain ⟨p,hp⟩:=regrown_of_below (w:=w) (w':=w') ⟨h.os,h.tape,h.output,h.size,fun k hk=>h.block k hk id⟩;have hd:=h.drawn trivial;have e:p.d=w'.drawn:=by rw [hp];rfl
 refine ⟨w'.drawn - w.drawn,p.os,?_⟩;have e2:redrawn w p.d=w.drewN (w'.drawn - w.drawn):=by
  unfold redrawn World.drewN;rw [e,show w.drawn+(w'.drawn - w.drawn)=w'.drawn by omega]
 rw [<- e2];exact hp
abbrev SRow (w:World) (S:Nat->Prop) (Q:List C->Prop):={x:List C × List Value // Q x.1∧Zad w S x.1 x.2}
theorem Zox {w:World} {S:Nat->Prop} {b k:Nat} {Q:List C->Prop} (hk:∀ r,Q r->r.length=k):∀ (rows:List (List C)) (off:Nat),(∀ r∈rows,Q r)->Zaq w S b off rows->∃ l:List (SRow w S Q),l.map (fun x=>x.1.1)=rows∧∀ (i:Nat) x,l[i]?=some x->∀ j u,x.1.2[j]?=some u->w.cell? ⟨b,off+i * k+j,none⟩=some u
 | [],off,_,_=>⟨[],rfl,fun i x h=>by simp at h⟩
 | r::rs,off,hQ,h=>by
  simp only [Zaq] at h;obtain ⟨vs,h1,h2⟩:=h.1.vals;obtain ⟨l,e,hl⟩:=Zox hk rs (off+r.length) (fun x hx=>hQ x (Tal _ hx)) h.2;have hr:=hQ r Tas;refine ⟨⟨(r,vs),hr,h1⟩::l,by simp [e],fun i x hi j u hj=>?_⟩
  cases i with
  | zero =>
   simp only [Tat,Taq] at hi;subst hi;have:=h2 j u hj
   rwa [Nat.zero_mul,Nat.add_zero]
  | succ i =>
   have:=hl i x (by simpa using hi) j u hj;rw [hk r hr] at this
   rwa [show off+(i+1) * k+j=off+k+i * k+j by rw [Nat.succ_mul];omega]
theorem Zld {w W:World} {S S2:Nat->Prop} {b k:Nat} {Q:List C->Prop} (hk:∀ r,Q r->r.length=k) (hv:∀ x:SRow w S Q,Zad W S2 x.1.1 x.1.2):∀ (l:List (SRow w S Q)) (off:Nat),(∀ (i:Nat) x,l[i]?=some x->∀ j u,x.1.2[j]?=some u->W.cell? ⟨b,off+i * k+j,none⟩=some u)->Zaq W S2 b off (l.map (fun x=>x.1.1))
 | [],off,_=>by simp [Zaq]
 | x::l,off,h=>by
  simp only [Tbt,Zaq];refine ⟨Zaf.of_vals _ _ off (hv x) fun j u hj=>?_,?_⟩
  ·have:=h 0 x rfl j u hj
   rwa [Nat.zero_mul,Nat.add_zero] at this
  ·rw [hk _ x.2.1];refine Zld hk hv l (off+k) fun i y hi j u hj=>?_;have:=h (i+1) y (by simpa using hi) j u hj
   rwa [show off+(i+1) * k+j=off+k+i * k+j by rw [Nat.succ_mul];omega] at this
theorem Zoy {α:Type} [Inhabited α] {enc:α->List Value} {k:Nat} {W:World} {b:Nat} {d:Array α} (hk:∀ x,(enc x).length=k) (h:HoldsK enc k W b 0 d) {i:Nat} {x:α} (hi:d.toList[i]?=some x) {j:Nat} {u:Value} (hj:(enc x)[j]?=some u):W.cell? ⟨b,0+i * k+j,none⟩=some u:=by
 have hil:i < d.size:=by have:=(Tad.1 hi).1;simpa using this
 have hjl:j < k:=by have:=(Tad.1 hj).1;rwa [hk] at this
 have ht:i * k+j < d.size * k:=by
  have:=Nat.mul_le_mul_right k (show i+1<=d.size from hil);rw [Nat.succ_mul] at this;omega
 have h1:=(h (i * k+j) (by rw [size_flatK];exact ht)).1;rw [get_flatK _ _ _ _ ht,show (i * k+j) / k=i by rw [Nat.add_comm,Nat.add_mul_div_right _ _ om,Nat.div_eq_of_lt hjl,Nat.zero_add],show (i * k+j) % k=j by rw [Nat.add_comm,Nat.add_mul_mod_self_right,Nat.mod_eq_of_lt hjl]] at h1;have e1:d[i]! = x:=by
  rw [getElem!_pos d i hil];have:=(Tad.1 hi).2;simpa using this
 have e2:(enc x)[j]! = u:=by
  rw [getElem!_pos (enc x) j (by rw [hk];exact hjl)];exact (Tad.1 hj).2
 rw [e1,e2,<- Nat.add_assoc] at h1;exact h1
theorem ZvX {α:Type} [Inhabited α] {enc:α->List Value} {k:Nat} {w:World} {b:Nat} {l:List α} (hk:∀ x,(enc x).length=k) (hf:∀ o,w.frozen? ⟨b,o,none⟩=false) (h:∀ (i:Nat) x,l[i]?=some x->∀ j u,(enc x)[j]?=some u->w.cell? ⟨b,0+i * k+j,none⟩=some u):HoldsK enc k w b 0 l.toArray:=by
 intro t ht;refine ⟨?_,hf _⟩;rw [size_flatK] at ht;have ht':t < l.length * k:=by simpa using ht
 have k0 : 0 < k := by rcases Nat.eq_zero_or_pos k with e | e; · subst e; simp at ht'
                       ·exact e
 have hi:t / k < l.length:=Nat.div_lt_of_lt_mul (by rw [Nat.mul_comm];exact ht');have hj:t % k < k:=Nat.mod_lt _ k0;rw [get_flatK _ _ _ _ ht];have e1:l.toArray[t / k]! = l[t / k]:=by rw [getElem!_pos _ _ (by simpa using hi)];rfl
 rw [e1,getElem!_pos _ _ (by rw [hk];exact hj)];have:=h (t / k) l[t / k] (Taa hi) (t % k) _ (Taa (by rw [hk];exact hj))
 rwa [show 0+t / k * k+t % k=0+t by have:=Nat.div_add_mod' t k;omega] at this
theorem Zad.one {w:World} {S:Nat->Prop}:∀ {cs:List C} {us:List Value},cs.all Zay=true->Zad w S cs us->∀ v∈us,v.oneCell'=true
 | [],[],_,_,v,h=>by simp at h
 | c::cs,u::us,hc,h,v,hv=>by
  simp only [List.all_cons,Tar] at hc;simp only [Zad] at h;rcases Tbf.1 hv with rfl | hv
  ·exact Zfn hc.1 h.1
  ·exact Zad.one hc.2 h.2 v hv
 | [],_::_,_,h,_,_=>by simp [Zad] at h
 | _::_,[],_,h,_,_=>by simp [Zad] at h
theorem Zxw {α:Type} [Inhabited α] {enc:α->List Value} {k:Nat} {w:World} {b n:Nat} {d:Array α} {os:Array Obj} {cur:Array Value} {ty:Nat} (hh:w.heap[b]?=some (.cells cur ty (0,0))):(sortWorldK enc k w b 0 n d os).heap[b]?=some (.cells (putCells id 0 (flatK enc k d) cur) ty (0,0)):=by
 have hb:b < w.heap.size:=(Tbk.1 hh).1;show ((w.heap.modify b (onCells (putCells id 0 (flatK enc k d))))++os)[b]?=_;rw [Array.getElem?_append_left (by simpa using hb),Array.getElem?_modify,if_pos rfl,hh];rfl
theorem Zj6 {α:Type} [Inhabited α] {enc:α->List Value} {k:Nat} {w:World} {b n j:Nat} {d:Array α} {os:Array Obj} (hj:j < w.heap.size) (hne:j≠b):(sortWorldK enc k w b 0 n d os).heap[j]?=w.heap[j]?:=by
 show ((w.heap.modify b (onCells (putCells id 0 (flatK enc k d))))++os)[j]?=_;rw [Array.getElem?_append_left (by simpa using hj),Array.getElem?_modify,if_neg (fun e=>hne e.symm)]
theorem ZfG {α:Type} [Inhabited α] {enc:α->List Value} {k:Nat} {w:World} {b n:Nat} {d:Array α} {os:Array Obj}:w.heap.size<=(sortWorldK enc k w b 0 n d os).heap.size:=by
 show _<=((w.heap.modify b (onCells (putCells id 0 (flatK enc k d))))++os).size;simp
theorem ZvY {P:Program} (hP:e1.P=P) {ρ:Go.Shelf.Ren} (L:SlLaysF0.n6 P ρ) {k ty:Nat} (aE:∀ w,(isAgg (ρ.t 24)).run P w=.ok true w) (zE:∀ w,(Go.sizeOf (ρ.t 24)).run P w=.ok k w) (hbody:Zcf P (ρ.f 6)=true) {g:FuncId} (eg:∀ args w,(callFunc g args).run P w=.ok (.enter g args) w)
  {rows rows':List (List C)} {cf:List C->List C->Int} (hlen:rows.length < 4611686018427387904) (hg:∀ a∈rows,∀ b∈rows,Con e1 g [.agg a,.agg b] [.one (.lit (.int .i64 (cf a b)))])
  (h1:∀ a∈rows,¬ cf a a < 0) (h2:∀ a∈rows,∀ b∈rows,∀ c∈rows,cf a b < 0->cf b c < 0->cf a c < 0) (h3:∀ a∈rows,∀ b∈rows,∀ c∈rows,¬ cf a b < 0->¬ cf b c < 0->¬ cf a c < 0)
  (hu:∀ l:List (List C),l.Perm rows->(∀ (i j:Nat) a b,i < j->l[i]?=some a->l[j]?=some b->¬ cf b a < 0)->l=rows'):ConI e1 (ρ.f 6) ty k rows [.one (.fn g [])] rows' []:=by
 refine ⟨by rw [hP];exact hbody,fun w S v0 vs hS hE hvE hG hbuf hargs=>?_⟩;rw [hP]
 match vs,hargs with
 | [u],hargs =>
  obtain ⟨⟨us,rfl,hus⟩,_⟩:(∃ us:List Value,u=.func (.func g) #[] us.toArray∧Zad w S [] us)∧True:=by simpa [Zar,DRel,Rep] using hargs
  have hus0:us=[]:=by cases us with
   | nil=>rfl
   | cons _ _=>simp [Zad] at hus
  subst hus0;obtain ⟨h0,hrl,hcase⟩:=hbuf;by_cases hne:rows=[]
  ·subst hne;have hr':rows'=[]:=(hu [] (List.Perm.refl _) (fun i j a b _ h=>by simp at h)).symm;subst hr';have hform:∃ p cap,v0=.slice p 0 cap:=by
    rcases hcase with ⟨_,a,rfl⟩ | ⟨b,cap,cur,rfl,_⟩
    ·exact ⟨a,0,rfl⟩
    ·exact ⟨_,cap,rfl⟩
   obtain ⟨p,cap,hv0⟩:=hform;rw [hv0];refine (AnyF.slices_SortFunc_none (P:=P) L p cap _ w).mono ?_;rintro e w' ⟨rfl,rfl⟩;rw [<- hv0];have hs:(fun b=>S b∨(w'.heap.size<=b∧b < w'.heap.size))=S:=by
    funext b;exact propext ⟨fun h=>h.elim id (fun h=>absurd h.2 om),.inl⟩
   refine ⟨_,rfl,Kept.refl ..,hG,?_,[],rfl,trivial⟩;rw [hs];exact ⟨h0,hrl,hcase⟩
  ·rcases hcase with ⟨e,_⟩ | ⟨b,cap,cur,rfl,hc,hbz,hSb,hh,hle,hmx,hcs,hrows⟩
   ·exact absurd e hne
   have hkr:∀ r,r∈rows->r.length=k:=fun r hr=>(hrl r hr).1;obtain ⟨l,hl,hcell⟩:=Zox (k:=k) (Q:=fun r=>r∈rows) hkr rows 0 (fun r h=>h) hrows;have hll:l.length=rows.length:=by have:=congrArg List.length hl;rwa [Tax] at this
   obtain ⟨x0,hx0⟩:∃ x,x∈l:=List.exists_mem_of_ne_nil _ (fun e=>hne (Tao (by rw [<- hll,e];rfl)))
   letI:Inhabited (SRow w S (fun r=>r∈rows)):=⟨x0⟩
   have hk:∀ x:SRow w S (fun r=>r∈rows),x.1.2.length=k:=fun x=>by rw [x.2.2.len];exact hkr _ x.2.1
   have h1c:∀ x:SRow w S (fun r=>r∈rows),∀ v∈x.1.2,v.oneCell'=true:=fun x=>Zad.one (hrl _ x.2.1).2 x.2.2;have hH:HoldsK (fun x:SRow w S (fun r=>r∈rows)=>x.1.2) k w b 0 l.toArray:=ZvX hk (fun o=>frozen_of_row w b o cur ty hh) hcell
   have keepV:∀ (m:Nat) (os:Array Obj) (dk:Array (SRow w S (fun r=>r∈rows))) (S2:Nat->Prop),(∀ b,S b->S2 b)->∀ x:SRow w S (fun r=>r∈rows),Zad (sortWorldK (fun x:SRow w S (fun r=>r∈rows)=>x.1.2) k w b 0 m dk os) S2 x.1.1 x.1.2:=fun m os dk S2 hS2 x =>
    Zad.keep2 ZfG (fun b' o hb'=>Zbk (Zj6 (hS b' hb').1 (fun e:b'=b=>hSb (by rw [<- e];exact hb'))) o) hS2 x.2.2
   have hvb:vblk (.slice (some ⟨b,0,none⟩) rows.length cap)=some b:=by simp only [vblk];rw [if_neg om]
   have keepG:∀ (m:Nat) (os:Array Obj) (dk:Array (SRow w S (fun r=>r∈rows))),e1.G (sortWorldK (fun x:SRow w S (fun r=>r∈rows)=>x.1.2) k w b 0 m dk os):=fun m os dk =>
    Znl.keep w _ ZfG (fun b' hb'=>Zj6 (hE b' hb') (fun e=>hvE b hvb (e ▸ hb'))) hG
   have hcmp:CmpLays P g #[] (fun x:SRow w S (fun r=>r∈rows)=>x.1.2) k (fun x y=>cf x.1.1 y.1.1) b 0 l.toArray.size w:=by
    intro m os dk hdk x y
    have hc:=(hg _ x.2.1 _ y.2.1).2 (sortWorldK (fun x:SRow w S (fun r=>r∈rows)=>x.1.2) k w b 0 m dk os) S [.agg x.1.2.toArray,.agg y.1.2.toArray] (fun b' hb'=>⟨Tbc (hS b' hb').1 ZfG,(hS b' hb').2⟩) (fun b' h=>Tbc (hE b' h) ZfG) (keepG m os dk)
     ⟨⟨_,rfl,keepV m os dk S (fun _ h=>h) x⟩,⟨_,rfl,keepV m os dk S (fun _ h=>h) y⟩,trivial⟩
    rw [hP] at hc;refine hc.mono ?_;rintro e w' ⟨v,rfl,hK,hG',hv⟩;have hv:v=.int .i64 (cf x.1.1 y.1.1):=by simpa [retA,ARel,DRel,Rep] using hv
    exact ⟨by rw [hv],ZvW (hK.all1 (keepG m os dk) hG')⟩
   have hO:SWO (ltOf (fun x y:SRow w S (fun r=>r∈rows)=>cf x.1.1 y.1.1)):=by
    refine ⟨fun x=>?_,fun x y z=>?_,fun x y z=>?_⟩ <;> simp only [ltOf,decide_eq_false_iff_not,decide_eq_true_eq]
    ·exact h1 _ x.2.1
    ·exact h2 _ x.2.1 _ y.2.1 _ z.2.1
    ·exact h3 _ x.2.1 _ y.2.1 _ z.2.1
   have hsort:=AnyQ.slices_SortFunc L k aE zE (fun x:SRow w S (fun r=>r∈rows)=>x.1.2) hk h1c (fun x y=>cf x.1.1 y.1.1) hO g #[] b 0 cap l.toArray w eg hcmp hH hbz (by simp only [List.size_toArray];omega);have hlz:l.toArray.size=rows.length:=by simpa using hll
   rw [hlz] at hsort;refine hsort.mono ?_;rintro e w' ⟨rfl,d',n,os,hp,hs,rfl⟩;obtain ⟨hp1,_,hp3⟩:=hp;rw [hlz] at hp1;have hex:∀ a:Array (SRow w S (fun r=>r∈rows)),a.size=rows.length->a.extract 0 rows.length=a:=fun a ha=>by rw [<- ha];simp
   rw [hex d' hp1,hex _ hlz] at hp3;have hperm:(d'.toList.map (fun x=>x.1.1)).Perm rows:=by
    have:=hp3.map (fun x:SRow w S (fun r=>r∈rows)=>x.1.1)
    rwa [show l.toArray.toList=l from rfl,hl] at this
   have hrows':d'.toList.map (fun x=>x.1.1)=rows':=hu _ hperm fun i j a c hij ha hc=>by
    simp only [Taz,Tav] at ha hc;obtain ⟨x,hx,rfl⟩:=ha;obtain ⟨y,hy,rfl⟩:=hc;have hjl:j < rows.length:=by have:=(Tad.1 hy).1;simpa [hp1] using this
    have:=hs i j (Taj _) hij hjl;have ex:d'[i]! = x:=by
     rw [getElem!_pos d' i om];have:=(Tad.1 hx).2;simpa using this
    have ey:d'[j]! = y:=by
     rw [getElem!_pos d' j om];have:=(Tad.1 hy).2;simpa using this
    rw [ex,ey] at this;simpa [ltOf] using this
   have hlr:rows'.length=rows.length:=by rw [<- hrows',Tax,Array.length_toList,hp1]
   have hW:HoldsK (fun x:SRow w S (fun r=>r∈rows)=>x.1.2) k (sortWorldK (fun x:SRow w S (fun r=>r∈rows)=>x.1.2) k w b 0 n d' os) b 0 d':=SWK.holds (d0:=l.toArray) ⟨n,os,rfl⟩ hbz hH (by rw [hp1,hlz]);refine ⟨_,rfl,⟨rfl,rfl,rfl,fun _=>Nat.le_add_right _ _,ZfG,fun j hj hn=>Zj6 hj (fun e=>hn (.inr (by rw [hvb,e])))⟩,keepG n os d',⟨h0,fun r hr=>?_,.inr ⟨b,cap,_,by rw [hlr],hc,Tbc hbz ZfG,fun hn=>?_,Zxw hh,om,hmx,by simp [putCells,hcs],?_⟩⟩,[],rfl,trivial⟩
   ·rw [<- hrows'] at hr;exact hrl r (hperm.mem_iff.1 hr)
   ·rcases hn with hn | hn
    ·exact hSb hn
    ·omega
   ·rw [<- hrows'];exact Zld (Q:=fun r=>r∈rows) hkr (keepV n os d' _ (fun b hb=>.inl hb)) d'.toList 0 fun i x hi j u hj=>Zoy hk hW hi hj
end Go.Proofs.YtmdkimnlbaahbaaGreat
namespace Go.Proofs.YtmdkimnlbaahbaaGreat
open Go.Shelf
def ZvZ:Ren:=⟨fun | 6=>104 | 15=>123 | 14=>122 | 28=>143 | 29=>144 | 20=>135 | 21=>136 | 22=>137 | 23=>138 | 24=>139 | 25=>140 | 26=>141 | 27=>142 | 46=>148 | 47=>149 | 48=>150 | 49=>151 | 50=>152 | 57=>155 | n=>n,fun | 22=>32 | 24=>34 | 25=>88 | 3=>3 | 39=>140 | 0=>0 | 53=>162 | 55=>164 | 4=>4 | 46=>155 | 45=>154 | 50=>159 | 5=>5 | 9=>9 | 66=>166 | 70=>170 | 76=>173 | 77=>174 | n=>n,fun | n=>n⟩
theorem ZAS:Go.Proofs.SlLaysF0.n6 Tryz.prog ZvZ:={
 mixed:=by kernel_rfl,
 f6:=⟨Tryz.f104.name,by decide,Tryz.func104.trans (congrArg some (by kernel_rfl))⟩,
 f14:=⟨Tryz.f122.name,by decide,Tryz.func122.trans (congrArg some (by kernel_rfl))⟩,
 f15:=Tryz.func123.trans (congrArg some (by kernel_rfl)),
 f20:=⟨Tryz.f135.name,by decide,Tryz.func135.trans (congrArg some (by kernel_rfl))⟩,
 f21:=⟨Tryz.f136.name,by decide,Tryz.func136.trans (congrArg some (by kernel_rfl))⟩,
 f22:=⟨Tryz.f137.name,by decide,Tryz.func137.trans (congrArg some (by kernel_rfl))⟩,
 f23:=⟨Tryz.f138.name,by decide,Tryz.func138.trans (congrArg some (by kernel_rfl))⟩,
 f24:=⟨Tryz.f139.name,by decide,Tryz.func139.trans (congrArg some (by kernel_rfl))⟩,
 f25:=⟨Tryz.f140.name,by decide,Tryz.func140.trans (congrArg some (by kernel_rfl))⟩,
 f26:=⟨Tryz.f141.name,by decide,Tryz.func141.trans (congrArg some (by kernel_rfl))⟩,
 f27:=⟨Tryz.f142.name,by decide,Tryz.func142.trans (congrArg some (by kernel_rfl))⟩,
 f28:=Tryz.func143.trans (congrArg some (by kernel_rfl)),
 f29:=Tryz.func144.trans (congrArg some (by kernel_rfl)),
 f46:=⟨Tryz.f148.name,by decide,Tryz.func148.trans (congrArg some (by kernel_rfl))⟩,
 f47:=Tryz.func149.trans (congrArg some (by kernel_rfl)),
 f48:=Tryz.func150.trans (congrArg some (by kernel_rfl)),
 f49:=⟨Tryz.f151.name,by decide,Tryz.func151.trans (congrArg some (by kernel_rfl))⟩,
 f50:=⟨Tryz.f152.name,by decide,Tryz.func152.trans (congrArg some (by kernel_rfl))⟩,
 f57:=⟨Tryz.f155.name,by decide,Tryz.func155.trans (congrArg some (by kernel_rfl))⟩,
 t0:=Tryz.underlying0,
 a0:=Tryz.isAgg0,
 z0:=Tryz.sizeOf0,
 v0:=Tryz.zeroValue0,
 t3:=Tryz.underlying3,
 a3:=Tryz.isAgg3,
 z3:=Tryz.sizeOf3,
 v3:=Tryz.zeroValue3,
 t4:=Tryz.underlying4,
 a4:=Tryz.isAgg4,
 z4:=Tryz.sizeOf4,
 v4:=Tryz.zeroValue4,
 t5:=Tryz.underlying5,
 a5:=Tryz.isAgg5,
 z5:=Tryz.sizeOf5,
 v5:=Tryz.zeroValue5,
 t9:=Tryz.underlying9,
 a9:=Tryz.isAgg9,
 z9:=Tryz.sizeOf9,
 v9:=Tryz.zeroValue9,
 t22:=Tryz.underlying32,
 a22:=Tryz.isAgg32,
 z22:=Tryz.sizeOf32,
 v22:=Tryz.zeroValue32,
 t25:=Tryz.underlying88,
 a25:=Tryz.isAgg88,
 z25:=Tryz.sizeOf88,
 v25:=Tryz.zeroValue88,
 t39:=Tryz.underlying140,
 a39:=Tryz.isAgg140,
 z39:=Tryz.sizeOf140,
 v39:=Tryz.zeroValue140,
 t45:=Tryz.underlying154,
 a45:=Tryz.isAgg154,
 z45:=Tryz.sizeOf154,
 v45:=Tryz.zeroValue154,
 t46:=Tryz.underlying155,
 a46:=Tryz.isAgg155,
 z46:=Tryz.sizeOf155,
 v46:=Tryz.zeroValue155,
 t50:=Tryz.underlying159,
 a50:=Tryz.isAgg159,
 z50:=Tryz.sizeOf159,
 v50:=Tryz.zeroValue159,
 t53:=Tryz.underlying162,
 a53:=Tryz.isAgg162,
 z53:=Tryz.sizeOf162,
 v53:=Tryz.zeroValue162,
 t55:=Tryz.underlying164,
 a55:=Tryz.isAgg164,
 z55:=Tryz.sizeOf164,
 v55:=Tryz.zeroValue164,
 t66:=Tryz.underlying166,
 a66:=Tryz.isAgg166,
 z66:=Tryz.sizeOf166,
 v66:=Tryz.zeroValue166,
 t70:=Tryz.underlying170,
 a70:=Tryz.isAgg170,
 z70:=Tryz.sizeOf170,
 v70:=Tryz.zeroValue170,
 t76:=Tryz.underlying173,
 a76:=Tryz.isAgg173,
 z76:=Tryz.sizeOf173,
 v76:=Tryz.zeroValue173,
 t77:=Tryz.underlying174,
 a77:=Tryz.isAgg174,
 z77:=Tryz.sizeOf174,
 v77:=Tryz.zeroValue174 }
end Go.Proofs.YtmdkimnlbaahbaaGreat
namespace Go.Proofs.YtmdkimnlbaahbaaGreat
open Go.RowKit
theorem ZzL {f:FuncId} {ty sz:Nat} {rows rows':List (List C)} {args r:List D} (h:ConI e1 f ty sz rows args rows' r):ConI e0 f ty sz rows args rows' r :=
 ⟨h.1,fun w S v0 vs h1 h2 h3 h4 h5 h6=>(h.2 w S v0 vs h1 h2 h3 h4 h5 h6).mono fun en w' ⟨v,k1,k2,k3⟩=>⟨v,k1,⟨k2.os,k2.tape,k2.output,fun d=>d.elim,k2.size,k2.block⟩,k3⟩⟩
theorem Zsf (ts:List Tm) (hl:ts.length<=4000000):ConI e0 104 34 4 (Zaa ts) [.one (.fn 105 [])] (Zaa (ZbE ts)) []:=by
 have hrow:∀ a∈Zaa ts,a=Zab (unT a):=fun a ha=>by
  rw [Zbu] at ha;obtain ⟨t,_,rfl⟩:=Tbh.1 ha;rw [Zrh]
 exact ZzL (ZvY (P:=Tryz.prog) rfl ZAS (k:=4) (ty:=34) Tryz.isAgg34 Tryz.sizeOf34 (by kernel_rfl) (g:=105) (enters_of Tryz.func105 (by kernel_rfl) rfl) (rows:=Zaa ts) (rows':=Zaa (ZbE ts)) (cf:=fun a b=>Zah (unT a) (unT b)) (by rw [Zai];omega)
  (fun a ha b hb=>by
   have h:=ZjW (unT a) (unT b)
   rwa [<- hrow a ha,<- hrow b hb] at h)
  (fun a _=>by rw [Zb9];omega) (fun a _ b _ c _ h1 h2=>ZdY h1 h2) (fun a _ b _ c _ h1 h2=>by
   rw [Zcq (unT b) (unT a)] at h1;rw [Zcq (unT c) (unT b)] at h2;rw [Zcq (unT c) (unT a)];have:=Zdj (a:=unT c) (b:=unT b) (c:=unT a) om om;omega)
  (fun l hp hs=>by
   have hmem:∀ a∈l,a=Zab (unT a):=fun a ha=>hrow a (hp.mem_iff.1 ha);have hp2:(l.map unT).Perm ts:=by have:=hp.map unT;rwa [ZzD] at this
   have hup:Up (l.map unT):=by
    refine List.pairwise_iff_getElem.2 fun i j hi hj hij=>?_;simp only [List.getElem_map];simp only [Tax] at hi hj;have:=hs i j l[i] l[j] hij (Taa hi) (Taa hj);rw [Zcq (unT l[j]) (unT l[i])];omega
   have e:=Zi6 (ZdL ts) hup ((ZbT ts).trans hp2.symm);rw [e,Zbu,List.map_map]
   conv=>lhs;rw [<- List.map_id l]
   exact List.map_congr_left fun a ha=>hmem a ha))
def RCut (a:Option Addr) (cap ty sz:Nat) (rows:List (List C)) (r:List D) (pm:List Bk):Prop:=r=[.one (.lit (.slice a rows.length cap))]∧pm=[.buf (some (a,cap)) ty sz rows]
theorem Zv0 {m:List (Nat × Bk)} {a:Option Addr} {n cap:Nat}:lenA m (some true) [nrm m (.d (.one (.lit (.slice a n cap))))]=some (.d (.one (.lit (.int .i64 (n:Int))))):=by
 show lenA m (some true) [ZiO m a n cap (bufK a n cap m)]=_
 cases bufK a n cap m with
 | none=>rfl
 | some k =>
  show lenA m (some true) [nrmB a n cap k (gm m k)]=_
  cases hg:gm m k with
  | none=>rfl
  | some bk =>
   cases bk with
   | var o cs=>rfl
   | set E G=>rfl
   | buf o ty sz rows =>
    cases o with
    | none=>rfl
    | some q =>
     obtain ⟨a',cap'⟩:=q;simp only [nrmB];split
     ·rename_i h;show lenS (bufA (gm m k))=_;rw [hg,h.2.1];rfl
     ·rfl
theorem Zv1 {m:List (Nat × Bk)} {a:Option Addr} {l h cap sz:Nat}:lenA m (some true) [nrm m (.d (.one (.lit (sliced a l h cap sz))))]=some (.d (.one (.lit (.int .i64 ((h - l:Nat):Int))))):=Zv0
theorem Zsg (l:List Tm) (k:Nat) (t:Tm):(Zaa l).set k (Zab t)=Zaa (l.set k t):=by rw [Zbu,Zbu,List.map_set]
theorem Zv2 {α:Type} {l:List α} {i:Nat} {x:α} (h:i < l.length):(l.set i x).take (i+1)=l.take i++[x]:=by
 rw [List.take_add_one,List.take_set_of_le (Tai _)];simp [h]
theorem Zrn {l l':List Tm} {m:Nat} (h:l.drop m=l'.drop m) (i:Nat):l[m+i]?=l'[m+i]?:=by
 rw [<- Tba,<- Tba,h]
theorem Zxx {ts:List Tm} (h:ts.length < 2):ddT none ts=ts:=by
 match ts,h with
 | [],_=>rfl
 | [x],_=>rfl
theorem Zoz (ts:List Tm) (hl:ts.length<=4000000) (a:Option Addr) (cap:Nat):ConP e0 106 [.one (.lit (.slice a ts.length cap)),.one (.fn 69 [])] [.buf (some (a,cap)) 34 4 (Zaa ts)] (RCut a cap 34 4 (Zaa (ddT none ts))):=by
 refine gIP (ts:=[.slot 4]) [1000] 562984581629171 Tryz.func106 ?_;by_cases h2:ts.length < 2
 ·have q1:=lT ts.length 2;refine fG (ai @q1 @tmz) ?_;rw [Zxx h2];exact (have F:=Zai;gTP (R:=RCut a cap 34 4 (Zaa ts)) [1000] ⟨by rw [Zai],rfl⟩)
 have q1:=lF ts.length 2;refine fG (ai @q1 @tmz) ?_;clear q1;obtain ⟨t0,ht0⟩:∃ t,ts[0]?=some t:=⟨_,Taa om⟩;have F:=@tmz;refine gL (ι:=Nat) [4,5,6,7,15,28,35,49] [] (fun x=>[(5,.d (.one (.lit (.int .i64 (x:Int)))))]) (fun x=>[]) (fun x=>1<=x∧x<=ts.length∧ddT none (ts.take x)=ts.take x) (fun x=>ts.length - x) (1) (⟨Tai _,om,by rw [ZzC ht0];cases ts with | nil=>simp at ht0 | cons y ys=>simp at ht0;simp [ht0]⟩) (fun x hx=>?_);clear F
 obtain ⟨hx1,hxn,hxd⟩:=hx;by_cases hlt:x < ts.length;rotate_left
 ·obtain rfl:x=ts.length:=by omega
  have q1:=lF ts.length ts.length;rw [Tap] at hxd;refine fG (ai @q1 @tmz) ?_;rw [hxd];exact (have F:=Zai;gTP (R:=RCut a cap 34 4 (Zaa ts)) [1000] ⟨by rw [Zai],rfl⟩)
 obtain ⟨u,hu⟩:∃ t,ts[x]?=some t:=⟨_,Taa hlt⟩;obtain ⟨z,rfl⟩:∃ z,x=z+1:=⟨x - 1,om⟩;obtain ⟨v,hv⟩:∃ t,ts[z]?=some t:=⟨_,Taa om⟩;have q1:=lT (z+1:Nat) ts.length;have w1:IntKind.i64.wrap (((z+1:Nat):Int) - 1)=(z:Int):=Za2 om om om;have w2:IntKind.i64.wrap (((z+1:Nat):Int)+1)=((z+1+1:Nat):Int):=Za2 om om om;have hz1:z+1 < ts.length:=hlt;have hz0:z < ts.length:=om;have hst:=Zoe hu hv;generalize hxx:z+1=x at *
 rw [show z+2=x+1 by omega] at hst;refine fB (ai @q1 @tmz) ?_;refine fC (aj8 @q1 @tmz @hu @hv @w1 @hz1 @hz0 @Zai) (ZfX u v) ?_;refine fR (ai @q1 @tmz) ?_;by_cases h0:Zah u v=0;rotate_left
 ·have q3:decide (Zah u v=0)=false:=decide_eq_false h0;rw [if_neg h0,hxd] at hst;have F:=ai @q3 @w2;refine gG ?_;exact ⟨x+1,⟨om,hlt,by rw [hst];simp [List.take_add_one,hu]⟩,gw,gw,om⟩
 have q3:decide (Zah u v=0)=true:=decide_eq_true h0;rw [if_pos h0,hxd] at hst;refine fN 7 (ai @q3 @tmz) ?_;refine gB ?_;have F:=ai @q3 @tmz;refine gP 2 ?_;clear F;have F:=Zai;refine gSub 1000 x ts.length ⟨om,by rw [Zai];exact Tai _⟩ ?_;clear F;refine fR @tmz ?_;refine fG @tmz ?_;have F:=@tmz;refine gL (ι:=Nat × Nat × List Tm) [5,7,35,49] [1000] (fun y=>[(7,.d (.one (.lit (.int .i64 (y.1:Int))))),(5,.d (.one (.lit (.int .i64 (y.2.1:Int)))))]) (fun y=>[(1000,.buf (some (a,cap)) 34 4 (Zaa y.2.2))]) (fun y=>1<=y.1∧x+y.1<=ts.length∧y.2.1+1<=x+y.1∧y.2.2.length=ts.length∧y.2.2.take y.2.1=ddT none (ts.take (x+y.1))∧y.2.2.drop (x+y.1 - 1)=ts.drop (x+y.1 - 1)) (fun y=>ts.length - y.1) ((1,x,ts)) (⟨Tai _,hlt,Tai _,rfl,hst.symm,rfl⟩) (fun y hy=>?_);clear F
 obtain ⟨j,k,us⟩:=y;obtain ⟨h1,h2',h3,h4,h5,h6⟩:=hy;simp only at h1 h2' h3 h4 h5 h6;dsimp only;have hn4:ts.length=us.length:=h4.symm;by_cases hj:j < ts.length - x
 ·obtain ⟨i,rfl⟩:∃ i,j=i+1:=⟨j - 1,om⟩;obtain ⟨u1,hu1⟩:∃ t,ts[x+i+1]?=some t:=⟨_,Taa om⟩;obtain ⟨v1,hv1⟩:∃ t,ts[x+i]?=some t:=⟨_,Taa om⟩;have e1:us[x+(i+1)]?=some u1:=by
   rw [<- hu1,show x+(i+1) - 1=x+i by omega] at *;exact Zrn h6 1
  have e2:us[x+i]?=some v1:=by
   rw [<- hv1,show x+(i+1) - 1=x+i by omega] at *;exact Zrn h6 0
  have q4:=lT (i+1:Nat) (ts.length - x:Nat);have w3:IntKind.i64.wrap (((i+1:Nat):Int) - 1)=(i:Int):=Za2 om om om;have w4:IntKind.i64.wrap (((i+1:Nat):Int)+1)=((i+1+1:Nat):Int):=Za2 om om om;have hst2:=Zoe hu1 hv1;rw [show x+i+2=x+(i+1+1) by omega,show x+i+1=x+(i+1) by omega,<- h5] at hst2;refine fN 11 (aj3 @q4 @Zv1 @tmz) ?_;refine gB ?_;have F:=ai @q4 @tmz;refine gP 3 ?_;clear F;have F:=Zai;refine ZvA (l:=x) (h:=ts.length) (rows:=Zaa us) 1000 (i+1) ⟨om,by rw [Zai];omega⟩ ?_
  clear F;have F:=aj3 @tmz @e1 @w3;refine gP 4 ?_;clear F;have F:=Zai;refine ZvA (l:=x) (h:=ts.length) (rows:=Zaa us) 1000 i ⟨om,by rw [Zai];omega⟩ ?_;clear F;refine fC (ai @tmz @e2) (ZfX u1 v1) ?_;refine fR @tmz ?_;by_cases h7:Zah u1 v1=0
  ·have q5:decide (Zah u1 v1=0)=true:=decide_eq_true h7;rw [if_pos h7] at hst2;have F:=ai @q5 @w4;refine gG ?_;exact ⟨(i+1+1,k,us),⟨by dsimp only;omega,by dsimp only;omega,by dsimp only;omega,h4,hst2.symm,by rw [show x+(i+1+1) - 1=x+(i+1) - 1+1 by omega,<- List.drop_drop,<- List.drop_drop,h6]⟩,gw,gw,om⟩
  ·have q5:decide (Zah u1 v1=0)=false:=decide_eq_false h7;rw [if_neg h7] at hst2;obtain ⟨ok,hok⟩:∃ t,us[k]?=some t:=⟨_,Taa om⟩;have w5:IntKind.i64.wrap ((k:Int)+1)=((k+1:Nat):Int):=Za2 om om om;have hkl:k < us.length:=om;refine fN 12 (ai @q5 @tmz) ?_;refine gB ?_;have F:=ai @q5 @tmz;refine gP 4 ?_;clear F;have F:=Zai;refine ZAN (l:=x) (h:=ts.length) (rows:=Zaa us) 1000 (i+1) ⟨om,by rw [Zai];omega⟩ ?_
   clear F;refine fR (aj6 @tmz @e1 @hok @hn4 @hkl @Zsg) ?_;have F:=aj3 @w4 @w5 @hn4;refine gG ?_;exact ⟨(i+1+1,k+1,us.set k u1),⟨by dsimp only;omega,by dsimp only;omega,by dsimp only;omega,by rw [Tay];exact h4,by rw [hst2,Zv2 hkl],by rw [List.drop_set_of_lt om,show x+(i+1+1) - 1=x+(i+1) - 1+1 by omega,<- List.drop_drop,<- List.drop_drop,h6]⟩,gw,gw,om⟩
 ·have q4:=lF j (ts.length - x:Nat);have hjn:x+j=ts.length:=om;rw [hjn,Tap] at h5;have hkl:k < us.length:=om;refine fN 14 (aj3 @q4 @Zv1 @tmz) ?_;refine gB ?_;have F:=ai @q4 @tmz;refine gP 2 ?_;clear F;have F:=ai Zai hn4;refine gSub 1000 k us.length ⟨om,by rw [Zai];exact Tai _⟩ ?_;rw [show us.length=(Zaa us).length by rw [Zai]];refine ZAl 1000 (by rw [Zai];exact hkl) ?_;clear F;have hRl:((Zaa us).take k++List.replicate ((Zaa us).length - k) [C.lit (Value.int IntKind.i64 0),C.lit (Value.string ByteArray.empty),C.lit (Value.int IntKind.i64 0),C.sl []]).length=us.length:=by simp [Zai];omega
  have hRt:((Zaa us).take k++List.replicate ((Zaa us).length - k) [C.lit (Value.int IntKind.i64 0),C.lit (Value.string ByteArray.empty),C.lit (Value.int IntKind.i64 0),C.sl []]).take k=Zaa (ddT none ts):=by
   rw [List.take_append_of_le_length (by simp [Zai];omega),List.take_take,Nat.min_self,Zdy,h5]
  generalize (Zaa us).take k++List.replicate ((Zaa us).length - k) [C.lit (Value.int IntKind.i64 0),C.lit (Value.string ByteArray.empty),C.lit (Value.int IntKind.i64 0),C.sl []]=R at hRl hRt ⊢;refine fR @tmz ?_;refine fN 15 (ai @q4 @tmz) ?_;refine gB ?_;have F:=ai @q4 @tmz;refine gP 2 ?_;clear F;have F:=ai hRl hn4;refine gSub 1000 0 k ⟨om,by rw [hRl];omega⟩ ?_;clear F;rw [ZjD];refine fR @tmz ?_;refine fG @tmz ?_
  refine pE [1000] [1000] (Zvz k (by rw [hRl];omega)) ?_;rw [hRt];have hk2:k=(Zaa (ddT none ts)).length:=by rw [Zai,<- h5,Taw];omega
  exact (have F:=Zai;gTP (R:=RCut a cap 34 4 (Zaa (ddT none ts))) [1000] ⟨by rw [<- hk2],rfl⟩)
theorem ZgM (ts:List Tm):(ZbE ts).length=ts.length:=(ZbT ts).length_eq
theorem ZzM (ts:List Tm):ddT none (ZbE ts)=Zc2 ts:=by rw [Zxg (ZdL ts),Zpx (ZbT ts)]
theorem Zm6 (ts:List Tm) (hl:ts.length<=4000000) (a:Option Addr) (cap:Nat):ConP e0 66 [.one (.lit (.slice a ts.length cap))] [.buf (some (a,cap)) 34 4 (Zaa ts)] (RCut a cap 34 4 (Zaa (Zc2 ts))):=by
 have hc:=Zoz (ZbE ts) (by rw [ZgM];exact hl) a cap;rw [ZgM,ZzM] at hc;refine gIP (ts:=[.slot 2]) [1000] 5 Tryz.func66 ?_;refine fB @tmz ?_;have F:=@tmz;refine gCI (Zsf ts hl) (by rw [Zai,Zai,ZgM]) ?_;clear F;refine fR @tmz ?_;refine fB @tmz ?_;have F:=@tmz;refine gCP [1000] [1000] (hc) ?_;clear F;rintro r pm ⟨rfl,rfl⟩;simp only [setA,retA,zipM,Taf,Tah];refine fR @tmz ?_;refine fG @tmz ?_;exact (have F:=Zai;gTP (R:=RCut a cap 34 4 (Zaa (Zc2 ts))) [1000] ⟨rfl,rfl⟩)
theorem Zsh {t x:Tm} {ts:List Tm} {i:Nat} (hx:ts[i]?=some x) (h:Za4 t ts=ts.take i++Za4 t (ts.drop i)) (hc:Zah x t < 0):Za4 t ts=ts.take (i+1)++Za4 t (ts.drop (i+1)):=by
 obtain ⟨hl,e⟩:=Tad.1 hx;rw [h,List.drop_eq_getElem_cons hl,e,Za4,if_pos hc];simp [List.take_add_one,hx]
theorem Zsi {t x:Tm} {ts:List Tm} {i:Nat} (hx:ts[i]?=some x) (h:Za4 t ts=ts.take i++Za4 t (ts.drop i)) (hc:Zah x t=0):Za4 t ts=ts:=by
 obtain ⟨hl,e⟩:=Tad.1 hx;rw [h,List.drop_eq_getElem_cons hl,e,Za4,if_neg om,if_pos hc,<- e,<- List.drop_eq_getElem_cons hl,Tbl]
theorem Zsj {t x:Tm} {ts:List Tm} {i:Nat} (hx:ts[i]?=some x) (h:Za4 t ts=ts.take i++Za4 t (ts.drop i)) (h1:¬ Zah x t < 0) (h2:¬ Zah x t=0):Za4 t ts=ts.take i++[t]++ts.drop i:=by
 obtain ⟨hl,e⟩:=Tad.1 hx;rw [h,List.drop_eq_getElem_cons hl,e,Za4,if_neg h1,if_neg h2];simp
theorem Zv3 {t:Tm} {ts:List Tm} {i:Nat} (hi:ts.length<=i) (h:Za4 t ts=ts.take i++Za4 t (ts.drop i)):Za4 t ts=ts.take i++[t]++ts.drop i:=by
 rw [h,List.drop_eq_nil_of_le hi,Za4];simp
theorem Ziw (ts:List Tm) (t:Tm) (hts:Zaw ts) (ht:okTm t) (hl:ts.length<=8000000):Con e0 96 [.one (.sl (Zaa ts)),.agg (Zab t)] [.one (.sl (Zaa (Za4 t ts)))]:=by
 refine gI (ts:=[.slot 4]) 8590459003 Tryz.func96 ?_;refine fG @tmz ?_;have F:=@tmz;refine gL (ι:=Nat) [5,19] [] (fun x=>[(5,.d (.one (.lit (.int .i64 (x:Int)))))]) (fun x=>[]) (fun x=>x<=ts.length∧Za4 t ts=ts.take x++Za4 t (ts.drop x)) (fun x=>ts.length - x) (0) (⟨Taj _,rfl⟩) (fun x hx=>?_);clear F;obtain ⟨hi,hf⟩:=hx;by_cases hlt:x < ts.length
 ·obtain ⟨a,ha⟩:∃ n,ts[x]?=some n:=⟨_,Taa hlt⟩;have q1:=lT x ts.length;have q4:IntKind.i64.wrap ((x:Int)+1)=(x:Int)+1:=IntWalk.i64_in _ om;have hcmp:=Zdw (hts.mem (Tac ha)) ht;refine fB (ai @q1 @tmz) ?_;refine fC (aj3 @q1 @tmz @ha) (hcmp) ?_;by_cases hc:Zah a t < 0
  ·have q2:(Zah a t < 0)=True:=eq_true hc;refine fR (aj3 @q1 @q2 @tmz) ?_;have hs:=Zsh ha hf hc;have F:=ai @q4 @q2;refine gG ?_;exact ⟨x+1,⟨hlt,hs⟩,gw,gw,om⟩
  ·have q2:(Zah a t < 0)=False:=eq_false hc;refine fR (aj3 @q1 @q2 @tmz) ?_;refine fB (aj3 @q1 @q2 @tmz) ?_;refine fC (aj3 @q1 @tmz @ha) (ZdX (hts.mem (Tac ha)) ht) ?_;by_cases h0:Zah a t=0
   ·have q3:decide (Zah a t=0)=true:=decide_eq_true h0;refine fR (aj3 @q1 @q3 @tmz) ?_;rw [Zsi ha hf h0];exact fD (ai @q3 @tmz)
   ·have q3:decide (Zah a t=0)=false:=decide_eq_false h0;refine fR (aj3 @q1 @q3 @tmz) ?_;have hins:=Zsj ha hf hc h0;refine fN 6 (ai @q3 @tmz) ?_;rw [hins,ZbN,ZbN,Zck,<- Zdy,<- Zd9];have hxl:((x:Int)<=(ts.length:Int))=True:=eq_true om;have r1:ZaL 4 ((Zaa ts).take x)=true:=by rw [Zdy];exact ZcL _
    have r2:ZaL 4 ((Zaa ts).drop x)=true:=by rw [Zd9];exact ZcL _
    have n1:((Zaa ts).take x).length<=8000000:=by rw [Taw,Zai];omega
    have n2:((Zaa ts).drop x).length<=8000000:=by rw [List.length_drop,Zai];omega
    have n3:((Zaa ts).take x).length+1<=maxApp:=by unfold maxApp;omega
    have n4:((Zaa ts).take x).length+1+((Zaa ts).drop x).length<=maxApp:=by unfold maxApp;omega
    have F:=aj6 r1 r2 hxl n3 n4 tmz;refine gA 7 4 ?_ (.inl rfl) ?_
    ·show 0+_<=maxApp;unfold maxApp;omega
    clear F;refine fR (aj6 @r1 @r2 @hxl @n3 @n4 @tmz) ?_;have tkA:(Zaa ts).take ts.length=Zaa ts:=by rw [<- Zai ts,Tap]
    have n5:((Zaa ts).take x++[Zab t]).length+((Zaa ts).drop x).length<=maxApp:=by simp only [Tae,Tag,Tak];omega
    have hll:((ts.length:Int)<=(ts.length:Int))=True:=eq_true (Int.le_refl _);have F:=aj9 @r1 @r2 @hxl @n3 @n4 @n5 @hll @tkA @tmz;refine gG ?_;exact gTz [4]
 ·have q1:=lF x ts.length;have hins:=Zv3 om hf;refine fN 6 (ai @q1 @tmz) ?_;rw [hins,ZbN,ZbN,Zck,<- Zdy,<- Zd9];have hxl:((x:Int)<=(ts.length:Int))=True:=eq_true om;have r1:ZaL 4 ((Zaa ts).take x)=true:=by rw [Zdy];exact ZcL _
  have r2:ZaL 4 ((Zaa ts).drop x)=true:=by rw [Zd9];exact ZcL _
  have n1:((Zaa ts).take x).length<=8000000:=by rw [Taw,Zai];omega
  have n2:((Zaa ts).drop x).length<=8000000:=by rw [List.length_drop,Zai];omega
  have n3:((Zaa ts).take x).length+1<=maxApp:=by unfold maxApp;omega
  have n4:((Zaa ts).take x).length+1+((Zaa ts).drop x).length<=maxApp:=by unfold maxApp;omega
  have F:=aj6 r1 r2 hxl n3 n4 tmz;refine gA 7 4 ?_ (.inl rfl) ?_
  ·show 0+_<=maxApp;unfold maxApp;omega
  clear F;refine fR (aj6 @r1 @r2 @hxl @n3 @n4 @tmz) ?_;have tkA:(Zaa ts).take ts.length=Zaa ts:=by rw [<- Zai ts,Tap]
  have n5:((Zaa ts).take x++[Zab t]).length+((Zaa ts).drop x).length<=maxApp:=by simp only [Tae,Tag,Tak];omega
  have hll:((ts.length:Int)<=(ts.length:Int))=True:=eq_true (Int.le_refl _);have F:=aj9 @r1 @r2 @hxl @n3 @n4 @n5 @hll @tkA @tmz;refine gG ?_;exact gTz [4]
def colT (l:List Tm) (r:List Tm):List Tm:=l.foldl (fun r t=>Za4 t r) r
theorem colT_nil0 {ts:List Tm}:colT (Zaz []) ts=ts:=by simp [colT,Zaz]
theorem ZoA (a b r:List Tm):colT (a++b) r=colT b (colT a r):=by unfold colT;rw [List.foldl_append]
theorem ZmC (t:Tm):∀ l:List Tm,(Za4 t l).length<=l.length+1
 | []=>by simp [Za4]
 | x::xs=>by
  have:=ZmC t xs;simp only [Za4];split
  ·simp only [Tag];omega
  ·split <;> simp only [Tag] <;> omega
theorem Zf4:∀ (l r:List Tm),(colT l r).length<=r.length+l.length
 | [],r=>by simp [colT]
 | x::xs,r=>by
  have h1:=Zf4 xs (Za4 x r);have h2:=ZmC x r;simp only [colT,List.foldl_cons,Tag] at h1 ⊢;omega
theorem ZoB {t:Tm} (ht:okTm t):∀ {l:List Tm},Zaw l->Zaw (Za4 t l)
 | [],_=>by simp only [Za4,Zaw];exact ⟨ht,trivial⟩
 | x::xs,h=>by
  simp only [Zaw] at h;simp only [Za4];split
  ·simp only [Zaw];exact ⟨h.1,ZoB ht h.2⟩
  ·split
   ·simp only [Zaw];exact h
   ·simp only [Zaw];exact ⟨ht,h⟩
theorem Zi8:∀ {l r:List Tm},Zaw l->Zaw r->Zaw (colT l r)
 | [],r,_,h=>h
 | x::xs,r,h1,h2=>by
  simp only [Zaw] at h1;exact Zi8 (l:=xs) (r:=Za4 x r) h1.2 (ZoB h1.1 h2)
theorem Zix:∀ {a b:List Tm},Zaw a->Zaw b->Zaw (a++b)
 | [],_,_,h=>h
 | x::xs,b,h1,h2=>by
  simp only [Zaw] at h1;simp only [Taf,Zaw];exact ⟨h1.1,Zix h1.2 h2⟩
mutual
theorem Zf5:∀ t:Tm,(Zav t).length<=1+Zal (Zab t)
 | .mk op nm so args=>by
  have:=Ziy args;simp only [Zav,Zab,Zal,Zc9,Zai];split
  ·simp
  ·omega
theorem Ziy:∀ ts:List Tm,(Zaz ts).length<=ts.length+Zas (Zaa ts)
 | []=>by simp [Zaz]
 | t::ts=>by
  have h1:=Zf5 t;have h2:=Ziy ts;simp only [Zaz,Zaa,Zas,Tae,Tag];omega
end
theorem Zv4 {t:Tm} (h:Zal (Zab t)<=1048576):(Zav t).length<=1048576:=by
 obtain ⟨op,nm,so,args⟩:=t;have:=Ziy args;simp only [Zav,Zab,Zal,Zc9,Zai] at h ⊢;split
 ·simp
 ·omega
theorem Ziz:∀ (l:List Tm) (t:Tm),Zaz (l++[t])=Zaz l++Zav t
 | [],t=>by simp [Zaz]
 | x::xs,t=>by simp [Zaz,Ziz xs t]
theorem ZeJ {l:List Tm} {i:Nat} {t:Tm} (h:l[i]?=some t):Zaz (l.take (i+1))=Zaz (l.take i)++Zav t:=by
 rw [show l.take (i+1)=l.take i++[t] by simp [List.take_add_one,h],Ziz]
theorem Zfv:∀ (l:List Tm) (i:Nat),(Zaz (l.take i)).length<=(Zaz l).length
 | [],i=>by simp [Zaz]
 | x::xs,0=>by simp [Zaz]
 | x::xs,i+1=>by have:=Zfv xs i;simp only [Tbb,Zaz,Tae];omega
def visL (ts args:List Tm) (i:Nat):List Tm:=ts++Zaz (args.take i)
theorem ZAp (ts args:List Tm):visL ts args 0=ts:=by simp [visL,Zaz]
theorem Zv5 {ts args:List Tm} {i:Nat} {b:Tm} (h:args[i]?=some b):visL ts args (i+1)=visL ts args i++Zav b:=by
 unfold visL;rw [ZeJ h,Tbe]
theorem Zxy (ts args:List Tm):visL ts args args.length=ts++Zaz args:=by unfold visL;rw [Tap]
theorem ktF:ZaV Tryz.prog 106=some .one:=by kernel_rfl
theorem ztF:Za1 Tryz.prog 106=some 1:=by kernel_rfl
theorem otF:ZaP Tryz.prog 106=some [.lit .nilFunc]:=by kernel_rfl
theorem ZAq:Zay (.lit .nilFunc)=true:=rfl
theorem okFn {f:FuncId} {cs:List C}:Zay (.fn f cs)=true:=rfl
theorem Ze7:Zaa []=[]:=by simp [Zaa]
theorem gTPn {X:Prop} {P:Program} {ts:List RS} {R:List D->List Bk->Prop} {σ:St} {r:List D} {pm:List Bk} (ks:List Nat) (hR:R r pm) (hx:Zne P ts R .normal σ->X:=by first | exact fun h=>h | exact fun h=>⟨_,Wk.refl _,h⟩) (hr:resD P σ ts=some r:=by exact sfy) (hg:getM σ.m ks=some pm:=by exact sny) (hn:ks.Nodup:=by decide) (hp:pm.all pinned=true:=by exact sny):X :=
 hx ⟨r,ks,pm,hg,hn,hp,hR,ZfP hr⟩
def ptr0 (b:Nat):Value:=.pointer (some ⟨b,0,none⟩)
def RVis (bo bv:Nat) (f:FuncId) (ty:Nat) (ts:List Tm) (r:List D) (pm:List Bk):Prop:=∃ a cap,r=[]∧pm=[.var (some bo) [.lit (.slice a ts.length cap)],.buf (some (a,cap)) ty 4 (Zaa ts),.var (some bv) [.fn f [.lit (ptr0 bo),.lit (ptr0 bv)]]]
theorem Zm7 (t:Tm) (ts:List Tm) (a:Option Addr) (cap bo bv:Nat) (hne:bo≠bv) (hb:Zal (Zab t)<=1048576) (hl:ts.length+(Zav t).length<=4000000)
  (h:∀ x∈t.args,∀ (us:List Tm) (a:Option Addr) (cap:Nat),us.length+(Zav x).length<=4000000->ConP e0 65 [.agg (Zab x),.one (.lit (ptr0 bo)),.one (.lit (ptr0 bv))] [.var (some bo) [.lit (.slice a us.length cap)],.buf (some (a,cap)) 34 4 (Zaa us),.var (some bv) [.fn 65 [.lit (ptr0 bo),.lit (ptr0 bv)]]] (RVis bo bv 65 34 (us++Zav x))) :
  ConP e0 65 [.agg (Zab t),.one (.lit (ptr0 bo)),.one (.lit (ptr0 bv))] [.var (some bo) [.lit (.slice a ts.length cap)],.buf (some (a,cap)) 34 4 (Zaa ts),.var (some bv) [.fn 65 [.lit (ptr0 bo),.lit (ptr0 bv)]]] (RVis bo bv 65 34 (ts++Zav t)):=by
 obtain ⟨op,nm,so,args⟩:=t;have hc:Zab (.mk op nm so args)=[.lit (.int .i64 op),.lit (.string nm),.lit (.int .i64 so),.sl (Zaa args)]:=by simp only [Zab]
 have hn1:(bo=bv)=False:=eq_false hne;have hn2:(bv=bo)=False:=eq_false (fun e=>hne e.symm);simp only [Tm.args] at h;simp only [Zab,Zal,Zc9,Zai] at hb;simp only [ptr0] at h ⊢;refine gIP (ts:=[]) [1001,1000,1002] 15728943 Tryz.func65 ?_;by_cases ho:op=-1
 ·have q1:(op=-1)=True:=eq_true ho;have e1:Zav (.mk op nm so args)=[.mk (-1) nm so []]:=by simp only [Zav,if_pos ho]
  rw [e1] at hl ⊢;simp only [Tag,Tak,Nat.zero_add] at hl;have hm:ts.length+1<=maxApp:=by unfold maxApp;omega
  have c1:Zab (.mk (-1) nm so [])=[.lit (.int .i64 (-1)),.lit (.string nm),.lit (.int .i64 so),.sl []]:=by simp only [Zab,Zaa]
  refine fN 2 (aj3 @hc @q1 @tmz) ?_
  have hR:∀ (a2:Option Addr) (cap2:Nat),RVis bo bv 65 34 (ts++[.mk (-1) nm so []]) [] [.var (some bo) [.lit (.slice a2 (ts.length+1) cap2)],.buf (some (a2,cap2)) 34 4 (Zaa ts++[[.lit (.int .i64 (-1)),.lit (.string nm),.lit (.int .i64 so),.sl []]]),.var (some bv) [.fn 65 [.lit (.pointer (some ⟨bo,0,none⟩)),.lit (.pointer (some ⟨bv,0,none⟩))]]]:=fun a2 cap2=>⟨a2,cap2,rfl,by
   rw [show Zaa (ts++[.mk (-1) nm so []])=Zaa ts++[[.lit (.int .i64 (-1)),.lit (.string nm),.lit (.int .i64 so),.sl []]] by rw [Zbu,Tbu,<- Zbu,Tbt,List.map_nil,c1],Tae];rfl⟩
  have a1:(ts.length < ts.length+1)=True:=eq_true (Tan _);have a2:∀ Z:List C,(Zaa ts++[Z])[ts.length]?=some Z:=fun Z=>by rw [Tbp (by rw [Zai];exact Tai _),Zai,Nat.sub_self];rfl
  have a3:∀ Z X:List C,(Zaa ts++[Z]).set ts.length X=Zaa ts++[X]:=fun Z X=>by rw [List.set_append_right _ _ (by rw [Zai];exact Tai _),Zai,Nat.sub_self];rfl
  have F:=aj10 a1 a2 a3 hc q1 @Zv0 hm hn1 hn2 tmz;refine ZAJ 8 ?_;refine gT1 8 ?_;refine gS 17 fun a2 cap2=>?_;refine ZbL ?_;refine gT2 9 11 ?_ ?_
  ·refine ZbL ?_;refine gT2 10 11 ?_ ?_
   ·refine ZbL ?_;refine gT1 11 ?_;refine ZbL ?_;refine gT0 ?_
    (refine wkI ?_;(refine fG @tmz ?_);exact (have F:=tmz;gTP [1001,17,1002] (hR a2 cap2)))
   ·refine ZbL ?_;refine gT1 10 ?_;refine ZbL ?_;refine gT0 ?_
    (refine wkI ?_;(refine fG @tmz ?_);exact (have F:=tmz;gTP [1001,17,1002] (hR a2 cap2)))
  ·refine ZbL ?_;refine gT1 9 ?_;refine ZbL ?_;refine gT1 10 ?_;refine ZbL ?_;refine gT0 ?_
   (refine wkI ?_;(refine fG @tmz ?_);exact (have F:=tmz;gTP [1001,17,1002] (hR a2 cap2)))
 ·have q1:(op=-1)=False:=eq_false ho;have e1:Zav (.mk op nm so args)=Zaz args:=by simp only [Zav,if_neg ho]
  rw [e1] at hl ⊢;have hal:args.length<=1048576:=om;refine fG (aj3 @hc @q1 @tmz) ?_;have F:=@ZAp;refine gL (ι:=Nat × Option Addr × Nat) [5,22,23] [1000,1001,1002] (fun x=>[(22,.d (.one (.lit (.int .i64 (x.1:Int)))))]) (fun x=>[(1001,.var (some bo) [.lit (.slice x.2.1 (visL ts args x.1).length x.2.2)]),(1000,.buf (some (x.2.1,x.2.2)) 34 4 (Zaa (visL ts args x.1))),(1002,.var (some bv) [.fn 65 [.lit (.pointer (some ⟨bo,0,none⟩)),.lit (.pointer (some ⟨bv,0,none⟩))]])]) (fun x=>x.1<=args.length) (fun x=>args.length - x.1) ((0,a,cap)) (Taj _) (fun x hx=>?_);clear F
  obtain ⟨i,a2,cap2⟩:=x;simp only at hx;dsimp only;by_cases hlt:i < args.length
  ·obtain ⟨b,hg⟩:∃ b,args[i]?=some b:=⟨_,Taa hlt⟩;have q2:=lT i args.length;have q4:IntKind.i64.wrap ((i:Int)+1)=(i:Int)+1:=IntWalk.i64_in _ om;have hvt:=ZeJ hg;have hle:=Zfv args (i+1);rw [hvt,Tae] at hle;have hcon:=h b (Tac hg) (visL ts args i) a2 cap2 (by unfold visL;rw [Tae];omega);rw [<- Zv5 hg] at hcon;refine fB (aj6 @q2 @hc @Zai @Zbo @hg @tmz) ?_;have F:=aj4 @ktF @hn1 @hn2 @tmz;refine gCP [1001,1000,1002] [1001,1000,1002] (hcon) ?_;clear F
   rintro r pm ⟨a3,cap3,rfl,rfl⟩;simp only [ptr0,setA,retA,zipM,Taf,Tah];refine fR @tmz ?_;have F:=@q4;refine gG ?_;exact ⟨(i+1,a3,cap3),hlt,gw,gw,om⟩
  ·obtain rfl:i=args.length:=by omega
   have q2:=lF args.length args.length;refine fG @q2 ?_;have hR:RVis bo bv 65 34 (ts++Zaz args) [] [.var (some bo) [.lit (.slice a2 (visL ts args args.length).length cap2)],.buf (some (a2,cap2)) 34 4 (Zaa (visL ts args args.length)),.var (some bv) [.fn 65 [.lit (.pointer (some ⟨bo,0,none⟩)),.lit (.pointer (some ⟨bv,0,none⟩))]]]:=by
    rw [<- Zxy];exact ⟨a2,cap2,rfl,rfl⟩
   exact (have F:=tmz;gTPn [1001,1000,1002] hR)
theorem ZoC (bo bv:Nat) (hne:bo≠bv) (n:Nat):∀ (t:Tm),Zce (Zab t) < n->Zal (Zab t)<=1048576->∀ (ts:List Tm) (a:Option Addr) (cap:Nat),ts.length+(Zav t).length<=4000000->ConP e0 65 [.agg (Zab t),.one (.lit (ptr0 bo)),.one (.lit (ptr0 bv))] [.var (some bo) [.lit (.slice a ts.length cap)],.buf (some (a,cap)) 34 4 (Zaa ts),.var (some bv) [.fn 65 [.lit (ptr0 bo),.lit (ptr0 bv)]]] (RVis bo bv 65 34 (ts++Zav t)):=by
 induction n with
 | zero=>exact fun _ h=>om
 | succ n ih =>
  intro t hn hb ts a cap hl;refine Zm7 t ts a cap bo bv hne hb hl fun x hx us a cap hl2=>ih x ?_ ?_ us a cap hl2
  ·obtain ⟨op,nm,so,args⟩:=t;simp only [Zab,Zce,ZgN] at hn;simp only [Tm.args] at hx;obtain ⟨i,hi⟩:=Tbj hx;have hi':(Zaa args)[i]?=some (Zab x):=by rw [Zbo,hi];rfl
   have h1:=Zen hi';omega
  ·obtain ⟨op,nm,so,args⟩:=t;simp only [Zab,Zal,Zc9] at hb;simp only [Tm.args] at hx;obtain ⟨i,hi⟩:=Tbj hx;have hi':(Zaa args)[i]?=some (Zab x):=by rw [Zbo,hi];rfl
   have h1:=ZdC hi';omega
theorem ZoD (t:Tm) (hb:Zal (Zab t)<=1048576):Con e0 29 [.agg (Zab t)] [.one (.sl (Zaa (ZaB t)))]:=by
 have hv:=Zv4 hb;refine gI (ts:=[.slot 2]) 31 Tryz.func29 ?_;refine fN 1 @tmz ?_;refine gB ?_;have F:=@tmz;refine gP 1 ?_;clear F;refine gO 5 34 4 ?_;refine gS 5 fun a cap=>?_;refine fR @tmz ?_;refine fN 3 (aj3 @otF @ztF @tmz) ?_;refine pV 3 fun b3 hb3=>?_;refine pV 4 fun b4 hb4=>?_;have hne:b3≠b4:=fun e=>hb4 3 b3 _ (by decide) rfl e.symm;clear hb3 hb4;have hn1:(b3=b4)=False:=eq_false hne;have hn2:(b4=b3)=False:=eq_false (fun e=>hne e.symm)
 refine fN 4 (aj7 @ktF @ztF @ZAq @okFn @hn1 @hn2 @tmz) ?_;refine gB ?_;have hcon:=ZoC b3 b4 hne _ t (Tan _) om [] a cap (by simp;omega);have hdis:=fun (a:Option Addr) (cap:Nat)=>Zm6 (Zav t) om a cap;simp only [ptr0,Tak,Tah,Ze7] at hcon;have F:=aj4 @ktF @hn1 @hn2 @tmz;refine gCP [3,5,4] [3,5,4] (hcon) ?_;clear F;rintro r pm ⟨a2,cap2,rfl,rfl⟩;simp only [ptr0,setA,retA,zipM,Taf,Tah];refine fR @tmz ?_
 refine fB @tmz ?_;have F:=aj3 @hn1 @hn2 @tmz;refine gCP [5] [5] (hdis a2 cap2) ?_;clear F;rintro r pm ⟨rfl,rfl⟩;simp only [setA,retA,zipM,Taf,Tah];refine fR @tmz ?_;refine pD 5 [2] [] ?_ (hs:=by exact snv);exact fD @tmz
theorem Zfe (nm:ByteArray) (so:Int):Con e0 97 [.one (.lit (.string nm)),.one (.lit (.int .i64 so))] [.agg (Zab (.mk (-1) nm so []))]:=by
 have c1:Zab (.mk (-1) nm so [])=[.lit (.int .i64 (-1)),.lit (.string nm),.lit (.int .i64 so),.sl []]:=by simp only [Zab,Zaa]
 rw [c1];refine gI (ts:=[.cell 4 34]) 19 Tryz.func97 ?_;exact fD @e0P
theorem Zv6 {e:Env} {f:FuncId} {a:D} {rows:List (List C)} {r:List D} (h:Con e f [a,.one (.sl rows)] r):Con e f [a,.clip rows] r :=
 ⟨h.1,fun w S vs h1 h2 h3 h4=>h.2 w S vs h1 h2 h3 (by
  match vs,h4 with
  | [x,y],h4=>exact ⟨h4.1,h4.2.1.1,trivial⟩)⟩
theorem Zj7 {op so:Int} {nm:ByteArray} {args:List Tm} (h:okTm (.mk op nm so args)):okTm (.mk (-1) nm so []):=by
 simp only [okTm,Zaw,and_true] at h ⊢;exact ⟨by unfold I64;omega,h.2.1,h.2.2.1⟩
mutual
theorem ZmD:∀ {t:Tm},okTm t->Zaw (Zav t)
 | .mk op nm so args,h=>by
  simp only [Zav];split
  ·simp only [Zaw];exact ⟨Zj7 h,trivial⟩
  ·simp only [okTm] at h;exact Zfw h.2.2.2
theorem Zfw:∀ {l:List Tm},Zaw l->Zaw (Zaz l)
 | [],_=>by simp [Zaz,Zaw]
 | x::xs,h=>by
  simp only [Zaw] at h;simp only [Zaz];exact Zix (ZmD h.1) (Zfw h.2)
end
theorem ZhA:∀ {l:List Tm} (i:Nat),Zaw l->Zaw (l.take i)
 | [],_,_=>by simp [Zaw]
 | x::xs,0,_=>by simp [Zaw]
 | x::xs,i+1,h=>by
  simp only [Zaw] at h;simp only [Tbb,Zaw];exact ⟨h.1,ZhA i h.2⟩
theorem Zj8 (t:Tm) (ts:List Tm) (ht:okTm t) (hts:Zaw ts) (hb:Zal (Zab t)<=1048576) (hl:ts.length+(Zav t).length<=7000000) (h:∀ x∈t.args,∀ us:List Tm,Zaw us->us.length+(Zav x).length<=7000000->Con e0 54 [.agg (Zab x),.one (.sl (Zaa us))] [.one (.sl (Zaa (colT (Zav x) us)))]) :
  Con e0 54 [.agg (Zab t),.one (.sl (Zaa ts))] [.one (.sl (Zaa (colT (Zav t) ts)))]:=by
 obtain ⟨op,nm,so,args⟩:=t;have hc:Zab (.mk op nm so args)=[.lit (.int .i64 op),.lit (.string nm),.lit (.int .i64 so),.sl (Zaa args)]:=by simp only [Zab]
 simp only [Tm.args] at h;simp only [Zab,Zal,Zc9,Zai] at hb;refine gI (ts:=[.slot 4]) 1048887 Tryz.func54 ?_;by_cases ho:op=-1
 ·have q1:(op=-1)=True:=eq_true ho;have e1:Zav (.mk op nm so args)=[.mk (-1) nm so []]:=by simp only [Zav,if_pos ho]
  rw [e1] at hl ⊢;simp only [Tag,Tak,Nat.zero_add] at hl;have hI:=Ziw ts (.mk (-1) nm so []) hts (Zj7 ht) om;refine fB (aj3 @hc @q1 @tmz) ?_;refine fC @hc (Zfe nm so) ?_;refine fC @hc (hI) ?_;refine fR @hc ?_;simp only [colT,List.foldl_cons,List.foldl_nil];exact fD @tmz
 ·have q1:(op=-1)=False:=eq_false ho;have e1:Zav (.mk op nm so args)=Zaz args:=by simp only [Zav,if_neg ho]
  rw [e1] at hl ⊢;have hk:Zaw args:=by simp only [okTm] at ht;exact ht.2.2.2
  refine fG (aj3 @hc @q1 @tmz) ?_;have F:=ai ((fun (r:List Tm)=>(colT_nil0:colT (Zaz []) r=r))) @tmz;refine gL (ι:=Nat) [1,5,20] [] (fun x=>[(5,.d (.one (.lit (.int .i64 (x:Int))))),(1,.d (.one (.sl (Zaa (colT (Zaz (args.take x)) ts)))))]) (fun x=>[]) (fun x=>x<=args.length) (fun x=>args.length - x) (0) (Taj _) (fun x hx=>?_);clear F;by_cases hlt:x < args.length
  ·obtain ⟨b,hg⟩:∃ b,args[x]?=some b:=⟨_,Taa hlt⟩;have q2:=lT x args.length;have q4:IntKind.i64.wrap ((x:Int)+1)=(x:Int)+1:=IntWalk.i64_in _ om;have hvt:=ZeJ hg;have hle:=Zfv args (x+1);rw [hvt,Tae] at hle;have hcl:=Zf4 (Zaz (args.take x)) ts;have hcon:=h b (Tac hg) (colT (Zaz (args.take x)) ts) (Zi8 (Zfw (ZhA x hk)) hts) om;rw [<- ZoA,<- hvt] at hcon;refine fB (aj3 @q2 @hc @tmz) ?_;refine fC (aj4 @q2 @hc @hg @tmz) (hcon) ?_
   refine fR @tmz ?_;have F:=@q4;refine gG ?_;exact ⟨x+1,hlt,gw,gw,om⟩
  ·obtain rfl:x=args.length:=by omega
   have q2:=lF args.length args.length;rw [Tap];exact fD (aj3 @q2 @hc @tmz)
theorem Zgr (n:Nat):∀ t:Tm,Zce (Zab t) < n->okTm t->Zal (Zab t)<=1048576->∀ ts:List Tm,Zaw ts->ts.length+(Zav t).length<=7000000->Con e0 54 [.agg (Zab t),.one (.sl (Zaa ts))] [.one (.sl (Zaa (colT (Zav t) ts)))]:=by
 induction n with
 | zero=>exact fun _ h=>om
 | succ n ih =>
  intro t hn ht hb ts hts hl;refine Zj8 t ts ht hts hb hl fun x hx us hus hl2=>?_;obtain ⟨op,nm,so,args⟩:=t;simp only [Zab,Zce,ZgN] at hn;simp only [Zab,Zal,Zc9] at hb;simp only [okTm] at ht;simp only [Tm.args] at hx;obtain ⟨i,hi⟩:=Tbj hx;have hi':(Zaa args)[i]?=some (Zab x):=by rw [Zbo,hi];rfl
  have h1:=Zen hi';have h2:=ZdC hi';exact ih x om (ht.2.2.2.mem hx) om us hus hl2
theorem Zf6 {t:Tm} (ht:okTm t) (hb:Zal (Zab t)<=1048576):Con e0 17 [.agg (Zab t)] [.one (.sl (Zaa (ZaB t)))]:=by
 have hv:=Zf5 t;have hcon:=Zgr _ t (Tan _) ht hb [] trivial (by simp;omega);have hcon:=Zv6 (by rw [Ze7] at hcon;exact hcon);rw [show colT (Zav t) []=ZaB t from rfl] at hcon;refine gI (ts:=[.slot 2]) 7 Tryz.func17 ?_;refine fB @tmz ?_;refine fC @tmz (hcon) ?_;refine fR @tmz ?_;exact fD @tmz
def Zdp (k:Nat) (t:Tm):Prop:=okTm t∧sizeTm t<=k∧Zal (Zab t)+1<=13 * sizeTm t
theorem ZoE:∀ {ts:List Tm} {k:Nat},(∀ t∈ts,Zdp k t)->Zaw ts∧sizeTms ts<=ts.length * k∧Zas (Zaa ts)+ts.length<=13 * sizeTms ts
 | [],k,_=>by simp [Zaw,sizeTms,Zaa,Zas]
 | t::ts,k,h=>by
  obtain ⟨h1,h2,h3⟩:=ZoE (ts:=ts) (k:=k) fun t ht=>h t (Tal _ ht);obtain ⟨q1,q2,q3⟩:=h t Tas;simp only [Zaw,sizeTms,Zaa,Zas,Tag,Nat.succ_mul];exact ⟨⟨q1,h1⟩,om,om⟩
theorem Zg2 {op so:Int} {nm:ByteArray} {ts:List Tm} {k:Nat} (h0:-1<=op∧op<=1000) (h1:nm.size<=12) (h2:0<=so∧so<=1000) (h:∀ t∈ts,Zdp k t):Zdp (1+ts.length * k) (.mk op nm so ts):=by
 obtain ⟨q1,q2,q3⟩:=ZoE h;refine ⟨?_,?_,?_⟩
 ·simp only [okTm];exact ⟨⟨om,om⟩,by unfold maxLen;omega,⟨om,om⟩,q1⟩
 ·rw [ZaO];simp only [Tm.args];omega
 ·rw [ZgY,ZaO];simp only [Tm.args];omega
theorem Zdp.mono {k k':Nat} {t:Tm} (h:Zdp k t) (hk:k<=k'):Zdp k' t:=⟨h.1,by have:=h.2.1;omega,h.2.2⟩
def rawK:Nat->Nat
 | 0=>1
 | d+1=>1+3 * rawK d
theorem ZoF:∀ d,1<=rawK d
 | 0=>Tai _
 | d+1=>by simp only [rawK];omega
def RawD (d:Nat) (t:Tm):Prop:=Zdp (rawK d) t∧depthTm t<=d+1
def RTm (P:Tm->Prop) (r:List D):Prop:=∃ t,P t∧r=[.agg (Zab t)]
theorem enc0 (op so:Int) (nm:ByteArray):Zab (.mk op nm so [])=[.lit (.int .i64 op),.lit (.string nm),.lit (.int .i64 so),.sl []]:=by simp only [Zab,Zaa]
def xyz:List ByteArray:=[⟨#[120]⟩,⟨#[121]⟩,⟨#[122]⟩]
section
variable {x:Src} {b:Nat}
theorem ConE.args {e:Env} {f:FuncId} {lits data:List D} {R:List D->Prop} (h:ConE e f data R) (hd:∀ (w:World) (S:Nat->Prop) (vs:List Value),Zar w S lits vs->Zar w S data vs):ConE e f lits R:=⟨h.1,fun w S vs hS hE hG hvs=>h.2 w S vs hS hE hG (hd w S vs hvs)⟩
def RXyz (r:List D):Prop:=∃ nm:ByteArray,nm.size<=12∧r=[.one (.lit (.string nm))]
theorem ZoG (hx:x.Ok):ConE (eC x b) 111 [curD b,.clip [[.lit (.string ⟨#[120]⟩)],[.lit (.string ⟨#[121]⟩)],[.lit (.string ⟨#[122]⟩)]]] RXyz:=by
 have h:=(ZvU (b:=b) hx (l:=xyz) (by decide) (by decide)).args (lits:=[curD b,.clip [[.lit (.string ⟨#[120]⟩)],[.lit (.string ⟨#[121]⟩)],[.lit (.string ⟨#[122]⟩)]]]) fun w S vs h=>by
  match vs,h with
  | [v1,v2],⟨h1,h2,_⟩=>exact ⟨h1,h2.1,trivial⟩
 refine ⟨h.1,fun w S vs hS hE hG hvs=>(h.2 w S vs hS hE hG hvs).mono fun en w' ⟨v,r,h1,⟨s,hs,hr⟩,h3⟩=>⟨v,r,h1,⟨s,?_,hr⟩,h3⟩⟩;simp only [xyz,Tbf,List.not_mem_nil,or_false] at hs;rcases hs with rfl | rfl | rfl <;> decide
theorem Zsk (hx:x.Ok) {n:Nat} (h4:5<=n) (h20:n<=20):∀ (d:Nat),d<=8->ConE (eC x b) 75 [curD b,.one (.lit (.int .i64 n)),.one (.lit (.int .i64 d))] (RTm (Zdp (rawK d))):=by
 intro d
 induction d using Nat.strongRecOn with
 | _ d ih =>
 intro hd8;have he:=hx.okC (b:=b);refine gIE (ts:=[.cell 6 34]) 72058693549638087 Tryz.func75 ?_;refine fN 1 @tmC ?_;refine gM (ι:=Bool) [14] [] (fun y=>[(14,A.d (.one (.lit (.bool y))))]) (fun y=>[]) (fun y=>y=false->1<=d) ?_ (fun y hy=>Exists.intro _ (ai (Wk.refl _) ?_))
 ·refine gB ?_;by_cases h0:d=0
  ·have q1:((d:Int)<=0)=True:=eq_true om;refine fR (ai @q1 @tmC) ?_;have F:=@tmC;refine gG ?_;exact ⟨true,(by simp),gw,gw⟩
  ·have q1:((d:Int)<=0)=False:=eq_false om;have F:=ai @q1 @tmC;refine gCE (ZbS (b:=b) hx (n:=4) (by decide) (by decide)) ?_;clear F;rintro r ⟨y,rfl⟩;refine fR @tmC ?_;have F:=@tmC;refine gG ?_;exact ⟨y,(fun _=>om),gw,gw⟩
 cases y with
 | true =>
  have hpos:=ZoF d;refine fN 2 @tmC ?_;refine gB ?_;have F:=@tmC;refine gCE (ZbS (b:=b) hx (n:=3) (by decide) (by decide)) ?_;clear F;rintro r ⟨y,rfl⟩;refine fR @tmC ?_
  cases y
  ·refine fN 4 @tmC ?_;refine gB ?_;have F:=@tmC;refine gCE (ZbH (b:=b) hx (n:=3) (by decide) (by decide)) ?_;clear F;rintro r ⟨k,hk,rfl⟩;refine fR @tmC ?_;have hr:=Zg2 (op:=(k:Int)) (so:=0) (nm:=ByteArray.empty) (ts:=[]) (k:=0) om (by decide) om (fun t ht=>by cases ht);have hc:=enc0 (k:Int) 0 ByteArray.empty;exact (have F:=ai hc tmC;gTE (R:=RTm (Zdp (rawK d))) [] ⟨_,hr.mono (by simp;omega),rfl⟩)
  ·refine fN 3 @tmC ?_;refine gB ?_;have F:=@tmC;refine gCE (ZoG hx) ?_;clear F;rintro r ⟨nm,hnm,rfl⟩;have F:=@tmC;refine gCE (ZbH (b:=b) hx (n:=3) (by decide) (by decide)) ?_;clear F;rintro r ⟨k,hk,rfl⟩;refine fC @tmC ((Zfe nm k).cu hx) ?_;refine fR @tmC ?_;have hr:=Zg2 (op:=-1) (so:=(k:Int)) (nm:=nm) (ts:=[]) (k:=0) (by decide) hnm om (fun t ht=>by cases ht);exact (have F:=tmC;gTE (R:=RTm (Zdp (rawK d))) [] ⟨_,hr.mono (by simp;omega),rfl⟩)
 | false =>
  obtain ⟨d',rfl⟩:∃ d',d=d'+1:=⟨d - 1,by have:=hy rfl;omega⟩;have ih:=ih d' om om;clear hy;have w1:IntKind.i64.wrap ((n:Int) - 3)=((n - 3:Nat):Int):=Za2 om om om;have w2:IntKind.i64.wrap (((d'+1:Nat):Int) - 1)=(d':Int):=Za2 om om om;refine fN 5 @tmC ?_;refine gB ?_;have F:=ai @w1 @tmC;refine gCE (ZbH (b:=b) hx (n:=n - 3) om om) ?_;clear F;rintro r ⟨k,hk,rfl⟩;have w3:IntKind.i64.wrap (3+(k:Int))=((3+k:Nat):Int):=Za2 om om om
  refine fR (ai @w3 @tmC) ?_;refine fN 6 @tmC ?_;refine gB ?_;have F:=ai @w2 @tmC;refine gCE (ih) ?_;clear F;rintro r ⟨t1,ht1,rfl⟩;have F:=tmC;refine gBs ?_;clear F;refine gS 37 fun a1 c1=>?_;refine fR @tmC ?_;refine pE [37] [1000] ZeR ?_;have e1:Zaa [t1]=[Zab t1]:=Zck t1;refine fN 7 @tmC ?_;refine gB ?_;refine fR @tmC ?_;generalize decide ((3:Int) < ((3+k:Nat):Int))=y4;refine gM (ι:=List Tm × Option Addr × Nat) [40] [8,1000] (fun q=>[]) (fun q=>[(8,.var none [.lit (.int .i64 ((3+k:Nat):Int)),.lit (.string ByteArray.empty),.lit (.int .i64 0),.lit (.slice q.2.1 (Zaa q.1).length q.2.2)]),(1000,.buf (some (q.2.1,q.2.2)) 34 4 (Zaa q.1))]) (fun q=>q.1.length<=2∧∀ t∈q.1,Zdp (rawK d') t) ?_ (fun q hq=>Exists.intro _ (ai (Wk.refl _) ?_))
  ·cases y4
   ·have F:=ai @e1 @tmC;refine gG ?_;exact ⟨([t1],a1,c1),⟨Nat.le_succ _,fun t ht=>by rw [Tbi.1 ht];exact ht1⟩,gw,gw⟩
   ·refine fN 8 @tmC ?_;have F:=tmC;refine gN0 8 [0,1,2,3,4,5] [6,7] ?_;clear F;have F:=ai w2 tmC;refine gNd ?_;clear F;have F:=tmC;refine gNE ih ?_;clear F;rintro r ⟨t2,ht2,rfl⟩;have F:=tmC;refine gNr ?_;clear F;refine gK 42 ?_;have F:=@tmC;refine gP 1 ?_;clear F;refine gS 49 fun a2 c2=>?_;have F:=@tmC;refine gP 2 ?_;clear F;refine gE [49] [1000] ZeR ?_;refine fR @tmC ?_;have e2:Zaa [t1,t2]=[Zab t1,Zab t2]:=by simp only [Zaa]
    have F:=ai @e2 @tmC;refine gG ?_;exact ⟨([t1,t2],a2,c2),⟨Tai _,fun t ht=>by simp only [Tbf,List.not_mem_nil,or_false] at ht;rcases ht with rfl | rfl <;> assumption⟩,gw,gw⟩
  obtain ⟨ts,a2,c2⟩:=q;obtain ⟨hq1,hq2⟩:=hq;dsimp only at hq1 hq2 ⊢;have hbs:1+(ts.length+1) * rawK d'<=rawK (d'+1):=by
   have:(ts.length+1) * rawK d'<=3 * rawK d':=Nat.mul_le_mul_right _ om;simp only [rawK];omega
  have hfin:∀ us:List Tm,(∀ t∈us,Zdp (rawK d') t)->us.length<=ts.length+1->Zdp (rawK (d'+1)) (.mk ((3+k:Nat):Int) ByteArray.empty 0 us):=fun us hu hl=>(Zg2 (op:=((3+k:Nat):Int)) (so:=0) (nm:=ByteArray.empty) om (by decide) om hu).mono (by
   have:us.length * rawK d'<=(ts.length+1) * rawK d':=Nat.mul_le_mul_right _ hl;omega)
  refine fN 9 @eCP ?_;refine gM (ι:=Bool) [56] [] (fun y=>[(56,A.d (.one (.lit (.bool y))))]) (fun y=>[]) (fun y=>True) ?_ (fun y hy=>Exists.intro _ (ai (Wk.refl _) ?_))
  ·refine gB ?_;by_cases h4:4 < 3+k
   ·have q1:=lT 4 (3+k:Nat);have F:=ai @q1 @eCP;refine gCE (ZbS (b:=b) hx (n:=4) (by decide) (by decide)) ?_;clear F;rintro r ⟨y,rfl⟩;refine fR @eCP ?_;have F:=@eCP;refine gG ?_;exact ⟨y,trivial,gw,gw⟩
   ·have q1:=lF 4 (3+k:Nat);refine fR (ai @q1 @eCP) ?_;have F:=@eCP;refine gG ?_;exact ⟨false,trivial,gw,gw⟩
  cases y
  ·have hc:Zab (.mk ((3+k:Nat):Int) ByteArray.empty 0 ts)=[.lit (.int .i64 ((3+k:Nat):Int)),.lit (.string ByteArray.empty),.lit (.int .i64 0),.sl (Zaa ts)]:=by simp only [Zab]
   refine fN 11 @e0P ?_;refine gB ?_;refine fR @eCP ?_;refine pD 1000 [] [6,8] ?_;exact (have F:=ai hc tmC;gTE (R:=RTm (Zdp (rawK (d'+1)))) [] ⟨_,hfin ts hq2 (Nat.le_succ _),rfl⟩)
  ·have l1:((Zaa ts).length+1<=maxApp)=True:=eq_true (by rw [Zai];unfold maxApp;omega);have l3:(ts.length+1<=maxApp)=True:=eq_true (by unfold maxApp;omega);refine fN 10 @eCP ?_;have F:=eCP;refine gN0 8 [0,1,2,3,4,5] [6,7] ?_;clear F;have F:=aj3 w2 @eCP @ZcL;refine gNd ?_;clear F;have F:=eCP;refine gNE ih ?_;clear F;rintro r ⟨t3,ht3,rfl⟩;have F:=aj3 @eCP @ZaY @Zbl;refine gNr ?_;clear F;refine gK 58 ?_
   have F:=aj5 l1 @ZcL @ZaY @Zbl @eCP;refine gP 1 ?_;clear F;have hsn:Zaa ts++[Zab t3]=Zaa (ts++[t3]):=by rw [ZbN,Zck]
   rw [hsn];refine gS 65 fun a3 c3=>?_;refine fR @eCP ?_;have hc:Zab (.mk ((3+k:Nat):Int) ByteArray.empty 0 (ts++[t3]))=[.lit (.int .i64 ((3+k:Nat):Int)),.lit (.string ByteArray.empty),.lit (.int .i64 0),.sl (Zaa (ts++[t3]))]:=by simp only [Zab]
   refine fN 11 @e0P ?_;refine gB ?_;refine fR @eCP ?_;refine pD 65 [] [6,8] ?_;exact (have F:=ai hc tmC;gTE (R:=RTm (Zdp (rawK (d'+1)))) [] ⟨_,hfin (ts++[t3]) (fun v hv=>(Tbg.1 hv).elim (hq2 v) fun hv=>by rw [Tbi.1 hv];exact ht3) (by simp),rfl⟩)
theorem Zv7 (hx:x.Ok) {g:Sgn} (h4:4<=g.ops.length) (h14:g.ops.length<=14):∀ (d:Nat),d<=8->∀ vars list:Bool,ConE (eC x b) 99 [curD b,.agg (Zag g),.one (.lit (.int .i64 d)),.one (.lit (.bool vars)),.one (.lit (.bool list))] (RTm (RawD d)):=by
 intro d
 induction d using Nat.strongRecOn with
 | _ d ih =>
 intro hd8 vars list;have he:=hx.okC (b:=b);rw [Zag] at ih ⊢;have c2:=ZbS (b:=b) hx (n:=2) (by decide) (by decide);have c3:=ZbS (b:=b) hx (n:=3) (by decide) (by decide);have c5:=ZbS (b:=b) hx (n:=5) (by decide) (by decide);have b2:=ZbH (b:=b) hx (n:=2) (by decide) (by decide);have hpos:=ZoF d;have hvar:∀ (nm:ByteArray) (so:Int),nm.size<=12->0<=so∧so<=1000->RawD d (.mk (-1) nm so []):=fun nm so h1 h2=>⟨(Zg2 (op:=-1) (ts:=[]) (k:=0) (by decide) h1 h2 (fun t ht=>by cases ht)).mono (by simp;omega),by simp [depthTm,depthTms]⟩
 have hcst:∀ k:Nat,k<=2->RawD d (.mk (k:Int) ByteArray.empty 0 []):=fun k hk=>⟨(Zg2 (op:=(k:Int)) (so:=0) (nm:=ByteArray.empty) (ts:=[]) (k:=0) om (by decide) om (fun t ht=>by cases ht)).mono (by simp;omega),by simp [depthTm,depthTms]⟩;refine gIE (ts:=[.cell 10 34]) 316991230235621095696433708127 Tryz.func99 ?_;refine fN 1 @eCP ?_;refine gB ?_;refine fR @eCP ?_;generalize decide ((1:Int) < _)=dp;refine fN 2 @eCP ?_
 refine gM (ι:=Bool) [24] [] (fun y=>[(24,A.d (.one (.lit (.bool y))))]) (fun y=>[]) (fun y=>True) ?_ (fun y hy=>Exists.intro _ (ai (Wk.refl _) ?_))
 ·refine gB ?_
  cases vars
  ·refine fR @eCP ?_;have F:=@eCP;refine gG ?_;exact ⟨false,trivial,gw,gw⟩
  ·have F:=@eCP;refine gCE (c3) ?_;clear F;rintro r ⟨y,rfl⟩;refine fR @eCP ?_;have F:=@eCP;refine gG ?_;exact ⟨y,trivial,gw,gw⟩
 cases y with
 | true =>
  refine fN 3 @eCP ?_;refine gB ?_;have F:=@eCP;refine gCE (ZoG hx) ?_;clear F;rintro r ⟨nm,hnm,rfl⟩;refine fR @eCP ?_
  cases list
  ·refine fN 6 @eCP ?_;refine gB ?_;have F:=@eCP;refine gCE (b2) ?_;clear F;rintro r ⟨k,hk,rfl⟩;refine fC @eCP ((Zfe nm k).cu hx) ?_;refine fR @tmC ?_;exact (have F:=tmC;gTE (R:=RTm (RawD d)) [] ⟨_,hvar nm k hnm om,rfl⟩)
  ·refine fN 5 @eCP ?_;refine gB ?_;refine fC @eCP ((Zfe nm 2).cu hx) ?_;refine fR @tmC ?_;exact (have F:=tmC;gTE (R:=RTm (RawD d)) [] ⟨_,hvar nm 2 hnm (by decide),rfl⟩)
 | false =>
 refine fN 7 @eCP ?_;refine gM (ι:=Bool) [40] [] (fun y=>[(40,A.d (.one (.lit (.bool y))))]) (fun y=>[]) (fun y=>y=false->1<=d) ?_ (fun y hy=>Exists.intro _ (ai (Wk.refl _) ?_))
 ·refine gB ?_;by_cases h0:d=0
  ·have q1:((d:Int)<=0)=True:=eq_true om;refine fR (ai @q1 @eCP) ?_;have F:=@eCP;refine gG ?_;exact ⟨true,(by simp),gw,gw⟩
  ·have q1:((d:Int)<=0)=False:=eq_false om;have F:=ai @q1 @eCP;refine gCE (c5) ?_;clear F;rintro r ⟨y,rfl⟩;refine fR @eCP ?_;have F:=@eCP;refine gG ?_;exact ⟨y,(fun _=>om),gw,gw⟩
 cases y with
 | true =>
  refine fN 8 @eCP ?_;refine gM (ι:=Bool) [49] [] (fun y=>[(49,A.d (.one (.lit (.bool y))))]) (fun y=>[]) (fun y=>True) ?_ (fun y hy=>Exists.intro _ (ai (Wk.refl _) ?_))
  ·refine gB ?_
   cases list
   ·refine fR @eCP ?_;have F:=@eCP;refine gG ?_;exact ⟨false,trivial,gw,gw⟩
   ·cases dp
    ·refine fR @eCP ?_;have F:=@eCP;refine gG ?_;exact ⟨true,trivial,gw,gw⟩
    ·have F:=@eCP;refine gCE (c2) ?_;clear F;rintro r ⟨y,rfl⟩;refine fR @eCP ?_;have F:=@eCP;refine gG ?_;exact ⟨y,trivial,gw,gw⟩
  cases y
  ·refine fN 10 @eCP ?_;refine gB ?_;have F:=@eCP;refine gCE (b2) ?_;clear F;rintro r ⟨k,hk,rfl⟩;refine fR @eCP ?_;have hc:=enc0 (k:Int) 0 ByteArray.empty;exact (have F:=ai hc tmC;gTE (R:=RTm (RawD d)) [] ⟨_,hcst k om,rfl⟩)
  ·have hc:=enc0 ((2:Nat):Int) 0 ByteArray.empty;refine fG @eCP ?_;exact (have F:=ai hc tmC;gTE (R:=RTm (RawD d)) [] ⟨_,hcst 2 om,rfl⟩)
 | false =>
 obtain ⟨d',rfl⟩:∃ d',d=d'+1:=⟨d - 1,by have:=hy rfl;omega⟩;have ih:=ih d' om om;clear hy;have w2:IntKind.i64.wrap (((d'+1:Nat):Int) - 1)=(d':Int):=Za2 om om om;have w1:IntKind.i64.wrap ((g.ops.length:Int) - 3)=((g.ops.length - 3:Nat):Int):=Za2 om om om
 have hfin:∀ (o:Nat) (us:List Tm),o<=20->(∀ t∈us,RawD d' t)->us.length<=2->RawD (d'+1) (.mk (o:Int) ByteArray.empty 0 us):=fun o us ho hu hl=>⟨(Zg2 (op:=(o:Int)) (so:=0) (nm:=ByteArray.empty) om (by decide) om fun t ht=>(hu t ht).1).mono (by
  have:us.length * rawK d'<=3 * rawK d':=Nat.mul_le_mul_right _ om;simp only [rawK];omega),by have:=ZgL fun t ht=>(hu t ht).2;rw [depthTm];omega⟩
 have hec:∀ (o:Int) (us:List Tm),Zab (.mk o ByteArray.empty 0 us)=[.lit (.int .i64 o),.lit (.string ByteArray.empty),.lit (.int .i64 0),.sl (Zaa us)]:=fun o us=>by simp only [Zab]
 refine fN 11 @eCP ?_;refine gM (ι:=Bool) [58] [] (fun y=>[(58,A.d (.one (.lit (.bool y))))]) (fun y=>[]) (fun y=>True) ?_ (fun y hy=>Exists.intro _ (ai (Wk.refl _) ?_))
 ·cases list
  ·have F:=@eCP;refine gG ?_;exact ⟨false,trivial,gw,gw⟩
  ·cases dp
   ·have F:=@eCP;refine gG ?_;exact ⟨true,trivial,gw,gw⟩
   ·have F:=@eCP;refine gG ?_;exact ⟨false,trivial,gw,gw⟩
 cases y with
 | true =>
  refine fN 12 @eCP ?_;have F:=eCP;refine gN0 14 [0,1,2,3,4,6,7,8,9,10] [5,11,12,13] ?_;clear F;have F:=ai w2 @eCP;refine gNd ?_;clear F;have F:=eCP;refine gNE (ih vars false) ?_;clear F;rintro r ⟨t1,ht1,rfl⟩;have F:=eCP;refine gNE (ih vars true) ?_;clear F;rintro r ⟨t2,ht2,rfl⟩;have F:=aj3 @eCP @ZaY @Zbl;refine gNr ?_;clear F;refine fR @eCP ?_;have hc:=hec ((5:Nat):Int) [t1,t2];have e2:Zaa [t1,t2]=[Zab t1,Zab t2]:=by simp only [Zaa]
  exact (have F:=aj3 hc e2 @eCP;gTE (R:=RTm (RawD (d'+1))) [] ⟨_,hfin 5 [t1,t2] (by decide) (fun t ht=>by simp only [Tbf,List.not_mem_nil,or_false] at ht;rcases ht with rfl | rfl <;> assumption) (Tai _),rfl⟩)
 | false =>
 refine fN 13 @eCP ?_;refine gB ?_;have F:=ai @w1 @eCP;refine gCE (ZbH (b:=b) hx (n:=g.ops.length - 3) om om) ?_;clear F;rintro r ⟨k,hk,rfl⟩;have w3:IntKind.i64.wrap (3+(k:Int))=((3+k:Nat):Int):=Za2 om om om;refine fR (ai @w3 @eCP) ?_;refine fN 14 @eCP ?_;refine gB ?_;refine fR @eCP ?_;refine gM (ι:=Nat) [13,80] [] (fun o=>[(13,A.d (.one (.lit (.int .i64 o))))]) (fun o=>[]) (fun o=>o<=20) ?_ (fun o ho=>Exists.intro _ (ai (Wk.refl _) ?_))
 ·cases list
  ·have F:=@eCP;refine gG ?_;exact ⟨3+k,om,gw,gw⟩
  ·have F:=@eCP;refine gG ?_;exact ⟨5,om,gw,gw⟩
 refine fN 16 @eCP ?_;refine gM (ι:=Bool) [86] [] (fun y=>[(86,A.d (.one (.lit (.bool y))))]) (fun y=>[]) (fun y=>True) ?_ (fun y hy=>Exists.intro _ (ai (Wk.refl _) ?_))
 ·refine gB ?_;by_cases h5:o=5
  ·have q1:((o:Int)=5)=True:=eq_true om
   cases dp
   ·refine fR (ai @q1 @eCP) ?_;have F:=@eCP;refine gG ?_;exact ⟨true,trivial,gw,gw⟩
   ·refine fR (ai @q1 @eCP) ?_;have F:=@eCP;refine gG ?_;exact ⟨false,trivial,gw,gw⟩
  ·have q1:((o:Int)=5)=False:=eq_false om;refine fR (ai @q1 @eCP) ?_;have F:=@eCP;refine gG ?_;exact ⟨false,trivial,gw,gw⟩
 refine gM (ι:=Nat) [13,86] [] (fun p=>[(13,A.d (.one (.lit (.int .i64 p))))]) (fun p=>[]) (fun p=>p<=20) ?_ (fun p hp=>Exists.intro _ (ai (Wk.refl _) ?_))
 ·cases y
  ·have F:=@eCP;refine gG ?_;exact ⟨o,ho,gw,gw⟩
  ·have F:=@eCP;refine gG ?_;exact ⟨4,(by decide),gw,gw⟩
 refine fN 18 @eCP ?_;refine gB ?_;have F:=ai @w2 @eCP;refine gCE (ih vars list) ?_;clear F;rintro r ⟨t1,ht1,rfl⟩;have F:=aj3 @eCP @ZaY @Zbl;refine gBs ?_;clear F;have e1:[Zab t1]=Zaa [t1]:=(Zck t1).symm;rw [e1];refine gS 95 fun a1 c1=>?_;refine fR @eCP ?_;refine pE [95] [1000] ZeR ?_;refine fN 19 @eCP ?_;refine gB ?_;refine fR @eCP ?_;generalize decide ((3:Int) < _)=y4
 cases y4
 ·have hc:=hec (p:Int) [t1];refine fN 21 @eCP ?_;refine gB ?_;refine fR @eCP ?_;refine pD 1000 [] [10,14] ?_;exact (have F:=ai hc @eCP;gTE (R:=RTm (RawD (d'+1))) [] ⟨_,hfin p [t1] hp (fun t ht=>by rw [Tbi.1 ht];exact ht1) (Nat.le_succ _),rfl⟩)
 ·have l1:((Zaa [t1]).length+1<=maxApp)=True:=eq_true (by rw [Zai];unfold maxApp;simp);refine fN 20 @eCP ?_;have F:=eCP;refine gN0 10 [0,1,2,3,4,5,6,7] [8,9] ?_;clear F;have F:=ai w2 @eCP;refine gNd ?_;clear F;have F:=eCP;refine gNE (ih vars list) ?_;clear F;rintro r ⟨t2,ht2,rfl⟩;have F:=aj3 @eCP @ZaY @Zbl;refine gNr ?_;clear F;refine gK 100 ?_;have F:=aj5 l1 @ZcL @ZaY @Zbl @eCP;refine gP 1 ?_;clear F
  have hsn:Zaa [t1]++[Zab t2]=Zaa [t1,t2]:=by simp only [Zaa,Taf,Tah]
  rw [hsn];refine gS 109 fun a3 c3=>?_;refine fR @eCP ?_;have hc:=hec (p:Int) [t1,t2];refine fN 21 @eCP ?_;refine gB ?_;refine fR @eCP ?_;refine pD 109 [] [10,14] ?_;exact (have F:=ai hc @eCP;gTE (R:=RTm (RawD (d'+1))) [] ⟨_,hfin p [t1,t2] hp (fun t ht=>by simp only [Tbf,List.not_mem_nil,or_false] at ht;rcases ht with rfl | rfl <;> assumption) (Tai _),rfl⟩)
end
section
variable {x:Src} {b:Nat} {g:Sgn}
theorem Zxz (hx:x.Ok) (h4:4<=g.ops.length) (h14:g.ops.length<=14) {d:Nat} (hd:d<=8) (vars:Bool):ConE (eC x b) 60 [curD b,.agg (Zag g),.one (.lit (.int .i64 d)),.one (.lit (.bool vars))] (RTm (RawD d)):=by
 have he:=hx.okC (b:=b);have cW:=fun l=>Zv7 (b:=b) hx h4 h14 d hd vars l;rw [Zag] at cW ⊢;have c2:=ZbS (b:=b) hx (n:=2) (by decide) (by decide);have c3:=ZbS (b:=b) hx (n:=3) (by decide) (by decide);refine gIE (ts:=[.cell 8 34]) 815 Tryz.func60 ?_;refine fN 1 @eCP ?_;refine gB ?_;refine fR @eCP ?_;generalize decide ((1:Int) < _)=dp;refine fN 2 @eCP ?_;have F:=eCP;refine gN0 18 [0,1,2,3] [4,5,6,7,8,9,10,11,12,13,14,15,16,17] ?_;clear F
 have F:=eCP;refine gNd ?_;clear F
 cases dp
 ·have F:=eCP;refine gNE c3 ?_;clear F;rintro r ⟨y,rfl⟩;have F:=eCP;refine gNE (cW y) ?_;clear F;rintro r ⟨t,ht,rfl⟩;have F:=tmC;refine gNr ?_;clear F;refine fR @tmC ?_;exact (have F:=tmC;gTE (R:=RTm (RawD d)) [] ⟨_,ht,rfl⟩)
 ·have F:=eCP;refine gNE c2 ?_;clear F;rintro r ⟨y,rfl⟩
  cases y
  ·have F:=eCP;refine gNE (cW false) ?_;clear F;rintro r ⟨t,ht,rfl⟩;have F:=tmC;refine gNr ?_;clear F;refine fR @tmC ?_;exact (have F:=tmC;gTE (R:=RTm (RawD d)) [] ⟨_,ht,rfl⟩)
  ·have F:=eCP;refine gNE (cW true) ?_;clear F;rintro r ⟨t,ht,rfl⟩;have F:=tmC;refine gNr ?_;clear F;refine fR @tmC ?_;exact (have F:=tmC;gTE (R:=RTm (RawD d)) [] ⟨_,ht,rfl⟩)
def RDr (P:Tm->Prop) (r:List D) (pm:List Bk):Prop:=∃ u,P u∧RTop u r pm
theorem ZzN:∀ d,d<=5->rawK d<=364:=by decide
theorem Zsl (hx:x.Ok) (hok:ZbJ g) (hg:SgnOk g) (h4:4<=g.ops.length) (hz:TermOk g zTm) {d:Nat} (hd:d<=5) (vars:Bool):ConP (eC x b) 24 [curD b,.agg (Zag g),.one (.lit (.int .i64 d)),.one (.lit (.bool vars))] [] (RDr fun u=>TermOk g u∧depthTm u<=d+1):=by
 have he:=hx.okC (b:=b);have cR:=Zxz (b:=b) hx h4 hg.len (d:=d) om vars;have cC:∀ t,RawD d t->ConP (eC x b) 59 [.agg (Zag g),.agg (Zab t)] [] (Zi7 g (depthTm t)):=fun t ht=>(Zla hok hg (sizeTm t+1) (Tan _) ht.1.1 (by have:=ht.1.2.1;have:=ZzN d hd;omega)).cu hx;rw [Zag] at cR cC ⊢;refine gIP (ts:=[.cell 8 34]) [] 67120943 Tryz.func24 ?_;refine fG @tmC ?_;have F:=@tmC;refine gL (ι:=Nat) [9,10,11,13,26] [] (fun i=>[(9,A.d (.one (.lit (.int .i64 i))))]) (fun i=>[]) (fun i=>i<=8) (fun i=>8 - i) (0) (Taj _) (fun i hi=>?_);clear F
 by_cases h1:i < 8
 ·have q1:=lT i 8;have wi:=Zap (k:=i) om;refine fN 4 (ai @q1 @tmC) ?_;refine gF0 ?_;refine gLa 8 9 ?_;refine gLa 9 11 ?_;have F:=tmC;refine gNa 10 [0,1,2,3,4] [5,6,7,8,9] ?_;clear F;have F:=tmC;refine gNd ?_;clear F;have F:=tmC;refine gNE cR ?_;clear F;rintro r ⟨t,ht,rfl⟩;have F:=tmC;refine gNP [1000] (cC t ht) ?_;clear F;rintro r pm ⟨u,ok,hu,a,k,rfl,rfl⟩;have F:=ai @eCP @ZeG;refine gNr ?_;clear F
  refine fR (ai @ZeG @eCP) ?_
  cases ok with
  | true =>
   refine fN 6 @eCP ?_;refine gB ?_;refine fR @eCP ?_;refine fG @eCP ?_;exact (have F:=eCP;gTP (R:=RDr fun u=>TermOk g u∧depthTm u<=d+1) [1000] ⟨u,⟨(hu rfl).1,Tbd (hu rfl).2 ht.2⟩,a,k,rfl,rfl⟩)
  | false =>
   refine pD 1000 [] [10] ?_;have F:=ai @wi @eCP;refine gG ?_;exact ⟨i+1,om,gw,gw,om⟩
 ·have q1:=lF i 8;refine fN 7 (ai @q1 @tmC) ?_;refine gB ?_;have F:=tmC;refine gXc ?_;clear F;refine fR @eCP ?_;refine pN 1000 34 4 ?_;exact (have F:=eCP;gTP (R:=RDr fun u=>TermOk g u∧depthTm u<=d+1) [1000] ⟨zTm,⟨hz,by simp [zTm,depthTm,depthTms]⟩,none,0,rfl,rfl⟩)
theorem ZmE (hx:x.Ok) (hok:ZbJ g) (hg:SgnOk g) (h4:4<=g.ops.length) (hz:TermOk g zTm) {d:Nat} (hd:d<=5) (vars:Bool):ConP (eC x b) 24 [curD b,.agg (Zag g),.one (.lit (.int .i64 d)),.one (.lit (.bool vars))] [] (RDr (TermOk g)):=by
 have h:=Zsl (b:=b) hx hok hg h4 hz hd vars;exact ⟨h.1,fun w S vs hS hE hG hd2 hp hvs=>(h.2 w S vs hS hE hG hd2 hp hvs).mono fun en w' ⟨v,r,pm',q1,⟨u,hu,hq⟩,q2⟩=>⟨v,r,pm',q1,⟨u,hu.1,hq⟩,q2⟩⟩
theorem Zsm {e:Env} {f:FuncId} {xs:List D} {P:Tm->Prop} (h:ConP e f xs [] (RDr P)):ConE e f xs (RTm P):=by
 refine ⟨h.1,fun w S vs hS hE hG hvs=>(h.2 w S vs hS hE hG (fun x hx=>by cases hx) trivial hvs).mono fun en w' ⟨v,r,pm,h1,⟨u,hP,a,cap,hr,hpm⟩,hk,hg,hp,_,ha⟩=>?_⟩;subst hr hpm;refine ⟨v,_,h1,⟨u,hP,rfl⟩,hk.up fun c q=>q.elim id fun ⟨x,hx,_⟩=>(by cases hx),hg,?_⟩;obtain ⟨q1,q2⟩:=hp _ Tas;have q1:ZaR w' _ _ 4 (Zaa u.args) (.slice a (Zaa u.args).length cap):=q1;obtain ⟨vs1,e1,hr1⟩:=ha
 ·refine ⟨vs1,e1,?_⟩
  match vs1,hr1 with
  | [u0,u1,u2,u3],hr1 =>
   simp only [topC,Zad,and_true] at hr1;obtain ⟨k0,k1,k2,k3⟩:=hr1;have hec:Zab u=[.lit (.int .i64 u.op),.lit (.string u.name),.lit (.int .i64 u.sort),.sl (Zaa u.args)]:=by cases u;simp only [Zab,Tm.op,Tm.name,Tm.sort,Tm.args]
   rw [hec];simp only [Zad,and_true];refine ⟨k0,k1,k2,?_⟩;simp only [Rep] at k3;subst k3;refine Rep.mono q1.rep fun c hc=>?_;rcases hc with ⟨hc,_⟩ | hc
   ·rcases hc with hc | ⟨x,hx,_⟩ | hc
    ·exact .inl hc
    ·cases hx
    ·exact .inr hc
   ·rcases q2 c hc with ⟨x,hx,_⟩ | hc'
    ·cases hx
    ·refine .inr ⟨hc',?_⟩;rcases q1.2.2 with ⟨_,a',e'⟩ | ⟨g,cap',cur,e',hc0,hg',_⟩
     ·injection e' with _ _ e3
      rw [e3] at hc
      cases a <;> simp [vblk] at hc
     ·rw [e'] at hc;simp only [vblk] at hc;split at hc
      ·cases hc
      ·injection hc with hc
       subst hc;exact hg'
theorem ZiA (hx:x.Ok) (hok:ZbJ g) (hg:SgnOk g) (h4:4<=g.ops.length) (hz:TermOk g zTm) {d:Nat} (hd:d<=5) (vars:Bool):ConE (eC x b) 24 [curD b,.agg (Zag g),.one (.lit (.int .i64 d)),.one (.lit (.bool vars))] (RTm (TermOk g)):=Zsm (ZmE hx hok hg h4 hz hd vars)
end
section
variable {x:Src} {b:Nat} {g:Sgn}
end
structure DrOk (g:Sgn):Prop where
 ok:ZbJ g
 sg:SgnOk g
 h4:4<=g.ops.length
 hz:TermOk g zTm
 hb:Zal (Zag g)<=1048576
def smI (n:Int):Bool:=decide (-1<=n∧n<=1000)
theorem ZiB {n:Int} (h:smI n=true):I64 n:=by
 have:=of_decide_eq_true h;exact ⟨om,om⟩
def Zle (g:Sgn):Bool:=g.sorts.names.all (fun x=>decide (x.size<=12)) && g.sorts.subs.all (fun p=>smI p.1 && smI p.2) && g.ops.all (fun o=>decide (o.name.size<=12) && o.decls.all (fun d=>d.args.all smI && smI d.res) && smI o.unit)
theorem Zv8 {g:Sgn} (h:Zle g=true):ZbJ g:=by
 simp only [Zle,Tar,List.all_eq_true,decide_eq_true_eq] at h;obtain ⟨⟨h1,h2⟩,h3⟩:=h;refine ⟨⟨fun x hx=>Tbd (h1 x hx) (by decide),fun p hp=>⟨ZiB (h2 p hp).1,ZiB (h2 p hp).2⟩⟩,fun o ho=>?_⟩;obtain ⟨⟨q1,q2⟩,q3⟩:=h3 o ho;exact ⟨Tbd q1 (by decide),fun d hd=>⟨fun k hk=>ZiB ((q2 d hd).1 k hk),ZiB (q2 d hd).2⟩,ZiB q3⟩
theorem ZxA {g:Sgn} {o:Opr} {d:Dcl} (h0:g.ops[0]?=some o) (h1:o.decls[0]?=some d) (h2:d.args=[]) (h3:o.assoc=false):TermOk g zTm:=by
 refine ⟨by simp [zTm,sizeTm,sizeTms],by simp [zTm,depthTm,depthTms],ZaI.2 ⟨.inr ⟨o,d,⟨by simp [zTm,Tm.op],h0,h1,rfl,rfl,fun h=>(by rw [h3] at h;cases h),fun _=>by rw [h2];rfl⟩⟩,fun a ha=>by simp [zTm,Tm.args] at ha,.inr fun o' d' _ _ i a ha=>by simp [zTm,Tm.args] at ha⟩⟩
theorem ZAr {z u hc fa fc fu:Bool} {w:Option Bool} (h:z=true∨(fa=false∧fc=false∧fu=false)):DrOk (sigD z u hc fa fc fu w):=by
 have H:∀ z u hc fa fc fu w',(Zle (sigD z u hc fa fc fu none)=true∧Zal (Zag (sigD z u hc fa fc fu none))<=1048576)∧Zle (sigD z u hc fa fc fu (some w'))=true∧Zal (Zag (sigD z u hc fa fc fu (some w')))<=1048576:=by decide +kernel
 refine ⟨Zv8 ?_,ZzK h,by cases w <;> exact Nat.le_of_ble_eq_true rfl,ZxA (o:=⟨nm1 97,[⟨[],0⟩],false,false,0⟩) (d:=⟨[],0⟩) (by cases w <;> rfl) rfl rfl rfl,?_⟩
 ·cases w with
  | none=>exact (H z u hc fa fc fu true).1.1
  | some w=>exact (H z u hc fa fc fu w).2.1
 ·cases w with
  | none=>exact (H z u hc fa fc fu true).1.2
  | some w=>exact (H z u hc fa fc fu w).2.2
section
variable {x:Src} {b:Nat}
def curS (x:Src) (b:Nat):Bk:=.set (fun c=>c=b) fun w=>∃ i h:Int,0<=i∧(∃ arr ty,w.heap[b]?=some (.cells arr ty (0,0))∧arr.size=3)∧Zaf w (fun _=>False) b 0 (curC x i h)
theorem ZAs {i h:Int} (hi:0<=i):ZgV [.var (some b) (curC x i h)] [curS x b]:=fun w S h1 h2=>by
 obtain ⟨q1,q2,⟨arr,ty,q3,q4⟩,q5⟩:=h1 _ (Tbi.2 rfl);refine ⟨fun y hy=>?_,⟨fun y hy=>(by cases hy),trivial⟩,fun g ⟨y,hy,hg⟩=>?_⟩
 ·obtain rfl:=Tbi.1 hy;refine ⟨fun c hc=>by subst hc;exact ⟨q1,q2⟩,⟨i,h,hi,⟨arr,ty,q3,by rw [q4];rfl⟩,ZeI (fun _=>rfl) q5⟩,fun w w' hz hE ⟨i,h,h0,h2,h3⟩=>⟨i,h,h0,by rw [hE b rfl];exact h2,ZeI (fun o=>Zbk (hE b rfl) o) h3⟩⟩
 ·obtain rfl:=Tbi.1 hy;exact ⟨_,Tbi.2 rfl,Eq.symm hg⟩
theorem pCur {mask:Nat} {c:Code} {s s2:List (Nat × A)} {m m2 m3:List (Nat × Bk)} {Q:PX->St->Prop} {i h:Int} (k:Nat) (hi:0<=i) (hK:pwp (eC x b) mask c ⟨s2,m3⟩ Q) (hpm:getM m [k]=some [.var (some b) (curC x i h)]:=by exact sny)
  (hs:Zcd ([k]++[k]) s=s2:=by exact snv) (hr:Zci ([k]++[k]) m=m2:=by exact snv) (h3:remM k (zipM [k] [curS x b]++m2)=m3:=by exact snv):pwp (eB x) mask c ⟨s,m⟩ Q:=by
 refine pE (m3:=zipM [k] [curS x b]++m2) [k] [k] (ZAs hi) ?_ hpm (by simp) (by rfl) hs hr rfl;subst h3;exact ZzH (E2:=fun c=>c=b) (G2:=curG x b) k Zel.st (by show gm ((k,curS x b)::m2) k=_;simp [gm,curS]) (fun hd=>⟨Zel,fun w h=>⟨hd b rfl,h⟩⟩) fun _=>hK
end
section
variable {x:Src}
end
theorem ConP.args {e:Env} {f:FuncId} {lits data:List D} {pm:List Bk} {R:List D->List Bk->Prop} (h:ConP e f data pm R) (hd:∀ (w:World) (S:Nat->Prop) (vs:List Value),Zar w S lits vs->Zar w S data vs):ConP e f lits pm R:=⟨h.1,fun w S vs hS hE hG hp ha hvs=>h.2 w S vs hS hE hG hp ha (hd w S vs hvs)⟩
theorem ZAt {d:D} {rows:List (List C)} (w:World) (S:Nat->Prop) (vs:List Value) (h:Zar w S [d,.clip rows] vs):Zar w S [d,.one (.sl rows)] vs:=by
 match vs,h with
 | [x,y],h=>exact ⟨h.1,h.2.1.1,trivial⟩
def Zlf (d:D) (bk:Bk) (r:List D) (pm:List Bk):Prop:=r=[d]∧pm=[bk]
theorem Zlg {u:Tm} (hu:okTm u) (hb:Zal (Zab u)<=1048576) (a:Option Addr) (k:Nat):ConP e0 54 [.agg (topC u a k),.one (.sl [])] [topB u a k] (Zlf (.one (.sl (Zaa (ZaB u)))) (topB u a k)):=by
 have hlen:=Zf5 u;obtain ⟨op,nm,so,args⟩:=u;have hall:∀ x∈args,Zal (Zab x)<=1048576:=fun x hx=>by
  obtain ⟨i,hi⟩:=Tbj hx;have hi':(Zaa args)[i]?=some (Zab x):=by rw [Zbo,hi];rfl
  have h2:=ZdC hi';simp only [Zab,Zal,Zc9] at hb;omega
 have hv0:ZaB (.mk op nm so args)=colT (Zav (.mk op nm so args)) []:=rfl;rw [hv0,ZeG];simp only [topB,Tm.op,Tm.name,Tm.sort,Tm.args];have hn:=Zai args;refine gIP (ts:=[.slot 4]) [1000] 1048887 Tryz.func54 ?_;by_cases ho:op=-1
 ·have e1:Zav (.mk op nm so args)=[.mk (-1) nm so []]:=by simp only [Zav,if_pos ho]
  rw [e1];have hI:=Ziw [] (.mk (-1) nm so []) trivial (Zj7 hu) (by simp);rw [Ze7] at hI;refine fN 2 @ho ?_;refine gB ?_;refine fC @e0P (Zfe nm so) ?_;refine fC @e0P (hI) ?_;refine fR @e0P ?_;exact (have F:=e0P;gTP (R:=Zlf (.one (.sl (Zaa (colT [.mk (-1) nm so []] [])))) (.buf (some (a,k)) 34 4 (Zaa args))) [1000] ⟨rfl,rfl⟩)
 ·have e1:Zav (.mk op nm so args)=Zaz args:=by simp only [Zav,if_neg ho]
  rw [e1] at hlen ⊢;have hk:Zaw args:=by simp only [okTm] at hu;exact hu.2.2.2
  refine fG @ho ?_;have F:=ai ((fun (r:List Tm)=>(colT_nil0:colT (Zaz []) r=r))) @Ze7;refine gL (ι:=Nat) [1,5,20] [] (fun x=>[(5,.d (.one (.lit (.int .i64 (x:Int))))),(1,.d (.one (.sl (Zaa (colT (Zaz (args.take x)) [])))))]) (fun x=>[]) (fun x=>x<=args.length) (fun x=>args.length - x) (0) (Taj _) (fun x hx=>?_);clear F;by_cases hlt:x < args.length
  ·obtain ⟨b,hg⟩:∃ b,args[x]?=some b:=⟨_,Taa hlt⟩;have q2:((x:Int) < ((Zaa args).length:Int))=True:=eq_true (by rw [hn];omega);have q4:IntKind.i64.wrap ((x:Int)+1)=(x:Int)+1:=IntWalk.i64_in _ (by have:=hx;simp only [Zab,Zal,Zc9] at hb;omega);have hvt:=ZeJ hg;have hle:=Zfv args (x+1);rw [hvt,Tae] at hle;have hcl:=Zf4 (Zaz (args.take x)) [];have hbb:=hall b (Tac hg);have hvb:=Zf5 b;have hvl:(Zaz args).length<=1048577:=om
   have hcon:=Zgr _ b (Tan _) (hk.mem (Tac hg)) hbb (colT (Zaz (args.take x)) []) (Zi8 (Zfw (ZhA x hk)) trivial) (by simp only [Tak,Nat.zero_add] at hcl;omega);rw [<- ZoA,<- hvt] at hcon;have hge:(Zaa args)[x]?=some (Zab b):=by rw [Zbo,hg];rfl
   have hl2:x < (Zaa args).length:=by rw [hn];exact hlt
   refine fN 6 @q2 ?_;refine gB ?_;refine fC (aj6 @q2 @hge @hl2 @Zbl @ZaY @Zbq) (hcon) ?_;refine fR @e0P ?_;have F:=@q4;refine gG ?_;exact ⟨x+1,hlt,gw,gw,om⟩
  ·obtain rfl:x=args.length:=by omega
   have q2:=lF ((Zaa args).length) ((Zaa args).length);rw [Tap,<- hn];refine fG @q2 ?_;exact (have F:=e0P;gTP (R:=Zlf (.one (.sl (Zaa (colT (Zaz args) [])))) (.buf (some (a,k)) 34 4 (Zaa args))) [1000] ⟨rfl,rfl⟩)
theorem ZoH {u:Tm} (hu:okTm u) (hb:Zal (Zab u)<=1048576) (a:Option Addr) (k:Nat):ConP e0 17 [.agg (topC u a k)] [topB u a k] (Zlf (.one (.sl (Zaa (ZaB u)))) (topB u a k)):=by
 have hc:=(Zlg hu hb a k).args ZAt;rw [ZeG] at hc ⊢;refine gIP (ts:=[.slot 2]) [1000] 7 Tryz.func17 ?_;refine fN 1 @e0P ?_;refine gB ?_;have F:=@e0P;refine gCP [1000] [1000] (hc) ?_;clear F;rintro r pm ⟨rfl,rfl⟩;simp only [setA,retA,zipM,Taf,Tah];refine fR @e0P ?_;exact (have F:=e0P;gTP (R:=Zlf (.one (.sl (Zaa (ZaB u)))) (topB u a k)) [1000] ⟨rfl,rfl⟩)
theorem ZhY:∀ (a b:List (List C)),Zas (a++b)=Zas a+Zas b
 | [],b=>by simp [Zas]
 | x::a,b=>by simp only [Taf,Zas,ZhY a b];omega
def Zg3 (t:Tm):Prop:=okTm t∧Zal (Zab t)<=2000
def Zsn (r:List D) (pm:List Bk):Prop:=∃ t,Zg3 t∧r=[.agg (Zab t)]∧pm=[]
section
variable {x:Src} {b:Nat} {g:Sgn}
theorem Zwa (hx:x.Ok) (hd:DrOk g) {u:Tm} (hu:TermOk g u) (a:Option Addr) (k:Nat):ConP (eC x b) 37 [curD b,.agg (Zag g),.agg (topC u a k)] [topB u a k] Zsn:=by
 have he:=hx.okC (b:=b);have c20:=ZbH (b:=b) hx (n:=20) (by decide) (by decide);have cR:=Zsk (b:=b) hx (n:=7) (by decide) (by decide) 2 (by decide);have huo:=hu.ok hd.sg;have hub:Zal (Zab u)+1<=780:=by have h1:=ZdO hu.form;have h2:=hu.size;omega
 rw [Zag,ZeG];obtain ⟨op,nm,so,args⟩:=u;simp only [topB,Tm.op,Tm.name,Tm.sort,Tm.args];have hc:∀ op nm so args,Zab (.mk op nm so args)=[.lit (.int .i64 op),.lit (.string nm),.lit (.int .i64 so),.sl (Zaa args)]:=fun op nm so args=>by simp only [Zab]
 have hn:=Zai args;rw [ZgY] at hub;have hbk:∀ (op so:Int) (nm:ByteArray) (l:List Tm),nm.size<=1000->l.length+Zas (Zaa l)<=900->Zal (Zab (.mk op nm so l))<=2000:=fun op so nm l h1 h2=>by rw [ZgY];omega
 simp only [okTm] at huo;obtain ⟨ho1,ho2,ho3,ho4⟩:=huo;refine gIP (ts:=[.cell 6 34]) [1000] 17592739767143 Tryz.func37 ?_;refine fN 1 @eCP ?_;refine gB ?_;have F:=@eCP;refine gCE (c20) ?_;clear F;rintro r ⟨j,hj,rfl⟩;refine fR @eCP ?_;refine gM (ι:=Tm) [] [5,1000] (fun v=>[]) (fun v=>[(5,.var none (Zab v))]) (fun v=>Zg3 v) ?_ (fun v hv=>Exists.intro _ (ai (Wk.refl _) ?_))
 ·by_cases j0:j=0
  ·have q0:((j:Int)=0)=True:=eq_true om;refine fN 3 (ai @q0 @eCP) ?_;refine gB ?_;have F:=@tmC;refine gCE (cR) ?_;clear F;rintro r ⟨t,ht,rfl⟩;refine fR (aj4 @Zbl @ZaY @Zbq @eCP) ?_;exact (have F:=aj4 @Zbl @ZaY @Zbq @eCP;gTP (R:=Zsn) [] ⟨t,⟨ht.1,by have h1:=ht.2.1;have h2:=ht.2.2;simp only [rawK] at h1;omega⟩,rfl,rfl⟩)
  have q0:((j:Int)=0)=False:=eq_false om;by_cases j1:j=1
  ·have q1:((j:Int)=1)=True:=eq_true om;have h2:=hc op ⟨#[120]⟩ so args;refine fN 5 (aj3 @q0 @q1 @eCP) ?_;refine pD 1000 [] [5] ?_;refine fG (aj3 @q0 @q1 @eCP) ?_;rw [<- h2];have F:=@eCP;refine gG ?_;exact ⟨.mk op ⟨#[120]⟩ so args,⟨(by simp only [okTm];exact ⟨ho1,by decide,ho3,ho4⟩),hbk _ _ _ _ (by decide) om⟩,gw,gw⟩
  have q1:((j:Int)=1)=False:=eq_false om;by_cases j2:j=2
  ·have q2:((j:Int)=2)=True:=eq_true om;have hm:((Zaa args).length+1<=maxApp)=True:=eq_true (by rw [hn];unfold maxApp;omega);have h2:=hc op nm so (args++[zTm]);refine fN 7 (aj4 @q0 @q1 @q2 @eCP) ?_;refine gB ?_;have F:=ai @Zft @eCP;refine gP 4 ?_;clear F;refine gK 19 ?_;have F:=aj5 hm @ZcL @ZaY @Zbl @eCP;refine gP 1 ?_;clear F;have hsn:Zaa args++[[.lit (.int .i64 0),.lit (.string ByteArray.empty),.lit (.int .i64 0),.sl []]]=Zaa (args++[zTm]):=by rw [ZbN,Zck,Zft]
   rw [hsn];refine gS 22 fun a3 c3=>?_;have F:=@eCP;refine gP 2 ?_;clear F;refine gD 22 [] [5] ?_;rw [<- h2];refine fR @eCP ?_;have F:=aj4 @q0 @q1 @q2 @eCP;refine gG ?_;exact ⟨.mk op nm so (args++[zTm]),⟨(by simp only [okTm];exact ⟨ho1,ho2,ho3,Zix ho4 ⟨Zor,trivial⟩⟩),hbk _ _ _ _ om (by rw [ZbN,Zck,ZhY,Tae,Zft];simp [Zas,Zal,Zc9];omega)⟩,gw,gw⟩
  have q2:((j:Int)=2)=False:=eq_false om;by_cases j3:j=3
  ·have q3:((j:Int)=3)=True:=eq_true om;refine pD 1000 [] [5] ?_;by_cases hl:1 < args.length
   ·have q5:=lT 1 args.length;refine fN 10 (aj6 @q0 @q1 @q2 @q3 @q5 @tmC) ?_;have hl2:2<=args.length:=hl;obtain ⟨t0,t1,rest,rfl⟩:∃ t0 t1 rest,args=t0::t1::rest:=by
     match args,hl2 with
     | t0::t1::rest,_=>exact ⟨t0,t1,rest,rfl⟩
    have e3:Zaa (t0::t1::rest)=Zab t0::Zab t1::Zaa rest:=by simp only [Zaa]
    have h2:=hc op nm so (t1::t0::rest);have e4:Zaa (t1::t0::rest)=Zab t1::Zab t0::Zaa rest:=by simp only [Zaa]
    have hok:Zg3 (.mk op nm so (t1::t0::rest)):=⟨(by simp only [okTm,Zaw] at ho4 ⊢;exact ⟨ho1,ho2,ho3,ho4.2.1,ho4.1,ho4.2.2⟩),hbk _ _ _ _ om (by simp only [Zaa,Zas,Tag] at hub ⊢;omega)⟩;have hr:=Zai rest;have s2:ZaL 4 (Zaa rest)=true:=ZcL _;rw [e4] at h2;rw [e3];have hrl:(Zaa rest).length<=1000:=by simp only [Tag] at hub;omega
    generalize Zaa rest=L at hr s2 hrl h2 ⊢;have s3:ZaL 4 [Zab t1,Zab t0]=true:=by simp [ZaL,ZaY,Zbl]
    have s1:((2:Int)<=((L.length+1+1:Nat):Int))=True:=eq_true om;have s4:(((L.length+1+1:Nat):Int)<=((L.length+1+1:Nat):Int))=True:=eq_true (Int.le_refl _);have s5:L.take L.length=L:=Tap;have F:=aj9 s1 s2 s3 s4 s5 @Zbl @ZaY @Zbq @eCP;by_cases hL:L=[]
    ·subst hL;clear F;refine gB ?_;have p1:((2:Int)<=((2:Nat):Int))=True:=eq_true (by decide);have p2:(((2:Nat):Int)<=((2:Nat):Int))=True:=eq_true (by decide);have F:=aj6 @p1 @p2 @Zbl @ZaY @Zbq @eCP;refine gP 12 ?_;clear F;have F:=eCP;refine gAe ?_;clear F;refine fR @eCP ?_;rw [<- h2];have F:=ai @hr @eCP;refine gG ?_;exact ⟨.mk op nm so (t1::t0::rest),hok,gw,gw⟩
    ·have hle:([Zab t1,Zab t0]:List (List C)).length+L.length<=maxApp:=by unfold maxApp;simp;omega
     refine gA 13 12 hle (.inr hL) ?_;clear F;refine gS 42 fun a3 c3=>?_;have F:=@eCP;refine gP 2 ?_;clear F;refine gD 42 [] [5] ?_;rw [<- h2];refine fR @eCP ?_;have F:=ai @hr @eCP;refine gG ?_;exact ⟨.mk op nm so (t1::t0::rest),hok,gw,gw⟩
   ·have q5:=lF 1 args.length;have h2:=hc op nm so args;rw [<- h2];have F:=aj8 @q0 @q1 @q2 @q3 @q5 @h2 @hn @eCP;refine gG ?_;exact ⟨.mk op nm so args,⟨(by simp only [okTm];exact ⟨ho1,ho2,ho3,ho4⟩),hbk _ _ _ _ om om⟩,gw,gw⟩
  have q3:((j:Int)=3)=False:=eq_false om;by_cases j4:j=4
  ·have q4:((j:Int)=4)=True:=eq_true om;have h2:=hc op nm 1 args;refine fN 12 (aj6 @q0 @q1 @q2 @q3 @q4 @eCP) ?_;refine pD 1000 [] [5] ?_;refine fG (aj3 @q0 @q1 @eCP) ?_;rw [<- h2];have F:=@eCP;refine gG ?_;exact ⟨.mk op nm 1 args,⟨(by simp only [okTm];exact ⟨ho1,ho2,⟨by decide,by decide⟩,ho4⟩),hbk _ _ _ _ om om⟩,gw,gw⟩
  have q4:((j:Int)=4)=False:=eq_false om;have h2:=hc op nm so args;refine pD 1000 [] [5] ?_;rw [<- h2];have F:=aj6 @q0 @q1 @q2 @q3 @q4 @eCP;refine gG ?_;exact ⟨.mk op nm so args,⟨(by simp only [okTm];exact ⟨ho1,ho2,ho3,ho4⟩),hbk _ _ _ _ om om⟩,gw,gw⟩
 ·refine fN 13 @eCP ?_;refine gB ?_;refine fR (aj4 @Zbl @ZaY @Zbq @eCP) ?_;exact (have F:=aj4 @Zbl @ZaY @Zbq @eCP;gTP (R:=Zsn) [] ⟨v,hv,rfl,rfl⟩)
end
end Go.Proofs.YtmdkimnlbaahbaaGreat
namespace Go.Proofs.YtmdkimnlbaahbaaGreat
open Go.Shelf
end Go.Proofs.YtmdkimnlbaahbaaGreat
namespace Go.Proofs.YtmdkimnlbaahbaaGreat
open Go.RowKit
theorem ZxG {p m:Nat} (h:p &&& m=p) (hp:p≠0) (hm:p≠m):1<=m ^^^ p∧m ^^^ p < m:=by
 have h1:=ZoJ hm;have h2:=(Zrq h).2;have h3:m ^^^ p<=m:=by
  have h4:m ^^^ p<=p ||| (m ^^^ p):=Nat.right_le_or;rw [h2] at h4;exact h4
 have h4:m ^^^ p≠m:=fun e=>hp (by
  have:m ^^^ (m ^^^ p)=m ^^^ m:=by rw [e]
  rw [<- Nat.xor_assoc,Nat.xor_self,Nat.zero_xor] at this;exact this)
 omega
section
variable {g:Sgn} {mc:C}
end
section
variable {g:Sgn}
theorem Zwf (hg:SgnOk g) {op:Int} {o:Opr} (h0:0<=op) (ho:g.ops[op.toNat]?=some o) (ha:o.assoc=true) (sets:List Nat) (hn1:1<=sets.length) (hn7:sets.length<=7) (hs:∀ s∈sets,s < 2 ^ g.sorts.names.length):Con e0 130 [.agg (Zag g),.one (.lit (.int .i64 op)),.one (.sl (nR sets))] [.one (.lit (.int .i64 ((bvN g (Rel2 g o) sets (2 ^ sets.length - 1):Nat):Int)))]:=by
 have hN:=hg.sorts.n8;have rl:=Za8 (l:=sets);have rr:=Za0 (l:=sets);have hdeg:=Opr.deg2 hg ho (.inl ha);have cU:=ZfU hg.sorts.n8 hg.sorts.m16 (SortsOk.subsIn hg.sorts.subs);rw [Za3] at cU;have hRlt:=fun a c b (h:Rel2 g o a c b)=>Rel2.lt hg (Tac ho) h;have hany:∀ s t,ofB (Zdf g o [s,t]) g.sorts.names.length=ofB (fun b=>Two (Rel2 g o) s t b) g.sorts.names.length:=fun s t=>ZbG fun b _=>ZoK hdeg;have cG:=fun l=>ZhE hg (Tac ho) l
 generalize hRR:Rel2 g o=R at hRlt hany ⊢;have hcv:∀ m,bvN g R sets m < 2 ^ g.sorts.names.length:=fun m=>ZcJ _ _;have cB:=Zgi (k:=sets.length) om;have hT0:=BagT.start (g:=g) (R:=R) (sets:=sets);have hpow:∀ q,2 ^ q < 2 ^ sets.length->q < sets.length:=fun q h=>(Nat.pow_lt_pow_iff_right om).1 h;have hZ1:2 ^ 1<=2 ^ sets.length:=Tbr om hn1;have hZ7:2 ^ sets.length<=2 ^ 7:=Tbr om hn7;have hBl:=fun M T (h:BagT g R sets M T)=>h.1
 have hBn:=fun M T (h:BagT g R sets M T)=>h.next;have hB0:=fun M T (h:BagT g R sets M T)=>h.zero;have hBg:=fun M T (h:BagT g R sets M T)=>h.2;generalize hZ:2 ^ sets.length=Z at cB hT0 hpow hZ1 hZ7 hBl hBn hB0 hBg ⊢;have hmx:((Z:Int)<=(maxApp:Int))=True:=eq_true (by unfold maxApp;omega);rw [Zag];refine gI (ts:=[.slot 6]) 281509890105295 Tryz.func130 ?_;refine fN 2 (ai @rl @tmz) ?_;refine gB ?_;refine fC @tmz (cU) ?_
 refine fR @tmz ?_;refine ZfO ?_;refine gB ?_;refine fC @tmz (cB) ?_;refine fR (aj4 @hmx @Tbv @nR_0 @tmz) ?_;refine fG (ai @ZaS @tmz) ?_;generalize List.replicate Z 0=T0 at hT0 ⊢;have F:=@tmz;refine gL (ι:=Nat × List Nat) [9,10,11,12,24,29,35,48] [9] (fun x=>[(10,A.d (.one (.lit (.int .i64 x.1)))),(9,.buf 9)]) (fun x=>[(9,.buf none 3 1 (nR x.2))]) (fun x=>1<=x.1∧x.1<=Z∧BagT g R sets x.1 x.2) (fun x=>Z - x.1) ((1,T0)) (⟨Tai _,om,hT0⟩) (fun x hx=>?_);clear F
 clear hT0 T0;obtain ⟨m,T⟩:=x;obtain ⟨hm1,hm2,hT⟩:=hx;simp only at hm1 hm2 hT;dsimp only;refine fN 5 @tmz ?_;refine gB ?_;refine fC @tmz (cB) ?_;by_cases hmZ:m < Z;rotate_left
 ·obtain rfl:m=Z:=by omega
  have nl:=Za8 (l:=T);rw [hBl _ _ hT] at nl;have nr:=Za0 (l:=T);have q1:=lF m m;have hg2:=Zbe ((hBg _ _ hT (m - 1) om om).1 om);have w1:IntKind.i64.wrap ((m:Int) - 1)=((m - 1:Nat):Int):=Za2 om om om;have i1:(m - 1 < m)=True:=eq_true om;refine fR (ai @q1 @tmz) ?_;refine fN 16 @tmz ?_;refine gB ?_;refine fC @tmz (cB) ?_;refine fR (aj7 @nl @nr @hg2 @w1 @i1 @ZaS @tmz) ?_;exact fD @tmz
 have q1:=lT m Z;have hw:=Zap (k:=m) om;have w1:IntKind.i64.wrap ((m:Int) - 1)=((m - 1:Nat):Int):=Za2 om om om;have ba2:=Zhg (a:=m - 1) (b:=m) om om;have i0:(m < Z)=True:=eq_true hmZ;have hz:=hB0 _ _ hT hm1 hmZ;have hzz:nR (T.set m 0)=nR T:=by rw [hz]
 have hT2:=hBn _ _ hT hmZ;refine fR (ai @q1 @tmz) ?_;refine fG @tmz ?_;have F:=ai @hzz @tmz;refine gL (ι:=Nat × Nat) [9,11,29,35] [9] (fun y=>[(11,A.d (.one (.lit (.int .i64 y.1)))),(9,.buf 9)]) (fun y=>[(9,.buf none 3 1 (nR (T.set m y.2)))]) (fun y=>y.1<=sets.length∧(∀ q,m=2 ^ q->(q < y.1->y.2=bvN g R sets m))∧((∀ q,q < y.1->m≠2 ^ q)->y.2=0)) (fun y=>sets.length - y.1) ((0,0)) (⟨om,fun q _ h=>om,fun _=>rfl⟩) (fun y hy=>?_);clear F
 obtain ⟨i,v⟩:=y;obtain ⟨hi,hv1,hv2⟩:=hy;simp only at hi hv1 hv2;dsimp only;by_cases hil:i < sets.length
 ·have q3:=lT i sets.length;have hwi:=Zap (k:=i) om;have cBi:=Zgi (k:=i) om;refine fN 10 (ai @q3 @tmz) ?_;refine gB ?_;refine fC @tmz (cBi) ?_;by_cases e:m=2 ^ i
  ·have q4:((m:Int)=((2 ^ i:Nat):Int))=True:=eq_true (by rw [e]);obtain ⟨s,hsi⟩:∃ s,sets[i]?=some s:=⟨_,Taa hil⟩;have hbv:bvN g R sets m=s:=by rw [e];unfold bvN;exact ZzT hsi (hs s (Tac hsi))
   have r1:=Zbe hsi;have nl:=Za8 (l:=T.set m v);rw [Tay,hBl _ _ hT] at nl;have nr:=Za0 (l:=T.set m v);have g1:(nR (T.set m v))[m]?=some [.lit (.int .i64 v)]:=Zbe (Tbm (by rw [hBl _ _ hT];exact hmZ));have ns:=fun x=>Zdi (l:=T.set m v) m x;simp only [List.set_set] at ns;have i1:(i < sets.length)=True:=eq_true hil;have hv0:(∀ q,q < i+1->m≠2 ^ q)->s=0:=fun h=>absurd e (h i om);clear cBi;generalize 2 ^ i=M at *
   refine fR (ai @q4 @tmz) ?_;have F:=aj12 @hwi @r1 @rl @rr @nl @nr @g1 @ns @i0 @i1 @ZaS @tmz;refine gG ?_;exact ⟨(i+1,s),⟨hil,fun q h1 h2=>hbv.symm,hv0⟩,gw,gw,om⟩
  have q4:((m:Int)=((2 ^ i:Nat):Int))=False:=eq_false om
  have hv3:∀ q,m=2 ^ q->(q < i+1->v=bvN g R sets m):=fun q h1 h2=>hv1 q h1 (by
   by_cases h3:q=i
   ·subst h3;exact absurd h1 e
   ·omega)
  have hv4:(∀ q,q < i+1->m≠2 ^ q)->v=0:=fun h=>hv2 fun q h1=>h q om;clear cBi;refine fR (ai @q4 @tmz) ?_;have F:=ai @hwi @tmz;refine gG ?_;exact ⟨(i+1,v),⟨hil,hv3,hv4⟩,gw,gw,om⟩
 obtain rfl:i=sets.length:=by omega
 have q3:=lF sets.length sets.length;have hz:=hB0 _ _ hT hm1 hmZ;have hle:(m - 1) &&& m<=m - 1:=Nat.and_le_left;refine fG (aj5 @q3 @w1 @ba2 @ZaS @tmz) ?_;by_cases hA:(m - 1) &&& m=0
 ·obtain ⟨q,rfl⟩:=Zz0 om hA;have hq:=hpow q hmZ;have hv:=hv1 q rfl hq;subst hv;rw [hA];have F:=@tmz;refine gL (ι:=Nat) [12,48] [] (fun z=>[(12,A.d (.one (.lit (.int .i64 z))))]) (fun z=>[]) (fun z=>z=0) (fun z=>z) (0) (rfl) (fun z hz=>?_);clear F;subst hz;have q4:=lF 0 (0:Nat);generalize 2 ^ q=M at *;have F:=aj3 @q4 @hw @tmz;refine gG ?_;exact ⟨(M+1,T.set M (bvN g R sets M)),⟨om,om,hT2⟩,gw,gw,om⟩
 have hnp:∀ i,m≠2 ^ i:=fun i e=>hA (by subst e;exact ZzZ i);have hv:=hv2 fun q _=>hnp q;subst hv;have hs0:=Zsq (R:=R) (sets:=sets) (N:=g.sorts.names.length) (m:=m) om;have hend:=ZxD (R:=R) (sets:=sets) (N:=g.sorts.names.length) (m:=m) hs hRlt hnp;have F:=@tmz;refine gL (ι:=Nat × Nat) [9,12,48] [9] (fun z=>[(12,A.d (.one (.lit (.int .i64 z.1)))),(9,.buf 9)]) (fun z=>[(9,.buf none 3 1 (nR (T.set m z.2)))]) (fun z=>z.1 < m∧z.1 &&& m=z.1∧z.2=ofB (Zgs R sets g.sorts.names.length m z.1) g.sorts.names.length) (fun z=>z.1) (((m - 1) &&& m,0)) (⟨om,by rw [Nat.and_assoc,Nat.and_self],hs0.symm⟩) (fun z hz=>?_);clear F
 obtain ⟨p,v⟩:=z;obtain ⟨hp1,hp2,hv⟩:=hz;simp only at hp1 hp2 hv;dsimp only;by_cases hp0:p=0
 ·subst hp0;have q3:=lF 0 (0:Nat);have e:v=bvN g R sets m:=by rw [hv,hend];rfl
  subst e;have F:=aj3 @q3 @hw @tmz;refine gG ?_;exact ⟨(m+1,T.set m (bvN g R sets m)),⟨om,om,hT2⟩,gw,gw,om⟩
 have q3:=lT 0 p;have wp:IntKind.i64.wrap ((p:Int) - 1)=((p - 1:Nat):Int):=Za2 om om om;have bap:=Zhg (a:=p - 1) (b:=m) om om;have bx:=ZxF (a:=m) (b:=p) om om;have hxp:=ZxG hp2 hp0 om;have hp3:(p - 1) &&& m<=p - 1:=Nat.and_le_left;have hTp:=(hBg _ _ hT p om om).1 hp1;have hTx:=(hBg _ _ hT (m ^^^ p) hxp.1 om).1 hxp.2;have e:=fun b=>Zwc (R:=R) (sets:=sets) (N:=g.sorts.names.length) (m:=m) (p:=p) (b:=b) hp0 om hp2
 have e:v ||| ofB (fun b=>Two R (bvN g R sets p) (bvN g R sets (m ^^^ p)) b) g.sorts.names.length=ofB (Zgs R sets g.sorts.names.length m ((p - 1) &&& m)) g.sorts.names.length:=by
  rw [hv,ZiD];exact ZbG fun b _=>(e b).symm
 have cR:=cG [bvN g R sets p,bvN g R sets (m ^^^ p)] (fun d hd=>hdeg d hd) (by simp) (fun s hs=>by
  simp only [Tbf,List.not_mem_nil,or_false] at hs;rcases hs with rfl | rfl <;> exact hcv _)
 rw [hany] at cR;have cR:=ZiF cR;have hv62:v < 4611686018427387904:=by rw [hv];exact ZcF (ZcJ _ _) hN
 have hor:=Zer hv62 (ZcF (ZcJ (fun b=>Two R (bvN g R sets p) (bvN g R sets (m ^^^ p)) b) g.sorts.names.length) hN);rw [e] at hor;generalize ofB (fun b=>Two R (bvN g R sets p) (bvN g R sets (m ^^^ p)) b) g.sorts.names.length=tw at cR hor;have nl:=Za8 (l:=T.set m v);rw [Tay,hBl _ _ hT] at nl;have nr:=Za0 (l:=T.set m v);have g1:(nR (T.set m v))[m]?=some [.lit (.int .i64 v)]:=Zbe (Tbm (by rw [hBl _ _ hT];exact hmZ))
 have g2:(nR (T.set m v))[p]?=some [.lit (.int .i64 (bvN g R sets p))]:=Zbe (by rw [Tbn om];exact hTp);have g3:(nR (T.set m v))[m ^^^ p]?=some [.lit (.int .i64 (bvN g R sets (m ^^^ p)))]:=Zbe (by rw [Tbn om];exact hTx);have ns:=fun x=>Zdi (l:=T.set m v) m x;simp only [List.set_set] at ns;have i2:(p < Z)=True:=eq_true om;have i3:(m ^^^ p < Z)=True:=eq_true om;clear e hv hend;refine fN 15 (ai @q3 @tmz) ?_
 refine gB ?_;refine fC (aj14 @nl @nr @g1 @g2 @g3 @i0 @i2 @i3 @bx @h0 @ho @Zae @ZaS @tmz) (cR) ?_;refine fR (aj8 @nl @nr @g1 @hor @ns @i0 @ZaS @tmz) ?_;have F:=aj3 @wp @bap @tmz;refine gG ?_;exact ⟨((p - 1) &&& m,ofB (Zgs R sets g.sorts.names.length m ((p - 1) &&& m)) g.sorts.names.length),⟨om,by rw [Nat.and_assoc,Nat.and_self],rfl⟩,gw,gw,om⟩
end
section
variable {g:Sgn}
theorem AppOk.len7 (hg:SgnOk g) {t:Tm} {o:Opr} {d:Dcl} (hA:AppOk g t o d):t.args.length<=7:=by
 cases ha:o.assoc with
 | true=>exact (hA.asc ha).2
 | false =>
  rw [hA.nas ha];have:=(hg.decls o (Tac hA.at')).ar d hA.fst;omega
theorem AppOk.dlen (hg:SgnOk g) {t:Tm} {o:Opr} {d:Dcl} (hA:AppOk g t o d) (ha:o.assoc=false):∀ f∈o.decls,f.args.length=t.args.length:=by
 intro f hf;rw [hA.nas ha];exact ((hg.decls o (Tac hA.at')).all d hA.fst f hf).len
theorem Zsr {t a:Tm} {i:Nat} (h:t.args[i]?=some a):(t.args.take i).map (sortsTm g)++[sortsTm g a]=(t.args.take (i+1)).map (sortsTm g):=by
 rw [List.take_add_one,h,Tbu];rfl
theorem ZjN (hg:SgnOk g):∀ (n:Nat) {t:Tm},sizeTm t < n->ZaD g t->Con e0 110 [.agg (Zag g),.agg (Zab t)] [.one (.lit (.int .i64 ((sortsTm g t:Nat):Int)))]:=by
 intro n
 induction n with
 | zero=>exact fun {t} h _=>absurd h om
 | succ n IH =>
 intro t hsz hf;obtain ⟨hnode,hargs,_⟩:=ZaI.1 hf;have cU:=ZfU hg.sorts.n8 hg.sorts.m16 (SortsOk.subsIn hg.sorts.subs);rw [Za3] at cU;by_cases hop:t.op=-1
 ·have hv:Zcu g t:=hnode.resolve_right fun ⟨o,d,hA⟩=>by have:=hA.lo;omega
  have q1:(t.op=-1)=True:=eq_true hop;obtain ⟨k,hk⟩:∃ k:Nat,t.sort=k:=⟨t.sort.toNat,by have:=hv.2.2.1;omega⟩;have hgk:=ZlQ hg.sorts hv.2.2.1 hv.2.2.2.1;have hgk:=Zbe hgk.1;have e:=ZjK (g:=g) hop;rw [e];have ul:=Za8 (l:=up g.sorts);rw [(Zfr (SortsOk.subsIn hg.sorts.subs)).1] at ul;have ur:=Za0 (l:=up g.sorts);have i0:0<=t.sort:=hv.2.2.1;have i1:(t.sort.toNat < g.sorts.names.length)=True:=eq_true (by have:=hv.2.2.2.1;omega)
  rw [Zag];refine gI (ts:=[.slot 4]) 4629704814991770879 Tryz.func110 ?_;refine fN 2 (ai @q1 @tmz) ?_;refine gB ?_;refine fC @tmz (cU) ?_;refine fR (aj6 @i0 @i1 @ul @ur @hgk @tmz) ?_;exact fD @tmz
 have q1:(t.op=-1)=False:=eq_false hop;obtain ⟨o,d,hA⟩:∃ o d,AppOk g t o d:=hnode.resolve_left fun hv=>hop hv.1;have h0:=hA.lo;have ho:=hA.at';have h7:=hA.len7 hg
 have ih:∀ a∈t.args,Con e0 110 [.agg (Zag g),.agg (Zab a)] [.one (.lit (.int .i64 ((sortsTm g a:Nat):Int)))]:=fun a ha=>IH (by
  have h1:=ZaO t;have h2:=ZaX ha;omega) (hargs a ha)
 clear IH;have e:=ZjL hop ho;rw [e];have hss:∀ s∈t.args.map (sortsTm g),s < 2 ^ g.sorts.names.length:=fun s hs=>by
  obtain ⟨a,ha,rfl⟩:=Tbh.1 hs;exact Zfx hg (hargs a ha).node
 have hsl:(t.args.map (sortsTm g)).length=t.args.length:=Tax _;have cB:=fun (ha:o.assoc=true)=>Zwf hg h0 ho ha (t.args.map (sortsTm g)) (by rw [hsl];have:=(hA.asc ha).1;omega) (by rw [hsl];exact h7) hss;have cC:=fun (ha:o.assoc=true)=>ZpL hg h0 ho ha (t.args.map (sortsTm g)) (by rw [hsl];have:=(hA.asc ha).1;omega) (by rw [hsl];exact h7) hss;rw [Zag] at ih cB cC ⊢;have hn0:nR []=[]:=rfl;have ht0:t.args.take 0=[]:=rfl
 refine gI (ts:=[.slot 4]) 4629704814991770879 Tryz.func110 ?_;refine fG (ai @q1 @tmz) ?_;have F:=aj3 @hn0 @ht0 @tmz;refine gL (ι:=Nat) [5,6,23] [5] (fun i=>[(6,A.d (.one (.lit (.int .i64 i)))),(5,.buf 5)]) (fun i=>[(5,.buf none 3 1 (nR ((t.args.take i).map (sortsTm g))))]) (fun i=>i<=t.args.length) (fun i=>t.args.length - i) (0) (Taj _) (fun i hi=>?_);clear F;have nl:=Za8 (l:=(t.args.take i).map (sortsTm g))
 rw [Tax,List.length_take_of_le hi] at nl;have nr:=Za0 (l:=(t.args.take i).map (sortsTm g));by_cases hil:i < t.args.length
 ·have q2:=lT i t.args.length;obtain ⟨a,hai⟩:∃ a,t.args[i]?=some a:=⟨_,Taa hil⟩;have cA:=ih a (Tac hai);have ns:=Zi1 (l:=(t.args.take i).map (sortsTm g)) (sortsTm g a);rw [Zsr hai] at ns;have hmx:(i+1<=maxApp)=True:=eq_true (by unfold maxApp;omega);have hw:=Zap (k:=i) om;refine fN 7 (ai @q2 @tmz) ?_;refine gB ?_;refine fC (aj3 @hai @ZaS @tmz) (cA) ?_;refine fR (aj5 @nl @nr @ns @hmx @tmz) ?_;have F:=ai @hw @tmz;refine gG ?_;exact ⟨i+1,hil,gw,gw,om⟩
 obtain rfl:i=t.args.length:=by omega
 have q2:=lF t.args.length t.args.length;rw [Tap] at nl nr ⊢;have hlt:=fun b=>Zfx hg (t:=b);have hD:=hA.dlen hg;rw [<- hsl] at hD;have cF:=fun (ha:o.assoc=false)=>ZjM hg h0 ho (t.args.map (sortsTm g)) (hD ha);have h2:=Opr.deg2 hg ho;rw [Zag] at cF;clear hi hil
 cases ha:o.assoc with
 | true =>
  cases hc:o.comm with
  | true =>
   have cB:=cB ha;have e2:bvN g (Rel2 g o) (t.args.map (sortsTm g)) (2 ^ (t.args.map (sortsTm g)).length - 1)=appS g o (t.args.map (sortsTm g)):=by
    unfold bvN appS;exact ZbG fun b _=>by unfold AppB;rw [if_pos ha,if_pos hc]
   rw [e2] at cB;refine fN 10 (aj7 @q2 @ha @hc @h0 @ho @Zae @tmz) ?_;refine gB ?_;refine fC @tmz (cB) ?_;refine fR @tmz ?_;exact fD @tmz
  | false =>
   have cC:=cC ha;have e2:cvN g o (t.args.map (sortsTm g)) 0 (t.args.map (sortsTm g)).length=appS g o (t.args.map (sortsTm g)):=by
    unfold cvN appS;exact ZbG fun b _=>by unfold AppB;rw [if_pos ha,if_neg (by simp [hc])]
   rw [e2] at cC;refine fN 12 (aj7 @q2 @ha @hc @h0 @ho @Zae @tmz) ?_;refine gB ?_;refine fC @tmz (cC) ?_;refine fR @tmz ?_;exact fD @tmz
 | false =>
  have h3:t.args.length<=3:=by
   rw [hA.nas ha];exact (hg.decls o (Tac ho)).ar d hA.fst
  have cF:=cF ha (by rw [hsl];exact h3) hss
  cases hc:o.comm with
  | true =>
   have e2:ofB (Zdf g o (t.args.map (sortsTm g))) g.sorts.names.length ||| ofB (Zdf g o (t.args.map (sortsTm g)).reverse) g.sorts.names.length=appS g o (t.args.map (sortsTm g)):=by
    unfold appS;rw [ZiD];exact ZbG fun b _=>by unfold AppB AnyB;rw [if_neg (by simp [ha]),hc];simp
   have hor:=Zer (ZcF (ZcJ (Zdf g o (t.args.map (sortsTm g))) g.sorts.names.length) hg.sorts.n8) (ZcF (ZcJ (Zdf g o (t.args.map (sortsTm g)).reverse) g.sorts.names.length) hg.sorts.n8);rw [e2] at hor;have cG:=ZjM hg h0 ho (t.args.map (sortsTm g)).reverse (by rw [List.length_reverse];exact hD ha) (by rw [List.length_reverse,hsl];exact h3) (fun s hs=>hss s (List.mem_reverse.1 hs));rw [Zag] at cG;have hl2:(t.args.map (sortsTm g)).length=2:=by rw [hsl,hA.nas ha];exact h2 (.inr (.inl hc)) d (Tac hA.fst)
   clear e2 cB cC hD h2 ih hargs e;rw [hsl] at hl2;generalize appS g o (t.args.map (sortsTm g))=V at hor ⊢;generalize ofB (Zdf g o (t.args.map (sortsTm g))) g.sorts.names.length=V1 at hor cF;generalize ofB (Zdf g o (t.args.map (sortsTm g)).reverse) g.sorts.names.length=V2 at hor cG;have hl3:=hsl;rw [hl2] at hl3 nl;obtain ⟨s1,s2,hs12⟩:∃ s1 s2,t.args.map (sortsTm g)=[s1,s2]:=by
    match t.args.map (sortsTm g),hl3 with
    | [x,y],_=>exact ⟨x,y,rfl⟩
   rw [hs12] at cF cG nr nl ⊢;simp only [List.reverse_cons,List.reverse_nil,Tah,List.singleton_append] at cG;have cG:=ZiF cG;have g0:(nR [s1,s2])[0]?=some [.lit (.int .i64 s1)]:=rfl;have g1:(nR [s1,s2])[1]?=some [.lit (.int .i64 s2)]:=rfl;refine fN 14 (aj7 @q2 @ha @hc @h0 @ho @Zae @tmz) ?_;refine Zb2 (ZcD [5] (by simp only [pz,↓reduceIte,Nat.reduceEqDiff,Nat.reduceAdd,Nat.reduceSub,Nat.reduceMul,Nat.reduceLeDiff,Nat.reduceBEq,Tam,decide_true,decide_false,Int.reduceLE,Int.reduceToNat,Int.reduceLT,Int.reduceEq,eq_self,Nat.reduceShiftRight,Nat.reduceAnd,Nat.reduceBneDiff,tmz];exact rfl)) fun σ' hσ=>?_
   subst hσ;refine gB ?_;refine fC @tmz (cF) ?_;refine fC (aj5 @nl @nr @g0 @g1 @tmz) (cG) ?_;refine fR (ai @hor @tmz) ?_;exact fD @tmz
  | false =>
   have e2:ofB (Zdf g o (t.args.map (sortsTm g))) g.sorts.names.length=appS g o (t.args.map (sortsTm g)):=by
    unfold appS;exact ZbG fun b _=>by unfold AppB AnyB;rw [if_neg (by simp [ha]),hc];simp
   rw [e2] at cF;refine fN 15 (aj7 @q2 @ha @hc @h0 @ho @Zae @tmz) ?_;refine gB ?_;refine fC @tmz (cF) ?_;refine fR @tmz ?_;exact fD @tmz
end
theorem Zgt {g:Sgn}:∀ (n:Nat) (t:Tm),sizeTm t < n->ZaD g t->∀ v∈Zav t,Zcu g v
 | 0,t,hn,_,_,_=>om
 | n+1,t,hn,ht,v,hv=>by
  have hs:=hn;rw [ZaO] at hs;have key:∀ {ts:List Tm},v∈Zaz ts->∃ a∈ts,v∈Zav a:=fun {ts}=>by
   induction ts with
   | nil=>intro h;simp [Zaz] at h
   | cons x xs ih =>
    intro h;simp only [Zaz,Tbg] at h;rcases h with h | h
    ·exact ⟨x,Tas,h⟩
    ·obtain ⟨a,ha,h⟩:=ih h;exact ⟨a,Tal _ ha,h⟩
  by_cases hop:t.op=-1
  ·have hV:Zcu g t:=by
    rcases ht.node with h | ⟨o,d,h⟩
    ·exact h
    ·have:=h.lo;omega
   obtain ⟨op,nm,so,args⟩:=t;simp only [Tm.op] at hop;have ha0:args=[]:=hV.2.2.2.2;subst hop ha0;simp only [Zav,if_pos,Tbi] at hv;rw [hv];exact hV
  ·have e:Zav t=Zaz t.args:=by
    obtain ⟨op,nm,so,args⟩:=t;simp only [Tm.op] at hop;simp only [Zav,if_neg hop,Tm.args]
   rw [e] at hv;obtain ⟨a,ha,hv⟩:=key hv;have:=ZaX ha;exact Zgt n a om ((ZaI.1 ht).2.1 a ha) v hv
mutual
theorem Zgu:∀ t:Tm,(Zav t).length<=sizeTm t
 | .mk op nm so args=>by
  have:=Zlj args;simp only [Zav,sizeTm];split
  ·simp only [Tag,Tak];omega
  ·omega
theorem Zlj:∀ ts:List Tm,(Zaz ts).length<=sizeTms ts
 | []=>by simp [Zaz]
 | t::ts=>by
  have h1:=Zgu t;have h2:=Zlj ts;simp only [Zaz,sizeTms,Tae];omega
end
theorem ZmF {t v:Tm}:∀ {l:List Tm},v∈Za4 t l->v=t∨v∈l
 | [],h=>by simp [Za4] at h;exact .inl h
 | x::xs,h=>by
  simp only [Za4] at h;split at h
  ·rcases Tbf.1 h with h | h
   ·exact .inr (h ▸ Tas)
   ·exact (ZmF h).imp id (Tal _)
  ·split at h
   ·exact .inr h
   ·exact Tbf.1 h
theorem ZoL {v:Tm}:∀ {l r:List Tm},v∈colT l r->v∈l∨v∈r
 | [],r,h=>.inr h
 | x::xs,r,h=>by
  rcases ZoL (l:=xs) (r:=Za4 x r) h with h | h
  ·exact .inl (Tal _ h)
  ·rcases ZmF h with h | h
   ·exact .inl (h ▸ Tas)
   ·exact .inr h
theorem Zz2 {s:ByteArray} (h:Za7 s=true):s.size<=12:=by
 unfold Za7 at h;simp only [Tar,decide_eq_true_eq] at h;exact h.1.1.1.2
structure BdDr (g:Sgn) (y:Bd):Prop where
 vo:okTm y.var
 vb:Zal (Zab y.var)<=12
 to:TermOk g y.to
def Zgv (g:Sgn) (n:Nat) (l:List Bd):Prop:=l.length<=n∧∀ y∈l,BdDr g y
def RBds (g:Sgn) (bk:Bk) (r:List D) (pm:List Bk):Prop:=∃ (l:List Bd) (a:Option Addr) (cap:Nat),Zgv g 60 l∧r=[.one (.lit (.slice a (ZaA l).length cap))]∧pm=[bk,.buf (some (a,cap)) 58 8 (ZaA l)]
section
variable {x:Src} {b:Nat} {g:Sgn}
theorem ZoM (hx:x.Ok) (hd:DrOk g) {u:Tm} (hu:TermOk g u) (a:Option Addr) (k:Nat):ConP (eC x b) 74 [curD b,.agg (Zag g),.agg (topC u a k)] [topB u a k] (RBds g (topB u a k)):=by
 have he:=hx.okC (b:=b);have c6:=ZbS (b:=b) hx (n:=6) (by decide) (by decide);have c2:=ZbS (b:=b) hx (n:=2) (by decide) (by decide);have cD:=fun y=>ZiA (b:=b) hx hd.ok hd.sg hd.h4 hd.hz (d:=2) (by decide) y;have huo:=hu.ok hd.sg;have hub:Zal (Zab u)+1<=780:=by have h1:=ZdO hu.form;have h2:=hu.size;omega
 have cV:=(ZoH huo om a k).cu (b:=b) hx;have hvl:(ZaB u).length<=60:=by
  have h1:=Zf4 (Zav u) [];have h2:=Zgu u;have h3:=hu.size;have:ZaB u=colT (Zav u) []:=rfl;rw [this];simp only [Tak,Nat.zero_add] at h1;omega
 have hvo:∀ v∈ZaB u,Zcu g v:=fun v hv=>by
  rcases ZoL (show v∈colT (Zav u) [] from hv) with h | h
  ·exact Zgt _ u (Tan _) hu.form v h
  ·cases h
 generalize ZaB u=vs at cV hvl hvo;have cS:∀ {t:Tm},TermOk g t->ConE (eC x b) 110 [.agg (Zag g),.agg (Zab t)] (fun r=>r=[.one (.lit (.int .i64 ((sortsTm g t:Nat):Int)))]):=fun {t} ht=>((ZjN hd.sg (sizeTm t+1) (Tan _) ht.form).cu hx).toE;rw [Zag] at cD cS ⊢;rw [ZeG] at cV ⊢;refine gIP (ts:=[.slot 6]) [1000] 8796227506167 Tryz.func74 ?_;refine fN 2 @eCP ?_;refine gB ?_;have F:=@eCP;refine gCP [1000] [1000] (cV) ?_;clear F
 rintro r pm ⟨rfl,rfl⟩;simp only [setA,retA,zipM,Taf,Tah];refine fR @eCP ?_;refine fG @eCP ?_;have hb0:ZaA []=[]:=rfl;have F:=ai @hb0 @eCP;refine gL (ι:=Nat × List Bd) [7,9,10,11,18,27,43] [7] (fun z=>[(9,A.d (.one (.lit (.int .i64 z.1)))),(7,.buf 7)]) (fun z=>[(7,.buf none 58 8 (ZaA z.2))]) (fun z=>z.1<=vs.length∧z.2.length<=z.1∧∀ y∈z.2,BdDr g y) (fun z=>vs.length - z.1) ((0,[])) (⟨Taj _,Tai _,fun y hy=>(by cases hy)⟩) (fun z hz=>?_);clear F
 obtain ⟨i,l⟩:=z;obtain ⟨hz1,hz2,hz3⟩:=hz;dsimp only at hz1 hz2 hz3 ⊢;by_cases hlt:i < vs.length
 ·have q1:=lT i vs.length;have wi:=Zap (k:=i) om;have hg1:vs[i]?=some vs[i]:=Taa hlt;have hv:=hvo vs[i] (List.getElem_mem hlt);generalize vs[i]=v at hg1 hv;refine fN 6 (ai @q1 @tmC) ?_;refine gB ?_;refine fR @tmC ?_;refine gM (ι:=List Bd) [7,10,11,27,43] [7,11] (fun l'=>[(7,.buf 7)]) (fun l'=>[(7,.buf none 58 8 (ZaA l'))]) (fun l'=>l'.length<=i+1∧∀ y∈l',BdDr g y) ?_ (fun l' hl'=>Exists.intro _ (ai (Wk.refl _) ?_))
  ·refine fG @tmC ?_;have F:=@tmC;refine gL (ι:=Nat) [7,10,11,27,43] [7] (fun j=>[(10,A.d (.one (.lit (.int .i64 j)))),(7,.buf 7)]) (fun j=>[(7,.buf none 58 8 (ZaA l))]) (fun j=>j<=4) (fun j=>4 - j) (0) (Taj _) (fun j hj=>?_);clear F;by_cases h4:j < 4;rotate_left
   ·have q4:=lF j 4;refine fN 7 (ai @q4 @tmC) ?_;refine gB ?_;refine fR (ai @q4 @tmC) ?_;have F:=ai @q4 @tmC;refine gG ?_;exact ⟨l,⟨om,hz3⟩,gw,gw⟩
   have q4:=lT j 4;have wj:=Zap (k:=j) om;refine fN 7 (ai @q4 @tmC) ?_;refine gB ?_;have F:=ai @q4 @tmC;refine gCE (c6) ?_;clear F;rintro r ⟨y,rfl⟩
   cases y
   rotate_left
   ·refine fR (ai @q4 @tmC) ?_;have F:=ai @q4 @tmC;refine gG ?_;exact ⟨l,⟨om,hz3⟩,gw,gw⟩
   refine fR (ai @q4 @tmC) ?_;refine fN 9 @tmC ?_;refine gF0 ?_;have F:=tmC;refine gNa 5 [0,1,2] [3,4] ?_;clear F;have F:=tmC;refine gNd ?_;clear F;have F:=tmC;refine gNE c2 ?_;clear F;rintro r ⟨y2,rfl⟩;have F:=tmC;refine gNE (cD y2) ?_;clear F;rintro r ⟨t,ht,rfl⟩;have F:=tmC;refine gNr ?_;clear F;refine fR @tmC ?_;obtain ⟨kv,hkv⟩:=Int.eq_ofNat_of_zero_le hv.2.2.1;have hk16:kv < 16:=by have:=hd.sg.sorts.n8;have:=hv.2.2.2.1;omega
   have hst:=Zfx hd.sg ht.form.node;have h2p:(2:Nat) ^ g.sorts.names.length<=2 ^ 16:=Tbr (by decide) (by have:=hd.sg.sorts.n8;omega);have cH:=((Zes (a:=sortsTm g t) (k:=kv) om hk16).cu (b:=b) hx).toE;have hve:Zab v=[.lit (.int .i64 v.op),.lit (.string v.name),.lit (.int .i64 (kv:Int)),.sl (Zaa v.args)]:=by
    obtain ⟨o1,n1,s1,a1⟩:=v;simp only [Tm.sort] at hkv;subst hkv;simp only [Zab,Tm.op,Tm.name,Tm.args]
   refine fN 10 @tmC ?_;have F:=tmC;refine gN0 9 [0,1,3,4,5,6,7] [2,8] ?_;clear F;have F:=aj3 hg1 hve tmC;refine gNd ?_;clear F;have F:=tmC;refine gNE (cS ht) ?_;clear F;rintro r rfl;have F:=tmC;refine gNE cH ?_;clear F;rintro r rfl;have F:=tmC;refine gNr ?_;clear F;refine fR @tmC ?_;generalize tbit (sortsTm g t) kv=y3
   cases y3
   ·have F:=ai @wj @tmC;refine gG ?_;exact ⟨j+1,om,gw,gw,om⟩
   ·have hbs:ZaA l++[Zab v++Zab t]=ZaA (l++[⟨v,t⟩]):=by simp only [ZaA,Tbu,Tbt,List.map_nil];rfl
    have hm:((ZaA l).length+1<=maxApp)=True:=eq_true (by simp only [ZaA,Tax];unfold maxApp;omega);have hm2:(l.length+1<=maxApp)=True:=eq_true (by unfold maxApp;omega);have hvd:BdDr g ⟨v,t⟩:=by
     have hs12:=Zz2 hv.2.1;have hz:=hv.2.2.2.1;have hn8:=hd.sg.sorts.n8;obtain ⟨o1,n1,s1,a1⟩:=v;simp only [Zcu,Tm.op,Tm.name,Tm.sort,Tm.args] at hv hs12 hz hkv;obtain ⟨rfl,_,_,_,rfl⟩:=hv;exact ⟨by simp only [okTm,Zaw,and_true];exact ⟨⟨by decide,by decide⟩,by unfold maxLen;omega,⟨om,om⟩⟩,by rw [ZgY];simp only [Zaa,Zas,Tak];omega,ht⟩
    have h7:∀ (c0 c1 c2 c3:C),List.take 4 (Zab v++[c0,c1,c2,c3])++Zab t++List.drop 8 (Zab v++[c0,c1,c2,c3])=Zab v++Zab t:=fun c0 c1 c2 c3=>by
     obtain ⟨o1,n1,s1,a1⟩:=v;simp [Zab]
    refine fN 11 @tmC ?_;refine gB ?_;have bl:∀ l:List Bd,(ZaA l).length=l.length:=fun l=>by simp [ZaA]
    have r8:∀ l:List Bd,ZaL 8 (ZaA l)=true:=fun l=>ZcV (fun y=>by obtain ⟨⟨o1,n1,s1,a1⟩,⟨o2,n2,s2,a2⟩⟩:=y;rfl) l;have r81:ZaL 8 [Zab v++Zab t]=true:=r8 [⟨v,t⟩];have ok8:(Zab v++Zab t).all Zay=true:=by rw [List.all_append,Zbl,Zbl];rfl
    have ln8:(Zab v++Zab t).length=8:=by rw [Tae,ZaY,ZaY]
    refine fR (aj13 @hg1 @h7 @ok8 @ln8 @bl @r8 @r81 @hm2 @hbs @Zbl @ZaY @Zbq @tmC) ?_;have F:=ai @bl @tmC;refine gG ?_;exact ⟨l++[⟨v,t⟩],⟨by rw [Tae];exact Nat.succ_le_succ hz2,fun y hy=>(Tbg.1 hy).elim (hz3 y) fun hy=>by rw [Tbi.1 hy];exact hvd⟩,gw,gw⟩
  ·have F:=ai @wi @tmC;refine gG ?_;exact ⟨(i+1,l'),⟨om,hl'.1,hl'.2⟩,gw,gw,om⟩
 ·have q1:=lF i vs.length;refine fG (ai @q1 @tmC) ?_;refine pS 6 fun a1 k1=>?_;exact (have F:=eCP;gTP (R:=RBds g (topB u a k)) [1000,6] ⟨l,a1,k1,⟨om,hz3⟩,rfl,rfl⟩)
end
theorem Zwg {e:Env} {σ:St} {a0:Option Addr} {n cap ety sz:Nat} {rows:List (List C)} (t κ:Nat) (hs:gs σ.s t=.d (.one (.lit (.slice a0 n cap)))) (hm:gm σ.m κ=some (.buf (some (a0,cap)) ety sz rows)) (hn:n=rows.length):Turn e σ (fun σ'=>σ'=⟨(t,.buf κ)::σ.s,σ.m⟩):=by
 intro he U w0 S0 nt a w ⟨S,L,h⟩;refine ⟨_,rfl,S,L,h.cls,fun t'=>?_,h.size,h.defers,h.kept⟩;simp only [gs];split
 ·rename_i e;subst e;have hr:=h.rel t';rw [hs] at hr;have hv:a.tmps.getD t' undef=.slice a0 n cap:=by simpa [ARel,DRel,Rep] using hr
  have h2:=(h.cls.own κ _ hm).1 (a0,cap) rfl;show _=_;rw [hv,h2,hn]
 ·exact h.rel t'
theorem pKk {e:Env} {mask:Nat} {Q:PX->St->Prop} {c:Code} {s:List (Nat × A)} {m:List (Nat × Bk)} {a0:Option Addr} {n cap ety sz:Nat} {rows:List (List C)} (t κ:Nat) (hK:pwp e mask c ⟨(t,.buf κ)::s,m⟩ Q) (hm:gm m κ=some (.buf (some (a0,cap)) ety sz rows):=by exact snv) (hs:gs s t=.d (.one (.lit (.slice a0 n cap))):=by exact snv) (hn:n=rows.length:=by rfl):pwp e mask c ⟨s,m⟩ Q :=
 Zb2 (Zwg t κ hs hm hn) fun σ' hσ=>by subst hσ;exact hK
def Zzn (g:Sgn) (bk:Bk) (r:List D) (pm:List Bk):Prop:=∃ l:List Bd,Zgv g 61 l∧r=[.one (.sl (ZaA l))]∧pm=[bk]
theorem ZAw {g:Sgn} {t:Tm} (h:TermOk g t):BdDr g ⟨zTm,t⟩:=⟨Zor,by rw [Zoq];decide,h⟩
section
variable {x:Src} {b:Nat} {g:Sgn}
theorem ZoN (hx:x.Ok) (hd:DrOk g) {u:Tm} (hu:TermOk g u) (a:Option Addr) (k:Nat):ConP (eC x b) 36 [curD b,.agg (Zag g),.agg (topC u a k)] [topB u a k] (Zzn g (topB u a k)):=by
 have he:=hx.okC (b:=b);have c8:=ZbS (b:=b) hx (n:=8) (by decide) (by decide);have c3:=ZbH (b:=b) hx (n:=3) (by decide) (by decide);have cD:=ZiA (b:=b) hx hd.ok hd.sg hd.h4 hd.hz (d:=1) (by decide) true;have cB:=ZoM (b:=b) hx hd hu a k;rw [Zag] at cD cB ⊢;rw [ZeG] at cB ⊢;refine gIP (ts:=[.slot 6]) [1000] 17626646970871 Tryz.func36 ?_;refine fN 1 @eCP ?_;refine gB ?_;have F:=@eCP;refine gCP [1000] [1000,1001] (cB) ?_;clear F
 rintro r pm ⟨l,a1,k1,⟨hl1,hl2⟩,rfl,rfl⟩;simp only [setA,retA,zipM,Taf,Tah];refine fR @eCP ?_;refine pKk 7 1001 ?_;have bl:(ZaA l).length=l.length:=Zfy l;refine fN 2 @eCP ?_;refine gM (ι:=Bool) [19] [] (fun y=>[(19,A.d (.one (.lit (.bool y))))]) (fun y=>[]) (fun y=>y=true->1<=l.length) ?_ (fun y hy=>Exists.intro _ (ai (Wk.refl _) ?_))
 ·refine gB ?_;by_cases h0:0 < l.length
  ·have q0:((0:Int) < ((ZaA l).length:Int))=True:=eq_true (by rw [bl];omega);have F:=ai @q0 @eCP;refine gCE (c8) ?_;clear F;rintro r ⟨y,rfl⟩;refine fR @eCP ?_;have F:=@eCP;refine gG ?_;exact ⟨y,fun _=>h0,gw,gw⟩
  ·have q0:((0:Int) < ((ZaA l).length:Int))=False:=eq_false (by rw [bl];omega);refine fR (ai @q0 @eCP) ?_;have F:=@eCP;refine gG ?_;exact ⟨false,(by simp),gw,gw⟩
 refine gM (ι:=List Bd) [7,8,25,26,35,44] [1001] (fun l'=>[(7,.d (.one (.sl (ZaA l'))))]) (fun l'=>[]) (fun l'=>Zgv g 61 l') ?_ (fun l' hl'=>Exists.intro _ (ai (Wk.refl _) ?_))
 ·cases y with
  | false =>
   refine pD 1001 [7] [] ?_;have F:=@eCP;refine gG ?_;exact ⟨l,⟨om,hl2⟩,gw,gw⟩
  | true =>
   have h1:=hy rfl;have cW:=ZbH (b:=b) hx (n:=(ZaA l).length) (by rw [bl];exact h1) (by rw [bl];omega);refine fN 3 @eCP ?_;refine gB ?_;have F:=@eCP;refine gCE (cW) ?_;clear F;rintro r ⟨j,hj,rfl⟩;refine fR @eCP ?_;refine fN 4 @eCP ?_;refine gB ?_;have F:=@eCP;refine gCE (c3) ?_;clear F;rintro r ⟨q,hq,rfl⟩;refine fR @eCP ?_;have hjl:j < l.length:=by rw [bl] at hj;exact hj
   obtain ⟨y,hy1⟩:∃ y,l[j]?=some y:=⟨_,Taa hjl⟩;have hyb:=hl2 y (Tac hy1);have hgy:(ZaA l)[j]?=some (Zab y.var++Zab y.to):=by rw [Zfz,hy1];rfl
   have ok8:(Zab y.var++Zab y.to).all Zay=true:=by rw [List.all_append,Zbl,Zbl];rfl
   have ln8:(Zab y.var++Zab y.to).length=8:=by rw [Tae,ZaY,ZaY]
   have hset:∀ z:Bd,BdDr g z->Zgv g 61 (l.set j z):=fun z hz=>⟨by rw [Tay];omega,fun w hw=>(List.mem_or_eq_of_mem_set hw).elim (hl2 w) fun h=>h ▸ hz⟩;by_cases q0:q=0
   ·have e0:((q:Int)=0)=True:=eq_true om;refine fN 6 (ai @e0 @eCP) ?_;refine gB ?_;have F:=@eCP;refine gCE (cD) ?_;clear F;rintro r ⟨t,ht,rfl⟩;have F:=aj8 @hj @hgy @ok8 @ln8 @Zbl @ZaY @Zbq @eCP;refine gP 3 ?_;clear F;have s0:(ZaA l).set j (List.take 4 (Zab y.var++Zab y.to)++Zab t++List.drop 8 (Zab y.var++Zab y.to))=ZaA (l.set j ⟨y.var,t⟩):=by
     have e:List.take 4 (Zab y.var++Zab y.to)++Zab t++List.drop 8 (Zab y.var++Zab y.to)=ZbQ ⟨y.var,t⟩:=by
      obtain ⟨⟨o1,n1,s1,a1⟩,⟨o2,n2,s2,a2⟩⟩:=y;simp [Zab,ZbQ]
     rw [e];exact (List.map_set).symm
    rw [s0];refine gD 1001 [7] [] ?_;refine fR @eCP ?_;have F:=@eCP;refine gG ?_;exact ⟨l.set j ⟨y.var,t⟩,hset _ ⟨hyb.vo,hyb.vb,ht⟩,gw,gw⟩
   have e0:((q:Int)=0)=False:=eq_false om;by_cases q1:q=1
   ·have e1:((q:Int)=1)=True:=eq_true om;refine fN 8 (aj3 @e0 @e1 @eCP) ?_;refine gB ?_;have r8:ZaL 8 [Zab y.var++Zab y.to]=true:=bds8 [y];have hm:((ZaA l).length+1<=maxApp)=True:=eq_true (by rw [bl];unfold maxApp;omega);have tk8:List.take 8 (Zab y.var++Zab y.to)=Zab y.var++Zab y.to:=List.take_of_length_le (by rw [ln8];exact Tai _);have F:=aj11 @hj @hgy @ok8 @ln8 @r8 @hm @tk8 @Zbl @ZaY @Zbq @eCP;refine gP 7 ?_;clear F
    have s1:ZaA l++[Zab y.var++Zab y.to]=ZaA (l++[y]):=by simp only [ZaA,Tbu,Tbt,List.map_nil];rfl
    rw [s1];refine gS 43 fun a2 k2=>?_;refine gD 43 [43] [] ?_;refine fR @eCP ?_;have F:=@eCP;refine gG ?_;exact ⟨l++[y],⟨by rw [Tae];simp only [Tag,Tak];omega,fun w hw=>(Tbg.1 hw).elim (hl2 w) fun h=>by rw [Tbi.1 h];exact hyb⟩,gw,gw⟩
   have e1:((q:Int)=1)=False:=eq_false om;have e2:((q:Int)=2)=True:=eq_true om;refine fN 10 (aj4 @e0 @e1 @e2 @eCP) ?_;refine gB ?_;have F:=aj8 @hj @hgy @ok8 @ln8 @Zbl @ZaY @Zbq @eCP;refine gP 6 ?_;clear F;have s2:(ZaA l).set j (.lit (.int .i64 0)::.lit (.string ByteArray.empty)::.lit (.int .i64 0)::.sl []::List.drop 4 (Zab y.var++Zab y.to))=ZaA (l.set j ⟨zTm,y.to⟩):=by
    have e:(.lit (.int .i64 0)::.lit (.string ByteArray.empty)::.lit (.int .i64 0)::.sl []::List.drop 4 (Zab y.var++Zab y.to))=ZbQ ⟨zTm,y.to⟩:=by
     obtain ⟨⟨o1,n1,s1,a1⟩,⟨o2,n2,s2,a2⟩⟩:=y;simp [Zab,ZbQ,Zft]
    rw [e];exact (List.map_set).symm
   rw [s2];refine gD 1001 [7] [] ?_;refine fR @eCP ?_;have F:=@eCP;refine gG ?_;exact ⟨l.set j ⟨zTm,y.to⟩,hset _ (ZAw hyb.to),gw,gw⟩
 ·refine fG @eCP ?_;exact (have F:=eCP;gTP (R:=Zzn g (topB u a k)) [1000] ⟨l',hl',rfl,rfl⟩)
end
section
variable {L:List Oper} {cons:Nat->Option Nat} {X:Type} {ok:Nat->X->Prop} {T:X->Tab} {i:Nat} {sb:List (Nat × A)} {mb:List (Nat × Bk)} {s:List (Nat × A)} {m:List (Nat × Bk)} {d:Nat} {α:A} {bk:Bk}
theorem Lks.lent {κ:Nat} (h:Lks sb mb ⟨s,m⟩) (hf:Zgw d κ sb mb=true):Lks sb mb ⟨Zan κ s,remM κ m⟩:=by
 have hf2:=hf;simp only [Zgw,Tar,List.all_eq_true,bne_iff_ne,ne_eq,Bool.not_eq_true'] at hf2;refine Lks.mrem (Lks.kill h ?_) ?_
 ·simp only [List.all_eq_true,Bool.not_eq_true'];exact fun p hp=>(hf2.1 p hp).2
 ·simp only [List.all_eq_true,bne_iff_ne,ne_eq];exact hf2.2
theorem Lks.lentD {κ:Nat} (h:Lks sb mb ⟨s,m⟩) (hf:Zgw d κ sb mb=true):Lks sb mb ⟨(d,α)::Zan κ s,remM κ m⟩:=by
 have hf2:=hf;simp only [Zgw,Tar,List.all_eq_true,bne_iff_ne,ne_eq,Bool.not_eq_true'] at hf2;exact Lks.slot (h.lent hf) (by simp only [List.all_eq_true,bne_iff_ne,ne_eq];exact fun p hp=>(hf2.1 p hp).1)
theorem xLB {κ:Nat} (hB:Lks sb mb ⟨s,m⟩) (hp:tabX ok T i ⟨(d,α)::Zan κ (Zan κ s),(κ,bk)::remM κ (remM κ m)⟩) (h1:Zgw d κ sb mb=true:=by rfl) (h2:∀ x,Zgp L cons (T x) i (Zgw d κ)=true:=by intro x;rfl):DidX L cons ok T i sb mb s m ⟨(d,α)::Zan κ (Zan κ s),(κ,bk)::remM κ (remM κ m)⟩:=⟨Lks.bornC (hB.lent h1) h1,hp,ZhG h2 fun _ _ h hl=>Lks.bornC (hl.lent h) h⟩
theorem xLD {κ:Nat} (hB:Lks sb mb ⟨s,m⟩) (hp:tabX ok T i ⟨(d,α)::Zan κ s,remM κ m⟩) (h1:Zgw d κ sb mb=true:=by rfl) (h2:∀ x,Zgp L cons (T x) i (Zgw d κ)=true:=by intro x;rfl):DidX L cons ok T i sb mb s m ⟨(d,α)::Zan κ s,remM κ m⟩:=⟨hB.lentD h1,hp,ZhG h2 fun _ _ h hl=>hl.lentD h⟩
end
def DrD (g:Sgn):Prop:=∃ (z u hc fa fc fu:Bool) (w:Option Bool),(z=true∨(fa=false∧fc=false∧fu=false))∧g=sigD z u hc fa fc fu w
theorem Zja {g:Sgn} (h:DrD g):DrOk g:=by
 obtain ⟨z,u,hc,fa,fc,fu,w,h,rfl⟩:=h;exact ZAr h
section
variable {x:Src}
def Zwh (r:List D):Prop:=∃ (g:Sgn) (l:List Bd) (t:Tm),DrD g∧Zgv g 61 l∧Zg3 t∧r=[.agg (Zag g),.one (.sl (ZaA l)),.agg (Zab t)]
theorem ZlR (hx:x.Ok):ConE (eB x) 9 [Zhz x] Zwh:=by
 have he:=hx.ok;refine gIE (ts:=[.cell 2 30,.slot 3,.cell 4 34]) 253 Tryz.func9 ?_;refine fN 1 @tmB ?_;refine gB ?_;have F:=@tmB;refine gCP [] [1000] (Zou hx) ?_;clear F;rintro r pm ⟨b,h,rfl,rfl⟩;simp only [setA,retA,zipM,Taf,Tah];refine fR @tmB ?_;refine pCur 1000 (Int.le_refl 0) ?_;clear he;have he:=hx.okC (b:=b);refine fN 2 @tmC ?_;refine gB ?_;have F:=@tmC;refine gCP [] [1000] ((ZjJ hx)) ?_;clear F
 rintro r pm ⟨z,u,hc,fa,fc,fu,w,a0,k0,hz,rfl,rfl⟩;simp only [setA,retA,zipM,Taf,Tah];refine fR @tmC ?_;obtain ⟨e1,e2,e3⟩:=Zov z u hc fa fc fu w;rw [e1,e2,e3];have hDr:DrD (sigD z u hc fa fc fu w):=⟨z,u,hc,fa,fc,fu,w,hz,rfl⟩;clear e1 e2 e3;generalize sigD z u hc fa fc fu w=g at hDr ⊢;clear hz;refine pD 1000 [] [6] ?_;have hd:=Zja hDr;have cD:=ZmE (b:=b) hx hd.ok hd.sg hd.h4 hd.hz (d:=3) (by decide) true
 have hE:Zag g=[.sl (g.sorts.names.map Zby),.sl (g.sorts.subs.map ZbM),.sl (g.ops.map ZaU)]:=by rw [Zag]
 rw [hE] at cD;refine fN 3 @tmC ?_;refine gB ?_;have F:=@tmC;refine gCP [] [1001] (cD) ?_;clear F;rintro r pm ⟨u,hu,a,k,rfl,rfl⟩;simp only [setA,retA,zipM,Taf,Tah];refine fR (ai @ZeG @eCP) ?_;have cB:=ZoN (b:=b) hx hd hu a k;have cT:=Zwa (b:=b) hx hd hu a k;rw [hE] at cB cT;rw [ZeG] at cB cT;have ok00:Zgv g 61 ([]:List Bd)∧Zg3 zTm:=⟨⟨by decide,fun y hy=>(by cases hy)⟩,Zor,by rw [Zoq];decide⟩;refine fN 4 @eCP ?_
 /- gk drs -/
 refine gGx (X:=List Bd × Tm) [(2,.ref 2 0),(4,.ref 4 0),(5,.d (curD b)),(6,.ref 6 0),(7,.ref 7 0)] [(6,.var none [.sl (g.sorts.names.map Zby),.sl (g.sorts.subs.map ZbM),.sl (g.ops.map ZaU)]),(7,.var none [.lit (.int .i64 u.op),.lit (.string u.name),.lit (.int .i64 u.sort),.lit (.slice a (Zaa u.args).length k)])] (fun _ x=>Zgv g 61 x.1∧Zg3 x.2) (fun x=>[([(15,.d (.agg [.sl (g.sorts.names.map Zby),.sl (g.sorts.subs.map ZbM),.sl (g.ops.map ZaU)]))],[]),([(16,.d (curD b))],[]),([(17,.d (.agg [.sl (g.sorts.names.map Zby),.sl (g.sorts.subs.map ZbM),.sl (g.ops.map ZaU)]))],[]),([(18,.d (.agg [.lit (.int .i64 u.op),.lit (.string u.name),.lit (.int .i64 u.sort),.lit (.slice a (Zaa u.args).length k)]))],[]),([(19,.d (.one (.sl (ZaA x.1))))],[(1001,.buf (some (a,k)) 34 4 (Zaa u.args))]),([(20,.d (curD b))],[]),([(21,.d (.agg [.sl (g.sorts.names.map Zby),.sl (g.sorts.subs.map ZbM),.sl (g.ops.map ZaU)]))],[]),([(22,.d (.agg [.lit (.int .i64 u.op),.lit (.string u.name),.lit (.int .i64 u.sort),.lit (.slice a (Zaa u.args).length k)]))],[]),([(19,.d (.one (.sl (ZaA x.1)))),(23,.d (.agg (Zab x.2)))],[]),([(19,.d (.one (.sl (ZaA x.1))))],[(2,.var none [.sl (g.sorts.names.map Zby),.sl (g.sorts.subs.map ZbM),.sl (g.ops.map ZaU)])]),([(3,.d (.one (.sl (ZaA x.1))))],[]),([],[(4,.var none (Zab x.2))]),([],[(1001,.buf (some (a,k)) 34 4 (Zaa u.args))]),([],[(2,.var none [.sl [],.sl [],.sl []])]),([],[(4,.var none [.lit (.int .i64 0),.lit (.string ByteArray.empty),.lit (.int .i64 0),.sl []])])]) (fun j=>([(4,8),(12,4),(13,9),(14,11)]:List (Nat × Nat)).lookup j) [12,13,14] (⟨by simp [gs],by simp [gm]⟩) (fun j hj=>by simp only [Tbf,List.not_mem_nil,or_false] at hj;rcases hj with rfl | rfl | rfl <;> exact ⟨([],zTm),ok00,by simp [gs],by simp [gm]⟩) ⟨?_,?_,?_,?_,?_,?_,?_,?_,?_,?_,?_,?_,trivial⟩ ?_
 ·intro s' m' hB hD hI hJ;have F:=Za5.1 hB;simp only [lkS,lkM,List.getD_cons_zero,List.getD_cons_succ,and_true,true_and] at F;have F:=aj5 F @Zbl @ZaY @Zbq eCP;refine gO3 ?_;exact xS hB (Zbf.2 ⟨([],zTm),ok00,by simp [lkS,lkM,gs,gm,ZaH]⟩)
 ·intro s' m' hB hD hI hJ;have F:=Za5.1 hB;simp only [lkS,lkM,List.getD_cons_zero,List.getD_cons_succ,and_true,true_and] at F;have F:=aj5 F @Zbl @ZaY @Zbq eCP;refine gO3 ?_;exact xS hB (Zbf.2 ⟨([],zTm),ok00,by simp [lkS,lkM,gs,gm,ZaH]⟩)
 ·intro s' m' hB hD hI hJ;have F:=Za5.1 hB;simp only [lkS,lkM,List.getD_cons_zero,List.getD_cons_succ,and_true,true_and] at F;have F:=aj5 F @Zbl @ZaY @Zbq eCP;refine gO3 ?_;exact xS hB (Zbf.2 ⟨([],zTm),ok00,by simp [lkS,lkM,gs,gm,ZaH]⟩)
 ·intro s' m' hB hD hI hJ;have F:=Za5.1 hB;simp only [lkS,lkM,List.getD_cons_zero,List.getD_cons_succ,and_true,true_and] at F;have F:=aj5 F @Zbl @ZaY @Zbq eCP;refine gO3 ?_;exact xS hB (Zbf.2 ⟨([],zTm),ok00,by simp [lkS,lkM,gs,gm,ZaH]⟩)
 ·intro s' m' hB hD hI hJ;have F:=Za5.1 hB;simp only [lkS,lkM,List.getD_cons_zero,List.getD_cons_succ,and_true,true_and] at F;obtain ⟨x1,o1,F1⟩:=Zbf.1 (hD 1 (by decide) (.inl rfl));obtain ⟨x2,o2,F2⟩:=Zbf.1 (hD 2 (by decide) (.inl rfl));obtain ⟨x3,o3,F3⟩:=Zbf.1 (hD 3 (by decide) (.inl rfl));obtain ⟨x12,o12,F12⟩:=Zbf.1 (hI 12 (by decide) (by decide));simp only [lkS,lkM,List.getD_cons_zero,List.getD_cons_succ,and_true,true_and] at F1
  have F:=ai F F1;simp only [lkS,lkM,List.getD_cons_zero,List.getD_cons_succ,and_true,true_and] at F2;have F:=ai F F2;simp only [lkS,lkM,List.getD_cons_zero,List.getD_cons_succ,and_true,true_and] at F3;have F:=ai F F3;simp only [lkS,lkM,List.getD_cons_zero,List.getD_cons_succ,and_true,true_and] at F12;have F:=ai F F12;have F:=aj5 F @Zbl @ZaY @Zbq eCP;refine gCP [1001] [1001] (cB) ?_ (hpm:=by rw [ZiX,F12];rfl) (hpn:=rfl)
  rintro r pm ⟨l,hl,rfl,rfl⟩;simp only [setA,retA,zipM,Taf,Tah];refine ZbL ?_;exact xLB hB (Zbf.2 ⟨(l,zTm),⟨hl,ok00.2⟩,by simp [lkS,lkM,gs,gm]⟩)
 ·intro s' m' hB hD hI hJ;have F:=Za5.1 hB;simp only [lkS,lkM,List.getD_cons_zero,List.getD_cons_succ,and_true,true_and] at F;have F:=aj5 F @Zbl @ZaY @Zbq eCP;refine gO3 ?_;exact xS hB (Zbf.2 ⟨([],zTm),ok00,by simp [lkS,lkM,gs,gm,ZaH]⟩)
 ·intro s' m' hB hD hI hJ;have F:=Za5.1 hB;simp only [lkS,lkM,List.getD_cons_zero,List.getD_cons_succ,and_true,true_and] at F;have F:=aj5 F @Zbl @ZaY @Zbq eCP;refine gO3 ?_;exact xS hB (Zbf.2 ⟨([],zTm),ok00,by simp [lkS,lkM,gs,gm,ZaH]⟩)
 ·intro s' m' hB hD hI hJ;have F:=Za5.1 hB;simp only [lkS,lkM,List.getD_cons_zero,List.getD_cons_succ,and_true,true_and] at F;have F:=aj5 F @Zbl @ZaY @Zbq eCP;refine gO3 ?_;exact xS hB (Zbf.2 ⟨([],zTm),ok00,by simp [lkS,lkM,gs,gm,ZaH]⟩)
 ·intro s' m' hB hD hI hJ;have F:=Za5.1 hB;simp only [lkS,lkM,List.getD_cons_zero,List.getD_cons_succ,and_true,true_and] at F;obtain ⟨x4,o4,F4⟩:=Zbf.1 (hD 4 (by decide) (.inr rfl));obtain ⟨x5,o5,F5⟩:=Zbf.1 (hD 5 (by decide) (.inl rfl));obtain ⟨x6,o6,F6⟩:=Zbf.1 (hD 6 (by decide) (.inl rfl));obtain ⟨x7,o7,F7⟩:=Zbf.1 (hD 7 (by decide) (.inl rfl));simp only [lkS,lkM,List.getD_cons_zero,List.getD_cons_succ,and_true,true_and] at F4
  have F:=ai F F4;simp only [lkS,lkM,List.getD_cons_zero,List.getD_cons_succ,and_true,true_and] at F5;have F:=ai F F5;simp only [lkS,lkM,List.getD_cons_zero,List.getD_cons_succ,and_true,true_and] at F6;have F:=ai F F6;simp only [lkS,lkM,List.getD_cons_zero,List.getD_cons_succ,and_true,true_and] at F7;have F:=ai F F7;have F:=aj5 F @Zbl @ZaY @Zbq eCP;refine gCP [1001] [] (cT) ?_ (hpm:=by rw [ZiX,F4.2];rfl) (hpn:=rfl)
  rintro r pm ⟨t,ht,rfl,rfl⟩;simp only [setA,retA,zipM,Taf,Tah];refine ZbL ?_;have k19:gs (Zan 1001 s') 19=.d (.one (.sl (ZaA x4.1))):=by rw [Zdt _ _ _ (by rw [F4.1];rfl)];exact F4.1
  exact xLD hB (Zbf.2 ⟨(x4.1,t),⟨o4.1,ht⟩,by simp [lkS,lkM,gs,gm,k19]⟩)
 ·intro s' m' hB hD hI hJ;have F:=Za5.1 hB;simp only [lkS,lkM,List.getD_cons_zero,List.getD_cons_succ,and_true,true_and] at F;obtain ⟨x0,o0,F0⟩:=Zbf.1 (hD 0 (by decide) (.inl rfl));obtain ⟨x8,o8,F8⟩:=Zbf.1 (hD 8 (by decide) (.inl rfl));obtain ⟨x13,o13,F13⟩:=Zbf.1 (hI 13 (by decide) (by decide));simp only [lkS,lkM,List.getD_cons_zero,List.getD_cons_succ,and_true,true_and] at F0;have F:=ai F F0;simp only [lkS,lkM,List.getD_cons_zero,List.getD_cons_succ,and_true,true_and] at F8
  have F:=ai F F8;simp only [lkS,lkM,List.getD_cons_zero,List.getD_cons_succ,and_true,true_and] at F13;have F:=ai F F13;have F:=aj5 F @Zbl @ZaY @Zbq eCP;refine gO3 ?_;exact xM hB (Zbf.2 ⟨x8,o8,by simp [lkS,lkM,gs,gm,ZaH,F0,F8]⟩)
 ·intro s' m' hB hD hI hJ;have F:=Za5.1 hB;simp only [lkS,lkM,List.getD_cons_zero,List.getD_cons_succ,and_true,true_and] at F;obtain ⟨x9,o9,F9⟩:=Zbf.1 (hD 9 (by decide) (.inl rfl));simp only [lkS,lkM,List.getD_cons_zero,List.getD_cons_succ,and_true,true_and] at F9;have F:=ai F F9;have F:=aj5 F @Zbl @ZaY @Zbq eCP;refine gO3 ?_;exact xS hB (Zbf.2 ⟨x9,o9,by simp [lkS,lkM,gs,gm,ZaH,F9]⟩)
 ·intro s' m' hB hD hI hJ;have F:=Za5.1 hB;simp only [lkS,lkM,List.getD_cons_zero,List.getD_cons_succ,and_true,true_and] at F;obtain ⟨x8,o8,F8⟩:=Zbf.1 (hD 8 (by decide) (.inl rfl));obtain ⟨x14,o14,F14⟩:=Zbf.1 (hI 14 (by decide) (by decide));simp only [lkS,lkM,List.getD_cons_zero,List.getD_cons_succ,and_true,true_and] at F8;have F:=ai F F8;simp only [lkS,lkM,List.getD_cons_zero,List.getD_cons_succ,and_true,true_and] at F14
  have F:=ai F F14;have F:=aj5 F @Zbl @ZaY @Zbq eCP;refine gO3 ?_;exact xM hB (Zbf.2 ⟨x8,o8,by simp [lkS,lkM,gs,gm,ZaH,F8]⟩)
 intro s' m' hB hP;obtain ⟨x9,o9,P9⟩:=hP 9 (.inl (by decide)) (fun k h=>by simp [List.lookup] at h);obtain ⟨x10,o10,P10⟩:=hP 10 (.inl (by decide)) (fun k h=>by simp [List.lookup] at h);obtain ⟨x11,o11,P11⟩:=hP 11 (.inl (by decide)) (fun k h=>by simp [List.lookup] at h);refine ⟨_,_,((hB.app P9).app P10).app P11,?_⟩;simp only [Taf,Tah,List.append_nil,List.getD_cons_zero,List.getD_cons_succ]
 /- gk end drs -/
 refine ⟨_,Wk.refl _,?_⟩;exact (have F:=aj6 hE @eBP @Zbl @ZaY @Zbq eCP;gTE (R:=Zwh) [] ⟨g,x10.1,x11.2,hDr,o10.1,o11.2,rfl⟩)
end
section
variable {g:Sgn}
end
section
variable {g:Sgn}
noncomputable def sortsOf (g:Sgn) (t:Tm):Nat:=if Zbw g=true∧Zbs g t=true then sortsTm g t else 0
theorem Zll (hok:ZbJ g) {t:Tm} (ht:okTm t) (hb:sizeTm t<=big):Con e0 77 [.agg (Zag g),.agg (Zab t)] [.one (.lit (.int .i64 ((sortsOf g t:Nat):Int)))]:=by
 have cT:=Zd1 hok ht hb;unfold sortsOf;by_cases h:Zbw g=true∧Zbs g t=true
 ·have e:(Zbw g && Zbs g t)=true:=by rw [h.1,h.2];rfl
  have cS:=ZjN (Zdm.1 h.1) _ (Tan _) (Zc0.1 h.2).form;rw [if_pos h];rw [e] at cT;rw [Zag] at cT cS ⊢;refine gI (ts:=[.slot 4]) 287 Tryz.func77 ?_;refine fN 1 @tmz ?_;refine gB ?_;refine fC @tmz (cT) ?_;refine fR @tmz ?_;refine fN 3 @tmz ?_;refine gB ?_;refine fC @tmz (cS) ?_;refine fR @tmz ?_;exact fD @tmz
 ·have e:(Zbw g && Zbs g t)=false:=by
   cases h1:Zbw g with
   | false=>rfl
   | true =>
    cases h2:Zbs g t with
    | false=>rfl
    | true=>exact absurd ⟨h1,h2⟩ h
  have z0:(((0:Nat):Int))=0:=rfl;rw [if_neg h];rw [e] at cT;rw [Zag] at cT ⊢;refine gI (ts:=[.slot 4]) 287 Tryz.func77 ?_;refine fN 1 @tmz ?_;refine gB ?_;refine fC @tmz (cT) ?_;refine fR @tmz ?_;exact fD (ai @z0 @tmz)
end
section
variable {g:Sgn} {l:List Bd}
theorem Zcu.term {t:Tm} (h:Zcu g t):TermOk g t:=by
 have ha0:t.args=[]:=h.2.2.2.2;have hf:ZaD g t:=ZaI.2 ⟨.inl h,(by rw [ha0];intro a ha;cases ha),.inl h.1⟩;have h1:=ZaO t;rw [ha0,Zmk] at h1;have h2:=ZkL t;exact ⟨om,om,hf⟩
theorem TermOk.var {t:Tm} (h:TermOk g t) (ho:t.op=-1):Zcu g t:=h.form.node.resolve_right fun ⟨o,d,hA⟩=>by have:=hA.lo;omega
theorem ZpM (hok:ZbJ g) (hl:ZhF l) (hv:∀ y∈l,sizeTm y.var<=big) (ht:∀ y∈l,sizeTm y.to<=big):Con e0 38 [.agg (Zag g),.one (.sl (ZaA l))] [.one (.lit (.bool (Zbw g && Zd2 g l)))]:=by
 have cS:=ZgD hok;have bl:=Zfy l;have bg:=Zfz l;have hT:=fun y (hy:y∈l)=>Zd1 hok (hl y hy).1 (hv y hy);have hO:=fun y (hy:y∈l)=>Zll hok (hl y hy).2 (ht y hy);have hC:=fun y z (hy:y∈l) (hz:z∈l)=>Zdw (hl y hy).1 (hl z hz).1;rw [Zag] at cS hT hO ⊢;have bb:ZaL 8 (ZaA l)=true:=by
  refine List.all_eq_true.2 fun r hr=>?_;obtain ⟨y,hy,rfl⟩:=Tbh.1 hr;simp [ZbQ,List.all_append,tmz]
 refine gI (ts:=[.slot 4]) 1152991873351303287 Tryz.func38 ?_;refine fN 1 @tmz ?_;refine gB ?_;refine fC @tmz (cS) ?_
 cases hs:Zbw g with
 | false =>
  refine fR @tmz ?_;exact fD @tmz
 | true =>
 rw [Bool.true_and];by_cases h8:l.length<=8;rotate_left
 ·have q1:=lT 8 l.length;have hf:Zd2 g l=false:=ZjO fun h=>h8 h.len;rw [hf];refine fR (aj3 @bl @q1 @tmz) ?_;exact fD @tmz
 have q1:=lF 8 l.length;refine fR (aj3 @bl @q1 @tmz) ?_;refine fG @tmz ?_;have F:=@tmz;refine gL (ι:=Nat) [4,5,6,18,46,60] [] (fun i=>[(5,A.d (.one (.lit (.int .i64 i))))]) (fun i=>[]) (fun i=>i<=l.length∧∀ (j:Nat) y,j < i->l[j]?=some y->SbsAt g l j y) (fun i=>l.length - i) (0) (⟨Taj _,fun j y h=>absurd h om⟩) (fun i hi=>?_);clear F;obtain ⟨hi,hall⟩:=hi;by_cases hil:i < l.length;rotate_left
 ·obtain rfl:i=l.length:=by omega
  have q2:=lF l.length l.length;have hf:Zd2 g l=true:=Zss ⟨h8,fun j y hj=>hall j y (Tad.1 hj).1 hj⟩;rw [hf];exact fD (aj3 @q2 @bl @tmz)
 have q2:=lT i l.length;obtain ⟨y,hy⟩:∃ y,l[i]?=some y:=⟨_,Taa hil⟩;have hym:=Tac hy;have hbad:¬ SbsAt g l i y->Zd2 g l=false:=fun h=>ZjO fun h'=>h (h'.at' i y hy);have cT:=hT y hym;have cO:=hO y hym;rw [hs,Bool.true_and] at cT;refine fN 7 (aj8 @q2 @bl @bb @bg @hy @bdz @ZaS @tmz) ?_;by_cases hop:y.var.op=-1;rotate_left
 ·have q3:(y.var.op=-1)=False:=eq_false hop;have hf:=hbad fun h=>hop h.var.1;rw [hf];exact fD (aj3 @q3 @bdz @tmz)
 have q3:(y.var.op=-1)=True:=eq_true hop;refine gB ?_;refine fC (aj3 @q3 @bdz @tmz) (cT) ?_;by_cases hTv:Zbs g y.var=true;rotate_left
 ·have hf:=hbad fun h=>hTv (ZgE h.var.term);have hTv:Zbs g y.var=false:=by simpa using hTv
  rw [hf,hTv];refine fR (ai @bdz @tmz) ?_;exact fD @tmz
 have hvo:=(Zc0.1 hTv).var hop;have hg:=Zdm.1 hs;rw [hTv];refine fC (ai @bdz @tmz) (cO) ?_;obtain ⟨k,hk⟩:∃ k:Nat,y.var.sort=k:=⟨y.var.sort.toNat,by have:=hvo.2.2.1;omega⟩;have hk8:k < 8:=by have:=hvo.2.2.2.1;have:=hg.sorts.n8;omega
 have hso:sortsOf g y.to < 4611686018427387904:=by
  unfold sortsOf;split
  ·next h=>exact ZcF (Zfx hg (Zc0.1 h.2).form.node) hg.sorts.n8
  ·omega
 have cH:=Zes (k:=k) hso om;have hte:tbit (sortsOf g y.to) k=true ↔ TermOk g y.to∧(sortsTm g y.to).testBit y.var.sort.toNat=true:=by
  have e:y.var.sort.toNat=k:=om;rw [tbit,e];unfold sortsOf;by_cases h:Zbs g y.to=true
  ·rw [if_pos ⟨hs,h⟩];exact ⟨fun h1=>⟨Zc0.1 h,h1⟩,fun h1=>h1.2⟩
  ·rw [if_neg fun h1=>h h1.2,Nat.zero_testBit];exact ⟨fun h1=>(by cases h1),fun h1=>absurd (ZgE h1.1) h⟩
 rw [<- hk] at cH;refine fC (ai @bdz @tmz) (cH) ?_
 cases hb:tbit (sortsOf g y.to) k with
 | false =>
  have hf:=hbad fun h=>by rw [hte.2 ⟨h.to',h.srt⟩] at hb;cases hb
  rw [hf];refine fR (ai @bdz @tmz) ?_;exact fD @tmz
 | true =>
 obtain ⟨b1,b2⟩:=hte.1 hb;refine fR (ai @bdz @tmz) ?_;have hwi:=Zap (k:=i) om;have hnext:(∀ (j:Nat) p,i=j+1->l[j]?=some p->Zah p.var y.var < 0)->i+1<=l.length∧∀ (j:Nat) z,j < i+1->l[j]?=some z->SbsAt g l j z:=fun ho=>⟨hil,fun j z h1 h2=>by
  by_cases e:j=i
  ·subst e;rw [hy] at h2;injection h2 with h2
   subst h2;exact ⟨hvo,ho,b1,b2⟩
  ·exact hall j z om h2⟩
 by_cases hi0:i=0
 ·subst hi0;have q4:=lF 0 (0:Nat);have F:=aj4 @q4 @hwi @bdz @tmz;refine gG ?_;exact ⟨0+1,hnext fun j p h=>absurd h om,gw,gw,om⟩
 obtain ⟨j,rfl⟩:∃ j,i=j+1:=⟨i - 1,om⟩;have q4:=lT 0 (j+1:Nat);obtain ⟨p,hp⟩:∃ p,l[j]?=some p:=⟨_,Taa om⟩;have cC:=hC p y (Tac hp) hym;have wj:IntKind.i64.wrap (((j+1:Nat):Int) - 1)=(j:Int):=Za2 om om om;have i1:(j < l.length)=True:=eq_true om;refine fN 9 @tmz ?_;refine gB ?_;refine fC (aj10 @q4 @wj @i1 @bl @bb @bg @hp @bdz @ZaS @tmz) (cC) ?_;by_cases hcm:Zah p.var y.var < 0
 ·have q5:((0:Int)<=Zah p.var y.var)=False:=eq_false om;have hn2:=hnext fun j' p' h h1=>by
   obtain rfl:j=j':=by omega
   rw [hp] at h1;injection h1 with h1
   subst h1;exact hcm
  refine fR (aj3 @q5 @bdz @tmz) ?_;have F:=aj3 @hwi @bdz @tmz;refine gG ?_;exact ⟨j+1+1,hn2,gw,gw,om⟩
 ·have q5:((0:Int)<=Zah p.var y.var)=True:=eq_true om;have hf:=hbad fun h=>hcm (h.ord j p rfl hp);rw [hf];refine fR (aj3 @q5 @bdz @tmz) ?_;exact fD @tmz
end
section
variable {g:Sgn} {l:List Bd}
theorem Zwi {l:List Bd} {i:Nat} {y:Bd} (h:l[i]?=some y) (v:Tm):ZbB (l.drop i) v=if Zah y.var v=0 then some y.to else ZbB (l.drop (i+1)) v:=by
 obtain ⟨hi,rfl⟩:=Tad.1 h;rw [List.drop_eq_getElem_cons hi];rfl
theorem Zwj (hl:ZhF l) {v:Tm} (hv:okTm v) (h8:l.length<=1000):Con e0 78 [.one (.sl (ZaA l)),.agg (Zab v)] [.agg (Zab ((ZbB l v).getD zTm)),.one (.lit (.bool (ZbB l v).isSome))]:=by
 have bl:=Zfy l;have bg:=Zfz l;have bb:=bds8 l;have hz:=Zft;refine gI (ts:=[.cell 4 34,.slot 5]) 525435 Tryz.func78 ?_;refine fG (ai @bl @tmz) ?_;have F:=@tmz;refine gL (ι:=Nat) [5,6,10,19] [] (fun i=>[(6,A.d (.one (.lit (.int .i64 i))))]) (fun i=>[]) (fun i=>i<=l.length∧ZbB (l.drop i) v=ZbB l v) (fun i=>l.length - i) (0) (⟨Taj _,rfl⟩) (fun i hi=>?_);clear F;obtain ⟨hi,hlo⟩:=hi;by_cases hil:i < l.length
 rotate_left
 ·obtain rfl:i=l.length:=by omega
  have q2:=lF l.length l.length;rw [List.drop_length] at hlo;have e:ZbB l v=none:=hlo.symm;rw [e];have z1:(none:Option Tm).getD zTm=zTm:=rfl;exact fD (aj5 @q2 @z1 @hz @bl @tmz)
 have q2:=lT i l.length;obtain ⟨y,hy⟩:∃ y,l[i]?=some y:=⟨_,Taa hil⟩;rw [Zwi hy] at hlo;have hwi:=Zap (k:=i) om;have cS:=ZdX (hl y (Tac hy)).1 hv;refine fN 4 (aj3 @q2 @bl @tmz) ?_;refine gB ?_;refine fC (aj7 @bl @bb @bg @hy @bdz @ZaS @tmz) (cS) ?_;by_cases h1:Zah y.var v=0;rotate_left
 ·have q3:decide (Zah y.var v=0)=false:=decide_eq_false h1;rw [if_neg h1] at hlo;rw [q3];refine fR @tmz ?_;have F:=aj3 @hwi @bdz @tmz;refine gG ?_;exact ⟨i+1,⟨hil,hlo⟩,gw,gw,om⟩
 have q3:decide (Zah y.var v=0)=true:=decide_eq_true h1;rw [if_pos h1] at hlo;rw [q3,<- hlo];have z1:(some y.to).getD zTm=y.to:=rfl;refine fR @tmz ?_;exact fD (aj8 @z1 @bl @bb @bg @hy @bdz @ZaS @tmz)
structure SbsW (g:Sgn) (l:List Bd):Prop where
 len:l.length<=1000
 var:∀ y∈l,Zcu g y.var
 to':∀ y∈l,TermOk g y.to
theorem SbsOk.w (h:SbsOk g l):SbsW g l:=⟨Tbd h.len (by decide),h.var,h.to'⟩
theorem SbsW.okB (hg:SgnOk g) (h:SbsW g l):ZhF l:=fun y hy=>⟨ZaD.ok hg _ _ (Tan _) (h.var y hy).term.form,ZaD.ok hg _ _ (Tan _) (h.to' y hy).form⟩
noncomputable def ap6 (g:Sgn) (l:List Bd) (t:Tm):Tm:=if t.op=-1 then (ZbB l t).getD t else match apTs g l t.args with
 | none=>zTm
 | some us=>match g.ops[t.op.toNat]? with
  | none=>zTm
  | some o=>match o.decls[0]? with
   | none=>zTm
   | some d=>mk6 g o d t.op us
theorem Zrt {t:Tm} (h:t.op=-1):ap6 g l t=(ZbB l t).getD t:=by unfold ap6;rw [if_pos h]
theorem ZxI {t:Tm} (h:t.op≠-1) (hn:apTs g l t.args=none):ap6 g l t=zTm:=by unfold ap6;rw [if_neg h,hn]
theorem Zz5 {t:Tm} {us:List Tm} {o:Opr} {d:Dcl} (h:t.op≠-1) (hu:apTs g l t.args=some us) (ho:g.ops[t.op.toNat]?=some o) (hd:o.decls[0]?=some d):ap6 g l t=mk6 g o d t.op us:=by
 unfold ap6;rw [if_neg h,hu];simp only [ho,hd]
theorem ZoS {t u:Tm} (h:apT g l t=some u):ap6 g l t=u:=by
 by_cases ho:t.op=-1
 ·rw [Zjb ho,Taq] at h;rw [Zrt ho,h]
 ·rw [Zg4 ho] at h;unfold ap6;rw [if_neg ho]
  cases h1:apTs g l t.args with
  | none=>rw [h1] at h;cases h
  | some us =>
   rw [h1,Option.bind_some] at h;unfold mkT at h
   cases h2:g.ops[t.op.toNat]? with
   | none=>rw [h2] at h;cases h
   | some o =>
    rw [h2] at h;simp only at h ⊢
    cases h3:o.decls[0]? with
    | none=>rw [h3] at h;cases h
    | some d =>
     rw [h3] at h;simp only at h ⊢;unfold mk6;rw [h];rfl
theorem ZpN (hokg:ZbJ g) (hg:SgnOk g) (hS:SbsW g l):∀ (n:Nat) {t:Tm},sizeTm t < n->TermOk g t->Con e0 39 [.agg (Zag g),.one (.sl (ZaA l)),.agg (Zab t)] [.agg (Zab (ap6 g l t)),.one (.lit (.bool (apT g l t).isSome))]:=by
 intro n
 induction n with
 | zero=>exact fun {t} h _=>absurd h om
 | succ n IH =>
 intro t hsz ht;have hz:=Zft;have h60:=Zxq ht;have hok2:=ZaD.ok hg _ t (Tan _) ht.form;have hokB:ZhF l:=hS.okB hg;by_cases hop:t.op=-1
 ·have q1:(t.op=-1)=True:=eq_true hop;have cB:=Zwj hokB hok2 hS.len;have z2:(some ((ZbB l t).getD t)).isSome=true:=rfl;rw [Zrt hop,Zjb hop];rw [Zag] at *;refine gI (ts:=[.cell 6 34,.slot 7]) 70370900131823 Tryz.func39 ?_;refine fN 2 (ai @q1 @tmz) ?_;refine gB ?_;refine fC @tmz (cB) ?_;refine fR @tmz ?_
  cases hk:ZbB l t with
  | none =>
   have z1:(none:Option Tm).getD t=t:=rfl;have z3:(none:Option Tm).isSome=false:=rfl;rw [hk] at z2;exact fD (aj4 @z1 @z2 @z3 @tmz)
  | some u =>
   have z1:(some u).getD t=u:=rfl;have z3:(some u).isSome=true:=rfl;have z4:(some u).getD zTm=u:=rfl;rw [hk] at z2;exact fD (aj5 @z1 @z2 @z3 @z4 @tmz)
 obtain ⟨o,d,hA⟩:=ht.form.node.resolve_left (fun hv=>hop hv.1);have q1:(t.op=-1)=False:=eq_false hop;have cB:=fun us h1 h2=>Zr6 hokg hg hA.lo hA.at' hA.fst us h1 h2;rw [Zag] at *;refine gI (ts:=[.cell 6 34,.slot 7]) 70370900131823 Tryz.func39 ?_;refine fG (ai @q1 @tmz) ?_;have F:=ai @Zc4 @tmz;refine gL (ι:=Nat × List Tm) [7,10,11,12,13,31,46] [10] (fun x=>[(11,A.d (.one (.lit (.int .i64 x.1)))),(10,.buf 10)]) (fun x=>[(10,.buf none 34 4 (Zaa x.2))]) (fun x=>x.1<=t.args.length∧apTs g l (t.args.take x.1)=some x.2) (fun x=>t.args.length - x.1) ((0,[])) (⟨Taj _,rfl⟩) (fun x hx=>?_);clear F
 obtain ⟨i,us⟩:=x;obtain ⟨hi,hus⟩:=hx;simp only at hi hus;dsimp only;have hul:=ZoO hus;rw [List.length_take_of_le hi] at hul;have nl:=Zai us;have nr:ZaL 4 (Zaa us)=true:=ZcL _;by_cases hil:i < t.args.length;rotate_left
 ·obtain rfl:i=t.args.length:=by omega
  have q2:=lF t.args.length t.args.length;rw [Tap] at hus;have e:apT g l t=mkO g o d t.op us:=by rw [Zg4 hop,hus];exact Zok hA.at' hA.fst us
  have cB:=cB us (fun u hu=>by
   obtain ⟨a,ha,hau⟩:=ZhH hus u hu;exact ZiG hg hS.to' _ a (Tan _) (ht.arg ha) hau) om
  rw [e,Zz5 hop hus hA.at' hA.fst];refine fN 14 (ai @q2 @tmz) ?_;refine gB ?_;refine fC @tmz (cB) ?_;refine fR @tmz ?_;exact fD @tmz
 have q2:=lT i t.args.length;obtain ⟨a,ha⟩:∃ a,t.args[i]?=some a:=⟨_,Taa hil⟩;have ham:=Tac ha;have hs1:=ZaO t;have hs2:=ZaX ham;have cA:=IH (t:=a) om (ht.arg ham);have hwi:=Zap (k:=i) om;have hmx:(us.length+1<=maxApp)=True:=eq_true (by unfold maxApp;omega);have hsn:apTs g l (t.args.take (i+1))=(apT g l a).map fun u=>us++[u]:=by rw [ZfY ha,ZmG,hus];rfl
 refine fN 10 (aj4 @q2 @ha @ZaS @tmz) ?_;refine gLt 11 10 12 ?_;refine fC (aj3 @ha @ZaS @tmz) (cA) ?_;refine fR @tmz ?_
 cases hu:apT g l a with
 | none =>
  have z3:(none:Option Tm).isSome=false:=rfl;have z5:(none:Option Tm).getD zTm=zTm:=rfl;have e:apTs g l t.args=none:=ZmH ham hu;have e2:apT g l t=none:=by rw [Zg4 hop,e];rfl
  rw [e2,ZxI hop e];exact fD (aj4 @z3 @z5 @hz @tmz)
 | some u =>
  have z3:(some u).isSome=true:=rfl;have z5:ap6 g l a=u:=ZoS hu;rw [hu] at hsn;have ns:Zaa us++[Zab u]=Zaa (us++[u]):=by simp [Zbu]
  rw [z5];have F:=aj8 @z3 @z5 @nl @nr @ns @hmx @hwi @tmz;refine gG ?_;exact ⟨(i+1,us++[u]),⟨hil,hsn⟩,gw,gw,om⟩
end
section
variable {g:Sgn} {b:Nat}
def Zzo (g:Sgn) (b:Nat) (w:World):Prop:=(∀ c,c=b->¬ e0.E c)∧∃ M,Memo g M∧MapL w b M
noncomputable def eM (g:Sgn) (b:Nat):Env:=e0.plus (fun c=>c=b) (Zzo g b)
theorem Zeu:Fits e0 (fun c=>c=b) (Zzo g b):=⟨fun w w' hz hE ⟨h1,M,h2,h3⟩=>⟨h1,M,h2,MapL.stable b M w w' hz hE h3⟩,fun w h=>h.1⟩
theorem Con.m {f:FuncId} {args r:List D} (h:Con e0 f args r):Con (eM g b) f args r:=Con.up Zeu h
theorem ConE.m {f:FuncId} {args:List D} {R:List D->Prop} (h:ConE e0 f args R):ConE (eM g b) f args R:=ConE.up Zeu h
theorem ConR.m {f:FuncId} {args:List D} {ty sz:Nat} {rows:List (List C)} (h:ConR e0 f args ty sz rows):ConR (eM g b) f args ty sz rows:=ConR.up Zeu h
theorem ConI.m {f:FuncId} {ty sz:Nat} {rows rows':List (List C)} {args r:List D} (h:ConI e0 f ty sz rows args rows' r):ConI (eM g b) f ty sz rows args rows' r:=ConI.up Zeu h
theorem ConT.m {f:FuncId} {ty sz:Nat} {rows rows':List (List C)} {args:List D} (h:ConT e0 f ty sz rows args rows'):ConT (eM g b) f ty sz rows args rows':=ConT.up Zeu h
theorem ConP.m {f:FuncId} {args:List D} {pm:List Bk} {R:List D->List Bk->Prop} (h:ConP e0 f args pm R):ConP (eM g b) f args pm R:=ConP.up Zeu h
theorem ConP.imp {e:Env} {f:FuncId} {args:List D} {pm:List Bk} {R R':List D->List Bk->Prop} (h:ConP e f args pm R) (hR:∀ r pm,R r pm->R' r pm):ConP e f args pm R' :=
 ⟨h.1,fun w S vs hS hE hG hpm hap hvs=>(h.2 w S vs hS hE hG hpm hap hvs).mono fun en w' ⟨v,r,pm',h1,hr,hk⟩=>⟨v,r,pm',h1,hR r pm' hr,hk⟩⟩
end
section
variable {g:Sgn} {l:List Bd} {b:Nat}
end
section
variable {g:Sgn} {l:List Bd}
theorem Zwk (hb:l.length+Zas (ZaA l)<=1048576):∀ y∈l,Zal (Zab y.var)<=1048576∧Zal (Zab y.to)<=1048576:=fun y hy=>by
 have h1:=Zit (List.mem_map_of_mem (f:=ZbQ) hy);have h2:Zal (ZbQ y)=Zal (Zab y.var)+Zal (Zab y.to):=Zxr _ _;have h3:Zas (l.map ZbQ)=Zas (ZaA l):=rfl;omega
theorem Zz6 {t:Tm} (h:TermOk g t):Zal (Zab t)<=1048576:=by
 have h1:=ZdO h.form;have h2:=h.size;omega
open Classical in
noncomputable def aS (g:Sgn) (l:List Bd) (t:Tm):Option Tm:=if Zbw g=true∧Zd2 g l=true∧Zbs g t=true then apT g l t else none
theorem ZiH:Zd2 g l=true ↔ SbsOk g l:=by simp [Zd2]
theorem Zm8 (hok:ZbJ g) (hl:ZhF l) (hb:l.length+Zas (ZaA l)<=1048576) {t:Tm} (ht:okTm t) (htb:Zal (Zab t)<=1048576):Con e0 10 [.agg (Zag g),.one (.sl (ZaA l)),.agg (Zab t)] [.agg (Zab ((aS g l t).getD zTm)),.one (.lit (.bool (aS g l t).isSome))]:=by
 have cS:=ZpM hok hl (fun y hy=>Zc8 (Zwk hb y hy).1) (fun y hy=>Zc8 (Zwk hb y hy).2);have cT:=Zd1 hok ht (Zc8 htb);have hz:=Zft;have z1:(none:Option Tm).getD zTm=zTm:=rfl;have z2:(none:Option Tm).isSome=false:=rfl;by_cases h:Zbw g=true∧Zd2 g l=true∧Zbs g t=true;rotate_left
 ·have e:aS g l t=none:=by unfold aS;rw [if_neg h]
  rw [e];rw [Zag] at cS cT ⊢;refine gI (ts:=[.cell 6 34,.slot 7]) 537396207 Tryz.func10 ?_;refine fN 1 @tmz ?_;refine gB ?_;refine fC @tmz (cS) ?_
  cases h1:(Zbw g && Zd2 g l) with
  | false =>
   refine fR @tmz ?_;exact fD (aj4 @z1 @z2 @hz @tmz)
  | true =>
  have h2:(Zbw g && Zbs g t)=false:=by
   rw [Tar] at h1
   cases h3:Zbs g t with
   | false=>rw [Bool.and_false]
   | true=>exact absurd ⟨h1.1,h1.2,h3⟩ h
  rw [h2] at cT;refine fC @tmz (cT) ?_;refine fR @tmz ?_;exact fD (aj4 @z1 @z2 @hz @tmz)
 obtain ⟨h1,h2,h3⟩:=h;have e:aS g l t=apT g l t:=by unfold aS;rw [if_pos ⟨h1,h2,h3⟩]
 have hg:=Zdm.1 h1;have hS:=ZiH.1 h2;have hT:=Zc0.1 h3;have cA:=ZpN hok hg hS.w _ (Tan _) hT;rw [e];rw [h1,h2] at cS;rw [h1,h3] at cT;rw [Zag] at cS cT cA ⊢;refine gI (ts:=[.cell 6 34,.slot 7]) 537396207 Tryz.func10 ?_;refine fN 1 @tmz ?_;refine gB ?_;refine fC @tmz (cS) ?_;refine fC @tmz (cT) ?_;refine fR @tmz ?_;refine fN 3 @tmz ?_;refine gB ?_;refine fC @tmz (cA) ?_;refine fR @tmz ?_
 cases hu:apT g l t with
 | none=>(exact fD (aj4 @z1 @z2 @hz @tmz))
 | some u =>
  have z3:(some u).getD zTm=u:=rfl;have z4:(some u).isSome=true:=rfl;have hk:=ZiG hg hS.to' _ t (Tan _) hT hu;have cC:=ZeE u (Zz6 hk);rw [ZoS hu];refine fN 6 (aj3 @z3 @z4 @tmz) ?_;refine gB ?_;refine fC @tmz (cC) ?_;refine fR @tmz ?_;exact fD (aj3 @z3 @z4 @tmz)
theorem ZAU {t u:Tm} (h:aS g l t=some u):TermOk g u:=by
 unfold aS at h;split at h
 ·next hc=>exact ZiG (Zdm.1 hc.1) (ZiH.1 hc.2.1).to' _ t (Tan _) (Zc0.1 hc.2.2) h
 ·cases h
end
theorem Zev {g:Sgn} {a:Alg} {vs:List Tm} {xs:List Int} {t:Tm} (h:t.op < 0):ZaT g a vs xs t=valV vs xs t:=by
 obtain ⟨op,nm,so,args⟩:=t;simp only [Tm.op] at h;rw [ZaT,if_pos h]
theorem ZiI {g:Sgn} {a:Alg} {vs:List Tm} {xs:List Int} {t:Tm} (h:¬ t.op < 0):ZaT g a vs xs t=opV (isAs g t.op) a.size (a.tables.getD t.op.toNat []) (ZcK g a vs xs t.args):=by
 obtain ⟨op,nm,so,args⟩:=t;simp only [Tm.op,Tm.args] at h ⊢;rw [ZaT,if_neg h]
theorem ZhL {g:Sgn} {t:Tm} (h:Zcu g t):t∈Zav t:=by
 obtain ⟨op,nm,so,args⟩:=t;have e1:=h.1;have e2:=h.2.2.2.2;simp only [Tm.op,Tm.args] at e1 e2;subst e1 e2;simp [Zav]
theorem ZhM {t b:Tm} (hop:0<=t.op) (hb:b∈t.args):∀ v∈Zav b,v∈Zav t:=by
 obtain ⟨op,nm,so,args⟩:=t;simp only [Tm.op,Tm.args] at hop hb;have h:¬ op=-1:=om;intro v hv;simp only [Zav,if_neg h];clear hop h
 induction args with
 | nil=>cases hb
 | cons x xs ih =>
  simp only [Zaz,Tbg];rcases Tbf.1 hb with rfl | hb
  ·exact .inl hv
  ·exact .inr (ih hb)
theorem ZxM (t v:Tm):Con e0 98 [.agg (Zab v),.one (.ptr (Zab t))] [.one (.lit (.bool (decide (Zah v t=0))))]:=by
 refine gI 15 Tryz.func98 ?_;refine fB @tmz ?_;refine fC @tmz (ZfX v t) ?_;refine fR @tmz ?_;exact fT @tmz
theorem Zlo {g:Sgn} {a:Alg} {vs:List Tm} {xs:List Int} (hA:AlgOk g a) (hv:ValOk a vs xs) (hvs:vs.length<=big):∀ (n:Nat) (t:Tm),sizeTm t < n->ZaD g t->(∀ v∈Zav t,v∈vs)->sizeTm t<=big ->
  Con e0 57 [.agg (Zag g),.agg (Zbz a),.agg (Zab t),.one (.sl (Zaa vs)),.one (.sl (xs.map Zat))] [.one (.lit (.int .i64 (ZaT g a vs xs t)))]:=by
 intro n
 induction n with
 | zero=>exact fun _ h=>om
 | succ n ih =>
  intro t hn hf hin hbig;rw [Zag,Zbz] at ih ⊢;refine gI 2361201255833835568383 Tryz.func57 ?_;rcases ZeT hf.node with ⟨hvar,hop⟩ | ⟨hop,o,d,hap⟩
  ·have q1:(t.op < 0)=True:=eq_true hop;rw [Zev hop];have c:=ZpO (ts:=vs) (f:=98) (caps:=[.ptr (Zab t)]) (P:=fun v=>decide (Zah v t=0)) hvs fun v _=>ZxM t v;obtain ⟨r,hr,c⟩:=c;have hmem:=hin t (ZhL hvar);rcases hr with ⟨k,v,rfl,hk,hp,hbef⟩ | ⟨rfl,hno⟩
   rotate_left
   ·have:=List.any_eq_false.1 hno t hmem;simp [Zb9] at this
   have hkl:=(Tad.1 hk).1;obtain ⟨x,hx⟩:∃ x,xs[k]?=some x:=⟨_,Taa (by rw [hv.len];exact hkl)⟩;have e:=Zkc hk hx (by simpa using hp) fun j u hj hu=>by simpa using hbef j u hj hu
   rw [e];refine fB (ai @tmz @q1) ?_;refine fC @tmz (c) ?_;refine fR (aj3 @tmz @Zao @hx) ?_;exact fT @tmz
  ·have q1:(t.op < 0)=False:=eq_false om;rw [ZiI om];obtain ⟨l,hl,hT,has⟩:=Zln hA hap;have el:a.tables.getD t.op.toNat []=l:=by simp [List.getD_eq_getElem?_getD,hl]
   rw [has,el];have hws:∀ x∈ZcK g a vs xs t.args,In0 a.size x:=Zgy hA hv (by have:=(ZaI.1 hf).2.1;exact Zd7.2 this) fun v hvm=>by
    refine hin v ?_;obtain ⟨op,nm,so,args⟩:=t;simp only [Tm.op,Tm.args] at hop hvm;have:¬ op=-1:=om;simpa only [Zav,if_neg this] using hvm
   have hlen:=ZhK (g:=g) (a:=a) (vs:=vs) (xs:=xs) t.args;have hnas:=hap.nas;have hat:=hap.at';have hwg:∀ (i:Nat) b,t.args[i]?=some b->(ZcK g a vs xs t.args)[i]?=some (ZaT g a vs xs b):=fun i b hb=>by rw [Zfg,Taz,hb];rfl
   generalize ZcK g a vs xs t.args=ws at *;have hal:t.args.length<=4611686018427387904:=by
    have:∀ l:List Tm,l.length<=sizeTms l:=fun l=>by
     induction l with
     | nil=>exact Taj _
     | cons x xs ih=>cases x;simp only [sizeTms,sizeTm,Tag];omega
    have h1:=this t.args;have h2:sizeTm t=1+sizeTms t.args:=by obtain ⟨op,nm,so,args⟩:=t;rfl
    unfold big at hbig;omega
   refine fG (ai @tmz @q1) ?_;have F:=@ZAx;refine gL (ι:=Nat) [11,12,13,14,27,28,54] [] (fun i=>[(27,A.d (.one (.lit (.int .i64 i)))),(11,.d (.one (.lit (.int .i64 (accV o.assoc a.size l ws i)))))]) (fun i=>[]) (fun i=>i<=t.args.length) (fun i=>t.args.length - i) (0) (Taj _) (fun i hi=>?_);clear F;by_cases hlt:i < t.args.length;rotate_left
   ·have q2:¬ ((i:Int) < (t.args.length:Int)):=om;obtain rfl:i=t.args.length:=by omega
    cases hac:o.assoc with
    | true =>
     have e:opV true a.size l ws=accV true a.size l ws t.args.length:=by rw [opV,if_pos rfl,hlen]
     rw [e];exact fT (aj6 @tmz @q2 @hop @hat @Zae @hac)
    | false =>
     rw [hac] at hT;have hb:=Zje (l:=l) hT.lo hws ws.length (Tai _);rw [hlen] at hb;have hg:=(hT.get hb.1 (by rw [<- hnas hac];exact hb.2)).1;have e:opV false a.size l ws=l.getD (accV false a.size l ws t.args.length).toNat 0:=by simp [opV,hlen]
     have hb0:=hb.1;rw [e];generalize l.getD (accV false a.size l ws t.args.length).toNat 0=y at hg ⊢;exact fT (aj11 @tmz @q2 @hop @hat @Zae @hac @Zbp @Zao @hl @hb0 @hg)
   have q2:(i:Int) < (t.args.length:Int):=om;obtain ⟨b,hb⟩:∃ b,t.args[i]?=some b:=⟨_,Taa hlt⟩;have hbm:=Tac hb;have hw1:=Zap (k:=i) om;have hsz:sizeTm b < sizeTm t:=by
    have h1:=ZaX hbm;have h2:sizeTm t=1+sizeTms t.args:=by obtain ⟨op,nm,so,args⟩:=t;rfl
    omega
   have cI:=ih b om ((ZaI.1 hf).2.1 b hbm) (fun v hvm=>hin v (ZhM hop hbm v hvm)) om;obtain ⟨s1,s2,s3,s4,s5⟩:=ZxK hT hws (fun h=>by rw [hlen];exact hnas h) (hwg i b hb);refine fB (aj3 @tmz @q2 @hb) ?_;refine fC (ai @tmz @hb) (cI) ?_;refine fR @tmz ?_
   cases hac:o.assoc with
   | false =>
    rw [hac] at s1 s2 s3 s5;have s5:=s5 (.inl rfl);have F:=aj9 @tmz @s1 @s2 @hop @hat @Zae @hac @hw1 @s5;refine gG ?_;exact ⟨i+1,hlt,gw,gw,om⟩
   | true =>
    rw [hac] at s1 s2 s3 s4 s5;rcases Nat.eq_zero_or_pos i with hi0 | hi0
    ·have s5:=s5 (.inr hi0);have q3:=lF 0 i;have F:=aj10 @tmz @s1 @s2 @hop @hat @Zae @hac @hw1 @q3 @s5;refine gG ?_;exact ⟨i+1,hlt,gw,gw,om⟩
    ·have s4:=s4 rfl hi0;have q3:=lT 0 i;have F:=aj14 @tmz @s1 @s2 @s3 @hop @hat @Zae @hac @hw1 @q3 @Zbp @Zao @hl @s4;refine gG ?_;exact ⟨i+1,hlt,gw,gw,om⟩
def curV (z:Int) (l ws:List Int):Nat->Int
 | 0=>ws.getD 0 0
 | j+1=>l.getD (curV z l ws j * z+ws.getD (j+1) 0).toNat 0
theorem Zwo {z:Int} {l ws:List Int} {w:Int} (h:ws[0]?=some w):curV z l ws 0=w:=by simp [curV,List.getD_eq_getElem?_getD,h]
theorem Zrw {z:Int} {l ws:List Int}:∀ j:Nat,accV true z l ws (j+1)=curV z l ws j
 | 0=>by simp [accV,curV]
 | j+1=>by
  have ih:=Zrw (z:=z) (l:=l) (ws:=ws) j;rw [accV,if_pos ⟨rfl,om⟩,ih,curV]
structure TabT (z:Int) (l:List Int):Prop where
 lo:1<=z
 hi:z<=4
 len:l.length=z.toNat * z.toNat
 all:∀ x∈l,In0 z x
theorem ZlU {z:Int} {l ws:List Int} (hT:TabT z l) (hw:∀ x∈ws,In0 z x):∀ j:Nat,j < ws.length->In0 z (curV z l ws j)
 | 0,h=>by
  rw [Zwo (Taa h)];exact hw _ (List.getElem_mem _)
 | j+1,h=>by
  have ih:=ZlU hT hw j om;have hwi:In0 z (ws.getD (j+1) 0):=by
   rw [List.getD_eq_getElem?_getD,Taa h];exact hw _ (List.getElem_mem _)
  have hm:=Zdq ih.1 ih.2 hT.lo hwi;have hz:((z.toNat * z.toNat:Nat):Int)=z * z:=by rw [Int.natCast_mul,Int.toNat_of_nonneg (by have:=hT.lo;omega)]
  have hl:(curV z l ws j * z+ws.getD (j+1) 0).toNat < l.length:=by rw [hT.len];omega
  rw [curV,List.getD_eq_getElem?_getD,Taa hl];exact hT.all _ (List.getElem_mem hl)
theorem ZxN {z:Int} {n:Nat} {ac:Bool} {l ws:List Int} (hT:TabN z n ac l) (hw:∀ x∈ws,In0 z x) (hn:ac=false->ws.length=n) (h2:2<=ws.length) (hno:ws.length=3->l.length=z.toNat * z.toNat * z.toNat->z=1) :
  TabT z l∧opV ac z l ws=curV z l ws (ws.length - 1):=by
 have hlo:=hT.lo;have hhi:=hT.hi;have hlen:=hT.len
 cases ac with
 | true =>
  have e2:=hT.as2 rfl;subst e2;rw [Nat.pow_succ,Nat.pow_succ,Nat.pow_zero,Nat.one_mul] at hlen;refine ⟨⟨hlo,hhi,hlen,hT.all⟩,?_⟩;rw [opV,if_pos rfl,<- Zrw];congr 1;omega
 | false =>
  have hn:=hn rfl;have h3:=hT.le3;rcases (by omega:ws.length=2∨ws.length=3) with h | h
  ·have e2:n=2:=om;subst e2;rw [Nat.pow_succ,Nat.pow_succ,Nat.pow_zero,Nat.one_mul] at hlen;refine ⟨⟨hlo,hhi,hlen,hT.all⟩,?_⟩;simp [opV,accV,curV,h]
  ·have e3:n=3:=om;subst e3;rw [Nat.pow_succ,Nat.pow_succ,Nat.pow_succ,Nat.pow_zero,Nat.one_mul] at hlen;have e1:=hno h hlen;subst e1;have hTT:TabT 1 l:=⟨hlo,hhi,by rw [hlen];rfl,hT.all⟩;have i1:=ZoT hT hw (fun _=>hn);have i2:=ZlU hTT hw (ws.length - 1) om;simp only [In0] at i1 i2;exact ⟨hTT,om⟩
theorem Zlp {g:Sgn} {a:Alg} {vs:List Tm} {xs:List Int} (hA:AlgOk g a) (hv:ValOk a vs xs) (hvs:vs.length<=big) (hvok:Zaw vs):∀ (n:Nat) (t:Tm),sizeTm t < n->okTm t->ZaD g t->(∀ v∈Zav t,v∈vs)->sizeTm t<=big ->
  Con e0 56 [.agg (Zbz a),.agg (Zab t),.one (.sl (Zaa vs)),.one (.sl (xs.map Zat))] [.one (.lit (.int .i64 (ZaT g a vs xs t)))]:=by
 intro n
 induction n with
 | zero=>exact fun _ h=>om
 | succ n ih =>
  intro t hn hok hf hin hbig;have hTw:=fun (i:Nat) (x y:Int) (ht:Tab2 a i) (hx:Inz a x) (hy:Inz a y)=>Zlm ht hx hy;rw [Zbz] at ih hTw ⊢;unfold big at hvs;refine gI 340282366922176403502678002122424078143 Tryz.func56 ?_;rcases ZeT hf.node with ⟨hvar,hop⟩ | ⟨hop,o,d,hap⟩
  ·have q1:(t.op=-1)=True:=eq_true hvar.1;rw [Zev hop];have hmem:=hin t (ZhL hvar);refine fG (ai @tmz @q1) ?_;have F:=@e0P;refine gL (ι:=Nat) [8,9,18,26] [] (fun i=>[(9,A.d (.one (.lit (.int .i64 i))))]) (fun i=>[]) (fun i=>i<=vs.length∧∀ j u,j < i->vs[j]?=some u->Zah u t≠0) (fun i=>vs.length - i) (0) (⟨Taj _,fun j u h=>absurd h om⟩) (fun i hi=>?_);clear F;obtain ⟨hil,hbef⟩:=hi;by_cases hlt:i < vs.length
   rotate_left
   ·obtain ⟨k,hk⟩:=Tbj hmem;have hkl:=(Tad.1 hk).1;exact absurd (Zb9 t) (hbef k t om hk)
   have q2:(i:Int) < (vs.length:Int):=om;obtain ⟨v,hk⟩:∃ v,vs[i]?=some v:=⟨_,Taa hlt⟩;obtain ⟨x,hx⟩:∃ x,xs[i]?=some x:=⟨_,Taa (by rw [hv.len];exact hlt)⟩;have hw1:=Zap (k:=i) om;refine fB (aj3 @tmz @q2 @hk) ?_;refine fC (aj3 @tmz @q2 @hk) (ZdX (hvok.mem (Tac hk)) hok) ?_;by_cases h0:Zah v t=0
   ·have q3:decide (Zah v t=0)=true:=decide_eq_true h0;have e:=Zkc hk hx h0 hbef;rw [e];refine fR (ai @tmz @q3) ?_;exact fT (aj3 @tmz @Zao @hx)
   ·have q3:decide (Zah v t=0)=false:=decide_eq_false h0;have hq:i+1<=vs.length∧∀ j u,j < i+1->vs[j]?=some u->Zah u t≠0:=⟨hlt,fun j u hj hu=>by
     by_cases e:j=i
     ·subst e;rw [hk] at hu;injection hu with hu
      subst hu;exact h0
     ·exact hbef j u om hu⟩
    refine fR (ai @tmz @q3) ?_;have F:=ai @tmz @hw1;refine gG ?_;exact ⟨i+1,hq,gw,gw,om⟩
  ·have q1:(t.op=-1)=False:=eq_false om;rw [ZiI om];obtain ⟨l,hl,hT,has⟩:=Zln hA hap;have el:a.tables.getD t.op.toNat []=l:=by simp [List.getD_eq_getElem?_getD,hl]
   rw [has,el];have hws:∀ x∈ZcK g a vs xs t.args,In0 a.size x:=Zgy hA hv (by have:=(ZaI.1 hf).2.1;exact Zd7.2 this) fun v hvm=>by
    refine hin v ?_;obtain ⟨op,nm,so,args⟩:=t;simp only [Tm.op,Tm.args] at hop hvm;have:¬ op=-1:=om;simpa only [Zav,if_neg this] using hvm
   have hlen:=ZhK (g:=g) (a:=a) (vs:=vs) (xs:=xs) t.args;have hnas:=hap.nas;have hasc:=hap.asc;have hwg:∀ (i:Nat) b,t.args[i]?=some b->(ZcK g a vs xs t.args)[i]?=some (ZaT g a vs xs b):=fun i b hb=>by rw [Zfg,Taz,hb];rfl
   have hal3:t.args.length<=7:=by
    cases hac:o.assoc with
    | true=>exact (hasc hac).2
    | false=>have:=hnas hac;have:=hT.le3;omega
   have hoka:Zaw t.args:=by obtain ⟨op,nm,so,args⟩:=t;simp only [okTm] at hok;exact hok.2.2.2
   have cI:=fun (b:Tm) (hbm:b∈t.args)=>ih b (by
    have h1:=ZaX hbm;have h2:sizeTm t=1+sizeTms t.args:=by obtain ⟨op,nm,so,args⟩:=t;rfl
    omega) (hoka.mem hbm) ((ZaI.1 hf).2.1 b hbm) (fun v hvm=>hin v (ZhM hop hbm v hvm)) (by
    have h1:=ZaX hbm;have h2:sizeTm t=1+sizeTms t.args:=by obtain ⟨op,nm,so,args⟩:=t;rfl
    omega)
   generalize ZcK g a vs xs t.args=ws at *;have hlo:=hT.lo;have hhi:=hT.hi;by_cases n0:t.args.length=0
   ·have hac:o.assoc=false:=by
     cases hac:o.assoc with
     | true=>have:=(hasc hac).1;omega
     | false=>rfl
    have q2:((t.args.length:Int)=0)=True:=eq_true om;have hd0:=hnas hac;have hg:=(hT.get (k:=0) (Int.le_refl _) (by rw [<- hd0,n0,Int.pow_zero];decide)).1;have e:opV o.assoc a.size l ws=l.getD (0:Int).toNat 0:=by simp [opV,hac,hlen,n0,accV]
    rw [e];generalize l.getD (0:Int).toNat 0=y at hg ⊢;have hg':l[0]?=some y:=hg;exact fT (aj9 @tmz @q1 @q2 @Zbp @Zao @hop @hl @hg @hg')
   have q2:((t.args.length:Int)=0)=False:=eq_false om;obtain ⟨b0,hb0⟩:∃ b,t.args[0]?=some b:=⟨_,Taa om⟩;have hw0:=hwg 0 b0 hb0;have i0:=hws _ (Tac hw0);have ev0:ws.getD 0 0=ZaT g a vs xs b0:=by rw [List.getD_eq_getElem?_getD,hw0];rfl
   have q0:(0 < t.args.length)=True:=eq_true om;refine fB (aj4 @tmz @q1 @q2 @hb0) ?_;refine fC (aj3 @tmz @hb0 @q0) (cI b0 (Tac hb0)) ?_;refine fR @tmz ?_;by_cases n1:t.args.length=1
   ·have hac:o.assoc=false:=by
     cases hac:o.assoc with
     | true=>have:=(hasc hac).1;omega
     | false=>rfl
    have q3:((t.args.length:Int)=1)=True:=eq_true om;have hd0:=hnas hac;have hg:=(hT.get i0.1 (by rw [<- hd0,n1,Int.pow_succ,Int.pow_zero,Int.one_mul];exact i0.2)).1;have e:opV o.assoc a.size l ws=l.getD (ZaT g a vs xs b0).toNat 0:=by rw [hac,opV,if_neg (by decide),hlen,n1,accV,if_neg (by simp),accV,ev0,Int.zero_mul,Int.zero_add]
    rw [e];have i00:=i0.1;generalize l.getD (ZaT g a vs xs b0).toNat 0=y at hg ⊢;exact fT (aj8 @tmz @q3 @Zbp @Zao @hop @hl @i00 @hg)
   have q3:((t.args.length:Int)=1)=False:=eq_false om;have hTl:=hT.len;have zz:((a.size.toNat:Nat):Int)=a.size:=Int.toNat_of_nonneg om;have zb:a.size * a.size<=16∧0<=a.size * a.size:=by
    have h1:=Int.mul_le_mul hhi hhi om om;have h2:=Int.mul_nonneg (show 0<=a.size by omega) (show 0<=a.size by omega);omega
   have zc:a.size * a.size * a.size<=64∧0<=a.size * a.size * a.size:=by
    have h1:=Int.mul_le_mul zb.1 hhi om om;have h2:=Int.mul_nonneg zb.2 (show 0<=a.size by omega);omega
   have w1:IntKind.i64.wrap (a.size * a.size)=a.size * a.size:=IntWalk.i64_in _ om;have w2:IntKind.i64.wrap (a.size * a.size * a.size)=a.size * a.size * a.size:=IntWalk.i64_in _ om;by_cases n3:t.args.length=3∧(l.length:Int)=a.size * a.size * a.size∧1 < a.size
   ·obtain ⟨h3,hL,hz⟩:=n3;have hac:o.assoc=false:=by
     cases hac:o.assoc with
     | false=>rfl
     | true =>
      have e2:=hT.as2 hac;rw [e2] at hTl;have e3:(l.length:Int)=a.size * a.size:=by rw [hTl,Nat.pow_succ,Nat.pow_succ,Nat.pow_zero,Nat.one_mul,Int.natCast_mul,zz]
      rw [e3] at hL;have:a.size * a.size * 2<=a.size * a.size * a.size:=Int.mul_le_mul_of_nonneg_left om zb.2;have:1<=a.size * a.size:=by
       have:=Int.mul_le_mul (show 1<=a.size by omega) (show 1<=a.size by omega) om om;omega
      omega
    have hd0:=hnas hac;obtain ⟨b1,hb1⟩:∃ b,t.args[1]?=some b:=⟨_,Taa om⟩;obtain ⟨b2,hb2⟩:∃ b,t.args[2]?=some b:=⟨_,Taa om⟩;have hw1:=hwg 1 b1 hb1;have hw2:=hwg 2 b2 hb2;have i1:=hws _ (Tac hw1);have i2:=hws _ (Tac hw2);have e1:ws.getD 1 0=ZaT g a vs xs b1:=by rw [List.getD_eq_getElem?_getD,hw1];rfl
    have e2:ws.getD 2 0=ZaT g a vs xs b2:=by rw [List.getD_eq_getElem?_getD,hw2];rfl
    have c1:=cI b1 (Tac hb1);have c2:=cI b2 (Tac hb2);have e:opV o.assoc a.size l ws=l.getD ((ZaT g a vs xs b0 * a.size+ZaT g a vs xs b1) * a.size+ZaT g a vs xs b2).toNat 0:=by
     rw [hac,opV,if_neg (by decide),hlen,h3,accV,if_neg (by simp),accV,if_neg (by simp),accV,if_neg (by simp),accV,ev0,e1,e2,Int.zero_mul,Int.zero_add]
    rw [e];clear e ev0 e1 e2 hw0 hw1 hw2;generalize ZaT g a vs xs b0=x0 at *;generalize ZaT g a vs xs b1=x1 at *;generalize ZaT g a vs xs b2=x2 at *;have m1:=Zdq i0.1 i0.2 hlo i1;have m2:=Zdq m1.2.1 m1.2.2 hlo i2;have hx1:=i1.1;have hx2:=i2.1;have hg:=(hT.get m2.2.1 (by rw [<- hd0,h3,Int.pow_succ,Int.pow_succ,Int.pow_succ,Int.pow_zero,Int.one_mul];exact m2.2.2)).1;have u1:IntKind.i64.wrap (x0 * a.size)=x0 * a.size:=IntWalk.i64_in _ om
    have u2:IntKind.i64.wrap (x0 * a.size+x1)=x0 * a.size+x1:=IntWalk.i64_in _ om;have u3:IntKind.i64.wrap ((x0 * a.size+x1) * a.size)=(x0 * a.size+x1) * a.size:=IntWalk.i64_in _ om;have u4:IntKind.i64.wrap ((x0 * a.size+x1) * a.size+x2)=(x0 * a.size+x1) * a.size+x2:=IntWalk.i64_in _ om;have u5:=m2.2.1;generalize l.getD ((x0 * a.size+x1) * a.size+x2).toNat 0=y at hg ⊢;have q4:((t.args.length:Int)=3)=True:=eq_true om
    have q5:((l.length:Int)=a.size * a.size * a.size)=True:=eq_true hL;have q6:(1 < a.size)=True:=eq_true hz;have q7:(1 < t.args.length)=True:=eq_true om;have q8:(2 < t.args.length)=True:=eq_true om;refine fB (aj11 @tmz @q3 @q4 @q5 @q6 @w1 @w2 @Zbp @Zao @hop @hl) ?_;refine fC (aj8 @tmz @hb1 @q7 @Zbp @Zao @hop @hl @u1) (c1) ?_;refine fC (aj5 @tmz @hb2 @q8 @u2 @u3) (c2) ?_;refine fR (aj6 @tmz @Zbp @Zao @u4 @u5 @hg) ?_
    exact fT @tmz
   have hno:ws.length=3->l.length=a.size.toNat * a.size.toNat * a.size.toNat->a.size=1:=fun h3 hL=>by
    have:¬ 1 < a.size:=fun hz=>n3 ⟨om,by rw [hL,Int.natCast_mul,Int.natCast_mul,zz],hz⟩;omega
   obtain ⟨hTT,eo⟩:=ZxN hT hws (fun h=>by rw [hlen];exact hnas h) om hno;rw [eo];have hcur0:=Zwo (z:=a.size) (l:=l) hw0;have hT2:Tab2 a t.op.toNat:=⟨hlo,hhi,l,hl,hTT.len,hTT.all⟩;refine fG (ai @tmz @q3) ?_;refine gM (ι:=Unit) [90] [] (fun u=>[(90,A.d (.one (.lit (.bool false))))]) (fun u=>[]) (fun u=>True) ?_ (fun u hu=>Exists.intro _ (ai (Wk.refl _) ?_))
   ·by_cases h3:t.args.length=3
    ·have q4:((t.args.length:Int)=3)=True:=eq_true om;by_cases hL:(l.length:Int)=a.size * a.size * a.size
     ·have q5:((l.length:Int)=a.size * a.size * a.size)=True:=eq_true hL;have q6:(1 < a.size)=False:=eq_false fun hz=>n3 ⟨h3,hL,hz⟩;have F:=aj10 @tmz @q4 @q5 @q6 @w1 @w2 @Zbp @Zao @hop @hl;refine gG ?_;exact ⟨(),trivial,gw,gw⟩
     ·have q5:((l.length:Int)=a.size * a.size * a.size)=False:=eq_false hL;have F:=aj9 @tmz @q4 @q5 @w1 @w2 @Zbp @Zao @hop @hl;refine gG ?_;exact ⟨(),trivial,gw,gw⟩
    ·have q4:((t.args.length:Int)=3)=False:=eq_false om;have F:=ai @tmz @q4;refine gG ?_;exact ⟨(),trivial,gw,gw⟩
   refine fG @tmz ?_;have F:=@hcur0;refine gL (ι:=Nat) [10,11,128] [] (fun j=>[(11,A.d (.one (.lit (.int .i64 (j+1))))),(10,.d (.one (.lit (.int .i64 (curV a.size l ws j)))))]) (fun j=>[]) (fun j=>j+1<=t.args.length) (fun j=>t.args.length - j) (0) (om) (fun j hj=>?_);clear F;by_cases hlt:j+1 < t.args.length;rotate_left
   ·have q5:=lF ((j:Int)+1) t.args.length;have ej:ws.length - 1=j:=om;rw [ej];exact fT (ai @tmz @q5)
   have q5:=lT ((j:Int)+1) t.args.length;obtain ⟨b,hb⟩:∃ b,t.args[j+1]?=some b:=⟨_,Taa hlt⟩;have hwb:=hwg (j+1) b hb;have ib:=hws _ (Tac hwb);have eb:ws.getD (j+1) 0=ZaT g a vs xs b:=by rw [List.getD_eq_getElem?_getD,hwb];rfl
   have hci:=ZlU hTT hws j om;have c1:=cI b (Tac hb);have c2:=hTw t.op.toNat (curV a.size l ws j) (ZaT g a vs xs b) hT2 hci ib;have htw:tw2 a t.op.toNat (curV a.size l ws j) (ZaT g a vs xs b)=curV a.size l ws (j+1):=by rw [tw2,el,curV,eb]
   rw [Int.toNat_of_nonneg hop,htw] at c2;have hwr:IntKind.i64.wrap ((j:Int)+1+1)=(j:Int)+1+1:=IntWalk.i64_in _ om;have hnn:(0<=(j:Int)+1)=True:=eq_true om;have htn:((j:Int)+1).toNat=j+1:=om;refine fB (ai @tmz @q5) ?_;refine fC (aj5 @tmz @hnn @htn @hb @hlt) (c1) ?_;refine fC @tmz (c2) ?_;refine fR @tmz ?_;have F:=ai @tmz @hwr;refine gG ?_;exact ⟨j+1,om,gw,gw,om⟩
theorem Zst {l:List Tm} (h:Zaw l):Zaw (Zc2 l):=Zi8 (r:=[]) h trivial
theorem ZfA {t:Tm} (h:okTm t):Zaw (ZaB t):=Zst (ZmD h)
theorem ZoU (l:List Tm):(Zc2 l).length<=l.length:=by have:=Zf4 l [];simpa [colT,Zc2] using this
theorem ZhN (t:Tm):(ZaB t).length<=1+Zal (Zab t):=Tbd (ZoU _) (Zf5 t)
theorem Zlq {α:Type} {vs:List α} {p:α->Bool} {i:Nat} {a:α} (h:vs[i]?=some a):(vs.take (i+1)).all p=((vs.take i).all p && p a):=by
 rw [List.take_add_one,h];simp
theorem Zwp {α:Type} {vs:List α} {p:α->Bool} {a:α} (h:a∈vs) (hp:p a=false):vs.all p=false:=by
 rw [List.all_eq_false];exact ⟨a,h,by simp [hp]⟩
def inB (z:Int) (x:Int):Bool:=decide (0<=x∧x < z)
noncomputable def Zcv (g:Sgn) (a:Alg) (t:Tm) (xs:List Int):Int:=if ZcM g a=true∧Zbs g t=true∧xs.length=(ZaB t).length∧xs.all (inB a.size)=true then ZaT g a (ZaB t) xs t else -1
theorem ZdP {g:Sgn} {a:Alg} {t:Tm} {xs:List Int} (h:¬ (ZcM g a=true∧Zbs g t=true∧xs.length=(ZaB t).length∧xs.all (inB a.size)=true)):Zcv g a t xs=-1:=if_neg h
theorem ZfB {t v:Tm}:v∈Zav t->v∈ZaB t:=fun h=>ZdZ.2 h
theorem ZlV {g:Sgn} {t:Tm} (hok:ZbJ g) (ht:okTm t) (hb:Zal (Zab t)<=1048576):Con e0 28 [.agg (Zag g),.agg (Zab t)] [.one (.lit (.bool (Zbw g && Zbs g t)))]:=by
 by_cases hg:SgnOk g;rotate_left
 ·have hf:Zbw g=false:=Ze1 hg;have c:=ZlL hok hg;rw [Zag] at c;refine gI 127 Tryz.func28 ?_;refine fB (ai @tmz @Zbj) ?_;refine fC @tmz (c) ?_;refine fR @tmz ?_;exact fT (ai @tmz @hf)
 have hs:=ZcX hg;have c:=Zpw hok hg;rw [Zag] at c;refine gI 127 Tryz.func28 ?_;refine fB (ai @tmz @Zbj) ?_;have F:=@tmz;refine gCE (c) ?_;clear F;rintro r ⟨b,rfl⟩;have c1:=Zpv (mc:=.lit (.map (some b))) hg ht (Zc8 hb);generalize C.lit (.map (some b))=mc at c1 ⊢;refine fR (ai @ZAf @ZiW) ?_;refine fB @tmz ?_;refine fC @tmz (c1) ?_;refine fR @tmz ?_;exact fT (ai @tmz @hs)
section
variable {g:Sgn} {a:Alg} {t:Tm} {xs:List Int}
theorem Zry (h:Zbs g t=true):ZaD g t:=(Zc0.1 h).form
end
def unv (a:Alg) (o:Opr):Int:=(a.tables.getD (o.unit.toNat - 1) []).getD 0 0
structure OpOk (a:Alg) (i:Nat) (o:Opr):Prop where
 unit:o.unit≠0->∀ x,Inz a x->tw2 a i x (unv a o)=x∧tw2 a i (unv a o) x=x
 comm:o.comm=true->∀ x y,Inz a x->Inz a y->tw2 a i x y=tw2 a i y x
 assoc:o.assoc=true->∀ x y z,Inz a x->Inz a y->Inz a z->tw2 a i (tw2 a i x y) z=tw2 a i x (tw2 a i y z)
open Classical in
noncomputable def isOp (a:Alg) (i:Nat) (o:Opr):Bool:=decide (OpOk a i o)
theorem ZmN {a:Alg} {i:Nat} {o:Opr} (h:OpOk a i o):isOp a i o=true:=by simp [isOp,h]
theorem Zlr {a:Alg} {i:Nat} {o:Opr} (h:¬ OpOk a i o):isOp a i o=false:=by simp [isOp,h]
structure ObOk (g:Sgn) (a:Alg):Prop where
 alg:AlgOk g a
 all:∀ (i:Nat) (o:Opr),g.ops[i]?=some o->OpOk a i o
open Classical in
noncomputable def isOb (g:Sgn) (a:Alg):Bool:=decide (ObOk g a)
theorem ZmO {g:Sgn} {a:Alg} (h:ObOk g a):isOb g a=true:=by simp [isOb,h]
theorem ZhO {g:Sgn} {a:Alg} (h:¬ ObOk g a):isOb g a=false:=by simp [isOb,h]
structure AtOp (g:Sgn) (a:Alg) (i:Nat) (o:Opr):Prop where
 lo:1<=a.size
 hi:a.size<=4
 tab:(o.assoc=true∨o.comm=true∨o.unit≠0)->Tab2 a i
 unit:o.unit≠0->∃ (q:Nat) (l:List Int),o.unit=(q:Int)+1∧q < 14∧a.tables[q]?=some l∧l[0]?=some (unv a o)∧Inz a (unv a o)
theorem AlgOk.atOp {g:Sgn} {a:Alg} (h:AlgOk g a) {i:Nat} {o:Opr} (ho:g.ops[i]?=some o):AtOp g a i o:=by
 have hm:=Tac ho;obtain ⟨d,hd,_⟩:=(h.sgn.decls o hm).first;have hax:=h.sgn.axs o hm;have hil:i < g.ops.length:=(Tad.1 ho).1;have hl14:=h.sgn.len;refine ⟨h.lo,h.hi,fun ha=>?_,fun hu=>?_⟩
 ·have h2:=(hax.two ha d hd).1;obtain ⟨l,ht⟩:∃ l,a.tables[i]?=some l:=⟨_,Taa (by rw [h.len];exact hil)⟩;have hT:=h.tab i o d l ho hd ht;have hTl:=hT.len;rw [h2,Nat.pow_two] at hTl;exact ⟨h.lo,h.hi,l,ht,hTl,hT.all⟩
 ·have hlo:=hax.lo;have hhi:=hax.hi;have hq:o.unit.toNat - 1 < g.ops.length:=om;obtain ⟨p,hp⟩:∃ p,g.ops[o.unit.toNat - 1]?=some p:=⟨_,Taa hq⟩;obtain ⟨u,hu',_⟩:=(h.sgn.decls p (Tac hp)).first;obtain ⟨h2,h3⟩:=hax.two (.inr (.inr hu)) d hd;obtain ⟨d0,hd0⟩:∃ x,d.args[0]?=some x:=⟨_,Taa om⟩;obtain ⟨d1,hd1⟩:∃ x,d.args[1]?=some x:=⟨_,Taa om⟩;have hz:=((h3 d0 d1 hd0 hd1).2.2 hu p u hp hu').1;obtain ⟨l,ht⟩:∃ l,a.tables[o.unit.toNat - 1]?=some l:=⟨_,Taa (by rw [h.len];exact hq)⟩
  have hT:=h.tab _ p u l hp hu' ht;have hTl:=hT.len;rw [hz,Nat.pow_zero] at hTl;obtain ⟨v,hv⟩:∃ v,l[0]?=some v:=⟨_,Taa om⟩;have e1:unv a o=v:=by unfold unv;simp [List.getD_eq_getElem?_getD,ht,hv]
  refine ⟨o.unit.toNat - 1,l,om,om,ht,by rw [e1];exact hv,?_⟩;rw [e1];exact hT.all v (Tac hv)
theorem szN {a:Alg} (h0:1<=a.size) (h1:a.size<=4):∃ n:Nat,a.size=(n:Int)∧1<=n∧n<=4:=⟨a.size.toNat,om,om,om⟩
def RowY (a:Alg) (i:Nat) (o:Opr) (n x y:Nat):Prop:=(o.comm=true->tw2 a i x y=tw2 a i y x)∧(o.assoc=true->∀ z:Nat,z < n->tw2 a i (tw2 a i x y) z=tw2 a i x (tw2 a i y z))
def RowX (a:Alg) (i:Nat) (o:Opr) (n x:Nat):Prop:=(o.unit≠0->tw2 a i x (unv a o)=x∧tw2 a i (unv a o) x=x)∧∀ y:Nat,y < n->RowY a i o n x y
theorem Zzp {a:Alg} {i:Nat} {o:Opr} {n:Nat} (hn:a.size=(n:Int)) (h:∀ x:Nat,x < n->RowX a i o n x):OpOk a i o:=by
 have zin:∀ {x:Int},Inz a x->∃ k:Nat,x=(k:Int)∧k < n:=fun hx=>⟨_,(Int.toNat_of_nonneg hx.1).symm,by have h0:=hx.1;have:=hx.2;omega⟩;refine ⟨fun hu x hx=>?_,fun hc x y hx hy=>?_,fun hc x y z hx hy hz=>?_⟩
 ·obtain ⟨k,rfl,hk⟩:=zin hx;exact (h k hk).1 hu
 ·obtain ⟨k,rfl,hk⟩:=zin hx;obtain ⟨k2,rfl,hk2⟩:=zin hy;exact ((h k hk).2 k2 hk2).1 hc
 ·obtain ⟨k,rfl,hk⟩:=zin hx;obtain ⟨k2,rfl,hk2⟩:=zin hy;obtain ⟨k3,rfl,hk3⟩:=zin hz;exact ((h k hk).2 k2 hk2).2 hc k3 hk3
theorem ZeU {P:Nat->Prop} {x:Nat} (h:∀ y:Nat,y < x->P y) (hx:P x):∀ y:Nat,y < x+1->P y:=fun y hy=>by
 by_cases e:y=x
 ·subst e;exact hx
 ·exact h y om
theorem Zm9 {g:Sgn} {a:Alg} {i:Nat} {o:Opr} (ho:g.ops[i]?=some o) (hA:AtOp g a i o):Con e0 51 [.agg (Zag g),.agg (Zbz a),.one (.lit (.int .i64 i))] [.one (.lit (.bool (isOp a i o)))]:=by
 obtain ⟨n,hn,hn1,hn4⟩:=szN hA.lo hA.hi;have inz:∀ {x:Nat},x < n->Inz a x:=fun hx=>⟨om,om⟩;have cT:∀ {x y:Int},Tab2 a i->Inz a x->Inz a y->_:=fun h1 h2 h3=>Zlm (a:=a) (i:=i) h1 h2 h3;have hno:=Zlr (a:=a) (i:=i) (o:=o);have hil:=(Tad.1 ho).1;rw [Zbz] at cT;rw [Zag,Zbz];refine gI 324518709005399160074923339157471 Tryz.func51 ?_;refine fG (ai @ho @Zae) ?_;have F:=@e0P;refine gL (ι:=Nat) [6,8,9,10,11,20,25,50,62,79,87,108] [] (fun x=>[(8,A.d (.one (.lit (.int .i64 x))))]) (fun x=>[]) (fun x=>x<=n∧∀ x':Nat,x' < x->RowX a i o n x') (fun x=>n - x) (0) (⟨om,fun x' h=>absurd h om⟩) (fun x hx=>?_);clear F
 obtain ⟨hxn,hall⟩:=hx;by_cases hlt:x < n;rotate_left
 ·have q2:¬ ((x:Int) < a.size):=om;have ht:=ZmN (Zzp hn fun x' h=>hall x' om);exact fT (ai @q2 @ht)
 have q2:(x:Int) < a.size:=om;have hX:=inz hlt;have hwx:=Zap (k:=x) om;refine fG @q2 ?_;refine gM (ι:=Unit) [9,25,50] [] (fun u=>[]) (fun u=>[]) (fun u=>o.unit≠0->tw2 a i x (unv a o)=x∧tw2 a i (unv a o) x=x) ?_ (fun u hu=>Exists.intro _ (ai (Wk.refl _) ?_))
 ·by_cases hu:o.unit=0
  ·have z1:decide ((0:Int) < o.unit)=false:=decide_eq_false om;have F:=@z1;refine gG ?_;exact ⟨(),fun h=>absurd hu h,gw,gw⟩
  obtain ⟨q,l,hq,hq14,hl,hl0,hE⟩:=hA.unit hu;have ht:=hA.tab (.inr (.inr hu));have z1:decide ((0:Int) < o.unit)=true:=decide_eq_true om;have hsub:IntKind.i64.wrap (o.unit - 1)=(q:Int):=by rw [hq];exact Za2 om om om
  refine fB (aj6 @z1 @hsub @Zbp @Zao @hl @hl0) ?_;refine fC @e0P (cT ht hX hE) ?_;by_cases h1:tw2 a i x (unv a o)=x;rotate_left
  ·have hf:=hno fun hO=>h1 (hO.unit hu x hX).1;have y1:(tw2 a i x (unv a o)=(x:Int))=False:=eq_false h1;refine fR @y1 ?_;exact fT @hf
  have y1:(tw2 a i x (unv a o)=(x:Int))=True:=eq_true h1;refine fC @y1 (cT ht hE hX) ?_;by_cases h2:tw2 a i (unv a o) x=x;rotate_left
  ·have hf:=hno fun hO=>h2 (hO.unit hu x hX).2;have y2:(tw2 a i (unv a o) x=(x:Int))=False:=eq_false h2;refine fR (ai @y1 @y2) ?_;exact fT @hf
  have y2:(tw2 a i (unv a o) x=(x:Int))=True:=eq_true h2;refine fR (ai @y1 @y2) ?_;have F:=@e0P;refine gG ?_;exact ⟨(),fun _=>⟨h1,h2⟩,gw,gw⟩
 refine fG @e0P ?_;have F:=@e0P;refine gL (ι:=Nat) [6,10,11,62,79,87,108] [] (fun y=>[(10,A.d (.one (.lit (.int .i64 y))))]) (fun y=>[]) (fun y=>y<=n∧∀ y':Nat,y' < y->RowY a i o n x y') (fun y=>n - y) (0) (⟨om,fun x' h=>absurd h om⟩) (fun y hy=>?_);clear F;obtain ⟨hyn,hally⟩:=hy;have hwy:=Zap (k:=y) om;have nxt:(∀ y':Nat,y' < n->RowY a i o n x y')->x+1<=n∧∀ x':Nat,x' < x+1->RowX a i o n x':=fun h=>⟨hlt,ZeU hall ⟨hu,h⟩⟩
 by_cases hyl:y < n;rotate_left
 ·have q3:¬ ((y:Int) < a.size):=om;have hq:=nxt fun y' hy'=>hally y' om;have F:=ai @q3 @hwx;refine gG ?_;exact ⟨x+1,hq,gw,gw,om⟩
 have q3:(y:Int) < a.size:=om;have hY:=inz hyl;by_cases hcm:o.comm=true∨o.assoc=true;rotate_left
 ·have hc1:o.comm=false:=by simpa using fun h=>hcm (.inl h)
  have hc2:o.assoc=false:=by simpa using fun h=>hcm (.inr h)
  have hq:=nxt fun y' hy'=>⟨fun h=>absurd h (by simp [hc1]),fun h=>absurd h (by simp [hc2])⟩;have F:=aj5 @q3 @hwx @Zae @hc1 @hc2;refine gG ?_;exact ⟨x+1,hq,gw,gw,om⟩
 have ht:=hA.tab (by rcases hcm with h | h;exact .inr (.inl h);exact .inl h)
 repeat (with_reducible refine ZfO ?_)
 refine gM (ι:=Unit) [62] [] (fun u1=>[(62,A.d (.one (.lit (.bool true))))]) (fun u1=>[]) (fun u1=>True) ?_ (fun u1 hu1=>Exists.intro _ (ai (Wk.refl _) ?_))
 ·cases hc:o.comm with
  | true =>
   have F:=aj3 @q3 @Zae @hc;refine gG ?_;exact ⟨(),trivial,gw,gw⟩
  | false =>
   have hc2:o.assoc=true:=by rcases hcm with h | h;simp [hc] at h;exact h
   have F:=aj4 @q3 @Zae @hc @hc2;refine gG ?_;exact ⟨(),trivial,gw,gw⟩
 refine fG @e0P ?_;refine gM (ι:=Bool) [79] [] (fun u2=>[(79,A.d (.one (.lit (.bool u2))))]) (fun u2=>[]) (fun u2=>(u2=true->¬ OpOk a i o)∧(u2=false->o.comm=true->tw2 a i x y=tw2 a i y x)) ?_ (fun u2 hu2=>Exists.intro _ (ai (Wk.refl _) ?_))
 ·cases hc:o.comm with
  | false =>
   have F:=ai @Zae @hc;refine gG ?_;exact ⟨false,⟨fun h=>(by cases h),fun _ h=>(by cases h)⟩,gw,gw⟩
  | true =>
   refine gB ?_;refine fC (ai @Zae @hc) (cT ht hX hY) ?_;refine fC (ai @Zae @hc) (cT ht hY hX) ?_;by_cases h1:tw2 a i x y=tw2 a i y x
   ·have y1:(tw2 a i x y=tw2 a i y x)=True:=eq_true h1;refine fR (ai @y1 @hc) ?_;exact ⟨false,⟨fun h=>(by cases h),fun _ _=>h1⟩,(have F:=hc;gw),(have F:=hc;gw)⟩
   ·have y1:(tw2 a i x y=tw2 a i y x)=False:=eq_false h1;refine fR (ai @y1 @hc) ?_;exact ⟨true,⟨fun _ hO=>h1 (hO.comm hc x y hX hY),fun h=>(by cases h)⟩,(have F:=hc;gw),(have F:=hc;gw)⟩
 obtain ⟨hu1,hu2⟩:=hu2
 cases u2 with
 | true =>
  have hf:=hno (hu1 rfl);exact fT @hf
 | false =>
 have hCM:=hu2 rfl;have nyt:(o.assoc=true->∀ z:Nat,z < n->tw2 a i (tw2 a i x y) z=tw2 a i x (tw2 a i y z))->y+1<=n∧∀ y':Nat,y' < y+1->RowY a i o n x y':=fun h=>⟨hyl,ZeU hally ⟨hCM,h⟩⟩;refine fG @e0P ?_;have F:=@e0P;refine gL (ι:=Nat) [6,11,87,108] [] (fun z=>[(11,A.d (.one (.lit (.int .i64 z))))]) (fun z=>[]) (fun z=>z<=n∧(o.assoc=true->∀ z':Nat,z' < z->tw2 a i (tw2 a i x y) z'=tw2 a i x (tw2 a i y z'))) (fun z=>n - z) (0) (⟨om,fun _ z' h=>absurd h om⟩) (fun z hz=>?_);clear F
 obtain ⟨hzn,hallz⟩:=hz;have hwz:=Zap (k:=z) om;by_cases hzl:z < n;rotate_left
 ·have q4:¬ ((z:Int) < a.size):=om;have hq:=nyt fun ha z' hz'=>hallz ha z' om;have F:=ai @q4 @hwy;refine gG ?_;exact ⟨y+1,hq,gw,gw,om⟩
 have q4:(z:Int) < a.size:=om;have hZ:=inz hzl
 cases ha:o.assoc with
 | false =>
  have hq:=nyt fun h=>by simp [ha] at h
  have F:=aj4 @q4 @hwy @Zae @ha;refine gG ?_;exact ⟨y+1,hq,gw,gw,om⟩
 | true =>
 obtain ⟨_,_,_,_,_,_,hXY⟩:=ht.get hX hY;obtain ⟨_,_,_,_,_,_,hYZ⟩:=ht.get hY hZ;refine fB (aj3 @q4 @Zae @ha) ?_;refine fC @e0P (cT ht hX hY) ?_;refine fC @e0P (cT ht hXY hZ) ?_;refine fC @e0P (cT ht hY hZ) ?_;refine fC @e0P (cT ht hX hYZ) ?_;by_cases h1:tw2 a i (tw2 a i x y) z=tw2 a i x (tw2 a i y z)
 ·have y1:(tw2 a i (tw2 a i x y) z=tw2 a i x (tw2 a i y z))=True:=eq_true h1;have hq:z+1<=n∧(o.assoc=true->∀ z':Nat,z' < z+1->tw2 a i (tw2 a i x y) z'=tw2 a i x (tw2 a i y z')):=⟨hzl,fun h=>ZeU (hallz h) h1⟩;rw [ha] at hq;refine fR @y1 ?_;have F:=@hwz;refine gG ?_;exact ⟨z+1,hq,gw,gw,om⟩
 ·have y1:(tw2 a i (tw2 a i x y) z=tw2 a i x (tw2 a i y z))=False:=eq_false h1;have hf:=hno fun hO=>h1 (hO.assoc ha x y z hX hY hZ);refine fR @y1 ?_;exact fT @hf
section
variable {g:Sgn} {a:Alg}
theorem Zzq {i:Nat} {o:Opr} (ho:g.ops[i]?=some o) (h:¬ OpOk a i o):isOb g a=false:=ZhO fun hI=>h (hI.all i o ho)
theorem Zsu (hok:ZbJ g) (ha:Zhf a):Con e0 15 [.agg (Zag g),.agg (Zbz a)] [.one (.lit (.bool (isOb g a)))]:=by
 have cA:=ZjQ hok ha;have cX:=fun (i:Nat) (o:Opr) h1 h2=>Zm9 (g:=g) (a:=a) (i:=i) (o:=o) h1 h2;rw [Zag,Zbz] at cA cX ⊢;refine gI 2114111 Tryz.func15 ?_;refine fB @e0P ?_;refine fC @e0P (cA) ?_
 cases hA:ZcM g a with
 | false =>
  have hf:=ZhO (fun h:ObOk g a=>by rw [ZeC h.alg] at hA;cases hA);refine fR @e0P ?_;exact fT @hf
 | true =>
 have hO:=Zgg.1 hA;have hl14:=hO.sgn.len;refine fR @e0P ?_;refine fG @e0P ?_;have F:=@e0P;refine gL (ι:=Nat) [4,5,14,21] [] (fun i=>[(5,A.d (.one (.lit (.int .i64 i))))]) (fun i=>[]) (fun i=>i<=g.ops.length∧∀ (i':Nat) (o:Opr),i' < i->g.ops[i']?=some o->OpOk a i' o) (fun i=>g.ops.length - i) (0) (⟨om,fun i' o h=>absurd h om⟩) (fun i hi=>?_);clear F;obtain ⟨hin,hall⟩:=hi;have hwi:=Zap (k:=i) om;by_cases hil:i < g.ops.length
 rotate_left
 ·have q2:¬ ((i:Int) < (g.ops.length:Int)):=om;have ht:=ZmO (g:=g) (a:=a) ⟨hO,fun i' o ho=>hall i' o (by have:=(Tad.1 ho).1;omega) ho⟩;exact fT (ai @q2 @ht)
 have q2:(i:Int) < (g.ops.length:Int):=om;obtain ⟨o,ho⟩:∃ o,g.ops[i]?=some o:=⟨_,Taa hil⟩;refine fB @q2 ?_;refine fC @e0P (cX i o ho (hO.atOp ho)) ?_;by_cases hop:OpOk a i o
 ·have e1:=ZmN hop;have hq:i+1<=g.ops.length∧∀ (i':Nat) (o:Opr),i' < i+1->g.ops[i']?=some o->OpOk a i' o:=⟨hil,fun i' o' h ho'=>by
   by_cases e:i'=i
   ·subst e;rw [ho] at ho';injection ho' with ho';subst ho';exact hop
   ·exact hall i' o' om ho'⟩
  refine fR @e1 ?_;have F:=@hwi;refine gG ?_;exact ⟨i+1,hq,gw,gw,om⟩
 ·have e1:=Zlr hop;have hf:=Zzq ho hop;refine fR @e1 ?_;exact fT @hf
theorem ZpP {i:Nat} {x y:Int} (ht:Tab2 a i) (hx:Inz a x) (hy:Inz a y):Con e0 53 [.one (.lit (.int .i64 x)),.one (.lit (.int .i64 y)),.one (.ptr [.lit (.int .i64 a.size),.sl (a.tables.map ZbX)]),.one (.ptr [.lit (.int .i64 i)])] [.one (.lit (.int .i64 (tw2 a i x y)))]:=by
 obtain ⟨l,h,hw,hw2,h0,hv,_⟩:=ht.get hx hy;refine gI 79 Tryz.func53 ?_;exact fT (aj7 @Zbp @Zao @h @hw @hw2 @h0 @hv)
theorem Zsv (hok:ZbJ g) (ha:Zhf a):Con e0 16 [.agg (Zag g),.agg (Zbz a)] [.one (.lit (.bool (isOb g a)))]:=by
 have cA:=ZjP hok ha;rw [Zag,Zbz] at cA ⊢;refine gI 158456598926829516744826982399 Tryz.func16 ?_;refine fB @e0P ?_;refine fC @e0P (cA) ?_
 cases hA:ZcM g a with
 | false =>
  have hf:=ZhO (fun h:ObOk g a=>by rw [ZeC h.alg] at hA;cases hA);refine fR @e0P ?_;exact fT @hf
 | true =>
 have hO:=Zgg.1 hA;have hl14:=hO.sgn.len;obtain ⟨n,hn,hn1,hn4⟩:=szN hO.lo hO.hi;have inz:∀ {x:Nat},x < n->Inz a x:=fun hx=>⟨om,om⟩;have cT:∀ {i:Nat} {x y:Int},Tab2 a i->Inz a x->Inz a y->_:=fun h1 h2 h3=>ZpP h1 h2 h3;refine fR @e0P ?_;refine fN 3 @e0P ?_;have F:=@e0P;refine gF [3] ?_;clear F;refine fG @e0P ?_;have F:=@e0P;refine gL (ι:=Nat) [4,5,6,7,8,9,10,11,19,20,26,27,28,32,55,57,58,59,73,75,76,77,97] [] (fun i=>[(19,A.d (.one (.lit (.int .i64 i))))]) (fun i=>[]) (fun i=>i<=g.ops.length∧∀ (i':Nat) (o:Opr),i' < i->g.ops[i']?=some o->OpOk a i' o) (fun i=>g.ops.length - i) (0) (⟨om,fun i' o h=>absurd h om⟩) (fun i hi=>?_);clear F
 obtain ⟨hin,hall⟩:=hi;have hwi:=Zap (k:=i) om;by_cases hil:i < g.ops.length;rotate_left
 ·have q2:¬ ((i:Int) < (g.ops.length:Int)):=om;have ht:=ZmO (g:=g) (a:=a) ⟨hO,fun i' o ho=>hall i' o (by have:=(Tad.1 ho).1;omega) ho⟩;exact fT (ai @q2 @ht)
 have q2:(i:Int) < (g.ops.length:Int):=om;obtain ⟨o,ho⟩:∃ o,g.ops[i]?=some o:=⟨_,Taa hil⟩;have hAt:=hO.atOp ho;have hno:=Zzq (a:=a) ho;refine fG (aj3 @q2 @ho @Zae) ?_;have F:=@e0P;refine gL (ι:=Nat) [4,8,9,10,11,27,28,32,55,57,58,59,73,75,76,77,97] [] (fun x=>[(27,A.d (.one (.lit (.int .i64 x))))]) (fun x=>[]) (fun x=>x<=n∧∀ x':Nat,x' < x->RowX a i o n x') (fun x=>n - x) (0) (⟨om,fun x' h=>absurd h om⟩) (fun x hx=>?_);clear F
 obtain ⟨hxn,hallx⟩:=hx;have hwx:=Zap (k:=x) om;by_cases hlt:x < n;rotate_left
 ·have q3:¬ ((x:Int) < a.size):=om;have hop:=Zzp hn fun x' h=>hallx x' om;have hq:i+1<=g.ops.length∧∀ (i':Nat) (o:Opr),i' < i+1->g.ops[i']?=some o->OpOk a i' o:=⟨hil,fun i' o' h ho'=>by
   by_cases e:i'=i
   ·subst e;rw [ho] at ho';injection ho' with ho';subst ho';exact hop
   ·exact hall i' o' om ho'⟩
  have F:=ai @q3 @hwi;refine gG ?_;exact ⟨i+1,hq,gw,gw,om⟩
 have q3:(x:Int) < a.size:=om;have hX:=inz hlt;refine fG @q3 ?_;refine gM (ι:=Unit) [9,32,55] [] (fun u=>[]) (fun u=>[]) (fun u=>o.unit≠0->tw2 a i x (unv a o)=x∧tw2 a i (unv a o) x=x) ?_ (fun u hu=>Exists.intro _ (ai (Wk.refl _) ?_))
 ·by_cases hu:o.unit=0
  ·have z1:decide (o.unit=0)=true:=decide_eq_true hu;have F:=@z1;refine gG ?_;exact ⟨(),fun h=>absurd hu h,gw,gw⟩
  obtain ⟨q,l,hq,hq14,hl,hl0,hE⟩:=hAt.unit hu;have ht:=hAt.tab (.inr (.inr hu));have z1:decide (o.unit=0)=false:=decide_eq_false hu;have hsub:IntKind.i64.wrap (o.unit - 1)=(q:Int):=by rw [hq];exact Za2 om om om
  refine fB (aj6 @z1 @hsub @Zbp @Zao @hl @hl0) ?_;refine fC @e0P (cT ht hE hX) ?_;by_cases h1:tw2 a i (unv a o) x=x;rotate_left
  ·have hf:=hno fun hO=>h1 (hO.unit hu x hX).2;have y1:(tw2 a i (unv a o) x=(x:Int))=False:=eq_false h1;refine fR @y1 ?_;exact fT @hf
  have y1:(tw2 a i (unv a o) x=(x:Int))=True:=eq_true h1;refine fC @y1 (cT ht hX hE) ?_;by_cases h2:tw2 a i x (unv a o)=x;rotate_left
  ·have hf:=hno fun hO=>h2 (hO.unit hu x hX).1;have y2:(tw2 a i x (unv a o)=(x:Int))=False:=eq_false h2;refine fR (ai @y1 @y2) ?_;exact fT @hf
  have y2:(tw2 a i x (unv a o)=(x:Int))=True:=eq_true h2;refine fR (ai @y1 @y2) ?_;have F:=@e0P;refine gG ?_;exact ⟨(),fun _=>⟨h2,h1⟩,gw,gw⟩
 refine fG @e0P ?_;have F:=@e0P;refine gL (ι:=Nat) [4,10,11,58,59,73,75,76,77,97] [] (fun y=>[(58,A.d (.one (.lit (.int .i64 y))))]) (fun y=>[]) (fun y=>y<=n∧∀ y':Nat,y' < y->RowY a i o n x y') (fun y=>n - y) (0) (⟨om,fun x' h=>absurd h om⟩) (fun y hy=>?_);clear F;obtain ⟨hyn,hally⟩:=hy;have hwy:=Zap (k:=y) om;by_cases hyl:y < n;rotate_left
 ·have q4:¬ ((y:Int) < a.size):=om;have hq:x+1<=n∧∀ x':Nat,x' < x+1->RowX a i o n x':=⟨hlt,ZeU hallx ⟨hu,fun y' hy'=>hally y' om⟩⟩;have F:=ai @q4 @hwx;refine gG ?_;exact ⟨x+1,hq,gw,gw,om⟩
 have q4:(y:Int) < a.size:=om;have hY:=inz hyl;refine fG @q4 ?_;refine gM (ι:=Bool) [73] [] (fun u2=>[(73,A.d (.one (.lit (.bool u2))))]) (fun u2=>[]) (fun u2=>(u2=true->¬ OpOk a i o)∧(u2=false->o.comm=true->tw2 a i x y=tw2 a i y x)) ?_ (fun u2 hu2=>Exists.intro _ (ai (Wk.refl _) ?_))
 ·cases hc:o.comm with
  | false =>
   have F:=ai @Zae @hc;refine gG ?_;exact ⟨false,⟨fun h=>(by cases h),fun _ h=>(by cases h)⟩,gw,gw⟩
  | true =>
   have ht:=hAt.tab (.inr (.inl hc));refine gB ?_;refine fC (ai @Zae @hc) (cT ht hX hY) ?_;refine fC (ai @Zae @hc) (cT ht hY hX) ?_;by_cases h1:tw2 a i x y=tw2 a i y x
   ·have y1:(tw2 a i x y=tw2 a i y x)=True:=eq_true h1;refine fR (ai @y1 @hc) ?_;exact ⟨false,⟨fun h=>(by cases h),fun _ _=>h1⟩,(have F:=hc;gw),(have F:=hc;gw)⟩
   ·have y1:(tw2 a i x y=tw2 a i y x)=False:=eq_false h1;refine fR (ai @y1 @hc) ?_;exact ⟨true,⟨fun _ hO=>h1 (hO.comm hc x y hX hY),fun h=>(by cases h)⟩,(have F:=hc;gw),(have F:=hc;gw)⟩
 obtain ⟨hu1,hu2⟩:=hu2
 cases u2 with
 | true =>
  have hf:=hno (hu1 rfl);exact fT @hf
 | false =>
 have hCM:=hu2 rfl;refine fG @e0P ?_;have F:=@e0P;refine gL (ι:=Nat) [4,11,76,77,97] [] (fun z=>[(76,A.d (.one (.lit (.int .i64 z))))]) (fun z=>[]) (fun z=>z<=n∧(o.assoc=true->∀ z':Nat,z' < z->tw2 a i (tw2 a i x y) z'=tw2 a i x (tw2 a i y z'))) (fun z=>n - z) (0) (⟨om,fun _ z' h=>absurd h om⟩) (fun z hz=>?_);clear F;obtain ⟨hzn,hallz⟩:=hz;have hwz:=Zap (k:=z) om;by_cases hzl:z < n;rotate_left
 ·have q5:¬ ((z:Int) < a.size):=om;have hq:y+1<=n∧∀ y':Nat,y' < y+1->RowY a i o n x y':=⟨hyl,ZeU hally ⟨hCM,fun ha z' hz'=>hallz ha z' om⟩⟩;have F:=ai @q5 @hwy;refine gG ?_;exact ⟨y+1,hq,gw,gw,om⟩
 have q5:(z:Int) < a.size:=om;have hZ:=inz hzl
 cases ha:o.assoc with
 | false =>
  have hq:z+1<=n∧(o.assoc=true->∀ z':Nat,z' < z+1->tw2 a i (tw2 a i x y) z'=tw2 a i x (tw2 a i y z')):=⟨hzl,fun h=>by rw [ha] at h;cases h⟩;rw [ha] at hq;have F:=aj4 @q5 @hwz @Zae @ha;refine gG ?_;exact ⟨z+1,hq,gw,gw,om⟩
 | true =>
 have ht:=hAt.tab (.inl ha);obtain ⟨_,_,_,_,_,_,hXY⟩:=ht.get hX hY;obtain ⟨_,_,_,_,_,_,hYZ⟩:=ht.get hY hZ;refine fN 22 @q5 ?_;refine gB ?_;refine fC (ai @Zae @ha) (cT ht hX hY) ?_;refine fC (ai @Zae @ha) (cT ht hXY hZ) ?_;refine fC (ai @Zae @ha) (cT ht hY hZ) ?_;refine fC (ai @Zae @ha) (cT ht hX hYZ) ?_;by_cases h1:tw2 a i (tw2 a i x y) z=tw2 a i x (tw2 a i y z)
 ·have y1:(tw2 a i (tw2 a i x y) z=tw2 a i x (tw2 a i y z))=True:=eq_true h1;have hq:z+1<=n∧(o.assoc=true->∀ z':Nat,z' < z+1->tw2 a i (tw2 a i x y) z'=tw2 a i x (tw2 a i y z')):=⟨hzl,fun h=>ZeU (hallz h) h1⟩;rw [ha] at hq;refine fR (ai @y1 @ha) ?_;have F:=@hwz;refine gG ?_;exact ⟨z+1,hq,gw,gw,om⟩
 ·have y1:(tw2 a i (tw2 a i x y) z=tw2 a i x (tw2 a i y z))=False:=eq_false h1;have hf:=hno fun hO=>h1 (hO.assoc ha x y z hX hY hZ);refine fR (ai @y1 @ha) ?_;exact fT @hf
end
def foV (m:Int->Int->Int):List Int->Option Int
 | []=>none
 | x::xs=>some (xs.foldl m x)
def omV (m:Int->Int->Int):Option Int->Option Int->Option Int
 | none,y=>y
 | some x,none=>some x
 | some x,some y=>some (m x y)
section
variable {m:Int->Int->Int} {P:Int->Prop}
theorem ZhP {x:Int}:∀ {l:List Int},foV m (l++[x])=omV m (foV m l) (some x)
 | []=>rfl
 | y::l=>by simp [foV,omV,List.foldl_append]
theorem ZoV (hm:∀ x y,P x->P y->P (m x y)):∀ {l:List Int},(∀ x∈l,P x)->∀ x,foV m l=some x->P x
 | [],_,x,h=>by cases h
 | y::l,hl,x,h=>by
  injection h with h
  subst h;have key:∀ (l:List Int) (y:Int),P y->(∀ x∈l,P x)->P (l.foldl m y):=fun l=>by
   induction l with
   | nil=>exact fun y hy _=>hy
   | cons z l ih=>exact fun y hy hl=>ih (m y z) (hm y z hy (hl z Tas)) fun x hx=>hl x (Tal _ hx)
  exact key l y (hl y Tas) fun x hx=>hl x (Tal _ hx)
theorem Zwr (hA:∀ x y z,P x->P y->P z->m (m x y) z=m x (m y z)) {p q r:Option Int} (hp:∀ x,p=some x->P x) (hq:∀ x,q=some x->P x) (hr:∀ x,r=some x->P x):omV m (omV m p q) r=omV m p (omV m q r):=by
 cases p with
 | none=>rfl
 | some x=>cases q with
  | none=>cases r <;> rfl
  | some y=>cases r with
   | none=>rfl
   | some z=>simp only [omV,hA x y z (hp x rfl) (hq y rfl) (hr z rfl)]
theorem Zjf (hm:∀ x y,P x->P y->P (m x y)) (hA:∀ x y z,P x->P y->P z->m (m x y) z=m x (m y z)):∀ {l' l:List Int},(∀ x∈l,P x)->(∀ x∈l',P x)->foV m (l++l')=omV m (foV m l) (foV m l')
 | [],l,_,_=>by rw [List.append_nil];cases foV m l <;> rfl
 | x::l',l,hl,hl'=>by
  have hx:=hl' x Tas;have hl2:=fun y hy=>hl' y (Tal x hy);have h1:=Zjf hm hA (l':=l') (l:=l++[x]) (fun y hy=>(Tbg.1 hy).elim (hl y) fun h=>by rw [Tbi.1 h];exact hx) hl2;have h2:=Zjf hm hA (l':=l') (l:=[x]) (fun y hy=>by rw [Tbi.1 hy];exact hx) hl2;rw [Tbe,List.singleton_append] at h1;rw [List.singleton_append] at h2;rw [h1,h2,ZhP];exact Zwr hA (ZoV hm hl) (fun y hy=>by injection hy with hy;subst hy;exact hx) (ZoV hm hl2)
theorem Zz7 {l' l:List Int} (h:l'.length<=1):foV m (l++l')=omV m (foV m l) (foV m l'):=by
 match l',h with
 | [],_=>rw [List.append_nil];cases foV m l <;> rfl
 | [x],_=>exact ZhP
 | _::_::_,h=>simp at h
theorem ZxO (hm:∀ x y,P x->P y->P (m x y)) (hA:∀ x y z,P x->P y->P z->m (m x y) z=m x (m y z)) (hC:∀ x y,P x->P y->m x y=m y x) {l l':List Int} (h:l.Perm l'):(∀ x∈l,P x)->foV m l=foV m l':=by
 induction h with
 | nil=>exact fun _=>rfl
 | @cons x l l' h ih =>
  intro hl;have hx:=hl x Tas;have hl1:=fun y hy=>hl y (Tal x hy);have e:∀ l:List Int,(∀ x∈l,P x)->foV m (x::l)=omV m (some x) (foV m l):=fun l q=>Zjf (l:=[x]) hm hA (fun y hy=>by rw [Tbi.1 hy];exact hx) q;rw [e l hl1,e l' fun y hy=>hl1 y (h.mem_iff.2 hy),ih hl1]
 | swap x y l =>
  intro hl;simp only [foV,List.foldl_cons];rw [hC y x (hl y Tas) (hl x (Tal _ Tas))]
 | trans h1 h2 a b=>exact fun hl=>(a hl).trans (b fun x hx=>hl x (h1.mem_iff.2 hx))
end
theorem Zls {l:List Tm} (h:l.length=2):∃ p q,l=[p,q]:=by
 match l,h with
 | [p,q],_=>exact ⟨p,q,rfl⟩
theorem ZoW {α:Type} {p q p' q':α} (h:[p',q'].Perm [p,q]):(p'=p∧q'=q)∨(p'=q∧q'=p):=by
 have hp:=h.mem_iff.1 (Tas (a:=p') (l:=[q']));simp only [Tbf,List.not_mem_nil,or_false] at hp;rcases hp with rfl | rfl
 ·have:=(List.perm_cons p').1 h;exact .inl ⟨rfl,by simpa using this⟩
 ·have:=(List.perm_cons p').1 (h.trans (List.Perm.swap p' p []));exact .inr ⟨rfl,by simpa using this⟩
theorem Zws {z:Int} {l ws:List Int}:∀ i:Nat,i<=ws.length->accV true z l ws i=(foV (fun x y=>l.getD (x * z+y).toNat 0) (ws.take i)).getD 0
 | 0,_=>rfl
 | i+1,h=>by
  have ih:=Zws (z:=z) (l:=l) (ws:=ws) i om;have hw:ws[i]?=some ws[i]:=Taa om;have ht:ws.take (i+1)=ws.take i++[ws[i]]:=by rw [List.take_add_one,hw];rfl
  have hg:ws.getD i 0=ws[i]:=by rw [List.getD_eq_getElem?_getD,hw];rfl
  rw [ht,ZhP,accV,hg];by_cases h0:0 < i
  ·rw [if_pos ⟨rfl,h0⟩,ih]
   cases hq:ws.take i with
   | nil=>rw [<- List.length_eq_zero_iff,Taw] at hq;omega
   | cons x xs=>rfl
  ·obtain rfl:i=0:=by omega
   simp [accV,foV,omV]
theorem ZAy {ac:Bool} {z:Int} {l ws:List Int} (h:ac=true∨ws.length=2) (hn:ws≠[]):foV (fun x y=>l.getD (x * z+y).toNat 0) ws=some (opV ac z l ws):=by
 cases ac with
 | true =>
  have:=Zws (z:=z) (l:=l) (ws:=ws) ws.length (Tai _);rw [Tap] at this;rw [opV,if_pos rfl,this]
  cases ws with
  | nil=>exact absurd rfl hn
  | cons x xs=>rfl
 | false =>
  have h2:=h.resolve_left (by decide)
  match ws,h2 with
  | [x,y],_=>simp [foV,opV,accV]
theorem Zkd {z:Int} (hz:1<=z):∀ {vs:List Tm} {xs:List Int} {t:Tm},(∀ x∈xs,In0 z x)->In0 z (valV vs xs t)
 | [],_,_,_=>by simp only [valV,In0];omega
 | _::_,[],_,_=>by simp only [valV,In0];omega
 | v::vs,x::xs,t,h=>by
  rw [valV];split
  ·exact h x Tas
  ·exact Zkd hz fun y hy=>h y (Tal _ hy)
theorem Zke {h:Tm->Int} {t:Tm}:∀ {V:List Tm},t∈V->valV V (V.map h) t=h t
 | v::V,q=>by
  rw [Tbt,valV];by_cases he:v=t
  ·rw [if_pos (Zc1.2 he),he]
  ·rw [if_neg fun z=>he (Zc1.1 z)];exact Zke ((Tbf.1 q).resolve_left fun z=>he z.symm)
section
variable {g:Sgn} {a:Alg} {vs:List Tm} {xs:List Int}
theorem Zem {t:Tm} (h:0<=t.op):ZaT g a vs xs t=opV (isAs g t.op) a.size (a.tables.getD t.op.toNat []) (t.args.map (ZaT g a vs xs)):=by rw [ZiI om,Zfg]
theorem ZoX (hA:AlgOk g a) (hv:∀ x∈xs,In0 a.size x):∀ (n:Nat) (t:Tm),sizeTm t < n->ZaD g t->In0 a.size (ZaT g a vs xs t)
 | 0,_,h,_=>om
 | n+1,t,hn,hf=>by
  rcases ZeT hf.node with ⟨h,hop⟩ | ⟨hop,o,d,h⟩
  ·rw [Zev hop];exact Zkd hA.lo hv
  ·rw [Zem hop];obtain ⟨l,hl,hT,has⟩:=Zln hA h;have e:a.tables.getD t.op.toNat []=l:=by simp [List.getD_eq_getElem?_getD,hl]
   rw [has,e];have hs:=ZaO t;exact ZoT hT (fun x hx=>by
    obtain ⟨u,hu,rfl⟩:=Tbh.1 hx;exact ZoX hA hv n u (by have:=ZaX hu;omega) ((ZaI.1 hf).2.1 u hu)) fun q=>by rw [Tax];exact h.nas q
theorem ZAz (hO:ObOk g a) (hv:∀ x∈xs,In0 a.size x) {op:Int} {o:Opr} {d:Dcl} (h0:0<=op) (ho:g.ops[op.toNat]?=some o) (hd:o.decls[0]?=some d) {us:List Tm} {x:Tm} (hus:∀ u∈us,TermOk g u) (hx:mkT g op us=some x):ZaT g a vs xs x=opV (isAs g op) a.size (a.tables.getD op.toNat []) (us.map (ZaT g a vs xs)):=by
 have hg:=hO.alg.sgn;have hOp:=hO.all _ o ho;have hAt:=hO.alg.atOp ho;rw [Zok ho hd] at hx;obtain ⟨hA,hK,hx⟩:=ZxJ hx;have has:isAs g op=o.assoc:=by simp [isAs,ho]
 have hin:∀ u:Tm,TermOk g u->In0 a.size (ZaT g a vs xs u):=fun u hu=>ZoX hO.alg hv _ u (Tan _) hu.form;have happ:∀ l,ZaT g a vs xs (appT op l)=opV o.assoc a.size (a.tables.getD op.toNat []) (l.map (ZaT g a vs xs)):=fun l=>by rw [Zem (show 0<=(appT op l).op from h0)];rw [<- has];rfl
 have hmE:(fun x y=>(a.tables.getD op.toNat []).getD (x * a.size+y).toNat 0)=tw2 a op.toNat:=rfl;have hfo:∀ ws:List Int,(o.assoc=true∨ws.length=2)->ws≠[]->foV (tw2 a op.toNat) ws=some (opV o.assoc a.size (a.tables.getD op.toNat []) ws):=fun ws h hn=>by rw [<- hmE];exact ZAy h hn
 rw [has];obtain ⟨f,hf⟩:∃ f,f=ZaT g a vs xs:=⟨_,rfl⟩;rw [<- hf] at hin happ ⊢;by_cases hau:o.assoc=true∨o.unit≠0
 ·have hT:=hAt.tab (hau.elim .inl fun q=>.inr (.inr q));have hm:∀ x y,In0 a.size x->In0 a.size y->In0 a.size (tw2 a op.toNat x y):=fun x y hx hy=>by
   obtain ⟨_,_,_,_,_,_,h⟩:=hT.get (x:=x) (y:=y) hx hy;exact h
  obtain ⟨k1,k2,hk2,_⟩:=Opr.two hg ho hd (hau.elim .inl fun q=>.inr (.inr q));have hd2:d.args.length=2:=by rw [hk2];rfl
  have hul:o.assoc=true∨us.length=2:=by
   cases hac:o.assoc with
   | true=>exact .inl rfl
   | false=>exact .inr (Decidable.byContradiction fun q=>hA (.inr ⟨hac,fun z=>q (z.trans hd2)⟩))
  have hun:us.length≠0:=by
   rcases hul with q | q
   ·intro z;exact hA (.inl ⟨q,om⟩)
   ·omega
  have hfu:o.unit≠0->f (ZaE o)=unv a o:=fun hu=>by
   have hax:=hg.axs o (Tac ho);have hlo:=hax.lo;have e1:(ZaE o).op=o.unit - 1:=by simp only [ZaE,Tm.op,if_neg hu]
   obtain ⟨o',d',hap⟩:=(Zmr hg ho hd hu).1.form.node.app (by rw [e1];omega);have has':isAs g (ZaE o).op=false:=by
    have:isAs g (ZaE o).op=o'.assoc:=by simp [isAs,hap.at']
    rw [this]
    cases q:o'.assoc with
    | false=>rfl
    | true=>have:=(hap.asc q).1;simp [ZaE,Tm.args] at this
   rw [hf,Zem hap.lo,has',e1];have e2:(o.unit - 1).toNat=o.unit.toNat - 1:=om;simp [ZaE,Tm.args,opV,accV,unv,e2]
  have hus':∀ x∈us.map f,In0 a.size x:=fun x hx=>by obtain ⟨u,hu,rfl⟩:=Tbh.1 hx;exact hin u (hus u hu)
  have hflin:∀ u,TermOk g u->∀ x∈(ZaW o op u).map f,In0 a.size x:=fun u hu x hx=>by
   obtain ⟨w,hw,rfl⟩:=Tbh.1 hx;unfold ZaW at hw;split at hw
   ·exact hin w (hu.arg hw)
   ·split at hw
    ·cases hw
    ·rw [Tbi.1 hw];exact hin u hu
  have hone:∀ u,TermOk g u->foV (tw2 a op.toNat) ((ZaW o op u).map f)=some (f u)∨(o.unit≠0∧ZaW o op u=[]∧f u=unv a o):=fun u hu=>by
   by_cases h1:o.assoc=true∧u.op=op
   ·have e1:ZaW o op u=u.args:=by unfold ZaW;rw [if_pos h1]
    obtain ⟨o',d',hap⟩:=hu.form.node.app om;have ho':o'=o:=by have:=hap.at';rw [h1.2,ho] at this;injection this with this;exact this.symm
    have h2:=(hap.asc (by rw [ho'];exact h1.1)).1;left;rw [e1,hfo _ (.inl h1.1) (by intro z;rw [List.map_eq_nil_iff] at z;rw [z] at h2;simp at h2)];congr 1;rw [hf,Zem (t:=u) om,h1.2,has]
   ·by_cases h2:o.unit≠0∧u.op=o.unit - 1
    ·right;exact ⟨h2.1,by unfold ZaW;rw [if_neg h1,if_pos h2],by rw [Zwl hg ho hd h2.1 hu h2.2,hfu h2.1]⟩
    ·left;have e1:ZaW o op u=[u]:=by unfold ZaW;rw [if_neg h1,if_neg h2]
     rw [e1];rfl
  have happend:∀ {l:List Int} {u:Tm},(∀ x∈l,In0 a.size x)->TermOk g u->foV (tw2 a op.toNat) (l++(ZaW o op u).map f)=omV (tw2 a op.toNat) (foV (tw2 a op.toNat) l) (foV (tw2 a op.toNat) ((ZaW o op u).map f)):=fun {l u} hl hu=>by
   cases hac:o.assoc with
   | true=>exact Zjf hm (fun x y z=>hOp.assoc hac x y z) hl (hflin u hu)
   | false=>exact Zz7 (by rw [Tax];exact (Zms (op:=op) hac u).1)
  have key:∀ (us:List Tm) (p q:List Int),(∀ u∈us,TermOk g u)->(∀ x∈p,In0 a.size x)->(∀ x∈q,In0 a.size x)->(foV (tw2 a op.toNat) p=foV (tw2 a op.toNat) q∨(foV (tw2 a op.toNat) p=none∧foV (tw2 a op.toNat) q=some (unv a o)∧o.unit≠0)) ->
    (foV (tw2 a op.toNat) (p++(Zaj o op us).map f)=foV (tw2 a op.toNat) (q++us.map f)∨(foV (tw2 a op.toNat) (p++(Zaj o op us).map f)=none∧foV (tw2 a op.toNat) (q++us.map f)=some (unv a o)∧o.unit≠0)):=fun us=>by
   induction us with
   | nil=>intro p q _ _ _ h;simpa [Zaj] using h
   | cons u us ih =>
    intro p q hu hp hq h;have hu0:=hu u Tas;have e1:Zaj o op (u::us)=ZaW o op u++Zaj o op us:=rfl;have:=ih (p++(ZaW o op u).map f) (q++[f u]) (fun w hw=>hu w (Tal _ hw)) (fun x hx=>(Tbg.1 hx).elim (hp x) (hflin u hu0 x)) (fun x hx=>(Tbg.1 hx).elim (hq x) fun z=>by rw [Tbi.1 z];exact hin u hu0) ?_
    ·rw [e1,Tbu,Tbt,<- Tbe];simpa [Tbe] using this
    ·rw [happend hp hu0,ZhP];rcases hone u hu0 with h1 | ⟨h1,h2,h3⟩
     ·rw [h1];rcases h with h | ⟨ha,hb,hc⟩
      ·exact .inl (by rw [h])
      ·refine .inl ?_;rw [ha,hb];simp only [omV,((hOp.unit hc) (f u) (hin u hu0)).2]
     ·rw [h2,h3];have e3:foV (tw2 a op.toNat) (([]:List Tm).map f)=none:=rfl;rw [e3];obtain ⟨_,_,_,_,_,_,he⟩:=hAt.unit h1;rcases h with h | ⟨ha,hb,hc⟩
      ·rw [h]
       cases hq2:foV (tw2 a op.toNat) q with
       | none=>exact .inr ⟨rfl,rfl,h1⟩
       | some y =>
        refine .inl ?_;have hy:=ZoV hm hq y hq2;simp only [omV,(hOp.unit h1 y hy).1]
      ·rw [ha,hb];refine .inr ⟨rfl,?_,h1⟩;simp only [omV,(hOp.unit h1 _ he).1]
  have hR:=key us [] [] hus (fun x hx=>by cases hx) (fun x hx=>by cases hx) (.inl rfl);have hB:=hfo (us.map f) (hul.imp id fun q=>by rw [Tax];exact q) (by intro z;rw [List.map_eq_nil_iff] at z;rw [z] at hun;exact hun rfl);rw [Tah,Tah,hB] at hR;unfold mkL at hx;split at hx
  ·rename_i hq;injection hx with hx
   subst hx;generalize Zaj o op us=L at hR hq
   match L,hq with
   | [],_ =>
    rcases hR with hR | ⟨_,hR,hc⟩
    ·cases hR
    ·injection hR with hR
     rw [hR];exact hfu hc
   | [y],_ =>
    rcases hR with hR | ⟨hR,_⟩
    ·injection hR with hR
    ·cases hR
   | _::_::_,hq=>have:=hq.2;simp only [Tag] at this;omega
  ·rename_i hq;split at hx
   ·cases hx
   ·injection hx with hx
    have h2:2<=(Zaj o op us).length:=by
     by_cases hu:o.unit=0
     ·have hac:=hau.resolve_right fun q=>q hu;have h2:=Zht hg h0 ho hac hu hus;have h3:¬ us.length < 2:=fun q=>hA (.inl ⟨hac,q⟩);omega
     ·exact Nat.le_of_not_lt fun q=>hq ⟨hu,q⟩
    have hl2:o.assoc=true∨(Zaj o op us).length=2:=by
     cases hac:o.assoc with
     | true=>exact .inl rfl
     | false =>
      have h3:=(Zf0 (op:=op) hac us).1;have h4:us.length=2:=hul.resolve_left (by rw [hac];decide);exact .inr om
    have hp:=ZdN o (Zaj o op us);have hflI:∀ x∈(Zaj o op us).map f,In0 a.size x:=fun x hx=>by
     obtain ⟨w,hw,rfl⟩:=Tbh.1 hx;obtain ⟨u,hu,hw⟩:=List.mem_flatMap.1 hw;exact hflin u (hus u hu) _ (List.mem_map_of_mem hw)
    have e1:foV (tw2 a op.toNat) ((srtO o (Zaj o op us)).map f)=foV (tw2 a op.toNat) ((Zaj o op us).map f):=by
     cases hcm:o.comm with
     | false =>
      have:srtO o (Zaj o op us)=Zaj o op us:=by unfold srtO;rw [hcm];rfl
      rw [this]
     | true =>
      rcases hl2 with hac | hl2
      ·exact ZxO hm (fun x y z=>hOp.assoc hac x y z) (fun x y=>hOp.comm hcm x y) (hp.map f) fun x hx=>hflI x ((hp.map f).mem_iff.1 hx)
      ·have hl3:(srtO o (Zaj o op us)).length=2:=by rw [ZeQ];exact hl2
       generalize srtO o (Zaj o op us)=M at hp hl3;generalize Zaj o op us=L at hp hl2 hflI;obtain ⟨p,q,rfl⟩:=Zls hl2;obtain ⟨p',q',rfl⟩:=Zls hl3;rcases ZoW hp with ⟨rfl,rfl⟩ | ⟨rfl,rfl⟩
       ·rfl
       ·simp only [Tbt,List.map_nil,foV,List.foldl_cons,List.foldl_nil];rw [hOp.comm hcm _ _ (hflI _ (by simp)) (hflI _ (by simp))]
    have e2:=hfo ((srtO o (Zaj o op us)).map f) (hl2.imp id fun q=>by rw [Tax,ZeQ];exact q) (by intro z;rw [List.map_eq_nil_iff] at z;have:=ZeQ o (Zaj o op us);rw [z] at this;simp only [Tak] at this;omega);rw [<- hx,happ];rw [e2] at e1;rw [<- e1] at hR;rcases hR with hR | ⟨hR,_⟩
    ·injection hR with hR
    ·cases hR
 ·have hac:o.assoc=false:=by
   cases h:o.assoc with
   | true=>exact absurd (.inl h) hau
   | false=>rfl
  have hu:o.unit=0:=Decidable.byContradiction fun q=>hau (.inr q);rw [ZgI hac hu] at hx;unfold mkL at hx;split at hx
  ·rename_i hq;exact absurd hu hq.1
  split at hx
  ·cases hx
  injection hx with hx
  rw [<- hx,happ]
  cases hcm:o.comm with
  | false =>
   have:srtO o us=us:=by unfold srtO;rw [hcm];rfl
   rw [this]
  | true =>
   obtain ⟨k1,k2,hk2,_⟩:=Opr.two hg ho hd (.inr (.inl hcm));have hl:us.length=2:=by
    have:¬ (us.length≠d.args.length):=fun q=>hA (.inr ⟨hac,q⟩);rw [hk2] at this;simpa using this
   have hp:=ZdN o us;have hl3:(srtO o us).length=2:=by rw [ZeQ];exact hl
   have hin2:∀ u∈us,In0 a.size (f u):=fun u q=>hin u (hus u q);have e2:=hfo ((srtO o us).map f) (.inr (by rw [Tax];exact hl3)) (by intro z;rw [List.map_eq_nil_iff] at z;rw [z] at hl3;simp at hl3);have e3:=hfo (us.map f) (.inr (by rw [Tax];exact hl)) (by intro z;rw [List.map_eq_nil_iff] at z;rw [z] at hl;simp at hl);have e1:foV (tw2 a op.toNat) ((srtO o us).map f)=foV (tw2 a op.toNat) (us.map f):=by
    generalize srtO o us=M at hp hl3;clear e3 hx e2 hus;obtain ⟨p,q,rfl⟩:=Zls hl;obtain ⟨p',q',rfl⟩:=Zls hl3;rcases ZoW hp with ⟨rfl,rfl⟩ | ⟨rfl,rfl⟩
    ·rfl
    ·simp only [Tbt,List.map_nil,foV,List.foldl_cons,List.foldl_nil];rw [hOp.comm hcm _ _ (hin2 _ (by simp)) (hin2 _ (by simp))]
   rw [e2,e3] at e1;injection e1 with e1
theorem ZmP (hO:ObOk g a) (hv:∀ x∈xs,In0 a.size x) {l:List Bd} (hl:∀ y∈l,TermOk g y.to) {V:List Tm} {inner:List Int} (hin:∀ v∈V,valV V inner v=ZaT g a vs xs ((ZbB l v).getD v)):∀ (n:Nat) {t u:Tm},sizeTm t < n->TermOk g t->(∀ v∈Zav t,v∈V)->apT g l t=some u->ZaT g a vs xs u=ZaT g a V inner t
 | 0,_,_,h,_,_,_=>om
 | n+1,t,u,hn,ht,hi,hu=>by
  rcases ZeT ht.form.node with ⟨hv',hop⟩ | ⟨hop,o,d,hap⟩
  ·rw [Zjb hv'.1] at hu;injection hu with hu
   rw [Zev (t:=t) hop,<- hu];exact (hin t (hi t (ZhL hv'))).symm
  ·rw [Zg4 om] at hu;obtain ⟨us,hus,hu⟩:=Option.bind_eq_some_iff.1 hu;have hs:=ZaO t;obtain ⟨e1,hea⟩:=ZmJ hus;have hut:=Zwm hO.alg.sgn hl (fun b hb=>ht.arg hb) hus;rw [ZAz hO hv hop hap.at' hap.fst hut hu,Zem (t:=t) hop,e1,List.map_map];congr 1;refine List.map_congr_left fun b hb=>?_;obtain ⟨w,hw⟩:=hea b hb;have:apD g l b=w:=by rw [apD,hw];rfl
   show ZaT g a vs xs (apD g l b)=_;rw [this];exact ZmP hO hv hl hin n (by have:=ZaX hb;omega) (ht.arg hb) (fun v hv=>hi v (ZhM hop hb v hv)) hw
theorem ZoY {us:List Tm}:∀ (n:Nat) {t:Tm},sizeTm t < n->ZaD g t->(∀ v∈Zav t,v∈us)->ZaT g a us (us.map (valV vs xs)) t=ZaT g a vs xs t
 | 0,_,h,_,_=>om
 | n+1,t,hn,hf,hi=>by
  rcases ZeT hf.node with ⟨hv',hop⟩ | ⟨hop,o,d,hap⟩
  ·rw [Zev hop,Zev hop,Zke (hi t (ZhL hv'))]
  ·have hs:=ZaO t;rw [Zem hop,Zem hop];congr 1;exact List.map_congr_left fun b hb=>ZoY n (by have:=ZaX hb;omega) ((ZaI.1 hf).2.1 b hb) fun v hv=>hi v (ZhM hop hb v hv)
end
theorem ZiK {v:Tm} {y:Bd}:∀ {l:List Bd},ZbB (l++[y]) v=(ZbB l v).or (if Zah y.var v=0 then some y.to else none)
 | []=>by simp only [Tah,ZbB,Option.none_or]
 | x::l=>by
  simp only [Taf,ZbB];split
  ·rfl
  ·exact ZiK
theorem ZmQ {v u:Tm}:∀ {l:List Bd},ZbB l v=some u->∃ y∈l,Zah y.var v=0∧y.to=u
 | [],h=>by cases h
 | x::l,h=>by
  rw [ZbB] at h;split at h
  ·rename_i hq;injection h with h
   exact ⟨x,Tas,hq,h⟩
  ·obtain ⟨y,hy,h1,h2⟩:=ZmQ h;exact ⟨y,Tal _ hy,h1,h2⟩
theorem Zwt {g:Sgn} {l:List Bd} (h:SbsOk g l):∀ (d i:Nat) x y,l[i]?=some x->l[i+d+1]?=some y->Zah x.var y.var < 0
 | 0,i,x,y,h1,h2=>(h.at' _ y h2).ord i x rfl h1
 | d+1,i,x,y,h1,h2=>by
  obtain ⟨z,hz⟩:∃ z,l[i+d+1]?=some z:=⟨_,Taa (by have:=(Tad.1 h2).1;omega)⟩;exact ZdY (Zwt h d i x z h1 hz) ((h.at' _ y h2).ord (i+d+1) z rfl hz)
theorem ZoZ {α:Type} {l:List α} {k:Nat} {x:α} (h:x∈l.take k):∃ i,i < k∧l[i]?=some x:=by
 obtain ⟨i,hi⟩:=Tbj h;have hl:=(Tad.1 hi).1;rw [Taw] at hl;rw [List.getElem?_take_of_lt om] at hi;exact ⟨i,om,hi⟩
theorem ZeL {α:Type} {l:List α} {k:Nat} {x:α} (h:l[k]?=some x):l.take (k+1)=l.take k++[x]:=by rw [List.take_add_one,h];rfl
def lkT (l:List Bd) (v:Tm) (k:Nat):Tm:=(ZbB (l.take k) v).getD v
theorem Zz8 {g:Sgn} {l:List Bd} {v:Tm} {k:Nat} {y:Bd} (h:SbsOk g l) (hy:l[k]?=some y) (hv:Zah y.var v=0):lkT l v (k+1)=y.to:=by
 have hn:ZbB (l.take k) v=none:=by
  rcases hq:ZbB (l.take k) v with _ | u
  ·rfl
  ·obtain ⟨z,hz,h1,_⟩:=ZmQ hq;obtain ⟨i,hi,hz⟩:=ZoZ hz;have:=Zwt h (k - i - 1) i z y hz (by rw [show i+(k - i - 1)+1=k by omega];exact hy);rw [Zc1.1 h1,<- Zc1.1 hv,Zb9] at this;exact absurd this (by decide)
 rw [lkT,ZeL hy,ZiK,hn,if_pos hv];rfl
theorem ZAA {l:List Bd} {v:Tm} {k:Nat} {y:Bd} (hy:l[k]?=some y) (hv:Zah y.var v≠0):lkT l v (k+1)=lkT l v k:=by
 rw [lkT,lkT,ZeL hy,ZiK,if_neg hv,Option.or_none]
theorem ZAB {g:Sgn} {l:List Bd} {v:Tm} (hl:∀ y∈l,TermOk g y.to) (hv:TermOk g v) (k:Nat):TermOk g (lkT l v k):=by
 unfold lkT;rcases hq:ZbB (l.take k) v with _ | u
 ·exact hv
 ·exact Zjc (fun y hy=>hl y (List.mem_of_mem_take hy)) hq
theorem Zz9 {l:List Bd} {v:Tm}:lkT l v l.length=(ZbB l v).getD v:=by rw [lkT,Tap]
theorem Zo0 {g:Sgn} {v:Tm} (h:Zcu g v):TermOk g v:=by
 have h1:=h.2.2.2.2;exact ⟨by rw [ZaO,h1];simp [sizeTms],by rw [ZcZ,h1];simp [depthTms],ZaI.2 ⟨.inl h,(fun a ha=>by rw [h1] at ha;cases ha),.inl h.1⟩⟩
theorem ZxP (t:Tm):(ZaB t).Nodup:=(Zfs (Zav t)).imp fun h e=>by rw [e,Zb9] at h;exact absurd h (by decide)
theorem ZmR {v w:Tm} {x:Int}:∀ {vs:List Tm} {xs:List Int},xs.length=vs.length->((∀ u∈vs,Zah u w≠0)->Zah v w=0->valV (vs++[v]) (xs++[x]) w=x)∧(Zah v w≠0->valV (vs++[v]) (xs++[x]) w=valV vs xs w)
 | [],[],_=>⟨fun _ h=>by simp [valV,h],fun h=>by simp [valV,h]⟩
 | [],_::_,h=>by simp at h
 | _::_,[],h=>by simp at h
 | u::vs,y::xs,h=>by
  obtain ⟨h1,h2⟩:=ZmR (v:=v) (w:=w) (x:=x) (vs:=vs) (xs:=xs) (by simpa using h);refine ⟨fun h3 h4=>?_,fun h4=>?_⟩
  ·simp only [Taf];rw [valV,if_neg (h3 u Tas)];exact h1 (fun z hz=>h3 z (Tal _ hz)) h4
  ·simp only [Taf];rw [valV,valV,h2 h4]
theorem Zwu {F:List Tm} {O:List Int} {w v:Tm} {o:Int} {j:Nat} (hl:O.length=F.length) (hn:F.Nodup) (hv:F[j]?=some v) (ho:O[j]?=some o):valV (F.take (j+1)) (O.take (j+1)) w=if Zah v w=0 then o else valV (F.take j) (O.take j) w:=by
 obtain ⟨h1,h2⟩:=ZmR (v:=v) (w:=w) (x:=o) (vs:=F.take j) (xs:=O.take j) (by rw [Taw,Taw,hl]);rw [ZeL hv,ZeL ho];split
 ·rename_i hq;refine h1 (fun u hu he=>?_) hq;obtain ⟨i,hi,hu⟩:=ZoZ hu;have e:u=v:=(Zc1.1 he).trans (Zc1.1 hq).symm;subst e;have:=(List.getElem?_inj (by have:=(Tad.1 hu).1;omega) hn).1 (hu.trans hv.symm);omega
 ·rename_i hq;exact h2 hq
theorem Zna {α β:Type} {l:List α} {f:α->β} {x:α} {k:Nat} (h:l[k]?=some x):(l.take k).map f++[f x]=(l.take (k+1)).map f:=by rw [ZeL h,Tbu];rfl
section
variable {x:Src}
theorem ZxQ (hx:x.Ok) {i:Nat} (hi:i<=1000):ConE (eB x) 18 [Zhz x,.one (.lit (.int .i64 i))] (RNat 256):=by
 have he:=hx.ok;have hl:=hx.len;have hg:∀ w,(eB x).G w->True:=fun _ _=>trivial;refine gIE (ts:=[.slot 4]) 275 Tryz.func18 ?_;by_cases h1:i < x.n
 ·have q1:=lT i x.n;obtain ⟨g,off,f,ha,hf,hb⟩:=hx.byt om;refine fN 2 (ai @q1 @tmB) ?_;refine gB ?_;have F:=@tmB;refine gP 2 ?_;clear F;have F:=tmB;refine gBy (cap:=x.cap) (j:=(i:Int)) hb ha om om ?_;clear F;have wf:((f (i:Int).toNat:Nat):Int)=((f i:Nat):Int):=rfl;have w1:IntKind.i64.wrap ((f i:Nat):Int)=((f i:Nat):Int):=Za2 rfl om (by have:=hf i;omega);rw [wf];refine fR (ai @w1 @tmB) ?_;exact (have F:=ai w1 tmB;gTE (R:=RNat 256) [] ⟨f i,hf i,rfl⟩)
 ·have q1:=lF i x.n;have w1:IntKind.i64.wrap ((i:Int) * 7)=((i * 7:Nat):Int):=Za2 om om om;have w2:IntKind.i64.wrap (((i * 7:Nat):Int)+(x.n:Int))=((i * 7+x.n:Nat):Int):=Za2 om om om;have w3:((i * 7+x.n:Nat):Int).tmod 256=(((i * 7+x.n) % 256:Nat):Int):=rfl;have w4:((256:Int)=0)=False:=eq_false (by decide);refine fN 3 (ai @q1 @tmB) ?_;refine gB ?_;refine fR (aj5 @w1 @w2 @w3 @w4 @tmB) ?_;exact (have F:=tmB;gTE (R:=RNat 256) [] ⟨_,Nat.mod_lt _ (by decide),rfl⟩)
end
theorem ZpQ {a b:Tm} (ha:okTm a) (hb:okTm b):Con e0 19 [.agg (Zab a),.agg (Zab b)] [.one (.lit (.bool (decide (Zah a b=0))))]:=by
 have cC:=Zdw ha hb;refine gI (ts:=[.slot 4]) 31 Tryz.func19 ?_;refine fN 1 @tmz ?_;refine gB ?_;refine fC @tmz (cC) ?_;refine fR @tmz ?_;exact fD @tmz
section
variable {g:Sgn} {a:Alg} {t:Tm} {xs:List Int}
theorem Zlt (hok:ZbJ g) (ha:Zhf a) (ht:okTm t) (hb:Zal (Zab t)<=1048576) (hxl:xs.length<=1048576):Con e0 20 [.agg (Zag g),.agg (Zbz a),.agg (Zab t),.one (.sl (xs.map Zat))] [.one (.lit (.int .i64 (Zcv g a t xs)))]:=by
 have cV:=Zf6 ht hb;have cA:=ZjQ hok ha;have cT:=Zd1 hok ht (Zc8 hb);have cW:=fun hA hv hvs=>Zlp (g:=g) (a:=a) (vs:=ZaB t) (xs:=xs) hA hv hvs (ZfA ht) (sizeTm t+1) t (Tan _) ht;have hvl:=ZhN t;have hrb:=Zib xs;rw [Zag] at cA cT ⊢;rw [Zbz] at cA cW ⊢;refine gI 17601312851839 Tryz.func20 ?_;refine fB @tmz ?_;refine fC @tmz (cV) ?_;refine fR @tmz ?_;refine fB @tmz ?_;refine fC @tmz (cA) ?_
 cases hA:ZcM g a with
 | false =>
  have hf:Zcv g a t xs=-1:=ZdP fun h=>by rw [hA] at h;exact absurd h.1 (by decide)
  refine fR @tmz ?_;exact fT @hf
 | true =>
 have hO:=Zgg.1 hA;have hs:=ZcX hO.sgn;rw [hs,Bool.true_and] at cT;refine fC @tmz (cT) ?_
 cases hT:Zbs g t with
 | false =>
  have hf:Zcv g a t xs=-1:=ZdP fun h=>by rw [hT] at h;exact absurd h.2.1 (by decide)
  refine fR @tmz ?_;exact fT @hf
 | true =>
 by_cases hlen:xs.length=(ZaB t).length;rotate_left
 ·have hf:Zcv g a t xs=-1:=ZdP fun h=>hlen h.2.2.1;have q1:((xs.length:Int)=((ZaB t).length:Int))=False:=eq_false om;refine fR (ai @tmz @q1) ?_;exact fT @hf
 have q1:((xs.length:Int)=((ZaB t).length:Int))=True:=eq_true om;have hlo:=hO.lo;have hhi:=hO.hi;have hw:IntKind.i64.wrap (a.size - 1)=a.size - 1:=IntWalk.i64_in _ om;refine fR (ai @tmz @q1) ?_;refine fG @tmz ?_;have F:=@e0P;refine gL (ι:=Nat) [8,10,33,44] [] (fun i=>[(10,A.d (.one (.lit (.int .i64 i))))]) (fun i=>[]) (fun i=>i<=xs.length∧(xs.take i).all (inB a.size)=true) (fun i=>xs.length - i) (0) (⟨Taj _,rfl⟩) (fun i hi=>?_);clear F
 obtain ⟨hil,hall⟩:=hi;by_cases hlt:i < xs.length
 ·have q2:(i:Int) < (xs.length:Int):=om;obtain ⟨x,hx⟩:∃ x,xs[i]?=some x:=⟨_,Taa hlt⟩;have hw1:=Zap (k:=i) om;refine fB (ai @tmz @q2) ?_;refine fC (aj5 @tmz @hrb @Zao @hx @hw) (Zcw x 0 (a.size - 1)) ?_
  cases hh:inB a.size x with
  | false =>
   have hf:Zcv g a t xs=-1:=ZdP fun h=>by rw [Zwp (Tac hx) hh] at h;exact absurd h.2.2.2 (by decide)
   have q3:decide (0<=x∧x<=a.size - 1)=false:=by
    simp only [inB,decide_eq_false_iff_not] at hh ⊢;omega
   refine fR (ai @tmz @q3) ?_;exact fT @hf
  | true =>
   have q3:decide (0<=x∧x<=a.size - 1)=true:=by
    simp only [inB,decide_eq_true_eq] at hh ⊢;omega
   have hq:i+1<=xs.length∧(xs.take (i+1)).all (inB a.size)=true:=⟨hlt,by rw [Zlq hx,hall,hh];rfl⟩;refine fR (ai @tmz @q3) ?_;have F:=ai @tmz @hw1;refine gG ?_;exact ⟨i+1,hq,gw,gw,om⟩
 obtain rfl:i=xs.length:=by omega
 have q2:¬ ((xs.length:Int) < (xs.length:Int)):=om;rw [Tap] at hall;have hval:ValOk a (ZaB t) xs:=⟨hlen,fun x hx=>by
  have:=List.all_eq_true.1 hall x hx;simp only [inB,decide_eq_true_eq] at this;exact this⟩
 have cW:=cW hO hval (by unfold big;omega) (Zry hT) (fun v hv=>ZfB hv) (Zc8 hb);have ev:Zcv g a t xs=ZaT g a (ZaB t) xs t:=if_pos ⟨hA,hT,hlen,hall⟩;rw [ev];refine fB (ai @tmz @q2) ?_;refine fC @tmz (cW) ?_;refine fR @tmz ?_;exact fT @tmz
theorem Zlu (hok:ZbJ g) (ha:Zhf a) (ht:okTm t) (hb:Zal (Zab t)<=1048576) (hxl:xs.length<=1048576):Con e0 21 [.agg (Zag g),.agg (Zbz a),.agg (Zab t),.one (.sl (xs.map Zat))] [.one (.lit (.int .i64 (Zcv g a t xs)))]:=by
 have cV:=ZoD t hb;have cA:=ZjP hok ha;have cT:=ZlV hok ht hb;have cW:=fun hA hv hvs=>Zlo (g:=g) (a:=a) (vs:=ZaB t) (xs:=xs) hA hv hvs (sizeTm t+1) t (Tan _);have hvl:=ZhN t;have hrb:=Zib xs;rw [Zag] at cA cT cW ⊢;rw [Zbz] at cA cW ⊢;refine gI 17625472043903 Tryz.func21 ?_;refine fB @tmz ?_;refine fC @tmz (cV) ?_;refine fR @tmz ?_;refine fB @tmz ?_;refine fC @tmz (cA) ?_
 cases hA:ZcM g a with
 | false =>
  have hf:Zcv g a t xs=-1:=ZdP fun h=>by rw [hA] at h;exact absurd h.1 (by decide)
  refine fR @tmz ?_;exact fT @hf
 | true =>
 have hO:=Zgg.1 hA;have hs:=ZcX hO.sgn;rw [hs,Bool.true_and] at cT;refine fC @tmz (cT) ?_
 cases hT:Zbs g t with
 | false =>
  have hf:Zcv g a t xs=-1:=ZdP fun h=>by rw [hT] at h;exact absurd h.2.1 (by decide)
  refine fR @tmz ?_;exact fT @hf
 | true =>
 by_cases hlen:xs.length=(ZaB t).length;rotate_left
 ·have hf:Zcv g a t xs=-1:=ZdP fun h=>hlen h.2.2.1;have q1:((xs.length:Int)=((ZaB t).length:Int))=False:=eq_false om;refine fR (ai @tmz @q1) ?_;exact fT @hf
 have q1:((xs.length:Int)=((ZaB t).length:Int))=True:=eq_true om;refine fR (ai @tmz @q1) ?_;refine fG @tmz ?_;have F:=@e0P;refine gL (ι:=Nat) [8,11,33,34,44] [] (fun i=>[(33,A.d (.one (.lit (.int .i64 i))))]) (fun i=>[]) (fun i=>i<=xs.length∧(xs.take i).all (inB a.size)=true) (fun i=>xs.length - i) (0) (⟨Taj _,rfl⟩) (fun i hi=>?_);clear F;obtain ⟨hil,hall⟩:=hi;by_cases hlt:i < xs.length
 ·have q2:(i:Int) < (xs.length:Int):=om;obtain ⟨x,hx⟩:∃ x,xs[i]?=some x:=⟨_,Taa hlt⟩;have hw1:=Zap (k:=i) om;have hno:¬ (0<=x∧x < a.size)->Zcv g a t xs=-1:=fun hn=>ZdP fun h=>by
   have:=List.all_eq_true.1 h.2.2.2 x (Tac hx);simp only [inB,decide_eq_true_eq] at this;exact hn this
  by_cases h1:x < 0
  ·have hf:=hno om;have q3:(x < 0)=True:=eq_true h1;exact fT (aj7 @tmz @q2 @hrb @Zao @hx @q3 @hf)
  have q3:(x < 0)=False:=eq_false h1;by_cases h2:a.size<=x
  ·have hf:=hno om;have q4:(a.size<=x)=True:=eq_true h2;exact fT (aj8 @tmz @q2 @hrb @Zao @hx @q3 @q4 @hf)
  have q4:(a.size<=x)=False:=eq_false h2
  have hq:i+1<=xs.length∧(xs.take (i+1)).all (inB a.size)=true:=⟨hlt,by
   rw [Zlq hx,hall];simp only [inB,Bool.true_and,decide_eq_true_eq];omega⟩
  have F:=aj8 @tmz @q2 @hrb @Zao @hx @q3 @q4 @hw1;refine gG ?_;exact ⟨i+1,hq,gw,gw,om⟩
 obtain rfl:i=xs.length:=by omega
 have q2:¬ ((xs.length:Int) < (xs.length:Int)):=om;rw [Tap] at hall;have hval:ValOk a (ZaB t) xs:=⟨hlen,fun x hx=>by
  have:=List.all_eq_true.1 hall x hx;simp only [inB,decide_eq_true_eq] at this;exact this⟩
 have cW:=cW hO hval (by unfold big;omega) (Zry hT) (fun v hv=>ZfB hv) (Zc8 hb);have ev:Zcv g a t xs=ZaT g a (ZaB t) xs t:=if_pos ⟨hA,hT,hlen,hall⟩;rw [ev];refine fB (ai @tmz @q2) ?_;refine fC @tmz (cW) ?_;refine fR @tmz ?_;exact fT @tmz
end
theorem ZxR (n:Int):I64 (IntKind.i64.wrap n):=by rw [IntKind.wrap_i64];unfold I64;omega
def AlDr (a:Alg):Prop:=Zhf a∧1<=a.size∧a.size<=4
def Zsw (r:List D):Prop:=∃ a:Alg,AlDr a∧r=[.agg (Zbz a)]
section
variable {x:Src} {b:Nat} {g:Sgn}
theorem Zo1 (hx:x.Ok) (hd:DrOk g):ConE (eC x b) 48 [curD b,.agg (Zag g)] Zsw:=by
 have he:=hx.okC (b:=b);have b2:=ZbH (b:=b) hx (n:=2) (by decide) (by decide);have b3:=ZbH (b:=b) hx (n:=3) (by decide) (by decide);have b4:=ZbH (b:=b) hx (n:=4) (by decide) (by decide);have c20:=ZbS (b:=b) hx (n:=20) (by decide) (by decide);have hg:=hd.sg;have h14:=hg.len;have cAr:∀ {o:Opr} {d:Dcl},o.decls[0]?=some d->Con (eC x b) 44 [.agg (ZaU o)] [.one (.lit (.int .i64 d.args.length))]:=fun h=>(Zc7 h).cu hx
 have cMx:∀ p q:Int,Con (eC x b) 93 [.one (.lit (.int .i64 p)),.one (.lit (.int .i64 q))] [.one (.lit (.int .i64 (max p q)))]:=fun p q=>(Zml p q).cu hx;simp only [ZaU] at cAr;rw [Zag];refine gIE (ts:=[.cell 4 50]) 21778403795019513963114847003986750357499 Tryz.func48 ?_;refine fN 1 @tmC ?_;refine gB ?_;have F:=@tmC;refine gCE (b3) ?_;clear F;rintro r ⟨n0,hn0,rfl⟩;have w0:IntKind.i64.wrap (1+(n0:Int))=((1+n0:Nat):Int):=Za2 om om om
 have F:=ai @w0 @tmC;refine gP 1 ?_;clear F;obtain ⟨n,hn⟩:∃ n,n=1+n0:=⟨_,rfl⟩;rw [<- hn];have hn1:1<=n∧n<=3:=om;clear hn w0 hn0;have F:=tmC;refine gXc ?_;clear F;refine fR @tmC ?_;refine fN 2 @tmC ?_;refine gB ?_;have F:=@tmC;refine gCE (b4) ?_;clear F;rintro r ⟨way,hway,rfl⟩;refine fR @tmC ?_;refine pN 1001 43 1 ?_;refine fG @tmC ?_;have F:=@tmC;refine gL (ι:=List (List Int) × Option Addr × Nat) [7,8,9,10,11,12,13,24,43,57,67,77,93,102,118] [5,1001] (fun q=>[(7,A.d (.one (.lit (.int .i64 q.1.length))))]) (fun q=>[(5,.var none [.lit (.int .i64 (n:Int)),.lit (.slice q.2.1 (q.1.map ZbX).length q.2.2)]),(1001,.buf (some (q.2.1,q.2.2)) 43 1 (q.1.map ZbX))]) (fun q=>q.1.length<=g.ops.length∧∀ t∈q.1,Zia t) (fun q=>g.ops.length - q.1.length) (([],none,0)) (⟨Taj _,fun t h=>by cases h⟩) (fun q hq=>?_);clear F
 obtain ⟨ts,a1,k1⟩:=q;obtain ⟨hql,hqt⟩:=hq;dsimp only at hql hqt ⊢;by_cases h1:ts.length < g.ops.length
 ·have q1:=lT ts.length g.ops.length;obtain ⟨o,ho⟩:∃ o,g.ops[ts.length]?=some o:=⟨_,Taa h1⟩;obtain ⟨d,hd0,_⟩:=hg.first ho;have har:=(hg.decls o (Tac ho)).ar d hd0;have cA:=cAr hd0;clear cAr;have cB:=ZbH (b:=b) hx (n:=n) om om;have cP:Con (eC x b) 92 [.one (.lit (.int .i64 (n:Int))),.one (.lit (.int .i64 (d.args.length:Int)))] [.one (.lit (.int .i64 ((n ^ d.args.length:Nat):Int)))]:=by
   have h:=(ZmK (z:=(n:Int)) (k:=d.args.length) om om om).cu (b:=b) hx
   rwa [<- Int.natCast_pow] at h
  have hpl:n ^ d.args.length<=27:=Tbd (Nat.pow_le_pow_left hn1.2 _) (Tbd (Tbr (by decide) har) (by decide));generalize n ^ d.args.length=p at cP hpl;refine fN 6 (ai @q1 @tmC) ?_;refine gB ?_;refine fC (aj3 @ho @Zae @tmC) (cA) ?_;refine fR @tmC ?_;generalize hm:d.args.length=m at *;refine fN 8 @tmC ?_;refine gB ?_;have F:=@tmC;refine gCE (cB) ?_;clear F;rintro r ⟨k,hk,rfl⟩;refine fR @tmC ?_;refine fG @tmC ?_
  have F:=@tmC;refine gL (ι:=List Int) [9,11,12,13,43,57,67,77,93,102,118] [9] (fun ys=>[(11,A.d (.one (.lit (.int .i64 ys.length)))),(9,.buf 9)]) (fun ys=>[(9,.buf none 3 1 (ys.map Zat))]) (fun ys=>ys.length<=p∧Zia ys) (fun ys=>p - ys.length) ([]) (⟨Taj _,fun y h=>by cases h⟩) (fun ys hys=>?_);clear F;obtain ⟨hyl,hyo⟩:=hys;by_cases h2:ys.length < p
  ·have q2:=lT ys.length p;refine fN 10 @tmC ?_;refine gB ?_;refine fC @tmC (cP) ?_;refine fR (ai @q2 @tmC) ?_;have w3:IntKind.i64.wrap ((ys.length:Int).tdiv (n:Int))=((ys.length / n:Nat):Int):=Za2 rfl (Int.le_trans (by decide) (Int.natCast_nonneg _)) (by have h:=Nat.div_le_self ys.length n;generalize ys.length / n=q at *;omega);have w4:(ys.length:Int).tmod (n:Int)=((ys.length % n:Nat):Int):=rfl;have w5:((n:Int)=0)=False:=eq_false om
   have hjx:ys.length / n<=27:=by have:=Nat.div_le_self ys.length n;omega
   have hjy:ys.length % n < n:=Nat.mod_lt _ om;refine fN 12 @tmC ?_
   /- gk l22q -/
   refine gGk [(0,.d (curD b)),(1,.d (.agg [.sl (g.sorts.names.map Zby),.sl (g.sorts.subs.map ZbM),.sl (g.ops.map ZaU)])),(3,.ref 3 0),(4,.ref 4 0),(5,.ref 5 0),(6,.d (.one (.lit (.int .i64 (way:Int))))),(7,.d (.one (.lit (.int .i64 (ts.length:Int))))),(8,.d (.one (.lit (.int .i64 (m:Int))))),(9,.buf 9),(10,.d (.one (.lit (.int .i64 (k:Int))))),(11,.d (.one (.lit (.int .i64 (ys.length:Int))))),(24,.d (.one (.lit (.bool true))))] [(3,.var none [.sl (g.sorts.names.map Zby),.sl (g.sorts.subs.map ZbM),.sl (g.ops.map ZaU)]),(4,.var none [.lit (.int .i64 0),.sl []]),(5,.var none [.lit (.int .i64 (n:Int)),.lit (.slice a1 ts.length k1)]),(9,.buf none 3 1 (ys.map Zat)),(1001,.buf (some (a1,k1)) 43 1 (ts.map ZbX))] [([(46,.d (.one (.lit (.int .i64 (ys.length:Int)))))],[]),([(47,.ref 5 0)],[]),([(48,.d (.one (.lit (.int .i64 (n:Int)))))],[]),([(49,.d (.one (.lit (.int .i64 ((ys.length / n:Nat):Int)))))],[]),([(50,.d (.one (.lit (.int .i64 (ys.length:Int)))))],[]),([(51,.ref 5 0)],[]),([(52,.d (.one (.lit (.int .i64 (n:Int)))))],[]),([(53,.d (.one (.lit (.int .i64 ((ys.length % n:Nat):Int)))))],[]),([(12,.d (.one (.lit (.int .i64 ((ys.length / n:Nat):Int)))))],[]),([(13,.d (.one (.lit (.int .i64 ((ys.length % n:Nat):Int)))))],[])] (fun _=>none) [] (⟨by simp [gs],by simp [gm]⟩) (fun j hj=>by simp at hj) ⟨?_,?_,?_,?_,?_,?_,?_,?_,?_,?_,trivial⟩ ?_
   ·intro s' m' hB hD hI hJ;have F:=(Za5.1 hB);simp only [lkS,lkM,List.getD_cons_zero,List.getD_cons_succ,and_true,true_and] at F;have F:=aj5 F w3 w4 w5 tmC;refine gO3 ?_;exact kS hB (ZaK.2 (by simp [lkS,lkM,gs,gm]))
   ·intro s' m' hB hD hI hJ;have F:=(Za5.1 hB);simp only [lkS,lkM,List.getD_cons_zero,List.getD_cons_succ,and_true,true_and] at F;have F:=aj5 F w3 w4 w5 tmC;refine gO3 ?_;exact kS hB (ZaK.2 (by simp [lkS,lkM,gs,gm]))
   ·intro s' m' hB hD hI hJ;have F:=ai (Za5.1 hB) (ZaK.1 (hD 1 (by decide) (.inl rfl)));simp only [lkS,lkM,List.getD_cons_zero,List.getD_cons_succ,and_true,true_and] at F;have F:=aj5 F w3 w4 w5 tmC;refine gO3 ?_;exact kS hB (ZaK.2 (by simp [lkS,lkM,gs,gm]))
   ·intro s' m' hB hD hI hJ;have F:=aj3 (Za5.1 hB) (ZaK.1 (hD 0 (by decide) (.inl rfl))) (ZaK.1 (hD 2 (by decide) (.inl rfl)));simp only [lkS,lkM,List.getD_cons_zero,List.getD_cons_succ,and_true,true_and] at F;have F:=aj5 F w3 w4 w5 tmC;refine gO3 ?_;exact kS hB (ZaK.2 (by simp [lkS,lkM,gs,gm]))
   ·intro s' m' hB hD hI hJ;have F:=(Za5.1 hB);simp only [lkS,lkM,List.getD_cons_zero,List.getD_cons_succ,and_true,true_and] at F;have F:=aj5 F w3 w4 w5 tmC;refine gO3 ?_;exact kS hB (ZaK.2 (by simp [lkS,lkM,gs,gm]))
   ·intro s' m' hB hD hI hJ;have F:=(Za5.1 hB);simp only [lkS,lkM,List.getD_cons_zero,List.getD_cons_succ,and_true,true_and] at F;have F:=aj5 F w3 w4 w5 tmC;refine gO3 ?_;exact kS hB (ZaK.2 (by simp [lkS,lkM,gs,gm]))
   ·intro s' m' hB hD hI hJ;have F:=ai (Za5.1 hB) (ZaK.1 (hD 5 (by decide) (.inl rfl)));simp only [lkS,lkM,List.getD_cons_zero,List.getD_cons_succ,and_true,true_and] at F;have F:=aj5 F w3 w4 w5 tmC;refine gO3 ?_;exact kS hB (ZaK.2 (by simp [lkS,lkM,gs,gm]))
   ·intro s' m' hB hD hI hJ;have F:=aj3 (Za5.1 hB) (ZaK.1 (hD 4 (by decide) (.inl rfl))) (ZaK.1 (hD 6 (by decide) (.inl rfl)));simp only [lkS,lkM,List.getD_cons_zero,List.getD_cons_succ,and_true,true_and] at F;have F:=aj5 F w3 w4 w5 tmC;refine gO3 ?_;exact kS hB (ZaK.2 (by simp [lkS,lkM,gs,gm]))
   ·intro s' m' hB hD hI hJ;have F:=ai (Za5.1 hB) (ZaK.1 (hD 3 (by decide) (.inl rfl)));simp only [lkS,lkM,List.getD_cons_zero,List.getD_cons_succ,and_true,true_and] at F;have F:=aj5 F w3 w4 w5 tmC;refine gO3 ?_;exact kS hB (ZaK.2 (by simp [lkS,lkM,gs,gm]))
   ·intro s' m' hB hD hI hJ;have F:=ai (Za5.1 hB) (ZaK.1 (hD 7 (by decide) (.inl rfl)));simp only [lkS,lkM,List.getD_cons_zero,List.getD_cons_succ,and_true,true_and] at F;have F:=aj5 F w3 w4 w5 tmC;refine gO3 ?_;exact kS hB (ZaK.2 (by simp [lkS,lkM,gs,gm]))
   intro s' m' hB hP;refine ⟨_,_,(hB.app (hP 8 (.inl (by decide)) (fun k h=>by simp [List.lookup] at h))).app (hP 9 (.inl (by decide)) (fun k h=>by simp [List.lookup] at h)),?_⟩;simp only [Taf,Tah,List.append_nil,List.getD_cons_zero,List.getD_cons_succ]
   /- gk end l22q -/
   refine ⟨_,Wk.refl _,?_⟩;clear w3 w4;generalize ys.length / n=jx at *;generalize ys.length % n=jy at *;have hm:((ys.map Zat).length+1<=maxApp)=True:=eq_true (by rw [Tax];unfold maxApp;omega);have hm2:(ys.length+1<=maxApp)=True:=eq_true (by unfold maxApp;omega);have hsn:∀ v:Int,ys.map Zat++[[C.lit (.int .i64 v)]]=(ys++[v]).map Zat:=fun v=>by rw [Tbu];rfl
   have hR:∀ v:Int,I64 v->(ys++[v]).length=ys.length+1∧Zia (ys++[v]):=fun v hv=>⟨by simp,fun y hy=>(Tbg.1 hy).elim (hyo y) fun h=>by rw [Tbi.1 h];exact hv⟩;have mo:∀ q:Nat,(q:Int).tmod (n:Int)=((q % n:Nat):Int):=fun q=>rfl;have hI:∀ q:Nat,I64 ((q % n:Nat):Int):=fun q=>by have:=Nat.mod_lt q (show 0 < n by omega);exact ⟨om,om⟩
   refine gM (ι:=List Int) [9,12,13] [9] (fun zs=>[(9,.buf 9)]) (fun zs=>[(9,.buf none 3 1 (zs.map Zat))]) (fun zs=>zs.length=ys.length+1∧Zia zs) ?_ (fun zs hzs=>Exists.intro _ (ai (Wk.refl _) ?_))
   ·by_cases hm0:m=0
    ·have e0:((m:Int)=0)=True:=eq_true om;refine fN 15 (ai @e0 @tmC) ?_;refine gB ?_;have F:=@tmC;refine gCE (b2) ?_;clear F;rintro r ⟨k2,hk2,rfl⟩;refine fR (aj4 @hm @hm2 @hsn @tmC) ?_;have F:=@tmC;refine gG ?_;exact ⟨ys++[IntKind.i64.wrap ((k:Int) * (k2:Int))],hR _ (ZxR _),gw,gw⟩
    have e0:((m:Int)=0)=False:=eq_false om;by_cases hw0:way=0
    ·have e1:((way:Int)=0)=True:=eq_true om;refine fN 17 (aj3 @e0 @e1 @tmC) ?_;refine gB ?_;have F:=@tmC;refine gCE (cB) ?_;clear F;rintro r ⟨k2,hk2,rfl⟩;refine fR (aj4 @hm @hm2 @hsn @tmC) ?_;have F:=@tmC;refine gG ?_;exact ⟨ys++[(k2:Int)],hR _ ⟨om,om⟩,gw,gw⟩
    have e1:((way:Int)=0)=False:=eq_false om;by_cases hm1:m=1
    ·have e2:((m:Int)=1)=True:=eq_true om;by_cases hw3:way < 3
     ·have e3:=lT way 3;have w6:IntKind.i64.wrap ((ys.length:Int)+(k:Int))=((ys.length+k:Nat):Int):=Za2 om om om;refine fN 19 (aj5 @e0 @e1 @e2 @e3 @tmC) ?_;refine gB ?_;refine fR (aj7 @w5 @w6 @mo @hm @hm2 @hsn @tmC) ?_;have F:=@tmC;refine gG ?_;exact ⟨ys++[(((ys.length+k) % n:Nat):Int)],hR _ (hI _),gw,gw⟩
     ·have e3:=lF way 3;refine fN 21 (aj5 @e0 @e1 @e2 @e3 @tmC) ?_;refine gB ?_;refine fC @tmC (cMx (ys.length:Int) (k:Int)) ?_;refine fR (aj4 @hm @hm2 @hsn @tmC) ?_;have F:=@tmC;refine gG ?_;exact ⟨ys++[max (ys.length:Int) (k:Int)],hR _ ⟨om,om⟩,gw,gw⟩
    have e2:((m:Int)=1)=False:=eq_false om;by_cases hmt:m=2
    ·have e3:((m:Int)=2)=True:=eq_true om;by_cases hw1:way=1
     ·have e4:((way:Int)=1)=True:=eq_true om;have w6:IntKind.i64.wrap ((jx:Int)+(jy:Int))=((jx+jy:Nat):Int):=Za2 om om om;refine fN 23 (aj6 @e0 @e1 @e2 @e3 @e4 @tmC) ?_;refine gB ?_;refine fR (aj7 @w5 @w6 @mo @hm @hm2 @hsn @tmC) ?_;have F:=@tmC;refine gG ?_;exact ⟨ys++[(((jx+jy) % n:Nat):Int)],hR _ (hI _),gw,gw⟩
     ·have e4:((way:Int)=1)=False:=eq_false om;refine fN 25 (aj6 @e0 @e1 @e2 @e3 @e4 @tmC) ?_;refine gB ?_;refine fC @tmC (cMx (jx:Int) (jy:Int)) ?_;refine fR (aj4 @hm @hm2 @hsn @tmC) ?_;have F:=@tmC;refine gG ?_;exact ⟨ys++[max (jx:Int) (jy:Int)],hR _ ⟨om,om⟩,gw,gw⟩
    have e3:((m:Int)=2)=False:=eq_false om;refine fN 13 (aj5 @e0 @e1 @e2 @e3 @tmC) ?_;refine gB ?_;refine fR (aj4 @hm @hm2 @hsn @tmC) ?_;have F:=@tmC;refine gG ?_;exact ⟨ys++[0],hR 0 ⟨by decide,by decide⟩,gw,gw⟩
   obtain ⟨hzl,hzo⟩:=hzs;have wi:=Zap (k:=ys.length) om;rw [<- hzl] at wi;have F:=aj3 @wi @hzl @tmC;refine gG ?_;exact ⟨zs,⟨om,hzo⟩,gw,gw,om⟩
  ·have q2:=lF ys.length p;refine fN 10 @tmC ?_;refine gB ?_;refine fC @tmC (cP) ?_;refine fR (ai @q2 @tmC) ?_;have hm:((ts.map ZbX).length+1<=maxApp)=True:=eq_true (by rw [Tax];unfold maxApp;omega);have hm2:(ts.length+1<=maxApp)=True:=eq_true (by unfold maxApp;omega);have hsn:ts.map ZbX++[[C.sl (ys.map Zat)]]=(ts++[ys]).map ZbX:=by rw [Tbu];rfl
   refine Zb2 (ZcD [9] (by simp only [pz,↓reduceIte,Nat.reduceEqDiff,Nat.reduceAdd,Nat.reduceSub,Nat.reduceMul,Nat.reduceLeDiff,Nat.reduceBEq,Tam,decide_true,decide_false,Int.reduceLE,Int.reduceToNat,Int.reduceLT,Int.reduceEq,eq_self,Nat.reduceShiftRight,Nat.reduceAnd,Nat.reduceBneDiff,tmC];exact rfl)) fun σ' hσ=>?_;subst hσ;refine fN 26 @tmC ?_;refine gB ?_;have F:=@tmC;refine gP 2 ?_;clear F;refine gK 128 ?_
   have F:=aj3 @hm @hm2 @tmC;refine gP 3 ?_;clear F;rw [hsn];refine gS 131 fun a2 k2=>?_;have F:=@tmC;refine gP 2 ?_;clear F;refine gE [131] [1001] ZeR ?_;refine fR @tmC ?_;have wi:=Zap (k:=ts.length) om;have hl:(ts++[ys]).length=ts.length+1:=by simp
   have hl2:((ts++[ys],a2,k2):List (List Int) × Option Addr × Nat).1.length=ts.length+1:=by simp
   have F:=aj3 @wi @hl @tmC;refine gG ?_;exact ⟨(ts++[ys],a2,k2),⟨by dsimp only;omega,fun t ht=>(Tbg.1 ht).elim (hqt t) fun h=>by rw [Tbi.1 h];exact hyo⟩,gw,gw,om⟩
 ·have q1:=lF ts.length g.ops.length;clear cAr;refine fN 27 (ai @q1 @tmC) ?_;refine pD 1001 [] [5] ?_;refine gB ?_;have F:=@tmC;refine gCE (c20) ?_;clear F;rintro r ⟨y,rfl⟩;refine fR @tmC ?_;have hE:∀ z:Int,Zbz ⟨z,ts⟩=[.lit (.int .i64 z),.sl (ts.map ZbX)]:=fun _=>rfl
  cases y
  ·refine fN 29 @tmC ?_;refine gB ?_;refine fR @tmC ?_;exact (have F:=ai hE @tmC;gTE (R:=Zsw) [] ⟨⟨(n:Int),ts⟩,⟨⟨⟨by dsimp only;omega,by dsimp only;omega⟩,hqt⟩,by dsimp only;omega,by dsimp only;omega⟩,rfl⟩)
  ·have w1:=Zap (k:=n) om;refine fN 28 @tmC ?_;refine gB ?_;refine fR (ai @w1 @tmC) ?_;refine fN 29 @tmC ?_;refine gB ?_;refine fR @tmC ?_;exact (have F:=ai hE @tmC;gTE (R:=Zsw) [] ⟨⟨((n+1:Nat):Int),ts⟩,⟨⟨⟨by dsimp only;omega,by dsimp only;omega⟩,hqt⟩,by dsimp only;omega,by dsimp only;omega⟩,rfl⟩)
end
section
variable {x:Src}
def Zwv (r:List D):Prop:=∃ (g:Sgn) (a:Alg) (t:Tm) (xs:List Int),DrD g∧AlDr a∧TermOk g t∧r=[.agg (Zag g),.agg (Zbz a),.agg (Zab t),.one (.sl (xs.map Zat))]
theorem Zo2 (hx:x.Ok):ConE (eB x) 14 [Zhz x] Zwv:=by
 have he:=hx.ok;refine gIE (ts:=[.cell 2 30,.cell 3 50,.cell 4 34,.slot 5]) 275012128765 Tryz.func14 ?_;refine fN 1 @tmB ?_;refine gB ?_;have F:=@tmB;refine gCP [] [1000] (Zou hx) ?_;clear F;rintro r pm ⟨b,h,rfl,rfl⟩;simp only [setA,retA,zipM,Taf,Tah];refine fR @tmB ?_;refine pCur 1000 (Int.le_refl 0) ?_;clear he;have he:=hx.okC (b:=b);refine fN 2 @tmC ?_;refine gB ?_;have F:=@tmC;refine gCP [] [1000] ((ZjJ hx)) ?_;clear F
 rintro r pm ⟨z,u,hc,fa,fc,fu,w,a0,k0,hz,rfl,rfl⟩;simp only [setA,retA,zipM,Taf,Tah];refine fR @tmC ?_;obtain ⟨e1,e2,e3⟩:=Zov z u hc fa fc fu w;rw [e1,e2,e3];have hDr:DrD (sigD z u hc fa fc fu w):=⟨z,u,hc,fa,fc,fu,w,hz,rfl⟩;clear e1 e2 e3;generalize sigD z u hc fa fc fu w=g at hDr ⊢;clear hz;refine pD 1000 [] [7] ?_;have hd:=Zja hDr;have cD:=ZiA (b:=b) hx hd.ok hd.sg hd.h4 hd.hz (d:=3) (by decide) true
 have cA:=Zo1 (b:=b) hx hd;have c10:=ZbS (b:=b) hx (n:=10) (by decide) (by decide);have hE:Zag g=[.sl (g.sorts.names.map Zby),.sl (g.sorts.subs.map ZbM),.sl (g.ops.map ZaU)]:=by rw [Zag]
 rw [hE] at cD cA;refine fN 3 @tmC ?_;refine gB ?_;have F:=@tmC;refine gCE (cA) ?_;clear F;rintro r ⟨⟨z,ts⟩,ha,rfl⟩;obtain ⟨n,hn⟩:∃ n:Nat,z=(n:Int):=⟨z.toNat,by have:=ha.2.1;dsimp only at this;omega⟩;subst hn;have hAE:Zbz ⟨(n:Int),ts⟩=[.lit (.int .i64 (n:Int)),.sl (ts.map ZbX)]:=rfl;have hn1:1<=n∧n<=4:=by have h1:=ha.2.1;have h2:=ha.2.2;dsimp only at h1 h2;omega
 refine fR (ai @hAE @tmC) ?_;refine fN 4 @tmC ?_;refine gB ?_;have F:=@tmC;refine gCE (cD) ?_;clear F;rintro r ⟨t,ht,rfl⟩;refine fR @tmC ?_;have htb:=ZdO ht.form;have htz:=ht.size;have cV:=(Zf6 (ht.ok hd.sg) (show Zal (Zab t)<=1048576 by omega)).cu (b:=b) hx;have cB:=ZbH (b:=b) hx (n:=n) om om;have hvl:=ZhN t;have hvs:=Zgu t;refine fG @tmC ?_;have F:=@tmC;refine gL (ι:=List Int) [10,11,27] [10] (fun xs=>[(11,A.d (.one (.lit (.int .i64 xs.length)))),(10,.buf 10)]) (fun xs=>[(10,.buf none 3 1 (xs.map Zat))]) (fun xs=>xs.length<=(ZaB t).length) (fun xs=>(ZaB t).length - xs.length) ([]) (Taj _) (fun xs hxs=>?_);clear F
 by_cases h1:xs.length < (ZaB t).length
 ·have q1:=lT xs.length ((ZaB t).length);have hm:((xs.map Zat).length+1<=maxApp)=True:=eq_true (by rw [Tax];unfold maxApp;omega);have hm2:(xs.length+1<=maxApp)=True:=eq_true (by unfold maxApp;omega);have hsn:∀ v:Int,xs.map Zat++[[C.lit (.int .i64 v)]]=(xs++[v]).map Zat:=fun v=>by rw [Tbu];rfl
  have wi:=Zap (k:=xs.length) om;refine fN 7 @tmC ?_;refine gB ?_;refine fC @tmC (cV) ?_;refine fR (ai @q1 @tmC) ?_;refine fN 9 @tmC ?_;refine gB ?_;have F:=@tmC;refine gCE (cB) ?_;clear F;rintro r ⟨k,hk,rfl⟩;refine fR (aj4 @hm @hm2 @hsn @tmC) ?_;have hl:(xs++[(k:Int)]).length=xs.length+1:=by simp
  have F:=aj3 @wi @hl @tmC;refine gG ?_;exact ⟨xs++[(k:Int)],om,gw,gw,om⟩
 ·have q1:=lF xs.length ((ZaB t).length);have hm:((xs.map Zat).length+1<=maxApp)=True:=eq_true (by rw [Tax];unfold maxApp;omega);have hm2:(xs.length+1<=maxApp)=True:=eq_true (by unfold maxApp;omega);have hsn:∀ v:Int,xs.map Zat++[[C.lit (.int .i64 v)]]=(xs++[v]).map Zat:=fun v=>by rw [Tbu];rfl
  refine fN 7 @tmC ?_;refine gB ?_;refine fC @tmC (cV) ?_;refine fR (ai @q1 @tmC) ?_;clear cV cB hvl hvs q1 h1 htb htz;refine fN 10 @tmC ?_;refine gB ?_;have F:=@tmC;refine gCE (c10) ?_;clear F;rintro r ⟨y,rfl⟩;refine fR @tmC ?_;refine gM (ι:=List Int) [10,38] [10] (fun ys=>[(10,.buf 10)]) (fun ys=>[(10,.buf none 3 1 (ys.map Zat))]) (fun ys=>True) ?_ (fun ys hys=>Exists.intro _ (ai (Wk.refl _) ?_))
  ·cases y
   ·have F:=@tmC;refine gG ?_;exact ⟨xs,trivial,gw,gw⟩
   ·refine fN 11 @tmC ?_;refine gB ?_;refine fR (aj4 @hm @hm2 @hsn @tmC) ?_;have F:=@tmC;refine gG ?_;exact ⟨xs++[0],trivial,gw,gw⟩
  clear hys hm hm2 hsn;refine Zb2 (ZcD [10] (by simp only [pz,↓reduceIte,Nat.reduceEqDiff,Nat.reduceAdd,Nat.reduceSub,Nat.reduceMul,Nat.reduceLeDiff,Nat.reduceBEq,Tam,decide_true,decide_false,Int.reduceLE,Int.reduceToNat,Int.reduceLT,Int.reduceEq,eq_self,Nat.reduceShiftRight,Nat.reduceAnd,Nat.reduceBneDiff,tmC];exact rfl)) fun σ' hσ=>?_;subst hσ;refine fN 12 @tmC ?_
  /- gk drv -/
  refine gGk [(2,.ref 2 0),(3,.ref 3 0),(4,.ref 4 0),(7,.ref 7 0),(8,.ref 8 0),(9,.ref 9 0),(10,.d (.one (.sl (ys.map Zat))))] [(7,.var none [.sl (g.sorts.names.map Zby),.sl (g.sorts.subs.map ZbM),.sl (g.ops.map ZaU)]),(8,.var none [.lit (.int .i64 (n:Int)),.sl (ts.map ZbX)]),(9,.var none (Zab t))] [([(42,.d (.agg [.sl (g.sorts.names.map Zby),.sl (g.sorts.subs.map ZbM),.sl (g.ops.map ZaU)]))],[]),([(43,.d (.agg [.lit (.int .i64 (n:Int)),.sl (ts.map ZbX)]))],[]),([(44,.d (.agg (Zab t)))],[]),([(45,.d (.one (.sl (ys.map Zat))))],[]),([],[(2,.var none [.sl (g.sorts.names.map Zby),.sl (g.sorts.subs.map ZbM),.sl (g.ops.map ZaU)])]),([],[(3,.var none [.lit (.int .i64 (n:Int)),.sl (ts.map ZbX)])]),([],[(4,.var none (Zab t))]),([(5,.d (.one (.sl (ys.map Zat))))],[]),([],[(2,.var none [.sl [],.sl [],.sl []])]),([],[(3,.var none [.lit (.int .i64 0),.sl []])]),([],[(4,.var none [.lit (.int .i64 0),.lit (.string ByteArray.empty),.lit (.int .i64 0),.sl []])])] (fun j=>([(8,4),(9,5),(10,6)]:List (Nat × Nat)).lookup j) [8,9,10] (⟨by simp [gs],by simp [gm]⟩) (fun j hj=>by simp only [Tbf,List.not_mem_nil,or_false] at hj;rcases hj with rfl | rfl | rfl <;> exact ⟨by simp [gs],by simp [gm]⟩) ⟨?_,?_,?_,?_,?_,?_,?_,?_,trivial⟩ ?_
  ·intro s' m' hB hD hI hJ;have F:=(Za5.1 hB);simp only [lkS,lkM,List.getD_cons_zero,List.getD_cons_succ,and_true,true_and] at F;have F:=ai F (tmC);refine gO3 ?_;exact kS hB (ZaK.2 (by simp [lkS,lkM,gs,gm]))
  ·intro s' m' hB hD hI hJ;have F:=(Za5.1 hB);simp only [lkS,lkM,List.getD_cons_zero,List.getD_cons_succ,and_true,true_and] at F;have F:=ai F (tmC);refine gO3 ?_;exact kS hB (ZaK.2 (by simp [lkS,lkM,gs,gm]))
  ·intro s' m' hB hD hI hJ;have F:=(Za5.1 hB);simp only [lkS,lkM,List.getD_cons_zero,List.getD_cons_succ,and_true,true_and] at F;have F:=ai F (tmC);refine gO3 ?_;exact kS hB (ZaK.2 (by simp [lkS,lkM,gs,gm]))
  ·intro s' m' hB hD hI hJ;have F:=(Za5.1 hB);simp only [lkS,lkM,List.getD_cons_zero,List.getD_cons_succ,and_true,true_and] at F;have F:=ai F (tmC);refine gO3 ?_;exact kS hB (ZaK.2 (by simp [lkS,lkM,gs,gm]))
  ·intro s' m' hB hD hI hJ;have F:=aj3 (Za5.1 hB) (ZaK.1 (hD 0 (by decide) (.inl rfl))) (ZaK.1 (hI 8 (by decide) (by decide)));simp only [lkS,lkM,List.getD_cons_zero,List.getD_cons_succ,and_true,true_and] at F;have F:=ai F (tmC);refine gO3 ?_;exact kM hB (ZaK.2 (by simp [lkS,lkM,gs,gm]))
  ·intro s' m' hB hD hI hJ;have F:=aj3 (Za5.1 hB) (ZaK.1 (hD 1 (by decide) (.inl rfl))) (ZaK.1 (hI 9 (by decide) (by decide)));simp only [lkS,lkM,List.getD_cons_zero,List.getD_cons_succ,and_true,true_and] at F;have F:=ai F (tmC);refine gO3 ?_;exact kM hB (ZaK.2 (by simp [lkS,lkM,gs,gm]))
  ·intro s' m' hB hD hI hJ;have F:=aj3 (Za5.1 hB) (ZaK.1 (hD 2 (by decide) (.inl rfl))) (ZaK.1 (hI 10 (by decide) (by decide)));simp only [lkS,lkM,List.getD_cons_zero,List.getD_cons_succ,and_true,true_and] at F;have F:=ai F (tmC);refine gO3 ?_;exact kM hB (ZaK.2 (by simp [lkS,lkM,gs,gm]))
  ·intro s' m' hB hD hI hJ;have F:=ai (Za5.1 hB) (ZaK.1 (hD 3 (by decide) (.inl rfl)));simp only [lkS,lkM,List.getD_cons_zero,List.getD_cons_succ,and_true,true_and] at F;have F:=ai F (tmC);refine gO3 ?_;exact kS hB (ZaK.2 (by simp [lkS,lkM,gs,gm]))
  intro s' m' hB hP;refine ⟨_,_,(((hB.app (hP 4 (.inl (by decide)) (fun k h=>by simp [List.lookup] at h))).app (hP 5 (.inl (by decide)) (fun k h=>by simp [List.lookup] at h))).app (hP 6 (.inl (by decide)) (fun k h=>by simp [List.lookup] at h))).app (hP 7 (.inl (by decide)) (fun k h=>by simp [List.lookup] at h)),?_⟩;simp only [Taf,Tah,List.append_nil,List.getD_cons_zero,List.getD_cons_succ]
  /- gk end drv -/
  refine ⟨_,Wk.refl _,?_⟩;exact (have F:=aj4 hE hAE @eBP tmC;gTE (R:=Zwv) [] ⟨g,⟨(n:Int),ts⟩,t,ys,hDr,ha,ht,rfl⟩)
end
section
variable {e:Env} {U:Nat->Prop} {base:Nat} {S0:Nat->Prop} {σ:St} {o:Oper} {K:St->Prop}
end
section
variable {e:Env} {K:St->Prop} {ds:List (Option Nat)} {os:List Oper} {d t ty q:Nat} {p:String} {ed:Array Edge} {x lo:Operand} {s:List (Nat × A)} {m:List (Nat × Bk)}
end
section
variable {x:Src}
theorem ZAa (he:(eB x).Ok):Con (eB x) 5 [Zhz x] [.one (.lit (.bool (decide (x.n > 1048576))))]:=by
 have hd:decide ((x.n:Int) > 1048576)=decide (x.n > 1048576):=by rw [decide_eq_decide];omega
 rw [<- hd];refine gI (ts:=[.slot 2]) 5 Tryz.func5 ?_;refine fG @tmB ?_;exact fD @tmB
end
theorem ZiL:∀ (a b:List C),Zal (a++b)=Zal a+Zal b
 | [],b=>by simp [Zal]
 | x::a,b=>by simp only [Taf,Zal,ZiL a b];omega
theorem ZhQ {g:Sgn} {t:Tm} (hg:SgnOk g) (h:TermOk g t):okTm t∧Zal (Zab t)<=1048576∧(ZaB t).length<=60:=by
 have h1:=ZdO h.form;have h2:=h.size;have h3:=Zgu t;have h4:(ZaB t).length<=(Zav t).length:=ZoU _;exact ⟨h.ok hg,om,om⟩
theorem Zww {g:Sgn} {l:List Bd} (hg:SgnOk g) (hl:Zgv g 61 l):ZhF l∧l.length+Zas (ZaA l)<=1048576:=by
 refine ⟨fun y hy=>⟨(hl.2 y hy).vo,(hl.2 y hy).to.ok hg⟩,?_⟩;have hk:∀ l:List Bd,(∀ y∈l,BdDr g y)->Zas (ZaA l)<=l.length * 800:=fun l=>by
  induction l with
  | nil=>intro _;simp [ZaA,Zas]
  | cons y l ih =>
   intro h;have h1:=ih fun z hz=>h z (Tal _ hz);have h2:=h y Tas;have h3:=ZdO h2.to.form;have h4:=h2.to.size;have h5:=h2.vb;have h6:Zal (ZbQ y)=Zal (Zab y.var)+Zal (Zab y.to):=ZiL _ _;simp only [ZaA,Tbt,Zas,Tag] at h1 ⊢;omega
 have h1:=hk l hl.2;have h2:=hl.1;omega
theorem ZAb {g:Sgn} {l:List Bd} {t u:Tm} (h:aS g l t=some u):SgnOk g∧SbsOk g l∧TermOk g t∧apT g l t=some u:=by
 unfold aS at h;split at h
 ·next hc=>exact ⟨Zdm.1 hc.1,ZiH.1 hc.2.1,Zc0.1 hc.2.2,h⟩
 ·cases h
theorem ZAC {g:Sgn} {a:Alg} (h:isOb g a=true):ObOk g a:=by simpa [isOb] using h
theorem ZiM {g:Sgn} {a:Alg} {t:Tm} {xs:List Int} (hA:AlgOk g a) (ht:TermOk g t) (hl:xs.length=(ZaB t).length) (hx:∀ x∈xs,In0 a.size x):Zcv g a t xs=ZaT g a (ZaB t) xs t:=by
 rw [Zcv,if_pos ⟨ZeC hA,ZgE ht,hl,List.all_eq_true.2 fun x h=>decide_eq_true (hx x h)⟩]
section
variable {g:Sgn} {a:Alg} {F:List Tm} {O:List Int} {l:List Bd}
theorem Zwx (hO:ObOk g a) (hv:∀ x∈O,In0 a.size x) {to:Tm} (ht:TermOk g to):Zcv g a to ((ZaB to).map (valV F O))=ZaT g a F O to:=by
 rw [ZiM hO.alg ht (Tax _) fun x hx=>by obtain ⟨w,_,rfl⟩:=Tbh.1 hx;exact Zkd hO.alg.lo hv];exact ZoY _ (Tan _) ht.form fun v hv=>ZfB hv
theorem Zwy (hO:ObOk g a) {t u:Tm} {O:List Int} (hS:SbsOk g l) (ht:TermOk g t) (hu:TermOk g u) (hap:apT g l t=some u) (hl:O.length=(ZaB u).length) (hv:∀ x∈O,In0 a.size x) :
  Zcv g a t ((ZaB t).map fun v=>ZaT g a (ZaB u) O ((ZbB l v).getD v))=Zcv g a u O:=by
 have hg:=hO.alg.sgn;rw [ZiM hO.alg hu hl hv,ZiM hO.alg ht (Tax _)]
 ·exact (ZmP hO hv hS.to' (fun v hv=>Zke hv) _ (Tan _) ht (fun v hv=>ZfB hv) hap).symm
 ·intro x hx;obtain ⟨v,hv',rfl⟩:=Tbh.1 hx;have hvo:=Zgt _ t (Tan _) ht.form v (ZdZ.1 hv');refine ZoX hO.alg hv _ _ (Tan _) ?_;rcases hq:ZbB l v with _ | w
  ·exact (Zo0 hvo).form
  ·exact (Zjc hS.to' hq).form
end
theorem Zo3 {V:List Tm} {h:Tm->Int} {zs:List Int} {v:Tm} (hz:zs=(V.take zs.length).map h) (hv:V[zs.length]?=some v):zs++[h v]=(V.take (zs++[h v]).length).map h:=by
 have e:(zs++[h v]).length=zs.length+1:=by simp
 rw [e,<- Zna hv,<- hz]
theorem Zrz {V:List Tm} {h:Tm->Int} {zs:List Int} (hz:zs=(V.take zs.length).map h) (hl:zs.length=V.length):zs=V.map h:=by rw [hl,Tap] at hz;exact hz
section
variable {x:Src}
theorem Zsx (hx0:x.n<=1048576->x.Ok) (he:(eB x).Ok) (hc:x.n<=x.cap):Con (eB x) 4 [Zhz x] [.one (.lit (.bool true))]:=by
 have cBig:=ZAa he;refine gI (ts:=[.slot 2]) 348621944015688744034507577808988871327517 Tryz.func4 ?_;refine fN 1 @tmB ?_;refine gB ?_;refine fC @tmB (cBig) ?_;by_cases hn:x.n > 1048576
 ·have q1:decide (x.n > 1048576)=true:=decide_eq_true hn;refine fR (ai @q1 @tmB) ?_;exact fD @tmB
 have q1:decide (x.n > 1048576)=false:=decide_eq_false hn;refine fR (ai @q1 @tmB) ?_;have hx:=hx0 om;clear q1 cBig hx0;refine fN 3 @tmB ?_;refine gB ?_;have F:=@tmB;refine gCE (Zo2 hx) ?_;clear F;rintro r ⟨g,⟨z,ts⟩,t0,xs0,hg,ha,ht0,rfl⟩;have hd:=Zja hg;obtain ⟨n,hn⟩:∃ n:Nat,z=(n:Int):=⟨z.toNat,by have:=ha.2.1;dsimp only at this;omega⟩;subst hn;have hE:Zag g=[.sl (g.sorts.names.map Zby),.sl (g.sorts.subs.map ZbM),.sl (g.ops.map ZaU)]:=by rw [Zag]
 have hAE:Zbz ⟨(n:Int),ts⟩=[.lit (.int .i64 (n:Int)),.sl (ts.map ZbX)]:=rfl;have hn1:1<=n∧n<=4:=by have h1:=ha.2.1;have h2:=ha.2.2;dsimp only at h1 h2;omega
 have cOs:=(Zsu (g:=g) hd.ok ha.1).bt hx;have cOi:=(Zsv (g:=g) hd.ok ha.1).bt hx;have cVs:∀ {t:Tm} {xs:List Int},okTm t->Zal (Zab t)<=1048576->xs.length<=1048576->Con (eB x) 20 [.agg (Zag g),.agg (Zbz ⟨(n:Int),ts⟩),.agg (Zab t),.one (.sl (xs.map Zat))] [.one (.lit (.int .i64 (Zcv g ⟨(n:Int),ts⟩ t xs)))]:=fun h1 h2 h3=>(Zlt hd.ok ha.1 h1 h2 h3).bt hx;have cVi:∀ {t:Tm} {xs:List Int},okTm t->Zal (Zab t)<=1048576->xs.length<=1048576->Con (eB x) 21 [.agg (Zag g),.agg (Zbz ⟨(n:Int),ts⟩),.agg (Zab t),.one (.sl (xs.map Zat))] [.one (.lit (.int .i64 (Zcv g ⟨(n:Int),ts⟩ t xs)))]:=fun h1 h2 h3=>(Zlu hd.ok ha.1 h1 h2 h3).bt hx
 have cA:∀ {l:List Bd} {a:Tm},ZhF l->l.length+Zas (ZaA l)<=1048576->okTm a->Zal (Zab a)<=1048576->Con (eB x) 10 [.agg (Zag g),.one (.sl (ZaA l)),.agg (Zab a)] [.agg (Zab ((aS g l a).getD zTm)),.one (.lit (.bool (aS g l a).isSome))]:=fun h1 h2 h3 h4=>(Zm8 hd.ok h1 h2 h3 h4).bt hx;have cV:∀ {t:Tm},okTm t->Zal (Zab t)<=1048576->Con (eB x) 17 [.agg (Zab t)] [.one (.sl (Zaa (ZaB t)))]:=fun h1 h2=>(Zf6 h1 h2).bt hx
 have cS:∀ {p q:Tm},okTm p->okTm q->Con (eB x) 19 [.agg (Zab p),.agg (Zab q)] [.one (.lit (.bool (decide (Zah p q=0))))]:=fun h1 h2=>(ZpQ h1 h2).bt hx;rw [hE,hAE] at cOs cOi;simp only [hE,hAE] at cVs cVi cA;refine fR (aj3 @hE @hAE @tmB) ?_;clear hE hAE;refine fN 4 @tmB ?_;refine gB ?_;have F:=@tmB;refine gCE (ZlR hx) ?_;clear F;rintro r ⟨g3,l,t,hg3,hl,htb,rfl⟩;have hE3:Zag g3=[.sl (g3.sorts.names.map Zby),.sl (g3.sorts.subs.map ZbM),.sl (g3.ops.map ZaU)]:=by rw [Zag]
 obtain ⟨hlo,hlb⟩:=Zww (Zja hg3).sg hl;have hll:=hl.1;refine fR (ai @hE3 @tmB) ?_;clear hE3;refine fN 5 @tmB ?_;refine gB ?_;refine fC @tmB (cA hlo hlb htb.1 (Tbd htb.2 (by decide))) ?_;refine fR @tmB ?_;clear cA;refine fN 6 @tmB ?_;refine gB ?_
 cases hu:aS g l t with
 | none =>
  have z1:(none:Option Tm).isSome=false:=rfl;rw [z1];refine fR @tmB ?_;refine fN 7 @tmB ?_;refine gB ?_
  cases hob:isOb g ⟨(n:Int),ts⟩ with
  | false =>
   rw [hob] at cOi cOs;refine fC @tmB (cOi) ?_;refine fC @tmB (cOs) ?_;refine fR @tmB ?_;exact fD @tmB
  | true =>
   rw [hob] at cOi cOs;refine fC @tmB (cOi) ?_;refine fC @tmB (cOs) ?_;refine fR @tmB ?_;exact fD @tmB
 | some u =>
 have z1:(some u).isSome=true:=rfl;have z2:(some u).getD zTm=u:=rfl;rw [z1,z2];clear z1 z2
 cases hob:isOb g ⟨(n:Int),ts⟩ with
 | false =>
  rw [hob] at cOi cOs;refine fC @tmB (cOs) ?_;refine fR @tmB ?_;refine fN 7 @tmB ?_;refine gB ?_;refine fC @tmB (cOi) ?_;refine fC @tmB (cOs) ?_;refine fR @tmB ?_;exact fD @tmB
 | true =>
 rw [hob] at cOs;refine fC @tmB (cOs) ?_;refine fR @tmB ?_;clear cOs cOi;have hOb:=ZAC hob;obtain ⟨_,hS,ht,hap⟩:=ZAb hu;have huo:=ZAU hu;have fu:=ZhQ hd.sg huo;have ft:=ZhQ hd.sg ht;have hlaw:=fun {O:List Int}=>Zwy (O:=O) hOb hS ht huo hap;have hone:=fun {O:List Int} (hv:∀ x∈O,In0 (n:Int) x) {to:Tm}=>Zwx (F:=ZaB u) (O:=O) (to:=to) hOb hv;have hnd:=ZxP u;have hVv:∀ v∈ZaB t,Zcu g v:=fun v hv=>Zgt _ t (Tan _) ht.form v (ZdZ.1 hv)
 have w5:((n:Int)=0)=False:=eq_false om;clear hob hu hap htb;refine fG @tmB ?_;have F:=@tmB;refine gL (ι:=List Int) [12,13,67] [12] (fun O=>[(13,A.d (.one (.lit (.int .i64 O.length)))),(12,.buf 12)]) (fun O=>[(12,.buf none 3 1 (O.map Zat))]) (fun O=>O.length<=(ZaB u).length∧∀ y∈O,In0 (n:Int) y) (fun O=>(ZaB u).length - O.length) ([]) (⟨Taj _,fun y h=>by cases h⟩) (fun O hO=>?_);clear F;obtain ⟨hOl,hOv⟩:=hO
 have cVu:=cV fu.1 fu.2.1;have hf60:=fu.2.2;by_cases h1:O.length < (ZaB u).length
 ·have q1:=lT O.length ((ZaB u).length);have hm:((O.map Zat).length+1<=maxApp)=True:=eq_true (by rw [Tax];unfold maxApp;omega);have hm2:(O.length+1<=maxApp)=True:=eq_true (by unfold maxApp;omega);have hsn:∀ v:Int,O.map Zat++[[C.lit (.int .i64 v)]]=(O++[v]).map Zat:=fun v=>by rw [Tbu];rfl
  have wi:=Zap (k:=O.length) om;refine fN 10 @tmB ?_;refine gB ?_;refine fC @tmB (cVu) ?_;refine fR (ai @q1 @tmB) ?_;refine fN 12 @tmB ?_;have F:=tmB;refine gN0 8 [0,1,2,4,5] [3,6,7] ?_;clear F;have F:=tmB;refine gNd ?_;clear F;have F:=tmB;refine gNE (ZxQ hx (i:=O.length) om) ?_;clear F;rintro r ⟨k,hk,rfl⟩;have w6:(k:Int).tmod (n:Int)=((k % n:Nat):Int):=rfl;have hkn:k % n < n:=Nat.mod_lt _ om;have F:=aj3 w5 w6 tmB;refine gNr ?_;clear F
  refine fR (aj6 @w5 @w6 @hm @hm2 @hsn @tmB) ?_;generalize k % n=j at hkn;have hl:(O++[(j:Int)]).length=O.length+1:=by simp
  have F:=aj3 @wi @hl @tmB;refine gG ?_;exact ⟨O++[(j:Int)],⟨om,fun y hy=>(Tbg.1 hy).elim (hOv y) fun h=>by rw [Tbi.1 h];exact ⟨om,om⟩⟩,gw,gw,om⟩
 have q1:=lF O.length ((ZaB u).length);have hOl:O.length=(ZaB u).length:=om;refine fN 10 @tmB ?_;refine gB ?_;refine fC @tmB (cVu) ?_;refine fR (ai @q1 @tmB) ?_;clear q1 h1;refine Zb2 (ZcD [12] (by simp only [pz,↓reduceIte,Nat.reduceEqDiff,Nat.reduceAdd,Nat.reduceSub,Nat.reduceMul,Nat.reduceLeDiff,Nat.reduceBEq,Tam,decide_true,decide_false,Int.reduceLE,Int.reduceToNat,Int.reduceLT,Int.reduceEq,eq_self,Nat.reduceShiftRight,Nat.reduceAnd,Nat.reduceBneDiff,tmB];exact rfl)) fun σ' hσ=>?_
 subst hσ;have hlaw:=hlaw hOl hOv;have hone:=fun {to:Tm}=>hone hOv (to:=to);have hFok:=ZfA fu.1;generalize ZaB u=Fr at *;refine fN 13 @tmB ?_;refine gB ?_;refine fC @tmB (cVu) ?_;refine fR @tmB ?_;clear cVu;have cVt:=cV ft.1 ft.2.1;have hv60:=ft.2.2;have hVok:=ZfA ft.1;generalize ZaB t=V at *;refine fN 15 @tmB ?_;refine gB ?_;refine fC @tmB (cVt) ?_;refine fR @tmB ?_;clear cVt;obtain ⟨h,hh⟩:∃ h:Tm->Int,h=fun v=>ZaT g ⟨(n:Int),ts⟩ Fr O ((ZbB l v).getD v):=⟨_,rfl⟩
 rw [<- hh] at hlaw;refine fG @tmB ?_;have F:=@tmB;refine gL (ι:=List Int) [15,17,18,19,20,21,22,23,24,87,97,109,121,127,138] [15] (fun zs=>[(17,A.d (.one (.lit (.int .i64 zs.length)))),(15,.buf 15)]) (fun zs=>[(15,.buf none 3 1 (zs.map Zat))]) (fun zs=>zs.length<=V.length∧zs=(V.take zs.length).map h) (fun zs=>V.length - zs.length) ([]) (⟨Taj _,rfl⟩) (fun zs hzs=>?_);clear F;obtain ⟨hzl,hze⟩:=hzs;by_cases h1:zs.length < V.length
 ·have q1:=lT zs.length V.length;obtain ⟨v,hv⟩:∃ v,V[zs.length]?=some v:=⟨_,Taa h1⟩;have hvm:=Tac hv;have hvo:=hVv v hvm;have hvk:=hVok.mem hvm;have wi:=Zap (k:=zs.length) om;have hk0:lkT l v 0=v:=rfl;have bl:(ZaA l).length=l.length:=Zfy l;refine fN 19 (ai @q1 @tmB) ?_;refine gB ?_;refine fR (aj3 @h1 @hv @tmB) ?_;refine fG @tmB ?_;have F:=ai @hk0 @tmB;refine gL (ι:=Nat) [19,97,109] [18] (fun k=>[(19,A.d (.one (.lit (.int .i64 k))))]) (fun k=>[(18,.var none (Zab (lkT l v k)))]) (fun k=>k<=l.length) (fun k=>l.length - k) (0) (Taj _) (fun k hk=>?_);clear F
  by_cases h2:k < l.length
  ·have q2:=lT k l.length;obtain ⟨y,hy⟩:∃ y,l[k]?=some y:=⟨_,Taa h2⟩;have hym:=Tac hy;have hgy:(ZaA l)[k]?=some (ZbQ y):=by rw [Zfz,hy];rfl
   have bb:=bds8 l;have hyk:=hlo y hym;have wk:=Zap (k:=k) om;refine fN 23 (aj3 @q2 @bl @tmB) ?_;refine gB ?_;refine fC (aj9 @h2 @hgy @bl @bb @ZaS @h1 @hv @bdz @tmB) (cS hyk.1 hvk) ?_;by_cases hq:Zah y.var v=0
   ·have qd:decide (Zah y.var v=0)=true:=decide_eq_true hq;have hst:=Zz8 hS hy hq;refine fR (ai @qd @tmB) ?_;refine fN 24 @tmB ?_;refine gB ?_;refine fR (aj7 @h2 @hgy @bl @bb @ZaS @bdz @tmB) ?_;have F:=aj3 @wk @hst @tmB;refine gG ?_;exact ⟨k+1,om,gw,gw,om⟩
   ·have qd:decide (Zah y.var v=0)=false:=decide_eq_false hq;have hst:=ZAA hy hq;refine fR (ai @qd @tmB) ?_;have F:=aj3 @wk @hst @tmB;refine gG ?_;exact ⟨k+1,om,gw,gw,om⟩
  have q2:=lF k l.length;obtain rfl:k=l.length:=by omega
  have hto:=ZAB (l:=l) (v:=v) hS.to' (Zo0 hvo) l.length;have hhv:h v=ZaT g ⟨(n:Int),ts⟩ Fr O (lkT l v l.length):=by rw [hh,Zz9]
  generalize lkT l v l.length=to at hto hhv ⊢;have fto:=ZhQ hd.sg hto;have cVto:=cV fto.1 fto.2.1;have hW60:=fto.2.2;have hWok:=ZfA fto.1;have hone:=hone hto;rw [<- hhv] at hone;refine fN 26 (aj3 @q2 @bl @tmB) ?_;refine gB ?_;refine fC @tmB (cVto) ?_;refine fR @tmB ?_;clear q2 h2 cVto;generalize ZaB to=W at *;refine fG @tmB ?_;have F:=@tmB;refine gL (ι:=List Int) [20,22,23,24,121,127,138] [20] (fun ws=>[(22,A.d (.one (.lit (.int .i64 ws.length)))),(20,.buf 20)]) (fun ws=>[(20,.buf none 3 1 (ws.map Zat))]) (fun ws=>ws.length<=W.length∧ws=(W.take ws.length).map (valV Fr O)) (fun ws=>W.length - ws.length) ([]) (⟨Taj _,rfl⟩) (fun ws hws=>?_);clear F
  obtain ⟨hwl,hwe⟩:=hws;by_cases h3:ws.length < W.length
  ·have q3:=lT ws.length W.length;obtain ⟨w,hw⟩:∃ w,W[ws.length]?=some w:=⟨_,Taa h3⟩;have hwk:=hWok.mem (Tac hw);have ww:=Zap (k:=ws.length) om;have hv0:valV [] [] w=0:=rfl;refine fG (ai @q3 @tmB) ?_;have F:=ai @hv0 @tmB;refine gL (ι:=Nat) [23,24,127,138] [] (fun j=>[(24,A.d (.one (.lit (.int .i64 j)))),(23,.d (.one (.lit (.int .i64 (valV (Fr.take j) (O.take j) w)))))]) (fun j=>[]) (fun j=>j<=Fr.length) (fun j=>Fr.length - j) (0) (Taj _) (fun j hj=>?_);clear F
   by_cases h4:j < Fr.length
   ·have q4:=lT j Fr.length;obtain ⟨f,hf⟩:∃ f,Fr[j]?=some f:=⟨_,Taa h4⟩;obtain ⟨o,ho⟩:∃ o,O[j]?=some o:=⟨_,Taa om⟩;have hjo:j < O.length:=om;have hfk:=hFok.mem (Tac hf);have wj:=Zap (k:=j) om;have hst:=Zwu (w:=w) hOl hnd hf ho;have ho2:(O.map Zat)[j]?=some [.lit (.int .i64 o)]:=by rw [Taz,ho];rfl
    refine fN 34 (ai @q4 @tmB) ?_;refine gB ?_;refine fC (aj5 @h4 @hf @h3 @hw @tmB) (cS hfk hwk) ?_;by_cases hq:Zah f w=0
    ·have qd:decide (Zah f w=0)=true:=decide_eq_true hq;rw [if_pos hq] at hst;refine fR (ai @qd @tmB) ?_;refine fN 35 @tmB ?_;refine gB ?_;refine fR (aj3 @hjo @ho2 @tmB) ?_;have F:=aj3 @wj @hst @tmB;refine gG ?_;exact ⟨j+1,om,gw,gw,om⟩
    ·have qd:decide (Zah f w=0)=false:=decide_eq_false hq;rw [if_neg hq] at hst;refine fR (ai @qd @tmB) ?_;have F:=aj3 @wj @hst @tmB;refine gG ?_;exact ⟨j+1,om,gw,gw,om⟩
   have q4:=lF j Fr.length;obtain rfl:j=Fr.length:=by omega
   have hva:valV (Fr.take Fr.length) (O.take Fr.length) w=valV Fr O w:=by rw [Tap,<- hOl,Tap]
   rw [hva];have hm:((ws.map Zat).length+1<=maxApp)=True:=eq_true (by rw [Tax];unfold maxApp;omega);have hm2:(ws.length+1<=maxApp)=True:=eq_true (by unfold maxApp;omega);have hsn:∀ v:Int,ws.map Zat++[[C.lit (.int .i64 v)]]=(ws++[v]).map Zat:=fun v=>by rw [Tbu];rfl
   refine fN 36 (ai @q4 @tmB) ?_;refine gB ?_;refine fR (aj4 @hm @hm2 @hsn @tmB) ?_;have hl:(ws++[valV Fr O w]).length=ws.length+1:=by simp
   have F:=aj3 @ww @hl @tmB;refine gG ?_;exact ⟨ws++[valV Fr O w],⟨om,Zo3 hwe hw⟩,gw,gw,om⟩
  have q3:=lF ws.length W.length;have hwa:=Zrz hwe om;rw [<- hwa] at hone;have cVv:=cVs (xs:=ws) fto.1 fto.2.1 om;rw [hone] at cVv;have hm:((zs.map Zat).length+1<=maxApp)=True:=eq_true (by rw [Tax];unfold maxApp;omega);have hm2:(zs.length+1<=maxApp)=True:=eq_true (by unfold maxApp;omega);have hsn:∀ v:Int,zs.map Zat++[[C.lit (.int .i64 v)]]=(zs++[v]).map Zat:=fun v=>by rw [Tbu];rfl
  refine Zb2 (ZcD [20] (by simp only [pz,↓reduceIte,Nat.reduceEqDiff,Nat.reduceAdd,Nat.reduceSub,Nat.reduceMul,Nat.reduceLeDiff,Nat.reduceBEq,Tam,decide_true,decide_false,Int.reduceLE,Int.reduceToNat,Int.reduceLT,Int.reduceEq,eq_self,Nat.reduceShiftRight,Nat.reduceAnd,Nat.reduceBneDiff,tmB];exact rfl)) fun σ' hσ=>?_;subst hσ;refine fN 37 (ai @q3 @tmB) ?_;refine gB ?_;refine fC @tmB (cVv) ?_;refine fR (aj4 @hm @hm2 @hsn @tmB) ?_
  have hl:(zs++[h v]).length=zs.length+1:=by simp
  have F:=aj3 @wi @hl @tmB;refine gG ?_;exact ⟨zs++[h v],⟨om,Zo3 hze hv⟩,gw,gw,om⟩
 have q1:=lF zs.length V.length;have hza:=Zrz hze om;rw [<- hza] at hlaw;have cV1:=cVi (xs:=O) fu.1 fu.2.1 om;have cV2:=cVi (xs:=zs) ft.1 ft.2.1 om;rw [hlaw] at cV2;refine Zb2 (ZcD [15] (by simp only [pz,↓reduceIte,Nat.reduceEqDiff,Nat.reduceAdd,Nat.reduceSub,Nat.reduceMul,Nat.reduceLeDiff,Nat.reduceBEq,Tam,decide_true,decide_false,Int.reduceLE,Int.reduceToNat,Int.reduceLT,Int.reduceEq,eq_self,Nat.reduceShiftRight,Nat.reduceAnd,Nat.reduceBneDiff,tmB];exact rfl)) fun σ' hσ=>?_
 subst hσ;refine fN 38 (ai @q1 @tmB) ?_;refine gB ?_;refine fC @tmB (cV1) ?_;refine fC @tmB (cV2) ?_;refine fR @tmB ?_;exact fD @tmB
end
def Zjg (w:World) (a:Option Addr) (n cap:Nat):Src:=⟨fun b=>(0 < n∧∃ off,a=some ⟨b,off,none⟩)∧¬ e0.E b,fun w'=>∀ b,((0 < n∧∃ off,a=some ⟨b,off,none⟩)∧¬ e0.E b)->w'.heap[b]?=w.heap[b]?,a,n,cap⟩
def ZlW (w:World) (a:Option Addr) (n:Nat):Prop:=0 < n->∃ (g off:Nat) (f:Nat->Nat),a=some ⟨g,off,none⟩∧(∀ j,f j < 256)∧∀ j,j < n->w.cell? ⟨g,off+j,none⟩=some (.int .u8 (f j))
theorem ZmS {w:World} {a:Option Addr} {n cap:Nat}:Fits e0 (Zjg w a n cap).E2 (Zjg w a n cap).G2:=⟨fun w1 w2 _ hE hG b hb=>(hE b hb).trans (hG b hb),fun _ _ b hb=>hb.2⟩
def Zlv (_:World):Prop:=True
theorem Zo4 {w w':World} (h:Zlv w) (h':Zlv w') {b:Nat} (hb:e0.E b):w'.heap[b]?=w.heap[b]?:=(show False from hb).elim
theorem ZAD {w:World} (h:Zlv w):∀ b,e0.E b->b < w.heap.size:=fun b hb=>(show False from hb).elim
theorem ZxS {w:World} (hT:Zlv w) {a:Option Addr} {n cap:Nat} (hb:ZlW w a n) (hn:n<=1048576):(Zjg w a n cap).Ok:=by
 refine ⟨ZmS,fun h0=>?_,hn⟩;have h0':0 < n:=h0;obtain ⟨g,off,f,ha,hf,hc⟩:=hb h0';refine ⟨g,off,f,ha,hf,fun w' hw j hj=>?_⟩;rw [<- hc j hj];refine Zbk ?_ _;by_cases hE:e0.E g
 ·exact Zo4 hT hw.1 hE
 ·exact hw.2 g ⟨⟨h0',off,ha⟩,hE⟩
theorem Zwz {F:FuncId} (hcon:∀ x:Src,(x.n<=1048576->x.Ok)->(eB x).Ok->x.n<=x.cap->Con (eB x) F [Zhz x] [.one (.lit (.bool true))]) (w:World) (hT:Zlv w) (a:Option Addr) (n cap:Nat) (hc:n<=cap) (hb:ZlW w a n) :
  Calls Tryz.prog F #[.slice a n cap] w fun e w'=>e=.returned (.bool true)∧Below w.heap.size w w':=by
 have hcon:=(hcon (Zjg w a n cap) (fun hn=>ZxS hT hb hn) (ZmS.ok ZkC) hc).2 w (fun _=>False) [.slice a n cap] (fun b hb=>hb.elim) (fun b hE=>?_) ⟨hT,fun b _=>rfl⟩ ⟨by simp [DRel,Rep,Zjg],trivial⟩
 ·refine hcon.mono fun e w' ⟨v,h1,h2,h3,h4⟩=>⟨?_,h2.os,h2.tape,h2.output,h2.size,fun k hk=>?_⟩
  ·have h4:v=.bool true:=by simpa [retA,ARel,DRel,Rep] using h4
   rw [h1,h4]
  ·by_cases hE:e0.E k
   ·exact Zo4 hT h3.1 hE
   ·by_cases hE2:(Zjg w a n cap).E2 k
    ·exact h3.2 k hE2
    ·exact h2.block k hk fun q=>q.elim hE hE2
 ·rcases hE with hE | hE
  ·exact ZAD hT b hE
  ·obtain ⟨⟨h0,off,ha⟩,_⟩:=hE;obtain ⟨g,off',f,ha',_,hcell⟩:=hb h0;rw [ha] at ha';injection ha' with ha'
   injection ha' with h1 h2
   subst h1;have:=hcell 0 h0;by_cases hlt:b < w.heap.size
   ·exact hlt
   ·unfold World.cell? at this;rw [show w.heap[b]?=none from Array.getElem?_eq_none om] at this
    cases this
end Go.Proofs.YtmdkimnlbaahbaaGreat
