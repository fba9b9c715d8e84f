/-
  FnExactIsMatch returns true for every signature, two terms and list of bindings, and turns nothing: proved without conditions.
-/
import Derived.Test.YtffmjghcpgpfpaaGreatDoorBBase0
import Derived.Test.YtffmjghcpgpfpaaGreatDoorBBase1
import Derived.Test.YtffmjghcpgpfpaaGreatDoorBBase2
import Derived.Test.YtffmjghcpgpfpaaGreatDoorBBase3
import Derived.Test.YtffmjghcpgpfpaaGreatDoorBBase4
import Derived.Test.YtffmjghcpgpfpaaGreatDoorBIsMatchCard0
import Derived.Test.YtffmjghcpgpfpaaGreatDoorBBaseL0
import Derived.Shelf.SlSortCmp.WholeK
import Derived.Shelf.SlSortCmp.NoneTotal
import Derived.Lib.QuietBelow
import Derived.Shelf.SlLaysF0
import Derived.Test.YtffmjghcpgpfpaaGreatDoorChecked
import Derived.Test.YtffmjghcpgpfpaaGreatDoorTie
import Derived.Test.YtffmjghcpgpfpaaGreatDoorCards
set_option linter.unusedSimpArgs false
set_option linter.unusedVariables false
set_option maxHeartbeats 400000000
namespace Go.Proofs.YtffmjghcpgpfpaaGreatDoor
open Go.RowKit
open Go.Sort (grow HoldsK putRowK flatK SWO PermIn SortedIn Holds mapBlock onCells putRow putCells get_flatK size_flatK)
theorem ZEJ {w w':World} (h:Kept True (fun _=>False) w.heap.size w w'):∃ q os,w'=grow (w.drewN q) os:=by
 obtain ⟨p,hp⟩:=regrown_of_below (w:=w) (w':=w') ⟨h.os,h.tape,h.output,h.size,fun k hk=>h.block k hk id⟩
 have hd:=h.drawn trivial
 have e:p.d=w'.drawn:=by rw [hp];rfl
 refine ⟨w'.drawn - w.drawn,p.os,?_⟩
 have e2:redrawn w p.d=w.drewN (w'.drawn - w.drawn):=by
  unfold redrawn World.drewN
  rw [e,show w.drawn+(w'.drawn - w.drawn)=w'.drawn by omega]
 rw [<- e2]
 exact hp
abbrev SRow (w:World) (S:Nat->Prop) (Q:List C->Prop):={x:List C × List Value // Q x.1∧Zaa w S x.1 x.2}
theorem ZEn {w:World} {S:Nat->Prop} {b k:Nat} {Q:List C->Prop} (hk:∀ r,Q r->r.length=k):∀ (rows:List (List C)) (off:Nat),(∀ r∈rows,Q r)->Zao w S b off rows->∃ l:List (SRow w S Q),l.map (fun x=>x.1.1)=rows∧∀ (i:Nat) x,l[i]?=some x->∀ j u,x.1.2[j]?=some u->w.cell? ⟨b,off+i * k+j,none⟩=some u
 | [],off,_,_=>⟨[],rfl,fun i x h=>by simp at h⟩
 | r::rs,off,hQ,h=>by
  simp only [Zao] at h
  obtain ⟨vs,h1,h2⟩:=h.1.vals
  obtain ⟨l,e,hl⟩:=ZEn hk rs (off+r.length) (fun x hx=>hQ x (List.mem_cons_of_mem _ hx)) h.2
  have hr:=hQ r List.mem_cons_self
  refine ⟨⟨(r,vs),hr,h1⟩::l,by simp [e],fun i x hi j u hj=>?_⟩
  cases i with
  | zero =>
   simp only [List.getElem?_cons_zero,Option.some.injEq] at hi
   subst hi
   have:=h2 j u hj
   rwa [Nat.zero_mul,Nat.add_zero]
  | succ i =>
   have:=hl i x (by simpa using hi) j u hj
   rw [hk r hr] at this
   rwa [show off+(i+1) * k+j=off+k+i * k+j by rw [Nat.succ_mul];omega]
theorem ZD9 {w W:World} {S S2:Nat->Prop} {b k:Nat} {Q:List C->Prop} (hk:∀ r,Q r->r.length=k) (hv:∀ x:SRow w S Q,Zaa W S2 x.1.1 x.1.2):∀ (l:List (SRow w S Q)) (off:Nat),(∀ (i:Nat) x,l[i]?=some x->∀ j u,x.1.2[j]?=some u->W.cell? ⟨b,off+i * k+j,none⟩=some u)->Zao W S2 b off (l.map (fun x=>x.1.1))
 | [],off,_=>by simp [Zao]
 | x::l,off,h=>by
  simp only [List.map_cons,Zao]
  refine ⟨Zaf.of_vals _ _ off (hv x) fun j u hj=>?_,?_⟩
  ·have:=h 0 x rfl j u hj
   rwa [Nat.zero_mul,Nat.add_zero] at this
  ·rw [hk _ x.2.1]
   refine ZD9 hk hv l (off+k) fun i y hi j u hj=>?_
   have:=h (i+1) y (by simpa using hi) j u hj
   rwa [show off+(i+1) * k+j=off+k+i * k+j by rw [Nat.succ_mul];omega] at this
theorem ZEo {α:Type} [Inhabited α] {enc:α->List Value} {k:Nat} {W:World} {b:Nat} {d:Array α} (hk:∀ x,(enc x).length=k) (h:HoldsK enc k W b 0 d) {i:Nat} {x:α} (hi:d.toList[i]?=some x) {j:Nat} {u:Value} (hj:(enc x)[j]?=some u):W.cell? ⟨b,0+i * k+j,none⟩=some u:=by
 have hil:i < d.size:=by have:=(List.getElem?_eq_some_iff.1 hi).1;simpa using this
 have hjl:j < k:=by have:=(List.getElem?_eq_some_iff.1 hj).1;rwa [hk] at this
 have ht:i * k+j < d.size * k:=by
  have:=Nat.mul_le_mul_right k (show i+1<=d.size from hil)
  rw [Nat.succ_mul] at this
  omega
 have h1:=(h (i * k+j) (by rw [size_flatK];exact ht)).1
 rw [get_flatK _ _ _ _ ht,show (i * k+j) / k=i by rw [Nat.add_comm,Nat.add_mul_div_right _ _ om,Nat.div_eq_of_lt hjl,Nat.zero_add],show (i * k+j) % k=j by rw [Nat.add_comm,Nat.add_mul_mod_self_right,Nat.mod_eq_of_lt hjl]] at h1
 have e1:d[i]! = x:=by
  rw [getElem!_pos d i hil]
  have:=(List.getElem?_eq_some_iff.1 hi).2
  simpa using this
 have e2:(enc x)[j]! = u:=by
  rw [getElem!_pos (enc x) j (by rw [hk];exact hjl)]
  exact (List.getElem?_eq_some_iff.1 hj).2
 rw [e1,e2,<- Nat.add_assoc] at h1
 exact h1
theorem ZEK {α:Type} [Inhabited α] {enc:α->List Value} {k:Nat} {w:World} {b:Nat} {l:List α} (hk:∀ x,(enc x).length=k) (hf:∀ o,w.frozen? ⟨b,o,none⟩=false) (h:∀ (i:Nat) x,l[i]?=some x->∀ j u,(enc x)[j]?=some u->w.cell? ⟨b,0+i * k+j,none⟩=some u):HoldsK enc k w b 0 l.toArray:=by
 intro t ht
 refine ⟨?_,hf _⟩
 rw [size_flatK] at ht
 have ht':t < l.length * k:=by simpa using ht
 have k0 : 0 < k := by rcases Nat.eq_zero_or_pos k with e | e; · subst e; simp at ht'
                       ·exact e
 have hi:t / k < l.length:=Nat.div_lt_of_lt_mul (by rw [Nat.mul_comm];exact ht')
 have hj:t % k < k:=Nat.mod_lt _ k0
 rw [get_flatK _ _ _ _ ht]
 have e1:l.toArray[t / k]! = l[t / k]:=by rw [getElem!_pos _ _ (by simpa using hi)];rfl
 rw [e1,getElem!_pos _ _ (by rw [hk];exact hj)]
 have:=h (t / k) l[t / k] (List.getElem?_eq_getElem hi) (t % k) _ (List.getElem?_eq_getElem (by rw [hk];exact hj))
 rwa [show 0+t / k * k+t % k=0+t by have:=Nat.div_add_mod' t k;omega] at this
theorem Zaa.one {w:World} {S:Nat->Prop}:∀ {cs:List C} {us:List Value},cs.all ZaC=true->Zaa w S cs us->∀ v∈us,v.oneCell'=true
 | [],[],_,_,v,h=>by simp at h
 | c::cs,u::us,hc,h,v,hv=>by
  simp only [List.all_cons,Bool.and_eq_true] at hc
  simp only [Zaa] at h
  rcases List.mem_cons.1 hv with rfl | hv
  ·exact ZgQ hc.1 h.1
  ·exact Zaa.one hc.2 h.2 v hv
 | [],_::_,_,h,_,_=>by simp [Zaa] at h
 | _::_,[],_,h,_,_=>by simp [Zaa] at h
theorem ZEV {α:Type} [Inhabited α] {enc:α->List Value} {k:Nat} {w:World} {b n:Nat} {d:Array α} {os:Array Obj} {cur:Array Value} {ty:Nat} (hh:w.heap[b]?=some (.cells cur ty (0,0))):(sortWorldK enc k w b 0 n d os).heap[b]?=some (.cells (putCells id 0 (flatK enc k d) cur) ty (0,0)):=by
 have hb:b < w.heap.size:=(Array.getElem?_eq_some_iff.1 hh).1
 show ((w.heap.modify b (onCells (putCells id 0 (flatK enc k d))))++os)[b]?=_
 rw [Array.getElem?_append_left (by simpa using hb),Array.getElem?_modify,if_pos rfl,hh]
 rfl
theorem ZD7 {α:Type} [Inhabited α] {enc:α->List Value} {k:Nat} {w:World} {b n j:Nat} {d:Array α} {os:Array Obj} (hj:j < w.heap.size) (hne:j≠b):(sortWorldK enc k w b 0 n d os).heap[j]?=w.heap[j]?:=by
 show ((w.heap.modify b (onCells (putCells id 0 (flatK enc k d))))++os)[j]?=_
 rw [Array.getElem?_append_left (by simpa using hj),Array.getElem?_modify,if_neg (fun e=>hne e.symm)]
theorem ZDX {α:Type} [Inhabited α] {enc:α->List Value} {k:Nat} {w:World} {b n:Nat} {d:Array α} {os:Array Obj}:w.heap.size<=(sortWorldK enc k w b 0 n d os).heap.size:=by
 show _<=((w.heap.modify b (onCells (putCells id 0 (flatK enc k d))))++os).size
 simp
theorem ZEL {P:Program} (hP:e1.P=P) {ρ:Go.Shelf.Ren} (L:SlLaysF0.n6 P ρ) {k ty:Nat} (aE:∀ w,(isAgg (ρ.t 24)).run P w=.ok true w) (zE:∀ w,(Go.sizeOf (ρ.t 24)).run P w=.ok k w) (hbody:Zb6 P (ρ.f 6)=true) {g:FuncId} (eg:∀ args w,(callFunc g args).run P w=.ok (.enter g args) w)
  {rows rows':List (List C)} {cf:List C->List C->Int} (hlen:rows.length < 4611686018427387904) (hg:∀ a∈rows,∀ b∈rows,Con e1 g [.agg a,.agg b] [.one (.lit (.int .i64 (cf a b)))])
  (h1:∀ a∈rows,¬ cf a a < 0) (h2:∀ a∈rows,∀ b∈rows,∀ c∈rows,cf a b < 0->cf b c < 0->cf a c < 0) (h3:∀ a∈rows,∀ b∈rows,∀ c∈rows,¬ cf a b < 0->¬ cf b c < 0->¬ cf a c < 0)
  (hu:∀ l:List (List C),l.Perm rows->(∀ (i j:Nat) a b,i < j->l[i]?=some a->l[j]?=some b->¬ cf b a < 0)->l=rows'):ConI e1 (ρ.f 6) ty k rows [.one (.fn g [])] rows' []:=by
 refine ⟨by rw [hP];exact hbody,fun w S v0 vs hS hE hvE hG hbuf hargs=>?_⟩
 rw [hP]
 match vs,hargs with
 | [u],hargs =>
  obtain ⟨⟨us,rfl,hus⟩,_⟩:(∃ us:List Value,u=.func (.func g) #[] us.toArray∧Zaa w S [] us)∧True:=by simpa [ZaG,DRel,Rep] using hargs
  have hus0:us=[]:=by cases us with
   | nil=>rfl
   | cons _ _=>simp [Zaa] at hus
  subst hus0
  obtain ⟨h0,hrl,hcase⟩:=hbuf
  by_cases hne:rows=[]
  ·subst hne
   have hr':rows'=[]:=(hu [] (List.Perm.refl _) (fun i j a b _ h=>by simp at h)).symm
   subst hr'
   have hform:∃ p cap,v0=.slice p 0 cap:=by
    rcases hcase with ⟨_,a,rfl⟩ | ⟨b,cap,cur,rfl,_⟩
    ·exact ⟨a,0,rfl⟩
    ·exact ⟨_,cap,rfl⟩
   obtain ⟨p,cap,hv0⟩:=hform
   rw [hv0]
   refine (AnyF.slices_SortFunc_none (P:=P) L p cap _ w).mono ?_
   rintro e w' ⟨rfl,rfl⟩
   rw [<- hv0]
   have hs:(fun b=>S b∨(w'.heap.size<=b∧b < w'.heap.size))=S:=by
    funext b
    exact propext ⟨fun h=>h.elim id (fun h=>absurd h.2 om),.inl⟩
   refine ⟨_,rfl,Kept.refl ..,hG,?_,[],rfl,trivial⟩
   rw [hs]
   exact ⟨h0,hrl,hcase⟩
  ·rcases hcase with ⟨e,_⟩ | ⟨b,cap,cur,rfl,hc,hbz,hSb,hh,hle,hmx,hcs,hrows⟩
   ·exact absurd e hne
   have hkr:∀ r,r∈rows->r.length=k:=fun r hr=>(hrl r hr).1
   obtain ⟨l,hl,hcell⟩:=ZEn (k:=k) (Q:=fun r=>r∈rows) hkr rows 0 (fun r h=>h) hrows
   have hll:l.length=rows.length:=by have:=congrArg List.length hl;rwa [List.length_map] at this
   obtain ⟨x0,hx0⟩:∃ x,x∈l:=List.exists_mem_of_ne_nil _ (fun e=>hne (List.eq_nil_of_length_eq_zero (by rw [<- hll,e];rfl)))
   letI:Inhabited (SRow w S (fun r=>r∈rows)):=⟨x0⟩
   have hk:∀ x:SRow w S (fun r=>r∈rows),x.1.2.length=k:=fun x=>by rw [x.2.2.len];exact hkr _ x.2.1
   have h1c:∀ x:SRow w S (fun r=>r∈rows),∀ v∈x.1.2,v.oneCell'=true:=fun x=>Zaa.one (hrl _ x.2.1).2 x.2.2
   have hH:HoldsK (fun x:SRow w S (fun r=>r∈rows)=>x.1.2) k w b 0 l.toArray:=ZEK hk (fun o=>frozen_of_row w b o cur ty hh) hcell
   have keepV:∀ (m:Nat) (os:Array Obj) (dk:Array (SRow w S (fun r=>r∈rows))) (S2:Nat->Prop),(∀ b,S b->S2 b)->∀ x:SRow w S (fun r=>r∈rows),Zaa (sortWorldK (fun x:SRow w S (fun r=>r∈rows)=>x.1.2) k w b 0 m dk os) S2 x.1.1 x.1.2:=fun m os dk S2 hS2 x =>
    Zaa.keep2 ZDX (fun b' o hb'=>Zbl (ZD7 (hS b' hb').1 (fun e:b'=b=>hSb (by rw [<- e];exact hb'))) o) hS2 x.2.2
   have hvb:vblk (.slice (some ⟨b,0,none⟩) rows.length cap)=some b:=by simp only [vblk];rw [if_neg om]
   have keepG:∀ (m:Nat) (os:Array Obj) (dk:Array (SRow w S (fun r=>r∈rows))),e1.G (sortWorldK (fun x:SRow w S (fun r=>r∈rows)=>x.1.2) k w b 0 m dk os):=fun m os dk =>
    ZBo.keep w _ ZDX (fun b' hb'=>ZD7 (hE b' hb') (fun e=>hvE b hvb (e ▸ hb'))) hG
   have hcmp:CmpLays P g #[] (fun x:SRow w S (fun r=>r∈rows)=>x.1.2) k (fun x y=>cf x.1.1 y.1.1) b 0 l.toArray.size w:=by
    intro m os dk hdk x y
    have hc:=(hg _ x.2.1 _ y.2.1).2 (sortWorldK (fun x:SRow w S (fun r=>r∈rows)=>x.1.2) k w b 0 m dk os) S [.agg x.1.2.toArray,.agg y.1.2.toArray] (fun b' hb'=>⟨Nat.lt_of_lt_of_le (hS b' hb').1 ZDX,(hS b' hb').2⟩) (fun b' h=>Nat.lt_of_lt_of_le (hE b' h) ZDX) (keepG m os dk)
     ⟨⟨_,rfl,keepV m os dk S (fun _ h=>h) x⟩,⟨_,rfl,keepV m os dk S (fun _ h=>h) y⟩,trivial⟩
    rw [hP] at hc
    refine hc.mono ?_
    rintro e w' ⟨v,rfl,hK,hG',hv⟩
    have hv:v=.int .i64 (cf x.1.1 y.1.1):=by simpa [retA,ARel,DRel,Rep] using hv
    exact ⟨by rw [hv],ZEJ (hK.all1 (keepG m os dk) hG')⟩
   have hO:SWO (ltOf (fun x y:SRow w S (fun r=>r∈rows)=>cf x.1.1 y.1.1)):=by
    refine ⟨fun x=>?_,fun x y z=>?_,fun x y z=>?_⟩ <;> simp only [ltOf,decide_eq_false_iff_not,decide_eq_true_eq]
    ·exact h1 _ x.2.1
    ·exact h2 _ x.2.1 _ y.2.1 _ z.2.1
    ·exact h3 _ x.2.1 _ y.2.1 _ z.2.1
   have hsort:=AnyQ.slices_SortFunc L k aE zE (fun x:SRow w S (fun r=>r∈rows)=>x.1.2) hk h1c (fun x y=>cf x.1.1 y.1.1) hO g #[] b 0 cap l.toArray w eg hcmp hH hbz (by simp only [List.size_toArray];omega)
   have hlz:l.toArray.size=rows.length:=by simpa using hll
   rw [hlz] at hsort
   refine hsort.mono ?_
   rintro e w' ⟨rfl,d',n,os,hp,hs,rfl⟩
   obtain ⟨hp1,_,hp3⟩:=hp
   rw [hlz] at hp1
   have hex:∀ a:Array (SRow w S (fun r=>r∈rows)),a.size=rows.length->a.extract 0 rows.length=a:=fun a ha=>by rw [<- ha];simp
   rw [hex d' hp1,hex _ hlz] at hp3
   have hperm:(d'.toList.map (fun x=>x.1.1)).Perm rows:=by
    have:=hp3.map (fun x:SRow w S (fun r=>r∈rows)=>x.1.1)
    rwa [show l.toArray.toList=l from rfl,hl] at this
   have hrows':d'.toList.map (fun x=>x.1.1)=rows':=hu _ hperm fun i j a c hij ha hc=>by
    simp only [List.getElem?_map,Option.map_eq_some_iff] at ha hc
    obtain ⟨x,hx,rfl⟩:=ha
    obtain ⟨y,hy,rfl⟩:=hc
    have hjl:j < rows.length:=by have:=(List.getElem?_eq_some_iff.1 hy).1;simpa [hp1] using this
    have:=hs i j (Nat.zero_le _) hij hjl
    have ex:d'[i]! = x:=by
     rw [getElem!_pos d' i om]
     have:=(List.getElem?_eq_some_iff.1 hx).2
     simpa using this
    have ey:d'[j]! = y:=by
     rw [getElem!_pos d' j om]
     have:=(List.getElem?_eq_some_iff.1 hy).2
     simpa using this
    rw [ex,ey] at this
    simpa [ltOf] using this
   have hlr:rows'.length=rows.length:=by rw [<- hrows',List.length_map,Array.length_toList,hp1]
   have hW:HoldsK (fun x:SRow w S (fun r=>r∈rows)=>x.1.2) k (sortWorldK (fun x:SRow w S (fun r=>r∈rows)=>x.1.2) k w b 0 n d' os) b 0 d':=SWK.holds (d0:=l.toArray) ⟨n,os,rfl⟩ hbz hH (by rw [hp1,hlz])
   refine ⟨_,rfl,⟨rfl,rfl,rfl,fun _=>Nat.le_add_right _ _,ZDX,fun j hj hn=>ZD7 hj (fun e=>hn (.inr (by rw [hvb,e])))⟩,keepG n os d',⟨h0,fun r hr=>?_,.inr ⟨b,cap,_,by rw [hlr],hc,Nat.lt_of_lt_of_le hbz ZDX,fun hn=>?_,ZEV hh,by omega,hmx,by simp [putCells,hcs],?_⟩⟩,[],rfl,trivial⟩
   ·rw [<- hrows'] at hr
    exact hrl r (hperm.mem_iff.1 hr)
   ·rcases hn with hn | hn
    ·exact hSb hn
    ·omega
   ·rw [<- hrows']
    exact ZD9 (Q:=fun r=>r∈rows) hkr (keepV n os d' _ (fun b hb=>.inl hb)) d'.toList 0 fun i x hi j u hj=>ZEo hk hW hi hj
end Go.Proofs.YtffmjghcpgpfpaaGreatDoor
namespace Go.Proofs.YtffmjghcpgpfpaaGreatDoor
open Go.Shelf
def ZEM:Ren:=⟨fun | 6=>188 | 15=>131 | 14=>234 | 28=>198 | 29=>199 | 20=>250 | 21=>252 | 22=>253 | 23=>254 | 24=>255 | 25=>256 | 26=>257 | 27=>258 | 46=>266 | 47=>236 | 48=>237 | 49=>267 | 50=>268 | 57=>273 | n=>n,fun | 22=>44 | 24=>46 | 25=>119 | 3=>3 | 39=>168 | 0=>0 | 53=>222 | 55=>224 | 4=>4 | 46=>216 | 45=>215 | 50=>205 | 5=>5 | 9=>9 | 66=>251 | 70=>255 | 76=>269 | 77=>270 | n=>n,fun | n=>n⟩
theorem ZE3:Go.Proofs.SlLaysF0.n6 Tryz.prog ZEM:={
 mixed:=by kernel_rfl,
 f6:=⟨Tryz.f188.name,by decide,Tryz.func188.trans (congrArg some (by kernel_rfl))⟩,
 f14:=⟨Tryz.f234.name,by decide,Tryz.func234.trans (congrArg some (by kernel_rfl))⟩,
 f15:=Tryz.func131.trans (congrArg some (by kernel_rfl)),
 f20:=⟨Tryz.f250.name,by decide,Tryz.func250.trans (congrArg some (by kernel_rfl))⟩,
 f21:=⟨Tryz.f252.name,by decide,Tryz.func252.trans (congrArg some (by kernel_rfl))⟩,
 f22:=⟨Tryz.f253.name,by decide,Tryz.func253.trans (congrArg some (by kernel_rfl))⟩,
 f23:=⟨Tryz.f254.name,by decide,Tryz.func254.trans (congrArg some (by kernel_rfl))⟩,
 f24:=⟨Tryz.f255.name,by decide,Tryz.func255.trans (congrArg some (by kernel_rfl))⟩,
 f25:=⟨Tryz.f256.name,by decide,Tryz.func256.trans (congrArg some (by kernel_rfl))⟩,
 f26:=⟨Tryz.f257.name,by decide,Tryz.func257.trans (congrArg some (by kernel_rfl))⟩,
 f27:=⟨Tryz.f258.name,by decide,Tryz.func258.trans (congrArg some (by kernel_rfl))⟩,
 f28:=Tryz.func198.trans (congrArg some (by kernel_rfl)),
 f29:=Tryz.func199.trans (congrArg some (by kernel_rfl)),
 f46:=⟨Tryz.f266.name,by decide,Tryz.func266.trans (congrArg some (by kernel_rfl))⟩,
 f47:=Tryz.func236.trans (congrArg some (by kernel_rfl)),
 f48:=Tryz.func237.trans (congrArg some (by kernel_rfl)),
 f49:=⟨Tryz.f267.name,by decide,Tryz.func267.trans (congrArg some (by kernel_rfl))⟩,
 f50:=⟨Tryz.f268.name,by decide,Tryz.func268.trans (congrArg some (by kernel_rfl))⟩,
 f57:=⟨Tryz.f273.name,by decide,Tryz.func273.trans (congrArg some (by kernel_rfl))⟩,
 t0:=Tryz.underlying0,
 a0:=Tryz.isAgg0,
 z0:=Tryz.sizeOf0,
 v0:=Tryz.zeroValue0,
 t3:=Tryz.underlying3,
 a3:=Tryz.isAgg3,
 z3:=Tryz.sizeOf3,
 v3:=Tryz.zeroValue3,
 t4:=Tryz.underlying4,
 a4:=Tryz.isAgg4,
 z4:=Tryz.sizeOf4,
 v4:=Tryz.zeroValue4,
 t5:=Tryz.underlying5,
 a5:=Tryz.isAgg5,
 z5:=Tryz.sizeOf5,
 v5:=Tryz.zeroValue5,
 t9:=Tryz.underlying9,
 a9:=Tryz.isAgg9,
 z9:=Tryz.sizeOf9,
 v9:=Tryz.zeroValue9,
 t22:=Tryz.underlying44,
 a22:=Tryz.isAgg44,
 z22:=Tryz.sizeOf44,
 v22:=Tryz.zeroValue44,
 t25:=Tryz.underlying119,
 a25:=Tryz.isAgg119,
 z25:=Tryz.sizeOf119,
 v25:=Tryz.zeroValue119,
 t39:=Tryz.underlying168,
 a39:=Tryz.isAgg168,
 z39:=Tryz.sizeOf168,
 v39:=Tryz.zeroValue168,
 t45:=Tryz.underlying215,
 a45:=Tryz.isAgg215,
 z45:=Tryz.sizeOf215,
 v45:=Tryz.zeroValue215,
 t46:=Tryz.underlying216,
 a46:=Tryz.isAgg216,
 z46:=Tryz.sizeOf216,
 v46:=Tryz.zeroValue216,
 t50:=Tryz.underlying205,
 a50:=Tryz.isAgg205,
 z50:=Tryz.sizeOf205,
 v50:=Tryz.zeroValue205,
 t53:=Tryz.underlying222,
 a53:=Tryz.isAgg222,
 z53:=Tryz.sizeOf222,
 v53:=Tryz.zeroValue222,
 t55:=Tryz.underlying224,
 a55:=Tryz.isAgg224,
 z55:=Tryz.sizeOf224,
 v55:=Tryz.zeroValue224,
 t66:=Tryz.underlying251,
 a66:=Tryz.isAgg251,
 z66:=Tryz.sizeOf251,
 v66:=Tryz.zeroValue251,
 t70:=Tryz.underlying255,
 a70:=Tryz.isAgg255,
 z70:=Tryz.sizeOf255,
 v70:=Tryz.zeroValue255,
 t76:=Tryz.underlying269,
 a76:=Tryz.isAgg269,
 z76:=Tryz.sizeOf269,
 v76:=Tryz.zeroValue269,
 t77:=Tryz.underlying270,
 a77:=Tryz.isAgg270,
 z77:=Tryz.sizeOf270,
 v77:=Tryz.zeroValue270 }
end Go.Proofs.YtffmjghcpgpfpaaGreatDoor
namespace Go.Proofs.YtffmjghcpgpfpaaGreatDoor
open Go.RowKit
theorem ZEZ {f:FuncId} {ty sz:Nat} {rows rows':List (List C)} {args r:List D} (h:ConI e1 f ty sz rows args rows' r):ConI e0 f ty sz rows args rows' r :=
 ⟨h.1,fun w S v0 vs h1 h2 h3 h4 h5 h6=>(h.2 w S v0 vs h1 h2 h3 h4 h5 h6).mono fun en w' ⟨v,k1,k2,k3⟩=>⟨v,k1,⟨k2.os,k2.tape,k2.output,fun d=>d.elim,k2.size,k2.block⟩,k3⟩⟩
theorem ZEC (ts:List Tm) (hl:ts.length<=4000000):ConI e0 188 46 4 (Zac ts) [.one (.fn 82 [])] (Zac (Zas ts)) []:=by
 have hrow:∀ a∈Zac ts,a=Zae (unT a):=fun a ha=>by
  rw [ZbC] at ha
  obtain ⟨t,_,rfl⟩:=List.mem_map.1 ha
  rw [ZB5]
 exact ZEZ (ZEL (P:=Tryz.prog) rfl ZE3 (k:=4) (ty:=46) Tryz.isAgg46 Tryz.sizeOf46 (by kernel_rfl) (g:=82) (enters_of Tryz.func82 (by kernel_rfl) rfl) (rows:=Zac ts) (rows':=Zac (Zas ts)) (cf:=fun a b=>Zal (unT a) (unT b)) (by rw [Zad];omega)
  (fun a ha b hb=>by
   have h:=ZfK (unT a) (unT b)
   rwa [<- hrow a ha,<- hrow b hb] at h)
  (fun a _=>by rw [Zeo];omega) (fun a _ b _ c _ h1 h2=>ZgG h1 h2) (fun a _ b _ c _ h1 h2=>by
   rw [Zc6 (unT b) (unT a)] at h1
   rw [Zc6 (unT c) (unT b)] at h2
   rw [Zc6 (unT c) (unT a)]
   have:=ZbV (a:=unT c) (b:=unT b) (c:=unT a) om om
   omega)
  (fun l hp hs=>by
   have hmem:∀ a∈l,a=Zae (unT a):=fun a ha=>hrow a (hp.mem_iff.1 ha)
   have hp2:(l.map unT).Perm ts:=by have:=hp.map unT;rwa [ZDI] at this
   have hup:Up (l.map unT):=by
    refine List.pairwise_iff_getElem.2 fun i j hi hj hij=>?_
    simp only [List.getElem_map]
    simp only [List.length_map] at hi hj
    have:=hs i j l[i] l[j] hij (List.getElem?_eq_getElem hi) (List.getElem?_eq_getElem hj)
    rw [Zc6 (unT l[j]) (unT l[i])]
    omega
   have e:=Zle (Zcg ts) hup ((Zbd ts).trans hp2.symm)
   rw [e,ZbC,List.map_map]
   conv=>lhs;rw [<- List.map_id l]
   exact List.map_congr_left fun a ha=>hmem a ha))
def RCut (a:Option Addr) (cap ty sz:Nat) (rows:List (List C)) (r:List D) (pm:List Bk):Prop:=r=[.one (.lit (.slice a rows.length cap))]∧pm=[.buf (some (a,cap)) ty sz rows]
theorem ZEN {m:List (Nat × Bk)} {a:Option Addr} {n cap:Nat}:lenA m (some true) [nrm m (.d (.one (.lit (.slice a n cap))))]=some (.d (.one (.lit (.int .i64 (n:Int))))):=by
 show lenA m (some true) [ZjP m a n cap (bufK a n cap m)]=_
 cases bufK a n cap m with
 | none=>rfl
 | some k =>
  show lenA m (some true) [nrmB a n cap k (gm m k)]=_
  cases hg:gm m k with
  | none=>rfl
  | some bk =>
   cases bk with
   | var o cs=>rfl
   | set E G=>rfl
   | buf o ty sz rows =>
    cases o with
    | none=>rfl
    | some q =>
     obtain ⟨a',cap'⟩:=q
     simp only [nrmB]
     split
     ·rename_i h
      show lenS (bufA (gm m k))=_
      rw [hg,h.2.1]
      rfl
     ·rfl
theorem ZEO {m:List (Nat × Bk)} {a:Option Addr} {l h cap sz:Nat}:lenA m (some true) [nrm m (.d (.one (.lit (sliced a l h cap sz))))]=some (.d (.one (.lit (.int .i64 ((h - l:Nat):Int))))):=ZEN
theorem ZED (l:List Tm) (k:Nat) (t:Tm):(Zac l).set k (Zae t)=Zac (l.set k t):=by rw [ZbC,ZbC,List.map_set]
theorem ZEP {α:Type} {l:List α} {i:Nat} {x:α} (h:i < l.length):(l.set i x).take (i+1)=l.take i++[x]:=by
 rw [List.take_add_one,List.take_set_of_le (Nat.le_refl _)]
 simp [h]
theorem ZEz {l l':List Tm} {m:Nat} (h:l.drop m=l'.drop m) (i:Nat):l[m+i]?=l'[m+i]?:=by
 rw [<- List.getElem?_drop,<- List.getElem?_drop,h]
theorem ZEW {ts:List Tm} (h:ts.length < 2):ddT none ts=ts:=by
 match ts,h with
 | [],_=>rfl
 | [x],_=>rfl
set_option maxRecDepth 100000 in
theorem ZEp (ts:List Tm) (hl:ts.length<=4000000) (a:Option Addr) (cap:Nat):ConP e0 189 [.one (.lit (.slice a ts.length cap)),.one (.fn 62 [])] [.buf (some (a,cap)) 46 4 (Zac ts)] (RCut a cap 46 4 (Zac (ddT none ts))):=by
 refine gIP (ts:=[.slot 4]) [1000] 562984581629171 Tryz.func189 ?_
 by_cases h2:ts.length < 2
 ·have q1:((ts.length:Int) < 2)=True:=eq_true om
  (have F:=ai @q1 @tmz;refine gG ?_;clear F)
  rw [ZEW h2]
  exact (have F:=Zad;gTP (R:=RCut a cap 46 4 (Zac ts)) [1000] ⟨by rw [Zad],rfl⟩)
 have q1:((ts.length:Int) < 2)=False:=eq_false om
 (have F:=ai @q1 @tmz;refine gG ?_;clear F)
 clear q1
 obtain ⟨t0,ht0⟩:∃ t,ts[0]?=some t:=⟨_,List.getElem?_eq_getElem om⟩
 (have F:=@tmz;refine gL (ι:=Nat) [4,5,6,7,15,28,35,49] [] (fun x=>[(5,.d (.one (.lit (.int .i64 (x:Int)))))]) (fun x=>[]) (fun x=>1<=x∧x<=ts.length∧ddT none (ts.take x)=ts.take x) (fun x=>ts.length - x) (1) (⟨Nat.le_refl _,by omega,by rw [ZDH ht0];cases ts with | nil=>simp at ht0 | cons y ys=>simp at ht0;simp [ht0]⟩) (fun x hx=>?_);clear F)
 obtain ⟨hx1,hxn,hxd⟩:=hx
 by_cases hlt:x < ts.length
 rotate_left
 ·obtain rfl:x=ts.length:=by omega
  have q1:((ts.length:Int) < (ts.length:Int))=False:=eq_false om
  rw [List.take_length] at hxd
  (have F:=ai @q1 @tmz;refine gG ?_;clear F)
  rw [hxd]
  exact (have F:=Zad;gTP (R:=RCut a cap 46 4 (Zac ts)) [1000] ⟨by rw [Zad],rfl⟩)
 obtain ⟨u,hu⟩:∃ t,ts[x]?=some t:=⟨_,List.getElem?_eq_getElem hlt⟩
 obtain ⟨z,rfl⟩:∃ z,x=z+1:=⟨x - 1,by omega⟩
 obtain ⟨v,hv⟩:∃ t,ts[z]?=some t:=⟨_,List.getElem?_eq_getElem om⟩
 have q1:(((z+1:Nat):Int) < (ts.length:Int))=True:=eq_true om
 have w1:IntKind.i64.wrap (((z+1:Nat):Int) - 1)=(z:Int):=ZaP om om om
 have w2:IntKind.i64.wrap (((z+1:Nat):Int)+1)=((z+1+1:Nat):Int):=ZaP om om om
 have hz1:z+1 < ts.length:=hlt
 have hz0:z < ts.length:=by omega
 have hst:=ZDD hu hv
 generalize hxx:z+1=x at *
 rw [show z+2=x+1 by omega] at hst
 (have F:=ai @q1 @tmz;refine gG ?_;clear F)
 refine gB ?_
 (have F:=ai @q1 (ai @tmz (ai @hu (ai @hv (ai @w1 (ai @hz1 (ai @hz0 @Zad))))));refine gC (ZCT u v) ?_;clear F)
 (have F:=ai @q1 @tmz;refine gR ?_;clear F)
 by_cases h0:Zal u v=0
 rotate_left
 ·have q3:decide (Zal u v=0)=false:=decide_eq_false h0
  rw [if_neg h0,hxd] at hst
  (have F:=ai @q3 @w2;refine gG ?_;exact ⟨x+1,⟨by omega,hlt,by rw [hst];simp [List.take_add_one,hu]⟩,gw,gw,by omega⟩)
 have q3:decide (Zal u v=0)=true:=decide_eq_true h0
 rw [if_pos h0,hxd] at hst
 (have F:=ai @q3 @tmz;have NN:Zai 7:=trivial;refine gGn ?_;clear F NN)
 refine gB ?_
 (have F:=ai @q3 @tmz;refine gP 2 ?_;clear F)
 have F:=Zad
 refine gSub 1000 x ts.length ⟨by omega,by rw [Zad];exact Nat.le_refl _⟩ ?_
 clear F
 (have F:=@tmz;refine gR ?_;clear F)
 (have F:=@tmz;refine gG ?_;clear F)
 (have F:=@tmz;refine gL (ι:=Nat × Nat × List Tm) [5,7,35,49] [1000] (fun y=>[(7,.d (.one (.lit (.int .i64 (y.1:Int))))),(5,.d (.one (.lit (.int .i64 (y.2.1:Int)))))]) (fun y=>[(1000,.buf (some (a,cap)) 46 4 (Zac y.2.2))]) (fun y=>1<=y.1∧x+y.1<=ts.length∧y.2.1+1<=x+y.1∧y.2.2.length=ts.length∧y.2.2.take y.2.1=ddT none (ts.take (x+y.1))∧y.2.2.drop (x+y.1 - 1)=ts.drop (x+y.1 - 1)) (fun y=>ts.length - y.1) ((1,x,ts)) (⟨Nat.le_refl _,hlt,Nat.le_refl _,rfl,hst.symm,rfl⟩) (fun y hy=>?_);clear F)
 obtain ⟨j,k,us⟩:=y
 obtain ⟨h1,h2',h3,h4,h5,h6⟩:=hy
 simp only at h1 h2' h3 h4 h5 h6
 dsimp only
 have hn4:ts.length=us.length:=h4.symm
 by_cases hj:j < ts.length - x
 ·obtain ⟨i,rfl⟩:∃ i,j=i+1:=⟨j - 1,by omega⟩
  obtain ⟨u1,hu1⟩:∃ t,ts[x+i+1]?=some t:=⟨_,List.getElem?_eq_getElem om⟩
  obtain ⟨v1,hv1⟩:∃ t,ts[x+i]?=some t:=⟨_,List.getElem?_eq_getElem om⟩
  have e1:us[x+(i+1)]?=some u1:=by
   rw [<- hu1,show x+(i+1) - 1=x+i by omega] at *
   exact ZEz h6 1
  have e2:us[x+i]?=some v1:=by
   rw [<- hv1,show x+(i+1) - 1=x+i by omega] at *
   exact ZEz h6 0
  have q4:(((i+1:Nat):Int) < ((ts.length - x:Nat):Int))=True:=eq_true om
  have w3:IntKind.i64.wrap (((i+1:Nat):Int) - 1)=(i:Int):=ZaP om om om
  have w4:IntKind.i64.wrap (((i+1:Nat):Int)+1)=((i+1+1:Nat):Int):=ZaP om om om
  have hst2:=ZDD hu1 hv1
  rw [show x+i+2=x+(i+1+1) by omega,show x+i+1=x+(i+1) by omega,<- h5] at hst2
  (have F:=ai @q4 (ai @ZEO @tmz);have NN:Zai 11:=trivial;refine gGn ?_;clear F NN)
  refine gB ?_
  (have F:=ai @q4 @tmz;refine gP 3 ?_;clear F)
  have F:=Zad
  refine ZDO (l:=x) (h:=ts.length) (rows:=Zac us) 1000 (i+1) ⟨by omega,by rw [Zad];omega⟩ ?_
  clear F
  (have F:=ai @tmz (ai @e1 @w3);refine gP 4 ?_;clear F)
  have F:=Zad
  refine ZDO (l:=x) (h:=ts.length) (rows:=Zac us) 1000 i ⟨by omega,by rw [Zad];omega⟩ ?_
  clear F
  (have F:=ai @tmz @e2;refine gC (ZCT u1 v1) ?_;clear F)
  (have F:=@tmz;refine gR ?_;clear F)
  by_cases h7:Zal u1 v1=0
  ·have q5:decide (Zal u1 v1=0)=true:=decide_eq_true h7
   rw [if_pos h7] at hst2
   (have F:=ai @q5 @w4;refine gG ?_;exact ⟨(i+1+1,k,us),⟨by dsimp only;omega,by dsimp only;omega,by dsimp only;omega,h4,hst2.symm,by rw [show x+(i+1+1) - 1=x+(i+1) - 1+1 by omega,<- List.drop_drop,<- List.drop_drop,h6]⟩,gw,gw,by omega⟩)
  ·have q5:decide (Zal u1 v1=0)=false:=decide_eq_false h7
   rw [if_neg h7] at hst2
   obtain ⟨ok,hok⟩:∃ t,us[k]?=some t:=⟨_,List.getElem?_eq_getElem om⟩
   have w5:IntKind.i64.wrap ((k:Int)+1)=((k+1:Nat):Int):=ZaP om om om
   have hkl:k < us.length:=by omega
   (have F:=ai @q5 @tmz;have NN:Zai 12:=trivial;refine gGn ?_;clear F NN)
   refine gB ?_
   (have F:=ai @q5 @tmz;refine gP 4 ?_;clear F)
   have F:=Zad
   refine ZDT (l:=x) (h:=ts.length) (rows:=Zac us) 1000 (i+1) ⟨by omega,by rw [Zad];omega⟩ ?_
   clear F
   (have F:=ai @tmz (ai @e1 (ai @hok (ai @hn4 (ai @hkl @ZED))));refine gR ?_;clear F)
   (have F:=ai @w4 (ai @w5 @hn4);refine gG ?_;exact ⟨(i+1+1,k+1,us.set k u1),⟨by dsimp only;omega,by dsimp only;omega,by dsimp only;omega,by rw [List.length_set];exact h4,by rw [hst2,ZEP hkl],by rw [List.drop_set_of_lt om,show x+(i+1+1) - 1=x+(i+1) - 1+1 by omega,<- List.drop_drop,<- List.drop_drop,h6]⟩,gw,gw,by omega⟩)
 ·have q4:((j:Int) < ((ts.length - x:Nat):Int))=False:=eq_false om
  have hjn:x+j=ts.length:=by omega
  rw [hjn,List.take_length] at h5
  have hkl:k < us.length:=by omega
  (have F:=ai @q4 (ai @ZEO @tmz);have NN:Zai 14:=trivial;refine gGn ?_;clear F NN)
  refine gB ?_
  (have F:=ai @q4 @tmz;refine gP 2 ?_;clear F)
  have F:=ai Zad hn4
  refine gSub 1000 k us.length ⟨by omega,by rw [Zad];exact Nat.le_refl _⟩ ?_
  rw [show us.length=(Zac us).length by rw [Zad]]
  refine ZDP 1000 (by rw [Zad];exact hkl) ?_
  clear F
  have hRl:((Zac us).take k++List.replicate ((Zac us).length - k) [C.lit (Value.int IntKind.i64 0),C.lit (Value.string ByteArray.empty),C.lit (Value.int IntKind.i64 0),C.sl []]).length=us.length:=by simp [Zad];omega
  have hRt:((Zac us).take k++List.replicate ((Zac us).length - k) [C.lit (Value.int IntKind.i64 0),C.lit (Value.string ByteArray.empty),C.lit (Value.int IntKind.i64 0),C.sl []]).take k=Zac (ddT none ts):=by
   rw [List.take_append_of_le_length (by simp [Zad];omega),List.take_take,Nat.min_self,Zo8,h5]
  generalize (Zac us).take k++List.replicate ((Zac us).length - k) [C.lit (Value.int IntKind.i64 0),C.lit (Value.string ByteArray.empty),C.lit (Value.int IntKind.i64 0),C.sl []]=R at hRl hRt ⊢
  (have F:=@tmz;refine gR ?_;clear F)
  (have F:=ai @q4 @tmz;have NN:Zai 15:=trivial;refine gGn ?_;clear F NN)
  refine gB ?_
  (have F:=ai @q4 @tmz;refine gP 2 ?_;clear F)
  have F:=ai hRl hn4
  refine gSub 1000 0 k ⟨by omega,by rw [hRl];omega⟩ ?_
  clear F
  rw [Zpb]
  (have F:=@tmz;refine gR ?_;clear F)
  (have F:=@tmz;refine gG ?_;clear F)
  refine pE [1000] [1000] (ZC0 k (by rw [hRl];omega)) ?_
  rw [hRt]
  have hk2:k=(Zac (ddT none ts)).length:=by rw [Zad,<- h5,List.length_take];omega
  exact (have F:=Zad;gTP (R:=RCut a cap 46 4 (Zac (ddT none ts))) [1000] ⟨by rw [<- hk2],rfl⟩)
theorem ZDZ (ts:List Tm):(Zas ts).length=ts.length:=(Zbd ts).length_eq
theorem ZE0 (ts:List Tm):ddT none (Zas ts)=Ze5 ts:=by rw [ZDE (Zcg ts),ZDd (Zbd ts)]
theorem ZEi (ts:List Tm) (hl:ts.length<=4000000) (a:Option Addr) (cap:Nat):ConP e0 128 [.one (.lit (.slice a ts.length cap))] [.buf (some (a,cap)) 46 4 (Zac ts)] (RCut a cap 46 4 (Zac (Ze5 ts))):=by
 have hc:=ZEp (Zas ts) (by rw [ZDZ];exact hl) a cap
 rw [ZDZ,ZE0] at hc
 refine gIP (ts:=[.slot 2]) [1000] 5 Tryz.func128 ?_
 (have F:=@tmz;refine gG ?_;clear F)
 refine gB ?_
 (have F:=@tmz;refine gCI (ZEC ts hl) (by rw [Zad,Zad,ZDZ]) ?_;clear F)
 (have F:=@tmz;refine gR ?_;clear F)
 (have F:=@tmz;refine gG ?_;clear F)
 refine gB ?_
 (have F:=@tmz;refine gCP [1000] [1000] (hc) ?_;clear F)
 rintro r pm ⟨rfl,rfl⟩
 simp only [setA,retA,zipM,List.cons_append,List.nil_append]
 (have F:=@tmz;refine gR ?_;clear F)
 (have F:=@tmz;refine gG ?_;clear F)
 exact (have F:=Zad;gTP (R:=RCut a cap 46 4 (Zac (Ze5 ts))) [1000] ⟨rfl,rfl⟩)
mutual
theorem ZEq:∀ t:Tm,(ZwF t).length<=1+Zak (Zae t)
 | .mk op nm so args=>by
  have:=ZD4 args
  simp only [ZwF,Zae,Zak,ZbY,Zad]
  split
  ·simp
  ·omega
theorem ZD4:∀ ts:List Tm,(ZrB ts).length<=ts.length+Zag (Zac ts)
 | []=>by simp [ZrB]
 | t::ts=>by
  have h1:=ZEq t
  have h2:=ZD4 ts
  simp only [ZrB,Zac,Zag,List.length_append,List.length_cons]
  omega
end
theorem ZEQ {t:Tm} (h:Zak (Zae t)<=1048576):(ZwF t).length<=1048576:=by
 obtain ⟨op,nm,so,args⟩:=t
 have:=ZD4 args
 simp only [ZwF,Zae,Zak,ZbY,Zad] at h ⊢
 split
 ·simp
 ·omega
theorem ZD5:∀ (l:List Tm) (t:Tm),ZrB (l++[t])=ZrB l++ZwF t
 | [],t=>by simp [ZrB]
 | x::xs,t=>by simp [ZrB,ZD5 xs t]
theorem ZDY {l:List Tm} {i:Nat} {t:Tm} (h:l[i]?=some t):ZrB (l.take (i+1))=ZrB (l.take i)++ZwF t:=by
 rw [show l.take (i+1)=l.take i++[t] by simp [List.take_add_one,h],ZD5]
theorem ZD0:∀ (l:List Tm) (i:Nat),(ZrB (l.take i)).length<=(ZrB l).length
 | [],i=>by simp [ZrB]
 | x::xs,0=>by simp [ZrB]
 | x::xs,i+1=>by have:=ZD0 xs i;simp only [List.take_succ_cons,ZrB,List.length_append];omega
def visL (ts args:List Tm) (i:Nat):List Tm:=ts++ZrB (args.take i)
theorem ZE1 (ts args:List Tm):visL ts args 0=ts:=by simp [visL,ZrB]
theorem ZER {ts args:List Tm} {i:Nat} {b:Tm} (h:args[i]?=some b):visL ts args (i+1)=visL ts args i++ZwF b:=by
 unfold visL
 rw [ZDY h,List.append_assoc]
theorem ZEX (ts args:List Tm):visL ts args args.length=ts++ZrB args:=by unfold visL;rw [List.take_length]
theorem ktF:ZaD Tryz.prog 164=some .one:=by kernel_rfl
theorem ztF:ZaF Tryz.prog 164=some 1:=by kernel_rfl
theorem otF:Zaz Tryz.prog 164=some [.lit .nilFunc]:=by kernel_rfl
theorem ZE2:ZaC (.lit .nilFunc)=true:=rfl
theorem okFn {f:FuncId} {cs:List C}:ZaC (.fn f cs)=true:=rfl
theorem ZD6:Zac []=[]:=by simp [Zac]
theorem gTPn {X:Prop} {P:Program} {ts:List RS} {R:List D->List Bk->Prop} {σ:St} {r:List D} {pm:List Bk} (ks:List Nat) (hR:R r pm) (hx:ZjZ P ts R .normal σ->X:=by first | exact fun h=>h | exact fun h=>⟨_,Wk.refl _,h⟩) (hr:resD P σ ts=some r:=by exact sfy) (hg:getM σ.m ks=some pm:=by exact sny) (hn:ks.Nodup:=by decide) (hp:pm.all pinned=true:=by simp only [pz,↓reduceIte,Nat.reduceEqDiff,Nat.reduceAdd,Nat.reduceSub,Nat.reduceMul,Nat.reduceLeDiff,Nat.reduceBEq,Bool.false_eq_true,decide_true,decide_false,Int.reduceLE,Int.reduceToNat,Int.reduceLT,Int.reduceEq,eq_self,Nat.reduceShiftRight,Nat.reduceAnd,Nat.reduceBneDiff]):X :=
 hx ⟨r,ks,pm,hg,hn,hp,hR,ZfH hr⟩
def ptr0 (b:Nat):Value:=.pointer (some ⟨b,0,none⟩)
def RVis (bo bv:Nat) (f:FuncId) (ty:Nat) (ts:List Tm) (r:List D) (pm:List Bk):Prop:=∃ a cap,r=[]∧pm=[.var (some bo) [.lit (.slice a ts.length cap)],.buf (some (a,cap)) ty 4 (Zac ts),.var (some bv) [.fn f [.lit (ptr0 bo),.lit (ptr0 bv)]]]
set_option maxRecDepth 100000 in
theorem ZEj (t:Tm) (ts:List Tm) (a:Option Addr) (cap bo bv:Nat) (hne:bo≠bv) (hb:Zak (Zae t)<=1048576) (hl:ts.length+(ZwF t).length<=4000000)
  (h:∀ x∈t.args,∀ (us:List Tm) (a:Option Addr) (cap:Nat),us.length+(ZwF x).length<=4000000->ConP e0 127 [.agg (Zae x),.one (.lit (ptr0 bo)),.one (.lit (ptr0 bv))] [.var (some bo) [.lit (.slice a us.length cap)],.buf (some (a,cap)) 46 4 (Zac us),.var (some bv) [.fn 127 [.lit (ptr0 bo),.lit (ptr0 bv)]]] (RVis bo bv 127 46 (us++ZwF x))) :
  ConP e0 127 [.agg (Zae t),.one (.lit (ptr0 bo)),.one (.lit (ptr0 bv))] [.var (some bo) [.lit (.slice a ts.length cap)],.buf (some (a,cap)) 46 4 (Zac ts),.var (some bv) [.fn 127 [.lit (ptr0 bo),.lit (ptr0 bv)]]] (RVis bo bv 127 46 (ts++ZwF t)):=by
 obtain ⟨op,nm,so,args⟩:=t
 have hc:Zae (.mk op nm so args)=[.lit (.int .i64 op),.lit (.string nm),.lit (.int .i64 so),.sl (Zac args)]:=by simp only [Zae]
 have hn1:(bo=bv)=False:=eq_false hne
 have hn2:(bv=bo)=False:=eq_false (fun e=>hne e.symm)
 simp only [Tm.args] at h
 simp only [Zae,Zak,ZbY,Zad] at hb
 simp only [ptr0] at h ⊢
 refine gIP (ts:=[]) [1001,1000,1002] 15728943 Tryz.func127 ?_
 by_cases ho:op=-1
 ·have q1:(op=-1)=True:=eq_true ho
  have e1:ZwF (.mk op nm so args)=[.mk (-1) nm so []]:=by simp only [ZwF,if_pos ho]
  rw [e1] at hl ⊢
  simp only [List.length_cons,List.length_nil,Nat.zero_add] at hl
  have hm:ts.length+1<=maxApp:=by unfold maxApp;omega
  have c1:Zae (.mk (-1) nm so [])=[.lit (.int .i64 (-1)),.lit (.string nm),.lit (.int .i64 so),.sl []]:=by simp only [Zae,Zac]
  (have F:=ai @hc (ai @q1 @tmz);have NN:Zai 2:=trivial;refine gGn ?_;clear F NN)
  have hR:∀ (a2:Option Addr) (cap2:Nat),RVis bo bv 127 46 (ts++[.mk (-1) nm so []]) [] [.var (some bo) [.lit (.slice a2 (ts.length+1) cap2)],.buf (some (a2,cap2)) 46 4 (Zac ts++[[.lit (.int .i64 (-1)),.lit (.string nm),.lit (.int .i64 so),.sl []]]),.var (some bv) [.fn 127 [.lit (.pointer (some ⟨bo,0,none⟩)),.lit (.pointer (some ⟨bv,0,none⟩))]]]:=fun a2 cap2=>⟨a2,cap2,rfl,by
   rw [show Zac (ts++[.mk (-1) nm so []])=Zac ts++[[.lit (.int .i64 (-1)),.lit (.string nm),.lit (.int .i64 so),.sl []]] by rw [ZbC,List.map_append,<- ZbC,List.map_cons,List.map_nil,c1],List.length_append]
   rfl⟩
  have a1:(ts.length < ts.length+1)=True:=eq_true (Nat.lt_succ_self _)
  have a2:∀ Z:List C,(Zac ts++[Z])[ts.length]?=some Z:=fun Z=>by rw [List.getElem?_append_right (by rw [Zad];exact Nat.le_refl _),Zad,Nat.sub_self];rfl
  have a3:∀ Z X:List C,(Zac ts++[Z]).set ts.length X=Zac ts++[X]:=fun Z X=>by rw [List.set_append_right _ _ (by rw [Zad];exact Nat.le_refl _),Zad,Nat.sub_self];rfl
  have F:=ai a1 (ai a2 (ai a3 (ai hc (ai q1 (ai @ZEN (ai hm (ai hn1 (ai hn2 tmz))))))))
  refine ZDS 8 ?_
  refine gT1 8 ?_
  refine gS 17 fun a2 cap2=>?_
  refine Zd7 ?_
  refine gT2 9 11 ?_ ?_
  ·refine Zd7 ?_
   refine gT2 10 11 ?_ ?_
   ·refine Zd7 ?_
    refine gT1 11 ?_
    refine Zd7 ?_
    refine gT0 ?_
    (refine wkI ?_;(have F:=@tmz;refine gG ?_;clear F);exact (have F:=tmz;gTP [1001,17,1002] (hR a2 cap2)))
   ·refine Zd7 ?_
    refine gT1 10 ?_
    refine Zd7 ?_
    refine gT0 ?_
    (refine wkI ?_;(have F:=@tmz;refine gG ?_;clear F);exact (have F:=tmz;gTP [1001,17,1002] (hR a2 cap2)))
  ·refine Zd7 ?_
   refine gT1 9 ?_
   refine Zd7 ?_
   refine gT1 10 ?_
   refine Zd7 ?_
   refine gT0 ?_
   (refine wkI ?_;(have F:=@tmz;refine gG ?_;clear F);exact (have F:=tmz;gTP [1001,17,1002] (hR a2 cap2)))
 ·have q1:(op=-1)=False:=eq_false ho
  have e1:ZwF (.mk op nm so args)=ZrB args:=by simp only [ZwF,if_neg ho]
  rw [e1] at hl ⊢
  have hal:args.length<=1048576:=by omega
  (have F:=ai @hc (ai @q1 @tmz);refine gG ?_;clear F)
  (have F:=@ZE1;refine gL (ι:=Nat × Option Addr × Nat) [5,22,23] [1000,1001,1002] (fun x=>[(22,.d (.one (.lit (.int .i64 (x.1:Int)))))]) (fun x=>[(1001,.var (some bo) [.lit (.slice x.2.1 (visL ts args x.1).length x.2.2)]),(1000,.buf (some (x.2.1,x.2.2)) 46 4 (Zac (visL ts args x.1))),(1002,.var (some bv) [.fn 127 [.lit (.pointer (some ⟨bo,0,none⟩)),.lit (.pointer (some ⟨bv,0,none⟩))]])]) (fun x=>x.1<=args.length) (fun x=>args.length - x.1) ((0,a,cap)) (Nat.zero_le _) (fun x hx=>?_);clear F)
  obtain ⟨i,a2,cap2⟩:=x
  simp only at hx
  dsimp only
  by_cases hlt:i < args.length
  ·obtain ⟨b,hg⟩:∃ b,args[i]?=some b:=⟨_,List.getElem?_eq_getElem hlt⟩
   have q2:((i:Int) < (args.length:Int))=True:=eq_true om
   have q4:IntKind.i64.wrap ((i:Int)+1)=(i:Int)+1:=IntWalk.i64_in _ om
   have hvt:=ZDY hg
   have hle:=ZD0 args (i+1)
   rw [hvt,List.length_append] at hle
   have hcon:=h b (List.mem_of_getElem? hg) (visL ts args i) a2 cap2 (by unfold visL;rw [List.length_append];omega)
   rw [<- ZER hg] at hcon
   (have F:=ai @q2 (ai @hc (ai @Zad (ai @ZbF (ai @hg @tmz))));refine gG ?_;clear F)
   refine gB ?_
   (have F:=ai @ktF (ai @hn1 (ai @hn2 @tmz));refine gCP [1001,1000,1002] [1001,1000,1002] (hcon) ?_;clear F)
   rintro r pm ⟨a3,cap3,rfl,rfl⟩
   simp only [ptr0,setA,retA,zipM,List.cons_append,List.nil_append]
   (have F:=@tmz;refine gR ?_;clear F)
   (have F:=@q4;refine gG ?_;exact ⟨(i+1,a3,cap3),hlt,gw,gw,by omega⟩)
  ·obtain rfl:i=args.length:=by omega
   have q2:((args.length:Int) < (args.length:Int))=False:=eq_false om
   (have F:=@q2;refine gG ?_;clear F)
   have hR:RVis bo bv 127 46 (ts++ZrB args) [] [.var (some bo) [.lit (.slice a2 (visL ts args args.length).length cap2)],.buf (some (a2,cap2)) 46 4 (Zac (visL ts args args.length)),.var (some bv) [.fn 127 [.lit (.pointer (some ⟨bo,0,none⟩)),.lit (.pointer (some ⟨bv,0,none⟩))]]]:=by
    rw [<- ZEX]
    exact ⟨a2,cap2,rfl,rfl⟩
   exact (have F:=tmz;gTPn [1001,1000,1002] hR)
theorem ZEr (bo bv:Nat) (hne:bo≠bv) (n:Nat):∀ (t:Tm),ZbD (Zae t) < n->Zak (Zae t)<=1048576->∀ (ts:List Tm) (a:Option Addr) (cap:Nat),ts.length+(ZwF t).length<=4000000->ConP e0 127 [.agg (Zae t),.one (.lit (ptr0 bo)),.one (.lit (ptr0 bv))] [.var (some bo) [.lit (.slice a ts.length cap)],.buf (some (a,cap)) 46 4 (Zac ts),.var (some bv) [.fn 127 [.lit (ptr0 bo),.lit (ptr0 bv)]]] (RVis bo bv 127 46 (ts++ZwF t)):=by
 induction n with
 | zero=>exact fun _ h=>by omega
 | succ n ih =>
  intro t hn hb ts a cap hl
  refine ZEj t ts a cap bo bv hne hb hl fun x hx us a cap hl2=>ih x ?_ ?_ us a cap hl2
  ·obtain ⟨op,nm,so,args⟩:=t
   simp only [Zae,ZbD,ZeV] at hn
   simp only [Tm.args] at hx
   obtain ⟨i,hi⟩:=List.getElem?_of_mem hx
   have hi':(Zac args)[i]?=some (Zae x):=by rw [ZbF,hi];rfl
   have h1:=Zdt hi'
   omega
  ·obtain ⟨op,nm,so,args⟩:=t
   simp only [Zae,Zak,ZbY] at hb
   simp only [Tm.args] at hx
   obtain ⟨i,hi⟩:=List.getElem?_of_mem hx
   have hi':(Zac args)[i]?=some (Zae x):=by rw [ZbF,hi];rfl
   have h1:=Zc7 hi'
   omega
set_option maxRecDepth 100000 in
theorem ZEs (t:Tm) (hb:Zak (Zae t)<=1048576):Con e0 74 [.agg (Zae t)] [.one (.sl (Zac (ZDN t)))]:=by
 have hv:=ZEQ hb
 refine gI (ts:=[.slot 2]) 31 Tryz.func74 ?_
 (have F:=@tmz;have NN:Zai 1:=trivial;refine gGn ?_;clear F NN)
 refine gB ?_
 (have F:=@tmz;refine gP 1 ?_;clear F)
 refine gO 5 46 4 ?_
 refine gS 5 fun a cap=>?_
 (have F:=@tmz;refine gR ?_;clear F)
 (have F:=ai @otF (ai @ztF @tmz);have NN:Zai 3:=trivial;refine gGn ?_;clear F NN)
 refine pV 3 fun b3 hb3=>?_
 refine pV 4 fun b4 hb4=>?_
 have hne:b3≠b4:=fun e=>hb4 3 b3 _ (by decide) rfl e.symm
 clear hb3 hb4
 have hn1:(b3=b4)=False:=eq_false hne
 have hn2:(b4=b3)=False:=eq_false (fun e=>hne e.symm)
 (have F:=ai @ktF (ai @ztF (ai @ZE2 (ai @okFn (ai @hn1 (ai @hn2 @tmz)))));have NN:Zai 4:=trivial;refine gGn ?_;clear F NN)
 refine gB ?_
 have hcon:=ZEr b3 b4 hne _ t (Nat.lt_succ_self _) om [] a cap (by simp;omega)
 have hdis:=fun (a:Option Addr) (cap:Nat)=>ZEi (ZwF t) om a cap
 simp only [ptr0,List.length_nil,List.nil_append,ZD6] at hcon
 (have F:=ai @ktF (ai @hn1 (ai @hn2 @tmz));refine gCP [3,5,4] [3,5,4] (hcon) ?_;clear F)
 rintro r pm ⟨a2,cap2,rfl,rfl⟩
 simp only [ptr0,setA,retA,zipM,List.cons_append,List.nil_append]
 (have F:=@tmz;refine gR ?_;clear F)
 (have F:=@tmz;refine gG ?_;clear F)
 refine gB ?_
 (have F:=ai @hn1 (ai @hn2 @tmz);refine gCP [5] [5] (hdis a2 cap2) ?_;clear F)
 rintro r pm ⟨rfl,rfl⟩
 simp only [setA,retA,zipM,List.cons_append,List.nil_append]
 (have F:=@tmz;refine gR ?_;clear F)
 refine pD 5 [2] [] ?_ (hs:=by exact snv)
 (have F:=@tmz;refine gG ?_;exact gTd)
theorem ZES (nm:ByteArray) (so:Int):Con e0 142 [.one (.lit (.string nm)),.one (.lit (.int .i64 so))] [.agg (Zae (.mk (-1) nm so []))]:=by
 have c1:Zae (.mk (-1) nm so [])=[.lit (.int .i64 (-1)),.lit (.string nm),.lit (.int .i64 so),.sl []]:=by simp only [Zae,Zac]
 rw [c1]
 refine gI (ts:=[.cell 4 46]) 19 Tryz.func142 ?_
 (have F:=@e0P;refine gG ?_;exact gTd)
theorem ZEE {t x:Tm} {ts:List Tm} {i:Nat} (hx:ts[i]?=some x) (h:Zep t ts=ts.take i++Zep t (ts.drop i)) (hc:Zal x t < 0):Zep t ts=ts.take (i+1)++Zep t (ts.drop (i+1)):=by
 obtain ⟨hl,e⟩:=List.getElem?_eq_some_iff.1 hx
 rw [h,List.drop_eq_getElem_cons hl,e,Zep,if_pos hc]
 simp [List.take_add_one,hx]
theorem ZEF {t x:Tm} {ts:List Tm} {i:Nat} (hx:ts[i]?=some x) (h:Zep t ts=ts.take i++Zep t (ts.drop i)) (hc:Zal x t=0):Zep t ts=ts:=by
 obtain ⟨hl,e⟩:=List.getElem?_eq_some_iff.1 hx
 rw [h,List.drop_eq_getElem_cons hl,e,Zep,if_neg om,if_pos hc,<- e,<- List.drop_eq_getElem_cons hl,List.take_append_drop]
theorem ZEG {t x:Tm} {ts:List Tm} {i:Nat} (hx:ts[i]?=some x) (h:Zep t ts=ts.take i++Zep t (ts.drop i)) (h1:¬ Zal x t < 0) (h2:¬ Zal x t=0):Zep t ts=ts.take i++[t]++ts.drop i:=by
 obtain ⟨hl,e⟩:=List.getElem?_eq_some_iff.1 hx
 rw [h,List.drop_eq_getElem_cons hl,e,Zep,if_neg h1,if_neg h2]
 simp
theorem ZET {t:Tm} {ts:List Tm} {i:Nat} (hi:ts.length<=i) (h:Zep t ts=ts.take i++Zep t (ts.drop i)):Zep t ts=ts.take i++[t]++ts.drop i:=by
 rw [h,List.drop_eq_nil_of_le hi,Zep]
 simp
set_option maxRecDepth 100000 in
theorem ZEt (ts:List Tm) (t:Tm) (hts:Zbo ts) (ht:okTm t) (hl:ts.length<=8000000):Con e0 187 [.one (.sl (Zac ts)),.agg (Zae t)] [.one (.sl (Zac (Zep t ts)))]:=by
 refine gI (ts:=[.slot 4]) 8590459003 Tryz.func187 ?_
 (have F:=@tmz;refine gG ?_;clear F)
 (have F:=@tmz;refine gL (ι:=Nat) [5,19] [] (fun x=>[(5,.d (.one (.lit (.int .i64 (x:Int)))))]) (fun x=>[]) (fun x=>x<=ts.length∧Zep t ts=ts.take x++Zep t (ts.drop x)) (fun x=>ts.length - x) (0) (⟨Nat.zero_le _,rfl⟩) (fun x hx=>?_);clear F)
 obtain ⟨hi,hf⟩:=hx
 by_cases hlt:x < ts.length
 ·obtain ⟨a,ha⟩:∃ n,ts[x]?=some n:=⟨_,List.getElem?_eq_getElem hlt⟩
  have q1:((x:Int) < (ts.length:Int))=True:=eq_true om
  have q4:IntKind.i64.wrap ((x:Int)+1)=(x:Int)+1:=IntWalk.i64_in _ om
  have hcmp:=ZeN (hts.mem (List.mem_of_getElem? ha)) ht
  (have F:=ai @q1 @tmz;refine gG ?_;clear F)
  refine gB ?_
  (have F:=ai @q1 (ai @tmz @ha);refine gC (hcmp) ?_;clear F)
  by_cases hc:Zal a t < 0
  ·have q2:(Zal a t < 0)=True:=eq_true hc
   (have F:=ai @q1 (ai @q2 @tmz);refine gR ?_;clear F)
   have hs:=ZEE ha hf hc
   (have F:=ai @q4 @q2;refine gG ?_;exact ⟨x+1,⟨hlt,hs⟩,gw,gw,by omega⟩)
  ·have q2:(Zal a t < 0)=False:=eq_false hc
   (have F:=ai @q1 (ai @q2 @tmz);refine gR ?_;clear F)
   (have F:=ai @q1 (ai @q2 @tmz);refine gG ?_;clear F)
   refine gB ?_
   (have F:=ai @q1 (ai @tmz @ha);refine gC (Zhd (hts.mem (List.mem_of_getElem? ha)) ht) ?_;clear F)
   by_cases h0:Zal a t=0
   ·have q3:decide (Zal a t=0)=true:=decide_eq_true h0
    (have F:=ai @q1 (ai @q3 @tmz);refine gR ?_;clear F)
    rw [ZEF ha hf h0]
    (have F:=ai @q3 @tmz;refine gG ?_;exact gTd)
   ·have q3:decide (Zal a t=0)=false:=decide_eq_false h0
    (have F:=ai @q1 (ai @q3 @tmz);refine gR ?_;clear F)
    have hins:=ZEG ha hf hc h0
    (have F:=ai @q3 @tmz;have NN:Zai 6:=trivial;refine gGn ?_;clear F NN)
    rw [hins,ZdO,ZdO,ZkE,<- Zo8,<- Zo9]
    have hxl:((x:Int)<=(ts.length:Int))=True:=eq_true om
    have r1:ZaV 4 ((Zac ts).take x)=true:=by rw [Zo8];exact Zfm _
    have r2:ZaV 4 ((Zac ts).drop x)=true:=by rw [Zo9];exact Zfm _
    have n1:((Zac ts).take x).length<=8000000:=by rw [List.length_take,Zad];omega
    have n2:((Zac ts).drop x).length<=8000000:=by rw [List.length_drop,Zad];omega
    have n3:((Zac ts).take x).length+1<=maxApp:=by unfold maxApp;omega
    have n4:((Zac ts).take x).length+1+((Zac ts).drop x).length<=maxApp:=by unfold maxApp;omega
    have F:=ai r1 (ai r2 (ai hxl (ai n3 (ai n4 tmz))))
    refine gA 7 4 ?_ (.inl rfl) ?_
    ·show 0+_<=maxApp
     unfold maxApp;omega
    clear F
    (have F:=ai @r1 (ai @r2 (ai @hxl (ai @n3 (ai @n4 @tmz))));refine gR ?_;clear F)
    have tkA:(Zac ts).take ts.length=Zac ts:=by rw [<- Zad ts,List.take_length]
    have n5:((Zac ts).take x++[Zae t]).length+((Zac ts).drop x).length<=maxApp:=by simp only [List.length_append,List.length_cons,List.length_nil];omega
    have hll:((ts.length:Int)<=(ts.length:Int))=True:=eq_true (Int.le_refl _)
    (have F:=ai @r1 (ai @r2 (ai @hxl (ai @n3 (ai @n4 (ai @n5 (ai @hll (ai @tkA @tmz)))))));refine gG ?_;exact gTz [4])
 ·have q1:((x:Int) < (ts.length:Int))=False:=eq_false om
  have hins:=ZET om hf
  (have F:=ai @q1 @tmz;have NN:Zai 6:=trivial;refine gGn ?_;clear F NN)
  rw [hins,ZdO,ZdO,ZkE,<- Zo8,<- Zo9]
  have hxl:((x:Int)<=(ts.length:Int))=True:=eq_true om
  have r1:ZaV 4 ((Zac ts).take x)=true:=by rw [Zo8];exact Zfm _
  have r2:ZaV 4 ((Zac ts).drop x)=true:=by rw [Zo9];exact Zfm _
  have n1:((Zac ts).take x).length<=8000000:=by rw [List.length_take,Zad];omega
  have n2:((Zac ts).drop x).length<=8000000:=by rw [List.length_drop,Zad];omega
  have n3:((Zac ts).take x).length+1<=maxApp:=by unfold maxApp;omega
  have n4:((Zac ts).take x).length+1+((Zac ts).drop x).length<=maxApp:=by unfold maxApp;omega
  have F:=ai r1 (ai r2 (ai hxl (ai n3 (ai n4 tmz))))
  refine gA 7 4 ?_ (.inl rfl) ?_
  ·show 0+_<=maxApp
   unfold maxApp;omega
  clear F
  (have F:=ai @r1 (ai @r2 (ai @hxl (ai @n3 (ai @n4 @tmz))));refine gR ?_;clear F)
  have tkA:(Zac ts).take ts.length=Zac ts:=by rw [<- Zad ts,List.take_length]
  have n5:((Zac ts).take x++[Zae t]).length+((Zac ts).drop x).length<=maxApp:=by simp only [List.length_append,List.length_cons,List.length_nil];omega
  have hll:((ts.length:Int)<=(ts.length:Int))=True:=eq_true (Int.le_refl _)
  (have F:=ai @r1 (ai @r2 (ai @hxl (ai @n3 (ai @n4 (ai @n5 (ai @hll (ai @tkA @tmz)))))));refine gG ?_;exact gTz [4])
theorem ZEU {e:Env} {f:FuncId} {a:D} {rows:List (List C)} {r:List D} (h:Con e f [a,.one (.sl rows)] r):Con e f [a,.clip rows] r :=
 ⟨h.1,fun w S vs h1 h2 h3 h4=>h.2 w S vs h1 h2 h3 (by
  match vs,h4 with
  | [x,y],h4=>exact ⟨h4.1,h4.2.1.1,trivial⟩)⟩
theorem ZEu {op so:Int} {nm:ByteArray} {args:List Tm} (h:okTm (.mk op nm so args)):okTm (.mk (-1) nm so []):=by
 simp only [okTm,Zbo,and_true] at h ⊢
 exact ⟨by unfold I64;omega,h.2.1,h.2.2.1⟩
def colT (l:List Tm) (r:List Tm):List Tm:=l.foldl (fun r t=>Zep t r) r
theorem colT_nil0 {ts:List Tm}:colT (ZrB []) ts=ts:=by simp [colT,ZrB]
theorem ZEY (a b r:List Tm):colT (a++b) r=colT b (colT a r):=by unfold colT;rw [List.foldl_append]
theorem ZEf (t:Tm):∀ l:List Tm,(Zep t l).length<=l.length+1
 | []=>by simp [Zep]
 | x::xs=>by
  have:=ZEf t xs
  simp only [Zep]
  split
  ·simp only [List.length_cons];omega
  ·split <;> simp only [List.length_cons] <;> omega
theorem ZEv:∀ (l r:List Tm),(colT l r).length<=r.length+l.length
 | [],r=>by simp [colT]
 | x::xs,r=>by
  have h1:=ZEv xs (Zep x r)
  have h2:=ZEf x r
  simp only [colT,List.foldl_cons,List.length_cons] at h1 ⊢
  omega
theorem ZEw {t:Tm} (ht:okTm t):∀ {l:List Tm},Zbo l->Zbo (Zep t l)
 | [],_=>by simp only [Zep,Zbo];exact ⟨ht,trivial⟩
 | x::xs,h=>by
  simp only [Zbo] at h
  simp only [Zep]
  split
  ·simp only [Zbo];exact ⟨h.1,ZEw ht h.2⟩
  ·split
   ·simp only [Zbo];exact h
   ·simp only [Zbo];exact ⟨ht,h⟩
theorem ZEd:∀ {l r:List Tm},Zbo l->Zbo r->Zbo (colT l r)
 | [],r,_,h=>h
 | x::xs,r,h1,h2=>by
  simp only [Zbo] at h1
  exact ZEd (l:=xs) (r:=Zep x r) h1.2 (ZEw h1.1 h2)
theorem ZEg:∀ {a b:List Tm},Zbo a->Zbo b->Zbo (a++b)
 | [],_,_,h=>h
 | x::xs,b,h1,h2=>by
  simp only [Zbo] at h1
  simp only [List.cons_append,Zbo]
  exact ⟨h1.1,ZEg h1.2 h2⟩
mutual
theorem ZEh:∀ {t:Tm},okTm t->Zbo (ZwF t)
 | .mk op nm so args,h=>by
  simp only [ZwF]
  split
  ·simp only [Zbo];exact ⟨ZEu h,trivial⟩
  ·simp only [okTm] at h;exact ZD1 h.2.2.2
theorem ZD1:∀ {l:List Tm},Zbo l->Zbo (ZrB l)
 | [],_=>by simp [ZrB,Zbo]
 | x::xs,h=>by
  simp only [Zbo] at h
  simp only [ZrB]
  exact ZEg (ZEh h.1) (ZD1 h.2)
end
theorem ZEa:∀ {l:List Tm} (i:Nat),Zbo l->Zbo (l.take i)
 | [],_,_=>by simp [Zbo]
 | x::xs,0,_=>by simp [Zbo]
 | x::xs,i+1,h=>by
  simp only [Zbo] at h
  simp only [List.take_succ_cons,Zbo]
  exact ⟨h.1,ZEa i h.2⟩
theorem ZD8 (t:Tm) (ts:List Tm) (ht:okTm t) (hts:Zbo ts) (hb:Zak (Zae t)<=1048576) (hl:ts.length+(ZwF t).length<=7000000) (h:∀ x∈t.args,∀ us:List Tm,Zbo us->us.length+(ZwF x).length<=7000000->Con e0 126 [.agg (Zae x),.one (.sl (Zac us))] [.one (.sl (Zac (colT (ZwF x) us)))]) :
  Con e0 126 [.agg (Zae t),.one (.sl (Zac ts))] [.one (.sl (Zac (colT (ZwF t) ts)))]:=by
 obtain ⟨op,nm,so,args⟩:=t
 have hc:Zae (.mk op nm so args)=[.lit (.int .i64 op),.lit (.string nm),.lit (.int .i64 so),.sl (Zac args)]:=by simp only [Zae]
 simp only [Tm.args] at h
 simp only [Zae,Zak,ZbY,Zad] at hb
 refine gI (ts:=[.slot 4]) 1048887 Tryz.func126 ?_
 by_cases ho:op=-1
 ·have q1:(op=-1)=True:=eq_true ho
  have e1:ZwF (.mk op nm so args)=[.mk (-1) nm so []]:=by simp only [ZwF,if_pos ho]
  rw [e1] at hl ⊢
  simp only [List.length_cons,List.length_nil,Nat.zero_add] at hl
  have hI:=ZEt ts (.mk (-1) nm so []) hts (ZEu ht) om
  (have F:=ai @hc (ai @q1 @tmz);refine gG ?_;clear F)
  refine gB ?_
  (have F:=@hc;refine gC (ZES nm so) ?_;clear F)
  (have F:=@hc;refine gC (hI) ?_;clear F)
  (have F:=@hc;refine gR ?_;clear F)
  simp only [colT,List.foldl_cons,List.foldl_nil]
  (have F:=@tmz;refine gG ?_;exact gTd)
 ·have q1:(op=-1)=False:=eq_false ho
  have e1:ZwF (.mk op nm so args)=ZrB args:=by simp only [ZwF,if_neg ho]
  rw [e1] at hl ⊢
  have hk:Zbo args:=by simp only [okTm] at ht;exact ht.2.2.2
  (have F:=ai @hc (ai @q1 @tmz);refine gG ?_;clear F)
  (have F:=ai ((fun (r:List Tm)=>(colT_nil0:colT (ZrB []) r=r))) @tmz;refine gL (ι:=Nat) [1,5,20] [] (fun x=>[(5,.d (.one (.lit (.int .i64 (x:Int))))),(1,.d (.one (.sl (Zac (colT (ZrB (args.take x)) ts)))))]) (fun x=>[]) (fun x=>x<=args.length) (fun x=>args.length - x) (0) (Nat.zero_le _) (fun x hx=>?_);clear F)
  by_cases hlt:x < args.length
  ·obtain ⟨b,hg⟩:∃ b,args[x]?=some b:=⟨_,List.getElem?_eq_getElem hlt⟩
   have q2:((x:Int) < (args.length:Int))=True:=eq_true om
   have q4:IntKind.i64.wrap ((x:Int)+1)=(x:Int)+1:=IntWalk.i64_in _ om
   have hvt:=ZDY hg
   have hle:=ZD0 args (x+1)
   rw [hvt,List.length_append] at hle
   have hcl:=ZEv (ZrB (args.take x)) ts
   have hcon:=h b (List.mem_of_getElem? hg) (colT (ZrB (args.take x)) ts) (ZEd (ZD1 (ZEa x hk)) hts) om
   rw [<- ZEY,<- hvt] at hcon
   (have F:=ai @q2 (ai @hc @tmz);refine gG ?_;clear F)
   refine gB ?_
   (have F:=ai @q2 (ai @hc (ai @hg @tmz));refine gC (hcon) ?_;clear F)
   (have F:=@tmz;refine gR ?_;clear F)
   (have F:=@q4;refine gG ?_;exact ⟨x+1,hlt,gw,gw,by omega⟩)
  ·obtain rfl:x=args.length:=by omega
   have q2:((args.length:Int) < (args.length:Int))=False:=eq_false om
   rw [List.take_length]
   (have F:=ai @q2 (ai @hc @tmz);refine gG ?_;exact gTd)
theorem ZEb (n:Nat):∀ t:Tm,ZbD (Zae t) < n->okTm t->Zak (Zae t)<=1048576->∀ ts:List Tm,Zbo ts->ts.length+(ZwF t).length<=7000000->Con e0 126 [.agg (Zae t),.one (.sl (Zac ts))] [.one (.sl (Zac (colT (ZwF t) ts)))]:=by
 induction n with
 | zero=>exact fun _ h=>by omega
 | succ n ih =>
  intro t hn ht hb ts hts hl
  refine ZD8 t ts ht hts hb hl fun x hx us hus hl2=>?_
  obtain ⟨op,nm,so,args⟩:=t
  simp only [Zae,ZbD,ZeV] at hn
  simp only [Zae,Zak,ZbY] at hb
  simp only [okTm] at ht
  simp only [Tm.args] at hx
  obtain ⟨i,hi⟩:=List.getElem?_of_mem hx
  have hi':(Zac args)[i]?=some (Zae x):=by rw [ZbF,hi];rfl
  have h1:=Zdt hi'
  have h2:=Zc7 hi'
  exact ih x om (ht.2.2.2.mem hx) om us hus hl2
theorem ZEx {t:Tm} (ht:okTm t) (hb:Zak (Zae t)<=1048576):Con e0 73 [.agg (Zae t)] [.one (.sl (Zac (ZDN t)))]:=by
 have hv:=ZEq t
 have hcon:=ZEb _ t (Nat.lt_succ_self _) ht hb [] trivial (by simp;omega)
 have hcon:=ZEU (by rw [ZD6] at hcon;exact hcon)
 rw [show colT (ZwF t) []=ZDN t from rfl] at hcon
 refine gI (ts:=[.slot 2]) 7 Tryz.func73 ?_
 (have F:=@tmz;refine gG ?_;clear F)
 refine gB ?_
 (have F:=@tmz;refine gC (hcon) ?_;clear F)
 (have F:=@tmz;refine gR ?_;clear F)
 (have F:=@tmz;refine gG ?_;exact gTd)
theorem ZEH {l:List Tm} (h:Zbo l):Zbo (Ze5 l):=ZEd (r:=[]) h trivial
theorem ZEI {t:Tm} (h:okTm t):Zbo (ZDN t):=ZEH (ZEh h)
section
variable {g:Sgn} {l:List Bd}
def MtOk (g:Sgn) (p t:Tm) (l:List Bd):Prop:=aS g l p=some t∧Zby g t=true∧ZDN p=l.map Bd.var
open Classical in
noncomputable def mtB (g:Sgn) (p t:Tm) (l:List Bd):Bool:=decide (MtOk g p t l)
theorem ZEy {p t:Tm} (h:MtOk g p t l):mtB g p t l=true:=by simp [mtB,h]
theorem ZDV {p t:Tm} (h:¬ MtOk g p t l):mtB g p t l=false:=by simp [mtB,h]
theorem ZEA {vs:List Tm} (hn:vs.length=l.length) (h:∀ (j:Nat) v y,j < vs.length->vs[j]?=some v->l[j]?=some y->v=y.var):vs=l.map Bd.var:=by
 refine List.ext_getElem? fun j=>?_
 rw [List.getElem?_map]
 by_cases hj:j < vs.length
 ·rw [List.getElem?_eq_getElem hj,List.getElem?_eq_getElem (by omega:j < l.length)]
  exact congrArg some (h j _ _ hj (List.getElem?_eq_getElem hj) (List.getElem?_eq_getElem om))
 ·rw [List.getElem?_eq_none om,List.getElem?_eq_none om];rfl
theorem ZEB {vs:List Tm} (h:vs=l.map Bd.var) {j:Nat} {v:Tm} {y:Bd} (hv:vs[j]?=some v) (hy:l[j]?=some y):v=y.var:=by
 subst h
 rw [List.getElem?_map,hy] at hv
 injection hv with hv
 exact hv.symm
set_option maxRecDepth 100000 in
theorem ZEk {p t:Tm} (hok:Zdc g) (hp:okTm p) (hpb:Zak (Zae p)<=1048576) (ht:okTm t) (htb:Zak (Zae t)<=1048576) (hl:Zge l) (hb:(ZbW l).length+Zag (ZbW l)<=1048576):Con e0 30 [.agg (Zaw g),.agg (Zae p),.agg (Zae t),.one (.sl (ZbW l))] [.one (.lit (.bool (mtB g p t l)))]:=by
 rw [Zfq] at hb
 have cA:=ZCA hok hl hb hp hpb
 have cV:=ZEx hp hpb
 have cT:=ZeA hok ht (Zgv htb)
 have bl:=Zfq l
 have bg:=Zfr l
 have bb:=bds8 l
 have vl:=Zad (ZDN p)
 rw [Zaw] at cA cT ⊢
 refine gI (ts:=[.slot 8]) 576535519094120319 Tryz.func30 ?_
 (have F:=@tmz;have NN:Zai 1:=trivial;refine gGn ?_;clear F NN)
 refine gB ?_
 (have F:=@tmz;refine gC (cA) ?_;clear F)
 (have F:=@tmz;refine gR ?_;clear F)
 (have F:=@tmz;have NN:Zai 2:=trivial;refine gGn ?_;clear F NN)
 refine gB ?_
 (have F:=@tmz;refine gC (cV) ?_;clear F)
 (have F:=@tmz;refine gR ?_;clear F)
 (have F:=@tmz;have NN:Zai 3:=trivial;refine gGn ?_;clear F NN)
 cases h1:aS g l p with
 | none =>
  have z2:(none:Option Tm).isSome=false:=rfl
  rw [ZDV fun h=>by rw [h.1] at h1;cases h1]
  (have F:=ai @z2 @tmz;refine gG ?_;exact gTd)
 | some u =>
 have z4:∀ u:Tm,(some u).isSome=true:=fun _=>rfl
 have z3:∀ u:Tm,(some u).getD zTm=u:=fun _=>rfl
 have hg:=ZDQ h1
 have hS:SbsOk g l:=by
  unfold aS at h1
  split at h1
  ·next hc=>exact Zmi.1 hc.2.1
  ·cases h1
 have h8:=hS.len
 have cS:=Zhd (ZaO.ok hg _ u (Nat.lt_succ_self _) (ZDU h1).form) ht
 refine gB ?_
 (have F:=ai @z4 @tmz;refine gC (cT) ?_;clear F)
 cases h2:(ZbB g && Zby g t) with
 | false =>
  rw [ZDV fun h=>by rw [h.2.1,Zg9 hg] at h2;cases h2]
  (have F:=@tmz;refine gR ?_;clear F)
  (have F:=@tmz;refine gG ?_;exact gTd)
 | true =>
 rw [Bool.and_eq_true] at h2
 (have F:=ai @z3 (ai @z4 @tmz);refine gC (cS) ?_;clear F)
 by_cases h3:Zal u t=0
 rotate_left
 ·rw [ZDV fun h=>by rw [h.1] at h1;injection h1 with h1;exact h3 (Zib.2 h1.symm),decide_eq_false h3]
  (have F:=@tmz;refine gR ?_;clear F)
  (have F:=@tmz;refine gG ?_;exact gTd)
 rw [decide_eq_true h3]
 obtain rfl:=Zib.1 h3
 by_cases h4:(ZDN p).length=l.length
 rotate_left
 ·have q4:(((ZDN p).length:Int)=(l.length:Int))=False:=eq_false om
  rw [ZDV fun h=>h4 (by rw [h.2.2,List.length_map])]
  (have F:=ai @q4 (ai @vl (ai @bl @tmz));refine gR ?_;clear F)
  (have F:=@tmz;refine gG ?_;exact gTd)
 have q4:(((ZDN p).length:Int)=(l.length:Int))=True:=eq_true om
 (have F:=ai @q4 (ai @vl (ai @bl @tmz));refine gR ?_;clear F)
 (have F:=@tmz;refine gG ?_;clear F)
 (have F:=@tmz;refine gL (ι:=Nat) [8,12,46,59] [] (fun i=>[(12,A.d (.one (.lit (.int .i64 i))))]) (fun i=>[]) (fun i=>i<=(ZDN p).length∧∀ (j:Nat) v y,j < i->(ZDN p)[j]?=some v->l[j]?=some y->v=y.var) (fun i=>(ZDN p).length - i) (0) (⟨Nat.zero_le _,fun j v y h=>absurd h om⟩) (fun i hi=>?_);clear F)
 obtain ⟨hi,hall⟩:=hi
 by_cases hil:i < (ZDN p).length
 rotate_left
 ·obtain rfl:i=(ZDN p).length:=by omega
  have q2:(((ZDN p).length:Int) < ((ZDN p).length:Int))=False:=eq_false om
  rw [ZEy ⟨h1,h2.2,ZEA h4 hall⟩]
  (have F:=ai @q2 (ai @vl @tmz);refine gG ?_;exact gTd)
 have q2:((i:Int) < ((ZDN p).length:Int))=True:=eq_true om
 obtain ⟨v,hv⟩:∃ v,(ZDN p)[i]?=some v:=⟨_,List.getElem?_eq_getElem hil⟩
 obtain ⟨y,hy⟩:∃ y,l[i]?=some y:=⟨_,List.getElem?_eq_getElem om⟩
 have hvo:okTm v:=ZwR.1 (ZEI hp) v (List.mem_of_getElem? hv)
 have cE:=Zhd hvo (hl y (List.mem_of_getElem? hy)).1
 have hwi:=Zav (k:=i) om
 (have F:=ai @q2 (ai @vl @tmz);have NN:Zai 8:=trivial;refine gGn ?_;clear F NN)
 refine gB ?_
 (have F:=ai @bl (ai @bb (ai @bg (ai @hv (ai @hy (ai @bdz (ai @Zau @tmz))))));refine gC (cE) ?_;clear F)
 by_cases h5:Zal v y.var=0
 rotate_left
 ·rw [ZDV fun h=>h5 (Zib.2 (ZEB h.2.2 hv hy)),decide_eq_false h5]
  (have F:=@tmz;refine gR ?_;clear F)
  (have F:=@tmz;refine gG ?_;exact gTd)
 rw [decide_eq_true h5]
 have hnx:i+1<=(ZDN p).length∧∀ (j:Nat) v y,j < i+1->(ZDN p)[j]?=some v->l[j]?=some y->v=y.var:=⟨hil,fun j v' y' hj hv' hy'=>by
  by_cases e:j=i
  ·subst e
   rw [hv] at hv';rw [hy] at hy'
   injection hv' with hv';injection hy' with hy'
   subst hv' hy'
   exact Zib.1 h5
  ·exact hall j v' y' om hv' hy'⟩
 (have F:=@tmz;refine gR ?_;clear F)
 (have F:=ai @hwi @tmz;refine gG ?_;exact ⟨i+1,hnx,gw,gw,by omega⟩)
set_option maxRecDepth 100000 in
theorem ZEl {p t:Tm} (hok:Zdc g) (hp:okTm p) (hpb:Zak (Zae p)<=1048576) (ht:okTm t) (htb:Zak (Zae t)<=1048576) (hl:Zge l) (hb:(ZbW l).length+Zag (ZbW l)<=1048576):Con e0 31 [.agg (Zaw g),.agg (Zae p),.agg (Zae t),.one (.sl (ZbW l))] [.one (.lit (.bool (mtB g p t l)))]:=by
 rw [Zfq] at hb
 have hno:¬ (ZbB g=true∧ZcS g l=true∧Zby g p=true)->mtB g p t l=false:=fun h=>ZDV fun h'=>by
  have:=h'.1
  unfold aS at this
  rw [if_neg h] at this
  cases this
 have bl:=Zfq l
 have bg:=Zfr l
 have bb:=bds8 l
 have vl:=Zad (ZDN p)
 by_cases hs:ZbB g=true
 rotate_left
 ·have cN:=ZB4 hok (fun h=>hs (Zg9 h))
  rw [hno fun h=>hs h.1]
  rw [Zaw] at cN ⊢
  refine gI (ts:=[.slot 8]) 2308024990039048063 Tryz.func31 ?_
  (have F:=@tmz;have NN:Zai 1:=trivial;refine gGn ?_;clear F NN)
  refine gB ?_
  (have F:=@tmz;refine gC (cN) ?_;clear F)
  (have F:=@tmz;refine gR ?_;clear F)
  (have F:=@tmz;refine gG ?_;exact gTd)
 have hg:=Zed.1 hs
 have cN:=ZDe hok hg
 rw [Zaw] at cN ⊢
 refine gI (ts:=[.slot 8]) 2308024990039048063 Tryz.func31 ?_
 (have F:=@tmz;have NN:Zai 1:=trivial;refine gGn ?_;clear F NN)
 refine gB ?_
 (have F:=@tmz;refine gCP [] [1000] (cN) ?_;clear F)
 rintro r pm ⟨b,rfl,rfl⟩
 simp only [setA,retA,zipM,List.cons_append,List.nil_append]
 (have F:=@tmz;refine gR ?_;clear F)
 refine pM g b 1000 ?_
 have cX:=(Zo7 (mc:=.lit (.map (some b))) hg hp (Zgv hpb)).m (g:=g) (b:=b)
 have cY:=(Zo7 (mc:=.lit (.map (some b))) hg ht (Zgv htb)).m (g:=g) (b:=b)
 have cS:=ZDy (b:=b) hg hl (fun y hy=>Zgv (Zw8 hb y hy).2)
 have cV:=(ZEs p hpb).m (g:=g) (b:=b)
 (have F:=@tmM;have NN:Zai 2:=trivial;refine gGn ?_;clear F NN)
 refine gB ?_
 (have F:=@tmM;refine gC (cX) ?_;clear F)
 cases h1:Zby g p with
 | false =>
  rw [hno fun h=>by rw [h1] at h;cases h.2.2]
  (have F:=@tmM;refine gR ?_;clear F)
  (have F:=@tmM;refine gG ?_;exact gTd)
 | true =>
 (have F:=@tmM;refine gC (cY) ?_;clear F)
 cases h2:Zby g t with
 | false =>
  rw [ZDV fun h=>by rw [h.2.1] at h2;cases h2]
  (have F:=@tmM;refine gR ?_;clear F)
  (have F:=@tmM;refine gG ?_;exact gTd)
 | true =>
 (have F:=@tmM;refine gC (cS) ?_;clear F)
 cases h3:ZcS g l with
 | false =>
  rw [hno fun h=>by rw [h3] at h;cases h.2.1]
  (have F:=@tmM;refine gR ?_;clear F)
  (have F:=@tmM;refine gG ?_;exact gTd)
 | true =>
 have hS:=Zmi.1 h3
 have h8:=hS.len
 have ex:aS g l p=apT g l p:=by unfold aS;rw [if_pos ⟨hs,h3,h1⟩]
 have aX:=(ZDx (mc:=.lit (.map (some b))) hg hS _ (Nat.lt_succ_self _) (ZcP.1 h1)).m (g:=g) (b:=b)
 rw [<- ex] at aX
 (have F:=@tmM;refine gR ?_;clear F)
 (have F:=@tmM;have NN:Zai 4:=trivial;refine gGn ?_;clear F NN)
 refine gB ?_
 (have F:=@tmM;refine gC (cV) ?_;clear F)
 (have F:=@tmM;refine gR ?_;clear F)
 by_cases h4:(ZDN p).length=l.length
 rotate_left
 ·have q4:(((ZDN p).length:Int)=(l.length:Int))=False:=eq_false om
  rw [ZDV fun h=>h4 (by rw [h.2.2,List.length_map])]
  (have F:=ai @q4 (ai @vl (ai @bl @tmM));refine gG ?_;exact gTd)
 have q4:(((ZDN p).length:Int)=(l.length:Int))=True:=eq_true om
 (have F:=ai @q4 (ai @vl (ai @bl @tmM));refine gG ?_;clear F)
 (have F:=@tmM;refine gL (ι:=Nat) [8,12,13,49,50,61] [] (fun i=>[(49,A.d (.one (.lit (.int .i64 i))))]) (fun i=>[]) (fun i=>i<=(ZDN p).length∧∀ (j:Nat) v y,j < i->(ZDN p)[j]?=some v->l[j]?=some y->v=y.var) (fun i=>(ZDN p).length - i) (0) (⟨Nat.zero_le _,fun j v y h=>absurd h om⟩) (fun i hi=>?_);clear F)
 obtain ⟨hi,hall⟩:=hi
 by_cases hil:i < (ZDN p).length
 rotate_left
 ·obtain rfl:i=(ZDN p).length:=by omega
  have q2:(((ZDN p).length:Int) < ((ZDN p).length:Int))=False:=eq_false om
  (have F:=ai @q2 (ai @vl @tmM);have NN:Zai 13:=trivial;refine gGn ?_;clear F NN)
  refine gB ?_
  (have F:=@tmM;refine gC (aX) ?_;clear F)
  (have F:=@tmM;refine gR ?_;clear F)
  cases h5:aS g l p with
  | none =>
   have z2:(none:Option Tm).isSome=false:=rfl
   rw [ZDV fun h=>by rw [h.1] at h5;cases h5]
   (have F:=ai @z2 @tmM;refine gG ?_;exact gTd)
  | some u =>
  have z4:∀ u:Tm,(some u).isSome=true:=fun _=>rfl
  have z3:∀ u:Tm,(some u).getD zTm=u:=fun _=>rfl
  have cE:=(ZCT u t).m (g:=g) (b:=b)
  have e:mtB g p t l=decide (Zal u t=0):=by
   by_cases h6:Zal u t=0
   ·rw [decide_eq_true h6]
    obtain rfl:=Zib.1 h6
    exact ZEy ⟨h5,h2,ZEA h4 hall⟩
   ·rw [decide_eq_false h6]
    exact ZDV fun h=>h6 (Zib.2 (by rw [h.1] at h5;injection h5 with h5;exact h5.symm))
  rw [e]
  (have F:=ai @z3 (ai @z4 @tmM);have NN:Zai 14:=trivial;refine gGn ?_;clear F NN)
  refine gB ?_
  (have F:=ai @z3 (ai @z4 @tmM);refine gC (cE) ?_;clear F)
  (have F:=@tmM;refine gR ?_;clear F)
  (have F:=@tmM;refine gG ?_;exact gTd)
 have q2:((i:Int) < ((ZDN p).length:Int))=True:=eq_true om
 obtain ⟨v,hv⟩:∃ v,(ZDN p)[i]?=some v:=⟨_,List.getElem?_eq_getElem hil⟩
 obtain ⟨y,hy⟩:∃ y,l[i]?=some y:=⟨_,List.getElem?_eq_getElem om⟩
 have cE:=(ZCT v y.var).m (g:=g) (b:=b)
 have hwi:=Zav (k:=i) om
 (have F:=ai @q2 (ai @vl (ai @hv (ai @Zau @tmM)));have NN:Zai 10:=trivial;refine gGn ?_;clear F NN)
 refine gB ?_
 (have F:=ai @bl (ai @bb (ai @bg (ai @hv (ai @hy (ai @bdz (ai @Zau @tmM))))));refine gC (cE) ?_;clear F)
 by_cases h5:Zal v y.var=0
 rotate_left
 ·rw [ZDV fun h=>h5 (Zib.2 (ZEB h.2.2 hv hy)),decide_eq_false h5]
  (have F:=@tmM;refine gR ?_;clear F)
  (have F:=@tmM;refine gG ?_;exact gTd)
 rw [decide_eq_true h5]
 have hnx:i+1<=(ZDN p).length∧∀ (j:Nat) v y,j < i+1->(ZDN p)[j]?=some v->l[j]?=some y->v=y.var:=⟨hil,fun j v' y' hj hv' hy'=>by
  by_cases e:j=i
  ·subst e
   rw [hv] at hv';rw [hy] at hy'
   injection hv' with hv';injection hy' with hy'
   subst hv' hy'
   exact Zib.1 h5
  ·exact hall j v' y' om hv' hy'⟩
 (have F:=@tmM;refine gR ?_;clear F)
 (have F:=ai @hwi @tmM;refine gG ?_;exact ⟨i+1,hnx,gw,gw,by omega⟩)
end
set_option maxRecDepth 100000 in
theorem ZEe {row0:List C} (hok0:Zan (sigF) row0) {row1:List C} (hok1:Zan (Zab .term) row1) {row2:List C} (hok2:Zan (Zab .term) row2) {rows3:List (List C)} (hok3:Zaq (Zab .binding) rows3) {R0:Bool} (hsp0:Zak row0<=1048576->Zak row1<=1048576->Zak row2<=1048576->rows3.length+Zag rows3<=1048576->Con e0 30 [.agg row0,.agg row1,.agg row2,.one (.sl rows3)] [.one (.lit (.bool R0))]) (him0:Zak row0<=1048576->Zak row1<=1048576->Zak row2<=1048576->rows3.length+Zag rows3<=1048576->Con e0 31 [.agg row0,.agg row1,.agg row2,.one (.sl rows3)] [.one (.lit (.bool R0))]):Con e0 6 [.agg row0,.agg row1,.agg row2,.one (.sl rows3)] [.one (.lit (.bool true))]:=by
 have okc0:=hok0.cells
 obtain ⟨len0,tk0,dr0⟩:=hok0.take (n:=3) rfl
 have okc1:=hok1.cells
 obtain ⟨len1,tk1,dr1⟩:=hok1.take (n:=4) rfl
 have okc2:=hok2.cells
 obtain ⟨len2,tk2,dr2⟩:=hok2.take (n:=4) rfl
 refine gI 1247923389507991241817983 Tryz.func6 ?_
 (have F:=ai @okc0 (ai @len0 (ai @tk0 (ai @dr0 (ai @okc1 (ai @len1 (ai @tk1 (ai @dr1 (ai @okc2 (ai @len2 (ai @tk2 (ai @dr2 @ZBp)))))))))));refine gG ?_;clear F)
 have hL0_0:(0:Int)<=1048576:=by omega
 have hL0_1:(1048576:Int)<=1048576:=by omega
 refine gB ?_
 (have F:=ai @okc0 (ai @len0 (ai @tk0 (ai @dr0 (ai @okc1 (ai @len1 (ai @tk1 (ai @dr1 (ai @okc2 (ai @len2 (ai @tk2 (ai @dr2 @ZBp)))))))))));refine gC (ZBE hok0 hL0_0 hL0_1) ?_;clear F)
 (have F:=ai @okc0 (ai @len0 (ai @tk0 (ai @dr0 (ai @okc1 (ai @len1 (ai @tk1 (ai @dr1 (ai @okc2 (ai @len2 (ai @tk2 (ai @dr2 @ZBp)))))))))));refine gR ?_;clear F)
 by_cases hb0:((Zak row0):Int)<=1048576
 rotate_left
 ·have n1:sub 1048576 (Zak row0)=-1:=ZaS om
  have n2:(-1:Int) < 0:=by omega
  (have F:=ai @n1 @n2;refine gG ?_;exact gT)
 have nq0:sub 1048576 (Zak row0)=1048576 - ((Zak row0):Nat):=Zbg om
 rw [nq0]
 clear nq0
 have hB0:Zak row0<=1048576:=by omega
 have hL1_0:(0:Int)<=1048576 - ((Zak row0):Nat):=by omega
 have hL1_1:(1048576:Int) - ((Zak row0):Nat)<=1048576:=by omega
 generalize hgl0:(1048576:Int) - ((Zak row0):Nat)=L1 at *
 clear hgl0
 have n2:¬ (L1 < 0):=by omega
 (have F:=ai @n2 (ai @okc0 (ai @len0 (ai @tk0 (ai @dr0 (ai @okc1 (ai @len1 (ai @tk1 (ai @dr1 (ai @okc2 (ai @len2 (ai @tk2 (ai @dr2 @ZBp))))))))))));refine gG ?_;clear F)
 clear n2 hb0
 refine gB ?_
 (have F:=ai @okc0 (ai @len0 (ai @tk0 (ai @dr0 (ai @okc1 (ai @len1 (ai @tk1 (ai @dr1 (ai @okc2 (ai @len2 (ai @tk2 (ai @dr2 @ZBp)))))))))));refine gC (ZDu hok1 hL1_0 hL1_1) ?_;clear F)
 (have F:=ai @okc0 (ai @len0 (ai @tk0 (ai @dr0 (ai @okc1 (ai @len1 (ai @tk1 (ai @dr1 (ai @okc2 (ai @len2 (ai @tk2 (ai @dr2 @ZBp)))))))))));refine gR ?_;clear F)
 by_cases hb1:((Zak row1):Int)<=L1
 rotate_left
 ·have n1:sub L1 (Zak row1)=-1:=ZaS om
  have n2:(-1:Int) < 0:=by omega
  (have F:=ai @n1 @n2;refine gG ?_;exact gT)
 have nq1:sub L1 (Zak row1)=L1 - ((Zak row1):Nat):=Zbg om
 rw [nq1]
 clear nq1
 have hB1:Zak row1<=1048576:=by omega
 have hL2_0:(0:Int)<=L1 - ((Zak row1):Nat):=by omega
 have hL2_1:(L1:Int) - ((Zak row1):Nat)<=1048576:=by omega
 generalize hgl1:(L1:Int) - ((Zak row1):Nat)=L2 at *
 clear hgl1
 have n2:¬ (L2 < 0):=by omega
 (have F:=ai @n2 (ai @okc0 (ai @len0 (ai @tk0 (ai @dr0 (ai @okc1 (ai @len1 (ai @tk1 (ai @dr1 (ai @okc2 (ai @len2 (ai @tk2 (ai @dr2 @ZBp))))))))))));refine gG ?_;clear F)
 clear n2 hb1
 refine gB ?_
 (have F:=ai @okc0 (ai @len0 (ai @tk0 (ai @dr0 (ai @okc1 (ai @len1 (ai @tk1 (ai @dr1 (ai @okc2 (ai @len2 (ai @tk2 (ai @dr2 @ZBp)))))))))));refine gC (ZDu hok2 hL2_0 hL2_1) ?_;clear F)
 (have F:=ai @okc0 (ai @len0 (ai @tk0 (ai @dr0 (ai @okc1 (ai @len1 (ai @tk1 (ai @dr1 (ai @okc2 (ai @len2 (ai @tk2 (ai @dr2 @ZBp)))))))))));refine gR ?_;clear F)
 by_cases hb2:((Zak row2):Int)<=L2
 rotate_left
 ·have n1:sub L2 (Zak row2)=-1:=ZaS om
  have n2:(-1:Int) < 0:=by omega
  (have F:=ai @n1 @n2;refine gG ?_;exact gT)
 have nq2:sub L2 (Zak row2)=L2 - ((Zak row2):Nat):=Zbg om
 rw [nq2]
 clear nq2
 have hB2:Zak row2<=1048576:=by omega
 have hL3_0:(0:Int)<=L2 - ((Zak row2):Nat):=by omega
 have hL3_1:(L2:Int) - ((Zak row2):Nat)<=1048576:=by omega
 generalize hgl2:(L2:Int) - ((Zak row2):Nat)=L3 at *
 clear hgl2
 have n2:¬ (L3 < 0):=by omega
 (have F:=ai @n2 (ai @okc0 (ai @len0 (ai @tk0 (ai @dr0 (ai @okc1 (ai @len1 (ai @tk1 (ai @dr1 (ai @okc2 (ai @len2 (ai @tk2 (ai @dr2 @ZBp))))))))))));refine gG ?_;clear F)
 clear n2 hb2
 refine gB ?_
 (have F:=ai @okc0 (ai @len0 (ai @tk0 (ai @dr0 (ai @okc1 (ai @len1 (ai @tk1 (ai @dr1 (ai @okc2 (ai @len2 (ai @tk2 (ai @dr2 @ZBp)))))))))));refine gC (ZCx hok3 hL3_0 hL3_1) ?_;clear F)
 (have F:=ai @okc0 (ai @len0 (ai @tk0 (ai @dr0 (ai @okc1 (ai @len1 (ai @tk1 (ai @dr1 (ai @okc2 (ai @len2 (ai @tk2 (ai @dr2 @ZBp)))))))))));refine gR ?_;clear F)
 by_cases hb3:((rows3.length+Zag rows3:Nat):Int)<=L3
 rotate_left
 ·have n1:sub L3 (rows3.length+Zag rows3:Nat)=-1:=ZaS om
  have n2:(-1:Int) < 0:=by omega
  (have F:=ai @n1 @n2;refine gG ?_;exact gT)
 have nq3:sub L3 (rows3.length+Zag rows3:Nat)=L3 - ((rows3.length+Zag rows3:Nat):Nat):=Zbg om
 rw [nq3]
 clear nq3
 have hB3:rows3.length+Zag rows3<=1048576:=by omega
 have hL4_0:(0:Int)<=L3 - ((rows3.length+Zag rows3:Nat):Nat):=by omega
 have hL4_1:(L3:Int) - ((rows3.length+Zag rows3:Nat):Nat)<=1048576:=by omega
 generalize hgl3:(L3:Int) - ((rows3.length+Zag rows3:Nat):Nat)=L4 at *
 clear hgl3
 have n2:¬ (L4 < 0):=by omega
 (have F:=ai @n2 (ai @okc0 (ai @len0 (ai @tk0 (ai @dr0 (ai @okc1 (ai @len1 (ai @tk1 (ai @dr1 (ai @okc2 (ai @len2 (ai @tk2 (ai @dr2 @ZBp))))))))))));refine gG ?_;clear F)
 clear n2 hb3
 have hsp:=hsp0 hB0 hB1 hB2 hB3
 have him:=him0 hB0 hB1 hB2 hB3
 have cT0:=ZBF hok0 hB0
 have cT1:=ZDv hok1 hB1
 have cT2:=ZDv hok2 hB2
 have cT3:=ZCz hok3 hB3
 refine gB ?_
 (have F:=ai @okc0 (ai @len0 (ai @tk0 (ai @dr0 (ai @okc1 (ai @len1 (ai @tk1 (ai @dr1 (ai @okc2 (ai @len2 (ai @tk2 (ai @dr2 @ZBp)))))))))));refine gC (cT0) ?_;clear F)
 (have F:=ai @okc0 (ai @len0 (ai @tk0 (ai @dr0 (ai @okc1 (ai @len1 (ai @tk1 (ai @dr1 (ai @okc2 (ai @len2 (ai @tk2 (ai @dr2 @ZBp)))))))))));refine gC (cT1) ?_;clear F)
 (have F:=ai @okc0 (ai @len0 (ai @tk0 (ai @dr0 (ai @okc1 (ai @len1 (ai @tk1 (ai @dr1 (ai @okc2 (ai @len2 (ai @tk2 (ai @dr2 @ZBp)))))))))));refine gC (cT2) ?_;clear F)
 (have F:=ai @okc0 (ai @len0 (ai @tk0 (ai @dr0 (ai @okc1 (ai @len1 (ai @tk1 (ai @dr1 (ai @okc2 (ai @len2 (ai @tk2 (ai @dr2 @ZBp)))))))))));refine gC (cT3) ?_;clear F)
 (have F:=ai @okc0 (ai @len0 (ai @tk0 (ai @dr0 (ai @okc1 (ai @len1 (ai @tk1 (ai @dr1 (ai @okc2 (ai @len2 (ai @tk2 (ai @dr2 @ZBp)))))))))));refine gC (hsp) ?_;clear F)
 (have F:=ai @okc0 (ai @len0 (ai @tk0 (ai @dr0 (ai @okc1 (ai @len1 (ai @tk1 (ai @dr1 (ai @okc2 (ai @len2 (ai @tk2 (ai @dr2 @ZBp)))))))))));refine gR ?_;clear F)
 (have F:=ai @okc0 (ai @len0 (ai @tk0 (ai @dr0 (ai @okc1 (ai @len1 (ai @tk1 (ai @dr1 (ai @okc2 (ai @len2 (ai @tk2 (ai @dr2 @ZBp)))))))))));refine gG ?_;clear F)
 refine gB ?_
 (have F:=ai @okc0 (ai @len0 (ai @tk0 (ai @dr0 (ai @okc1 (ai @len1 (ai @tk1 (ai @dr1 (ai @okc2 (ai @len2 (ai @tk2 (ai @dr2 @ZBp)))))))))));refine gC (cT0) ?_;clear F)
 (have F:=ai @okc0 (ai @len0 (ai @tk0 (ai @dr0 (ai @okc1 (ai @len1 (ai @tk1 (ai @dr1 (ai @okc2 (ai @len2 (ai @tk2 (ai @dr2 @ZBp)))))))))));refine gR ?_;clear F)
 (have F:=ai @okc0 (ai @len0 (ai @tk0 (ai @dr0 (ai @okc1 (ai @len1 (ai @tk1 (ai @dr1 (ai @okc2 (ai @len2 (ai @tk2 (ai @dr2 @ZBp)))))))))));refine gG ?_;clear F)
 refine gB ?_
 (have F:=ai @okc0 (ai @len0 (ai @tk0 (ai @dr0 (ai @okc1 (ai @len1 (ai @tk1 (ai @dr1 (ai @okc2 (ai @len2 (ai @tk2 (ai @dr2 @ZBp)))))))))));refine gC (cT1) ?_;clear F)
 (have F:=ai @okc0 (ai @len0 (ai @tk0 (ai @dr0 (ai @okc1 (ai @len1 (ai @tk1 (ai @dr1 (ai @okc2 (ai @len2 (ai @tk2 (ai @dr2 @ZBp)))))))))));refine gR ?_;clear F)
 (have F:=ai @okc0 (ai @len0 (ai @tk0 (ai @dr0 (ai @okc1 (ai @len1 (ai @tk1 (ai @dr1 (ai @okc2 (ai @len2 (ai @tk2 (ai @dr2 @ZBp)))))))))));refine gG ?_;clear F)
 refine gB ?_
 (have F:=ai @okc0 (ai @len0 (ai @tk0 (ai @dr0 (ai @okc1 (ai @len1 (ai @tk1 (ai @dr1 (ai @okc2 (ai @len2 (ai @tk2 (ai @dr2 @ZBp)))))))))));refine gC (cT2) ?_;clear F)
 (have F:=ai @okc0 (ai @len0 (ai @tk0 (ai @dr0 (ai @okc1 (ai @len1 (ai @tk1 (ai @dr1 (ai @okc2 (ai @len2 (ai @tk2 (ai @dr2 @ZBp)))))))))));refine gR ?_;clear F)
 (have F:=ai @okc0 (ai @len0 (ai @tk0 (ai @dr0 (ai @okc1 (ai @len1 (ai @tk1 (ai @dr1 (ai @okc2 (ai @len2 (ai @tk2 (ai @dr2 @ZBp)))))))))));refine gG ?_;clear F)
 refine gB ?_
 (have F:=ai @okc0 (ai @len0 (ai @tk0 (ai @dr0 (ai @okc1 (ai @len1 (ai @tk1 (ai @dr1 (ai @okc2 (ai @len2 (ai @tk2 (ai @dr2 @ZBp)))))))))));refine gC (cT3) ?_;clear F)
 (have F:=ai @okc0 (ai @len0 (ai @tk0 (ai @dr0 (ai @okc1 (ai @len1 (ai @tk1 (ai @dr1 (ai @okc2 (ai @len2 (ai @tk2 (ai @dr2 @ZBp)))))))))));refine gR ?_;clear F)
 (have F:=ai @okc0 (ai @len0 (ai @tk0 (ai @dr0 (ai @okc1 (ai @len1 (ai @tk1 (ai @dr1 (ai @okc2 (ai @len2 (ai @tk2 (ai @dr2 @ZBp)))))))))));refine gG ?_;clear F)
 refine gB ?_
 (have F:=ai @okc0 (ai @len0 (ai @tk0 (ai @dr0 (ai @okc1 (ai @len1 (ai @tk1 (ai @dr1 (ai @okc2 (ai @len2 (ai @tk2 (ai @dr2 @ZBp)))))))))));refine gC (him) ?_;clear F)
 (have F:=ai @okc0 (ai @len0 (ai @tk0 (ai @dr0 (ai @okc1 (ai @len1 (ai @tk1 (ai @dr1 (ai @okc2 (ai @len2 (ai @tk2 (ai @dr2 @ZBp)))))))))));refine gR ?_;clear F)
 (have F:=ai @okc0 (ai @len0 (ai @tk0 (ai @dr0 (ai @okc1 (ai @len1 (ai @tk1 (ai @dr1 (ai @okc2 (ai @len2 (ai @tk2 (ai @dr2 (ai @ZBp @beq_self_eq_true.{0}))))))))))));refine gG ?_;clear F)
 refine gB ?_
 (have F:=ai @okc0 (ai @len0 (ai @tk0 (ai @dr0 (ai @okc1 (ai @len1 (ai @tk1 (ai @dr1 (ai @okc2 (ai @len2 (ai @tk2 (ai @dr2 @ZBp)))))))))));refine gC (cT0) ?_;clear F)
 (have F:=ai @okc0 (ai @len0 (ai @tk0 (ai @dr0 (ai @okc1 (ai @len1 (ai @tk1 (ai @dr1 (ai @okc2 (ai @len2 (ai @tk2 (ai @dr2 @ZBp)))))))))));refine gC (ZBG hok0) ?_;clear F)
 (have F:=ai @okc0 (ai @len0 (ai @tk0 (ai @dr0 (ai @okc1 (ai @len1 (ai @tk1 (ai @dr1 (ai @okc2 (ai @len2 (ai @tk2 (ai @dr2 @ZBp)))))))))));refine gR ?_;clear F)
 (have F:=ai @okc0 (ai @len0 (ai @tk0 (ai @dr0 (ai @okc1 (ai @len1 (ai @tk1 (ai @dr1 (ai @okc2 (ai @len2 (ai @tk2 (ai @dr2 @ZBp)))))))))));refine gG ?_;clear F)
 refine gB ?_
 (have F:=ai @okc0 (ai @len0 (ai @tk0 (ai @dr0 (ai @okc1 (ai @len1 (ai @tk1 (ai @dr1 (ai @okc2 (ai @len2 (ai @tk2 (ai @dr2 @ZBp)))))))))));refine gC (cT1) ?_;clear F)
 (have F:=ai @okc0 (ai @len0 (ai @tk0 (ai @dr0 (ai @okc1 (ai @len1 (ai @tk1 (ai @dr1 (ai @okc2 (ai @len2 (ai @tk2 (ai @dr2 @ZBp)))))))))));refine gC (ZDw hok1) ?_;clear F)
 (have F:=ai @okc0 (ai @len0 (ai @tk0 (ai @dr0 (ai @okc1 (ai @len1 (ai @tk1 (ai @dr1 (ai @okc2 (ai @len2 (ai @tk2 (ai @dr2 @ZBp)))))))))));refine gR ?_;clear F)
 (have F:=ai @okc0 (ai @len0 (ai @tk0 (ai @dr0 (ai @okc1 (ai @len1 (ai @tk1 (ai @dr1 (ai @okc2 (ai @len2 (ai @tk2 (ai @dr2 @ZBp)))))))))));refine gG ?_;clear F)
 refine gB ?_
 (have F:=ai @okc0 (ai @len0 (ai @tk0 (ai @dr0 (ai @okc1 (ai @len1 (ai @tk1 (ai @dr1 (ai @okc2 (ai @len2 (ai @tk2 (ai @dr2 @ZBp)))))))))));refine gC (cT2) ?_;clear F)
 (have F:=ai @okc0 (ai @len0 (ai @tk0 (ai @dr0 (ai @okc1 (ai @len1 (ai @tk1 (ai @dr1 (ai @okc2 (ai @len2 (ai @tk2 (ai @dr2 @ZBp)))))))))));refine gC (ZDw hok2) ?_;clear F)
 (have F:=ai @okc0 (ai @len0 (ai @tk0 (ai @dr0 (ai @okc1 (ai @len1 (ai @tk1 (ai @dr1 (ai @okc2 (ai @len2 (ai @tk2 (ai @dr2 @ZBp)))))))))));refine gR ?_;clear F)
 (have F:=ai @okc0 (ai @len0 (ai @tk0 (ai @dr0 (ai @okc1 (ai @len1 (ai @tk1 (ai @dr1 (ai @okc2 (ai @len2 (ai @tk2 (ai @dr2 @ZBp)))))))))));refine gG ?_;clear F)
 refine gB ?_
 (have F:=ai @okc0 (ai @len0 (ai @tk0 (ai @dr0 (ai @okc1 (ai @len1 (ai @tk1 (ai @dr1 (ai @okc2 (ai @len2 (ai @tk2 (ai @dr2 @ZBp)))))))))));refine gC (cT3) ?_;clear F)
 (have F:=ai @okc0 (ai @len0 (ai @tk0 (ai @dr0 (ai @okc1 (ai @len1 (ai @tk1 (ai @dr1 (ai @okc2 (ai @len2 (ai @tk2 (ai @dr2 @ZBp)))))))))));refine gC (ZCy hok3) ?_;clear F)
 (have F:=ai @okc0 (ai @len0 (ai @tk0 (ai @dr0 (ai @okc1 (ai @len1 (ai @tk1 (ai @dr1 (ai @okc2 (ai @len2 (ai @tk2 (ai @dr2 @ZBp)))))))))));refine gR ?_;clear F)
 (have F:=ai @okc0 (ai @len0 (ai @tk0 (ai @dr0 (ai @okc1 (ai @len1 (ai @tk1 (ai @dr1 (ai @okc2 (ai @len2 (ai @tk2 (ai @dr2 @ZBp)))))))))));refine gG ?_;exact gT)
theorem ZEc (w:World) (hT:ZcX w) (row0:List C) (S0:Nat->Prop) (us0:List Value) (hok0:Zan (sigF) row0) (hv0:Zaa w S0 row0 us0) (row1:List C) (S1:Nat->Prop) (us1:List Value) (hok1:Zan (Zab .term) row1) (hv1:Zaa w S1 row1 us1) (row2:List C) (S2:Nat->Prop) (us2:List Value) (hok2:Zan (Zab .term) row2) (hv2:Zaa w S2 row2 us2) (rows3:List (List C)) (S3:Nat->Prop) (u3:Value) (hok3:Zaq (Zab .binding) rows3) (hv3:Rep w S3 (.sl rows3) u3) :
  Calls Tryz.prog 6 #[(.agg us0.toArray:Value),(.agg us1.toArray:Value),(.agg us2.toArray:Value),u3] w fun e w'=>e=.returned (.bool true)∧Below w.heap.size w w':=by
 obtain ⟨g,rfl,k0⟩:=ZDK hok0
 obtain ⟨x,rfl,k1⟩:=ZDR hok1
 obtain ⟨y,rfl,k2⟩:=ZDR hok2
 obtain ⟨l,rfl,k3⟩:=ZCW hok3
 have hc:=(ZEe hok0 hok1 hok2 hok3 (fun b0 b1 b2 b3=>ZEk k0 k1 b1 k2 b2 k3 b3) (fun b0 b1 b2 b3=>ZEl k0 k1 b1 k2 b2 k3 b3)).2 w (fun b=>b < w.heap.size∧b≠2) [(.agg us0.toArray:Value),(.agg us1.toArray:Value),(.agg us2.toArray:Value),u3] (fun b hb=>⟨hb.1,hb.2⟩) (ZDM hT) hT
  ⟨⟨us0,rfl,Zaa.off (ZDL hT) _ _ _ hok0 hv0.inside'⟩,⟨us1,rfl,Zaa.off (ZDL hT) _ _ _ hok1 hv1.inside'⟩,⟨us2,rfl,Zaa.off (ZDL hT) _ _ _ hok2 hv2.inside'⟩,Rep.off (ZDL hT) (.sl .binding) _ _ (by simpa only [okC] using hok3) ((Rep.inside _ _ hv3).mono (fun b hb=>hb.2)),trivial⟩
 refine hc.mono fun e w' ⟨v,h1,h2,h3,h4⟩=>⟨?_,h2.belowT hT h3⟩
 have h4:v=.bool true:=by simpa [retA,ARel,DRel,Rep] using h4
 rw [h1,h4]
end Go.Proofs.YtffmjghcpgpfpaaGreatDoor
namespace Go.Proofs.YtffmjghcpgpfpaaGreatDoor
open Go.ChangeShapes Go.WideShapes Go.ChangeAt Go.RowKit Go.Deep
set_option maxRecDepth 100000 in
theorem ZD2 (os:Os) (started:os.Started) (H:Type) (enc:TypeId × Value->H) :
  ReturnsInHanded {} Tryz.checked os 6 .any (fun w args=>(Rows.fnExactIsMatchSpec.pre enc Tryz.prog Tryz.f6 Rows.fnExactIsMatchRow.domain false w args∧laidMetH Tryz.prog ZnH w)∧sizedMet enc Tryz.prog Tryz.f6 (OpenSpec.ofChange Rows.fnExactIsMatchSpec) false w args) (Rows.fnExactIsMatchSpec.post enc Tryz.prog Tryz.f6 false true false false):=by
 refine ZCP (C:=Tryz.checked) (X:=fun w _=>laidMetH Tryz.prog ZnH w) (fun _ _ _ hh h=>h.of_heap hh) own started (by kernel_rfl) Tryz.func6
  (ChangeSpec.witness_shaped (enc:=enc) (C:=Tryz.checked) (os:=os) (X:=fun w _=>laidMetH Tryz.prog ZnH w) false (World.doorLaid Tryz.prog 24 os) #[.agg #[.slice none 0 0,.slice none 0 0,.slice none 0 0],.agg #[.int .i64 0,.string .empty,.int .i64 0,.slice none 0 0],.agg #[.int .i64 0,.string .empty,.int .i64 0,.slice none 0 0],.slice none 0 0] 8 rfl (World.shaped_of_RefB (by kernel_rfl) (by kernel_rfl)) (by kernel_rfl) (by kernel_rfl) (by kernel_rfl) (ZDB os _)) ?_
 intro W base args ds gs before hval0 hW _ _ hL hS _
 have hT:=ZDC hL hS
 have hval:∀ (j:Nat) t v,Tryz.f6.params[j]?=some t->args[j]?=some v->Value.okWide Tryz.prog W .any base t v:=hval0
 have hW':=hW
 obtain ⟨p,q,hA0,hV,rfl,_,_⟩:=hW
 have hA:DataW.TrodAll enc Tryz.prog W 0 (fun _=>true) true Tryz.f6.params.toList args.toList ds p:=hA0
 rw [Tryz.params6] at hA hval
 obtain ⟨v0,vs0,d0,ds0,p0,q0,hargs0,hd0,hp0,h0,r0⟩:=trodAll_cons hA
 obtain ⟨v1,vs1,d1,ds1,p1,q1,hargs1,hd1,hp1,h1,r1⟩:=trodAll_cons r0
 obtain ⟨v2,vs2,d2,ds2,p2,q2,hargs2,hd2,hp2,h2,r2⟩:=trodAll_cons r1
 obtain ⟨v3,vs3,d3,ds3,p3,q3,hargs3,hd3,hp3,h3,r3⟩:=trodAll_cons r2
 obtain ⟨e4,e4d,_⟩:=trodAll_nil r3
 rw [e4] at hargs3
 rw [hargs3] at hargs2
 rw [hargs2] at hargs1
 rw [hargs1] at hargs0
 obtain rfl:args=#[v0,v1,v2,v3]:=by cases args;simp_all
 rw [e4d] at hd3
 rw [hd3] at hd2
 rw [hd2] at hd1
 rw [hd1] at hd0
 subst hd0
 obtain ⟨rfl,rfl⟩:=trodVars_none hV
 obtain ⟨cs0,rfl,_⟩:=okWide_struct Tryz.underlying28 (hval 0 28 v0 rfl rfl)
 obtain ⟨fuel0,hf0⟩:=h0
 obtain ⟨row0,hok0,hrep0⟩:=ZDz ZDJ fuel0 _ _ _ _ ZCD hf0
 have e0c:(Value.agg cs0).cells.toList.toArray=cs0:=by simp [Value.cells]
 obtain ⟨cs1,rfl,_⟩:=okWide_struct Tryz.underlying32 (hval 1 32 v1 rfl rfl)
 obtain ⟨fuel1,hf1⟩:=h1
 obtain ⟨row1,hok1,hrep1⟩:=ZDz ZDJ fuel1 _ _ _ _ Zeu hf1
 have e1c:(Value.agg cs1).cells.toList.toArray=cs1:=by simp [Value.cells]
 obtain ⟨cs2,rfl,_⟩:=okWide_struct Tryz.underlying32 (hval 2 32 v2 rfl rfl)
 obtain ⟨fuel2,hf2⟩:=h2
 obtain ⟨row2,hok2,hrep2⟩:=ZDz ZDJ fuel2 _ _ _ _ Zeu hf2
 have e2c:(Value.agg cs2).cells.toList.toArray=cs2:=by simp [Value.cells]
 obtain ⟨fuel3,hf3⟩:=h3
 have hone3:=ZDj Tryz.underlying52 (hval 3 52 v3 rfl rfl)
 rw [hone3] at hf3
 obtain ⟨row3,hok3,hrep3⟩:=ZDz ZDJ fuel3 _ _ _ _ ZCB hf3
 obtain ⟨rows3,hok3',hrep3'⟩:=ZDG hok3 hrep3
 have hlaw:=ZEc W hT row0 _ _ hok0 hrep0 row1 _ _ hok1 hrep1 row2 _ _ hok2 hrep2 rows3 _ _ hok3' hrep3'
 rw [e0c,e1c,e2c] at hlaw
 refine hlaw.mono fun e W' ⟨he,hb⟩=>?_
 subst he
 exact ⟨_,rfl,ZDA ZDF rfl rfl Tryz.underlying4 (by rw [Tryz.params6];decide +kernel) hW' rfl hb⟩
set_option maxRecDepth 100000 in
theorem ZD3:joinedFacts Tryz.checked.prog 6 Tryz.f6 Rows.fnExactIsMatchSpec Rows.fnExactIsMatchRow=true:=by
 unfold joinedFacts
 simp only [Bool.and_eq_true]
 and_intros
 all_goals as_aux_lemma=>kernel_rfl
theorem ZDW:Tryz.checked.prog.funcNamed Rows.fnExactIsMatchRow.func=some 6:=by kernel_rfl
theorem ZEm:Rows.FnExactIsMatchSaid :=
 OpenClaim.holds_of_wide 6 Tryz.f6 rfl rfl rfl rfl rfl rfl rfl ⟨rfl,rfl,rfl,rfl,rfl⟩ rfl rfl rfl rfl rfl ZDW Tryz.func6 ZD3
  (of_decide_eq_true (by kernel_rfl)) (by unfold Func.isWrapper;rw [if_neg (of_decide_eq_false (by kernel_rfl))];exact ⟨rfl,rfl⟩)
  (fun os started H enc _=>ZD2 os started H enc)
theorem isMatch_holds_card:Rows.FnExactIsMatchCardSaid :=
 Claim7.holds_tied_plain_at .later [] [.data,.data,.data] true _ false ZEm (fun _ h=>by cases h) (by kernel_rfl) (fun _ h=>by cases h) fnExactIsMatch_row_tie rfl ⟨rfl,rfl⟩ (by kernel_rfl) rfl
  (fun f fn hf hfn=>by
   obtain rfl:f=6:=Option.some.inj (ZDW.symm.trans hf) |>.symm
   obtain rfl:fn=Tryz.f6:=(Option.some.inj (Tryz.func6.symm.trans hfn)).symm
   refine ⟨by kernel_rfl,fun j t ht=>?_⟩
   rw [Tryz.params6] at ht
   have hm:=Array.mem_of_getElem? ht
   have hw:([28,32,32,52]:List TypeId).all (fun t=>!Tryz.prog.wantsStandIn t)=true:=by kernel_rfl
   have:=List.all_eq_true.1 hw t (by simpa using hm)
   have h2:Tryz.prog.wantsStandIn t=false:=by simpa using this
   exact h2)
  (by kernel_rfl)
#print axioms isMatch_holds_card
end Go.Proofs.YtffmjghcpgpfpaaGreatDoor
