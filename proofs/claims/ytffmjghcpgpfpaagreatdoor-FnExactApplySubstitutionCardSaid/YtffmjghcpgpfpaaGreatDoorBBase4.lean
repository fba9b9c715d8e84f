/-
  Part of a proof: Bs, Ka, Kb, Mo, Sr, Bg, Dq, Sk, Sj, Qv, Bx, QcSignature, QcTerm, QcBindingS.
-/
import Derived.Test.YtffmjghcpgpfpaaGreatDoorBBase0
import Derived.Test.YtffmjghcpgpfpaaGreatDoorBBase1
import Derived.Test.YtffmjghcpgpfpaaGreatDoorBBase2
import Derived.Test.YtffmjghcpgpfpaaGreatDoorBBase3
import Derived.Lib.AppendStr
import Derived.Laws.BytesString
set_option linter.unusedSimpArgs false
set_option linter.unusedVariables false
set_option maxHeartbeats 400000000
namespace Go.Proofs.YtffmjghcpgpfpaaGreatDoor
open Go.RowKit
section
variable {P:Program} {w:World}
theorem ZwV (ts:Array TypeId) (t ty e:TypeId) (i:TypeInfo) (z:Value) (h0:ts[0]?=some t) {t2:TypeId} (h1:ts[1]?=some t2) (ht2:P.underlying t2=some .string) (ht:P.underlying t=some (.slice e)) (hi:P.info? e=some i) (hz:i.zero=some z) (b:Option Addr) (sLen sCap:Nat) (olds:List Value) (x:Value) (n:Nat) (news:List Value)
  (hln:(Builtin.lenOf x).run P w=.ok n w) (hfo:(Builtin.firstCells i.size sLen (.slice b sLen sCap)).run P w.drew=.ok olds.toArray w.drew) (hf:(Builtin.firstCells i.size n x).run P w.drew=.ok news.toArray w.drew) (hg:sCap < sLen+n) (h63:((sLen+n:Nat):Int)<=9223372036854775807) (hfit:Builtin.nextslicecap (sLen+n) sCap * i.bytes<=281474976710656) :
  (Builtin.append_ ts ty #[.slice b sLen sCap,x]).run P w=.ok (.slice (some ⟨w.heap.size,0,none⟩) (sLen+n) (grownCap w (sLen+n) sCap e)) (w.drew.alloc (.cells (olds.toArray++news.toArray++Builtin.zeroCells z.cells (grownCap w (sLen+n) sCap e - (sLen+n))) e)):=by
 have hn:¬ (sLen+n<=sCap):=by omega
 have h63':¬ (9223372036854775807 < ((sLen:Int)+(n:Int))):=by omega
 have h48':¬ (281474976710656 < Builtin.nextslicecap (sLen+n) sCap * i.bytes):=by omega
 have e1:olds.toArray++(news.toArray++Builtin.zeroCells z.cells (grownCap w (sLen+n) sCap e - (sLen+n)))=(olds++news).toArray++Builtin.zeroCells z.cells (grownCap w (sLen+n) sCap e - (sLen+n)):=by
  apply Array.toList_inj.1;simp
 unfold grownCap at e1
 simp [Builtin.append_,h0,h1,run_underlying ht,run_underlying ht2,sizeOf,typeInfo,zeroValue,hi,hz,hln,hn,h63',h48',Question.forced,hf,hfo,newRow,grownCap,e1]
theorem ZwW (ts:Array TypeId) (t ty e:TypeId) (i:TypeInfo) (h0:ts[0]?=some t) {t2:TypeId} (h1:ts[1]?=some t2) (ht2:P.underlying t2=some .string) (ht:P.underlying t=some (.slice e)) (hi:P.info? e=some i) (g sLen sCap:Nat) (cur:Array Value) (hg:w.heap[g]?=some (.cells cur e (0,0))) (x:Value) (n:Nat) (news:List Value)
  (hln:(Builtin.lenOf x).run P w=.ok n w) (hf:(Builtin.firstCells i.size n x).run P w=.ok news.toArray w) (hone:∀ u∈news,u.oneCell'=true) (hroom:sLen+n<=sCap) (hfit:sLen * i.size+news.length<=cur.size) :
  (Builtin.append_ ts ty #[.slice (some ⟨g,0,none⟩) sLen sCap,x]).run P w=.ok (.slice (some ⟨g,0,none⟩) (sLen+n) sCap) (w.setRow g (cur.toList.take (sLen * i.size)++news++cur.toList.drop (sLen * i.size+news.length)).toArray):=by
 have hst:=run_storeCells_at P g (sLen * i.size) e news 0 cur w hg (by simpa using hfit) hone
 simp only [Nat.add_zero] at hst
 simp [Builtin.append_,h0,h1,run_underlying ht,run_underlying ht2,sizeOf,typeInfo,hi,hln,hroom,hf,Addr.add_lit,hst]
theorem ZwX (ts:Array TypeId) (t ty e:TypeId) (i:TypeInfo) (h0:ts[0]?=some t) {t2:TypeId} (h1:ts[1]?=some t2) (ht2:P.underlying t2=some .string) (ht:P.underlying t=some (.slice e)) (hi:P.info? e=some i) (b:Option Addr) (x:Value)
  (hln:(Builtin.lenOf x).run P w=.ok 0 w) (hf:(Builtin.firstCells i.size 0 x).run P w=.ok #[] w) :
  (Builtin.append_ ts ty #[.slice b 0 0,x]).run P w=.ok (.slice b 0 0) w:=by
 cases b <;> simp [Builtin.append_,h0,h1,run_underlying ht,run_underlying ht2,sizeOf,typeInfo,hi,hln,hf,storeCells]
end
section
variable {e:Env} {U:Nat->Prop} {w0:World} {S0:Nat->Prop} {nt:Nat} {σ:St} {a:Act} {w:World} {S:Nat->Prop} {L:Lay} {o:Oper}
theorem Zpj (he:e.Ok) (hC:Cls e U w0.heap.size S0 σ.m w S L) {ts:Array TypeId} {t ty:TypeId} {ety sz by':Nat} (h0:ts[0]?=some t) {t2:TypeId} (h1:ts[1]?=some t2) (ht2:e.P.underlying t2=some .string) (hb:ZaT e.P t=some (ety,sz,by')) {rows ys:List (List C)} {v u:Value}
  (hv:ZaJ w S ety sz rows v∨(DRel w S (.clip rows) v∧(rows=[]∨ys≠[]))) (hrl:ZaH sz rows) (hyl:ZaH sz ys) (hle:rows.length+ys.length<=maxApp)
  (hy:∃ (news:List Value),(∀ w',(Builtin.lenOf u).run e.P w'=.ok ys.length w')∧Zaa w S ys.flatten news∧∀ (P:Program) (w':World),(∀ p,w'.cell? p=w.cell? p)->(Builtin.firstCells sz ys.length u).run P w'=.ok news.toArray w') :
  ∃ v' w',(Builtin.append_ ts ty #[v,u]).run e.P w=.ok v' w'∧ZaJ w' S ety sz (rows++ys) v'∧∃ τ:Option Nat,Kept e.D (fun b=>τ=some b) w.heap.size w w'∧(∀ g,τ=some g->vblk v=some g∧ZaJ w S ety sz rows v)∧(∀ g,vblk v'=some g->τ=some g∨w.heap.size<=g):=by
 obtain ⟨i,z,hu,hi,hz,hsz,hby,hzs,hs0,hb4⟩:=ZcT hb
 obtain ⟨news,hln,hnews,hf⟩:=hy
 have hnl:news.length=ys.length * sz:=by rw [hnews.len,ZbE hyl]
 have hone:=ZdF (Ziz hyl) hnews
 have hm30:rows.length+ys.length<=1073741824:=hle
 have hbytes:(rows.length+ys.length) * i.bytes<=140737488355328:=by
  have h2:(rows.length+ys.length) * i.bytes<=1073741824 * 4096:=Nat.mul_le_mul hm30 om
  omega
 have hrl2:ZaH sz (rows++ys):=hrl.append hyl
 have grow:∀ (b:Option Addr) (cap:Nat) (olds:List Value),v=.slice b rows.length cap->cap < rows.length+ys.length->Zaa w S rows.flatten olds->(∀ (P:Program) (w':World),(∀ p,w'.cell? p=w.cell? p)->(Builtin.firstCells sz rows.length v).run P w'=.ok olds.toArray w') ->
   ∃ v' w',(Builtin.append_ ts ty #[v,u]).run e.P w=.ok v' w'∧ZaJ w' S ety sz (rows++ys) v'∧∃ τ:Option Nat,Kept e.D (fun b=>τ=some b) w.heap.size w w'∧(∀ g,τ=some g->vblk v=some g∧ZaJ w S ety sz rows v)∧(∀ g,vblk v'=some g->τ=some g∨w.heap.size<=g):=by
  intro b cap olds hv hlt hol hfo
  have h63:rows.length+ys.length<=maxLen:=by unfold maxLen;omega
  have hrun:=ZwV ts t ty ety i z h0 h1 ht2 hu hi hz b rows.length cap olds u ys.length news (hln w) (by rw [hsz,<- hv];exact hfo _ _ (Zf4 w)) (by rw [hsz];exact hf _ _ (Zf4 w)) hlt om (growslice_fits om hbytes)
  rw [<- hv] at hrun
  have hge:=grownCap_ge w (rows.length+ys.length) cap ety
  have hcm:=grownCap_le_maxLen w (rows.length+ys.length) cap ety h63
  generalize hcap:grownCap w (rows.length+ys.length) cap ety=nc at hrun hge hcm
  have hcl:olds.length=rows.length * sz:=by rw [hol.len,ZbE hrl]
  have hk:Kept e.D (fun b=>(none:Option Nat)=some b) w.heap.size w (w.drew.alloc (.cells (olds.toArray++news.toArray++Builtin.zeroCells z.cells (nc - (rows.length+ys.length))) ety)) :=
   ⟨rfl,rfl,rfl,fun _=>Nat.le_succ _,by simp,fun k hk _=>heap_alloc_old w.drew _ hk⟩
  have hheap:=heap_alloc_new w.drew (.cells (olds.toArray++news.toArray++Builtin.zeroCells z.cells (nc - (rows.length+ys.length))) ety)
  have hsW:(w.drew.alloc (.cells (olds.toArray++news.toArray++Builtin.zeroCells z.cells (nc - (rows.length+ys.length))) ety)).heap.size=w.heap.size+1:=by simp
  have e1:olds.toArray++news.toArray++Builtin.zeroCells z.cells (nc - (rows.length+ys.length))=((olds++news)++(Builtin.zeroCells z.cells (nc - (rows.length+ys.length))).toList).toArray:=by
   apply Array.toList_inj.1;simp
  rw [e1] at hrun hk hheap hsW
  generalize w.drew.alloc (.cells ((olds++news)++(Builtin.zeroCells z.cells (nc - (rows.length+ys.length))).toList).toArray ety)=W at hrun hk hheap hsW
  refine ⟨_,_,hrun,?_,none,hk,by simp,fun g hg=>?_⟩
  ·have hlen:rows.length+ys.length=(rows++ys).length:=by simp
   rw [hlen]
   refine ZhJ (w:=w) (cells:=olds++news) (rest:=(Builtin.zeroCells z.cells (nc - (rows.length+ys.length))).toList) (n:=0) hs0 hrl2 hk.size (fun b o hs=>Zbl (hk.block b (hC.sin b hs).1 (by simp)) o) ?_ (by simp;omega) hcm om (g:=w.heap.size) om (fun hs=>by have:=(hC.sin _ hs).1;omega) ?_ ?_
   ·rw [List.flatten_append];exact Zaa.app hol hnews
   ·exact hheap
   ·simp only [List.length_append,Array.length_toList,size_zeroCells,hzs,hcl,hnl,<- Nat.add_mul]
    congr 1
    omega
  ·simp only [vblk] at hg
   split at hg
   ·cases hg
   ·injection hg with hg;exact .inr om
 have stay:∀ (b:Option Addr),rows=[]->ys=[]->v=.slice b 0 0->∃ v' w',(Builtin.append_ ts ty #[v,u]).run e.P w=.ok v' w'∧ZaJ w' S ety sz (rows++ys) v'∧∃ τ:Option Nat,Kept e.D (fun b=>τ=some b) w.heap.size w w'∧(∀ g,τ=some g->vblk v=some g∧ZaJ w S ety sz rows v)∧(∀ g,vblk v'=some g->τ=some g∨w.heap.size<=g):=by
  intro b hr hy hvb
  subst hr hy
  have hn0:news=[]:=List.eq_nil_of_length_eq_zero (by simpa using hnl)
  have hrun:=ZwX (P:=e.P) (w:=w) ts t ty ety i h0 h1 ht2 hu hi b u (hln w) (by rw [hsz];have:=hf e.P w (fun _=>rfl);rw [hn0] at this;simpa using this)
  rw [hvb]
  refine ⟨_,_,hrun,⟨hs0,by simpa using ZaH.nil,.inl ⟨by simp,b,rfl⟩⟩,none,Kept.refl _ _ _ _,by simp,fun g hg=>?_⟩
  cases b <;> simp [vblk] at hg
 rcases hv with hv | ⟨hv,hne⟩
 ·have hv0:=hv
  obtain ⟨_,_,h3⟩:=hv
  rcases h3 with ⟨hr,b,hvb⟩ | ⟨g,cap,cur,hvb,hc,hg,hs,hh,hlc,hm,hcs,hr⟩
  ·by_cases hy0:ys=[]
   ·exact stay b hr hy0 hvb
   ·have hyl0:0 < ys.length:=List.length_pos_iff.2 hy0
    subst hr
    refine grow b 0 [] hvb (by simpa using hyl0) (by simp [Zaa]) (fun P w' _=>?_)
    rw [hvb]
    cases b <;> simp [Builtin.firstCells,loadCells,loadCellsFrom]
  ·by_cases hroom:rows.length+ys.length<=cap
   ·have hfit:rows.length * i.size+news.length<=cur.size:=by rw [hnl,hsz,hcs,<- Nat.add_mul];exact Nat.mul_le_mul_right _ hroom
    have hrun:=ZwW (P:=e.P) (w:=w) ts t ty ety i h0 h1 ht2 hu hi g rows.length cap cur hh u ys.length news (hln w) (by rw [hsz];exact hf _ _ (fun _=>rfl)) hone hroom hfit
    rw [<- hvb] at hrun
    rw [hsz] at hrun hfit
    have hput:=ZdE w g (rows.length * sz) ety news cur hh hfit
    have hheap:=setRow_heap w g cur (cur.toList.take (rows.length * sz)++news++cur.toList.drop (rows.length * sz+news.length)).toArray ety _ hh
    have hdr:(w.setRow g (cur.toList.take (rows.length * sz)++news++cur.toList.drop (rows.length * sz+news.length)).toArray).drawn=w.drawn:=Zdw _ _ _
    generalize hW:w.setRow g (cur.toList.take (rows.length * sz)++news++cur.toList.drop (rows.length * sz+news.length)).toArray=W at hrun hput hheap hdr
    have hszW:W.heap.size=w.heap.size:=hput.size
    have hkc:∀ b o,S b->W.cell? ⟨b,o,none⟩=w.cell? ⟨b,o,none⟩:=fun b o hsb=>Zbl (hput.other b (fun e=>hs (e ▸ hsb))) o
    refine ⟨_,_,hrun,⟨hs0,hrl2,.inr ⟨g,cap,_,by simp,hc,by omega,hs,hheap,by simpa using hroom,hm,by simp;omega,?_⟩⟩,some g,⟨hput.os,hput.tape,hput.output,fun _=>Nat.le_of_eq hdr.symm,by omega,fun b hb hE=>hput.other b (fun eq=>hE (by rw [eq]))⟩,fun q hq=>?_,fun q hq=>?_⟩
    ·apply Zao.of_flat
     rw [List.flatten_append]
     have r1:=Zaf.keepAt (S':=S) om hkc (fun _ h=>h) g 0 rows.flatten (fun j hj=>hput.old _ (.inl (by rw [ZbE hrl] at hj;omega))) hr.flat
     refine Zaf.append _ _ 0 r1 ?_
     rw [ZbE hrl,Nat.zero_add]
     exact Zaf.of_vals _ news _ (Zaa.keep2 om hkc (fun _ h=>h) hnews) hput.new
    ·injection hq with hq;subst hq
     exact ⟨by rw [hvb];simp only [vblk];rw [if_neg om],hv0⟩
    ·simp only [vblk] at hq
     rw [if_neg om] at hq
     exact .inl hq
   ·obtain ⟨b',cap',olds,q1,_,_,q2,q3⟩:=ZhI hv0
    rw [hvb] at q1
    injection q1 with e1 e2 e3
    exact grow _ _ olds hvb om q2 q3
 ·obtain ⟨hrep,b,n,hvb⟩:=hv
  obtain ⟨b',cap',olds,q1,q2,q3,q4,q5⟩:=Zf3 hrl hrep
  rw [hvb] at q1
  injection q1 with e1 e2 e3
  by_cases hy0:ys=[]
  ·have hr:rows=[]:=by
    rcases hne with h | h
    ·exact h
    ·exact absurd hy0 h
   refine stay b hr hy0 ?_
   rw [hvb]
   have:n=0:=by rw [e2,hr];rfl
   rw [this]
  ·have hyl0:0 < ys.length:=List.length_pos_iff.2 hy0
   exact grow b n olds (by rw [hvb,e2]) om q4 q5
end
def byR (s:ByteArray):List (List C):=s.data.toList.map fun b=>[.lit (.int .u8 b.toNat)]
theorem Zdl (s:ByteArray):(byR s).length=s.size:=by rw [byR,List.length_map,Array.length_toList];rfl
theorem Zor (s:ByteArray):ZaH 1 (byR s):=fun r hr=>by
 obtain ⟨b,_,rfl⟩:=List.mem_map.1 hr
 exact ⟨rfl,rfl⟩
theorem ZiR (s t:ByteArray):byR s++byR t=byR (s++t):=by
 rw [byR,byR,byR,<- List.map_append]
 congr 1
theorem Zyb (s:ByteArray):(byR s).flatten=(Lib.strCells s).map C.lit:=by
 rw [byR,Lib.strCells,List.map_map]
 induction s.data.toList with
 | nil=>rfl
 | cons b l ih=>simp only [List.map_cons,List.flatten_cons,ih,List.cons_append,List.nil_append];rfl
theorem Zis {w:World} {S:Nat->Prop}:∀ vs:List Value,Zaa w S (vs.map C.lit) vs
 | []=>by simp [Zaa]
 | v::vs=>by simp only [List.map_cons,Zaa,Rep];exact ⟨trivial,Zis vs⟩
section
variable {e:Env} {K:St->Prop} {ds:List (Option Nat)} {os:List Oper} {s:List (Nat × A)} {m:List (Nat × Bk)}
theorem ZwY {σ:St} {o:Oper} {x y:Operand} {t t2 ety by' k d:Nat} {rows:List (List C)} {oa:Option (Option Addr × Nat)} {str:ByteArray} (ho:o.op=.call ⟨.builtin .append,#[x,y],#[t,t2]⟩) (hdd:o.dst=some d) (hb:ZaT e.P t=some (ety,1,by')) (ht2:e.P.underlying t2=some .string)
  (hx:evA σ.s x=.buf k) (hm:gm σ.m k=some (.buf oa ety 1 rows)) (hy:evA σ.s y=.d (.one (.lit (.string str)))) (hle:rows.length+(byR str).length<=maxApp) (hK:K ⟨(d,.buf d)::Zat d (Zat k σ.s),(d,.buf none ety 1 (rows++byR str))::remM d (remM k σ.m)⟩):Zbm e o σ K:=by
 intro he U w0 S0 nt a w Q hd ⟨S,L,h⟩
 have hx':a.eval x=L.v k:=by have:=h.eval x;rw [hx] at this;exact this
 have hy':a.eval y=.string str:=by have:=h.eval y;rw [hy] at this;simpa [ARel,DRel,Rep] using this
 have ho':ZaJ w S ety 1 rows (L.v k):=(h.cls.own k _ hm).2
 obtain ⟨v',w',hrun,hbuf,τ,hk,hτ,hblk⟩:=Zpj (ty:=o.type) (ts:=#[t,t2]) (v:=L.v k) (u:=.string str) he h.cls rfl rfl ht2 hb (.inl ho') ho'.2.1 (Zor str) hle
  ⟨Lib.strCells str,fun w'=>by simp [Builtin.lenOf,Zdl],by rw [Zyb];exact Zis _,fun P w' _=>by rw [Zdl];exact Lib.run_firstCells_string w' 1 str⟩
 unfold Oper.wp
 have hr2:(execOp a.eval o).run e.P w=.ok (.value v') w':=by
  simp [execOp,ho,resolve,invoke,builtin,hx',hy',hrun,Result.andThen]
 rw [hr2,Oper.upon_value,hdd]
 refine ⟨_,hK,h.born he (hd d hdd) (τ:=τ) (b':=0) (v':=v') (s1:=Zat k σ.s) (m1:=remM k σ.m) (fun _ h=>h) (fun _ h=>.inl h) (fun t=>?_) (fun k' x hx=>?_) (fun g hg=>?_) (fun k' x g hkd hx hg hb'=>?_) hk ?_ (fun g hg=>?_) (by simp [ARel])⟩
 ·rcases Zdx k t σ.s with ⟨h1,_⟩ | h1
  ·exact .inl h1
  ·exact .inr h1
 ·rw [ZaX] at hx
  split at hx
  ·cases hx
  ·exact hx
 ·have hg':=(hτ g hg).1
  exact ⟨(Own1.lt (k:=k) (L:=L) (bk:=.buf none ety 1 rows) ⟨by simp,ho'⟩ hg').2,h.cls.notE hm hg',h.cls.mine k _ g hm hg'⟩
 ·have hg':=(hτ g hg).1
  rw [ZaX] at hx
  split at hx
  ·cases hx
  ·rename_i hne'
   exact hne' (h.cls.inj k' k x _ g hx hm hb' hg')
 ·simp only [Own1,if_true];exact ⟨by simp,hbuf⟩
 ·simp only [Zay,if_true] at hg
  exact hblk g hg
theorem Zma:∀ (l:List UInt8) (acc:ByteArray),(l.map fun b=>(b.toNat:Int)).foldl (fun r n=>r.push (UInt8.ofNat n.toNat)) acc=⟨acc.data++l.toArray⟩
 | [],acc=>by simp
 | b::l,acc=>by
  rw [List.map_cons,List.foldl_cons,Zma l]
  have hb:UInt8.ofNat ((b.toNat:Int)).toNat=b:=by simp
  rw [hb]
  simp [ByteArray.push]
theorem Zyc (s:ByteArray):(s.data.toList.map fun b=>(b.toNat:Int)).foldl (fun r n=>r.push (UInt8.ofNat n.toNat)) ByteArray.empty=s:=by
 rw [Zma]
 show (⟨#[]++s.data.toList.toArray⟩:ByteArray)=s
 simp
theorem Zpk {σ:St} {o:Oper} {t d:TypeId} {x:Operand} {k ety:Nat} {oa:Option (Option Addr × Nat)} {str:ByteArray} (ho:o.op=.convert t d x) (hx:evA σ.s x=.buf k) (hm:gm σ.m k=some (.buf oa ety 1 (byR str))) (ht:ZeC e.P t d=true) (hK:K ⟨setA σ.s o.dst (.d (.one (.lit (.string str)))),σ.m⟩):Zbm e o σ K:=by
 intro he U w0 S0 nt a w Q hd ⟨S,L,h⟩
 have hx':a.eval x=L.v k:=by have:=h.eval x;rw [hx] at this;exact this
 have ho':ZaJ w S ety 1 (byR str) (L.v k):=(h.cls.own k _ hm).2
 have hrun:(convert t d (L.v k)).run e.P w=.ok (.string str) w:=by
  unfold ZeC at ht
  split at ht
  ·rename_i e1 h1 h2
   split at ht
   ·rename_i h3
    have key:∀ (b:Option Addr) (cap:Nat),L.v k=.slice b str.size cap->(∀ ad,b=some ad->(loadCells ad str.size).run e.P w=.ok ((str.data.toList.map fun b=>(b.toNat:Int)).map (Value.int .u8)).toArray w)->(b=none->str.size=0)->(convert t d (L.v k)).run e.P w=.ok (.string str) w:=fun b cap hv hl hn=>by
     rw [hv,run_convert_bytes_string w t d e1 b _ cap h1 h3 h2]
     cases b with
     | none =>
      have h0:=hn rfl
      have:str=ByteArray.empty:=by
       cases str with
       | mk data=>simp only [ByteArray.size] at h0;rw [Array.eq_empty_of_size_eq_zero h0];rfl
      rw [this]
      simp [Conv.bytesToString]
     | some ad =>
      rw [run_bytesToString w ad _ cap _ (hl ad rfl),Zyc]
    rcases ho'.2.2 with ⟨hr,b,hv⟩ | ⟨g,cap,cur,hv,hc,hg,hs,hh,hlc,hmx,hcs,hr⟩
    ·have h0:str.size=0:=by rw [<- Zdl,hr];rfl
     have hd0:str.data.toList=[]:=List.eq_nil_of_length_eq_zero (by rw [Array.length_toList];exact h0)
     refine key b 0 (by rw [hv,h0]) (fun ad _=>?_) (fun _=>h0)
     rw [h0,hd0]
     simp [loadCells,loadCellsFrom]
    ·rw [Zdl] at hv
     refine key _ cap hv (fun ad had=>?_) (fun hb=>by cases hb)
     injection had with had
     subst had
     have hl:=run_loadCells_list (P:=e.P) w ⟨g,0,none⟩ ((str.data.toList.map fun b=>(b.toNat:Int)).map (Value.int .u8)) (fun j u hj=>by
      rw [List.getElem?_map,List.getElem?_map] at hj
      obtain ⟨b,hb,rfl⟩:∃ b,str.data.toList[j]?=some b∧u=.int .u8 b.toNat:=by
       cases hq:str.data.toList[j]? with
       | none=>rw [hq] at hj;cases hj
       | some b=>rw [hq] at hj;injection hj with hj;exact ⟨b,rfl,hj.symm⟩
      have h1:=Zao.get (byR str) 0 j [.lit (.int .u8 b.toNat)] (k:=1) (fun z hz=>(Zor str z hz).1) hr (by rw [byR,List.getElem?_map,hb];rfl)
      rw [Addr.add_at]
      simpa [Zaf,Rep] using h1)
     rw [List.length_map,List.length_map,Array.length_toList] at hl
     exact hl
   ·cases ht
  ·cases ht
 unfold Oper.wp
 have hr2:(execOp a.eval o).run e.P w=.ok (.value (.string str)) w:=by
  simp [execOp,ho,hx',hrun,Result.andThen]
 rw [hr2,Oper.upon_value]
 exact ⟨_,hK,S,L,h.put (α:=.d (.one (.lit (.string str)))) (by simp [ARel,DRel,Rep]) hd⟩
theorem gSt {d t t2 ty ety by' k:Nat} {p:String} {ed:Array Edge} {x y:Operand} {rows:List (List C)} {oa:Option (Option Addr × Nat)} {str:ByteArray} {s2:List (Nat × A)} {m2:List (Nat × Bk)} (hle:rows.length+(byR str).length<=maxApp) (ht2:e.P.underlying t2=some .string) (hK:Runs e ds 0 os ⟨(d,.buf d)::s2,(d,.buf none ety 1 (rows++byR str))::m2⟩ K)
  (hb:ZaT e.P t=some (ety,1,by'):=by exact sfx) (hx:evA s x=.buf k:=by exact sfx) (hm:gm m k=some (.buf oa ety 1 rows):=by exact snx) (hy:evA s y=.d (.one (.lit (.string str))):=by exact sfx)
  (hs:Zat d (Zat k s)=s2:=by exact snv) (hr:remM d (remM k m)=m2:=by exact snv):Runs e ds 0 (⟨some d,.call ⟨.builtin .append,#[x,y],#[t,t2]⟩,ty,p,ed,none⟩::os) ⟨s,m⟩ K:=by
 subst hs hr
 simp only [Runs] at hK ⊢
 exact Zb9 rfl (ZwY rfl rfl hb ht2 hx hm hy hle hK)
theorem gTx {d t1 t2 ty ety k:Nat} {p:String} {ed:Array Edge} {x:Operand} {oa:Option (Option Addr × Nat)} (str:ByteArray) (ht:ZeC e.P t1 t2=true) (hK:Runs e ds 0 os ⟨(d,.d (.one (.lit (.string str))))::s,m⟩ K) (hx:evA s x=.buf k:=by exact sfx) (hm:gm m k=some (.buf oa ety 1 (byR str)):=by exact snx):Runs e ds 0 (⟨some d,.convert t1 t2 x,ty,p,ed,none⟩::os) ⟨s,m⟩ K:=by
 simp only [Runs] at hK ⊢
 exact Zb9 rfl (Zpk (o:=⟨some d,.convert t1 t2 x,ty,p,ed,none⟩) rfl hx hm ht hK)
end
def decS (i:Int):ByteArray:=⟨(decB i).toArray⟩
set_option maxRecDepth 100000 in
theorem ZwZ {i:Int} (h0:0<=i) (h1:i < 14):Con e0 261 [.one (.lit (.int .i64 i))] [.one (.lit (.string (decS i)))]:=by
 have h:i=0∨i=1∨i=2∨i=3∨i=4∨i=5∨i=6∨i=7∨i=8∨i=9∨i=10∨i=11∨i=12∨i=13:=by omega
 rcases h with rfl | rfl | rfl | rfl | rfl | rfl | rfl | rfl | rfl | rfl | rfl | rfl | rfl | rfl
 all_goals (
  have w1:IntKind.i64.wrap (0+1)=1:=by decide
  have w2:IntKind.i64.wrap (1+1)=2:=by decide
  have w3:IntKind.i64.wrap (2+1)=3:=by decide
  have w4:IntKind.i64.wrap (3+1)=4:=by decide
  have w5:IntKind.i64.wrap (4+1)=5:=by decide
  have w6:IntKind.i64.wrap (5+1)=6:=by decide
  have w7:IntKind.i64.wrap (6+1)=7:=by decide
  have w8:IntKind.i64.wrap (7+1)=8:=by decide
  have w9:IntKind.i64.wrap (8+1)=9:=by decide
  have wa:IntKind.i64.wrap (9+1)=10:=by decide
  have u0:IntKind.i64.wrap (10 * 2)=20:=by decide
  have u1:IntKind.i64.wrap (11 * 2)=22:=by decide
  have u2:IntKind.i64.wrap (12 * 2)=24:=by decide
  have u3:IntKind.i64.wrap (13 * 2)=26:=by decide
  have v0:IntKind.i64.wrap (20+2)=22:=by decide
  have v1:IntKind.i64.wrap (22+2)=24:=by decide
  have v2:IntKind.i64.wrap (24+2)=26:=by decide
  have v3:IntKind.i64.wrap (26+2)=28:=by decide
  refine gI (ts:=[.slot 2]) 21 Tryz.func261 ?_
  (have F:=ai @w1 (ai @w2 (ai @w3 (ai @w4 (ai @w5 (ai @w6 (ai @w7 (ai @w8 (ai @w9 (ai @wa (ai @u0 (ai @u1 (ai @u2 (ai @u3 (ai @v0 (ai @v1 (ai @v2 @v3))))))))))))))));refine gG ?_;exact gTd))
theorem ZBw (s:ByteArray):ZaV 1 (byR s)=true:=by
 unfold byR
 induction s.data.toList with
 | nil=>rfl
 | cons b l ih=>simp only [List.map_cons,ZgZ,ih,Bool.and_true];rfl
def RBy (s:ByteArray) (r:List D) (pm:List Bk):Prop:=∃ a cap,r=[.one (.lit (.slice a (byR s).length cap))]∧pm=[.buf (some (a,cap)) 5 1 (byR s)]
theorem ZC3 {P:Program} {t:TypeId} {a b:Int}:binT P .lss t (.int .u64 a) (.int .u64 b)=some (.bool (decide (a < b))):=rfl
theorem Zlo:Zc8 (Tryz.prog.underlying 224)=some .u64:=by kernel_rfl
theorem ZC4:Tryz.prog.underlying 224=some (.int .u64):=by kernel_rfl
theorem ZrL:Zc8 (Tryz.prog.underlying 2)=some .i64:=by kernel_rfl
theorem ZrM:e0.P.underlying 9=some .string:=by kernel_rfl
set_option maxRecDepth 100000 in
theorem Zmb {i:Int} (h0:0<=i) (h1:i < 14) (s:ByteArray) (hl:s.size<=1000000) (a:Option Addr) (cap:Nat):ConP e0 247 [.one (.lit (.slice a (byR s).length cap)),.one (.lit (.int .u64 i)),.one (.lit (.int .i64 10))] [.buf (some (a,cap)) 5 1 (byR s)] (RBy (s++decS i)):=by
 have q1:(i < 100)=True:=eq_true om
 have w1:IntKind.i64.wrap i=i:=IntWalk.i64_in _ om
 have l1:(byR s).length+(byR (decS i)).length<=maxApp:=by
  rw [Zdl,Zdl]
  have:(decS i).size<=3:=by unfold decS decB decN;show (List.toArray _).size<=3;rw [List.size_toArray];split <;> split <;> simp
  unfold maxApp;omega
 refine gIP (ts:=[.slot 6]) [1000] 5575 Tryz.func247 ?_
 (have F:=ai @q1 (ai @ZC3 @tmz);have NN:Zai 3:=trivial;refine gGn ?_;clear F NN)
 refine gB ?_
 (have F:=ai @w1 (ai @Zlo (ai @ZC4 (ai @Ze3 (ai @ZgL @tmz))));refine gC (ZwZ h0 h1) ?_;clear F)
 refine gK 13 ?_
 refine (have F:=tmz;gSt l1 ZrM ?_)
 rw [ZiR]
 refine gS 17 fun a2 cap2=>?_
 (have F:=@tmz;refine gR ?_;clear F)
 (have F:=@tmz;refine gG ?_;clear F)
 exact (have F:=tmz;gTP (R:=RBy (s++decS i)) [17] ⟨a2,cap2,rfl,rfl⟩)
set_option maxRecDepth 100000 in
theorem Zw0 {i:Int} (h0:-1<=i) (h1:i < 14) (s:ByteArray) (hl:s.size<=100000) (a:Option Addr) (cap:Nat):ConP e0 223 [.one (.lit (.slice a (byR s).length cap)),.one (.lit (.int .i64 i)),.one (.lit (.int .i64 10))] [.buf (some (a,cap)) 5 1 (byR s)] (RBy (s++decS i)):=by
 refine gIP (ts:=[.slot 6]) [1000] 2247 Tryz.func223 ?_
 by_cases hn:i < 0
 ·obtain rfl:i=-1:=by omega
  have q1:((-1:Int) < 0)=True:=eq_true om
  have w1:IntKind.u64.wrap (-1)=18446744073709551615:=by decide
  have w2:IntKind.u64.wrap (0 - 18446744073709551615)=1:=by decide
  have l1:(byR s).length+1<=maxApp:=by rw [Zdl];unfold maxApp;omega
  have l2:ZaV 1 (byR s)=true:=ZBw s
  have e1:byR s++[[.lit (.int .u8 45)]]=byR (s++⟨#[45]⟩):=by rw [<- ZiR];rfl
  have e2:s++⟨#[45]⟩++decS 1=s++decS (-1):=by rw [ByteArray.append_assoc];rfl
  have cU:=fun a cap=>Zmb (i:=1) om om (s++⟨#[45]⟩) (by rw [ByteArray.size_append];show s.size+1<=_;omega) a cap
  rw [e2] at cU
  (have F:=ai @q1 (ai @w1 (ai @Zlo (ai @ZrL (ai @ZdM @tmz))));have NN:Zai 3:=trivial;refine gGn ?_;clear F NN)
  refine gB ?_
  (have F:=ai @l1 (ai @l2 (ai @e1 @tmz));refine gR ?_;clear F)
  (have F:=ai @w2 (ai @ZCI @tmz);have NN:Zai 5:=trivial;refine gGn ?_;clear F NN)
  refine pS 0 fun a2 cap2=>?_
  refine gB ?_
  (have F:=@tmz;refine gCP [0] [1001] (cU a2 cap2) ?_;clear F)
  rintro r pm ⟨a3,cap3,rfl,rfl⟩
  simp only [setA,retA,zipM,List.cons_append,List.nil_append]
  (have F:=@tmz;refine gR ?_;clear F)
  (have F:=@tmz;refine gG ?_;clear F)
  exact (have F:=tmz;gTP (R:=RBy (s++decS (-1))) [1001] ⟨a3,cap3,rfl,rfl⟩)
 ·have q1:(i < 0)=False:=eq_false hn
  have w1:IntKind.u64.wrap i=i:=by
   have h:=@Int.emod_eq_of_lt
   unfold IntKind.wrap
   simp only [IntKind.signed,IntKind.bits]
   exact Int.emod_eq_of_lt om om
  have cU:=Zmb om h1 s om a cap
  (have F:=ai @q1 (ai @w1 (ai @Zlo (ai @ZrL (ai @ZdM @tmz))));have NN:Zai 5:=trivial;refine gGn ?_;clear F NN)
  refine gB ?_
  (have F:=@tmz;refine gCP [1000] [1001] (cU) ?_;clear F)
  rintro r pm ⟨a3,cap3,rfl,rfl⟩
  simp only [setA,retA,zipM,List.cons_append,List.nil_append]
  (have F:=@tmz;refine gR ?_;clear F)
  (have F:=@tmz;refine gG ?_;clear F)
  exact (have F:=tmz;gTP (R:=RBy (s++decS i)) [1001] ⟨a3,cap3,rfl,rfl⟩)
set_option maxRecDepth 100000 in
theorem Zjn {i:Int} (h0:-1<=i) (h1:i < 14) (s:ByteArray) (hl:s.size<=100000) (a:Option Addr) (cap:Nat):ConP e0 170 [.one (.lit (.slice a (byR s).length cap)),.one (.lit (.int .i64 i)),.one (.lit (.int .i64 10))] [.buf (some (a,cap)) 5 1 (byR s)] (RBy (s++decS i)):=by
 refine gIP (ts:=[.slot 6]) [1000] 71 Tryz.func170 ?_
 (have F:=@tmz;have NN:Zai 1:=trivial;refine gGn ?_;clear F NN)
 refine gB ?_
 (have F:=@tmz;refine gCP [1000] [1001] (Zw0 h0 h1 s hl a cap) ?_;clear F)
 rintro r pm ⟨a3,cap3,rfl,rfl⟩
 simp only [setA,retA,zipM,List.cons_append,List.nil_append]
 (have F:=@tmz;refine gR ?_;clear F)
 (have F:=@tmz;refine gG ?_;clear F)
 exact (have F:=tmz;gTP (R:=RBy (s++decS i)) [1001] ⟨a3,cap3,rfl,rfl⟩)
def bs (l:List UInt8):ByteArray:=⟨l.toArray⟩
theorem ZkM (l m:List UInt8):bs l++bs m=bs (l++m):=by
 apply ByteArray.ext
 rw [ByteArray.data_append]
 simp [bs]
theorem ZiS (l:List UInt8):(bs l).size=l.length:=by show (List.toArray l).size=_;simp
theorem Zmc (s:ByteArray):bs s.toList=s:=by
 rw [ByteArray.toList_eq]
 unfold bs
 simp
theorem ZrN {i:Int} (h1:i < 100):(decB i).length<=3:=by
 unfold decB decN
 split <;> split <;> simp
mutual
theorem Zos {g:Sgn} (hg:SgnOk g):∀ (t:Tm),ZaO g t->(Zcw t).length<=22 * sizeTm t
 | .mk op nm so args,h=>by
  have h1:=Zmd hg args (by simp only [ZaO] at h;exact h.2.1)
  have hk:=ZfZ hg _ h
  simp only [ZdR] at hk
  obtain ⟨k0,k1,k2,k3,_⟩:=hk
  have d1:=ZrN (i:=op) om
  simp only [Zcw,sizeTm,List.length_append,List.length_cons,List.length_nil]
  split
  ·have d2:=ZrN (i:=so) (by have:=(k2 om).2.2;omega)
   have hn:Zbc nm=true:=by
    rcases h.node with hv | ⟨o,d,hA⟩
    ·exact hv.2.1
    ·have:=hA.lo
     have:(Tm.mk op nm so args).op=op:=rfl
     omega
   have h4:¬ 12 < nm.size:=fun h=>by rw [Zca (.inr (.inl h))] at hn;cases hn
   have h5:nm.toList.length=nm.size:=by rw [ByteArray.toList_eq];exact Array.length_toList
   simp only [List.length_cons,List.length_append]
   omega
  ·simp only [List.length_nil]
   omega
theorem Zmd {g:Sgn} (hg:SgnOk g):∀ (ts:List Tm),ZcH g ts->(ZaZ ts).length<=22 * sizeTms ts
 | [],_=>by simp [ZaZ,sizeTms]
 | t::ts,h=>by
  simp only [ZcH] at h
  have h1:=Zos hg t h.1
  have h2:=Zmd hg ts h.2
  simp only [ZaZ,sizeTms,List.length_append]
  omega
end
theorem Zpl {l:List Tm} {i:Nat} {t:Tm} (h:l[i]?=some t):ZaZ (l.take (i+1))=ZaZ (l.take i)++Zcw t:=by
 rw [show l.take (i+1)=l.take i++[t] by simp [List.take_add_one,h],ZsZ]
 simp [ZaZ]
theorem Zme:∀ (l:List Tm) (i:Nat),(ZaZ (l.take i)).length<=(ZaZ l).length
 | [],i=>by simp [ZaZ]
 | x::xs,0=>by simp [ZaZ]
 | x::xs,i+1=>by have:=Zme xs i;simp only [List.take_succ_cons,ZaZ,List.length_append];omega
theorem ZkN:∀ {ts:List Tm},Zd0 ts->∀ t∈ts,ZdR t
 | _::_,h,t,ht=>by
  simp only [Zd0] at h
  rcases List.mem_cons.1 ht with rfl | ht
  ·exact h.1
  ·exact ZkN h.2 t ht
def keyP (op:Int) (nm:ByteArray) (so:Int):List UInt8:=decB op++(if op < 0 then 58::(nm.toList++58::decB so) else [])
theorem ZCk (op:Int) (nm:ByteArray) (so:Int) (args:List Tm):Zcw (.mk op nm so args)=keyP op nm so++[40]++ZaZ args++[41]:=by
 simp [Zcw,keyP,List.append_assoc]
theorem Zs0:ZaD Tryz.prog 164=some .one:=by kernel_rfl
theorem ZBx:ZaF Tryz.prog 164=some 1:=by kernel_rfl
theorem ZDp:Zaz Tryz.prog 164=some [.lit .nilFunc]:=by kernel_rfl
theorem ZC5:ZaC (.lit .nilFunc)=true:=rfl
theorem ZC6 {f:FuncId} {cs:List C}:ZaC (.fn f cs)=true:=rfl
def ptrB (b:Nat):Value:=.pointer (some ⟨b,0,none⟩)
def RKey (bo bv:Nat) (f:FuncId) (s:ByteArray) (r:List D) (pm:List Bk):Prop:=∃ a cap,r=[]∧pm=[.var (some bo) [.lit (.slice a (byR s).length cap)],.buf (some (a,cap)) 5 1 (byR s),.var (some bv) [.fn f [.lit (ptrB bo),.lit (ptrB bv)]]]
theorem gTPk {X:Prop} {P:Program} {ts:List RS} {R:List D->List Bk->Prop} {σ:St} {r:List D} {pm:List Bk} (ks:List Nat) (hR:R r pm) (hx:ZjZ P ts R .normal σ->X:=by first | exact fun h=>h | exact fun h=>⟨_,Wk.refl _,h⟩) (hr:resD P σ ts=some r:=by exact sfy) (hg:getM σ.m ks=some pm:=by exact sny) (hn:ks.Nodup:=by decide) (hp:pm.all pinned=true:=by simp only [pz,↓reduceIte,Nat.reduceEqDiff,Nat.reduceAdd,Nat.reduceSub,Nat.reduceMul,Nat.reduceLeDiff,Nat.reduceBEq,Bool.false_eq_true,decide_true,decide_false,Int.reduceLE,Int.reduceToNat,Int.reduceLT,Int.reduceEq,eq_self,Nat.reduceShiftRight,Nat.reduceAnd,Nat.reduceBneDiff]):X :=
 hx ⟨r,ks,pm,hg,hn,hp,hR,ZfH hr⟩
set_option maxRecDepth 100000 in
theorem Zpm (t:Tm) (hk:ZdR t) (hsz:sizeTm t<=60) (l:List UInt8) (a:Option Addr) (cap bo bv:Nat) (hne:bo≠bv) (hl:l.length+(Zcw t).length<=90000)
  (h:∀ x∈t.args,∀ (l:List UInt8) (a:Option Addr) (cap:Nat),l.length+(Zcw x).length<=90000->ConP e0 169 [.agg (Zae x),.one (.lit (ptrB bo)),.one (.lit (ptrB bv))] [.var (some bo) [.lit (.slice a (byR (bs l)).length cap)],.buf (some (a,cap)) 5 1 (byR (bs l)),.var (some bv) [.fn 169 [.lit (ptrB bo),.lit (ptrB bv)]]] (RKey bo bv 169 (bs (l++Zcw x)))) :
  ConP e0 169 [.agg (Zae t),.one (.lit (ptrB bo)),.one (.lit (ptrB bv))] [.var (some bo) [.lit (.slice a (byR (bs l)).length cap)],.buf (some (a,cap)) 5 1 (byR (bs l)),.var (some bv) [.fn 169 [.lit (ptrB bo),.lit (ptrB bv)]]] (RKey bo bv 169 (bs (l++Zcw t))):=by
 obtain ⟨op,nm,so,args⟩:=t
 have hc:Zae (.mk op nm so args)=[.lit (.int .i64 op),.lit (.string nm),.lit (.int .i64 so),.sl (Zac args)]:=by simp only [Zae]
 have hn1:(bo=bv)=False:=eq_false hne
 have hn2:(bv=bo)=False:=eq_false (fun e=>hne e.symm)
 simp only [Tm.args] at h
 have hsl:=Zbx args
 simp only [sizeTm] at hsz
 simp only [ptrB] at h ⊢
 simp only [ZdR] at hk
 obtain ⟨k0,k1,k2,k3,k4⟩:=hk
 rw [ZCk] at hl ⊢
 simp only [List.length_append,List.length_cons,List.length_nil] at hl
 have rb:=fun l=>ZBw (bs l)
 have e0':bs l++decS op=bs (l++decB op):=ZkM _ _
 have c1:=Zjn k0 k1 (bs l) (by rw [ZiS];omega) a cap
 rw [e0'] at c1
 have hP:keyP op nm so=decB op++(if op < 0 then 58::(nm.toList++58::decB so) else []):=rfl
 have ap:=fun (l:List UInt8) (b:UInt8) (b':Int) (hb:b'=b.toNat)=>show byR (bs l)++[[.lit (.int .u8 b')]]=byR (bs (l++[b])) by rw [<- ZkM,<- ZiR,hb];rfl
 have ml:=fun (l:List UInt8) (hl:l.length<=90000)=>show ((byR (bs l)).length+1<=maxApp)=True from eq_true (by rw [Zdl,ZiS];unfold maxApp;omega)
 refine gIP (ts:=[]) [1001,1000,1002] 32212258863 Tryz.func169 ?_
 (have F:=@tmz;have NN:Zai 1:=trivial;refine gGn ?_;clear F NN)
 refine gB ?_
 (have F:=ai @hc (ai @hn1 (ai @hn2 @tmz));refine gCP [1000] [1000] (c1) ?_;clear F)
 rintro r pm ⟨a1,cap1,rfl,rfl⟩
 simp only [setA,retA,zipM,List.cons_append,List.nil_append]
 (have F:=ai @hc (ai @hn1 (ai @hn2 @tmz));refine gR ?_;clear F)
 (have F:=ai @hc @tmz;refine gG ?_;clear F)
 refine gM (ι:=Option Addr × Nat) [] [1000,1001] (fun x=>[]) (fun x=>[(1001,.var (some bo) [.lit (.slice x.1 (byR (bs (l++keyP op nm so))).length x.2)]),(1000,.buf (some (x.1,x.2)) 5 1 (byR (bs (l++keyP op nm so))))]) (fun x=>True) ?_ (fun x hx=>Exists.intro _ (ai (Wk.refl _) ?_))
 ·by_cases ho:op < 0
  ·have q1:(op < 0)=True:=eq_true ho
   rw [if_pos ho] at hP
   obtain ⟨_,s0,s8⟩:=k2 om
   have hnm:(bs (l++decB op++[58]))++nm=bs (l++decB op++[58]++nm.toList):=by rw [<- Zmc nm,ZkM,Zmc]
   have e2:bs (l++decB op++[58]++nm.toList++[58])++decS so=bs (l++keyP op nm so):=by
    rw [hP]
    refine (ZkM _ _).trans ?_
    simp [List.append_assoc]
   have hpl:=congrArg List.length hP
   simp only [List.length_append,List.length_cons] at hpl
   have c2:=fun a cap=>Zjn (i:=so) om om (bs (l++decB op++[58]++nm.toList++[58])) (by rw [ZiS];simp only [List.length_append,List.length_cons,List.length_nil];omega) a cap
   rw [e2] at c2
   have m1:=ml (l++decB op) (by simp only [List.length_append];omega)
   have m2:=ml (l++decB op++[58]++nm.toList) (by simp only [List.length_append,List.length_cons,List.length_nil];omega)
   have m3:(byR (bs (l++decB op++[58]))).length+(byR nm).length<=maxApp:=by
    rw [Zdl,Zdl,ZiS]
    have:nm.size=nm.toList.length:=by rw [ByteArray.toList_eq];exact Array.length_toList.symm
    simp only [List.length_append,List.length_cons,List.length_nil]
    unfold maxApp
    omega
   have b1:=rb (l++decB op)
   have b2:=rb (l++decB op++[58]++nm.toList)
   have p1:=ap (l++decB op) 58 58 rfl
   have p2:=ap (l++decB op++[58]++nm.toList) 58 58 rfl
   clear hP hpl ap ml rb
   rw [decide_eq_true ho]
   (have F:=ai @hc @tmz;have NN:Zai 3:=trivial;refine gGn ?_;clear F NN)
   refine gB ?_
   (have F:=ai @m1 (ai @b1 (ai @p1 (ai @hn1 (ai @hn2 @tmz))));refine gP 3 ?_;clear F)
   refine gS 15 fun a2 cap2=>?_
   (have F:=ai @hn1 (ai @hn2 @tmz);refine gR ?_;clear F)
   (have F:=@tmz;have NN:Zai 4:=trivial;refine gGn ?_;clear F NN)
   refine gB ?_
   (have F:=ai @hc (ai @hn1 (ai @hn2 @tmz));refine gP 3 ?_;clear F)
   refine gK 16 ?_
   refine (have F:=tmz;gSt m3 ZrM ?_)
   rw [ZiR,hnm]
   refine gS 19 fun a3 cap3=>?_
   (have F:=ai @hn1 (ai @hn2 @tmz);refine gR ?_;clear F)
   (have F:=@tmz;have NN:Zai 5:=trivial;refine gGn ?_;clear F NN)
   refine gB ?_
   (have F:=ai @m2 (ai @b2 (ai @p2 (ai @hn1 (ai @hn2 @tmz))));refine gP 3 ?_;clear F)
   refine gS 22 fun a4 cap4=>?_
   (have F:=ai @hn1 (ai @hn2 @tmz);refine gR ?_;clear F)
   (have F:=@tmz;have NN:Zai 6:=trivial;refine gGn ?_;clear F NN)
   refine gB ?_
   (have F:=ai @hc (ai @hn1 (ai @hn2 @tmz));refine gCP [22] [1000] (c2 a4 cap4) ?_;clear F)
   rintro r pm ⟨a5,cap5,rfl,rfl⟩
   simp only [setA,retA,zipM,List.cons_append,List.nil_append]
   (have F:=ai @hn1 (ai @hn2 @tmz);refine gR ?_;clear F)
   exact (have F:=tmz;⟨(a5,cap5),trivial,gw,gw⟩)
  ·have q1:(op < 0)=False:=eq_false ho
   rw [if_neg ho,List.append_nil] at hP
   rw [hP,decide_eq_false ho]
   (have F:=ai @hc @tmz;refine gG ?_;exact ⟨(a1,cap1),trivial,gw,gw⟩)
 obtain ⟨a2,cap2⟩:=x
 dsimp only
 have m1:=ml (l++keyP op nm so) (by simp only [List.length_append];omega)
 have b1:=rb (l++keyP op nm so)
 have p1:=ap (l++keyP op nm so) 40 40 rfl
 have e3:l++(keyP op nm so++[40]++ZaZ args++[41])=l++keyP op nm so++[40]++ZaZ args++[41]:=by simp [List.append_assoc]
 rw [e3]
 have hP2:(l++keyP op nm so++[40]).length=l.length+(keyP op nm so).length+1:=by simp only [List.length_append,List.length_cons,List.length_nil]
 have hal:=Zme args
 (have F:=@tmz;have NN:Zai 7:=trivial;refine gGn ?_;clear F NN)
 refine gB ?_
 (have F:=ai @m1 (ai @b1 (ai @p1 (ai @hn1 (ai @hn2 @tmz))));refine gP 3 ?_;clear F)
 refine gS 29 fun a3 cap3=>?_
 (have F:=ai @hn1 (ai @hn2 @tmz);refine gR ?_;clear F)
 clear m1 b1 p1 e3 hP c1 e0'
 generalize l++keyP op nm so++[40]=q at hP2 ⊢
 have hq0:q++ZaZ []=q:=by simp [ZaZ]
 (have F:=ai @hc @tmz;refine gG ?_;clear F)
 (have F:=@hq0;refine gL (ι:=Nat × Option Addr × Nat) [5,33,34] [29,1001,1002] (fun x=>[(33,.d (.one (.lit (.int .i64 (x.1:Int)))))]) (fun x=>[(1001,.var (some bo) [.lit (.slice x.2.1 (byR (bs (q++ZaZ (args.take x.1)))).length x.2.2)]),(29,.buf (some (x.2.1,x.2.2)) 5 1 (byR (bs (q++ZaZ (args.take x.1))))),(1002,.var (some bv) [.fn 169 [.lit (.pointer (some ⟨bo,0,none⟩)),.lit (.pointer (some ⟨bv,0,none⟩))]])]) (fun x=>x.1<=args.length) (fun x=>args.length - x.1) ((0,a3,cap3)) (Nat.zero_le _) (fun x hx=>?_);clear F)
 obtain ⟨i,a4,cap4⟩:=x
 simp only at hx
 dsimp only
 by_cases hlt:i < args.length
 ·obtain ⟨b,hg⟩:∃ b,args[i]?=some b:=⟨_,List.getElem?_eq_getElem hlt⟩
  have q2:((i:Int) < (args.length:Int))=True:=eq_true om
  have q4:IntKind.i64.wrap ((i:Int)+1)=(i:Int)+1:=IntWalk.i64_in _ om
  have hvt:=Zpl hg
  have hle:=hal (i+1)
  rw [hvt,List.length_append] at hle
  have hcon:=h b (List.mem_of_getElem? hg) (q++ZaZ (args.take i)) a4 cap4 (by rw [List.length_append];omega)
  rw [List.append_assoc,<- hvt] at hcon
  (have F:=ai @q2 (ai @hc (ai @Zad (ai @ZbF (ai @hg @tmz))));refine gG ?_;clear F)
  refine gB ?_
  (have F:=ai @Zs0 (ai @hn1 (ai @hn2 @tmz));refine gCP [1001,29,1002] [1001,29,1002] (hcon) ?_;clear F)
  rintro r pm ⟨a5,cap5,rfl,rfl⟩
  simp only [ptrB,setA,retA,zipM,List.cons_append,List.nil_append]
  (have F:=@tmz;refine gR ?_;clear F)
  (have F:=@q4;refine gG ?_;exact ⟨(i+1,a5,cap5),hlt,gw,gw,by omega⟩)
 ·obtain rfl:i=args.length:=by omega
  have q2:((args.length:Int) < (args.length:Int))=False:=eq_false om
  rw [List.take_length]
  have m1:=ml (q++ZaZ args) (by rw [List.length_append];omega)
  have b1:=rb (q++ZaZ args)
  have p1:=ap (q++ZaZ args) 41 41 rfl
  (have F:=@q2;have NN:Zai 13:=trivial;refine gGn ?_;clear F NN)
  refine gB ?_
  (have F:=ai @m1 (ai @b1 (ai @p1 (ai @hn1 (ai @hn2 @tmz))));refine gP 3 ?_;clear F)
  refine gS 43 fun a5 cap5=>?_
  (have F:=ai @hn1 (ai @hn2 @tmz);refine gR ?_;clear F)
  exact (have F:=tmz;gTPk (R:=RKey bo bv 169 (bs (q++ZaZ args++[41]))) [1001,43,1002] ⟨a5,cap5,rfl,rfl⟩)
theorem Zs1 (bo bv:Nat) (hne:bo≠bv) (n:Nat):∀ (t:Tm),sizeTm t < n->ZdR t->sizeTm t<=60->∀ (l:List UInt8) (a:Option Addr) (cap:Nat),l.length+(Zcw t).length<=90000->ConP e0 169 [.agg (Zae t),.one (.lit (ptrB bo)),.one (.lit (ptrB bv))] [.var (some bo) [.lit (.slice a (byR (bs l)).length cap)],.buf (some (a,cap)) 5 1 (byR (bs l)),.var (some bv) [.fn 169 [.lit (ptrB bo),.lit (ptrB bv)]]] (RKey bo bv 169 (bs (l++Zcw t))):=by
 induction n with
 | zero=>exact fun _ h=>by omega
 | succ n ih =>
  intro t hn hk hsz l a cap hl
  refine Zpm t hk hsz l a cap bo bv hne hl fun x hx l a cap hl2=>ih x ?_ ?_ ?_ l a cap hl2
  ·have:=Zbi hx
   rw [Za7] at hn
   omega
  ·obtain ⟨op,nm,so,args⟩:=t
   simp only [ZdR] at hk
   exact ZkN hk.2.2.2.2 x hx
  ·have:=Zbi hx
   rw [Za7] at hsz
   omega
theorem Zyd:ZeC e0.P 162 9=true:=by kernel_rfl
set_option maxRecDepth 100000 in
theorem Zw1 {g:Sgn} (hg:SgnOk g) {t:Tm} (hf:ZaO g t) (hsz:sizeTm t<=60):Con e0 109 [.agg (Zae t)] [.one (.lit (.string (keyS t)))]:=by
 have hks:=Zos hg t hf
 have hby0:byR (bs [])=[]:=rfl
 refine gI (ts:=[.slot 2]) 31 Tryz.func109 ?_
 (have F:=@tmz;have NN:Zai 1:=trivial;refine gGn ?_;clear F NN)
 refine gB ?_
 (have F:=@tmz;refine gP 1 ?_;clear F)
 refine gO 5 5 1 ?_
 refine gS 5 fun a cap=>?_
 (have F:=@tmz;refine gR ?_;clear F)
 (have F:=ai @ZDp (ai @ZBx @tmz);have NN:Zai 3:=trivial;refine gGn ?_;clear F NN)
 refine pV 3 fun b3 hb3=>?_
 refine pV 4 fun b4 hb4=>?_
 have hne:b3≠b4:=fun e=>hb4 3 b3 _ (by decide) rfl e.symm
 clear hb3 hb4
 have hn1:(b3=b4)=False:=eq_false hne
 have hn2:(b4=b3)=False:=eq_false (fun e=>hne e.symm)
 (have F:=ai @Zs0 (ai @ZBx (ai @ZC5 (ai @ZC6 (ai @hn1 (ai @hn2 @tmz)))));have NN:Zai 4:=trivial;refine gGn ?_;clear F NN)
 refine gB ?_
 have hcon:=Zs1 b3 b4 hne _ t (Nat.lt_succ_self _) (ZfZ hg t hf) hsz [] a cap (by simp only [List.length_nil];omega)
 simp only [ptrB,hby0,List.length_nil,List.nil_append] at hcon
 (have F:=ai @Zs0 (ai @hn1 (ai @hn2 @tmz));refine gCP [3,5,4] [3,5,4] (hcon) ?_;clear F)
 rintro r pm ⟨a2,cap2,rfl,rfl⟩
 simp only [ptrB,setA,retA,zipM,List.cons_append,List.nil_append]
 (have F:=@tmz;refine gR ?_;clear F)
 refine Zdz ?_
 refine gB ?_
 (have F:=ai @hn1 (ai @hn2 @tmz);refine gP 1 ?_;clear F)
 refine gK 10 ?_
 refine (have F:=tmz;gTx (k:=5) (bs (Zcw t)) Zyd ?_)
 (have F:=@tmz;refine gR ?_;clear F)
 (have F:=@tmz;refine gG ?_;exact gTd)
end Go.Proofs.YtffmjghcpgpfpaaGreatDoor
namespace Go.Proofs.YtffmjghcpgpfpaaGreatDoor
open Go.RowKit Go.MapKept Go.ChangeMaps
theorem ZkO {l:List (ByteArray × Value)} {k s:ByteArray} {v:Value}:Zbw (l++[(k,v)]) s=(Zbw l s).or (if s.toList=k.toList then some v else none):=by
 unfold Zbw
 rw [List.find?_append]
 cases h:l.find? fun p=>s.toList==p.1.toList with
 | some p=>simp
 | none =>
  by_cases e:s.toList=k.toList
  ·simp [List.find?,e]
  ·have e2:(s.toList==k.toList)=false:=beq_eq_false_iff_ne.2 e
   simp only [List.find?,e2,Option.or,if_neg e,Option.map_none]
def Memo (g:Sgn) (l:List (ByteArray × Value)):Prop:=∀ u,ZaO g u->∀ v,Zbw l (keyS u)=some v->v=.int .i64 (sortsTm g u:Nat)
def Grew (g:Sgn) (n:Nat) (l l':List (ByteArray × Value)):Prop:=∀ u,ZaO g u->n < sizeTm u->Zbw l (keyS u)=none->Zbw l' (keyS u)=none
theorem Grew.refl {g:Sgn} {n:Nat} {l:List (ByteArray × Value)}:Grew g n l l:=fun _ _ _ h=>h
theorem Grew.trans {g:Sgn} {n:Nat} {l l' l'':List (ByteArray × Value)} (h:Grew g n l l') (h':Grew g n l' l''):Grew g n l l'':=fun u hu hs h0=>h' u hu hs (h u hu hs h0)
theorem Grew.mono {g:Sgn} {n m:Nat} {l l':List (ByteArray × Value)} (h:Grew g n l l') (hn:n<=m):Grew g m l l':=fun u hu hs h0=>h u hu om h0
theorem Memo.nil {g:Sgn}:Memo g []:=fun u _ v h=>by simp [Zbw] at h
theorem Memo.snoc {g:Sgn} (hg:SgnOk g) {l:List (ByteArray × Value)} (h:Memo g l) {t:Tm} (ht:ZaO g t):Memo g (l++[(keyS t,.int .i64 (sortsTm g t:Nat))]):=by
 intro u hu v hv
 rw [ZkO] at hv
 cases hl:Zbw l (keyS u) with
 | some x =>
  rw [hl] at hv
  simp only [Option.some_or,Option.some.injEq] at hv
  subst hv
  exact h u hu _ hl
 | none =>
  rw [hl,Option.none_or] at hv
  by_cases e:(keyS u).toList=(keyS t).toList
  ·rw [if_pos e] at hv
   obtain rfl:=Zoq hg hu ht e
   simpa using hv.symm
  ·rw [if_neg e] at hv;cases hv
theorem Grew.snoc {g:Sgn} (hg:SgnOk g) {l:List (ByteArray × Value)} {t:Tm} (ht:ZaO g t) {v:Value}:Grew g (sizeTm t) l (l++[(keyS t,v)]):=by
 intro u hu hs h0
 rw [ZkO,h0,Option.none_or,if_neg]
 intro e
 obtain rfl:=Zoq hg hu ht e
 omega
section
variable {e:Env} {K:St->Prop} {ds:List (Option Nat)} {os:List Oper} {s:List (Nat × A)} {m:List (Nat × Bk)}
theorem gLo {d t ty:Nat} {p:String} {ed:Array Edge} {x y:Operand} {b:Nat} {l:List (ByteArray × Value)} {k:ByteArray} {kt el:TypeId} {z v:Value} {f:Bool} (κ:Nat) (ht:e.P.underlying t=some (.map kt el)) (hk:e.P.underlying kt=some .string) (hz:∀ w,(zeroValue el).run e.P w=.ok z w) (hv:(Zbw l k).getD z=v) (hf:(Zbw l k).isSome=f)
  (hK:Runs e ds 0 os ⟨(d,.tup [.one (.lit v),.one (.lit (.bool f))])::s,m⟩ K) (hx:evA s x=.d (.one (.lit (.map (some b)))):=by exact sfx) (hy:evA s y=.d (.one (.lit (.string k))):=by exact sfx) (hm:gm m κ=some (mapB b l):=by exact snx):Runs e ds 0 (⟨some d,.lookup t x y true,ty,p,ed,none⟩::os) ⟨s,m⟩ K :=
 Zfo rfl (ZlR rfl ht hk hz hx hy hm (α:=.tup [.one (.lit v),.one (.lit (.bool f))]) (fun w S L=>by
  rw [hv,hf]
  exact ⟨[v,.bool f],rfl,by simp [ZaG,DRel,Rep]⟩) hK)
theorem Zfy:e0.P.underlying 146=some (.map 9 3):=by kernel_rfl
theorem Zw2:∀ w,(zeroValue 3).run e0.P w=.ok (.int .i64 0) w:=fun w=>by kernel_rfl
end
end Go.Proofs.YtffmjghcpgpfpaaGreatDoor
namespace Go.Proofs.YtffmjghcpgpfpaaGreatDoor
open Go.RowKit
theorem Ze9 {e:Env} {f:FuncId} {a b:D} {rows:List (List C)} {r:List D} (h:Con e f [a,b,.one (.sl rows)] r):Con e f [a,b,.clip rows] r :=
 ⟨h.1,fun w S vs hS hE hG hv=>h.2 w S vs hS hE hG (by
  match vs,hv with
  | [x,y,z],hv=>exact ⟨hv.1,hv.2.1,hv.2.2.1.1,trivial⟩)⟩
def FitN (d:Dcl) (sets:List Nat) (n:Nat):Prop:=∀ (i:Nat) k s,i < n->d.args[i]?=some k->sets[i]?=some s->s.testBit k.toNat=true
theorem FitN.zero {d:Dcl} {sets:List Nat}:FitN d sets 0:=fun i k s h=>absurd h (Nat.not_lt_zero i)
theorem FitN.succ {d:Dcl} {sets:List Nat} {n:Nat} {k:Int} {s:Nat} (hk:d.args[n]?=some k) (hs:sets[n]?=some s):FitN d sets (n+1) ↔ FitN d sets n∧s.testBit k.toNat=true:=by
 constructor
 ·exact fun h=>⟨fun i k s hi=>h i k s om,h n k s om hk hs⟩
 ·rintro ⟨h1,h2⟩ i k' s' hi hk' hs'
  by_cases e:i=n
  ·subst e
   rw [hk] at hk'
   rw [hs] at hs'
   injection hk' with hk'
   injection hs' with hs'
   subst hk' hs'
   exact h2
  ·exact h1 i k' s' om hk' hs'
theorem FitN.full {d:Dcl} {sets:List Nat}:FitN d sets d.args.length ↔ ∀ (i:Nat) k s,d.args[i]?=some k->sets[i]?=some s->s.testBit k.toNat=true :=
 ⟨fun h i k s hk hs=>h i k s (List.getElem?_eq_some_iff.1 hk).1 hk hs,fun h i k s _ hk hs=>h i k s hk hs⟩
def GvB (g:Sgn) (P:Dcl->Prop) (ds:List Dcl) (b:Nat):Prop:=∃ d∈ds,P d∧(upk g d.res).testBit b=true
theorem ZCl {g:Sgn} {P:Dcl->Prop} {N:Nat}:ofB (GvB g P []) N=0:=ZfW fun b _ h=>by
 obtain ⟨d,hd,_⟩:=h
 cases hd
theorem ZC7 {g:Sgn} {P:Dcl->Prop} {N:Nat} {ds:List Dcl} {d:Dcl} (h:P d) (hu:upk g d.res < 2 ^ N):ofB (GvB g P (ds++[d])) N=ofB (GvB g P ds) N ||| upk g d.res:=by
 rw [<- ZfX hu,Ze8]
 refine ZaR fun b _=>?_
 constructor
 ·rintro ⟨x,hx,h1,h2⟩
  rcases List.mem_append.1 hx with hx | hx
  ·exact .inl ⟨x,hx,h1,h2⟩
  ·rw [List.mem_singleton.1 hx] at h2;exact .inr h2
 ·rintro (⟨x,hx,h1,h2⟩ | h2)
  ·exact ⟨x,List.mem_append_left _ hx,h1,h2⟩
  ·exact ⟨d,List.mem_append_right _ (List.mem_singleton.2 rfl),h,h2⟩
theorem ZDq {g:Sgn} {P:Dcl->Prop} {N:Nat} {ds:List Dcl} {d:Dcl} (h:¬ P d):ofB (GvB g P (ds++[d])) N=ofB (GvB g P ds) N:=by
 refine ZaR fun b _=>?_
 constructor
 ·rintro ⟨x,hx,h1,h2⟩
  rcases List.mem_append.1 hx with hx | hx
  ·exact ⟨x,hx,h1,h2⟩
  ·rw [List.mem_singleton.1 hx] at h1;exact absurd h1 h
 ·rintro ⟨x,hx,h1,h2⟩
  exact ⟨x,List.mem_append_left _ hx,h1,h2⟩
theorem ZC8 {g:Sgn} {o:Opr} {sets:List Nat} {N:Nat}:ofB (GvB g (fun d=>FitN d sets d.args.length∨(o.comm=true∧FitN d sets.reverse d.args.length)) o.decls) N=ofB (AnyB g o sets) N:=by
 refine ZaR fun b _=>?_
 unfold AnyB ZcR
 constructor
 ·rintro ⟨d,hd,h1,h2⟩
  rcases h1 with h1 | ⟨h0,h1⟩
  ·exact .inl ⟨d,hd,FitN.full.1 h1,h2⟩
  ·exact .inr ⟨h0,d,hd,FitN.full.1 h1,h2⟩
 ·rintro (⟨d,hd,h1,h2⟩ | ⟨h0,d,hd,h1,h2⟩)
  ·exact ⟨d,hd,.inl (FitN.full.2 h1),h2⟩
  ·exact ⟨d,hd,.inr ⟨h0,FitN.full.2 h1⟩,h2⟩
theorem Zbq {v N:Nat} (h:v < 2 ^ N) (hN:N<=8):v < 4611686018427387904:=by
 have:2 ^ N<=2 ^ 8:=Nat.pow_le_pow_right om hN
 omega
section
variable {g:Sgn} {mc:C}
open Classical in
set_option maxRecDepth 100000 in
theorem Zgu (hg:SgnOk g) {op:Int} {o:Opr} (h0:0<=op) (ho:g.ops[op.toNat]?=some o) (sets:List Nat) (hlen:∀ d∈o.decls,d.args.length=sets.length) (hsl:sets.length<=3) (hs:∀ s∈sets,s < 2 ^ g.sorts.names.length):Con e0 175 [.one (.ptr (encX g mc)),.one (.lit (.int .i64 op)),.one (.sl (nR sets))] [.one (.lit (.int .i64 ((ofB (AnyB g o sets) g.sorts.names.length:Nat):Int)))]:=by
 have hN:=hg.sorts.n8
 have hD:=hg.decls o (List.mem_of_getElem? ho)
 have hdl:o.decls.length<=4:=hD.len4
 rw [<- ZC8]
 generalize hPd:(fun d=>FitN d sets d.args.length∨(o.comm=true∧FitN d sets.reverse d.args.length))=P
 have z0:ofB (GvB g P []) g.sorts.names.length=0:=ZCl
 have z1:((ofB (GvB g P []) g.sorts.names.length:Nat):Int)=0:=by rw [z0];rfl
 have hUl:(nR (up g.sorts)).length=g.sorts.names.length:=by rw [ZaL,ZnY hg.sorts]
 refine gI (ts:=[.slot 6]) 1180591620846512012743 Tryz.func175 ?_
 (have F:=ai @ZaY (ai @h0 (ai @ho (ai @Zaj @tmz)));refine gG ?_;clear F)
 (have F:=@tmz;refine gL (ι:=Nat × Nat) [8,10,11,12,13,14,26,27,33,34,35,36,70] [] (fun x=>[(26,A.d (.one (.lit (.int .i64 x.1)))),(8,A.d (.one (.lit (.int .i64 x.2))))]) (fun x=>[]) (fun x=>x.1<=o.decls.length∧x.2=ofB (GvB g P (o.decls.take x.1)) g.sorts.names.length) (fun x=>o.decls.length - x.1) ((0,0)) (⟨Nat.zero_le _,z0.symm⟩) (fun x hx=>?_);clear F)
 obtain ⟨i,out⟩:=x
 obtain ⟨hi,hout⟩:=hx
 simp only at hi hout
 subst hout
 dsimp only
 have hob:ofB (GvB g P (o.decls.take i)) g.sorts.names.length < 2 ^ g.sorts.names.length:=ZbJ _ _
 have hob62:=Zbq hob hN
 by_cases hlt:i < o.decls.length
 rotate_left
 ·obtain rfl:i=o.decls.length:=by omega
  have q1:((o.decls.length:Int) < (o.decls.length:Int))=False:=eq_false om
  rw [List.take_length]
  (have F:=ai @q1 @tmz;refine gG ?_;exact gTd)
 obtain ⟨d,hdi⟩:∃ d,o.decls[i]?=some d:=⟨_,List.getElem?_eq_getElem hlt⟩
 have hdm:=List.mem_of_getElem? hdi
 have hdl2:=hlen d hdm
 obtain ⟨f,hf,_⟩:=hg.first ho
 have hdo:=hD.all f hf d hdm
 have q1:((i:Int) < (o.decls.length:Int))=True:=eq_true om
 have hw1:=Zav (k:=i) om
 have hsnoc:o.decls.take (i+1)=o.decls.take i++[d]:=by simp [List.take_add_one,hdi]
 (have F:=ai @q1 (ai @hdi @tmz);have NN:Zai 6:=trivial;refine gGn ?_;clear F NN)
 refine Zam 4 (by decide +kernel) ?_
 intro ds hds
 simp only [List.map] at hds
 subst hds
 (have F:=ai @Zaj @tmz;refine gP 2 ?_;clear F)
 refine (have F:=tmz;gAq ?_)
 refine (have F:=tmz;gAq ?_)
 (have F:=@tmz;refine gR ?_;clear F)
 (have F:=ai @ZaN @tmz;refine gG ?_;clear F)
 (have F:=@tmz;refine gL (ι:=Nat × Bool × Bool) [11,12,13,14,35,36] [] (fun y=>[(35,A.d (.one (.lit (.int .i64 y.1)))),(11,A.d (.one (.lit (.bool y.2.1)))),(12,A.d (.one (.lit (.bool y.2.2))))]) (fun y=>[]) (fun y=>y.1<=d.args.length∧y.2.1=decide (FitN d sets y.1)∧y.2.2=decide (o.comm=true∧FitN d sets.reverse y.1)) (fun y=>d.args.length - y.1) ((0,true,o.comm)) (⟨Nat.zero_le _,(decide_eq_true FitN.zero).symm,by cases o.comm <;> simp [FitN.zero]⟩) (fun y hy=>?_);clear F)
 obtain ⟨j,b1,b2⟩:=y
 obtain ⟨hj,hb1,hb2⟩:=hy
 simp only at hj hb1 hb2
 dsimp only
 by_cases hjl:j < d.args.length
 ·obtain ⟨k,hk⟩:∃ k,d.args[j]?=some k:=⟨_,List.getElem?_eq_getElem hjl⟩
  have hkr:=hdo.args k (List.mem_of_getElem? hk)
  obtain ⟨kn,rfl⟩:∃ kn:Nat,k=kn:=⟨k.toNat,by omega⟩
  obtain ⟨s,hsj⟩:∃ s,sets[j]?=some s:=⟨_,List.getElem?_eq_getElem om⟩
  obtain ⟨s',hsj'⟩:∃ s,sets[sets.length - 1 - j]?=some s:=⟨_,List.getElem?_eq_getElem om⟩
  have hrv:sets.reverse[j]?=some s':=by rw [List.getElem?_reverse om];exact hsj'
  have b62:=Zbq (hs s (List.mem_of_getElem? hsj)) hN
  have b62':=Zbq (hs s' (List.mem_of_getElem? hsj')) hN
  have q2:((j:Int) < (d.args.length:Int))=True:=eq_true om
  have hwj:=Zav (k:=j) om
  have r1:=ZaK hsj
  have r2:=ZaK hsj'
  have rl:=ZaL (l:=sets)
  have rr:=ZaI (l:=sets)
  have h1:=Zfn (k:=kn) om
  have h2:=Zkn (x:=s) (k:=kn) b62 om
  have h3:=Zkn (x:=s') (k:=kn) b62' om
  have w1:IntKind.i64.wrap ((sets.length:Int) - 1)=((sets.length - 1:Nat):Int):=ZaP om om om
  have w2:IntKind.i64.wrap (((sets.length - 1:Nat):Int) - (j:Int))=((sets.length - 1 - j:Nat):Int):=ZaP om om om
  have i1:(j < sets.length)=True:=eq_true om
  have i2:(sets.length - 1 - j < sets.length)=True:=eq_true om
  have hf1:=FitN.succ (n:=j) hk hsj
  have hf2:=FitN.succ (sets:=sets.reverse) (n:=j) hk hrv
  rw [show (kn:Int).toNat=kn from rfl] at hf1 hf2
  (have F:=ai @q2 (ai @hk (ai @ZaW @tmz));have NN:Zai 10:=trivial;refine gGn ?_;clear F NN)
  refine gM (ι:=Bool) [11] [] (fun b=>[(11,A.d (.one (.lit (.bool b))))]) (fun b=>[]) (fun b=>b=decide (FitN d sets (j+1))) ?_ (fun b hb=>Exists.intro _ (ai (Wk.refl _) ?_))
  ·cases b1 with
   | false =>
    have e:false=decide (FitN d sets (j+1)):=(decide_eq_false fun h=>by
     have:=hf1.1 h
     rw [decide_eq_true this.1] at hb1
     cases hb1).symm
    (have F:=@tmz;refine gG ?_;exact ⟨false,e,gw,gw⟩)
   | true =>
    have hb1':=of_decide_eq_true hb1.symm
    cases ht:tbit s kn with
    | false =>
     rw [ht] at h2
     have e:false=decide (FitN d sets (j+1)):=(decide_eq_false fun h=>by
      have:=(hf1.1 h).2
      rw [show s.testBit kn=false from ht] at this
      cases this).symm
     (have F:=ai @r1 (ai @rl (ai @rr (ai @h1 (ai @h2 (ai @i1 (ai @Zau @tmz))))));refine gG ?_;exact ⟨false,e,gw,gw⟩)
    | true =>
     rw [ht] at h2
     have e:true=decide (FitN d sets (j+1)):=(decide_eq_true (hf1.2 ⟨hb1',ht⟩)).symm
     (have F:=ai @r1 (ai @rl (ai @rr (ai @h1 (ai @h2 (ai @i1 (ai @Zau @tmz))))));refine gG ?_;exact ⟨true,e,gw,gw⟩)
  clear hb1
  (have F:=@tmz;have NN:Zai 11:=trivial;refine gGn ?_;clear F NN)
  refine gM (ι:=Bool) [12] [] (fun c=>[(12,A.d (.one (.lit (.bool c))))]) (fun c=>[]) (fun c=>c=decide (o.comm=true∧FitN d sets.reverse (j+1))) ?_ (fun c hc=>Exists.intro _ (ai (Wk.refl _) ?_))
  ·cases b2 with
   | false =>
    have e:false=decide (o.comm=true∧FitN d sets.reverse (j+1)):=(decide_eq_false fun h=>by
     have:=hf2.1 h.2
     rw [decide_eq_true ⟨h.1,this.1⟩] at hb2
     cases hb2).symm
    (have F:=@tmz;refine gG ?_;exact ⟨false,e,gw,gw⟩)
   | true =>
    have hb2':=of_decide_eq_true hb2.symm
    cases ht:tbit s' kn with
    | false =>
     rw [ht] at h3
     have e:false=decide (o.comm=true∧FitN d sets.reverse (j+1)):=(decide_eq_false fun h=>by
      have:=(hf2.1 h.2).2
      rw [show s'.testBit kn=false from ht] at this
      cases this).symm
     (have F:=ai @r2 (ai @rl (ai @rr (ai @w1 (ai @w2 (ai @h1 (ai @h3 (ai @i2 (ai @Zau @tmz))))))));refine gG ?_;exact ⟨false,e,gw,gw⟩)
    | true =>
     rw [ht] at h3
     have e:true=decide (o.comm=true∧FitN d sets.reverse (j+1)):=(decide_eq_true ⟨hb2'.1,hf2.2 ⟨hb2'.2,ht⟩⟩).symm
     (have F:=ai @r2 (ai @rl (ai @rr (ai @w1 (ai @w2 (ai @h1 (ai @h3 (ai @i2 (ai @Zau @tmz))))))));refine gG ?_;exact ⟨true,e,gw,gw⟩)
  (have F:=ai @hwj @tmz;refine gG ?_;exact ⟨(j+1,b,c),⟨hjl,hb,hc⟩,gw,gw,by omega⟩)
 ·obtain rfl:j=d.args.length:=by omega
  have q2:((d.args.length:Int) < (d.args.length:Int))=False:=eq_false om
  have hPi:P d ↔ FitN d sets d.args.length∨(o.comm=true∧FitN d sets.reverse d.args.length):=by rw [<- hPd]
  have hres:=ZgK hg.sorts hdo.res.1 hdo.res.2
  have ru:=ZlK hres.1
  have rr:=ZaI (l:=up g.sorts)
  have ho2:=Zc3 hob62 (Zbq hres.2 hN)
  have hr0:=hdo.res.1
  have hr1:=hdo.res.2
  have hrl:(d.res.toNat < g.sorts.names.length)=True:=eq_true om
  by_cases hp:P d
  ·have hor:(b1 || b2)=true:=by
    rcases hPi.1 hp with h | h
    ·rw [hb1,decide_eq_true h];rfl
    ·rw [hb2,decide_eq_true h,Bool.or_true]
   have e:=ZC7 (N:=g.sorts.names.length) (ds:=o.decls.take i) hp hres.2
   rw [<- hsnoc] at e
   rw [<- e] at ho2
   cases b1 with
   | true => 
    (have F:=ai @q2 (ai @ZaY (ai @ru (ai @ZaW (ai @hr0 (ai @ho2 (ai @hw1 @tmz))))));refine gG ?_;exact ⟨(i+1,ofB (GvB g P (o.decls.take (i+1))) g.sorts.names.length),⟨hlt,rfl⟩,gw,gw,by omega⟩)
   | false =>
    rw [Bool.false_or] at hor
    subst hor
    (have F:=ai @q2 (ai @ZaY (ai @ru (ai @ZaW (ai @hr0 (ai @ho2 (ai @hw1 @tmz))))));refine gG ?_;exact ⟨(i+1,ofB (GvB g P (o.decls.take (i+1))) g.sorts.names.length),⟨hlt,rfl⟩,gw,gw,by omega⟩)
  ·have h1:b1=false:=by rw [hb1];exact decide_eq_false fun h=>hp (hPi.2 (.inl h))
   have h2:b2=false:=by rw [hb2];exact decide_eq_false fun h=>hp (hPi.2 (.inr h))
   subst h1 h2
   have e:=ZDq (g:=g) (N:=g.sorts.names.length) (ds:=o.decls.take i) hp
   rw [<- hsnoc] at e
   rw [<- e]
   (have F:=ai @q2 (ai @hw1 @tmz);refine gG ?_;exact ⟨(i+1,ofB (GvB g P (o.decls.take (i+1))) g.sorts.names.length),⟨hlt,rfl⟩,gw,gw,by omega⟩)
def ClB (g:Sgn) (v n b:Nat):Prop:=∃ k,k < n∧v.testBit k=true∧((up g.sorts).getD k 0).testBit b=true
theorem ZCm {v n N:Nat} (h:tbit v n=true) (hu:(up g.sorts).getD n 0 < 2 ^ N):ofB (ClB g v (n+1)) N=ofB (ClB g v n) N ||| (up g.sorts).getD n 0:=by
 rw [<- ZfX hu,Ze8]
 refine ZaR fun b _=>?_
 constructor
 ·rintro ⟨k,h1,h2,h3⟩
  by_cases e:k=n
  ·subst e;exact .inr h3
  ·exact .inl ⟨k,by omega,h2,h3⟩
 ·rintro (⟨k,h1,h2,h3⟩ | h3)
  ·exact ⟨k,by omega,h2,h3⟩
  ·exact ⟨n,by omega,h,h3⟩
theorem ZCn {v n N:Nat} (h:tbit v n=false):ofB (ClB g v (n+1)) N=ofB (ClB g v n) N:=by
 refine ZaR fun b _=>?_
 constructor
 ·rintro ⟨k,h1,h2,h3⟩
  by_cases e:k=n
  ·subst e
   rw [show v.testBit k=false from h] at h2
   cases h2
  ·exact ⟨k,by omega,h2,h3⟩
 ·rintro ⟨k,h1,h2,h3⟩
  exact ⟨k,by omega,h2,h3⟩
theorem ZCo {v N:Nat}:ofB (ClB g v 0) N=0:=ZfW fun b _ h=>by
 obtain ⟨k,h1,_⟩:=h
 omega
set_option maxRecDepth 100000 in
theorem Zpn (hg:SgnOk g) {v:Nat} (hv:v < 2 ^ g.sorts.names.length):Con e0 260 [.one (.sl (nR (up g.sorts))),.one (.lit (.int .i64 (v:Int)))] [.one (.lit (.int .i64 ((ofB (ClB g v g.sorts.names.length) g.sorts.names.length:Nat):Int)))]:=by
 have hN:=hg.sorts.n8
 have hv62:=Zbq hv hN
 have hUl:(nR (up g.sorts)).length=g.sorts.names.length:=by rw [ZaL,ZnY hg.sorts]
 have z0:ofB (ClB g v 0) g.sorts.names.length=0:=ZCo
 have rr:=ZaI (l:=up g.sorts)
 refine gI (ts:=[.slot 4]) 33907 Tryz.func260 ?_
 (have F:=@tmz;refine gG ?_;clear F)
 (have F:=@tmz;refine gL (ι:=Nat × Nat) [5,6,10,15] [] (fun x=>[(6,A.d (.one (.lit (.int .i64 x.1)))),(5,A.d (.one (.lit (.int .i64 x.2))))]) (fun x=>[]) (fun x=>x.1<=g.sorts.names.length∧x.2=ofB (ClB g v x.1) g.sorts.names.length) (fun x=>g.sorts.names.length - x.1) ((0,0)) (⟨Nat.zero_le _,z0.symm⟩) (fun x hx=>?_);clear F)
 obtain ⟨i,out⟩:=x
 obtain ⟨hi,hout⟩:=hx
 simp only at hi hout
 subst hout
 dsimp only
 by_cases hlt:i < g.sorts.names.length
 rotate_left
 ·obtain rfl:i=g.sorts.names.length:=by omega
  have q1:((g.sorts.names.length:Int) < (g.sorts.names.length:Int))=False:=eq_false om
  (have F:=ai @q1 (ai @hUl @tmz);refine gG ?_;exact gTd)
 have q1:((i:Int) < (g.sorts.names.length:Int))=True:=eq_true om
 have hw1:=Zav (k:=i) om
 have hu:=(ZeJ (SortsOk.subsIn hg.sorts.subs)).get hlt
 have ru:=ZaK hu.1
 have ho2:=Zc3 (Zbq (ZbJ (ClB g v i) g.sorts.names.length) hN) (Zbq hu.2 hN)
 (have F:=ai @q1 (ai @hUl @tmz);have NN:Zai 5:=trivial;refine gGn ?_;clear F NN)
 refine gB ?_
 (have F:=@tmz;refine gC (Ze4 (a:=v) (k:=i) hv62 om) ?_;clear F)
 cases ht:tbit v i with
 | false =>
  have e:=ZCn (g:=g) (N:=g.sorts.names.length) ht
  rw [<- e]
  (have F:=@tmz;refine gR ?_;clear F)
  (have F:=ai @hw1 @tmz;refine gG ?_;exact ⟨(i+1,ofB (ClB g v (i+1)) g.sorts.names.length),⟨hlt,rfl⟩,gw,gw,by omega⟩)
 | true =>
  have e:=ZCm ht hu.2
  rw [<- e] at ho2
  (have F:=@tmz;refine gR ?_;clear F)
  (have F:=ai @ru (ai @rr (ai @hUl (ai @hlt (ai @ho2 (ai @hw1 (ai @Zau @tmz))))));refine gG ?_;exact ⟨(i+1,ofB (ClB g v (i+1)) g.sorts.names.length),⟨hlt,rfl⟩,gw,gw,by omega⟩)
def RsB (P:Dcl->Prop) (ds:List Dcl) (b:Nat):Prop:=∃ d∈ds,P d∧d.res.toNat=b
theorem ZCp {P:Dcl->Prop} {N:Nat}:ofB (RsB P []) N=0:=ZfW fun b _ h=>by
 obtain ⟨d,hd,_⟩:=h
 cases hd
theorem ZC9 {P:Dcl->Prop} {N:Nat} {ds:List Dcl} {d:Dcl} (h:P d) (hu:d.res.toNat < N):ofB (RsB P (ds++[d])) N=ofB (RsB P ds) N ||| 2 ^ d.res.toNat:=by
 have h2:2 ^ d.res.toNat < 2 ^ N:=Nat.pow_lt_pow_right om hu
 rw [<- ZfX h2,Ze8]
 refine ZaR fun b _=>?_
 rw [ZrD]
 constructor
 ·rintro ⟨x,hx,h1,h2⟩
  rcases List.mem_append.1 hx with hx | hx
  ·exact .inl ⟨x,hx,h1,h2⟩
  ·rw [List.mem_singleton.1 hx] at h2;exact .inr h2
 ·rintro (⟨x,hx,h1,h2⟩ | h2)
  ·exact ⟨x,List.mem_append_left _ hx,h1,h2⟩
  ·exact ⟨d,List.mem_append_right _ (List.mem_singleton.2 rfl),h,h2⟩
theorem ZDr {P:Dcl->Prop} {N:Nat} {ds:List Dcl} {d:Dcl} (h:¬ P d):ofB (RsB P (ds++[d])) N=ofB (RsB P ds) N:=by
 refine ZaR fun b _=>?_
 constructor
 ·rintro ⟨x,hx,h1,h2⟩
  rcases List.mem_append.1 hx with hx | hx
  ·exact ⟨x,hx,h1,h2⟩
  ·rw [List.mem_singleton.1 hx] at h1;exact absurd h1 h
 ·rintro ⟨x,hx,h1,h2⟩
  exact ⟨x,List.mem_append_left _ hx,h1,h2⟩
theorem ZCq (hg:SgnOk g) {o:Opr} (hD:∀ d∈o.decls,0<=d.res∧d.res < g.sorts.names.length) (sets:List Nat):ofB (ClB g (ofB (RsB (fun d=>FitN d sets d.args.length) o.decls) g.sorts.names.length) g.sorts.names.length) g.sorts.names.length=ofB (ZcR g o sets) g.sorts.names.length:=by
 refine ZaR fun b _=>?_
 unfold ClB ZcR
 constructor
 ·rintro ⟨k,h1,h2,h3⟩
  obtain ⟨h4,d,hd,h5,h6⟩:=(ZcI _ _ _).1 h2
  refine ⟨d,hd,FitN.full.1 h5,?_⟩
  unfold upk
  rw [h6];exact h3
 ·rintro ⟨d,hd,h1,h2⟩
  have hr:=hD d hd
  exact ⟨d.res.toNat,by omega,(ZcI _ _ _).2 ⟨by omega,d,hd,FitN.full.2 h1,rfl⟩,h2⟩
open Classical in
set_option maxRecDepth 100000 in
theorem Zhs (hg:SgnOk g) {o:Opr} (hm:o∈g.ops) (sets:List Nat) (hlen:∀ d∈o.decls,d.args.length=sets.length) (hsl:sets.length<=3) (hs:∀ s∈sets,s < 2 ^ g.sorts.names.length):Con e0 242 [.one (.sl (nR (up g.sorts))),.one (.sl (o.decls.map ZfI)),.one (.sl (nR sets))] [.one (.lit (.int .i64 ((ofB (ZcR g o sets) g.sorts.names.length:Nat):Int)))]:=by
 have hN:=hg.sorts.n8
 have hD:=hg.decls o hm
 have hdl:o.decls.length<=4:=hD.len4
 obtain ⟨f,hf⟩:∃ f,o.decls[0]?=some f:=⟨_,List.getElem?_eq_getElem (by have:=hD.len1;omega)⟩
 have hres:=fun d hd=>(hD.all f hf d hd).res
 rw [<- ZCq hg hres sets]
 generalize hPd:(fun d=>FitN d sets d.args.length)=P
 have z0:ofB (RsB P []) g.sorts.names.length=0:=ZCp
 have cC:=Zpn hg (ZbJ (RsB P o.decls) g.sorts.names.length)
 refine gI (ts:=[.slot 6]) 549756880839 Tryz.func242 ?_
 (have F:=@tmz;refine gG ?_;clear F)
 (have F:=@tmz;refine gL (ι:=Nat × Nat) [7,8,9,10,14,20,39] [] (fun x=>[(8,A.d (.one (.lit (.int .i64 x.1)))),(7,A.d (.one (.lit (.int .i64 x.2))))]) (fun x=>[]) (fun x=>x.1<=o.decls.length∧x.2=ofB (RsB P (o.decls.take x.1)) g.sorts.names.length) (fun x=>o.decls.length - x.1) ((0,0)) (⟨Nat.zero_le _,z0.symm⟩) (fun x hx=>?_);clear F)
 obtain ⟨i,out⟩:=x
 obtain ⟨hi,hout⟩:=hx
 simp only at hi hout
 subst hout
 dsimp only
 by_cases hlt:i < o.decls.length
 rotate_left
 ·obtain rfl:i=o.decls.length:=by omega
  have q1:((o.decls.length:Int) < (o.decls.length:Int))=False:=eq_false om
  rw [List.take_length]
  (have F:=ai @q1 @tmz;have NN:Zai 12:=trivial;refine gGn ?_;clear F NN)
  refine gB ?_
  (have F:=@tmz;refine gC (cC) ?_;clear F)
  (have F:=@tmz;refine gR ?_;clear F)
  (have F:=@tmz;refine gG ?_;exact gTd)
 obtain ⟨d,hdi⟩:∃ d,o.decls[i]?=some d:=⟨_,List.getElem?_eq_getElem hlt⟩
 have hdm:=List.mem_of_getElem? hdi
 have hdl2:=hlen d hdm
 have hdo:=hD.all f hf d hdm
 have q1:((i:Int) < (o.decls.length:Int))=True:=eq_true om
 have hw1:=Zav (k:=i) om
 have hsnoc:o.decls.take (i+1)=o.decls.take i++[d]:=by simp [List.take_add_one,hdi]
 have rl:=ZaL (l:=sets)
 have rr:=ZaI (l:=sets)
 (have F:=ai @q1 @tmz;refine gG ?_;clear F)
 (have F:=@tmz;refine gL (ι:=Nat × Bool) [9,10,20] [] (fun y=>[(10,A.d (.one (.lit (.int .i64 y.1)))),(9,A.d (.one (.lit (.bool y.2))))]) (fun y=>[]) (fun y=>y.1<=sets.length∧y.2=decide (FitN d sets y.1)) (fun y=>sets.length - y.1) ((0,true)) (⟨Nat.zero_le _,(decide_eq_true FitN.zero).symm⟩) (fun y hy=>?_);clear F)
 obtain ⟨j,b1⟩:=y
 obtain ⟨hj,hb1⟩:=hy
 simp only at hj hb1
 dsimp only
 by_cases hjl:j < sets.length
 ·obtain ⟨k,hk⟩:∃ k,d.args[j]?=some k:=⟨_,List.getElem?_eq_getElem om⟩
  have hkr:=hdo.args k (List.mem_of_getElem? hk)
  obtain ⟨kn,rfl⟩:∃ kn:Nat,k=kn:=⟨k.toNat,by omega⟩
  obtain ⟨s,hsj⟩:∃ s,sets[j]?=some s:=⟨_,List.getElem?_eq_getElem om⟩
  have b62:=Zbq (hs s (List.mem_of_getElem? hsj)) hN
  have q2:((j:Int) < (sets.length:Int))=True:=eq_true om
  have hwj:=Zav (k:=j) om
  have r1:=ZaK hsj
  have i1:(j < sets.length)=True:=eq_true om
  have i3:(j < d.args.length)=True:=eq_true om
  have hf1:=FitN.succ (n:=j) hk hsj
  rw [show (kn:Int).toNat=kn from rfl] at hf1
  (have F:=ai @q2 (ai @rl @tmz);have NN:Zai 9:=trivial;refine gGn ?_;clear F NN)
  refine gM (ι:=Bool) [9] [] (fun b=>[(9,A.d (.one (.lit (.bool b))))]) (fun b=>[]) (fun b=>b=decide (FitN d sets (j+1))) ?_ (fun b hb=>Exists.intro _ (ai (Wk.refl _) ?_))
  ·cases b1 with
   | false =>
    have e:false=decide (FitN d sets (j+1)):=(decide_eq_false fun h=>by
     have:=hf1.1 h
     rw [decide_eq_true this.1] at hb1
     cases hb1).symm
    (have F:=@tmz;refine gG ?_;exact ⟨false,e,gw,gw⟩)
   | true =>
    have hb1':=of_decide_eq_true hb1.symm
    have e:tbit s kn=decide (FitN d sets (j+1)):=by
     cases ht:tbit s kn with
     | false=>exact (decide_eq_false fun h=>by
       have:=(hf1.1 h).2
       rw [show s.testBit kn=false from ht] at this
       cases this).symm
     | true=>exact (decide_eq_true (hf1.2 ⟨hb1',ht⟩)).symm
    refine gB ?_
    (have F:=ai @r1 (ai @rl (ai @rr (ai @i1 (ai @i3 (ai @hdi (ai @hk (ai @ZaN (ai @ZaW (ai @Zau @tmz)))))))));refine gC (Ze4 (a:=s) (k:=kn) b62 om) ?_;clear F)
    (have F:=@tmz;refine gR ?_;clear F)
    (have F:=@tmz;refine gG ?_;exact ⟨tbit s kn,e,gw,gw⟩)
  (have F:=ai @hwj @tmz;refine gG ?_;exact ⟨(j+1,b),⟨hjl,hb⟩,gw,gw,by omega⟩)
 ·obtain rfl:j=sets.length:=by omega
  have q2:((sets.length:Int) < (sets.length:Int))=False:=eq_false om
  have hPi:P d ↔ FitN d sets sets.length:=by rw [<- hPd,<- hdl2]
  have hr0:=hdo.res.1
  have hr1:=hdo.res.2
  obtain ⟨rn,hrn⟩:∃ rn:Nat,d.res=rn:=⟨d.res.toNat,by omega⟩
  have cB:=Zga (k:=rn) om
  rw [<- hrn] at cB
  have ho2:=Zc3 (Zbq (ZbJ (RsB P (o.decls.take i)) g.sorts.names.length) hN) (Zbq (v:=2 ^ rn) (N:=g.sorts.names.length) (Nat.pow_lt_pow_right om om) hN)
  cases b1 with
  | true =>
   have hp:P d:=hPi.2 (of_decide_eq_true hb1.symm)
   have e:=ZC9 (N:=g.sorts.names.length) (ds:=o.decls.take i) hp om
   rw [<- hsnoc,show d.res.toNat=rn by omega] at e
   rw [<- e] at ho2
   (have F:=ai @q2 (ai @rl @tmz);have NN:Zai 11:=trivial;refine gGn ?_;clear F NN)
   refine gB ?_
   (have F:=ai @hdi (ai @ZaN @tmz);refine gC (cB) ?_;clear F)
   (have F:=ai @ho2 @tmz;refine gR ?_;clear F)
   (have F:=ai @hw1 @tmz;refine gG ?_;exact ⟨(i+1,ofB (RsB P (o.decls.take (i+1))) g.sorts.names.length),⟨hlt,rfl⟩,gw,gw,by omega⟩)
  | false =>
   have hp:¬ P d:=fun h=>by rw [decide_eq_true (hPi.1 h)] at hb1;cases hb1
   have e:=ZDr (N:=g.sorts.names.length) (ds:=o.decls.take i) hp
   rw [<- hsnoc] at e
   rw [<- e]
   (have F:=ai @q2 (ai @rl (ai @hw1 @tmz));refine gG ?_;exact ⟨(i+1,ofB (RsB P (o.decls.take (i+1))) g.sorts.names.length),⟨hlt,rfl⟩,gw,gw,by omega⟩)
set_option maxRecDepth 100000 in
theorem Zjo (hg:SgnOk g) {op:Int} {o:Opr} (h0:0<=op) (ho:g.ops[op.toNat]?=some o) (sets:List Nat) (hlen:∀ d∈o.decls,d.args.length=sets.length) (hsl:sets.length<=3) (hs:∀ s∈sets,s < 2 ^ g.sorts.names.length):Con e0 209 [.agg (Zaw g),.one (.lit (.int .i64 op)),.one (.sl (nR sets))] [.one (.lit (.int .i64 ((ofB (ZcR g o sets) g.sorts.names.length:Nat):Int)))]:=by
 have cU:=ZfP hg.sorts.n8 hg.sorts.m16 (SortsOk.subsIn hg.sorts.subs)
 have cG:=Zhs hg (List.mem_of_getElem? ho) sets hlen hsl hs
 rw [Za2] at cU
 rw [Zaw]
 refine gI (ts:=[.slot 6]) 79 Tryz.func209 ?_
 (have F:=@tmz;have NN:Zai 1:=trivial;refine gGn ?_;clear F NN)
 refine gB ?_
 (have F:=@tmz;refine gC (cU) ?_;clear F)
 (have F:=ai @h0 (ai @ho (ai @Zaj @tmz));refine gC (cG) ?_;clear F)
 (have F:=@tmz;refine gR ?_;clear F)
 (have F:=@tmz;refine gG ?_;exact gTd)
end
theorem Zot {a b:Nat} (ha:a < 4611686018427387904) (hb:b < 4611686018427387904):bits .xor .i64 (a:Int) (b:Int)=((a ^^^ b:Nat):Int):=by
 have h:a ^^^ b < 2 ^ 62:=Nat.xor_lt_two_pow om om
 have e:(BitVec.ofInt IntKind.i64.bits (a:Int) ^^^ BitVec.ofInt IntKind.i64.bits (b:Int)).toNat=a ^^^ b:=by
  rw [BitVec.toNat_xor]
  show (BitVec.ofInt 64 (a:Int)).toNat ^^^ (BitVec.ofInt 64 (b:Int)).toNat=_
  rw [ZgC om,ZgC om]
 unfold bits
 show IntKind.i64.wrap _=_
 rw [e]
 exact Zjw om om
def Eith (R:Nat->Nat->Nat->Prop) (a c b:Nat):Prop:=R a c b∨R c a b
theorem Zye {R:Nat->Nat->Nat->Prop} {sets:List Nat} {m b:Nat}:BagB (Eith R) sets m b ↔ BagB R sets m b:=by
 constructor
 ·intro h
  induction h with
  | leaf h1 h2=>exact .leaf h1 h2
  | node h1 h2 h3 _ _ h6 i1 i2 =>
   rcases h6 with h6 | h6
   ·exact .node h1 h2 h3 i1 i2 h6
   ·rw [Nat.or_comm]
    exact .node h2 h1 (by rw [Nat.and_comm];exact h3) i2 i1 h6
 ·intro h
  induction h with
  | leaf h1 h2=>exact .leaf h1 h2
  | node h1 h2 h3 _ _ h6 i1 i2=>exact .node h1 h2 h3 i1 i2 (.inl h6)
theorem Zyf {R:Nat->Nat->Nat->Prop} {s t b:Nat}:Two (Eith R) s t b ↔ Two R s t b∨Two R t s b:=by
 unfold Two Eith
 constructor
 ·rintro ⟨a,c,h1,h2,h3 | h3⟩
  ·exact .inl ⟨a,c,h1,h2,h3⟩
  ·exact .inr ⟨c,a,h2,h1,h3⟩
 ·rintro (⟨a,c,h1,h2,h3⟩ | ⟨a,c,h1,h2,h3⟩)
  ·exact ⟨a,c,h1,h2,.inl h3⟩
  ·exact ⟨c,a,h2,h1,.inr h3⟩
noncomputable def bvN (g:Sgn) (R:Nat->Nat->Nat->Prop) (sets:List Nat) (m:Nat):Nat:=ofB (BagB R sets m) g.sorts.names.length
theorem Zyg {g:Sgn} {R:Nat->Nat->Nat->Prop} {sets:List Nat} {m:Nat}:bvN g (Eith R) sets m=bvN g R sets m:=ZaR fun b _=>Zye
def BagT (g:Sgn) (R:Nat->Nat->Nat->Prop) (sets:List Nat) (M:Nat) (T:List Nat):Prop:=T.length=2 ^ sets.length∧∀ m,1<=m->m < 2 ^ sets.length->(m < M->T[m]?=some (bvN g R sets m))∧(M<=m->T[m]?=some 0)
section
variable {g:Sgn} {R:Nat->Nat->Nat->Prop} {sets:List Nat}
theorem BagT.start:BagT g R sets 1 (List.replicate (2 ^ sets.length) 0):=⟨by simp,fun m h1 h2=>⟨fun h=>by omega,fun _=>by rw [List.getElem?_replicate,if_pos h2]⟩⟩
theorem BagT.next {M:Nat} {T:List Nat} (h:BagT g R sets M T) (hM:M < 2 ^ sets.length):BagT g R sets (M+1) (T.set M (bvN g R sets M)):=by
 refine ⟨by rw [List.length_set,h.1],fun m h1 h2=>?_⟩
 by_cases e:m=M
 ·subst e
  exact ⟨fun _=>List.getElem?_set_self (by rw [h.1];exact h2),fun q=>by omega⟩
 ·rw [List.getElem?_set_ne (Ne.symm e)]
  exact ⟨fun q=>(h.2 m h1 h2).1 om,fun q=>(h.2 m h1 h2).2 om⟩
theorem BagT.zero {M:Nat} {T:List Nat} (h:BagT g R sets M T) (h1:1<=M) (hM:M < 2 ^ sets.length):T.set M 0=T:=by
 have h2:=(h.2 M h1 hM).2 (Nat.le_refl _)
 refine List.ext_getElem? fun q=>?_
 by_cases e:q=M
 ·subst e
  rw [List.getElem?_set_self (by rw [h.1];exact hM),h2]
 ·rw [List.getElem?_set_ne (Ne.symm e)]
theorem ZrO:∀ (q:Nat),(2 ^ q - 1) &&& 2 ^ q=0:=fun q=>by
 refine Nat.eq_of_testBit_eq fun i=>?_
 rw [Nat.testBit_and,Nat.testBit_two_pow_sub_one,Nat.testBit_two_pow,Nat.zero_testBit]
 by_cases h:i < q
 ·simp [h];omega
 ·simp [h]
theorem ZrP {m:Nat} (hm:m≠0) (h:(m - 1) &&& m=0):∃ q,m=2 ^ q:=by
 refine ⟨Nat.log2 m,?_⟩
 have h1:=Nat.log2_self_le hm
 have h2:m < 2 ^ (Nat.log2 m+1):=(Nat.log2_lt hm).1 (Nat.lt_succ_self _)
 refine Classical.byContradiction fun hne=>?_
 have h3:(m - 1).testBit (Nat.log2 m)=true:=by
  have:=Nat.testBit_lt_two_pow (x:=m - 1) (i:=Nat.log2 m)
  cases ht:(m - 1).testBit (Nat.log2 m) with
  | true=>rfl
  | false =>
   have h4:m - 1 < 2 ^ Nat.log2 m:=Nat.lt_pow_two_of_testBit _ fun i hi=>by
    rcases Nat.lt_or_eq_of_le hi with hi | hi
    ·exact Nat.testBit_lt_two_pow (Nat.lt_of_lt_of_le (by omega:m - 1 < 2 ^ (Nat.log2 m+1)) (Nat.pow_le_pow_right om hi))
    ·rw [<- hi];exact ht
   omega
 have h5:m.testBit (Nat.log2 m)=true:=by
  cases ht:m.testBit (Nat.log2 m) with
  | true=>rfl
  | false =>
   have h4:m < 2 ^ Nat.log2 m:=Nat.lt_pow_two_of_testBit _ fun i hi=>by
    rcases Nat.lt_or_eq_of_le hi with hi | hi
    ·exact Nat.testBit_lt_two_pow (Nat.lt_of_lt_of_le h2 (Nat.pow_le_pow_right om hi))
    ·rw [<- hi];exact ht
   omega
 have h6:=Nat.testBit_and (m - 1) m (Nat.log2 m)
 rw [h,h3,h5] at h6
 simp at h6
end
section
variable {w:World} {S:Nat->Prop} {a:Option Addr} {n cap:Nat} {rows:List (List C)}
def Zer (a:Option Addr) (n cap:Nat) (rows:List (List C)) (R:List (List C)):List (List C):=R.map fun r=>r.map (datC a n cap rows)
theorem Zit {R:List (List C)}:(Zer a n cap rows R).length=R.length:=by simp [Zer]
theorem Zs2 {c:C} (h:ZaC c=true):ZaC (datC a n cap rows c)=true:=by
 unfold datC
 split
 ·split
  ·rfl
  ·exact h
 ·exact h
theorem Zyi {sz:Nat} {R:List (List C)} (h:ZaH sz R):ZaH sz (Zer a n cap rows R):=fun r hr=>by
 obtain ⟨r',hr',rfl⟩:=List.mem_map.1 hr
 obtain ⟨h1,h2⟩:=h r' hr'
 refine ⟨by rw [List.length_map];exact h1,?_⟩
 rw [List.all_map,List.all_eq_true]
 exact fun c hc=>Zs2 (List.all_eq_true.1 h2 c hc)
theorem Zmf (hr:Rep w S (.sl rows) (.slice a n cap)) {b:Nat}:∀ {R:List (List C)} {off:Nat},Zao w S b off R->Zao w S b off (Zer a n cap rows R)
 | [],_,h=>h
 | r::R,off,h=>by
  simp only [Zer,List.map_cons,Zao,List.length_map] at h ⊢
  exact ⟨Zjs hr h.1,Zmf hr h.2⟩
theorem Zyj (hr:Rep w S (.sl rows) (.slice a n cap)) {ety sz:Nat} {R:List (List C)} {v:Value} (h:ZaJ w S ety sz R v):ZaJ w S ety sz (Zer a n cap rows R) v:=by
 obtain ⟨h1,h2,h3⟩:=h
 refine ⟨h1,Zyi h2,?_⟩
 rcases h3 with ⟨h4,h5⟩ | ⟨g,cap',cur,h4,h5⟩
 ·exact .inl ⟨by rw [h4];rfl,h5⟩
 ·refine .inr ⟨g,cap',cur,by rw [Zit];exact h4,?_⟩
  obtain ⟨q1,q2,q3,q4,q5,q6,q7,q8⟩:=h5
  exact ⟨q1,q2,q3,q4,by rw [Zit];exact q5,q6,q7,Zmf hr q8⟩
end
section
variable {e:Env} {σ:St} {mask:Nat} {Q:PX->St->Prop}
theorem Zw4 (k kb:Nat) (hne:kb≠k) {a:Option Addr} {cap ety sz ety' sz':Nat} {rows R:List (List C)} {o':Option (Option Addr × Nat)} (hm:gm σ.m k=some (.buf (some (a,cap)) ety sz rows)) (hb:gm σ.m kb=some (.buf o' ety' sz' R)) :
  Turn e σ (fun σ'=>σ'=⟨frzS k (.buf (some (a,cap)) ety sz rows) σ.s,(kb,.buf o' ety' sz' (Zer a rows.length cap rows R))::remM kb (remM k σ.m)⟩):=by
 intro he U w0 S0 nt ac w ⟨S,L,h⟩
 have ho:=h.cls.own k _ hm
 have hv:L.v k=.slice a rows.length cap:=ho.1 (a,cap) rfl
 have hrep:=ZaJ.rep ho.2
 rw [hv] at hrep
 obtain ⟨S',L',h',hS'⟩:=h.freeze2 he hm
 have hr:Rep w S' (.sl rows) (.slice a rows.length cap):=hrep.mono fun b hb=>(hS' b).2 (hb.imp id (fun q=>by show vblk (L.v k)=some b;rw [hv];exact q))
 have hb':gm (remM k σ.m) kb=some (.buf o' ety' sz' R):=by rw [ZaX,if_neg hne];exact hb
 have hob:=h'.cls.own kb _ hb'
 exact ⟨_,rfl,S',L',h'.cls.swap hb' (bk':=.buf o' ety' sz' (Zer a rows.length cap rows R)) ⟨fun p hp=>by rw [Zit];exact hob.1 p hp,Zyj hr hob.2⟩ (fun g hg=>hg),h'.rel,h'.size,h'.defers,h'.kept⟩
theorem pDb {c:Code} {s s2:List (Nat × A)} {m m2:List (Nat × Bk)} {a:Option Addr} {cap ety sz ety' sz':Nat} {rows R:List (List C)} {o':Option (Option Addr × Nat)} (k kb:Nat) (hne:kb≠k) (hK:pwp e mask c ⟨s2,(kb,.buf o' ety' sz' (Zer a rows.length cap rows R))::m2⟩ Q)
  (hm:gm m k=some (.buf (some (a,cap)) ety sz rows):=by exact snv) (hb:gm m kb=some (.buf o' ety' sz' R):=by exact snv) (hs:frzS k (.buf (some (a,cap)) ety sz rows) s=s2:=by exact snv) (hr:remM kb (remM k m)=m2:=by exact snv):pwp e mask c ⟨s,m⟩ Q :=
 Zcm (Zw4 k kb hne hm hb) fun σ' hσ=>by subst hσ;simp only [hs,hr];exact hK
end
section
variable {g:Sgn} {mc:C}
noncomputable def cvN (g:Sgn) (o:Opr) (sets:List Nat) (i j:Nat):Nat:=ofB (ChB (Rel2 g o) sets i j) g.sorts.names.length
noncomputable def chL (g:Sgn) (o:Opr) (sets:List Nat) (r:Nat):List Nat:=(List.range sets.length).map fun k=>if k < r then 0 else cvN g o sets r (k+1)
theorem ZiT {o:Opr} {sets:List Nat} {r:Nat}:(chL g o sets r).length=sets.length:=by simp [chL]
theorem ZrR {o:Opr} {sets:List Nat} {r k:Nat} (h1:r<=k) (h2:k < sets.length):(chL g o sets r)[k]?=some (cvN g o sets r (k+1)):=by
 unfold chL
 rw [List.getElem?_map,List.getElem?_range h2,Option.map_some,if_neg om]
def FilB (g:Sgn) (o:Opr) (sets:List Nat) (p k:Nat) (L:List Nat):Prop:=L.length=sets.length∧∀ j,j < sets.length->L[j]?=some (if j < p then 0 else if j < k then cvN g o sets p (j+1) else 0)
theorem FilB.all {o:Opr} {sets:List Nat} {p:Nat} {L:List Nat} (h:FilB g o sets p sets.length L):L=chL g o sets p:=by
 refine List.ext_getElem? fun j=>?_
 by_cases hj:j < sets.length
 ·rw [h.2 j hj]
  unfold chL
  rw [List.getElem?_map,List.getElem?_range hj,Option.map_some]
  by_cases h1:j < p
  ·rw [if_pos h1,if_pos h1]
  ·rw [if_neg h1,if_neg h1,if_pos hj]
 ·rw [List.getElem?_eq_none (by rw [h.1];omega),List.getElem?_eq_none (by rw [ZiT];omega)]
theorem FilB.next {o:Opr} {sets:List Nat} {p k:Nat} {L:List Nat} (h:FilB g o sets p k L) (hp:p<=k) (hk:k < sets.length):FilB g o sets p (k+1) (L.set k (cvN g o sets p (k+1))):=by
 refine ⟨by rw [List.length_set,h.1],fun j hj=>?_⟩
 by_cases e:j=k
 ·subst e
  rw [List.getElem?_set_self (by rw [h.1];exact hj),if_neg om,if_pos om]
 ·rw [List.getElem?_set_ne (Ne.symm e),h.2 j hj]
  by_cases h1:j < p
  ·rw [if_pos h1,if_pos h1]
  ·rw [if_neg h1,if_neg h1]
   by_cases h2:j < k
   ·rw [if_pos h2,if_pos om]
   ·rw [if_neg h2,if_neg om]
theorem FilB.zero {o:Opr} {sets:List Nat} {p k:Nat} {L:List Nat} (h:FilB g o sets p k L) (hp:p<=k) (hk:k < sets.length):L.set k 0=L:=by
 have h1:=h.2 k hk
 rw [if_neg om,if_neg om] at h1
 refine List.ext_getElem? fun j=>?_
 by_cases e:j=k
 ·subst e
  rw [List.getElem?_set_self (by rw [h.1];exact hk),h1]
 ·rw [List.getElem?_set_ne (Ne.symm e)]
theorem FilB.start {o:Opr} {sets:List Nat} {p s:Nat} (hs:sets[p]?=some s) (h:s < 2 ^ g.sorts.names.length):FilB g o sets p (p+1) ((List.replicate sets.length 0).set p s):=by
 have hp:=(List.getElem?_eq_some_iff.1 hs).1
 refine ⟨by simp,fun j hj=>?_⟩
 by_cases e:j=p
 ·subst e
  rw [List.getElem?_set_self (by simpa using hj),if_neg om,if_pos om]
  unfold cvN
  rw [ZwO hs h]
 ·rw [List.getElem?_set_ne (Ne.symm e),List.getElem?_replicate,if_pos hj]
  by_cases h1:j < p
  ·rw [if_pos h1]
  ·rw [if_neg h1,if_neg om]
theorem ZCt (hg:SgnOk g) {i:Nat} {o:Opr} (ho:g.ops[i]?=some o) (ha:o.assoc=true) (hc:o.comm=false) {s t N:Nat}:ofB (AnyB g o [s,t]) N=ofB (fun b=>Two (Rel2 g o) s t b) N:=by
 refine ZaR fun b _=>?_
 unfold AnyB
 rw [Zd8 (Opr.deg2 hg ho (.inl ha)),hc]
 simp
def dRow (d:List Nat):List C:=[.sl (nR d)]
theorem Zw5:∀ d,dRow d=[.sl (nR d)]:=fun _=>rfl
theorem ZDb (n:Nat):(List.replicate n ([]:List Nat)).map dRow=List.replicate n [C.sl []]:=by
 rw [List.map_replicate];rfl
theorem Zw6 (Ds:List (List Nat)):ZaV 1 (Ds.map dRow)=true:=ZcN (e:=dRow) (n:=1) (fun _=>rfl) Ds
theorem Zyk {a:Option Addr} {n cap:Nat} {L:List Nat} {Ds:List (List Nat)} {p:Nat}:Zer a n cap (nR L) ((Ds.map dRow).set p [.lit (.slice a n cap)])=(Ds.set p L).map dRow:=by
 have h1:∀ d,(dRow d).map (datC a n cap (nR L))=dRow d:=fun d=>rfl
 have h2:[C.lit (.slice a n cap)].map (datC a n cap (nR L))=dRow L:=by simp [datC,dRow]
 unfold Zer
 rw [List.map_set,h2,List.map_set,List.map_map]
 congr 1
theorem ZDs {a:Option Addr} {n cap:Nat} {Ds:List (List Nat)} {p:Nat} (hok:ZaC (.lit (.slice a n cap))=true):ZaV 1 ((Ds.map dRow).set p [.lit (.slice a n cap)])=true:=by
 have h:=Zw6 Ds
 unfold ZaV at h ⊢
 rw [List.all_eq_true] at h ⊢
 intro r hr
 rcases List.mem_or_eq_of_mem_set hr with h1 | h1
 ·exact h r h1
 ·subst h1
  simp [hok]
set_option maxRecDepth 100000 in
theorem Zlq (hg:SgnOk g) {op:Int} {o:Opr} (h0:0<=op) (ho:g.ops[op.toNat]?=some o) (ha:o.assoc=true) (hc:o.comm=false) (sets:List Nat) (hn1:1<=sets.length) (hn7:sets.length<=7) (hs:∀ s∈sets,s < 2 ^ g.sorts.names.length):Con e0 177 [.one (.ptr (encX g mc)),.one (.lit (.int .i64 op)),.one (.sl (nR sets))] [.one (.lit (.int .i64 ((cvN g o sets 0 sets.length:Nat):Int)))]:=by
 have hN:=hg.sorts.n8
 have rl:=ZaL (l:=sets)
 have rr:=ZaI (l:=sets)
 have hmx:((sets.length:Int)<=(maxApp:Int))=True:=eq_true (by unfold maxApp;omega)
 have hdeg:=Opr.deg2 hg ho (.inl ha)
 have hcv:∀ i j,cvN g o sets i j < 2 ^ g.sorts.names.length:=fun i j=>ZbJ _ _
 have hRlt:=fun a c b (h:Rel2 g o a c b)=>Rel2.lt hg (List.mem_of_getElem? ho) h
 have w0:IntKind.i64.wrap ((sets.length:Int) - 1)=(sets.length:Int) - 1:=IntWalk.i64_in _ om
 refine gI (ts:=[.slot 6]) 142936512139207 Tryz.func177 ?_
 (have F:=ai @rl (ai @hmx (ai @Int.toNat_natCast (ai @w0 @tmz)));refine gG ?_;clear F)
 have hR0:=ZDb sets.length
 (have F:=ai @hR0 @tmz;refine gL (ι:=Nat × List (List Nat)) [8,9,10,11,19,41,47] [8] (fun x=>[(9,.d (.one (.lit (.int .i64 ((x.1:Int) - 1))))),(8,.buf 8)]) (fun x=>[(8,.buf none 29 1 (x.2.map dRow))]) (fun x=>x.1<=sets.length∧x.2.length=sets.length∧∀ r,x.1<=r->r < sets.length->x.2[r]?=some (chL g o sets r)) (fun x=>x.1) ((sets.length,List.replicate sets.length [])) (⟨Nat.le_refl _,by simp,fun r h1 h2=>absurd h1 om⟩) (fun x hx=>?_);clear F)
 obtain ⟨x,Ds⟩:=x
 obtain ⟨hx,hDl,hD⟩:=hx
 simp only at hx hDl hD
 dsimp only
 have hDB:=Zw6 Ds
 have hRl:(Ds.map dRow).length=sets.length:=by rw [List.length_map,hDl]
 cases x with
 | zero =>
  have q1:((0:Int)<=((0:Nat):Int) - 1)=False:=eq_false om
  have r0:=hD 0 (Nat.le_refl _) om
  have cg:=ZaK (ZrR (g:=g) (o:=o) (sets:=sets) (r:=0) (k:=sets.length - 1) om om)
  rw [show sets.length - 1+1=sets.length by omega] at cg
  have w1:IntKind.i64.wrap ((sets.length:Int) - 1)=((sets.length - 1:Nat):Int):=ZaP om om om
  have cl:=ZaL (l:=chL g o sets 0)
  have cr:=ZaI (l:=chL g o sets 0)
  rw [ZiT] at cl
  have i1:(0 < sets.length)=True:=eq_true om
  have i2:(sets.length - 1 < sets.length)=True:=eq_true om
  (have F:=ai @q1 (ai @r0 (ai @hDl (ai @hDB (ai @Zw5 (ai @cg (ai @cl (ai @cr (ai @i1 (ai @i2 (ai @w1 (ai @Zau @tmz)))))))))));refine gG ?_;exact gTd)
 | succ p =>
 have hp:p < sets.length:=by omega
 have q1:((0:Int)<=((p+1:Nat):Int) - 1)=True:=eq_true om
 have hpc:((p+1:Nat):Int) - 1=(p:Int):=by omega
 rw [hpc] at q1 ⊢
 obtain ⟨s,hsp⟩:∃ s,sets[p]?=some s:=⟨_,List.getElem?_eq_getElem hp⟩
 have r1:=ZaK hsp
 have hw1:=Zav (k:=p) om
 have hwm:IntKind.i64.wrap ((p:Int) - 1)=(p:Int) - 1:=IntWalk.i64_in _ om
 have i1:(p < sets.length)=True:=eq_true hp
 have hFs:=FilB.start (g:=g) (o:=o) hsp (hs s (List.mem_of_getElem? hsp))
 have nl0:(nR (List.replicate sets.length 0)).length=sets.length:=by rw [ZaL,List.length_replicate]
 have nr0:=ZaI (l:=List.replicate sets.length 0)
 have ns0:=Zcf (l:=List.replicate sets.length 0) p s
 obtain ⟨z0,hz0⟩:∃ z,(List.replicate sets.length 0)[p]?=some z:=⟨_,List.getElem?_eq_getElem (by simpa using hp)⟩
 have ng0:=ZaK hz0
 (have F:=ai @q1 @tmz;have NN:Zai 6:=trivial;refine gGn ?_;clear F NN)
 refine gB ?_
 (have F:=ai @hmx (ai @Int.toNat_natCast (ai @nR_0 @tmz));refine gP 4 ?_;clear F)
 generalize List.replicate sets.length 0=L0 at nl0 nr0 ns0 ng0 hFs ⊢
 refine gS 25 fun a cap=>?_
 rw [nl0]
 have hB8:=ZDs (a:=a) (n:=sets.length) (cap:=cap) (Ds:=Ds) (p:=p) rfl
 have hl8:((Ds.map dRow).set p [.lit (.slice a sets.length cap)]).length=sets.length:=by rw [List.length_set,hRl]
 have hg8:((Ds.map dRow).set p [.lit (.slice a sets.length cap)])[p]?=some [.lit (.slice a sets.length cap)]:=List.getElem?_set_self (by rw [hRl];exact hp)
 have hr8:∀ r,p+1<=r->r < sets.length->((Ds.map dRow).set p [.lit (.slice a sets.length cap)])[r]?=some [.sl (nR (chL g o sets r))]:=fun r h1 h2=>by
  rw [List.getElem?_set_ne om,List.getElem?_map,hD r h1 h2];rfl
 have hd8:=fun L=>Zyk (a:=a) (n:=sets.length) (cap:=cap) (L:=L) (Ds:=Ds) (p:=p)
 obtain ⟨z,hz⟩:∃ z,Ds[p]?=some z:=⟨_,List.getElem?_eq_getElem om⟩
 (have F:=ai @hDl (ai @hDB (ai @hz (ai @Zw5 (ai @i1 (ai @Zau @tmz)))));refine gR ?_;clear F)
 generalize (Ds.map dRow).set p [.lit (.slice a sets.length cap)]=R8 at hB8 hl8 hg8 hr8 hd8 ⊢
 (have F:=ai @hB8 (ai @hl8 (ai @hg8 (ai @nl0 (ai @nr0 (ai @ns0 (ai @ng0 (ai @r1 (ai @rl (ai @rr (ai @i1 (ai @hw1 (ai @Zau @tmz))))))))))));have NN:Zai 9:=trivial;refine gGn ?_;clear F NN)
 generalize L0.set p s=L1 at hFs ⊢
 clear nl0 nr0 ns0 ng0 hz0 hz
 (have F:=@tmz;refine gL (ι:=Nat × List Nat) [10,11,41,47] [25] (fun y=>[(10,A.d (.one (.lit (.int .i64 y.1))))]) (fun y=>[(25,.buf (some (a,cap)) 3 1 (nR y.2))]) (fun y=>p+1<=y.1∧y.1<=sets.length∧FilB g o sets p y.1 y.2) (fun y=>sets.length - y.1) ((p+1,L1)) (⟨Nat.le_refl _,hp,hFs⟩) (fun y hy=>?_);clear F)
 clear hFs L1
 obtain ⟨k,L⟩:=y
 obtain ⟨hk1,hk2,hF⟩:=hy
 simp only at hk1 hk2 hF
 dsimp only
 by_cases hkl:k < sets.length
 rotate_left
 ·obtain rfl:k=sets.length:=by omega
  have hL:=hF.all
  subst hL
  have q2:((sets.length:Int) < (sets.length:Int))=False:=eq_false om
  have cl:=ZaL (l:=chL g o sets p)
  rw [ZiT] at cl
  have hd:=hd8 (chL g o sets p)
  (have F:=ai @q2 @tmz;have NN:Zai 5:=trivial;refine gGn ?_;clear F NN)
  refine pDb 25 8 (by decide) ?_
  rw [cl,hd]
  have hfin:p<=sets.length∧(Ds.set p (chL g o sets p)).length=sets.length∧∀ r,p<=r->r < sets.length->(Ds.set p (chL g o sets p))[r]?=some (chL g o sets r):=⟨by omega,by rw [List.length_set,hDl],fun r h1 h2=>by
   by_cases e:r=p
   ·subst e;exact List.getElem?_set_self om
   ·rw [List.getElem?_set_ne om];exact hD r om h2⟩
  (have F:=ai @hwm @tmz;refine gG ?_;exact ⟨(p,Ds.set p (chL g o sets p)),hfin,gw,gw,by omega⟩)
 have q2:((k:Int) < (sets.length:Int))=True:=eq_true om
 have hwk:=Zav (k:=k) om
 have hz:=hF.zero om hkl
 have hzz:nR (L.set k 0)=nR L:=by rw [hz]
 (have F:=ai @q2 @tmz;refine gG ?_;clear F)
 (have F:=ai @hzz @tmz;refine gL (ι:=Nat × Nat) [11,47] [25] (fun z=>[(11,A.d (.one (.lit (.int .i64 z.1))))]) (fun z=>[(25,.buf (some (a,cap)) 3 1 (nR (L.set k z.2)))]) (fun z=>p<=z.1∧z.1<=k∧z.2=ofB (CutB (Rel2 g o) sets g.sorts.names.length p (k+1) (z.1+1)) g.sorts.names.length) (fun z=>k - z.1) ((p,0)) (⟨Nat.le_refl _,by omega,Zl4.symm⟩) (fun z hz=>?_);clear F)
 obtain ⟨m,v⟩:=z
 obtain ⟨hm1,hm2,hv⟩:=hz
 simp only at hm1 hm2 hv
 subst hv
 dsimp only
 by_cases hmk:m < k
 rotate_left
 ·obtain rfl:m=k:=by omega
  have q3:((m:Int) < (m:Int))=False:=eq_false om
  have e:ofB (CutB (Rel2 g o) sets g.sorts.names.length p (m+1) (m+1)) g.sorts.names.length=cvN g o sets p (m+1):=ZrH hs hRlt om
  rw [e]
  (have F:=ai @q3 (ai @hwk @tmz);refine gG ?_;exact ⟨(m+1,L.set m (cvN g o sets p (m+1))),⟨by omega,hkl,hF.next om hkl⟩,gw,gw,by omega⟩)
 have q3:((m:Int) < (k:Int))=True:=eq_true om
 have hwm1:=Zav (k:=m) om
 have hLm:=hF.2 m om
 rw [if_neg om,if_pos hmk] at hLm
 have e:=fun b=>Zof (R:=Rel2 g o) (sets:=sets) (N:=g.sorts.names.length) (i:=p) (j:=k+1) (k:=m+1) (b:=b) om om
 have e:ofB (CutB (Rel2 g o) sets g.sorts.names.length p (k+1) (m+1)) g.sorts.names.length ||| ofB (fun b=>Two (Rel2 g o) (cvN g o sets p (m+1)) (cvN g o sets (m+1) (k+1)) b) g.sorts.names.length=ofB (CutB (Rel2 g o) sets g.sorts.names.length p (k+1) (m+1+1)) g.sorts.names.length:=by
  rw [Ze8]
  exact ZaR fun b _=>(e b).symm
 have cR:=Zgu (mc:=mc) hg h0 ho [cvN g o sets p (m+1),cvN g o sets (m+1) (k+1)] (fun d hd=>hdeg d hd) (by simp) (fun s hs=>by
  simp only [List.mem_cons,List.not_mem_nil,or_false] at hs
  rcases hs with rfl | rfl <;> exact hcv _ _)
 rw [ZCt hg ho ha hc] at cR
 have cR:=Ze9 cR
 have hor:=Zc3 (Zbq (ZbJ (CutB (Rel2 g o) sets g.sorts.names.length p (k+1) (m+1)) g.sorts.names.length) hN) (Zbq (ZbJ (fun b=>Two (Rel2 g o) (cvN g o sets p (m+1)) (cvN g o sets (m+1) (k+1)) b) g.sorts.names.length) hN)
 rw [e] at hor
 have hv62:=Zbq (ZbJ (CutB (Rel2 g o) sets g.sorts.names.length p (k+1) (m+1)) g.sorts.names.length) hN
 clear e
 generalize ofB (fun b=>Two (Rel2 g o) (cvN g o sets p (m+1)) (cvN g o sets (m+1) (k+1)) b) g.sorts.names.length=tw at cR hor
 generalize ofB (CutB (Rel2 g o) sets g.sorts.names.length p (k+1) (m+1)) g.sorts.names.length=v at hor ⊢
 have nl:=ZaL (l:=L.set k v)
 rw [List.length_set,hF.1] at nl
 have nr:=ZaI (l:=L.set k v)
 have g1:(nR (L.set k v))[k]?=some [.lit (.int .i64 v)]:=ZaK (List.getElem?_set_self (by rw [hF.1];exact hkl))
 have g2:(nR (L.set k v))[m]?=some [.lit (.int .i64 (cvN g o sets p (m+1)))]:=ZaK (by rw [List.getElem?_set_ne om];exact hLm)
 have g3:=hr8 (m+1) om om
 have g4:=ZaK (ZrR (g:=g) (o:=o) (sets:=sets) (r:=m+1) (k:=k) om hkl)
 have cl:=ZaL (l:=chL g o sets (m+1))
 rw [ZiT] at cl
 have cr:=ZaI (l:=chL g o sets (m+1))
 have ns:=fun x=>Zcf (l:=L.set k v) k x
 simp only [List.set_set] at ns
 have i2:(k < sets.length)=True:=eq_true hkl
 have i3:(m < sets.length)=True:=eq_true om
 have i4:(m+1 < sets.length)=True:=eq_true om
 (have F:=ai @q3 @tmz;have NN:Zai 14:=trivial;refine gGn ?_;clear F NN)
 refine gB ?_
 (have F:=ai @hB8 (ai @hl8 (ai @hg8 (ai @nl (ai @nr (ai @g1 (ai @g2 (ai @g3 (ai @g4 (ai @cl (ai @cr (ai @i1 (ai @i2 (ai @i3 (ai @i4 (ai @hwm1 (ai @Zau @tmz))))))))))))))));refine gC (cR) ?_;clear F)
 (have F:=ai @nl (ai @nr (ai @g1 (ai @hor (ai @ns (ai @i2 (ai @Zau @tmz))))));refine gR ?_;clear F)
 (have F:=ai @hwm1 @tmz;refine gG ?_;exact ⟨(m+1,ofB (CutB (Rel2 g o) sets g.sorts.names.length p (k+1) (m+1+1)) g.sorts.names.length),⟨by omega,hmk,rfl⟩,gw,gw,by omega⟩)
end
theorem ZrS {n i j i' j':Nat} (hj:j < n) (hj':j' < n) (h:i * n+j=i' * n+j'):i=i'∧j=j':=by
 have h1:(i * n+j) / n=i:=by rw [Nat.mul_comm,Nat.mul_add_div om,Nat.div_eq_of_lt hj,Nat.add_zero]
 have h2:(i' * n+j') / n=i':=by rw [Nat.mul_comm,Nat.mul_add_div om,Nat.div_eq_of_lt hj',Nat.add_zero]
 rw [h] at h1
 have e:i=i':=by rw [<- h1,h2]
 subst e
 exact ⟨rfl,by omega⟩
theorem Zes {n i j:Nat} (hi:i < n) (hj:j < n):i * n+j < n * n:=by
 have:(i+1) * n<=n * n:=Nat.mul_le_mul_right n hi
 rw [Nat.succ_mul] at this
 omega
section
variable {g:Sgn}
def TabB (g:Sgn) (o:Opr) (sets:List Nat) (P:Nat->Nat->Prop) (T:List Nat):Prop:=T.length=sets.length * sets.length∧∀ i j,i<=j->j < sets.length->(P i j->T[i * sets.length+j]?=some (cvN g o sets i (j+1)))∧(¬ P i j->T[i * sets.length+j]?=some 0)
theorem TabB.start {o:Opr} {sets:List Nat} {P:Nat->Nat->Prop} (h:∀ i j,i<=j->¬ P i j):TabB g o sets P (List.replicate (sets.length * sets.length) 0):=⟨by simp,fun i j h1 h2=>⟨fun hp=>absurd hp (h i j h1),fun _=>by
 rw [List.getElem?_replicate,if_pos (Zes om h2)]⟩⟩
theorem TabB.next {o:Opr} {sets:List Nat} {P P':Nat->Nat->Prop} {T:List Nat} (h:TabB g o sets P T) {i j:Nat} (hij:i<=j) (hj:j < sets.length) (h1:∀ i' j',i'<=j'->j' < sets.length->(P' i' j' ↔ P i' j'∨(i'=i∧j'=j))):TabB g o sets P' (T.set (i * sets.length+j) (cvN g o sets i (j+1))):=by
 refine ⟨by rw [List.length_set,h.1],fun i' j' q1 q2=>?_⟩
 have hl:=Zes (n:=sets.length) (i:=i) (j:=j) om hj
 by_cases e:i'=i∧j'=j
 ·obtain ⟨rfl,rfl⟩:=e
  exact ⟨fun _=>List.getElem?_set_self (by rw [h.1];exact hl),fun hn=>absurd ((h1 _ _ q1 q2).2 (.inr ⟨rfl,rfl⟩)) hn⟩
 ·have hne:i * sets.length+j≠i' * sets.length+j':=fun q=>e (by have:=ZrS hj q2 q;exact ⟨this.1.symm,this.2.symm⟩)
  rw [List.getElem?_set_ne hne]
  have h2:=h.2 i' j' q1 q2
  exact ⟨fun hp=>h2.1 (((h1 _ _ q1 q2).1 hp).resolve_right e),fun hn=>h2.2 fun hp=>hn ((h1 _ _ q1 q2).2 (.inl hp))⟩
theorem TabB.mono {o:Opr} {sets:List Nat} {P P':Nat->Nat->Prop} {T:List Nat} (h:TabB g o sets P T) (h1:∀ i j,i<=j->j < sets.length->(P' i j ↔ P i j)):TabB g o sets P' T:=⟨h.1,fun i j q1 q2=>by
 have h2:=h.2 i j q1 q2
 rw [h1 i j q1 q2];exact h2⟩
theorem TabB.zero {o:Opr} {sets:List Nat} {P:Nat->Nat->Prop} {T:List Nat} (h:TabB g o sets P T) {i j:Nat} (hij:i<=j) (hj:j < sets.length) (hn:¬ P i j):T.set (i * sets.length+j) 0=T:=by
 have h1:=(h.2 i j hij hj).2 hn
 have hl:=Zes (n:=sets.length) (i:=i) (j:=j) om hj
 refine List.ext_getElem? fun q=>?_
 by_cases e:q=i * sets.length+j
 ·subst e
  rw [List.getElem?_set_self (by rw [h.1];exact hl),h1]
 ·rw [List.getElem?_set_ne (Ne.symm e)]
def szP (size i0:Nat) (i j:Nat):Prop:=j+1 < i+size∨(j+1=i+size∧i < i0)
theorem wmul {i n:Nat} (hi:i<=10) (hn:n<=10):IntKind.i64.wrap ((i:Int) * (n:Int))=((i * n:Nat):Int):=by
 have:i * n<=10 * 10:=Nat.mul_le_mul hi hn
 exact ZaP (by simp) om om
theorem wadd {i n:Nat} (hi:i<=1000) (hn:n<=1000):IntKind.i64.wrap ((i:Int)+(n:Int))=((i+n:Nat):Int):=ZaP (by simp) om om
set_option maxRecDepth 100000 in
theorem Zpo (hg:SgnOk g) {op:Int} {o:Opr} (h0:0<=op) (ho:g.ops[op.toNat]?=some o) (ha:o.assoc=true) (sets:List Nat) (hn1:1<=sets.length) (hn7:sets.length<=7) (hs:∀ s∈sets,s < 2 ^ g.sorts.names.length):Con e0 208 [.agg (Zaw g),.one (.lit (.int .i64 op)),.one (.sl (nR sets))] [.one (.lit (.int .i64 ((cvN g o sets 0 sets.length:Nat):Int)))]:=by
 have hN:=hg.sorts.n8
 have rl:=ZaL (l:=sets)
 have rr:=ZaI (l:=sets)
 have hnn:sets.length * sets.length<=7 * 7:=Nat.mul_le_mul hn7 hn7
 have hmx:(((sets.length * sets.length:Nat):Int)<=(maxApp:Int))=True:=eq_true (by unfold maxApp;omega)
 have hdeg:=Opr.deg2 hg ho (.inl ha)
 have hcv:∀ i j,cvN g o sets i j < 2 ^ g.sorts.names.length:=fun i j=>ZbJ _ _
 have hRlt:=fun a c b (h:Rel2 g o a c b)=>Rel2.lt hg (List.mem_of_getElem? ho) h
 have wnn:=wmul (i:=sets.length) (n:=sets.length) om om
 have cU:=ZfP hg.sorts.n8 hg.sorts.m16 (SortsOk.subsIn hg.sorts.subs)
 have hT0:=TabB.start (g:=g) (o:=o) (sets:=sets) (P:=szP 1 0) fun i j h q=>by unfold szP at q;omega
 rw [Za2] at cU
 rw [Zaw]
 refine gI (ts:=[.slot 6]) 36028870066978767 Tryz.func208 ?_
 (have F:=ai @rl @tmz;have NN:Zai 2:=trivial;refine gGn ?_;clear F NN)
 refine gB ?_
 (have F:=@tmz;refine gC (cU) ?_;clear F)
 (have F:=@tmz;refine gR ?_;clear F)
 (have F:=ai @rl (ai @wnn (ai @hmx (ai @Int.toNat_natCast (ai @nR_0 @tmz))));refine gG ?_;clear F)
 generalize List.replicate (sets.length * sets.length) 0=T0 at hT0 ⊢
 (have F:=@tmz;refine gL (ι:=Nat × List Nat) [9,10,11,12,13,25,32,36,55] [9] (fun x=>[(10,A.d (.one (.lit (.int .i64 x.1)))),(9,.buf 9)]) (fun x=>[(9,.buf none 3 1 (nR x.2))]) (fun x=>1<=x.1∧x.1<=sets.length+1∧TabB g o sets (szP x.1 0) x.2) (fun x=>sets.length+1 - x.1) ((1,T0)) (⟨Nat.le_refl _,by omega,hT0⟩) (fun x hx=>?_);clear F)
 clear hT0 T0
 obtain ⟨size,T⟩:=x
 obtain ⟨hz1,hz2,hT⟩:=hx
 simp only at hz1 hz2 hT
 dsimp only
 have nl:=ZaL (l:=T)
 rw [hT.1] at nl
 have nr:=ZaI (l:=T)
 by_cases hzl:size<=sets.length
 rotate_left
 ·obtain rfl:size=sets.length+1:=by omega
  have q1:(((sets.length+1:Nat):Int)<=(sets.length:Int))=False:=eq_false om
  have hg1:=((hT.2 0 (sets.length - 1) om om).1 (.inl om))
  rw [show 0 * sets.length+(sets.length - 1)=sets.length - 1 by omega,show sets.length - 1+1=sets.length by omega] at hg1
  have hg2:=ZaK hg1
  have w1:IntKind.i64.wrap ((sets.length:Int) - 1)=((sets.length - 1:Nat):Int):=ZaP om om om
  have hle:sets.length * 1<=sets.length * sets.length:=Nat.mul_le_mul_left _ hn1
  have i1:(sets.length - 1 < sets.length * sets.length)=True:=eq_true om
  (have F:=ai @q1 (ai @nl (ai @nr (ai @hg2 (ai @w1 (ai @i1 (ai @Zau @tmz))))));refine gG ?_;exact gTd)
 have q1:((size:Int)<=(sets.length:Int))=True:=eq_true om
 have hws:=Zav (k:=size) om
 clear nl nr
 (have F:=ai @q1 @tmz;refine gG ?_;clear F)
 (have F:=@tmz;refine gL (ι:=Nat × List Nat) [9,11,12,13,32,36,55] [9] (fun y=>[(11,A.d (.one (.lit (.int .i64 y.1)))),(9,.buf 9)]) (fun y=>[(9,.buf none 3 1 (nR y.2))]) (fun y=>y.1+size<=sets.length+1∧TabB g o sets (szP size y.1) y.2) (fun y=>sets.length+1 - y.1) ((0,T)) (⟨by omega,hT⟩) (fun y hy=>?_);clear F)
 clear hT T
 obtain ⟨i,T⟩:=y
 obtain ⟨hi,hT⟩:=hy
 simp only at hi hT
 dsimp only
 have nl:=ZaL (l:=T)
 rw [hT.1] at nl
 have nr:=ZaI (l:=T)
 have wis:=wadd (i:=i) (n:=size) om om
 by_cases hil:i+size<=sets.length
 rotate_left
 ·have q2:(((i+size:Nat):Int)<=(sets.length:Int))=False:=eq_false om
  have hT2:TabB g o sets (szP (size+1) 0) T:=hT.mono fun i' j' h1 h2=>by
   unfold szP
   omega
  (have F:=ai @q2 (ai @wis (ai @hws @tmz));refine gG ?_;exact ⟨(size+1,T),⟨by omega,by omega,hT2⟩,gw,gw,by omega⟩)
 have q2:(((i+size:Nat):Int)<=(sets.length:Int))=True:=eq_true om
 have hwi:=Zav (k:=i) om
 have wii:=wmul (i:=i) (n:=sets.length) om om
 have hlt:=Zes (n:=sets.length) (i:=i) (j:=i+size - 1) om om
 by_cases hs1:size=1
 ·subst hs1
  have q3:(((1:Nat):Int)=1)=True:=eq_true rfl
  obtain ⟨s,hsi⟩:∃ s,sets[i]?=some s:=⟨_,List.getElem?_eq_getElem om⟩
  have r1:=ZaK hsi
  have e:cvN g o sets i (i+1)=s:=by unfold cvN;exact ZwO hsi (hs s (List.mem_of_getElem? hsi))
  have hT2:TabB g o sets (szP 1 (i+1)) (T.set (i * sets.length+i) (cvN g o sets i (i+1))):=hT.next (Nat.le_refl _) om fun i' j' h1 h2=>by
   unfold szP
   omega
  rw [e] at hT2
  have wa:=wadd (i:=i * sets.length) (n:=i) om om
  have ns:=Zcf (l:=T) (i * sets.length+i) s
  obtain ⟨z,hz⟩:∃ z,T[i * sets.length+i]?=some z:=⟨_,List.getElem?_eq_getElem (by rw [hT.1];exact Zes om om)⟩
  have ng:=ZaK hz
  have i1:(i < sets.length)=True:=eq_true om
  have i2:(i * sets.length+i < sets.length * sets.length)=True:=eq_true (Zes om om)
  (have F:=ai @q2 (ai @wis (ai @q3 (ai @wii (ai @wa (ai @r1 (ai @rl (ai @rr (ai @nl (ai @nr (ai @ns (ai @ng (ai @i1 (ai @i2 (ai @hwi (ai @Zau @tmz)))))))))))))));refine gG ?_;exact ⟨(i+1,T.set (i * sets.length+i) s),⟨by omega,hT2⟩,gw,gw,by omega⟩)
 have q3:((size:Int)=1)=False:=eq_false om
 obtain ⟨j,hj⟩:∃ j,j+1=i+size:=⟨i+size - 1,by omega⟩
 have wj:IntKind.i64.wrap (((i+size:Nat):Int) - 1)=(j:Int):=ZaP om om om
 have hij:i < j:=by omega
 have hjn:j < sets.length:=by omega
 have hij2:i<=j:=by omega
 have hlt:=Zes (n:=sets.length) (i:=i) (j:=j) om hjn
 have waj:=wadd (i:=i * sets.length) (n:=j) om om
 have hz0:=hT.zero hij2 hjn (by unfold szP;omega)
 have hzz:nR (T.set (i * sets.length+j) 0)=nR T:=by rw [hz0]
 have hnx:TabB g o sets (szP size (i+1)) (T.set (i * sets.length+j) (cvN g o sets i (j+1))):=hT.next hij2 hjn fun i' j' h1 h2=>by
  unfold szP
  omega
 (have F:=ai @q2 (ai @wis (ai @q3 (ai @wj @tmz)));have NN:Zai 13:=trivial;refine gGn ?_;clear F NN)
 (have F:=@tmz;refine gG ?_;clear F)
 (have F:=ai @hzz @tmz;refine gL (ι:=Nat × Nat) [9,13,55] [9] (fun z=>[(13,A.d (.one (.lit (.int .i64 z.1)))),(9,.buf 9)]) (fun z=>[(9,.buf none 3 1 (nR (T.set (i * sets.length+j) z.2)))]) (fun z=>i<=z.1∧z.1<=j∧z.2=ofB (CutB (Rel2 g o) sets g.sorts.names.length i (j+1) (z.1+1)) g.sorts.names.length) (fun z=>j - z.1) ((i,0)) (⟨Nat.le_refl _,by omega,Zl4.symm⟩) (fun z hz=>?_);clear F)
 obtain ⟨k,v⟩:=z
 obtain ⟨hk1,hk2,hv⟩:=hz
 simp only at hk1 hk2 hv
 subst hv
 dsimp only
 by_cases hkj:k < j
 rotate_left
 ·obtain rfl:k=j:=by omega
  have q4:((k:Int) < (k:Int))=False:=eq_false om
  have e:ofB (CutB (Rel2 g o) sets g.sorts.names.length i (k+1) (k+1)) g.sorts.names.length=cvN g o sets i (k+1):=ZrH hs hRlt om
  rw [e]
  (have F:=ai @q4 (ai @hwi @tmz);refine gG ?_;exact ⟨(i+1,T.set (i * sets.length+k) (cvN g o sets i (k+1))),⟨by omega,hnx⟩,gw,gw,by omega⟩)
 have q4:((k:Int) < (j:Int))=True:=eq_true om
 have hwk:=Zav (k:=k) om
 have hTk:=(hT.2 i k hk1 om).1 (by unfold szP;omega)
 have hTj:=(hT.2 (k+1) j om hjn).1 (by unfold szP;omega)
 have hltk:=Zes (n:=sets.length) (i:=i) (j:=k) om om
 have hltj:=Zes (n:=sets.length) (i:=k+1) (j:=j) om hjn
 have wak:=wadd (i:=i * sets.length) (n:=k) om om
 have wm2:=wmul (i:=k+1) (n:=sets.length) om om
 have wa2:=wadd (i:=(k+1) * sets.length) (n:=j) om om
 have e:=fun b=>Zof (R:=Rel2 g o) (sets:=sets) (N:=g.sorts.names.length) (i:=i) (j:=j+1) (k:=k+1) (b:=b) om om
 have e:ofB (CutB (Rel2 g o) sets g.sorts.names.length i (j+1) (k+1)) g.sorts.names.length ||| ofB (fun b=>Two (Rel2 g o) (cvN g o sets i (k+1)) (cvN g o sets (k+1) (j+1)) b) g.sorts.names.length=ofB (CutB (Rel2 g o) sets g.sorts.names.length i (j+1) (k+1+1)) g.sorts.names.length:=by
  rw [Ze8]
  exact ZaR fun b _=>(e b).symm
 have cR:=Zhs hg (List.mem_of_getElem? ho) [cvN g o sets i (k+1),cvN g o sets (k+1) (j+1)] (fun d hd=>hdeg d hd) (by simp) (fun s hs=>by
  simp only [List.mem_cons,List.not_mem_nil,or_false] at hs
  rcases hs with rfl | rfl <;> exact hcv _ _)
 rw [show ofB (ZcR g o [cvN g o sets i (k+1),cvN g o sets (k+1) (j+1)]) g.sorts.names.length=ofB (fun b=>Two (Rel2 g o) (cvN g o sets i (k+1)) (cvN g o sets (k+1) (j+1)) b) g.sorts.names.length from ZaR fun b _=>Zd8 hdeg] at cR
 have cR:=Ze9 cR
 have hor:=Zc3 (Zbq (ZbJ (CutB (Rel2 g o) sets g.sorts.names.length i (j+1) (k+1)) g.sorts.names.length) hN) (Zbq (ZbJ (fun b=>Two (Rel2 g o) (cvN g o sets i (k+1)) (cvN g o sets (k+1) (j+1)) b) g.sorts.names.length) hN)
 rw [e] at hor
 clear e
 generalize ofB (fun b=>Two (Rel2 g o) (cvN g o sets i (k+1)) (cvN g o sets (k+1) (j+1)) b) g.sorts.names.length=tw at cR hor
 generalize ofB (CutB (Rel2 g o) sets g.sorts.names.length i (j+1) (k+1)) g.sorts.names.length=v at hor ⊢
 have nl2:=ZaL (l:=T.set (i * sets.length+j) v)
 rw [List.length_set,hT.1] at nl2
 have nr2:=ZaI (l:=T.set (i * sets.length+j) v)
 have ne1:i * sets.length+j≠i * sets.length+k:=by omega
 have ne2:i * sets.length+j≠(k+1) * sets.length+j:=fun q=>by have:=ZrS hjn hjn q;omega
 have g1:(nR (T.set (i * sets.length+j) v))[i * sets.length+j]?=some [.lit (.int .i64 v)]:=ZaK (List.getElem?_set_self (by rw [hT.1];exact hlt))
 have g2:(nR (T.set (i * sets.length+j) v))[i * sets.length+k]?=some [.lit (.int .i64 (cvN g o sets i (k+1)))]:=ZaK (by rw [List.getElem?_set_ne ne1];exact hTk)
 have g3:(nR (T.set (i * sets.length+j) v))[(k+1) * sets.length+j]?=some [.lit (.int .i64 (cvN g o sets (k+1) (j+1)))]:=ZaK (by rw [List.getElem?_set_ne ne2];exact hTj)
 have ns:=fun x=>Zcf (l:=T.set (i * sets.length+j) v) (i * sets.length+j) x
 simp only [List.set_set] at ns
 have i1:(i * sets.length+j < sets.length * sets.length)=True:=eq_true hlt
 have i2:(i * sets.length+k < sets.length * sets.length)=True:=eq_true hltk
 have i3:((k+1) * sets.length+j < sets.length * sets.length)=True:=eq_true hltj
 clear nl nr
 (have F:=ai @q4 @tmz;have NN:Zai 16:=trivial;refine gGn ?_;clear F NN)
 refine gB ?_
 (have F:=ai @wii (ai @waj (ai @wak (ai @hwk (ai @wm2 (ai @wa2 (ai @nl2 (ai @nr2 (ai @g1 (ai @g2 (ai @g3 (ai @i1 (ai @i2 (ai @i3 (ai @h0 (ai @ho (ai @Zaj (ai @Zau @tmz)))))))))))))))));refine gC (cR) ?_;clear F)
 (have F:=ai @nl2 (ai @nr2 (ai @g1 (ai @hor (ai @ns (ai @i1 (ai @Zau @tmz))))));refine gR ?_;clear F)
 (have F:=ai @hwk @tmz;refine gG ?_;exact ⟨(k+1,ofB (CutB (Rel2 g o) sets g.sorts.names.length i (j+1) (k+1+1)) g.sorts.names.length),⟨by omega,hkj,rfl⟩,gw,gw,by omega⟩)
end
def Env.plus (e:Env) (E2:Nat->Prop) (G2:World->Prop):Env:=⟨e.P,fun b=>e.E b∨E2 b,fun w=>e.G w∧G2 w,e.D⟩
structure Fits (e:Env) (E2:Nat->Prop) (G2:World->Prop):Prop where
 st:ZcA E2 G2
 dj:∀ w,G2 w->∀ b,E2 b->¬ e.E b
section
variable {e:Env} {E2:Nat->Prop} {G2:World->Prop}
theorem Fits.ok (h:Fits e E2 G2) (he:e.Ok):(e.plus E2 G2).Ok:=⟨fun w w' hz hb ⟨h1,h2⟩=>⟨he.keep w w' hz (fun b hb'=>hb b (.inl hb')) h1,h.st w w' hz (fun b hb'=>hb b (.inr hb')) h2⟩,he.mixed⟩
theorem Kept.up {D:Prop} {E E':Nat->Prop} {B:Nat} {w w':World} (h:Kept D E B w w') (hE:∀ b,E b->E' b):Kept D E' B w w':=⟨h.os,h.tape,h.output,h.drawn,h.size,fun k hk hn=>h.block k hk fun q=>hn (hE k q)⟩
theorem Fits.keep (h:Fits e E2 G2) {E:Nat->Prop} {w w':World} (hk:Kept e.D E w.heap.size w w') (hE:∀ b,(e.plus E2 G2).E b->b < w.heap.size) (hG:G2 w) (hn:∀ b,E2 b->¬ E b):G2 w':=h.st w w' hk.size (fun b hb=>hk.block b (hE b (.inr hb)) (hn b hb)) hG
theorem Con.up (h2:Fits e E2 G2) {f:FuncId} {args r:List D} (h:Con e f args r):Con (e.plus E2 G2) f args r :=
 ⟨h.1,fun w S vs hS hE hG hvs=>(h.2 w S vs (fun b hb=>⟨(hS b hb).1,fun q=>(hS b hb).2 (.inl q)⟩) (fun b hb=>hE b (.inl hb)) hG.1 hvs).mono fun en w' ⟨v,h1,hk,hg,ha⟩=>⟨v,h1,hk.up fun _=>.inl,⟨hg,h2.keep hk hE hG.2 (h2.dj w hG.2)⟩,ha⟩⟩
theorem ConE.up (h2:Fits e E2 G2) {f:FuncId} {args:List D} {R:List D->Prop} (h:ConE e f args R):ConE (e.plus E2 G2) f args R :=
 ⟨h.1,fun w S vs hS hE hG hvs=>(h.2 w S vs (fun b hb=>⟨(hS b hb).1,fun q=>(hS b hb).2 (.inl q)⟩) (fun b hb=>hE b (.inl hb)) hG.1 hvs).mono fun en w' ⟨v,r,h1,hr,hk,hg,ha⟩=>⟨v,r,h1,hr,hk.up fun _=>.inl,⟨hg,h2.keep hk hE hG.2 (h2.dj w hG.2)⟩,ha⟩⟩
theorem ConR.up (h2:Fits e E2 G2) {f:FuncId} {args:List D} {ty sz:Nat} {rows:List (List C)} (h:ConR e f args ty sz rows):ConR (e.plus E2 G2) f args ty sz rows :=
 ⟨h.1,fun w S vs hS hE hG hvs=>(h.2 w S vs (fun b hb=>⟨(hS b hb).1,fun q=>(hS b hb).2 (.inl q)⟩) (fun b hb=>hE b (.inl hb)) hG.1 hvs).mono fun en w' ⟨v,h1,hk,hg,ha⟩=>⟨v,h1,hk.up fun _=>.inl,⟨hg,h2.keep hk hE hG.2 (h2.dj w hG.2)⟩,ha⟩⟩
theorem ConI.up (h2:Fits e E2 G2) {f:FuncId} {ty sz:Nat} {rows rows':List (List C)} {args r:List D} (h:ConI e f ty sz rows args rows' r):ConI (e.plus E2 G2) f ty sz rows args rows' r :=
 ⟨h.1,fun w S v0 vs hS hE h0 hG hb hvs=>(h.2 w S v0 vs (fun b hb=>⟨(hS b hb).1,fun q=>(hS b hb).2 (.inl q)⟩) (fun b hb=>hE b (.inl hb)) (fun g hg q=>h0 g hg (.inl q)) hG.1 hb hvs).mono fun en w' ⟨v,h1,hk,hg,ha⟩=>⟨v,h1,hk.up fun _ q=>q.elim (fun q=>.inl (.inl q)) .inr,⟨hg,h2.keep hk hE hG.2 fun b hb q=>q.elim (h2.dj w hG.2 b hb) fun q=>h0 b q (.inr hb)⟩,ha⟩⟩
theorem ConT.up (h2:Fits e E2 G2) {f:FuncId} {ty sz:Nat} {rows rows':List (List C)} {args:List D} (h:ConT e f ty sz rows args rows'):ConT (e.plus E2 G2) f ty sz rows args rows' :=
 ⟨h.1,fun w S v0 vs hS hE h0 hG hb hvs=>(h.2 w S v0 vs (fun b hb=>⟨(hS b hb).1,fun q=>(hS b hb).2 (.inl q)⟩) (fun b hb=>hE b (.inl hb)) (fun g hg q=>h0 g hg (.inl q)) hG.1 hb hvs).mono fun en w' ⟨v,h1,hk,hg,ha⟩=>⟨v,h1,hk.up fun _ q=>q.elim (fun q=>.inl (.inl q)) .inr,⟨hg,h2.keep hk hE hG.2 fun b hb q=>q.elim (h2.dj w hG.2 b hb) fun q=>h0 b q (.inr hb)⟩,ha⟩⟩
theorem ConP.up (h2:Fits e E2 G2) {f:FuncId} {args:List D} {pm:List Bk} {R:List D->List Bk->Prop} (h:ConP e f args pm R):ConP (e.plus E2 G2) f args pm R :=
 ⟨h.1,fun w S vs hS hE hG hpm hap hvs=>(h.2 w S vs (fun b hb=>⟨(hS b hb).1,fun q=>(hS b hb).2 (.inl q)⟩) (fun b hb=>hE b (.inl hb)) hG.1 (fun x hx=>⟨(hpm x hx).1,fun g hg q=>(hpm x hx).2 g hg (.inl q)⟩) hap hvs).mono fun en w' ⟨v,r,pm',h1,hr,hk,hg,ha⟩=>⟨v,r,pm',h1,hr,hk.up fun _ q=>q.elim (fun q=>.inl (.inl q)) .inr,⟨hg,h2.keep hk hE hG.2 fun b hb q=>q.elim (h2.dj w hG.2 b hb) fun ⟨x,hx,hxg⟩=>(hpm x hx).2 b hxg (.inr hb)⟩,ha⟩⟩
theorem Zym {ι:Type} {G:ι->World->Prop} {ok:ι->Prop} (h2:Fits e E2 G2) (hst:∀ i,ZcA E2 (G i)) (ho:∀ w,G2 w->∃ i,ok i∧G i w) (hi:∀ w i,(∀ b,E2 b->¬ e.E b)->ok i->G i w->G2 w) {f:FuncId} {xs r:List D} (hb:Zb6 e.P f=true)
  (h:∀ i,ok i->ConP e f xs [.set E2 (G i)] (fun r' pm=>r'=r∧∃ i',ok i'∧pm=[.set E2 (G i')])):Con (e.plus E2 G2) f xs r:=by
 refine ⟨hb,fun w S vs hS hE hG hvs=>?_⟩
 obtain ⟨i,hi1,hi2⟩:=ho w hG.2
 have hdj:=h2.dj w hG.2
 refine ((h i hi1).2 w S vs (fun b hb=>⟨(hS b hb).1,fun q=>(hS b hb).2 (.inl q)⟩) (fun b hb=>hE b (.inl hb)) hG.1 (fun x hx=>?_) ⟨fun y hy=>(by cases hy),trivial⟩ hvs).mono fun en w' ⟨v,r',pm,h1,⟨hr,i',hi1',hpm⟩,hk,hg,hp,_,ha⟩=>?_
 ·obtain rfl:=List.mem_singleton.1 hx
  exact ⟨⟨fun b hb=>⟨hE b (.inr hb),fun q=>(hS b q).2 (.inr hb)⟩,hi2,hst i⟩,fun g hg=>hdj g hg⟩
 ·subst hr hpm
  have hpb:∀ (G:World->Prop) (b:Nat),Zba [.set E2 G] b ↔ E2 b:=fun G b=>⟨fun ⟨x,hx,hg⟩=>by obtain rfl:=List.mem_singleton.1 hx;exact hg,fun q=>⟨_,List.mem_singleton.2 rfl,q⟩⟩
  refine ⟨v,h1,hk.up fun b q=>q.elim .inl fun q=>.inr ((hpb _ b).1 q),⟨hg,hi w' i' hdj hi1' (hp _ (List.mem_singleton.2 rfl)).1.2.1⟩,ha.keep (Nat.le_refl _) (fun _ _ _=>rfl) fun b hb=>?_⟩
  rcases hb.1 with q | q | q
  ·exact .inl q
  ·exact absurd ((hpb _ b).2 ((hpb _ b).1 q)) hb.2
  ·exact .inr q
theorem ZCv {mask:Nat} {c:Code} {s:List (Nat × A)} {m:List (Nat × Bk)} {Q:PX->St->Prop} {G1:World->Prop} (k:Nat) (hst:ZcA E2 G2) (hm:gm m k=some (.set E2 G1)) (h2:(∀ b,E2 b->¬ e.E b)->Fits e E2 G2∧∀ w,G1 w->G2 w) (h:Fits e E2 G2->pwp (e.plus E2 G2) mask c ⟨s,remM k m⟩ Q):pwp e mask c ⟨s,m⟩ Q:=by
 intro he U w0 S0 nt a w hok ⟨S,L,hs⟩
 have hc:=hs.cls
 have ho:=hc.own k _ hm
 obtain ⟨hF,hG⟩:=h2 fun b hb=>hc.notE hm (show Zay L k (.set E2 G1) b from hb)
 have hlt:∀ b,e.E b∨E2 b->b < w.heap.size:=fun b hb=>hb.elim (fun q=>Nat.lt_of_lt_of_le (hc.ein b q) hc.bsz) fun q=>(ho.1 b q).1
 have hsub:∀ k' bk,gm (remM k m) k'=some bk->k'≠k∧gm m k'=some bk:=fun k' bk hk'=>by
  rw [ZaX] at hk'
  by_cases e:k'=k
  ·rw [if_pos e] at hk';cases hk'
  ·rw [if_neg e] at hk';exact ⟨e,hk'⟩
 have hs2:SimE (e.plus E2 G2) (fun g=>∃ k' bk,gm (remM k m) k'=some bk∧Zay L k' bk g) w S nt ⟨s,remM k m⟩ a w:=by
  refine ⟨S,L,⟨fun b hb=>⟨(hc.sin b hb).1,fun q=>q.elim (hc.sin b hb).2 fun q=>(ho.1 b q).2 hb⟩,fun b hb=>.inl hb,hlt,?_,Nat.le_refl _,fun k' bk g h1 h2=>.inr ⟨k',bk,h1,h2⟩,fun k' bk hk'=>hc.own k' bk (hsub k' bk hk').2,fun k1 k2 x1 x2 g h1 h2=>hc.inj k1 k2 x1 x2 g (hsub k1 x1 h1).2 (hsub k2 x2 h2).2,⟨hc.g,hG w ho.2.1⟩⟩,hs.rel,hs.size,hs.defers,Kept.refl _ _ _ _⟩
  rintro b ⟨k',bk,h1,h3⟩ q
  obtain ⟨hne,h1⟩:=hsub k' bk h1
  rcases q with q | q
  ·exact hc.notE h1 h3 q
  ·exact hne (hc.inj k' k bk _ b h1 hm h3 q)
 refine wp_mono (h hF (hF.ok he) _ _ _ _ _ w hok hs2) fun ex a' w' hq=>?_
 have back:∀ σ',SimE (e.plus E2 G2) (fun g=>∃ k' bk,gm (remM k m) k'=some bk∧Zay L k' bk g) w S nt σ' a' w'->SimE e U w0 S0 nt σ' a' w':=fun σ' ⟨S1,L1,h1⟩=>by
  have c1:=h1.cls
  have hU:∀ b,(∃ k' bk,gm (remM k m) k'=some bk∧Zay L k' bk b)->w0.heap.size<=b∨U b:=fun b ⟨k',bk,q1,q2⟩=>hc.mine k' bk b (hsub k' bk q1).2 q2
  refine ⟨S1,L1,⟨fun b hb=>⟨(c1.sin b hb).1,fun q=>(c1.sin b hb).2 (.inl q)⟩,fun b hb=>?_,hc.ein,hc.uin,Nat.le_trans hc.bsz c1.bsz,fun k' bk g q1 q2=>?_,c1.own,c1.inj,c1.g.1⟩,h1.rel,h1.size,h1.defers,⟨h1.kept.os.trans hs.kept.os,h1.kept.tape.trans hs.kept.tape,h1.kept.output.trans hs.kept.output,fun d=>Nat.le_trans (hs.kept.drawn d) (h1.kept.drawn d),Nat.le_trans hs.kept.size h1.kept.size,fun b hb hn=>?_⟩⟩
  ·rcases c1.sfr b hb with q | q | q
   ·exact hc.sfr b q
   ·exact .inr (.inl (Nat.le_trans hc.bsz q))
   ·exact .inr (hU b q)
  ·rcases c1.mine k' bk g q1 q2 with q | q
   ·exact .inl (Nat.le_trans hc.bsz q)
   ·exact hU g q
  ·refine (h1.kept.block b (Nat.lt_of_lt_of_le hb hs.kept.size) fun q=>?_).trans (hs.kept.block b hb hn)
   rcases q with (q | q) | q
   ·exact hn (.inl q)
   ·rcases hc.mine k _ b hm (show Zay L k (.set E2 G1) b from q) with q | q
    ·omega
    ·exact hn (.inr q)
   ·rcases hU b q with q | q
    ·omega
    ·exact hn (.inr q)
 cases ex with
 | normal=>exact hq.elim fun σ' hq=>⟨σ',hq.1,back σ' hq.2⟩
 | exit id=>exact hq.elim fun σ' hq=>⟨σ',hq.1,back σ' hq.2⟩
 | ret=>exact hq.elim fun σ' hq=>⟨σ',hq.1,back σ' hq.2⟩
 | goto l=>exact hq
 | panic ch=>exact hq
 | outgrown=>exact hq
end
mutual
theorem Zmh:∀ t:Tm,sizeTm t<=Zak (Zae t)+1
 | .mk _ _ _ args=>by
  have:=ZkS args
  simp only [sizeTm,Zae,Zak,ZbY]
  omega
theorem ZkS:∀ ts:List Tm,sizeTms ts<=(Zac ts).length+Zag (Zac ts)
 | []=>by simp [sizeTms]
 | t::ts=>by
  have h1:=Zmh t
  have h2:=ZkS ts
  simp only [sizeTms,Zac,List.length_cons,Zag]
  omega
end
theorem Zgv {t:Tm} (h:Zak (Zae t)<=1048576):sizeTm t<=big:=by
 have:=Zmh t
 unfold big
 omega
theorem Zyn (a b:List C):Zak (a++b)=Zak a+Zak b:=by
 induction a with
 | nil=>simp [Zak]
 | cons x xs ih=>simp only [List.cons_append,Zak,ih];omega
theorem Ziv {r:List C}:∀ {rows:List (List C)},r∈rows->Zak r<=Zag rows
 | x::rs,h=>by
  simp only [Zag]
  rcases List.mem_cons.1 h with rfl | h
  ·omega
  ·have:=Ziv h;omega
theorem ZBE {row:List C} (hok:Zan (sigF) row) {left:Int} (h0:0<=left) (h1:left<=1048576):Con e0 9 [.agg row,.one (.lit (.int .i64 left))] [.one (.lit (.int .i64 (sub left (Zak row))))]:=by
 refine Zcx ZdJ (by kernel_rfl) fun w S vs h=>?_
 match vs,h with
 | [v,u],h =>
  obtain ⟨⟨us,rfl,hu⟩,h2,_⟩:=h
  have h2:u=.int .i64 left:=by simpa [DRel,Rep] using h2
  subst h2
  exact (Zkb row S us left w hok hu h0 h1).mono fun e w' ⟨h1,h2⟩=>⟨_,h1,h2,by simp [retA,ARel,DRel,Rep]⟩
theorem ZBF {row:List C} (hok:Zan (sigF) row) (hb:Zak row<=1048576):Con e0 12 [.agg row] [.agg row]:=by
 refine Zcx ZdJ (by kernel_rfl) fun w S vs h=>?_
 match vs,h with
 | [v],h =>
  obtain ⟨⟨us,rfl,hu⟩,_⟩:=h
  exact (Zkd row S us w hok hu hb).mono fun e w' ⟨us',h1,h2,h3⟩=>⟨_,h1,h3,us',rfl,Zah.rep row _ _ us' (fun x hx=>.inr hx) h2⟩
theorem ZBG {row:List C} (hok:Zan (sigF) row):Con e0 16 [.agg row,.agg row] [.one (.lit (.bool true))]:=by
 refine Zcx ZdJ (by kernel_rfl) fun w S vs h=>?_
 match vs,h with
 | [v,u],h =>
  obtain ⟨⟨us,rfl,hu⟩,⟨us',rfl,hu'⟩,_⟩:=h
  exact (Zkc row S S us us' w hok hu hu').mono fun e w' ⟨h1,h2⟩=>⟨_,h1,h2,by simp [retA,ARel,DRel,Rep]⟩
theorem ZDu {row:List C} (hok:Zan (Zab .term) row) {left:Int} (h0:0<=left) (h1:left<=1048576):Con e0 10 [.agg row,.one (.lit (.int .i64 left))] [.one (.lit (.int .i64 (sub left (Zak row))))]:=by
 refine Zcx ZdJ (by kernel_rfl) fun w S vs h=>?_
 match vs,h with
 | [v,u],h =>
  obtain ⟨⟨us,rfl,hu⟩,h2,_⟩:=h
  have h2:u=.int .i64 left:=by simpa [DRel,Rep] using h2
  subst h2
  exact (Zg3 row S us left w hok hu h0 h1).mono fun e w' ⟨h1,h2⟩=>⟨_,h1,h2,by simp [retA,ARel,DRel,Rep]⟩
theorem ZDv {row:List C} (hok:Zan (Zab .term) row) (hb:Zak row<=1048576):Con e0 14 [.agg row] [.agg row]:=by
 refine Zcx ZdJ (by kernel_rfl) fun w S vs h=>?_
 match vs,h with
 | [v],h =>
  obtain ⟨⟨us,rfl,hu⟩,_⟩:=h
  exact (Zg5 row S us w hok hu hb).mono fun e w' ⟨us',h1,h2,h3⟩=>⟨_,h1,h3,us',rfl,Zah.rep row _ _ us' (fun x hx=>.inr hx) h2⟩
theorem ZDw {row:List C} (hok:Zan (Zab .term) row):Con e0 18 [.agg row,.agg row] [.one (.lit (.bool true))]:=by
 refine Zcx ZdJ (by kernel_rfl) fun w S vs h=>?_
 match vs,h with
 | [v,u],h =>
  obtain ⟨⟨us,rfl,hu⟩,⟨us',rfl,hu'⟩,_⟩:=h
  exact (Zg4 row S S us us' w hok hu hu').mono fun e w' ⟨h1,h2⟩=>⟨_,h1,h2,by simp [retA,ARel,DRel,Rep]⟩
theorem ZCx {rows:List (List C)} (hok:Zaq (Zab .binding) rows) {left:Int} (h0:0<=left) (h1:left<=1048576):Con e0 19 [.one (.sl rows),.one (.lit (.int .i64 left))] [.one (.lit (.int .i64 (sub left (rows.length+Zag rows))))]:=by
 refine Zcx ZdJ (by kernel_rfl) fun w S vs h=>?_
 match vs,h with
 | [v,u],h =>
  obtain ⟨hv,h2,_⟩:=h
  have h2:u=.int .i64 left:=by simpa [DRel,Rep] using h2
  subst h2
  exact (Zli rows S v left w hok hv h0 h1).mono fun e w' ⟨h1,h2⟩=>⟨_,h1,h2,by simp [retA,ARel,DRel,Rep]⟩
theorem ZCy {rows:List (List C)} (hok:Zaq (Zab .binding) rows):Con e0 23 [.one (.sl rows),.one (.sl rows)] [.one (.lit (.bool true))]:=by
 refine Zcx ZdJ (by kernel_rfl) fun w S vs h=>?_
 match vs,h with
 | [v,u],h =>
  obtain ⟨hv,hu,_⟩:=h
  exact (Zlj rows S S v u w hok hv hu).mono fun e w' ⟨h1,h2⟩=>⟨_,h1,h2,by simp [retA,ARel,DRel,Rep]⟩
theorem ZCz {rows:List (List C)} (hok:Zaq (Zab .binding) rows) (hb:rows.length+Zag rows<=1048576):Con e0 21 [.one (.sl rows)] [.one (.sl rows)]:=by
 refine Zcx ZdJ (by kernel_rfl) fun w S vs h=>?_
 match vs,h with
 | [v],h =>
  obtain ⟨hv,_⟩:=h
  exact (Zlk rows S v w hok hv hb).mono fun e w' ⟨v',h1,h2,h3⟩=>⟨_,h1,h3,(Own.rep _ _ v' h2).mono fun b hb=>.inr hb⟩
end Go.Proofs.YtffmjghcpgpfpaaGreatDoor
